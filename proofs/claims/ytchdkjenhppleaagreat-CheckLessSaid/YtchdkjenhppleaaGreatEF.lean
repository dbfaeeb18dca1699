/-
 Edge:over,where tiles are right.
-/
import Derived.Test.YtchdkjenhppleaaGreatA0
import Derived.Test.YtchdkjenhppleaaGreatEE
namespace Go.Proofs.YtchdkjenhppleaaGreat
set_option linter.unusedSimpArgs false
set_option linter.unusedVariables false
set_option linter.unusedSectionVars false
set_option maxRecDepth 100000
set_option maxHeartbeats 40000000
section
open Go.RowKit Go.Shelf
attribute [local go_sem] Oper.semAt_some iB fS gP fH
theorem sY{ts:List fC}{l:List eW}(h:fE ts l=true):gS ts=true:=by
 simp_all[fE]
theorem vS{ts:List fC}{l:List eW}(h:fE ts l=true):fX l=true:=by
 simp_all[fE]
theorem AH{ts:List fC}{l:List eW}(h:fE ts l=true):kO l ts.length=true:=by
 simp_all[fE]
theorem IP{ts:List fC}{l:List eW}(h:fE ts l=true):l.length<=200:=by
 simp_all[fE]
theorem LS{P:Program}{Q:Exit->Act->World->Prop}{o:Oper}{K:Act->World->Prop}{a:Act}{w w':World}(t:TypeId)(m k x:Operand)(ho:o.op=.mapUpdate t m k x)
  (hrun:(Instr.mapUpdate t (a.eval m) (a.eval k) (a.eval x)).run P w=.ok () w') (h:K (a.put o.dst undef) w'):o.wp P a w K Q:=by
 unfold Oper.wp execOp
 simp only[ho,bu,hrun,Result.andThen,cY]
 exact h
theorem nu{w w2:World}{row:Option Nat}(h:w.drew.grownBy w2 row):w.grownBy w2 row:=⟨h.os,h.tape,h.output,h.size,h.block⟩
theorem iF{a b c:World}{row row':Option Nat}(h:a.grownBy b row)(k:b.grownBy c row')(hr:row'=row\/∀q,row'=some q->a.heap.size<=q):a.grownBy c row:=by
 refine⟨k.os.trans h.os,k.tape.trans h.tape,k.output.trans h.output,bP h.size k.size,λq hq hne=>?_⟩
 rw[k.block q (cZ hq h.size) ?_,h.block q hq hne]
 grind
theorem QB{a b:World}(h:Below a.heap.size a b)(row:Option Nat):a.grownBy b row:=⟨h.os,h.tape,h.output,h.size,λk hk _=>h.block k hk⟩
theorem pV(w:World)(g:Nat)(cs:Array Value):w.grownBy (w.setRow g cs) (some g):=⟨rfl,rfl,rfl,by simp,λk _ hne=>aY w g k cs (λe=>hne (by rw[e]))⟩
abbrev QW:Value:=.slice none 0 0
def MK(base M:Nat)(l:List eW)(k D:Nat)(d:List Int)(f:Int->Option Value)(W:World):Prop:=
 iT W M f/\(∀b:Nat,b<k->∃a c,f b=some (.slice a (inL l b).length c)/\fQ W base (.slice a (inL l b).length c) (inL l b)/\∀q,(Value.slice a (inL l b).length c).ownBlock=some q->q<D)/\
  (∀b:Nat,k<b->f b=none)/\fQ W D ((f k).getD QW) d/\M<base/\base<=D/\D<=W.heap.size
def MJ2(base M:Nat)(l:List eW)(k:Nat)(W:World):Prop:=
 ∃f,iT W M f/\(∀b:Nat,b<k->∃a c,f b=some (.slice a (inL l b).length c)/\fQ W base (.slice a (inL l b).length c) (inL l b))/\(∀b:Nat,k<=b->f b=none)/\M<base/\base<=W.heap.size
theorem MJ2.start{base M:Nat}{l:List eW}{k:Nat}{W:World}(h:MJ2 base M l k W):∃f,MK base M l k W.heap.size [] f W:=by
 obtain⟨f,h1,h2,h3,h4,h5⟩:=h
 refine⟨f,h1,λb hb=>?_,λb hb=>h3 b (by omega),?_,h4,h5,aw _⟩
 .obtain⟨a,c,e,ho⟩:=h2 b hb;exact⟨a,c,e,ho,λq hq=>(ho.1.lt q hq).2⟩
 simp_all[fQ.nil]
theorem MK.fin{base M:Nat}{l:List eW}{k D:Nat}{f:Int->Option Value}{W:World}(h:MK base M l k D (inL l k) f W)(hne:inL l k≠[]):MJ2 base M l (k+1) W:=by
 obtain⟨h1,h2,h3,h4,h5,h6,h7⟩:=h
 refine⟨f,h1,λb hb=>?_,λb hb=>h3 b (by omega),h5,by omega⟩
 by_cases e:b=k
 .subst e;cases e:f b with
  |none=>
   obtain⟨a,c,e2⟩:=h4.form
   grind
  |some v=>
   rw[e] at h4;obtain⟨a,c,e2⟩:=h4.form;subst e2;exact⟨a,c,rfl,h4.mono h6⟩
 .obtain⟨a,c,e2,ho,_⟩:=h2 b (by omega)
  grind
theorem MK.step{base M:Nat}{l:List eW}{k D:Nat}{d:List Int}{f:Int->Option Value}{W W':World}(h:MK base M l k D d f W)(x:Int)(hx:I64 x)(g cap:Nat)
  (hown:W'.ownsRow D 3 1 (.slice (some ⟨g,0,none⟩) (d.length+1) cap) (d.length+1) (eU d++ [.int .i64 x])) (hg:W.grownBy W' ((f k).getD QW).ownBlock) (o:Obj)
  (him:iT (W'.putObj M o) M (upd f k (.slice (some ⟨g,0,none⟩) (d.length+1) cap))) (hl:d.length<1000000):
  MK base M l k D (d++ [x]) (upd f k (.slice (some ⟨g,0,none⟩) (d.length+1) cap)) (W'.putObj M o):=by
 obtain⟨h1,h2,h3,h4,h5,h6,h7⟩:=h
 have hgp:=cG W' M o
 have hrow:∀q,((f k).getD QW).ownBlock=some q->D<=q:=λq hq=>(h4.1.lt q hq).1
 have hgD:D<=g:=(hown.lt g rfl).1
 refine⟨him,λb hb=>?_,λb hb=>?_,?_,h5,h6,?_⟩
 .obtain⟨a,c,e,ho,hq⟩:=h2 b hb;refine⟨a,c,?_,?_,hq⟩
  .simp only[upd]
   grind
  .refine(ho.kept hg ?_).kept hgp ?_
   .cases e1:(Value.slice a (inL l b).length c).ownBlock with
    |none=>simp
    |some q=>
     grind
   .cases e1:(Value.slice a (inL l b).length c).ownBlock with
    |none=>simp
    |some q=>
     refine .inr λe2=>?_;have:=(ho.1.lt q e1).1
     grind
 .simp only[upd]
  grind
 .have e:(upd f (k:Int) (.slice (some ⟨g,0,none⟩) (d.length+1) cap) (k:Int)).getD QW=.slice (some ⟨g,0,none⟩) (d.length+1) cap:=by simp[upd]
  rw[e];refine fQ.kept (w:=W') ⟨?_,?_,?_⟩ hgp (.inr λe=>?_)
  .grind[eU]
  .intro z hz;rcases bh.1 hz with hz|hz
   .exact h4.2.1 z hz
   .have:z=x:=by simpa using hz
    subst this;exact hx
  .simp;omega
  .simp only[Value.ownBlock,bv] at e;omega
 .have:=hg.size;have:=hgp.size;omega
def NFo(A M:Nat)(f:Int->Option Value)(W:World):Prop:=W.cell? ⟨A,2,none⟩=some (.map (some M))/\iT W M f
theorem NFo.ext{A M:Nat}{f:Int->Option Value}{W W':World}(h:NFo A M f W)(hb:Below W.heap.size W W'):NFo A M f W':=⟨eN hb h.1,h.2.ext hb⟩
theorem XH(pa:Option Addr)(pn pc:Nat)(ba:Option Addr)(bn bc:Nat)(bs:List jU)(a:Option Addr)(n c:Nat)(ls:List lI)(w:World)(h:iP w ba bn bs)(ht:jW w a n ls)(hT:zR (eM ls)<=1000000)(hr:fE (eZ bs) (eM ls)=true):
  Calls Tryz.prog 122 #[kF pa pn pc ba bn bc,.slice a n c] w (AU (eZ bs) (eM ls) bn a n c w):=by
 have H:=ac h
 have HT:=ac ht
 clear h ht
 go_enter Tryz.func122,Tryz.ntmps122
 go_upto_region 1 with (fail)
 obtain⟨W,hW⟩:∃W,W=(w.alloc (gH pa pn pc ba bn bc)).alloc (kH none 0 0 (.slice none 0 0) none):=⟨_,rfl⟩
 rw[<-hW]
 have hk0:W.heap[w.heap.size]? =some (gH pa pn pc ba bn bc):=by rw[hW];exact eB (eD _ _) (ai _ _)
 have hk1:W.heap[w.heap.size+1]? =some (kH none 0 0 (.slice none 0 0) none):=by rw[hW];have:=ai (w.alloc (gH pa pn pc ba bn bc)) (kH none 0 0 (.slice none 0 0) none);simpa using this
 have hB:Below w.heap.size w W:=by rw[hW];exact eA (eD _ _) (eD _ _)
 have HK:=ac hk0
 have HX:=ac hk1
 have HB:=ac hB
 clear hW hk0 hk1 hB
 have hf:=sY hr
 have HE:Hid (kG (eZ bs) (eM ls)=0):=by simp[Hid,kG,hf,hr]
 have hmm:= @run_makeMap Tryz.prog
 have HF:=ac hf
 have HR:=ac hr
 clear hf hr
 go_upto_region 6 with (first
  |(refine ay (o:=⟨some 8,.load 47 _,_,_,_,_⟩) rfl 47 _ rfl w.heap.size rfl 47 _ (0,0) _ HK.out bj rfl fY ?_)
  |(refine aU (o:=⟨none,.store 154 _ _,_,_,_,_⟩) rfl 154 _ _ rfl (w.heap.size+1) #[.slice a n c,.slice none 0 0,.map (some w3.heap.size)] rfl rfl 154 _ (eB (eD _ _) HX3.out) iD rfl (by simp[Value.oneCell']) ?_)
  |(go_at_call 152
    refine(EK pa pn pc ba bn bc bs a n c ls w2 (H.out.ext HB2.out) (HT.out.ext HB2.out) hT).mono ?_;rintro e w3 ⟨rfl,hb⟩;rw[HR.out];have HK3:=ac (eB hb HK2.out);have HX3:=ac (eB hb HX2.out);have HB3:=ac (eA HB2.out hb)
    clear hb)
  |(refine ay (o:=⟨some 12,.load 47 _,_,_,_,_⟩) rfl 47 _ rfl w.heap.size rfl 47 _ (0,0) _ HK2.out bj rfl fY ?_)
  |(go_at_call 84
    refine(sE pa pn pc ba bn bc bs W (H.out.ext HB.out)).mono ?_;rintro e w2 ⟨rfl,hb⟩;rw[HF.out];have HK2:=ac (eB hb HK.out);have HX2:=ac (eB hb HX.out);have HB2:=ac (eA HB.out hb)
    clear hb))
 obtain⟨W5,hW5⟩:∃W5,W5=(w3.alloc (.map #[] 0)).setRow (w.heap.size+1) #[.slice a n c,.slice none 0 0,.map (some w3.heap.size)]:=⟨_,rfl⟩
 rw[<-hW5]
 have hA3:w.heap.size+1<w3.heap.size:=(am.1 HX3.out).1
 have hk5:W5.heap[w.heap.size]? =some (gH pa pn pc ba bn bc):=by rw[hW5,aY _ _ _ _ (by omega)];exact eB (eD _ _) HK3.out
 have hx5:W5.heap[w.heap.size+1]? =some (kH a n c (.slice none 0 0) (some w3.heap.size)):=by rw[hW5];exact aG _ _ _ _ _ _ (eB (eD _ _) HX3.out)
 have hm5:iT W5 w3.heap.size (λ_=>none):=by rw[hW5];exact(iT.made w3).of_block (aY _ _ _ _ (by omega))
 have hB5:Below w.heap.size w W5:=by rw[hW5];exact aA (eA HB3.out (eD _ _)) (by omega) _
 have hs5:w3.heap.size<W5.heap.size:=hm5.lt
 generalize w3.heap.size=M at*
 have HK5:=ac hk5
 have HX5:=ac hx5
 have HM5:=ac hm5
 have HB5:=ac hB5
 clear hW5 hk5 hx5 hm5 hB5 HK3 HX3 HB3 HK2 HX2 HB2 HK HX HB
 go_upto_region 7 with (first
  |(refine ay (o:=⟨some 21,.load 47 _,_,_,_,_⟩) rfl 47 _ rfl w.heap.size rfl 47 _ (0,0) _ HK5.out bj rfl fY ?_)
  |(go_at_call 153
    refine(ft pa pn pc ba bn bc bs a n c ls W5 (H.out.ext HB5.out) (HT.out.ext HB5.out)).mono ?_;rintro e w6 ⟨v,en,rfl,hb6,_,_,h3⟩;obtain⟨rfl,g,cc,rfl,ho⟩:=h3 HF.out (by have:=AH HR.out;rw[show(eZ bs).length=bn by rw[kQ];exact H.out.1.1] at this;exact this);have hx6:=eB hb6 HX5.out;obtain⟨x1,f1⟩:=cz 1 hx6 rfl;have hg5:W5.heap.size<=g:=(ho.1.lt g rfl).1;have HX6:=ac hx6;have HM6:=ac (HM5.out.ext hb6);have HB6:=ac (eA HB5.out hb6);have HO6:=ac ho
    clear hb6 hx6 ho h3))
 obtain⟨W7,hW7⟩:∃W7,W7=w6.setCell ⟨w.heap.size+1,1,none⟩ (.slice (some ⟨g,0,none⟩) bn cc):=⟨_,rfl⟩
 rw[<-hW7]
 have hx7:W7.heap[w.heap.size+1]? =some (kH a n c (.slice (some ⟨g,0,none⟩) bn cc) (some M)):=by
  rw[hW7];have:=aO w6 (w.heap.size+1) 1 _ _ (.slice (some ⟨g,0,none⟩) bn cc) HX6.out;simpa using this
 have hm7:iT W7 M (λ_=>none):=by rw[hW7];exact HM6.out.setCell _ _
 have hB7:Below w.heap.size w W7:=by rw[hW7];exact HB6.out.setCell (Nat.le_succ _) _
 have ho7:fQ W7 W5.heap.size (.slice (some ⟨g,0,none⟩) bn cc) (wA (eM ls) bn):=by
  rw[hW7];exact HO6.out.kept (fL w6 (w.heap.size+1) 1 _) (.inr (by simp[Value.ownBlock];omega))
 have hJ7:MJ2 W7.heap.size M (eM ls) 0 W7:=⟨_,hm7,λb hb=>absurd hb (by omega),λ_ _=>rfl,hm7.lt,aw _⟩
 have hx71:=cK 1 hx7 rfl
 have hMg:M≠g:=by omega
 have HX7:=ac hx7
 have HO7:=ac ho7
 have HB7:=ac hB7
 have HJ7:=ac hJ7
 have HG5:=ac hg5
 have HPAR:=ac (vS HR.out)
 have HLN:Hid ((eM ls).length=n):=by rw[Hid,iV];exact HT.out.1.1
 have hbn:(eZ bs).length=bn:=by rw[kQ];exact H.out.1.1
 have hbn2:bn<=200:=by rw[<-hbn];exact((jP _).1 (pY HF.out)).1.2
 have hn2:n<=200:=by rw[<-HLN.out];exact IP HR.out
 have HOW:Hid (kO (eM ls) bn=true):=by have:=AH HR.out;rw[hbn] at this;exact this
 clear hW7 hx7 hm7 hB7 ho7 hJ7 HX6 HM6 HB6 HO6 hbn hg5 x1 f1
 go_wp2
 go_loopw [6,7,30] (λ_ _ i wr=>∃k:Nat,i=.int .i64 k/\k<=bn/\Hid (W7.grownBy wr (some M))/\Hid (MJ2 W7.heap.size M (eM ls) k wr)) (λ_ _ i _=>bn-(intOf i).toNat)
 case atStart=>exact⟨0,rfl,by omega,oN _ _,HJ7⟩
 case round=>
  obtain⟨k,rfl,hk,HGR,HJ⟩:=hrel;clear HJ7 hx71;by_cases hlt:k<bn
  .have hor:fQ wr W5.heap.size (.slice (some ⟨g,0,none⟩) bn cc) (wA (eM ls) bn):=HO7.out.kept HGR.out (.inr (by simp[Value.ownBlock];exact λe=>hMg e.symm));obtain⟨b0,o0,e0,hck,_⟩:=hor.ints.2.2 k hlt;injection e0 with e0;injection e0 with e1 e2;subst e1 e2;have hv:(wA (eM ls) bn).getD k 0=(nP (eM ls) k:Int):=by
    have:(List.range bn)[k]? =some k:=by rw[dO hlt]
    simp[wA,ax,this]
   rw[hv,aW] at hck;have hlt':(k:Int)<(bn:Int):=by omega
   have how:=RH HOW.out hlt;rw[HLN.out] at how;have HIN:Hid (inL (eM ls) k= []++nS (eM ls) (nP (eM ls) k:Int)):=by simp[Hid,inL]
   have HLEN:Hid ((inL (eM ls) k).length<=200):=by
    have:=KY HPAR.out (k:Int) (by simpa using (by rw[HLN.out];exact how));rw[HLN.out] at this;rw[Hid];omega
   have HNE:Hid (inL (eM ls) k≠[]):=by
    rw[Hid,inL,d8,rH HPAR.out (by omega) (by rw[HLN.out];omega)];simp
   have HST:=ac HJ.out.start;clear hor hv HJ;generalize nP (eM ls) k=q0 at *;go_wp2;obtain⟨wo,rfl⟩:∃wo:World,wo=wr:=⟨_,rfl⟩
   go_loopw [7] (λkk wi=>∃(x:Int) (d:List Int),kk=.int .i64 x/\-1<=x/\x<n/\Hid (inL (eM ls) k=d++nS (eM ls) x)/\Hid (∃f,MK W7.heap.size M (eM ls) k wo.heap.size d f wi)/\Hid (wo.grownBy wi (some M))) (λkk _=>(intOf kk+1).toNat)
   case atStart=>exact⟨(q0:Int),[],rfl,by omega,by omega,HIN,HST,oN _ _⟩
   case round=>
    obtain⟨x,d,rfl,hx0,hxn,HC,HMK,HGI⟩:=hrel;by_cases hneg:x<0
    .obtain rfl:x= -1:=by omega
     have HD:Hid (inL (eM ls) k=d):=by have:=HC.out;rw[xB _ (by omega),dR] at this;exact this
     have HJ2:Hid (MJ2 W7.heap.size M (eM ls) (k+1) wr):=by
      obtain⟨f,hf⟩:=HMK.out;rw[<-HD.out] at hf;exact hf.fin HNE.out
     have HG2:=ac (iF HGR.out HGI.out (.inl rfl));clear HMK HC HD;go_wp2
     go_roundw
     case rel=>exact⟨k+1,by go_num,by omega,HG2,HJ2⟩
     case measure=>simp[intOf];omega
    .obtain⟨y,rfl⟩:∃y:Nat,x=y:=⟨x.toNat,by omega⟩
     obtain⟨f,hmk⟩:=HMK.out;have hyn:y<n:=by omega
     obtain⟨t,b,o,hlk,⟨hI,hcap,hI1,hI2⟩,rfl,c0,c1,c2⟩:=HT.out.cells hyn;have htd:=qX ls y t hlk;have hpar:=(gM _).1 HPAR.out y (by rw[HLN.out];exact hyn);have hcs:=HC.out;rw[rH HPAR.out (by omega) (by rw[HLN.out];omega),d8] at hcs;rw[nB,htd] at hpar hcs;have HCS:Hid (inL (eM ls) k=(d++ [(y:Int)])++nS (eM ls) t.d.parent):=by rw[Hid,hcs];simp
     have hdl:d.length<=200:=by have:=HLEN.out;rw[hcs,aT] at this;omega
     have hB9:Below w.heap.size w wr:=HB7.out.grown (iF HGR.out HGI.out (.inl rfl)) HB7.out.size (λq e=>by injection e with e;omega);have hx9:wr.heap[w.heap.size+1]? =some (kH (some ⟨b,o,none⟩) n c (.slice (some ⟨g,0,none⟩) bn cc) (some M)):=((iF HGR.out HGI.out (.inl rfl)).block _ (am.1 HX7.out).1 (λe=>by injection e with e;omega)).trans HX7.out;have hnf:NFo (w.heap.size+1) M f wr:=⟨cR hx9 rfl,hmk.1⟩
     have HF9:=ac hnf;have HMK9:=ac hmk;have HB9:=ac hB9;have C1:=ac c1;have hy0:¬(y:Int)<0:=by omega
     have hy1:(0:Int)<=(y:Int):=by omega
     have hpr1:=hpar.1;have hpr2:=hpar.2;clear hmk hnf hx9 hB9 hcs hpar c0 c1 c2 hlk hI hcap hI1 hI2 HMK HC hneg;go_wp2;refine gJ (λw'=>∃n:fP (NFo (w.heap.size+1) M f),w'=n.val) [(0,8,some (8,true)),(9,0,some (9,true)),(10,0,some (10,false))] (by kernel_rfl) (by kernel_rfl) (mN (HF9.out.ext (eS (ao _ _) 1))) ?_;simp only[lR,ak,aq,aj,ap];have hne:Nonempty (fP (NFo (w.heap.size+1) M f)):=KK HF9.out;have g1:∀n:fP (NFo (w.heap.size+1) M f),n.val.cell? ⟨w.heap.size+1,2,none⟩=some (.map (some M)):=λn=>n.prop.1
     have g4:∀n:fP (NFo (w.heap.size+1) M f),(Instr.lookup 152 (.map (some M)) (.int .i64 (k:Int)) false).run Tryz.prog n.val=.ok ((f k).getD QW) n.val:=
      λn=>iT.look n.prop.2 Tryz.underlying152 aP (AC _) k
     repeat (go_big_quiet_step (fail))
     refine ar ?_;clear g1 g4 hne;refine eE rfl rfl ?_;go_simp;refine⟨mN (HF9.out.ext (eS (eD _ _) 1)),?_⟩;refine ar ?_;refine eE rfl rfl ?_;refine wW wr.drew (.tmp 48) (.tmp 50) 22 3 rfl wo.heap.size _ 1 8 aQ tP rfl (by omega) ((f k).getD QW) d.length (eU d) [.int .i64 (y:Int)] rfl HMK9.out.2.2.2.1.1 wr.heap.size rfl rfl rfl (by simp[Value.oneCell']) (by simp only[maxLen];omega) (by omega) HMK9.out.2.2.2.2.2.2 ?_;intro gg cap w8 hown8 hg8 hat8;have hg8:=nu hg8;have hMb:=HMK9.out.2.2.2.2.1;have hbD:=HMK9.out.2.2.2.2.2.1;have hrow:∀q,((f k).getD QW).ownBlock=some q->wo.heap.size<=q:=λq hq=>(HMK9.out.2.2.2.1.1.lt q hq).1;have hA9:w.heap.size+1<wr.heap.size:=aF _ _ HF9.out.1;have hAM:w.heap.size+1<M:=by omega
     have hm8:iT w8 M f:=HMK9.out.1.grown hg8 (λe=>by have:=hrow M e.symm;omega);have hx8:w8.cell? ⟨w.heap.size+1,2,none⟩=some (.map (some M)):=(AS (hg8.block _ hA9 (λe=>by have:=hrow _ e.symm;omega))).trans HF9.out.1;refine⟨mN ⟨hx8,hm8⟩,?_⟩;refine ar ?_;refine eE rfl rfl ?_;obtain⟨o2,hrun,him⟩:=hm8.put (P:=Tryz.prog) Tryz.underlying152 aP (k:Int) (.slice (some ⟨gg,0,none⟩) (d.length+1) cap);refine LS 152 (.tmp 43) (.tmp 44) (.tmp 51) rfl hrun ?_;have HMKN:=ac (HMK9.out.step (y:Int) (by unfold I64;omega) gg cap hown8 hg8 o2 him (by omega));have HGN:=ac (iF (iF HGI.out hg8 (.inr hrow)) (cG w8 M o2) (.inl rfl));have HBN:Hid (Below w.heap.size w (w8.putObj M o2)):=HB7.out.grown (iF HGR.out HGN.out (.inl rfl)) HB7.out.size (λq e=>by injection e with e;omega);clear hrun him hx8 hm8 hat8 hg8 hown8 hrow hA9 HMK9 HF9;generalize w8.putObj M o2=w9 at *;have c1:=eN HBN.out C1.out;refine bQ ?_;simp only[Act.put,ae,ah,ag];go_wp2
     go_roundw
     case rel=>exact⟨t.d.parent,d++ [(y:Int)],rfl,hpr1,by omega,HCS,⟨_,HMKN.out⟩,HGN⟩
     case measure=>simp[intOf];omega
  .obtain rfl:k=bn:=by omega
   have hxr:wr.heap[w.heap.size+1]? =some (kH a n c (.slice (some ⟨g,0,none⟩) k cc) (some M)):=(HGR.out.block _ (am.1 HX7.out).1 (λe=>by injection e with e;omega)).trans HX7.out;have HXR:=ac hxr;have hBr:Below w.heap.size w wr:=HB7.out.grown HGR.out HB7.out.size (λq e=>by injection e with e;omega);have HBR:=ac hBr;have HOR:=ac (HO7.out.kept HGR.out (.inr (by simp[Value.ownBlock];exact λe=>hMg e.symm)));clear hxr hBr
   go_wp2_with (first
    |(refine ay (o:=⟨some 53,.load 154 _,_,_,_,_⟩) rfl 154 _ rfl (w.heap.size+1) rfl 154 _ (0,0) _ HXR.out cX rfl iD ?_)
    |(refine aU (o:=⟨none,.store 154 _ _,_,_,_,_⟩) rfl 154 _ _ rfl (w.heap.size+1) #[.slice a n c,.slice (some ⟨g,0,none⟩) k cc,.map (some M)] rfl rfl 154 _ HXR.out iD rfl (by simp[Value.oneCell']) ?_))
   have hl:=cd (P:=Tryz.prog) _ (w.heap.size+1) 154 154 _ (0,0) _ (aG _ _ _ #[.slice a n c,.slice (some ⟨g,0,none⟩) k cc,.map (some M)] _ _ HXR.out) cX rfl iD;refine aD (v:=.tuple #[.agg #[.slice a n c,.slice (some ⟨g,0,none⟩) k cc,.map (some M)],.int .i64 0]) ?_ rfl ⟨_,by rw[HE.out],rfl,by simp[Value.oneCell'],aA HBR.out (by omega) _,λh=>(by rw[HR.out] at h;cases h),λ_=>⟨g,cc,M,rfl,?_,by have:=HG5.out;have:=HJ.out.choose_spec.2.2.2.1;omega,?_⟩⟩
   .simp[results,Tryz.results122,asAddr,Act.put,hl]
   .exact(HOR.out.kept (pV wr (w.heap.size+1) _) (.inr (by simp[Value.ownBlock];have:=HG5.out;omega))).ints
   .obtain⟨f,h1,h2,_,h4,_⟩:=HJ.out;refine⟨f,h1.grown (pV wr (w.heap.size+1) _) (by simp;omega),by omega,λb hb=>?_⟩;obtain⟨av,cv,e,ho⟩:=h2 b hb;refine⟨av,cv,e,(ho.kept (pV wr (w.heap.size+1) _) ?_).ints,λq o e=>by have:=Far.own ho q o e;omega⟩;cases e1:(Value.slice av (inL (eM ls) b).length cv).ownBlock with
    |none=>exact .inl rfl
    |some q=>
     refine .inr λe2=>?_;injection e2 with e2;have:=(ho.1.lt q e1).1;omega
theorem IV(pa:Option Addr)(pn pc:Nat)(ba:Option Addr)(bn bc:Nat)(bs:List jU)(a:Option Addr)(n c:Nat)(ls:List lI)(w:World)(h:iP w ba bn bs)(ht:jW w a n ls)(hT:zR (eM ls)<=1000000):
  Calls Tryz.prog 122 #[kF pa pn pc ba bn bc,.slice a n c] w (AU (eZ bs) (eM ls) bn a n c w):=by
 cases hr:fE (eZ bs) (eM ls) with
 |false=>exact ib pa pn pc ba bn bc bs a n c ls w h ht hT hr
 |true=>exact XH pa pn pc ba bn bc bs a n c ls w h ht hT hr
end
end Go.Proofs.YtchdkjenhppleaaGreat
