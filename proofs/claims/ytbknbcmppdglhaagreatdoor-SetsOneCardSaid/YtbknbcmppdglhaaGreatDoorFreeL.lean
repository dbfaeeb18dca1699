/-
 Edge:over,where tiles are right.
-/
import Derived.Test.YtbknbcmppdglhaaGreatDoorA0
import Derived.Test.YtbknbcmppdglhaaGreatDoorEE
import Derived.Test.YtbknbcmppdglhaaGreatDoorSortI
import Derived.Test.YtbknbcmppdglhaaGreatDoorTH
namespace Go.Proofs.YtbknbcmppdglhaaGreatDoor
set_option linter.unusedSimpArgs false
set_option linter.unusedVariables false
set_option linter.unusedSectionVars false
set_option maxRecDepth 100000
set_option maxHeartbeats 40000000
section
open Go.RowKit Go.Shelf
attribute [local go_sem] Oper.semAt_some iF gH gS fX
theorem uG{ts:List fS}{l:List fT}(h:gY ts l=true):jK ts=true:=by
 simp_all[gY]
theorem BK{ts:List fS}{l:List fT}(h:gY ts l=true):jE l=true:=by
 simp_all[gY]
theorem AL{ts:List fS}{l:List fT}(h:gY ts l=true):uN l ts.length=true:=by
 simp_all[gY]
theorem OE{ts:List fS}{l:List fT}(h:gY ts l=true):l.length<=200:=by
 simp_all[gY]
theorem SN{P:Program}{Q:Exit->Act->World->Prop}{o:Oper}{K:Act->World->Prop}{a:Act}{w w':World}(t:TypeId)(m k x:Operand)(ho:o.op=.mapUpdate t m k x)
  (hrun:(Instr.mapUpdate t (a.eval m) (a.eval k) (a.eval x)).run P w=.ok () w') (h:K (a.put o.dst undef) w'):o.wp P a w K Q:=by
 unfold Oper.wp execOp
 simp only[ho,b7,hrun,Result.andThen,dw]
 exact h
theorem Bx{w w2:World}{row:Option Nat}(h:w.drew.grownBy w2 row):w.grownBy w2 row:=⟨h.os,h.tape,h.output,h.size,h.block⟩
theorem lG{a b c:World}{row row':Option Nat}(h:a.grownBy b row)(k:b.grownBy c row')(hr:row'=row\/∀q,row'=some q->a.heap.size<=q):a.grownBy c row:=by
 refine⟨k.os.trans h.os,k.tape.trans h.tape,k.output.trans h.output,aT h.size k.size,λq hq hne=>?_⟩
 rw[k.block q (bw hq h.size) ?_,h.block q hq hne]
 grind
theorem XV{a b:World}(h:Below a.heap.size a b)(row:Option Nat):a.grownBy b row:=⟨h.os,h.tape,h.output,h.size,λk hk _=>h.block k hk⟩
theorem tP(w:World)(g:Nat)(cs:Array Value):w.grownBy (w.setRow g cs) (some g):=⟨rfl,rfl,rfl,by simp,λk _ hne=>cC w g k cs (λe=>hne (by rw[e]))⟩
abbrev YU:Value:=.slice none 0 0
def MK(base M:Nat)(l:List fT)(k D:Nat)(d:List Int)(f:Int->Option Value)(W:World):Prop:=
 oC W M f/\(∀b:Nat,b<k->∃a c,f b=some (.slice a (inL l b).length c)/\gD W base (.slice a (inL l b).length c) (inL l b)/\∀q,(Value.slice a (inL l b).length c).ownBlock=some q->q<D)/\
  (∀b:Nat,k<b->f b=none)/\gD W D ((f k).getD YU) d/\M<base/\base<=D/\D<=W.heap.size
def MJ2(base M:Nat)(l:List fT)(k:Nat)(W:World):Prop:=
 ∃f,oC W M f/\(∀b:Nat,b<k->∃a c,f b=some (.slice a (inL l b).length c)/\gD W base (.slice a (inL l b).length c) (inL l b))/\(∀b:Nat,k<=b->f b=none)/\M<base/\base<=W.heap.size
theorem MJ2.start{base M:Nat}{l:List fT}{k:Nat}{W:World}(h:MJ2 base M l k W):∃f,MK base M l k W.heap.size [] f W:=by
 obtain⟨f,h1,h2,h3,h4,h5⟩:=h
 refine⟨f,h1,λb hb=>?_,λb hb=>h3 b (by omega),?_,h4,h5,aj _⟩
 .obtain⟨a,c,e,ho⟩:=h2 b hb;exact⟨a,c,e,ho,λq hq=>(ho.1.lt q hq).2⟩
 simp_all[gD.nil]
theorem MK.fin{base M:Nat}{l:List fT}{k D:Nat}{f:Int->Option Value}{W:World}(h:MK base M l k D (inL l k) f W)(hne:inL l k≠[]):MJ2 base M l (k+1) W:=by
 obtain⟨h1,h2,h3,h4,h5,h6,h7⟩:=h
 refine⟨f,h1,λb hb=>?_,λb hb=>h3 b (by omega),h5,by omega⟩
 by_cases e:b=k
 .subst e;cases e:f b with
  |none=>
   obtain⟨a,c,e2⟩:=h4.form
   grind
  |some v=>
   rw[e] at h4;obtain⟨a,c,e2⟩:=h4.form;subst e2;exact⟨a,c,rfl,h4.mono h6⟩
 .obtain⟨a,c,e2,ho,_⟩:=h2 b (by omega)
  grind
theorem MK.step{base M:Nat}{l:List fT}{k D:Nat}{d:List Int}{f:Int->Option Value}{W W':World}(h:MK base M l k D d f W)(x:Int)(hx:I64 x)(g cap:Nat)
  (hown:W'.ownsRow D 3 1 (.slice (some ⟨g,0,none⟩) (d.length+1) cap) (d.length+1) (fP d++ [.int .i64 x])) (hg:W.grownBy W' ((f k).getD YU).ownBlock) (o:Obj)
  (him:oC (W'.putObj M o) M (upd f k (.slice (some ⟨g,0,none⟩) (d.length+1) cap))) (hl:d.length<1000000):
  MK base M l k D (d++ [x]) (upd f k (.slice (some ⟨g,0,none⟩) (d.length+1) cap)) (W'.putObj M o):=by
 obtain⟨h1,h2,h3,h4,h5,h6,h7⟩:=h
 have hgp:=dJ W' M o
 have hrow:∀q,((f k).getD YU).ownBlock=some q->D<=q:=λq hq=>(h4.1.lt q hq).1
 have hgD:D<=g:=(hown.lt g rfl).1
 refine⟨him,λb hb=>?_,λb hb=>?_,?_,h5,h6,?_⟩
 .obtain⟨a,c,e,ho,hq⟩:=h2 b hb;refine⟨a,c,?_,?_,hq⟩
  .simp only[upd]
   grind
  .refine(ho.kept hg ?_).kept hgp ?_
   .cases e1:(Value.slice a (inL l b).length c).ownBlock with
    |none=>simp
    |some q=>
     grind
   .cases e1:(Value.slice a (inL l b).length c).ownBlock with
    |none=>simp
    |some q=>
     refine .inr λe2=>?_;have:=(ho.1.lt q e1).1
     grind
 .simp only[upd]
  grind
 .have e:(upd f (k:Int) (.slice (some ⟨g,0,none⟩) (d.length+1) cap) (k:Int)).getD YU=.slice (some ⟨g,0,none⟩) (d.length+1) cap:=by simp[upd]
  rw[e];refine gD.kept (w:=W') ⟨?_,?_,?_⟩ hgp (.inr λe=>?_)
  .grind[fP]
  .intro z hz;rcases ax.1 hz with hz|hz
   .exact h4.2.1 z hz
   .have:z=x:=by simpa using hz
    subst this;exact hx
  .simp;omega
  .simp only[Value.ownBlock,aW] at e;omega
 .have:=hg.size;have:=hgp.size;omega
def NFo(A M:Nat)(f:Int->Option Value)(W:World):Prop:=W.cell? ⟨A,2,none⟩=some (.map (some M))/\oC W M f
theorem NFo.ext{A M:Nat}{f:Int->Option Value}{W W':World}(h:NFo A M f W)(hb:Below W.heap.size W W'):NFo A M f W':=⟨fZ hb h.1,h.2.ext hb⟩
theorem pk(pa:Option Addr)(pn pc:Nat)(ba:Option Addr)(bn bc:Nat)(bs:List nA)(a:Option Addr)(n c:Nat)(ls:List iN)(w:World)(h:lZ w ba bn bs)(ht:iY w a n ls)(hT:qY (fI ls)<=1000000)(hr:gY (fY bs) (fI ls)=true):
  Calls Tryz.prog 235 #[mB pa pn pc ba bn bc,.slice a n c] w (FO (fY bs) (fI ls) bn a n c w):=by
 have H:=ac h
 have HT:=ac ht
 clear h ht
 go_enter Tryz.func235,Tryz.ntmps235
 go_upto_region 1 with (fail)
 obtain⟨W,hW⟩:∃W,W=(w.alloc (gX pa pn pc ba bn bc)).alloc (nP none 0 0 (.slice none 0 0) none):=⟨_,rfl⟩
 rw[<-hW]
 have hk0:W.heap[w.heap.size]? =some (gX pa pn pc ba bn bc):=by rw[hW];exact fB (fD _ _) (ae _ _)
 have hk1:W.heap[w.heap.size+1]? =some (nP none 0 0 (.slice none 0 0) none):=by rw[hW];have:=ae (w.alloc (gX pa pn pc ba bn bc)) (nP none 0 0 (.slice none 0 0) none);simpa using this
 have hB:Below w.heap.size w W:=by rw[hW];exact fC (fD _ _) (fD _ _)
 have HK:=ac hk0
 have HX:=ac hk1
 have HB:=ac hB
 clear hW hk0 hk1 hB
 have hf:=uG hr
 have HE:Hid (nO (fY bs) (fI ls)=0):=by simp[Hid,nO,hf,hr]
 have hmm:= @run_makeMap Tryz.prog
 have HF:=ac hf
 have HR:=ac hr
 clear hf hr
 go_upto_region 6 with (first
  |(refine ay (o:=⟨some 8,.load 25 _,_,_,_,_⟩) rfl 25 _ rfl w.heap.size rfl 25 _ (0,0) _ HK.out aJ rfl gE ?_)
  |(refine aP (o:=⟨none,.store 328 _ _,_,_,_,_⟩) rfl 328 _ _ rfl (w.heap.size+1) #[.slice a n c,.slice none 0 0,.map (some w3.heap.size)] rfl rfl 328 _ (fB (fD _ _) HX3.out) lE rfl (by simp[Value.oneCell']) ?_)
  |(go_at_call 25
    refine(sA pa pn pc ba bn bc bs a n c ls w2 (H.out.ext HB2.out) (HT.out.ext HB2.out) hT).mono ?_;rintro e w3 ⟨rfl,hb⟩;rw[HR.out];have HK3:=ac (fB hb HK2.out);have HX3:=ac (fB hb HX2.out);have HB3:=ac (fC HB2.out hb)
    clear hb)
  |(refine ay (o:=⟨some 12,.load 25 _,_,_,_,_⟩) rfl 25 _ rfl w.heap.size rfl 25 _ (0,0) _ HK2.out aJ rfl gE ?_)
  |(go_at_call 266
    refine(EO pa pn pc ba bn bc bs W (H.out.ext HB.out)).mono ?_;rintro e w2 ⟨rfl,hb⟩;rw[HF.out];have HK2:=ac (fB hb HK.out);have HX2:=ac (fB hb HX.out);have HB2:=ac (fC HB.out hb)
    clear hb))
 obtain⟨W5,hW5⟩:∃W5,W5=(w3.alloc (.map #[] 0)).setRow (w.heap.size+1) #[.slice a n c,.slice none 0 0,.map (some w3.heap.size)]:=⟨_,rfl⟩
 rw[<-hW5]
 have hA3:w.heap.size+1<w3.heap.size:=(au.1 HX3.out).1
 have hk5:W5.heap[w.heap.size]? =some (gX pa pn pc ba bn bc):=by rw[hW5,cC _ _ _ _ (by omega)];exact fB (fD _ _) HK3.out
 have hx5:W5.heap[w.heap.size+1]? =some (nP a n c (.slice none 0 0) (some w3.heap.size)):=by rw[hW5];exact bt _ _ _ _ _ _ (fB (fD _ _) HX3.out)
 have hm5:oC W5 w3.heap.size (λ_=>none):=by rw[hW5];exact(oC.made w3).of_block (cC _ _ _ _ (by omega))
 have hB5:Below w.heap.size w W5:=by rw[hW5];exact aX (fC HB3.out (fD _ _)) (by omega) _
 have hs5:w3.heap.size<W5.heap.size:=hm5.lt
 generalize w3.heap.size=M at*
 have HK5:=ac hk5
 have HX5:=ac hx5
 have HM5:=ac hm5
 have HB5:=ac hB5
 clear hW5 hk5 hx5 hm5 hB5 HK3 HX3 HB3 HK2 HX2 HB2 HK HX HB
 go_upto_region 7 with (first
  |(refine ay (o:=⟨some 21,.load 25 _,_,_,_,_⟩) rfl 25 _ rfl w.heap.size rfl 25 _ (0,0) _ HK5.out aJ rfl gE ?_)
  |(go_at_call 267
    refine(tu pa pn pc ba bn bc bs a n c ls W5 (H.out.ext HB5.out) (HT.out.ext HB5.out)).mono ?_;rintro e w6 ⟨v,en,rfl,hb6,_,_,h3⟩;obtain⟨rfl,g,cc,rfl,ho⟩:=h3 HF.out (by have:=AL HR.out;rw[show(fY bs).length=bn by rw[lA];exact H.out.1.1] at this;exact this);have hx6:=fB hb6 HX5.out;obtain⟨x1,f1⟩:=cz 1 hx6 rfl;have hg5:W5.heap.size<=g:=(ho.1.lt g rfl).1;have HX6:=ac hx6;have HM6:=ac (HM5.out.ext hb6);have HB6:=ac (fC HB5.out hb6);have HO6:=ac ho
    clear hb6 hx6 ho h3))
 obtain⟨W7,hW7⟩:∃W7,W7=w6.setCell ⟨w.heap.size+1,1,none⟩ (.slice (some ⟨g,0,none⟩) bn cc):=⟨_,rfl⟩
 rw[<-hW7]
 have hx7:W7.heap[w.heap.size+1]? =some (nP a n c (.slice (some ⟨g,0,none⟩) bn cc) (some M)):=by
  rw[hW7];have:=aC w6 (w.heap.size+1) 1 _ _ (.slice (some ⟨g,0,none⟩) bn cc) HX6.out;simpa using this
 have hm7:oC W7 M (λ_=>none):=by rw[hW7];exact HM6.out.setCell _ _
 have hB7:Below w.heap.size w W7:=by rw[hW7];exact HB6.out.setCell (bY _) _
 have ho7:gD W7 W5.heap.size (.slice (some ⟨g,0,none⟩) bn cc) (yJ (fI ls) bn):=by
  rw[hW7];exact HO6.out.kept (fU w6 (w.heap.size+1) 1 _) (.inr (by simp[Value.ownBlock];omega))
 have hJ7:MJ2 W7.heap.size M (fI ls) 0 W7:=⟨_,hm7,λb hb=>absurd hb (by omega),λ_ _=>rfl,hm7.lt,aj _⟩
 have hx71:=cK 1 hx7 rfl
 have hMg:M≠g:=by omega
 have HX7:=ac hx7
 have HO7:=ac ho7
 have HB7:=ac hB7
 have HJ7:=ac hJ7
 have HG5:=ac hg5
 have HPAR:=ac (BK HR.out)
 have HLN:Hid ((fI ls).length=n):=by rw[Hid,mC];exact HT.out.1.1
 have hbn:(fY bs).length=bn:=by rw[lA];exact H.out.1.1
 have hbn2:bn<=200:=by rw[<-hbn];exact((lO _).1 (wR HF.out)).1.2
 have hn2:n<=200:=by rw[<-HLN.out];exact OE HR.out
 have HOW:Hid (uN (fI ls) bn=true):=by have:=AL HR.out;rw[hbn] at this;exact this
 clear hW7 hx7 hm7 hB7 ho7 hJ7 HX6 HM6 HB6 HO6 hbn hg5 x1 f1
 go_wp2
 go_loopw [6,7,30] (λ_ _ i wr=>∃k:Nat,i=.int .i64 k/\k<=bn/\Hid (W7.grownBy wr (some M))/\Hid (MJ2 W7.heap.size M (fI ls) k wr)) (λ_ _ i _=>bn-(intOf i).toNat)
 case atStart=>exact⟨0,rfl,by omega,sF _ _,HJ7⟩
 case round=>
  obtain⟨k,rfl,hk,HGR,HJ⟩:=hrel;clear HJ7 hx71;by_cases hlt:k<bn
  .have hor:gD wr W5.heap.size (.slice (some ⟨g,0,none⟩) bn cc) (yJ (fI ls) bn):=HO7.out.kept HGR.out (.inr (by simp[Value.ownBlock];exact λe=>hMg e.symm));obtain⟨b0,o0,e0,hck,_⟩:=hor.ints.2.2 k hlt;injection e0 with e0;injection e0 with e1 e2;subst e1 e2;have hv:(yJ (fI ls) bn).getD k 0=(oF (fI ls) k:Int):=by
    have:(List.range bn)[k]? =some k:=by rw[ew hlt]
    simp[yJ,ak,this]
   rw[hv,bQ] at hck;have hlt':(k:Int)<(bn:Int):=by omega
   have how:=YZ HOW.out hlt;rw[HLN.out] at how;have HIN:Hid (inL (fI ls) k= []++rE (fI ls) (oF (fI ls) k:Int)):=by simp[Hid,inL]
   have HLEN:Hid ((inL (fI ls) k).length<=200):=by
    have:=QW HPAR.out (k:Int) (by simpa using (by rw[HLN.out];exact how));rw[HLN.out] at this;rw[Hid];omega
   have HNE:Hid (inL (fI ls) k≠[]):=by
    rw[Hid,inL,dr,vM HPAR.out (by omega) (by rw[HLN.out];omega)];simp
   have HST:=ac HJ.out.start;clear hor hv HJ;generalize oF (fI ls) k=q0 at *;go_wp2;obtain⟨wo,rfl⟩:∃wo:World,wo=wr:=⟨_,rfl⟩
   go_loopw [7] (λkk wi=>∃(x:Int) (d:List Int),kk=.int .i64 x/\-1<=x/\x<n/\Hid (inL (fI ls) k=d++rE (fI ls) x)/\Hid (∃f,MK W7.heap.size M (fI ls) k wo.heap.size d f wi)/\Hid (wo.grownBy wi (some M))) (λkk _=>(intOf kk+1).toNat)
   case atStart=>exact⟨(q0:Int),[],rfl,by omega,by omega,HIN,HST,sF _ _⟩
   case round=>
    obtain⟨x,d,rfl,hx0,hxn,HC,HMK,HGI⟩:=hrel;by_cases hneg:x<0
    .obtain rfl:x= -1:=by omega
     have HD:Hid (inL (fI ls) k=d):=by have:=HC.out;rw[CE _ (by omega),ct] at this;exact this
     have HJ2:Hid (MJ2 W7.heap.size M (fI ls) (k+1) wr):=by
      obtain⟨f,hf⟩:=HMK.out;rw[<-HD.out] at hf;exact hf.fin HNE.out
     have HG2:=ac (lG HGR.out HGI.out (.inl rfl));clear HMK HC HD;go_wp2
     go_roundw
     case rel=>exact⟨k+1,by go_num,by omega,HG2,HJ2⟩
     case measure=>simp[intOf];omega
    .obtain⟨y,rfl⟩:∃y:Nat,x=y:=⟨x.toNat,by omega⟩
     obtain⟨f,hmk⟩:=HMK.out;have hyn:y<n:=by omega
     obtain⟨t,b,o,hlk,⟨hI,hcap,hI1,hI2⟩,rfl,c0,c1,c2⟩:=HT.out.cells hyn;have htd:=tK ls y t hlk;have hpar:=(jQ _).1 HPAR.out y (by rw[HLN.out];exact hyn);have hcs:=HC.out;rw[vM HPAR.out (by omega) (by rw[HLN.out];omega),dr] at hcs;rw[oN,htd] at hpar hcs;have HCS:Hid (inL (fI ls) k=(d++ [(y:Int)])++rE (fI ls) t.d.parent):=by rw[Hid,hcs];simp
     have hdl:d.length<=200:=by have:=HLEN.out;rw[hcs,bf] at this;omega
     have hB9:Below w.heap.size w wr:=HB7.out.grown (lG HGR.out HGI.out (.inl rfl)) HB7.out.size (λq e=>by injection e with e;omega);have hx9:wr.heap[w.heap.size+1]? =some (nP (some ⟨b,o,none⟩) n c (.slice (some ⟨g,0,none⟩) bn cc) (some M)):=((lG HGR.out HGI.out (.inl rfl)).block _ (au.1 HX7.out).1 (λe=>by injection e with e;omega)).trans HX7.out;have hnf:NFo (w.heap.size+1) M f wr:=⟨cR hx9 rfl,hmk.1⟩
     have HF9:=ac hnf;have HMK9:=ac hmk;have HB9:=ac hB9;have C1:=ac c1;have hy0:¬(y:Int)<0:=by omega
     have hy1:(0:Int)<=(y:Int):=by omega
     have hpr1:=hpar.1;have hpr2:=hpar.2;clear hmk hnf hx9 hB9 hcs hpar c0 c1 c2 hlk hI hcap hI1 hI2 HMK HC hneg;go_wp2;refine jC (λw'=>∃n:mL (NFo (w.heap.size+1) M f),w'=n.val) [(0,8,some (8,true)),(9,0,some (9,true)),(10,0,some (10,false))] (by kernel_rfl) (by kernel_rfl) (kX (HF9.out.ext (gB (ag _ _) 1))) ?_;simp only[lS,ap,aD,am,aw];have hne:Nonempty (mL (NFo (w.heap.size+1) M f)):=wZ HF9.out;have g1:∀n:mL (NFo (w.heap.size+1) M f),n.val.cell? ⟨w.heap.size+1,2,none⟩=some (.map (some M)):=λn=>n.prop.1
     have g4:∀n:mL (NFo (w.heap.size+1) M f),(Instr.lookup 326 (.map (some M)) (.int .i64 (k:Int)) false).run Tryz.prog n.val=.ok ((f k).getD YU) n.val:=
      λn=>oC.look n.prop.2 Tryz.underlying326 bP (EM _) k
     repeat (go_big_quiet_step (fail))
     refine aq ?_;clear g1 g4 hne;refine fR rfl rfl ?_;go_simp;refine⟨kX (HF9.out.ext (gB (fD _ _) 1)),?_⟩;refine aq ?_;refine fR rfl rfl ?_;refine pC wr.drew (.tmp 48) (.tmp 50) 22 3 rfl wo.heap.size _ 1 8 be pY rfl (by omega) ((f k).getD YU) d.length (fP d) [.int .i64 (y:Int)] rfl HMK9.out.2.2.2.1.1 wr.heap.size rfl rfl rfl (by simp[Value.oneCell']) (by simp only[maxLen];omega) (by omega) HMK9.out.2.2.2.2.2.2 ?_;intro gg cap w8 hown8 hg8 hat8;have hg8:=Bx hg8;have hMb:=HMK9.out.2.2.2.2.1;have hbD:=HMK9.out.2.2.2.2.2.1;have hrow:∀q,((f k).getD YU).ownBlock=some q->wo.heap.size<=q:=λq hq=>(HMK9.out.2.2.2.1.1.lt q hq).1;have hA9:w.heap.size+1<wr.heap.size:=bA _ _ HF9.out.1;have hAM:w.heap.size+1<M:=by omega
     have hm8:oC w8 M f:=HMK9.out.1.grown hg8 (λe=>by have:=hrow M e.symm;omega);have hx8:w8.cell? ⟨w.heap.size+1,2,none⟩=some (.map (some M)):=(FK (hg8.block _ hA9 (λe=>by have:=hrow _ e.symm;omega))).trans HF9.out.1;refine⟨kX ⟨hx8,hm8⟩,?_⟩;refine aq ?_;refine fR rfl rfl ?_;obtain⟨o2,hrun,him⟩:=hm8.put (P:=Tryz.prog) Tryz.underlying326 bP (k:Int) (.slice (some ⟨gg,0,none⟩) (d.length+1) cap);refine SN 326 (.tmp 43) (.tmp 44) (.tmp 51) rfl hrun ?_;have HMKN:=ac (HMK9.out.step (y:Int) (by unfold I64;omega) gg cap hown8 hg8 o2 him (by omega));have HGN:=ac (lG (lG HGI.out hg8 (.inr hrow)) (dJ w8 M o2) (.inl rfl));have HBN:Hid (Below w.heap.size w (w8.putObj M o2)):=HB7.out.grown (lG HGR.out HGN.out (.inl rfl)) HB7.out.size (λq e=>by injection e with e;omega);clear hrun him hx8 hm8 hat8 hg8 hown8 hrow hA9 HMK9 HF9;generalize w8.putObj M o2=w9 at *;have c1:=fZ HBN.out C1.out;refine bR ?_;simp only[Act.put,ar,aH,aF];go_wp2
     go_roundw
     case rel=>exact⟨t.d.parent,d++ [(y:Int)],rfl,hpr1,by omega,HCS,⟨_,HMKN.out⟩,HGN⟩
     case measure=>simp[intOf];omega
  .obtain rfl:k=bn:=by omega
   have hxr:wr.heap[w.heap.size+1]? =some (nP a n c (.slice (some ⟨g,0,none⟩) k cc) (some M)):=(HGR.out.block _ (au.1 HX7.out).1 (λe=>by injection e with e;omega)).trans HX7.out;have HXR:=ac hxr;have hBr:Below w.heap.size w wr:=HB7.out.grown HGR.out HB7.out.size (λq e=>by injection e with e;omega);have HBR:=ac hBr;have HOR:=ac (HO7.out.kept HGR.out (.inr (by simp[Value.ownBlock];exact λe=>hMg e.symm)));clear hxr hBr
   go_wp2_with (first
    |(refine ay (o:=⟨some 53,.load 328 _,_,_,_,_⟩) rfl 328 _ rfl (w.heap.size+1) rfl 328 _ (0,0) _ HXR.out dL rfl lE ?_)
    |(refine aP (o:=⟨none,.store 328 _ _,_,_,_,_⟩) rfl 328 _ _ rfl (w.heap.size+1) #[.slice a n c,.slice (some ⟨g,0,none⟩) k cc,.map (some M)] rfl rfl 328 _ HXR.out lE rfl (by simp[Value.oneCell']) ?_))
   have hl:=cQ (P:=Tryz.prog) _ (w.heap.size+1) 328 328 _ (0,0) _ (bt _ _ _ #[.slice a n c,.slice (some ⟨g,0,none⟩) k cc,.map (some M)] _ _ HXR.out) dL rfl lE;refine aR (v:=.tuple #[.agg #[.slice a n c,.slice (some ⟨g,0,none⟩) k cc,.map (some M)],.int .i64 0]) ?_ rfl ⟨_,by rw[HE.out],rfl,by simp[Value.oneCell'],aX HBR.out (by omega) _,λh=>(by rw[HR.out] at h;cases h),λ_=>⟨g,cc,M,rfl,?_,by have:=HG5.out;have:=HJ.out.choose_spec.2.2.2.1;omega,?_⟩⟩
   .simp[results,Tryz.results235,asAddr,Act.put,hl]
   .exact(HOR.out.kept (tP wr (w.heap.size+1) _) (.inr (by simp[Value.ownBlock];have:=HG5.out;omega))).ints
   .obtain⟨f,h1,h2,_,h4,_⟩:=HJ.out;refine⟨f,h1.grown (tP wr (w.heap.size+1) _) (by simp;omega),by omega,λb hb=>?_⟩;obtain⟨av,cv,e,ho⟩:=h2 b hb;refine⟨av,cv,e,(ho.kept (tP wr (w.heap.size+1) _) ?_).ints,λq o e=>by have:=Far.own ho q o e;omega⟩;cases e1:(Value.slice av (inL (fI ls) b).length cv).ownBlock with
    |none=>exact .inl rfl
    |some q=>
     refine .inr λe2=>?_;injection e2 with e2;have:=(ho.1.lt q e1).1;omega
theorem OO(pa:Option Addr)(pn pc:Nat)(ba:Option Addr)(bn bc:Nat)(bs:List nA)(a:Option Addr)(n c:Nat)(ls:List iN)(w:World)(h:lZ w ba bn bs)(ht:iY w a n ls)(hT:qY (fI ls)<=1000000):
  Calls Tryz.prog 235 #[mB pa pn pc ba bn bc,.slice a n c] w (FO (fY bs) (fI ls) bn a n c w):=by
 cases hr:gY (fY bs) (fI ls) with
 |false=>exact vd pa pn pc ba bn bc bs a n c ls w h ht hT hr
 |true=>exact pk pa pn pc ba bn bc bs a n c ls w h ht hT hr
end

section
open Go.RowKit Go.Shelf
attribute [local go_sem] Oper.semAt_some iF gH gS fX
def uS(l:List fT)(b o:Int)(j:Nat):List Int:=((inL l b).take j).filter λk=> !(inL l o).contains k
theorem jx(l:List fT)(b o:Int)(j:Nat)(h:j<(inL l b).length):uS l b o (j+1)=uS l b o j++if (inL l o).contains ((inL l b).getD j 0) then [] else [(inL l b).getD j 0]:=by
 rw[uS,uS,bL,ah h,dY,bB]
 congr 1
 have e:(inL l b).getD j 0=(inL l b)[j]:=by simp[ak,h]
 rw[e,b6,List.filter_nil]
 cases (inL l o).contains (inL l b)[j]<;>rfl
theorem GX(l:List fT)(n:Nat)(a:Option Addr)(ln lc:Nat)(v:Value)(b o:Nat)(hb:b<n)(ho:o<n)(w:World)(base:Nat)(h:nU w base l n a ln lc v)(hl:(inL l b).length<=1000):
  Calls Tryz.prog 237 #[v,.int .i64 (b:Int),.int .i64 (o:Int)] w (mT w (QA l b o)):=by
 obtain⟨g,c,M,rfl,hown,_,hm⟩:=h
 obtain⟨f,him,_,hall⟩:=hm
 obtain⟨xa,xc,fb,hib,_⟩:=hall b hb
 obtain⟨ya,yc,fo,hio,_⟩:=hall o ho
 have HIM:=ac him
 have HIB:=ac hib
 have HIO:=ac hio
 have HFB:=ac fb
 have HFO:=ac fo
 clear hown hall him hib hio fb fo
 go_enter Tryz.func237,Tryz.ntmps237
 go_upto_region 1 with (fail)
 obtain⟨W,hW⟩:∃W,W=w.alloc (nP a ln lc (.slice (some ⟨g,0,none⟩) n c) (some M)):=⟨_,rfl⟩
 rw[<-hW]
 have hk0:W.heap[w.heap.size]? =some (nP a ln lc (.slice (some ⟨g,0,none⟩) n c) (some M)):=by rw[hW];exact ae _ _
 have hB:Below w.heap.size w W:=by rw[hW];exact fD _ _
 have HK:=ac hk0
 have HB:=ac hB
 have hc2:=cK 2 hk0 rfl
 have hlk:(Instr.lookup 326 (.map (some M)) (.int .i64 (b:Int)) false).run Tryz.prog W=.ok (.slice xa (inL l b).length xc) W:=by
  have:=oC.look (P:=Tryz.prog) (HIM.out.ext hB) Tryz.underlying326 bP (EM _) (b:Int);rw[HFB.out] at this;exact this
 clear hW hk0 hB
 go_wp2
 clear hc2 hlk
 have HI0:Hid (Below w.heap.size w W):=HB.out
 go_loopw [6,14] (λv i wr=>∃j:Nat,i=.int .i64 j/\j<=(inL l b).length/\Hid (gD wr W.heap.size v (uS l b o j))/\Hid (Below W.heap.size W wr)) (λ_ i _=>(inL l b).length-(intOf i).toNat)
 case atStart=>exact⟨0,rfl,by omega,gD.nil _ _,ag _ _⟩
 case round=>
  obtain⟨j,rfl,hj,HO,HBr⟩:=hrel;obtain⟨av,cv,rfl⟩:=HO.out.form;have HBw:Hid (Below w.heap.size w wr):=fC HB.out HBr.out;by_cases hlt:j<(inL l b).length
  .obtain⟨xb,xo,rfl,cx,hxi⟩:=(HIB.out.ext HBw.out).2.2 j hlt;have hk9:=fB HBr.out HK.out;have hc2:=cK 2 hk9 rfl;have hlk:(Instr.lookup 326 (.map (some M)) (.int .i64 (o:Int)) false).run Tryz.prog wr=.ok (.slice ya (inL l o).length yc) wr:=by
    have:=oC.look (P:=Tryz.prog) (HIM.out.ext HBw.out) Tryz.underlying326 bP (EM _) (o:Int);rw[HFO.out] at this;exact this
   have HST:=ac (jx l b o j hlt);have HDC:Hid (decide (0<=idx (inL l o) ((inL l b).getD j 0))=(inL l o).contains ((inL l b).getD j 0)):=by
    rw[Hid,cS,aN,fz];have:=vJ (inL l o) ((inL l b).getD j 0);constructor
    .intro h;apply bE;intro hn;have:=this.2 hn;omega
    .intro h;apply bE;intro hn;exact this.1 (by omega) h
   have HXI:=ac hxi;have hbl:(uS l b o j).length<=1000:=by
    have h1:=bX (λk=> !(inL l o).contains k) ((inL l b).take j);have h2:=List.length_take_le' j (inL l b);unfold uS;omega
   clear hk9 hxi;generalize (inL l b).getD j 0=x at *;cases hh:(inL l o).contains x with
   |true=>
    have HD:Hid (decide (0<=idx (inL l o) x)=true):=HDC.out.trans hh;have HST2:Hid (uS l b o (j+1)=uS l b o j):=by rw[Hid,HST.out,hh];simp
    clear hh HDC HST
    go_wp2_with (go_at_call 161;refine(qB ya _ yc (inL l o) x wr (HIO.out.ext HBw.out)).mono ?_;rintro e w' ⟨rfl,rfl⟩;rw[HD.out])
    go_roundw
    case rel=>exact⟨j+1,by go_num,by omega,by rw[HST2.out];exact HO,HBr⟩
    case measure=>simp[intOf];omega
   |false=>
    have HD:Hid (decide (0<=idx (inL l o) x)=false):=HDC.out.trans hh;have HST2:Hid (uS l b o (j+1)=uS l b o j++ [x]):=by rw[Hid,HST.out,hh];simp
    clear hh HDC HST
    go_wp2_with (first
     |(at_builtin
       refine jI rfl wr (.tmp 25) (.tmp 27) 22 3 rfl W.heap.size _ 1 8 be pY rfl (by omega) (.slice av (uS l b o j).length cv) _ _ [.int .i64 x] rfl HO.out.1 wr.heap.size rfl rfl rfl (by simp[Value.oneCell']) (by simp only[maxLen];omega) (by omega) HBr.out.size ?_;intro g2 cap w2 hown2 hgr2 hat2;have HO2:=ac hown2;have HB2:=ac (HBr.out.grown hgr2 HBr.out.size (λq e=>(HO.out.1.lt q e).1))
       clear hown2 hgr2 hat2)
     |(go_at_call 161;refine(qB ya _ yc (inL l o) x wr (HIO.out.ext HBw.out)).mono ?_;rintro e w' ⟨rfl,rfl⟩;rw[HD.out]))
    go_roundw
    case rel=>
     refine⟨j+1,by go_num,by omega,⟨?_,?_,?_⟩,HB2⟩
     .rw[HST2.out,bf];have:=HO2.out;simpa[fP] using this
     .rw[HST2.out];intro z hz;rcases ax.1 hz with hz|hz
      .exact HO.out.2.1 z hz
      .have:z=x:=by simpa using hz
       subst this;exact HXI.out
     .rw[HST2.out,bf];simp;omega
    case measure=>simp[intOf];omega
  .obtain rfl:j=(inL l b).length:=by omega
   have HE:Hid (uS l b o (inL l b).length=QA l b o):=by rw[Hid,uS,List.take_length,QA]
   go_wp2
   go_ret
   rw[<-HE.out];exact⟨_,rfl,HO.out.mono HB.out.size,HBw.out⟩
end

section
open Go.RowKit Go.Shelf
structure NA where
 r:QD
 lv:Value
 en:Value
def csR(h:NA):List Value:= [.int .i64 h.r.e.fr,.int .i64 h.r.e.arm,.int .i64 h.r.e.to,h.lv,h.en]
theorem RB(h:NA):(csR h).length=5:=rfl
theorem Ah:(Tryz.prog.info? 254).map (λi=>(i.zero,i.size,i.bytes))=some (some (.agg #[.int .i64 0,.int .i64 0,.int .i64 0,.slice none 0 0,.slice none 0 0]),5,72):=by kernel_rfl
theorem ud:(Tryz.prog.info? 254).map (·.size)=some 5:=by kernel_rfl
def RowsIn(W:World)(base:Nat)(v:Value)(hs:List NA):Prop:=
 iP 254 5 csR W base v hs/\∀h∈hs,gD W base h.lv h.r.lv/\gD W base h.en h.r.en/\(∀q,h.lv.ownBlock=some q->v.ownBlock≠some q)/\∀q,h.en.ownBlock=some q->v.ownBlock≠some q
theorem RowsIn.nil(W:World)(base:Nat):RowsIn W base (.slice none 0 0) []:=⟨iP.nil _ _ _ _ _,λh hh=>by grind⟩
theorem uX{o:Option Nat}{row:Option Nat}(h:∀q,o=some q->row≠some q):o=none\/o≠row:=by
 cases o with
 |none=>simp
 |some q=>grind
theorem RowsIn.grown{W W':World}{base:Nat}{v:Value}{hs:List NA}{row:Option Nat}(h:RowsIn W base v hs)(hg:W.grownBy W' row)(hr:∀q,row=some q->q<base\/W.heap.size<=q):RowsIn W' base v hs:=by
 obtain⟨h1,h2⟩:=h
 refine⟨h1.kept hg (uX λq hq e=>?_),λx hx=>?_⟩
 .have:=h1.low hq;grind
 .obtain⟨h3,h4,h5,h6⟩:=h2 x hx;refine⟨h3.kept hg (uX λq hq e=>?_),h4.kept hg (uX λq hq e=>?_),h5,h6⟩
  .have:=h3.1.lt q hq;grind
  .have:=h4.1.lt q hq;grind
theorem RowsIn.mono{W:World}{base base':Nat}{v:Value}{hs:List NA}(h:RowsIn W base v hs)(hb:base'<=base):RowsIn W base' v hs:=
 ⟨h.1.mono hb,λx hx=>let ⟨h3,h4,h5,h6⟩:=h.2 x hx;⟨h3.mono hb,h4.mono hb,h5,h6⟩⟩
theorem pH{w:World}{base:Nat}{v:Value}{xs:List Int}(h:gD w base v xs):v.oneCell'=true:=by
 obtain⟨a,c,rfl⟩:=h.form;rfl
theorem RowsIn.one{W:World}{base:Nat}{v:Value}{hs:List NA}(h:RowsIn W base v hs):∀u∈hs.flatMap csR,u.oneCell'=true:=by
 intro u hu
 simp only[b5,csR] at hu
 obtain⟨x,hx,hu⟩:=hu
 obtain⟨h3,h4,_⟩:=h.2 x hx
 simp only[aS,bO,cX] at hu
 rcases hu with rfl|rfl|rfl|rfl|rfl
 .rfl
 .rfl
 .rfl
 .exact pH h3
 grind[pH]
theorem zx{r:QD}{a b:Value}(ha:a.oneCell'=true)(hb:b.oneCell'=true):∀u∈csR ⟨r,a,b⟩,u.oneCell'=true:=by
 intro u hu
 simp only[csR,aS,bO,cX] at hu
 rcases hu with rfl|rfl|rfl|rfl|rfl
 .rfl
 .rfl
 .rfl
 .omega
 omega
def BP(l:List fT)(ask:kD->Bool)(d:List kD):List QD:=(d.filter (BH l ask)).map (BB l)
theorem GC(l:List fT)(ask:kD->Bool)(d:List kD)(x:kD):BP l ask (d++ [x])=BP l ask d++if BH l ask x then [BB l x] else []:=by
 grind[BP]
theorem ZY(l:List fT)(ask:kD->Bool)(d:List kD):(BP l ask d).length<=d.length:=by
 simp[BP,bX]
def RJ(w1:World)(B:Nat)(l:List fT)(ask:kD->Bool)(d:List kD)(W:World):Prop:=
 ∃v hs,W.heap[B]? =some (.cells #[v] 176 (0,0))/\RowsIn W w1.heap.size v hs/\hs.map (·.r)=BP l ask d/\w1.grownBy W (some B)/\B<w1.heap.size
theorem fG.rowsIn(D base:Nat)(v:Value)(hs:List NA):fG D (λW=>RowsIn W base v hs):=
 (fG.ownR _ _ _ _).and (fG.all λh=>fG.imp ((fG.ownI _ _ _ _).and ((fG.ownI _ _ _ _).and (fG.pure _ _))))
theorem fG.grown{D:Nat}{w1:World}{B:Nat}(hD:w1.heap.size<=D):fG D (λW=>w1.grownBy W (some B)):=λW W' row h hg hr=>
 lG h hg (.inr λq e=>aT hD (hr q e).1)
theorem RJ.steady{w1:World}{B:Nat}{l:List fT}{ask:kD->Bool}{d:List kD}{D:Nat}(hD:w1.heap.size<=D):fG D (RJ w1 B l ask d):=by
 exact fG.ex λv=>fG.ex λhs=>(fG.block _ _ rfl).and ((fG.rowsIn _ _ _ _).and ((fG.pure _ _).and ((fG.grown hD).and (fG.pure _ _))))
theorem zn{W1 W2 w5 w6:World}{B g2 cap:Nat}{l:List fT}{ask:kD->Bool}{d:List kD}{x:kD}{v v6 v12:Value}{hs:List NA}
  (hV:W2.heap[B]? =some (.cells #[v] 176 (0,0))) (hrows:RowsIn W2 W1.heap.size v hs) (hmap:hs.map (·.r)=BP l ask d) (hgr:W1.grownBy W2 (some B)) (hBW:B<W1.heap.size)
  (h25:W2.grownBy w5 none) (hk25:gC W2 w5) (h6:gD w5 W2.heap.size v6 (QA l x.fr x.to)) (h12:gD w5 W2.heap.size v12 (QA l x.to x.fr).reverse)
  (hown:w6.ownsRow W1.heap.size 254 5 (.slice (some ⟨g2,0,none⟩) (hs.length+1) cap) (hs.length+1) (hs.flatMap csR++csR ⟨BB l x,v6,v12⟩))
  (hg:w5.grownBy w6 v.ownBlock) (hat:some g2=v.ownBlock\/g2=w5.heap.size+1) (hbt:BH l ask x=true) (hlen:hs.length<=1000):
  gC W2 (w6.setCell ⟨B,0,none⟩ (.slice (some ⟨g2,0,none⟩) (hs.length+1) cap))/\RJ W1 B l ask (d++ [x]) (w6.setCell ⟨B,0,none⟩ (.slice (some ⟨g2,0,none⟩) (hs.length+1) cap))/\
   Tch (TV B 176) W2 (w6.setCell ⟨B,0,none⟩ (.slice (some ⟨g2,0,none⟩) (hs.length+1) cap)):=by
 have hBW2:=(au.1 hV).1
 have hvlow:∀q,v.ownBlock=some q->W1.heap.size<=q/\q<W2.heap.size:=λq hq=>hrows.1.low hq
 have hrows5:=hrows.grown h25 (λq e=>by cases e)
 have hV5:w5.heap[B]? =some (.cells #[v] 176 (0,0)):=(h25.block B hBW2 (λe=>by cases e)).trans hV
 have hBW5:=(au.1 hV5).1
 have hV6:w6.heap[B]? =some (.cells #[v] 176 (0,0)):=(hg.block B hBW5 (λe=>by grind)).trans hV5
 have hst:=aC w6 B 0 _ _ (.slice (some ⟨g2,0,none⟩) (hs.length+1) cap) hV6
 simp only[ar,aF] at hst
 have hset:=fU w6 B 0 (.slice (some ⟨g2,0,none⟩) (hs.length+1) cap)
 have hs25:=h25.size
 have hs56:=hg.size
 have hg2:W1.heap.size<=g2:=(hown.lt g2 rfl).1
 have hgW1:W1.heap.size<=W2.heap.size:=hgr.size
 have own6:∀{u:Value} {ys:List Int},gD w5 W1.heap.size u ys->(∀q,u.ownBlock=some q->v.ownBlock≠some q)->gD (w6.setCell ⟨B,0,none⟩ (.slice (some ⟨g2,0,none⟩) (hs.length+1) cap)) W1.heap.size u ys:=λ{u ys} ho hne=>
  (ho.kept hg (uX hne)).kept hset (uX λq hq e=>by have:=(ho.1.lt q hq).1;grind)
 have ne2:∀{u:Value} {ys:List Int},gD w5 W1.heap.size u ys->(∀q,u.ownBlock=some q->v.ownBlock≠some q)->∀q,u.ownBlock=some q->(Value.slice (some ⟨g2,0,none⟩) (hs.length+1) cap).ownBlock≠some q:=λ{u ys} ho hne q hq e=>by
  simp only[Value.ownBlock,aW] at e;subst e;rcases hat with h|h
  .grind
  .have:=(ho.1.lt g2 hq).2;omega
 have hne6:∀q,v6.ownBlock=some q->v.ownBlock≠some q:=λq hq e=>by have:=(h6.1.lt q hq).1;have:=hvlow q e;omega
 have hne12:∀q,v12.ownBlock=some q->v.ownBlock≠some q:=λq hq e=>by have:=(h12.1.lt q hq).1;have:=hvlow q e;omega
 refine⟨(hk25.trans (gC.grown hg (sE hrows5.1.1))).trans (gC.setCell _ _ _),⟨_,hs++ [⟨BB l x,v6,v12⟩],hst,⟨⟨?_,by simp;omega⟩,?_⟩,?_,?_,hBW⟩,?_⟩
 .have:(hs++ [(⟨BB l x,v6,v12⟩:NA)]).flatMap csR=hs.flatMap csR++csR ⟨BB l x,v6,v12⟩:=by simp
  rw[this,bf];exact hown.kept hset (.inr (by simp[Value.ownBlock];omega))
 .intro h hh;rcases ax.1 hh with hh|hh
  .obtain⟨h1,h2,h3,h4⟩:=hrows5.2 h hh;exact⟨own6 h1 h3,own6 h2 h4,ne2 h1 h3,ne2 h2 h4⟩
  .have:h=⟨BB l x,v6,v12⟩:=by simpa using hh
   subst this;have a6:=h6.mono hgW1;have a12:=h12.mono hgW1;exact⟨own6 a6 hne6,own6 a12 hne12,ne2 a6 hne6,ne2 a12 hne12⟩
 .rw[GC,hbt,cU,hmap];rfl
 .exact lG (lG (lG hgr h25 (.inr λq e=>by cases e)) hg (.inr λq e=>(hvlow q e).1)) hset (.inl rfl)
 .refine kx hV hst (by simp;omega) (λk hk hkB hkv=>?_) (λk hk=>?_)
  .rw[aU _ _ _ _ (λe=>hkB e),hg.block k (by omega) (λe=>hkv e.symm),h25.block k hk (λe=>by cases e)]
  .simp only[Value.ownBlock,aW] at hk;subst hk;rcases hat with h|h
   .exact .inl h.symm
   .exact .inr (by omega)
end

section
open Go.RowKit
section
variable {P:Program} {l:List Oper} {Q:Exit->Act->World->Prop}
theorem SB{id:Nat}{a:Act}{w:World}(m:Nat)(ds:List (Option Nat))(hm:P.follows .mixedOrders=true)(hok:BQ l m ds=true)(S:Spec)(Lk:Nat->Value->(Nat->Value)->Prop)(hcong:∀i v ν ν',(∀j,EC l i j=true->ν j=ν' j)->Lk i v ν->Lk i v ν') 
  (hmono:∀i v lo hi w w',Below w.heap.size w w'->S i v lo hi w->S i v lo hi w')
  (hops:∀i,i<m->∀(ν:Nat->Value) (lo hi:Nat->Nat) (w':World) (K:Act->World->Prop),Below w.heap.size w w'->(∀j,EC l i j=true->S j (ν j) (lo j) (hi j) w')->
    (∀v w'',Below w'.heap.size w' w''->S i v w'.heap.size w''.heap.size w''->Lk i v ν->K ((kP a ds ν).put (ds.getD i none) v) w'')->wpOp P l.toArray Q i K (kP a ds ν) w')
  (hend:∀(ν:Nat->Value) (lo hi:Nat->Nat) (w':World),Below w.heap.size w w'->(∀i,i<m->S i (ν i) (lo i) (hi i) w')->(∀i,i<m->w.heap.size<=lo i/\lo i<=hi i/\hi i<=w'.heap.size)->
    (∀i j,i<m->j<m->i≠j->hi i<=lo j\/hi j<=lo i)->(∀i,i<m->Lk i (ν i) ν)->wpList P l.toArray Q (l.drop m) (kP a ds ν) w'):
  (Code.region id l.toArray true).wp P Q a w:=by
 refine wp_region_any hm ?_
 have:=FG (P:=P) (l:=l) (Q:=Q) m ds hok S Lk hcong a w.drew hmono (λi hi ν lo hi' w' K hB=>hops i hi ν lo hi' w' K (lH hB)) (λν lo hi w' hB=>hend ν lo hi w' (lH hB))
 trivial
theorem WW{id:Nat}{a:Act}{w:World}{lp:Nat}(m:Nat)(ds:List (Option Nat))(hm:P.follows .mixedOrders=true)(hn:l.all rL=true)(hQ:¬LetsOut Q)(hok:BQ l m ds=true)(S:Spec)(Lk:Nat->Value->(Nat->Value)->Prop)(hcong:∀i v ν ν',(∀j,EC l i j=true->ν j=ν' j)->Lk i v ν->Lk i v ν') 
  (hmono:∀i v lo hi w w',Below w.heap.size w w'->S i v lo hi w->S i v lo hi w')
  (hops:∀i,i<m->∀(ν:Nat->Value) (lo hi:Nat->Nat) (w':World) (K:Act->World->Prop),Below w.heap.size w w'->(∀j,EC l i j=true->S j (ν j) (lo j) (hi j) w')->
    (∀v w'',Below w'.heap.size w' w''->S i v w'.heap.size w''.heap.size w''->Lk i v ν->K ((kP a ds ν).put (ds.getD i none) v) w'')->wpOp P l.toArray Q i K (kP a ds ν) w')
  (hend:∀(ν:Nat->Value) (lo hi:Nat->Nat) (w':World),Below w.heap.size w w'->(∀i,i<m->S i (ν i) (lo i) (hi i) w')->(∀i,i<m->w.heap.size<=lo i/\lo i<=hi i/\hi i<=w'.heap.size)->
    (∀i j,i<m->j<m->i≠j->hi i<=lo j\/hi j<=lo i)->(∀i,i<m->Lk i (ν i) ν)->wpList P l.toArray Q (l.drop m) (kP a ds ν) w'):
  (Code.region id l.toArray true).wpIn (Fence.wide.inRound lp) 0 P Q a w:=by
 refine wpIn_region_draw λt=>?_
 refine xI lp (λi o ho=>?_) hQ _ _ _ ?_
 .grind
 .simp only[Region.schedule,hm,Bool.true_or,if_true];refine wpAny_sound _ t _ a _ ?_;have:=FG (P:=P) (l:=l) (Q:=Q) m ds hok S Lk hcong a w.drew hmono (λi hi ν lo hi' w' K hB=>hops i hi ν lo hi' w' K (lH hB)) (λν lo hi w' hB=>hend ν lo hi w' (lH hB));trivial
end
end
end Go.Proofs.YtbknbcmppdglhaaGreatDoor
