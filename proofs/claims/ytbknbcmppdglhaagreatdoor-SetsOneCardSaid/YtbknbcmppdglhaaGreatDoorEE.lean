/-
 Edge:going through a function's edges.
-/
import Derived.Test.YtbknbcmppdglhaaGreatDoorA0
import Derived.Test.YtbknbcmppdglhaaGreatDoorER
import Derived.Test.YtbknbcmppdglhaaGreatDoorOwnR
import Derived.Test.YtbknbcmppdglhaaGreatDoorSortI
import Derived.Test.YtbknbcmppdglhaaGreatDoorTI
import Derived.Test.YtbknbcmppdglhaaGreatDoorTR
import Derived.Test.YtbknbcmppdglhaaGreatDoorEK
import Derived.Test.YtbknbcmppdglhaaGreatDoorTJ
namespace Go.Proofs.YtbknbcmppdglhaaGreatDoor
set_option linter.unusedSimpArgs false
set_option linter.unusedVariables false
set_option linter.unusedSectionVars false
set_option maxRecDepth 100000
set_option maxHeartbeats 40000000
section
open Go.RowKit Go.Shelf
attribute [local go_sem] Oper.semAt_some iF gH gS fX
def zf(x:kD):Array Value:=#[.agg #[.int .i64 x.fr,.int .i64 x.arm,.int .i64 x.to]]
theorem FK{w w':World}{b o:Nat}(h:w'.heap[b]? =w.heap[b]?):w'.cell? ⟨b,o,none⟩=w.cell? ⟨b,o,none⟩:=by
 unfold World.cell?
 simp only[h]
theorem iJ.heap{w w':World}{a:Option Addr}{n:Nat}{xs:List Int}(h:iJ w a n xs)(hb:∀b o,a=some ⟨b,o,none⟩->w'.heap[b]? =w.heap[b]?):iJ w' a n xs:=
 ⟨h.1,h.2.1,λk hk=>by
  obtain⟨b,o,e,hc,hi⟩:=h.2.2 k hk
  exact⟨b,o,e,(FK (hb b o e)).trans hc,hi⟩⟩
theorem jm(pa:Option Addr)(pn pc:Nat)(ba:Option Addr)(bn bc:Nat)(w:World):Calls Tryz.prog 236 #[mB pa pn pc ba bn bc] w λe w'=>e=.returned (.func (.func 268) #[] #[.pointer (some ⟨w.heap.size,0,none⟩)])/\w'=w.alloc (gX pa pn pc ba bn bc):=by
 go_enter Tryz.func236,Tryz.ntmps236
 go_wp2
 go_ret
 exact⟨rfl,rfl⟩
theorem SW(pa:Option Addr)(pn pc:Nat)(ba:Option Addr)(bn bc:Nat)(bs:List nA)(G:Nat):tj Tryz.prog 268 #[.pointer (some ⟨G,0,none⟩)] zf (vT (fY bs)) (λW=>W.heap[G]? =some (gX pa pn pc ba bn bc)/\lZ W ba bn bs):=by
 intro l K Kx T W hK hKx hInv hT0 hTg hY h0
 refine eK Tryz.func268 rfl trivial ?_ rfl
 simp only[Tryz.ntmps268,bd,bk,bx,Nat.reduceAdd,Nat.reduceSub,bF,bG,bV,bN,bD,bU]
 have HY:=ac hY
 have HI:=ac hInv
 have HK0:=ac hK
 have HT0:=ac hT0
 have HTG:=ac hTg
 have H0:Hid (K (kL (fY bs) 0) W):=h0
 have hg0:W.cell? ⟨G,1,none⟩=some (.slice ba bn bc):=cR (hInv _ _ h0).1 rfl
 have hbn:=(hInv _ _ h0).2.1.2.1
 have HLN:=ac (hInv _ _ h0).2.1.1
 clear hY hInv hK hKx h0 hT0 hTg
 gi_wp2
 gi_loopw [3,4,5,6,10] (λ_ _ _ _ i wr=>∃k:Nat,i=.int .i64 k/\k<=bn/\Hid (K (kL (fY bs) k) wr)) (λ_ _ _ _ i _=>bn-(intOf i).toNat)
 case atStart=>exact⟨0,rfl,by omega,H0.out⟩
 case round=>
  obtain⟨k,rfl,hk,HK⟩:=hrel;clear hg0;by_cases hlt:k<bn
  .obtain⟨x,b,o,hbx,hxo,rfl,c0,c1,c2,c3,c4⟩:=(HI.out _ _ HK.out).2.cells hlt;have htd:=QP bs k x hbx;have HES:Hid (kL (fY bs) k=uT k 0 (toD x.t)++kL (fY bs) (k+1)):=by
    rw[Hid,MP _ _ (by rw[lA,HLN.out];exact hlt),xE,htd]
   have HXO:=ac hxo;have hlt':(k:Int)<(bn:Int):=by omega
   clear hbx htd hxo
   gi_wp2_with (
    (gi_at_call 137
     refine(bu.2 (EE x.t _ HXO.out)).mono ?_;rintro e w2 ⟨v,rfl,ho,hb⟩;obtain⟨va,vc,rfl⟩:=ho.form;have hbw:=fC (fD wr (oA x)) hb;have HV:=ac ho.ints;have HK2:=ac (HK0.out _ _ _ HK.out hbw)
     have HNT:Hid (∀q o,va=some ⟨q,o,none⟩->¬T w2 q):=(λq o e ht=>by
      have h1:=HT0.out _ _ _ HK.out (HTG.out _ _ _ _ HK.out hbw ht);have h2:=(ho.1.lt q (by rw[e];rfl)).1;simp at h2
      omega)
     clear ho hb hbw))
   obtain⟨wo,rfl⟩:∃wo:World,wo=wr:=⟨_,rfl⟩
   gi_loopw [5,6,19] (λ_ _ i wi=>∃j:Nat,i=.int .i64 j/\j<=(toD x.t).length/\Hid (K (uT k j ((toD x.t).drop j)++kL (fY bs) (k+1)) wi)/\Hid (iJ wi va (toD x.t).length (toD x.t))/\Hid (∀q o,va=some ⟨q,o,none⟩->¬T wi q)) (λ_ _ i _=>(toD x.t).length-(intOf i).toNat)
   case atStart=>exact⟨0,rfl,by omega,by rw[Hid,aw,<-HES.out];exact HK2.out,HV,HNT⟩
   case round=>
    obtain⟨j,rfl,hj,HKj,HVj,HNTj⟩:=hrel;clear HK2 HV HNT;by_cases hjl:j<(toD x.t).length
    .obtain⟨b3,o3,rfl,hcy,_⟩:=HVj.out.2.2 j hjl;have HL:Hid (uT k j ((toD x.t).drop j)++kL (fY bs) (k+1)=⟨k,j,(toD x.t).getD j 0⟩ :: (uT k (j+1) ((toD x.t).drop (j+1))++kL (fY bs) (k+1))):=by
      rw[Hid,cn hjl];simp[uT,ak,hjl]
     have hjl':(j:Int)<((toD x.t).length:Int):=by omega
     obtain⟨fn,tmps,assign,body,hy,hR⟩:=HY.out _ ⟨k,j,(toD x.t).getD j 0⟩ wr (by rw[HL.out];rfl) HKj.out;unfold zf at hy;have hT:nxL (uT k j ((toD x.t).drop j)++kL (fY bs) (k+1)) ⟨k,j,(toD x.t).getD j 0⟩=uT k (j+1) ((toD x.t).drop (j+1))++kL (fY bs) (k+1):=by rw[HL.out];rfl
     rw[hT] at hR;have HR2:=ac hR;clear hT hR;have hj2:=xC x.t;generalize (toD x.t).getD j 0=y at*
     gi_wp2
     refine HR2.out.mono ?_;rintro e W' (⟨rfl,hJ',hT'⟩|⟨rfl,hX'⟩)
     .have HKn:=ac hJ'
      have HVn:=ac (HVj.out.heap λb o e=>hT'.2.1 b (by
       obtain⟨b4,o4,e4,hc4,_⟩:=HVj.out.2.2 j hjl;rw[e4] at e;injection e with e;injection e with e _ _;subst e
       exact bA _ _ hc4) (HNTj.out b o e))
      have HNn:Hid (∀q o,some (⟨b3,o3,none⟩:Addr)=some ⟨q,o,none⟩->¬T W' q):=λq o e ht=>by
       rcases hT'.2.2 q ht with h|h
       .exact HNTj.out q o e h
       .have:=bA _ _ hcy;injection e with e;injection e with e _ _;subst e;simp at this;omega
      clear hJ' hT' hy HR2 hcy
      gi_wp2
      go_roundw
      case rel=>exact⟨j+1,by go_num,by omega,HKn,HVn,HNn⟩
      case measure=>simp[intOf];omega
     .have HX:=ac hX';clear hX' hy HR2
      gi_wp2
      exact aR (v:=.tuple #[]) (by simp[results,Tryz.results268,go_sem]) rfl ⟨⟨_,rfl⟩,Or.inr HX.out⟩
    .obtain rfl:j=(toD x.t).length:=by omega
     have HKe:Hid (K (kL (fY bs) (k+1)) wr):=by
      have:=HKj.out;rw[List.drop_length] at this;exact this
     clear HKj HVj HNTj
     gi_wp2
     go_roundw
     case rel=>exact⟨k+1,by go_num,by omega,HKe⟩
     case measure=>simp[intOf];omega
  .obtain rfl:k=bn:=by omega
   have HE:Hid (kL (fY bs) k= []):=NL _ _ (by rw[lA,HLN.out];omega)
   gi_wp2
   go_end0
   exact⟨⟨_,rfl⟩,Or.inl ⟨_,HE.out,HK.out⟩⟩
end

section
open Go.RowKit Go.Shelf
attribute [local go_sem] Oper.semAt_some iF gH gS fX
theorem XY(args:Array Value)(w:World):(callFunc 268 args).run Tryz.prog w=.ok (.enter 268 args) w:=dK Tryz.func268 (by kernel_rfl) rfl args w
end

section
open Go.RowKit
abbrev BG(x:kD):Value:=.agg #[.int .i64 x.fr,.int .i64 x.arm,.int .i64 x.to]
abbrev sr(x:kD):Obj:=.cells #[.int .i64 x.fr,.int .i64 x.arm,.int .i64 x.to] 194
end

section
open Go.RowKit
attribute [local go_sem] Oper.semAt_some iF gH gS fX
theorem nl:(Tryz.prog.info? 194).map (·.size)=some 3:=by kernel_rfl
end

section
open Go.RowKit Go.Shelf
attribute [local go_sem] Oper.semAt_some iF gH gS fX
theorem EM(w:World):(zeroValue 22).run Tryz.prog w=.ok (.slice none 0 0) w:=by kernel_rfl
theorem lE:(Tryz.prog.info? 328).map (·.size)=some 3:=by kernel_rfl
abbrev nP(a:Option Addr)(n c:Nat)(o:Value)(m:Option Nat):Obj:=.cells #[.slice a n c,o,.map m] 328
def Far(base:Nat)(a:Option Addr):Prop:=∀b o,a=some ⟨b,o,none⟩->base<=b
theorem iJ.grown{w w':World}{a:Option Addr}{n:Nat}{xs:List Int}{row:Option Nat}(h:iJ w a n xs)(hg:w.grownBy w' row)(hr:∀b o,a=some ⟨b,o,none⟩->b<w.heap.size->row≠some b):iJ w' a n xs:=
 ⟨h.1,h.2.1,λk hk=>by
  obtain⟨b,o,e,hc,hi⟩:=h.2.2 k hk;have hlt:=bA _ _ hc
  exact⟨b,o,e,(FK (hg.block b hlt (λe2=>hr b o e hlt e2.symm))).trans hc,hi⟩⟩
theorem Far.own{w:World}{base:Nat}{a:Option Addr}{n c:Nat}{xs:List Int}(h:gD w base (.slice a n c) xs):Far base a:=λb o e=>by
 rcases h.1.2 with ⟨hv,_⟩|⟨g,cap,cur,hv,hb,_⟩
 .rw[e] at hv;cases hv
 .rw[e] at hv;injection hv with h1 _ _;injection h1 with h1;injection h1 with h1 _ _;omega
def JJ(w:World)(base M:Nat)(l:List fT)(n:Nat):Prop:=
 ∃f,oC w M f/\base<=M/\∀b:Nat,b<n->∃a c,f b=some (.slice a (inL l b).length c)/\iJ w a (inL l b).length (inL l b)/\Far base a
theorem JJ.grown{w w':World}{base M:Nat}{l:List fT}{n:Nat}{row:Option Nat}(h:JJ w base M l n)(hg:w.grownBy w' row)(hr:∀q,row=some q->q<base\/w.heap.size<=q):JJ w' base M l n:=by
 obtain⟨f,h1,h0,h2⟩:=h
 refine⟨f,h1.grown hg (λe=>?_),h0,λb hbn=>?_⟩
 .have:=h1.lt;have:=hr M e.symm;omega
 .obtain⟨a,c,h3,h4,h5⟩:=h2 b hbn;refine⟨a,c,h3,h4.grown hg (λq o e hlt e2=>?_),h5⟩;have:=h5 q o e;have:=hr q e2;omega
theorem JJ.ext{w w':World}{base M:Nat}{l:List fT}{n:Nat}(h:JJ w base M l n)(hb:Below w.heap.size w w'):JJ w' base M l n:=by
 obtain⟨f,h1,h0,h2⟩:=h
 exact⟨f,h1.ext hb,h0,λb hbn=>let ⟨a,c,h3,h4,h5⟩:=h2 b hbn;⟨a,c,h3,h4.ext hb,h5⟩⟩
def nU(w:World)(base:Nat)(l:List fT)(n:Nat)(a:Option Addr)(ln lc:Nat)(v:Value):Prop:=
 ∃g c M,v=.agg #[.slice a ln lc,.slice (some ⟨g,0,none⟩) n c,.map (some M)]/\iJ w (some ⟨g,0,none⟩) n (yJ l n)/\base<=g/\JJ w base M l n
theorem nU.grown{w w':World}{base:Nat}{l:List fT}{n:Nat}{a:Option Addr}{ln lc:Nat}{v:Value}{row:Option Nat}(h:nU w base l n a ln lc v)(hg:w.grownBy w' row)(hr:∀q,row=some q->q<base\/w.heap.size<=q):nU w' base l n a ln lc v:=by
 obtain⟨g,c,M,e,h1,h0,h2⟩:=h
 refine⟨g,c,M,e,h1.grown hg (λq o e hlt e2=>?_),h0,h2.grown hg hr⟩
 injection e with e
 injection e with e _ _
 subst e
 have:=hr _ e2
 omega
theorem nU.ext{w w':World}{base:Nat}{l:List fT}{n:Nat}{a:Option Addr}{ln lc:Nat}{v:Value}(h:nU w base l n a ln lc v)(hb:Below w.heap.size w w'):nU w' base l n a ln lc v:=by
 obtain⟨g,c,M,e,h1,h0,h2⟩:=h
 exact⟨g,c,M,e,h1.ext hb,h0,h2.ext hb⟩
def nO(ts:List fS)(l:List fT):Int:=if jK ts then (if gY ts l then 0 else 12) else 2
def FO(ts:List fS)(l:List fT)(n:Nat)(a:Option Addr)(ln lc:Nat)(w:World)(e:Ending)(w':World):Prop:=
 ∃cs:Array Value,e=.returned (.tuple #[.agg cs,.int .i64 (nO ts l)])/\cs.size=3/\cs.all (·.oneCell')=true/\Below w.heap.size w w'/\(gY ts l=false->cs= #[.slice none 0 0,.slice none 0 0,.map none])/\(gY ts l=true->nU w' w.heap.size l n a ln lc (.agg cs))
theorem vd(pa:Option Addr)(pn pc:Nat)(ba:Option Addr)(bn bc:Nat)(bs:List nA)(a:Option Addr)(n c:Nat)(ls:List iN)(w:World)(h:lZ w ba bn bs)(ht:iY w a n ls)(hT:qY (fI ls)<=1000000)(hno:gY (fY bs) (fI ls)=false):
  Calls Tryz.prog 235 #[mB pa pn pc ba bn bc,.slice a n c] w (FO (fY bs) (fI ls) bn a n c w):=by
 have H:=ac h
 have HT:=ac ht
 clear h ht
 go_enter Tryz.func235,Tryz.ntmps235
 go_upto_region 1 with (fail)
 obtain⟨W,hW⟩:∃W,W=(w.alloc (gX pa pn pc ba bn bc)).alloc (nP none 0 0 (.slice none 0 0) none):=⟨_,rfl⟩
 rw[<-hW]
 have hk0:W.heap[w.heap.size]? =some (gX pa pn pc ba bn bc):=by rw[hW];exact fB (fD _ _) (ae _ _)
 have hk1:W.heap[w.heap.size+1]? =some (nP none 0 0 (.slice none 0 0) none):=by rw[hW];have:=ae (w.alloc (gX pa pn pc ba bn bc)) (nP none 0 0 (.slice none 0 0) none);simpa using this
 have hB:Below w.heap.size w W:=by rw[hW];exact fC (fD _ _) (fD _ _)
 have HK:=ac hk0
 have HX:=ac hk1
 have HB:=ac hB
 clear hW hk0 hk1 hB
 cases hf:jK (fY bs) with
 |false=>
  have HE:Hid (nO (fY bs) (fI ls)=2):=by simp[Hid,nO,hf]
  have HR:Hid (gY (fY bs) (fI ls)=false):=by simp[Hid,gY,hf]
  have HF:=ac hf;clear hf hno
  go_wp2_with (first
   |(refine ay (o:=⟨some 8,.load 25 _,_,_,_,_⟩) rfl 25 _ rfl w.heap.size rfl 25 _ (0,0) _ HK.out aJ rfl gE ?_)
   |(refine ay (o:=⟨some 11,.load 328 _,_,_,_,_⟩) rfl 328 _ rfl (w.heap.size+1) rfl 328 _ (0,0) _ HX2.out dL rfl lE ?_)
   |(refine aP (o:=⟨none,.store 328 _ _,_,_,_,_⟩) rfl 328 _ _ rfl (w.heap.size+1) #[.slice none 0 0,.slice none 0 0,.map none] rfl rfl 328 _ HX2.out lE rfl (by simp[Value.oneCell']) ?_)
   |(go_at_call 266
     refine(EO pa pn pc ba bn bc bs W (H.out.ext HB.out)).mono ?_;rintro e w2 ⟨rfl,hb⟩;rw[HF.out];have HX2:=ac (fB hb HX.out);have HB2:=ac (fC HB.out hb)
     clear hb))
  refine aR (v:=.tuple #[.agg #[.slice none 0 0,.slice none 0 0,.map none],.int .i64 2]) ?_ rfl ⟨_,by rw[HE.out],rfl,by simp[Value.oneCell'],aX HB2.out (by omega) _,λ_=>rfl,λh=>by rw[HR.out] at h;cases h⟩;have hl:=cQ (P:=Tryz.prog) _ (w.heap.size+1) 328 328 _ (0,0) _ (bt _ _ _ #[.slice none 0 0,.slice none 0 0,.map none] _ _ HX2.out) dL rfl lE;simp[results,Tryz.results235,asAddr,Act.put,hl]
 |true=>
  .have HE:Hid (nO (fY bs) (fI ls)=12):=by simp[Hid,nO,hf,hno]
   have HF:=ac hf;have HR:=ac hno;clear hf hno
   go_wp2_with (first
    |(refine ay (o:=⟨some 8,.load 25 _,_,_,_,_⟩) rfl 25 _ rfl w.heap.size rfl 25 _ (0,0) _ HK.out aJ rfl gE ?_)
    |(refine ay (o:=⟨some 16,.load 328 _,_,_,_,_⟩) rfl 328 _ rfl (w.heap.size+1) rfl 328 _ (0,0) _ HX3.out dL rfl lE ?_)
    |(refine aP (o:=⟨none,.store 328 _ _,_,_,_,_⟩) rfl 328 _ _ rfl (w.heap.size+1) #[.slice none 0 0,.slice none 0 0,.map none] rfl rfl 328 _ HX3.out lE rfl (by simp[Value.oneCell']) ?_)
    |(go_at_call 25
      refine(sA pa pn pc ba bn bc bs a n c ls w2 (H.out.ext HB2.out) (HT.out.ext HB2.out) hT).mono ?_;rintro e w3 ⟨rfl,hb⟩;rw[HR.out];have HX3:=ac (fB hb HX2.out);have HB3:=ac (fC HB2.out hb)
      clear hb)
    |(refine ay (o:=⟨some 12,.load 25 _,_,_,_,_⟩) rfl 25 _ rfl w.heap.size rfl 25 _ (0,0) _ HK2.out aJ rfl gE ?_)
    |(go_at_call 266
      refine(EO pa pn pc ba bn bc bs W (H.out.ext HB.out)).mono ?_;rintro e w2 ⟨rfl,hb⟩;rw[HF.out];have HK2:=ac (fB hb HK.out);have HX2:=ac (fB hb HX.out);have HB2:=ac (fC HB.out hb)
      clear hb))
   refine aR (v:=.tuple #[.agg #[.slice none 0 0,.slice none 0 0,.map none],.int .i64 12]) ?_ rfl ⟨_,by rw[HE.out],rfl,by simp[Value.oneCell'],aX HB3.out (by omega) _,λ_=>rfl,λh=>by rw[HR.out] at h;cases h⟩;have hl:=cQ (P:=Tryz.prog) _ (w.heap.size+1) 328 328 _ (0,0) _ (bt _ _ _ #[.slice none 0 0,.slice none 0 0,.map none] _ _ HX3.out) dL rfl lE;simp[results,Tryz.results235,asAddr,Act.put,hl]
end
end Go.Proofs.YtbknbcmppdglhaaGreatDoor
