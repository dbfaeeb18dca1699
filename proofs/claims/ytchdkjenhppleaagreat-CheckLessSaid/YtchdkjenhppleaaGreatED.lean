/-
 ir.valued. (Printed by gen_su.py out of valued_text.txt,valued_rest28.txt.)
-/
import Derived.Test.YtchdkjenhppleaaGreatA0
import Derived.Test.YtchdkjenhppleaaGreatSameG
import Derived.Test.YtchdkjenhppleaaGreatTR
import Derived.Test.YtchdkjenhppleaaGreatProg
import Derived.Test.YtchdkjenhppleaaGreatSF
import Derived.Test.YtchdkjenhppleaaGreatMix
import Derived.Test.YtchdkjenhppleaaGreatFC
import Derived.Deep.Cut
import Derived.Deep.CutRange
import Derived.Deep.DeepCutAuto
import Derived.LoopTactic
import Derived.Deep.Light
import Derived.Test.YtchdkjenhppleaaGreatPick
import Derived.Test.YtchdkjenhppleaaGreatKQ
import Derived.Test.YtchdkjenhppleaaGreatEB
import Derived.Test.YtchdkjenhppleaaGreatTQ
namespace Go.Proofs.YtchdkjenhppleaaGreat
set_option linter.unusedSimpArgs false
set_option linter.unusedVariables false
set_option linter.unusedSectionVars false
set_option maxRecDepth 100000
set_option maxHeartbeats 40000000
section
open Go.RowKit
def VJ(w:World)(fo:Obj)(n:Nat)(I:Nat->Nat->Bool)(W:World):Prop:=
 W.heap[w.heap.size]? =some fo/\KE W (w.heap.size+1) (.slice (some ⟨w.heap.size+1,0,none⟩) n n) n I/\Below w.heap.size w W/\w.heap.size+1<W.heap.size
theorem VJ.chg{w:World}{fo:Obj}{n:Nat}{I:Nat->Nat->Bool}{W W':World}{S:Nat->Prop}(h:VJ w fo n I W)(hc:Chg S W W')(hs:∀k,S k->w.heap.size+1<k):VJ w fo n I W':=by
 obtain⟨h1,h2,h3,h4⟩:=h
 refine⟨(hc.block _ (by omega) λe=>by have:=hs _ e;omega).trans h1,⟨jC h2.1 hc λg e hS=>?_,h2.2⟩,h3.trans (hc.below (by omega) λk hk=>by have:=hs k hk;omega),by have:=hc.size;omega⟩
 simp only[Value.ownBlock,bv] at e
 subst e
 have:=hs _ hS
 omega
theorem VJ.ext{w:World}{fo:Obj}{n:Nat}{I:Nat->Nat->Bool}{W W':World}(h:VJ w fo n I W)(hb:Below W.heap.size W W'):VJ w fo n I W':=
 h.chg (S:=λ_=>False) ((Chg.refl _ W).of_ext hb) λ_ e=>e.elim
theorem yS(w:World)(g o:Nat)(vs:List Value):Chg (λk=>k=g) w (w.setCells g o vs):=vB (S:=λk=>k=g) rfl vs o w (Chg.refl _ w)
theorem VJ.set{w:World}{fo:Obj}{n:Nat}{I:Nat->Nat->Bool}{W:World}(h:VJ w fo n I W){k:Nat}(hk:k<n)(f:Nat->Bool):VJ w fo n (oI I k f) (W.setCells (w.heap.size+1) (k*201) (fZ f).toList):=by
 have hc:=yS W (w.heap.size+1) (k*201) (fZ f).toList
 obtain⟨h1,h2,h3,h4⟩:=h
 exact⟨(hc.block _ (by omega) (by omega)).trans h1,g8 h2 hk f,h3.trans (hc.below (by omega) λk hk=>by omega),by have:=hc.size;omega⟩
theorem VJ.put{w:World}{fo:Obj}{n:Nat}{I:Nat->Nat->Bool}{W:World}(h:VJ w fo n I W){k j:Nat}(hk:k<n)(hj:j<201)(b:Bool):VJ w fo n (oI I k λi=>if i=j then b else I k i) (W.setCell ⟨w.heap.size+1,k*201+j,none⟩ (.bool b)):=by
 have hc:Chg (λk=>k=w.heap.size+1) W (W.setCell ⟨w.heap.size+1,k*201+j,none⟩ (.bool b)):=(Chg.refl (λk=>k=w.heap.size+1) W).setCell (p:=⟨w.heap.size+1,k*201+j,none⟩) (.inl rfl) _
 obtain⟨h1,h2,h3,h4⟩:=h
 exact⟨(hc.block _ (by omega) (by omega)).trans h1,(NF h2 hk hj b).1,h3.trans (hc.below (by omega) λk hk=>by omega),by have:=hc.size;omega⟩
theorem WK:(Tryz.prog.info? 31).map (·.size)=some 5:=by kernel_rfl
theorem gx(rs:List iO):∀(f:Nat->Bool) (v:Nat),mQ f rs v=DB (rs.map λr=>⟨gA r.d,fG r.d⟩) f v:=by
 induction rs with
 |nil=>intro f v;simp[mQ,DB,DL]
 |cons r rs ih=>
  intro f v;have e1:mQ f (r :: rs) v=mQ (CH f (fG r.d).toNat) rs v:=rfl;rw[e1,ih];have h0:=(nL r.d).1;have e2:DB ((r :: rs).map λr=>⟨gA r.d,fG r.d⟩) f v=(f v||(decide (fG r.d=(v:Int))||DL (rs.map λr=>⟨gA r.d,fG r.d⟩) (v:Int))):=rfl;rw[e2];unfold DB CH;by_cases e:v=(fG r.d).toNat
  .have h1:fG r.d=(v:Int):=by omega
   rw[aX e,dm h1];simp
  .have h1:¬fG r.d=(v:Int):=by omega
   rw[aC e,dd h1,Bool.false_or]
theorem tI(t:fC):∀(rs:List iO) (f:Nat->Bool),oG f rs t=true↔∀v,lC (rs.map λr=>⟨gA r.d,fG r.d⟩) (mL t) v=1->f v.toNat=true
 | [],f=>by
   simp only[oG,cW,lC,GF];rw[cm,dZ];constructor
   .intro h v hv
    split at hv
    .have:=h v ‹_›;simpa using this
    .cases hv
   .intro h v hv;have:=h v (by rw[aX hv]);simp[this]
 |r :: rs,f=>by
  simp only[oG,cn,lC,az];rw[tI t rs];have hh:GF f (gA r.d)=true↔∀v∈gA r.d,f v.toNat=true:=by
   rw[GF,cm,dZ];exact⟨λh v hv=>by have:=h v hv;simpa using this,λh v hv=>by have:=h v hv;simp[this]⟩
  rw[hh];have h0:=(nL r.d).1;constructor
  .rintro⟨h1,h2⟩ v hv
   split at hv
   .exact h1 v ‹_›
   .split at hv
    .cases hv
    .rename_i hx
     have:=h2 v hv;unfold CH at this;by_cases e:v.toNat=(fG r.d).toNat
     .have hvv:1<=v:=(within_var hv).1;omega
     .rwa [aC e] at this
  .intro h;refine⟨λv hv=>h v (by rw[aX hv]),λv hv=>?_⟩;unfold CH;by_cases e:v.toNat=(fG r.d).toNat
   .rw[aX e]
   .rw[aC e];by_cases hr:v∈gA r.d
    .exact h v (by rw[aX hr])
    .exact h v (by rw[aC hr,aC (λx=>e (by rw[x]))];exact hv)
where
 within_var {rs:List iO} {v:Int} (h:lC (rs.map λr=>⟨gA r.d,fG r.d⟩) (mL t) v=1):1<=v/\v<=200:=by
  induction rs with
  |nil=>
   simp only[cW,lC] at h
   split at h
   .exact IY ‹_›
   .cases h
  |cons r rs ih=>
   simp only[cn,lC] at h
   split at h
   .exact IQ ‹_›
   .split at h
    .cases h
    .exact ih h
theorem ZE(bs:List gZ):eo (iL bs):=by
 intro b hb v h
 rw[mD] at hb
 have hx:bs[b]? =some bs[b]:=au hb
 rw[xQ hx] at h
 exact tI.within_var _ h
def xL(k:Nat):Nat->Nat->Bool:=λb _=>decide (b<k)
def zT(ps:List Int)(n k:Nat):Nat->Nat->Bool:=λb v=>if b=0 then decide ((v:Int)∈ps.take k) else decide (b<n)
theorem TE(k:Nat):oI (xL k) k (λ_=>true)=xL (k+1):=by
 funext b v
 unfold oI xL
 by_cases e:b=k
 .simp[e]
 .rw[aC e]
  congr 1
  rw[eq_iff_iff];omega
theorem XD(ps:List Int)(n:Nat)(h:0<n):oI (xL n) 0 (λ_=>false)=zT ps n 0:=by
 funext b v
 unfold oI xL zT
 by_cases e:b=0
 .simp[e]
 .rw[aC e,aC e]
theorem XE(ps:List Int)(n k:Nat)(x:Nat)(h:ps[k]? =some (x:Int)):oI (zT ps n k) 0 (λi=>if i=x then true else zT ps n k 0 i)=zT ps n (k+1):=by
 funext b v
 unfold oI zT
 by_cases e:b=0
 .simp only[e,if_true];rw[bo,h];by_cases e2:v=x
  .simp[e2]
  .have:¬((v:Int)=(x:Int)):=by omega
   simp only[e2,if_false,Option.toList_some,bh,bm,this,bW]
 .rw[aC e,aC e,aC e]
theorem li(ps:List Int)(bs:List BkL):qE ps bs (zT ps bs.length ps.length):=by
 refine⟨λb hb v h1 h2 hf=>?_,λv h1 h2 h3=>?_⟩
 .unfold zT at hf;by_cases e:b=0
  .subst e;simp only[if_true,cg,bA] at hf;exact .here (by simp[UH,hf])
  .rw[aC e,bA] at hf;exact absurd hb hf
 .simp[zT,h3]
def xR(bs:List BkL)(I:Nat->Nat->Bool)(k q:Nat):Prop:=
 ∀b,b<bs.length->∀j c,(jN bs b).to[j]? =some c->(b<k\/b=k/\j<q)->∀v,v<201->I c v=true->DB (jN bs b).ops (I b) v=true
theorem EI(pa:Option Addr)(pn pc:Nat)(ps:List Int)(ba:Option Addr)(bn bc:Nat)(bs:List gZ)(w:World)(hp:fR w pa pn ps)(h:tR w ba bn bs)(h0:0<bn)(h1:bn<=200)(hpn:pn<=1000000)(hpar:KA ps=true)(hin:vZ bs=true)(hna:∀b∈bs,∀r∈b.rs,r.na<=1000000):
  Calls Tryz.prog 75 #[kF pa pn pc ba bn bc] w λe w'=>e=.returned (.bool (!nW ps (iL bs)))/\Below w.heap.size w w':=by
 have HPI:=ac hp
 have HB:=ac h
 have HLb:=ac h.1.1
 have HLp:=ac hp.1
 have HPAR:=ac hpar
 have HIN:=ac hin
 have HNA:=ac hna
 clear h hp hpar hin hna
 obtain⟨fo,hfo⟩:∃fo:Obj,fo=.cells #[.slice pa pn pc,.slice ba bn bc] 47:=⟨_,rfl⟩
 go_enter Tryz.func75,Tryz.ntmps75
 go_upto_region 1 with (fail)
 obtain⟨W0,hW0⟩:∃W0,W0=w.alloc fo:=⟨_,rfl⟩
 rw[<-hfo,<-hW0]
 have hr0:W0.heap[w.heap.size]? =some fo:=by rw[hW0];exact ai _ _
 have hb0:Below w.heap.size w W0:=by rw[hW0];exact eD _ _
 have hs0:W0.heap.size=w.heap.size+1:=by rw[hW0];simp
 have f1:W0.cell? ⟨w.heap.size,1,none⟩=some (.slice ba bn bc):=by rw[hfo] at hr0;rw[bd _ _ _ _ _ _ hr0];rfl
 have hl0:w.heap.size<W0.heap.size:=by omega
 have hmk:=nz bn (by omega) W0
 have HR0:=ac hr0
 have HB0:=ac hb0
 have HS0:=ac hs0
 have HFO:=ac hfo
 clear hr0 hb0 hs0 hW0 hfo
 go_upto_region 2 with (fail)
 obtain⟨W1,hW1⟩:∃W1,W1=W0.alloc (.cells (madeCells (fZ λ_=>false) (bn*201)) 179):=⟨_,rfl⟩
 have hV1:VJ w fo bn (xL 0) W1:=by
  have h1:=n8 (n:=bn) (by omega) (w:=W0) (base:=w.heap.size+1) (by rw[HS0.out];exact aw _);rw[<-hW1,HS0.out] at h1;refine⟨?_,?_,?_,?_⟩
  .rw[hW1,aJ _ _ _ (by omega)];exact HR0.out
  .have e:xL 0=λ_ _=>false:=by funext b v;simp[xL]
   rw[e];exact h1
  .rw[hW1];exact eA HB0.out (eD _ _)
  .rw[hW1,World.size_alloc,HS0.out];omega
 rw[show W0.alloc (Obj.cells (madeCells (fZ λ_=>false) (bn*201)) 179)=W1 from hW1.symm,HS0.out]
 have HV1:=ac hV1
 clear hmk f1 hl0 hW1 HR0 HB0 HS0 hV1
 go_wp2
 go_loopw [26] (λi wr=>∃k:Nat,i=.int .i64 k/\k<=bn/\Hid (VJ w fo bn (xL k) wr)) (λi _=>bn-(intOf i).toNat)
 case atStart=>exact⟨0,rfl,by omega,HV1⟩
 case round=>
  obtain⟨k,rfl,hk,HV⟩:=hrel;clear HV1;by_cases hlt:k<bn
  .have hlt':(k:Int)<(bn:Int):=by omega
   go_wp2_with (first
    |(go_at_call 110
      refine(VY wr).mono ?_;rintro e w1 ⟨rfl,hb1⟩;have HV1:=ac (HV.out.ext hb1);have ht:=wV HV1.out.2.1 hlt (λ_=>true)
      clear hb1)
    |((with_reducible show wpList _ _ _ (⟨none,.store 179 _ _,_,_,_,_⟩ :: _) _ _);refine wpList_store_mid rfl 179 _ _ rfl (w.heap.size+1) (k*201) (fZ λ_=>true) rfl rfl ht (jO _) (kU _) ?_))
   go_roundw
   case rel=>exact⟨k+1,by go_num,by omega,by rw[Hid,<-TE];exact HV1.out.set hlt _⟩
   case measure=>simp[intOf];omega
  .obtain rfl:k=bn:=by omega
   have ht:=wV HV.out.2.1 (k:=0) h0 (λ_=>false);rw[bx] at ht;have HV2:Hid (VJ w fo k (zT ps k 0) (wr.setCells (w.heap.size+1) 0 (fZ λ_=>false).toList)):=by
    have:=HV.out.set (k:=0) h0 (λ_=>false)
    rwa [bx,XD ps k h0] at this
   have hpos:(0:Int)<(k:Int):=by omega
   have hlt':¬(k:Int)<(k:Int):=by omega
   go_upto_region 8 with ((with_reducible show wpList _ _ _ (⟨none,.store 179 _ _,_,_,_,_⟩ :: _) _ _);refine wpList_store_mid rfl 179 _ _ rfl (w.heap.size+1) 0 (fZ λ_=>false) rfl rfl ht (jO _) (kU _) ?_)
   obtain⟨W2,hW2⟩:∃W2,W2=wr.setCells (w.heap.size+1) 0 (fZ λ_=>false).toList:=⟨_,rfl⟩
   rw[<-hW2] at HV2|-;have g0:W2.cell? ⟨w.heap.size,0,none⟩=some (.slice pa pn pc):=by have:=HV2.out.1;rw[HFO.out] at this;rw[bd _ _ _ _ _ _ this];rfl
   have g1:=HV2.out.2.2.2;clear hW2 ht HV hlt hlt';go_wp2;clear g0 g1
   go_loopw [40] (λi wr=>∃q:Nat,i=.int .i64 q/\q<=pn/\Hid (VJ w fo k (zT ps k q) wr)) (λi _=>pn-(intOf i).toNat)
   case atStart=>exact⟨0,rfl,by omega,HV2⟩
   case round=>
    obtain⟨q,rfl,hq,HV⟩:=hrel;clear HV2;by_cases hlt:q<pn
    .have hlt':(q:Int)<(pn:Int):=by omega
     obtain⟨x,hx⟩:∃x,ps[q]? =some x:=⟨ps[q]'(by rw[HLp.out];exact hlt),au _⟩
     obtain⟨hx1,hx2⟩:1<=x/\x<=200:=by
      have h9:=HPAR.out;simp only[KA,az,bq] at h9;exact sR.1 (h9.1 x (aK hx))
     obtain⟨m,rfl⟩:∃m:Nat,x=(m:Int):=⟨x.toNat,by omega⟩
     have hps:=HPI.out.ext HV.out.2.2.1;obtain⟨b3,o3,rfl,hcx,hi1,hi2⟩:=hps.2.2 q hlt;have hgd:ps.getD q 0=(m:Int):=by rw[ax,hx];rfl
     rw[hgd] at hcx;have hm1:(m:Int)<201:=by omega
     have hput:=HV.out.put (k:=0) h0 (j:=m) (by omega) true;rw[XE ps k q m hx,bx,aW] at hput;have hpc:=IU HV.out.2.1 (k:=0) (j:=m) h0 (by omega);have hpf:=(NF HV.out.2.1 (k:=0) (j:=m) h0 (by omega) true).2;have hgl:w.heap.size+1<wr.heap.size:=HV.out.2.2.2;rw[bx,aW] at hpc hpf;have HP:=ac hput;clear hput hps hgd hi1 hi2 hx;go_wp2
     go_roundw
     case rel=>exact⟨q+1,by go_num,by omega,HP⟩
     case measure=>simp[intOf];omega
    .obtain rfl:q=pn:=by omega
     have hlt':¬(q:Int)<(q:Int):=by omega
     have hVO:qE ps (iL bs) (zT ps k q):=by
      have:=li ps (iL bs)
      rwa [mD,HLb.out,HLp.out] at this
     have HVO:=ac hVO;have hTO:=UN HIN.out;have HTO:=ac hTO;clear hVO hTO;go_wp2
     go_loopg [7] (2*tot 201 k (zT ps k q)+1) (λgg s7 wx=>∃(mv:Bool) (I:Nat->Nat->Bool),s7=.bool mv/\Hid (VJ w fo k I wx)/\Hid (qE ps (iL bs) I)/\Hid (2*tot 201 k I+(if mv then 1 else 0)<=gg)/\Hid (mv=false->xR (iL bs) I k 0))
     case atStart=>exact⟨true,_,rfl,HV,HVO,by simp[Hid],λe=>by cases e⟩
     case round=>
      obtain⟨mv,I0,rfl,HV0,HO0,HG0,HC0⟩:=hrel;clear HV HVO;cases mv with
      |false=>
       have HCL:=ac (HC0.out rfl);have HAN:Hid ((∀b,b<k->∀v,lC (jN (iL bs) b).ops (jN (iL bs) b).nd v=1->I0 b v.toNat=true)↔nW ps (iL bs)=false):=by
        have h9:=HO0.out.any (by rw[mD,HLb.out];exact h0) (ZE bs) λb hb c hc v hv hi=>by
         obtain⟨j,hj,e⟩:=a8.1 hc;exact HCL.out b hb j c (by rw[au hj,e]) (.inl (by rw[mD,HLb.out] at hb;exact hb)) v hv hi
        rwa [mD,HLb.out] at h9
       have hbl:wr.cell? ⟨w.heap.size,1,none⟩=some (.slice ba k bc):=by have:=HV0.out.1;rw[HFO.out] at this;rw[bd _ _ _ _ _ _ this];rfl
       have hgl:w.heap.size+1<wr.heap.size:=HV0.out.2.2.2;clear HC0 HCL HG0 HO0;go_wp2;clear hbl hgl
       go_loopw [2,102] (λs2 i wz=>∃q:Nat,i=.int .i64 q/\s2=.bool false/\q<=k/\Hid (VJ w fo k I0 wz)/\Hid (∀b,b<q->∀v,lC (jN (iL bs) b).ops (jN (iL bs) b).nd v=1->I0 b v.toNat=true)) (λ_ i _=>k-(intOf i).toNat)
       case atStart=>exact⟨0,rfl,rfl,by omega,HV0,λb hb=>by omega⟩
       case round=>
        obtain⟨q,rfl,rfl,hq,HV,HQ⟩:=hrel;clear HV0;by_cases hlt:q<k
        .obtain⟨r,bb,oo,hr,hok,rfl,c0,c1,c2,c3,c4⟩:=pJ (HB.out.ext HV.out.2.2.1) hlt;have HRR:=ac hr;have HOK:Hid (wM w r):=HB.out.2 r (aK hr);have hlt':(q:Int)<(k:Int):=by omega
         have HTX:Hid (jN (iL bs) q=bkL r):=xQ hr;have HPB:Hid (oG (I0 q) r.rs r.h.t=true↔∀v,lC (jN (iL bs) q).ops (jN (iL bs) q).nd v=1->I0 q v.toNat=true):=by
          rw[HTX.out];exact tI r.h.t r.rs (I0 q)
         clear hr hok;go_upto_region 36 with (fail)
         obtain⟨Wi,hWi⟩:∃Wi,Wi=wr.alloc (kP r.h):=⟨_,rfl⟩
         rw[show wr.alloc (Obj.cells #[.slice r.h.ia r.h.n r.h.c,.int .i64 r.h.t.kind,.int .i64 r.h.t.a,.int .i64 r.h.t.t0,.int .i64 r.h.t.t1] 31)=Wi from hWi.symm];obtain⟨P17,hP17⟩:∃p,p=wr.heap.size:=⟨_,rfl⟩
         have hxi:Wi.heap[P17]? =some (kP r.h):=by rw[hWi,hP17];exact ai _ _
         have hbi:Below wr.heap.size wr Wi:=by rw[hWi];exact eD _ _
         rw[<-hP17];have HVI:=ac (HV.out.ext hbi);have HX:=ac hxi;have HNAr:=ac (HNA.out r (aK HRR.out));have hgl:w.heap.size+1<Wi.heap.size:=HVI.out.2.2.2;clear hWi hxi hbi c0 c1 c2 c3 c4 HV hP17;have HCALL:=ac (λW (hb:Below Wi.heap.size Wi W)=>VV (I0 q) r.h r.rs W HOK.out.1 ((HOK.out.2.ext HVI.out.2.2.1).ext hb) HNAr.out);have QX:Hid (∀w',(∃n':eH Wi,w'=n'.val)->w'.heap[P17]? =some (kP r.h)):=λw' ⟨n',e⟩=>by rw[e];exact eB n'.ext HX.out
         have QI:Hid (∀w',(∃n':eH Wi,w'=n'.val)->w'.rangeAt (w.heap.size+1) (q*201) (vsC (I0 q))):=λw' ⟨n',e⟩=>by rw[e];exact qL (jE.ext HVI.out.2.1 n'.ext) hlt
         have HNE:Nonempty (eH Wi):=⟨⟨Wi,ao _ _⟩⟩
         have hgl5:∀n':eH Wi,w.heap.size+1<n'.val.heap.size:=λn'=>(HVI.out.ext n'.ext).2.2.2;have HFIN:Hid (∀W5,Below Wi.heap.size Wi W5->(oG (I0 q) r.rs r.h.t=false->nW ps (iL bs)=true/\Below w.heap.size w W5)/\(oG (I0 q) r.rs r.h.t=true->VJ w fo k I0 W5/\∀b,b<q+1->∀v,lC (jN (iL bs) b).ops (jN (iL bs) b).nd v=1->I0 b v.toNat=true)):=λW5 hb=>by
          have hV5:=HVI.out.ext hb;refine⟨λhpb=>⟨?_,hV5.2.2.1⟩,λhpb=>⟨hV5,λb hb=>?_⟩⟩
          .cases hx:nW ps (iL bs) with
           |true=>rfl
           |false=>
            have:=HPB.out.2 (HAN.out.2 hx q hlt);rw[hpb] at this;cases this
          .by_cases e:b=q
           .subst e;exact HPB.out.1 hpb
           .exact HQ.out b (by omega)
         obtain⟨v0,hv0,hb0⟩:∃v0,Wi.drew=v0/\Below Wi.heap.size Wi v0:=⟨_,rfl,eS (ao _ _) 1⟩
         refine iZ (λw'=>∃n':eH Wi,w'=n'.val) (by kernel_rfl) ?_;rw[hv0];refine eK 0 5 (by kernel_rfl) ⟨⟨v0,hb0⟩,rfl⟩ ?_;simp only[ak,aq,aj,ap]
         repeat (first
          |((with_reducible show wpQuiet _ _ _ _ (⟨some 111,_,_,_,_,_⟩ :: _) _);refine sJ (o:=⟨some 111,.load 179 _,_,_,_,_⟩) (by kernel_rfl) 179 _ rfl (w.heap.size+1) (q*201) rfl (vsC (I0 q)) _ QI.out bV rfl (xU _) ?_;simp only[CP,Act.put,ae,ah,ag])
          |((with_reducible show wpQuiet _ _ _ _ (⟨some 112,_,_,_,_,_⟩ :: _) _);refine eP (o:=⟨some 112,.load 31 _,_,_,_,_⟩) (by kernel_rfl) 31 _ rfl P17 rfl 31 _ (0,0) _ QX.out bS rfl WK ?_;simp only[Act.put,ae,ah,ag])
          |go_big_quiet_step (fail))
         refine ar ?_;clear QX QI hv0 hgl5;have HB0:=ac hb0;clear hb0;cases hpb:oG (I0 q) r.rs r.h.t with
         |false=>
          refine lU 5 9 (by kernel_rfl) ?_ ?_
          .refine eE rfl rfl ?_;go_simp;refine(HCALL.out v0 HB0.out).mono ?_;rw[hpb];rintro e v1 ⟨h7,rfl,hb⟩;have HB1:=ac (eA HB0.out hb);clear hb;refine⟨Or.inr ⟨⟨v1,HB1.out⟩,rfl⟩,?_⟩
           try simp only[Act.put,ae,ah,ag]
           refine eK 6 3 (by kernel_rfl) ⟨⟨v1,HB1.out⟩,rfl⟩ ?_;simp only[ak,aq,aj,ap]
           repeat (go_big_quiet_step (fail))
           refine ar ?_;refine eO 9 (by kernel_rfl) ?_;refine eE rfl rfl ?_;go_simp;obtain⟨v2,hv⟩:∃x,x=v1.alloc (.cells Tryz.zeroCells179 179):=⟨_,rfl⟩
           obtain⟨P18,hP18⟩:∃p,p=v1.heap.size:=⟨_,rfl⟩
           have hz:v2.heap[P18]? =some (vsO λ_=>false):=by rw[hv,hP18,ai,lN]
           have hb:Below v1.heap.size v1 v2:=by rw[hv];exact eD _ _
           have HPG:Hid (Wi.heap.size<=P18):=by rw[Hid,hP18];exact HB1.out.size
           rw[<-hv,<-hP18];have HZ:=ac hz;have HB2:=ac (eA HB1.out hb);clear hb hv hP18 hz;refine⟨Or.inr ⟨⟨v2,HB2.out⟩,rfl⟩,?_⟩
           try simp only[Act.put,ae,ah,ag]
           refine eO 10 (by kernel_rfl) ?_;refine eE rfl rfl ?_;refine aE 179 _ _ rfl P18 (fZ h7) rfl rfl 179 _ HZ.out (jO _) (by rw[fT,fT]) (kU _) ?_;obtain⟨v4,hv4⟩:∃x,x=v2.setRow P18 (fZ h7):=⟨_,rfl⟩
           have HB4:Hid (Below Wi.heap.size Wi v4):=by rw[Hid,hv4];exact aA HB2.out HPG.out _
           rw[<-hv4];clear hv4;refine⟨Or.inr ⟨⟨v4,HB4.out⟩,rfl⟩,?_⟩
           try simp only[Act.put,ae,ah,ag]
           refine eK 11 1 (by kernel_rfl) ⟨⟨v4,HB4.out⟩,rfl⟩ ?_;simp only[ak,aq,aj,ap]
           repeat (go_big_quiet_step (fail))
           refine ar ?_;refine fJ (by kernel_rfl) ?_;have HE:=ac ((HFIN.out v4 HB4.out).1 hpb);clear hpb;go_wp2
           go_ret
           exact⟨by rw[HE.out.1];rfl,HE.out.2⟩
          .refine eE rfl rfl ?_;go_simp;obtain⟨v1,hv⟩:∃x,x=v0.alloc (.cells Tryz.zeroCells179 179):=⟨_,rfl⟩
           obtain⟨P18,hP18⟩:∃p,p=v0.heap.size:=⟨_,rfl⟩
           have hz:v1.heap[P18]? =some (vsO λ_=>false):=by rw[hv,hP18,ai,lN]
           have hb:Below v0.heap.size v0 v1:=by rw[hv];exact eD _ _
           have HPG:Hid (Wi.heap.size<=P18):=by rw[Hid,hP18];exact HB0.out.size
           rw[<-hv,<-hP18];have HZ:=ac hz;have HB1:=ac (eA HB0.out hb);clear hb hv hP18 hz;refine⟨Or.inr ⟨⟨v1,HB1.out⟩,rfl⟩,?_⟩
           try simp only[Act.put,ae,ah,ag]
           refine eO 5 (by kernel_rfl) ?_;refine eE rfl rfl ?_;go_simp;refine(HCALL.out v1 HB1.out).mono ?_;rw[hpb];rintro e v2 ⟨h7,rfl,hb⟩;have HZ2:=ac (eB hb HZ.out);have HB2:=ac (eA HB1.out hb);clear hb;refine⟨Or.inr ⟨⟨v2,HB2.out⟩,rfl⟩,?_⟩
           try simp only[Act.put,ae,ah,ag]
           refine eK 6 3 (by kernel_rfl) ⟨⟨v2,HB2.out⟩,rfl⟩ ?_;simp only[ak,aq,aj,ap]
           repeat (go_big_quiet_step (fail))
           refine ar ?_;refine eO 10 (by kernel_rfl) ?_;refine eE rfl rfl ?_;refine aE 179 _ _ rfl P18 (fZ h7) rfl rfl 179 _ HZ2.out (jO _) (by rw[fT,fT]) (kU _) ?_;obtain⟨v4,hv4⟩:∃x,x=v2.setRow P18 (fZ h7):=⟨_,rfl⟩
           have HB4:Hid (Below Wi.heap.size Wi v4):=by rw[Hid,hv4];exact aA HB2.out HPG.out _
           rw[<-hv4];clear hv4;refine⟨Or.inr ⟨⟨v4,HB4.out⟩,rfl⟩,?_⟩
           try simp only[Act.put,ae,ah,ag]
           refine eK 11 1 (by kernel_rfl) ⟨⟨v4,HB4.out⟩,rfl⟩ ?_;simp only[ak,aq,aj,ap]
           repeat (go_big_quiet_step (fail))
           refine ar ?_;refine fJ (by kernel_rfl) ?_;have HE:=ac ((HFIN.out v4 HB4.out).1 hpb);clear hpb;go_wp2
           go_ret
           exact⟨by rw[HE.out.1];rfl,HE.out.2⟩
         |true=>
          refine lU 5 9 (by kernel_rfl) ?_ ?_
          .refine eE rfl rfl ?_;go_simp;refine(HCALL.out v0 HB0.out).mono ?_;rw[hpb];rintro e v1 ⟨h7,rfl,hb⟩;have HB1:=ac (eA HB0.out hb);clear hb;refine⟨Or.inr ⟨⟨v1,HB1.out⟩,rfl⟩,?_⟩
           try simp only[Act.put,ae,ah,ag]
           refine eK 6 3 (by kernel_rfl) ⟨⟨v1,HB1.out⟩,rfl⟩ ?_;simp only[ak,aq,aj,ap]
           repeat (go_big_quiet_step (fail))
           refine ar ?_;refine eO 9 (by kernel_rfl) ?_;refine eE rfl rfl ?_;go_simp;obtain⟨v2,hv⟩:∃x,x=v1.alloc (.cells Tryz.zeroCells179 179):=⟨_,rfl⟩
           obtain⟨P18,hP18⟩:∃p,p=v1.heap.size:=⟨_,rfl⟩
           have hz:v2.heap[P18]? =some (vsO λ_=>false):=by rw[hv,hP18,ai,lN]
           have hb:Below v1.heap.size v1 v2:=by rw[hv];exact eD _ _
           have HPG:Hid (Wi.heap.size<=P18):=by rw[Hid,hP18];exact HB1.out.size
           rw[<-hv,<-hP18];have HZ:=ac hz;have HB2:=ac (eA HB1.out hb);clear hb hv hP18 hz;refine⟨Or.inr ⟨⟨v2,HB2.out⟩,rfl⟩,?_⟩
           try simp only[Act.put,ae,ah,ag]
           refine eO 10 (by kernel_rfl) ?_;refine eE rfl rfl ?_;refine aE 179 _ _ rfl P18 (fZ h7) rfl rfl 179 _ HZ.out (jO _) (by rw[fT,fT]) (kU _) ?_;obtain⟨v4,hv4⟩:∃x,x=v2.setRow P18 (fZ h7):=⟨_,rfl⟩
           have HB4:Hid (Below Wi.heap.size Wi v4):=by rw[Hid,hv4];exact aA HB2.out HPG.out _
           rw[<-hv4];clear hv4;refine⟨Or.inr ⟨⟨v4,HB4.out⟩,rfl⟩,?_⟩
           try simp only[Act.put,ae,ah,ag]
           refine eK 11 1 (by kernel_rfl) ⟨⟨v4,HB4.out⟩,rfl⟩ ?_;simp only[ak,aq,aj,ap]
           repeat (go_big_quiet_step (fail))
           refine ar ?_;refine fJ (by kernel_rfl) ?_;have HE:=ac ((HFIN.out v4 HB4.out).2 hpb);clear hpb;go_wp2
           go_roundw
           case rel=>exact⟨q+1,by go_num,rfl,by omega,HE.out.1,HE.out.2⟩
           case measure=>simp[intOf];omega
          .refine eE rfl rfl ?_;go_simp;obtain⟨v1,hv⟩:∃x,x=v0.alloc (.cells Tryz.zeroCells179 179):=⟨_,rfl⟩
           obtain⟨P18,hP18⟩:∃p,p=v0.heap.size:=⟨_,rfl⟩
           have hz:v1.heap[P18]? =some (vsO λ_=>false):=by rw[hv,hP18,ai,lN]
           have hb:Below v0.heap.size v0 v1:=by rw[hv];exact eD _ _
           have HPG:Hid (Wi.heap.size<=P18):=by rw[Hid,hP18];exact HB0.out.size
           rw[<-hv,<-hP18];have HZ:=ac hz;have HB1:=ac (eA HB0.out hb);clear hb hv hP18 hz;refine⟨Or.inr ⟨⟨v1,HB1.out⟩,rfl⟩,?_⟩
           try simp only[Act.put,ae,ah,ag]
           refine eO 5 (by kernel_rfl) ?_;refine eE rfl rfl ?_;go_simp;refine(HCALL.out v1 HB1.out).mono ?_;rw[hpb];rintro e v2 ⟨h7,rfl,hb⟩;have HZ2:=ac (eB hb HZ.out);have HB2:=ac (eA HB1.out hb);clear hb;refine⟨Or.inr ⟨⟨v2,HB2.out⟩,rfl⟩,?_⟩
           try simp only[Act.put,ae,ah,ag]
           refine eK 6 3 (by kernel_rfl) ⟨⟨v2,HB2.out⟩,rfl⟩ ?_;simp only[ak,aq,aj,ap]
           repeat (go_big_quiet_step (fail))
           refine ar ?_;refine eO 10 (by kernel_rfl) ?_;refine eE rfl rfl ?_;refine aE 179 _ _ rfl P18 (fZ h7) rfl rfl 179 _ HZ2.out (jO _) (by rw[fT,fT]) (kU _) ?_;obtain⟨v4,hv4⟩:∃x,x=v2.setRow P18 (fZ h7):=⟨_,rfl⟩
           have HB4:Hid (Below Wi.heap.size Wi v4):=by rw[Hid,hv4];exact aA HB2.out HPG.out _
           rw[<-hv4];clear hv4;refine⟨Or.inr ⟨⟨v4,HB4.out⟩,rfl⟩,?_⟩
           try simp only[Act.put,ae,ah,ag]
           refine eK 11 1 (by kernel_rfl) ⟨⟨v4,HB4.out⟩,rfl⟩ ?_;simp only[ak,aq,aj,ap]
           repeat (go_big_quiet_step (fail))
           refine ar ?_;refine fJ (by kernel_rfl) ?_;have HE:=ac ((HFIN.out v4 HB4.out).2 hpb);clear hpb;go_wp2
           go_roundw
           case rel=>exact⟨q+1,by go_num,rfl,by omega,HE.out.1,HE.out.2⟩
           case measure=>simp[intOf];omega
        .obtain rfl:q=k:=by omega
         have hlt':¬(q:Int)<(q:Int):=by omega
         have HE:Hid (nW ps (iL bs)=false):=HAN.out.1 HQ.out;go_wp2
         go_ret
         exact⟨by rw[HE.out];rfl,HV.out.2.2.1⟩
      |true=>
       clear HC0;have hbl:wr.cell? ⟨w.heap.size,1,none⟩=some (.slice ba k bc):=by have:=HV0.out.1;rw[HFO.out] at this;rw[bd _ _ _ _ _ _ this];rfl
       have hgl:w.heap.size+1<wr.heap.size:=HV0.out.2.2.2;go_wp2;clear hbl hgl
       go_loopw [7,53] (λs7 i wy=>∃(b:Nat) (mv:Bool) (I:Nat->Nat->Bool),i=.int .i64 b/\s7=.bool mv/\b<=k/\Hid (VJ w fo k I wy)/\Hid (qE ps (iL bs) I)/\Hid (mv=false->I=I0/\xR (iL bs) I b 0)/\Hid (mv=true->tot 201 k I<tot 201 k I0)) (λ_ i _=>k-(intOf i).toNat)
       case atStart=>exact⟨0,false,I0,rfl,rfl,by omega,HV0,HO0,λ_=>⟨rfl,λb _ j c _ h=>by omega⟩,λe=>by cases e⟩
       case round=>
        obtain⟨b,mv,I1,rfl,rfl,hb,HV1,HO1,HC1,HT1⟩:=hrel;by_cases hblt:b<k
        .have hblt':(b:Int)<(k:Int):=by omega
         obtain⟨r,bb,oo,hr,hok,rfl,c0,c1,c2,c3,c4⟩:=pJ (HB.out.ext HV1.out.2.2.1) hblt;have HRR:=ac hr;have HOK:Hid (wM w r):=HB.out.2 r (aK hr);have hgl:w.heap.size+1<wr.heap.size:=HV1.out.2.2.2;have hnr:=HOK.out.2.1.2.1;clear hr hok;go_upto_region 19 with (fail)
         obtain⟨Wi,hWi⟩:∃Wi,Wi=wr.alloc (kP r.h):=⟨_,rfl⟩
         rw[show wr.alloc (Obj.cells #[.slice r.h.ia r.h.n r.h.c,.int .i64 r.h.t.kind,.int .i64 r.h.t.a,.int .i64 r.h.t.t0,.int .i64 r.h.t.t1] 31)=Wi from hWi.symm];obtain⟨P9,hP9⟩:∃p,p=wr.heap.size:=⟨_,rfl⟩
         have hxi:Wi.heap[P9]? =some (kP r.h):=by rw[hWi,hP9];exact ai _ _
         have hbi:Below wr.heap.size wr Wi:=by rw[hWi];exact eD _ _
         have hsi:Wi.heap.size=P9+1:=by rw[hWi,hP9];simp
         rw[<-hP9] at hgl|-;have HVI:=ac (HV1.out.ext hbi);have HXI:=ac hxi;have HSI:=ac hsi;clear hWi hxi hbi hsi c0 c1 c2 c3 c4 HV1 hP9;have hrg:=qL HVI.out.2.1 hblt;have hz:(Wi.alloc (.cells Tryz.zeroCells179 179)).heap[Wi.heap.size]? =some (.cells Tryz.zeroCells179 179 (0,0)):=ai _ _
         go_upto_region 20 with (first
          |((with_reducible show wpList _ _ _ (⟨some 61,.load _ _,_,_,_,_⟩ :: _) _ _);refine wpList_load_mid rfl 179 _ rfl (w.heap.size+1) (b*201) rfl (vsC (I1 b)) _ hrg bV rfl (xU _) ?_;rw[CP])
          |((with_reducible show wpList _ _ _ (⟨none,.store 179 _ _,_,_,_,_⟩ :: _) _ _);refine aU rfl 179 _ _ rfl Wi.heap.size (fZ (I1 b)) rfl rfl 179 _ hz (jO _) (by rw[lN,fT,fT]) (kU _) ?_))
         obtain⟨W3,hW3⟩:∃W3,W3=(Wi.alloc (.cells Tryz.zeroCells179 179)).setRow Wi.heap.size (fZ (I1 b)):=⟨_,rfl⟩
         rw[<-hW3];have hb3:Below Wi.heap.size Wi W3:=by rw[hW3];exact aA (eD _ _) (aw _) _
         have ho3:W3.heap[P9+1]? =some (vsO (I1 b)):=by rw[hW3,HSI.out];exact aG _ _ _ _ _ _ (by rw[<-HSI.out];exact hz)
         rw[HSI.out];have HV3:=ac (HVI.out.ext hb3);have HX3:=ac (eB hb3 HXI.out);have HO3:=ac ho3;have b0:=cK 0 HX3.out rfl;have hl9:=eT HX3.out;clear hW3 hb3 ho3 hrg hz HVI HXI HSI;go_wp2;clear b0 hl9
         go_loopw [65] (λi wz=>∃q:Nat,i=.int .i64 q/\q<=r.h.n/\Hid (VJ w fo k I1 wz)/\Hid (wz.heap[P9]? =some (kP r.h))/\Hid (wz.heap[P9+1]? =some (vsO (mQ (I1 b) (r.rs.take q))))) (λi _=>r.h.n-(intOf i).toNat)
         case atStart=>exact⟨0,rfl,by omega,HV3,HX3,HO3⟩
         case round=>
          obtain⟨q,rfl,hq,HV4,HX4,HO4⟩:=hrel;clear HV3 HX3 HO3;by_cases hqlt:q<r.h.n
          .have hqlt':(q:Int)<(r.h.n:Int):=by omega
           obtain⟨x,xb,xo,hx,hxok,hia,d0,d1,d2,d3,d4,d5,d6,d7⟩:=(HOK.out.2.ext HV4.out.2.2.1).cells hqlt;have HST:=ac (IR (I1 b) r.rs q x hx);generalize mQ (I1 b) (r.rs.take q)=fk at *;rw[hia];have HXOK:=ac hxok;clear hx hxok;go_upto_region 23 with (fail)
           obtain⟨Wj,hWj⟩:∃Wj,Wj=wr.alloc (zY x.d x.aa x.na x.ca):=⟨_,rfl⟩
           have hrj:Wj.heap[wr.heap.size]? =some (zY x.d x.aa x.na x.ca):=by rw[hWj];exact ai _ _
           have hbj:Below wr.heap.size wr Wj:=by rw[hWj];exact eD _ _
           rw[show wr.alloc (Obj.cells #[.int .i64 x.d.op,.int .i64 x.d.dst,.int .i64 x.d.a,.int .i64 x.d.b,.int .i64 x.d.imm,.int .i64 x.d.callee,.slice x.aa x.na x.ca,.int .i64 x.d.many] 62)=Wj from hWj.symm];have HRJ:=ac hrj;have HVJ:=ac (HV4.out.ext hbj);have HXJ:=ac (eB hbj HX4.out);have HOJ:=ac (eB hbj HO4.out);have HXKJ:=ac (HXOK.out.ext hbj);obtain⟨m,hm⟩:∃m:Nat,fG x.d=(m:Int):=⟨(fG x.d).toNat,by have:=(nL x.d).1;omega⟩
           have hml:m<201:=by have:=(nL x.d).2;omega
           have HMD:=ac hm;have HS1:Hid (mQ (I1 b) (r.rs.take (q+1))=CH fk m):=by rw[Hid,HST.out,HMD.out];rfl
           clear hWj hrj hbj d0 d1 d2 d3 d4 d5 d6 d7 hia hm HV4 HX4 HO4 HXOK HST
           go_wp2_with (first
            |((with_reducible show wpList _ _ _ (⟨some 69,_,_,_,_,_⟩ :: _) _ _);refine ay (o:=⟨some 69,.load 62 _,_,_,_,_⟩) rfl 62 _ rfl wr.heap.size rfl 62 _ (0,0) _ HRJ.out bT rfl vI ?_)
            |(go_at_call 67
              refine(vX x.d x.aa x.na x.ca Wj HXKJ.out.1 HXKJ.out.2.2.2.2.1 HXKJ.out.2.2.2.2.2.1 HXKJ.out.2.2.2.2.2.2.1 HXKJ.out.2.2.2.2.2.2.2.1).mono ?_;rw[HMD.out];rintro e w3 ⟨rfl,hb3⟩;have HVK:=ac (HVJ.out.ext hb3);have HXK:=ac (eB hb3 HXJ.out);have HOK2:=ac (eB hb3 HOJ.out);have hcell:=oL HOK2.out m hml;have hfr:=sD HOK2.out m;have hl3:=eT HOK2.out;have hmi:(m:Int)<201:=(by omega)
              clear hb3))
           have hcx:Chg (λj=>j=P9+1) w3 (w3.setCell ⟨P9+1,m,none⟩ (.bool true)):=(Chg.refl (λj=>j=P9+1) w3).setCell (p:=⟨P9+1,m,none⟩) (.inl rfl) _
           go_roundw
           case rel=>exact⟨q+1,by go_num,by omega,HVK.out.chg hcx (λj e=>by omega),(by rw[Hid,bf _ _ _ _ (by simp)];exact HXK.out),(by rw[Hid,HS1.out];exact uF HOK2.out m true λj _=>rfl)⟩
           case measure=>simp[intOf];omega
          .obtain rfl:q=r.h.n:=by omega
           have hrl:r.rs.length=r.h.n:=HOK.out.2.1.1;have HO5:Hid (wr.heap[P9+1]? =some (vsO (mQ (I1 b) r.rs))):=by
            have:=HO4.out
            rwa [bF (by omega)] at this
           have hbk:b<(iL bs).length:=by rw[mD,HLb.out];exact hblt
           have HTX:Hid (jN (iL bs) b=bkL r):=xQ HRR.out;have HOE:Hid (∀v,mQ (I1 b) r.rs v=DB (jN (iL bs) b).ops (I1 b) v):=λv=>by rw[HTX.out];exact gx r.rs (I1 b) v
           have HOO:Hid (∀v:Nat,1<=v->v<201->mQ (I1 b) r.rs v=false->wL (iL bs) ps (v:Int) b/\DL (jN (iL bs) b).ops (v:Int)=false):=λv h1 h2 h3=>HO1.out.out hbk v h1 h2 (by rw[<-HOE.out];exact h3);generalize mQ (I1 b) r.rs=O at *;have hqlt':¬(r.h.n:Int)<(r.h.n:Int):=by omega
           obtain⟨-,t1,t2,t3,t4⟩:=nN HX4.out rfl;have hli:=eT HX4.out;have hgw:w.heap.size+2<=wr.heap.size:=by have:=HV4.out.2.2.2;omega
           clear HO4 hqlt hq hrl
           go_wp2_with (
            (go_at_call 109
             refine(zW r.h.t wr HOK.out.1).mono ?_;rintro e w2 ⟨v,rfl,ho,hb⟩;obtain⟨va,vc,rfl⟩:=ho.form;have HT2:Hid (fQ w2 (w.heap.size+2) (.slice va (toD r.h.t).length vc) (toD r.h.t)):=ho.mono hgw;have HV2:=ac (HV4.out.ext hb);have HX2:=ac (eB hb HX4.out);have HO2:=ac (eB hb HO5.out)
             clear ho hb t1 t2 t3 t4 hli))
           clear HV4 HX4 HO5 hgw;have hlen:=sS r.h.t
           go_loopw [7,77] (λs7 i wz=>∃(q:Nat) (mv2:Bool) (I:Nat->Nat->Bool),i=.int .i64 q/\s7=.bool mv2/\q<=(toD r.h.t).length/\Hid (VJ w fo k I wz)/\Hid (wz.heap[P9]? =some (kP r.h))/\Hid (wz.heap[P9+1]? =some (vsO O))/\Hid (fQ wz (w.heap.size+2) (.slice va (toD r.h.t).length vc) (toD r.h.t))/\Hid (qE ps (iL bs) I)/\Hid (mv2=false->I=I0/\I1=I0/\xR (iL bs) I b q)/\Hid (mv2=true->tot 201 k I<tot 201 k I0)) (λ_ i _=>(toD r.h.t).length-(intOf i).toNat)
           case atStart=>exact⟨0,mv,I1,rfl,rfl,by omega,HV2,HX2,HO2,HT2,HO1,λe=>⟨(HC1.out e).1,(HC1.out e).1,(HC1.out e).2⟩,HT1⟩
           case round=>
            obtain⟨q,mv2,I,rfl,rfl,hq,HV,HX,HO,HT,HOK2,HC2,HTT⟩:=hrel;clear HV2 HX2 HO2 HT2;by_cases hql:q<(toD r.h.t).length
            .obtain⟨x,hx⟩:∃x,(toD r.h.t)[q]? =some x:=⟨(toD r.h.t)[q],au hql⟩
             have hto1:1<=x/\x<(k:Int):=by
              have h9:=bq.1 HIN.out r (aK HRR.out);have h10:=bq.1 h9 x (aK hx);rw[HLb.out] at h10;simpa using h10
             obtain⟨c,rfl⟩:∃c:Nat,x=(c:Int):=⟨x.toNat,by omega⟩
             have hc2:c<k:=by omega
             have hci:(c:Int)<(k:Int):=by omega
             have hgd:(toD r.h.t).getD q 0=(c:Int):=by rw[ax,hx];rfl
             obtain⟨b3,o3,e3,hcx,hx1,hx2⟩:=HT.out.ints.2.2 q hql;subst e3;rw[hgd] at hcx;have HTQ:Hid ((jN (iL bs) b).to[q]? =some c):=by
              rw[HTX.out];show((toD r.h.t).map Int.toNat)[q]? =some c;rw[dv,hx];simp
             have hql':(q:Int)<((toD r.h.t).length:Int):=by omega
             have hgl2:w.heap.size+1<wr.heap.size:=HV.out.2.2.2;clear hx hgd hx1 hx2 hto1;go_upto_region 28 with (fail)
             refine kZ 7 [some 81,some 82,some 83,some 84,some 85,some 86,some 15] (by kernel_rfl) (by kernel_rfl) (jL [.val (.slice (some ⟨w.heap.size+1,0,none⟩) k k),.val (.int .i64 (c:Int)),.val (.pointer (some ⟨w.heap.size+1,c*201,none⟩)),.val (.agg (fZ (I c))),.val (.agg (fZ O)),.val (.agg (fZ λv=>I c v&&O v)),.new (vsO λ_=>false)]) (kC ?_) ?_ ?_
             .intro k hk;simp only[aH,a7,bW] at hk;rcases hk with rfl|rfl|rfl|rfl|rfl|rfl|rfl<;>try exact trivial
             .intro i hi ν lo hi' w1 K hB hD hK;have hcase:i=0\/i=1\/i=2\/i=3\/i=4\/i=5\/i=6:=by omega
              clear hi;rcases hcase with rfl|rfl|rfl|rfl|rfl|rfl|rfl
              .clear hD;refine eJ rfl rfl ?_;simp only[zA,zB,zC,zD,zE,zF,zJ,zK,zG,zH,zI] at hK|-;go_simp;exact hK _ _ (ao _ _) rfl
              .clear hD;refine eJ rfl rfl ?_;simp only[zA,zB,zC,zD,zE,zF,zJ,zK,zG,zH,zI] at hK|-;go_simp;exact hK _ _ (ao _ _) rfl
              .have e0:ν 0=(.slice (some ⟨w.heap.size+1,0,none⟩) k k):=hD 0 (by kernel_rfl);have e1:ν 1=(.int .i64 (c:Int)):=hD 1 (by kernel_rfl);clear hD;refine eJ rfl rfl ?_;simp only[zA,zB,zC,zD,zE,zF,zJ,zK,zG,zH,zI,e0,e1] at hK|-;go_simp;exact hK _ _ (ao _ _) rfl
              .have e2:ν 2=(.pointer (some ⟨w.heap.size+1,c*201,none⟩)):=hD 2 (by kernel_rfl);clear hD;refine eJ rfl rfl ?_;simp only[zA,zB,zC,zD,zE,zF,zJ,zK,zG,zH,zI,e2] at hK|-;refine wp_load_mid 179 _ rfl (w.heap.size+1) (c*201) rfl (vsC (I c)) _ (qL (jE.ext HV.out.2.1 hB) hc2) bV rfl (xU _) ?_;rw[CP];exact hK _ _ (ao _ _) rfl
              .clear hD;refine eJ rfl rfl ?_;simp only[zA,zB,zC,zD,zE,zF,zJ,zK,zG,zH,zI] at hK|-;refine bX 179 _ rfl (P9+1) rfl 179 _ (0,0) _ (eB hB HO.out) bV rfl (jO _) ?_;exact hK _ _ (ao _ _) rfl
              .have e3:ν 3=(.agg (fZ (I c))):=hD 3 (by kernel_rfl);have e4:ν 4=(.agg (fZ O)):=hD 4 (by kernel_rfl);clear hD;refine eJ rfl rfl ?_;simp only[zA,zB,zC,zD,zE,zF,zJ,zK,zG,zH,zI,e3,e4] at hK|-;go_simp;refine(VW (I c) O w1).mono ?_;rintro e w2 ⟨rfl,hb2⟩;exact hK _ _ hb2 rfl
              .clear hD;refine eJ rfl rfl ?_;simp only[zA,zB,zC,zD,zE,zF,zJ,zK,zG,zH,zI] at hK|-;go_simp;refine hK _ _ (eD _ _) ⟨rfl,by simp,?_⟩;rw[ai,lN]
             .intro ν lo hi w1 hB hS hI hD;have e0:ν 0=(.slice (some ⟨w.heap.size+1,0,none⟩) k k):=hS 0 (by omega);have e1:ν 1=(.int .i64 (c:Int)):=hS 1 (by omega);have e2:ν 2=(.pointer (some ⟨w.heap.size+1,c*201,none⟩)):=hS 2 (by omega);have e3:ν 3=(.agg (fZ (I c))):=hS 3 (by omega);have e4:ν 4=(.agg (fZ O)):=hS 4 (by omega);have e5:ν 5=(.agg (fZ λv=>I c v&&O v)):=hS 5 (by omega);obtain⟨e6,l6,h6⟩:=hS 6 (by omega);clear hS;simp only[aj,ap,zA,zB,zC,zD,zE,zF,zJ,zK,zG,zH,zI,e0,e1,e2,e3,e4,e5,e6];have i6:=hI 6 (by omega);generalize lo 6=P15 at *;have hp10:P9+1<wr.heap.size:=(am.1 HO.out).1;have HV1:=ac (HV.out.ext hB);have HO1:=ac (eB hB HO.out);have HX1:=ac (eB hB HX.out);have HW1:=ac (HT.out.ext hB);have htl:b3<wr.heap.size:=(HT.out.1.lt b3 rfl).2;have HZ:=ac h6;have HQ1:=ac i6.1;clear hI hD hB e0 e1 e2 e3 e4 e5 e6 h6 i6
              go_wp2_with ((with_reducible show wpList _ _ _ (⟨none,.store 179 _ _,_,_,_,_⟩ :: _) _ _);refine aU rfl 179 _ _ rfl P15 (fZ λv=>I c v&&O v) rfl rfl 179 _ HZ.out (jO _) (by rw[fT,fT]) (kU _) ?_)
              obtain⟨w3,hw3⟩:∃w3,w3=w1.setRow P15 (fZ λv=>I c v&&O v):=⟨_,rfl⟩
              rw[<-hw3];have HV3:Hid (VJ w fo k I w3):=by rw[hw3];exact HV1.out.chg (FP w1 P15 _) (λj e=>by have:=HV.out.2.2.2;have:=HQ1.out;omega)
              have HO3:Hid (w3.heap[P9+1]? =some (vsO O)):=by rw[hw3];exact(aY _ _ _ _ (by have:=HQ1.out;omega)).trans HO1.out
              have HX3:Hid (w3.heap[P9]? =some (kP r.h)):=by rw[hw3];exact(aY _ _ _ _ (by have:=(am.1 HX.out).1;have:=HQ1.out;omega)).trans HX1.out
              have HN3:Hid (w3.heap[P15]? =some (vsO λv=>I c v&&O v)):=by rw[hw3];exact aG _ _ _ _ _ _ HZ.out
              have HW3:Hid (fQ w3 (w.heap.size+2) (.slice (some ⟨b3,o3,none⟩) (toD r.h.t).length vc) (toD r.h.t)):=by
               rw[hw3]
               exact⟨jC HW1.out.1 (FP w1 P15 _) (λg e hS=>by
                simp only[Value.ownBlock,bv] at e;have:=HQ1.out
                omega),HW1.out.2⟩
              clear hw3 HW1 htl HV HO HX HV1 HO1 HX1 HZ;have HT3:Hid (fQ w3 (w.heap.size+2) (.slice (some ⟨b3,o3,none⟩) (toD r.h.t).length vc) (toD r.h.t)):=HW3.out;obtain⟨eq,heq⟩:∃e,eqV (λv=>I c v&&O v) (I c)=e:=⟨_,rfl⟩
              have hqn:∀W,(binOp .neq 179 (.agg (fZ λv=>I c v&&O v)) (.agg (fZ (I c)))).run Tryz.prog W=.ok (.bool (!eq)) W:=λW=>by rw[ii,heq]
              have HEQ:=ac heq;have QN:Hid (∀w',(∃n':eH w3,w'=n'.val)->w'.heap[P15]? =some (vsO λv=>I c v&&O v)):=λw' ⟨n',e⟩=>by rw[e];exact eB n'.ext HN3.out
              have QI:Hid (∀w',(∃n':eH w3,w'=n'.val)->w'.rangeAt (w.heap.size+1) (c*201) (vsC (I c))):=λw' ⟨n',e⟩=>by rw[e];exact qL (jE.ext HV3.out.2.1 n'.ext) hc2
              have HNE:Nonempty (eH w3):=⟨⟨w3,ao _ _⟩⟩
              have hl3:∀n':eH w3,w.heap.size+1<n'.val.heap.size:=λn'=>(HV3.out.ext n'.ext).2.2.2;clear heq;obtain⟨N,hN⟩:∃N:Nat->Bool,N=λv=>I c v&&O v:=⟨_,rfl⟩
              rw[<-hN] at QN HN3 hqn HEQ;have HNN:=ac hN;clear hN;refine lE (by kernel_rfl) (by kernel_rfl) ?_
              repeat (first
               |go_big_quiet_skip
               |((with_reducible show wpQuiet _ _ _ _ (⟨some 87,_,_,_,_,_⟩ :: _) _);refine eP (o:=⟨some 87,.load 179 _,_,_,_,_⟩) (by kernel_rfl) 179 _ rfl P15 rfl 179 _ (0,0) _ QN.out bV rfl (jO _) ?_;simp only[Act.put,ae,ah,ag])
               |((with_reducible show wpQuiet _ _ _ _ (⟨some 91,_,_,_,_,_⟩ :: _) _);refine sJ (o:=⟨some 91,.load 179 _,_,_,_,_⟩) (by kernel_rfl) 179 _ rfl (w.heap.size+1) (c*201) rfl (vsC (I c)) _ QI.out bV rfl (xU _) ?_;simp only[CP,Act.put,ae,ah,ag])
               |go_big_quiet_step (fail))
              refine ar ?_;rintro _ ⟨n',rfl⟩;have HV4:=ac (HV3.out.ext n'.ext);have HO4:=ac (eB n'.ext HO3.out);have HX4:=ac (eB n'.ext HX3.out);have HN4:=ac (eB n'.ext HN3.out);have HT4:=ac (HT3.out.ext n'.ext);generalize n'.val=w4 at *;clear HV3 HO3 HX3 HN3 HT3 hqn QN QI hl3;cases eq with
              |true=>
               have HC4:Hid (mv2=false->I=I0/\I1=I0/\xR (iL bs) I b (q+1)):=λe=>by
                obtain⟨e1,e2,e3⟩:=HC2.out e;refine⟨e1,e2,λb' hb' j c' hj hlt v hv hi=>?_⟩;by_cases e4:b'=b/\j=q
                .obtain⟨rfl,rfl⟩:=e4;rw[HTQ.out] at hj;cases hj;have h9:=VE.1 HEQ.out v hv;rw[HNN.out] at h9;have h9:(I c v&&O v)=I c v:=h9;rw[hi,cJ] at h9;rw[e1,<-e2,<-HOE.out];exact h9
                .exact e3 b' hb' j c' hj (by omega) v hv hi
               go_wp2
               go_roundw
               case rel=>exact⟨q+1,mv2,I,by go_num,rfl,by omega,HV4,HX4,HO4,HT4,HOK2,HC4,HTT⟩
               case measure=>simp[intOf];omega
              |false=>
               have HTO:Hid (tot 201 k (oI I c N)<tot 201 k I0):=by
                have h9:tot 201 k (oI I c N)<tot 201 k I:=by
                 refine k9 hc2 I N (λv _ hv=>?_) ?_
                 .rw[HNN.out] at hv;have hv:(I c v&&O v)=true:=hv;rw[az] at hv;exact hv.1
                 .refine cu λhn=>?_;have:eqV N (I c)=true:=VE.2 λv hv=>cu λhx=>hn ⟨v,hv,hx⟩;rw[HEQ.out] at this;cases this
                cases mv2 with
                |false=>rw[<-(HC2.out rfl).1];exact h9
                |true=>exact Nat.lt_trans h9 (HTT.out rfl)
               have HOK5:Hid (qE ps (iL bs) (oI I c N)):=by
                rw[Hid,HNN.out];exact HOK2.out.put hbk (aK HTQ.out) O HOO.out
               have ht:=wV HV4.out.2.1 hc2 N;have hgl4:w.heap.size+1<w4.heap.size:=HV4.out.2.2.2;have hxl:=eT HX4.out
               go_wp2_with (first
                |((with_reducible show wpList _ _ _ (⟨some 95,.load _ _,_,_,_,_⟩ :: _) _ _);refine ay rfl 179 _ rfl P15 rfl 179 _ (0,0) _ HN4.out bV rfl (jO _) ?_)
                |((with_reducible show wpList _ _ _ (⟨none,.store 179 _ _,_,_,_,_⟩ :: _) _ _);refine wpList_store_mid rfl 179 _ _ rfl (w.heap.size+1) (c*201) (fZ N) rfl rfl ht (jO _) (kU _) ?_))
               have hc4:=yS w4 (w.heap.size+1) (c*201) (fZ N).toList
               go_roundw
               case rel=>exact⟨q+1,true,oI I c N,by go_num,rfl,by omega,HV4.out.set hc2 N,(hc4.block _ (by omega) (by omega)).trans HX4.out,(hc4.block _ (eT HO4.out) (by omega)).trans HO4.out,⟨jC HT4.out.1 hc4 (λg e hS=>by have:=(HT4.out.1.lt g e).1;omega),HT4.out.2⟩,HOK5,(λe=>by cases e),λ_=>HTO.out⟩
               case measure=>simp[intOf];omega
            .have hql':¬(q:Int)<((toD r.h.t).length:Int):=by omega
             have HC3:Hid (mv2=false->I=I0/\xR (iL bs) I (b+1) 0):=λe=>by
              obtain⟨e1,_,e3⟩:=HC2.out e;refine⟨e1,λb' hb' j c' hj hlt=>e3 b' hb' j c' hj ?_⟩;by_cases e4:b'=b
              .subst e4;right;refine⟨rfl,?_⟩;have:=(aI.1 hj).1;rw[HTX.out] at this;have h9:((toD r.h.t).map Int.toNat).length=(toD r.h.t).length:=bR _;have:j<((toD r.h.t).map Int.toNat).length:=this;omega
              .left;omega
             go_wp2
             go_roundw
             case rel=>exact⟨b+1,mv2,I,by go_num,rfl,by omega,HV,HOK2,HC3,HTT⟩
             case measure=>simp[intOf];omega
        .obtain rfl:b=k:=by omega
         have hblt':¬(b:Int)<(b:Int):=by omega
         go_wp2
         go_roundg (2*tot 201 b I1+(if mv then 1 else 0))
         case measure=>
          have hg:=HG0.out;simp only[if_true] at hg;cases mv with
          |false=>rw[(HC1.out rfl).1];simp;omega
          |true=>have:=HT1.out rfl;simp;omega
         case rel=>exact⟨mv,I1,rfl,HV1,HO1,aw _,λe=>(HC1.out e).2⟩
end

section
open Go.RowKit
def pN(ps:List Int)(bs:List gZ):Int:=
 if tO ps.length bs.length (hOf bs) then 3 else if !iW ps bs then 2 else if !(vZ bs&&qK (iL bs)) then 9 else if nW ps (iL bs) then 8 else 0
theorem ff{w:World}{ps:List Int}{ba:Option Addr}{bn:Nat}{bs:List gZ}(h:tR w ba bn bs)(hw:iW ps bs=true):∀b∈bs,∀r∈b.rs,r.na<=1000000:=by
 intro b hb r hr
 rw[iW,az,bq] at hw
 have h1:=hw.2 b hb
 rw[GH,az,cm,dZ] at h1
 have h2:=h1.2 r hr
 have hi:iQ r.d=true:=by simpa using h2
 have hl:r.d.args.length=r.na:=((h.2 b hb).2.2 r hr).1.1
 rw[<-hl]
 unfold iQ at hi
 simp only at hi
 split at hi
 .cases hi
 .split at hi
  .simp only[az,aR] at hi;omega
  .split at hi
   .cases hi
   .simp only[az,de] at hi;omega
theorem PX(pa:Option Addr)(pn pc:Nat)(ps:List Int)(ba:Option Addr)(bn bc:Nat)(bs:List gZ)(w:World)(hp:fR w pa pn ps)(h:tR w ba bn bs):
  Calls Tryz.prog 44 #[kF pa pn pc ba bn bc] w λe w'=>e=.returned (.int .i64 (pN ps bs))/\Below w.heap.size w w':=by
 have HPI:=ac hp
 have HB:=ac h
 have HLb:=ac h.1.1
 have HLp:=ac hp.1
 have hbn:=h.1.2.1
 clear h hp
 have HF0:Hid ((w.alloc (gH pa pn pc ba bn bc)).heap[w.heap.size]? =some (gH pa pn pc ba bn bc)):=ai _ _
 have HB0:Hid (Below w.heap.size w (w.alloc (gH pa pn pc ba bn bc))):=eD _ _
 cases hl:tO pn bn (hOf bs) with
 |true=>
  have HL:=ac hl;have HE:Hid (pN ps bs=3):=by rw[Hid,pN,HLp.out,HLb.out,hl];rfl
  clear hl
  go_enter Tryz.func44,Tryz.ntmps44
  go_wp2_with (first
   |((with_reducible show wpList _ _ _ (⟨some 5,.load _ _,_,_,_,_⟩ :: _) _ _);refine ay rfl 47 _ rfl w.heap.size rfl 47 _ (0,0) _ HF0.out bj rfl fY ?_)
   |(go_at_call 72
     refine(DV pa pn pc ba bn bc (hOf bs) _ (HB.out.ext HB0.out).x.1).mono ?_;rw[HL.out];rintro e w1 ⟨rfl,hb1⟩;have HB1:=ac (eA HB0.out hb1)
     clear hb1))
  go_ret
  exact⟨by rw[HE.out];rfl,HB1.out⟩
 |false=>
  have HL:=ac hl;have hbnd:0<bn/\bn<=200/\pn<=8:=by
   rw[tO] at hl;simp only[dt,bA] at hl;omega
  cases hw:iW ps bs with
  |false=>
   have HWB:=ac hw;have HE:Hid (pN ps bs=2):=by rw[Hid,pN,HLp.out,HLb.out,hl,hw];rfl
   clear hl hw
   go_enter Tryz.func44,Tryz.ntmps44
   go_wp2_with (first
    |((with_reducible show wpList _ _ _ (⟨some 5,.load _ _,_,_,_,_⟩ :: _) _ _);refine ay rfl 47 _ rfl w.heap.size rfl 47 _ (0,0) _ HF0.out bj rfl fY ?_)
    |(go_at_call 72
      refine(DV pa pn pc ba bn bc (hOf bs) _ (HB.out.ext HB0.out).x.1).mono ?_;rw[HL.out];rintro e w1 ⟨rfl,hb1⟩;have HF1:=ac (eB hb1 HF0.out);have HB1:=ac (eA HB0.out hb1)
      clear hb1)
    |((with_reducible show wpList _ _ _ (⟨some 7,.load _ _,_,_,_,_⟩ :: _) _ _);refine ay rfl 47 _ rfl w.heap.size rfl 47 _ (0,0) _ HF1.out bj rfl fY ?_)
    |(go_at_call 73
      refine(BR pa pn pc ps ba bn bc bs w1 (HPI.out.ext HB1.out) (HB.out.ext HB1.out)).mono ?_;rw[HWB.out];rintro e w2 ⟨rfl,hb2⟩;have HB2:=ac (eA HB1.out hb2)
      clear hb2))
   go_ret
   exact⟨by rw[HE.out];rfl,HB2.out⟩
  |true=>
   have HWB:=ac hw;have HNA:=ac (ff HB.out hw);have HPAR:Hid (KA ps=true):=by
    rw[iW,az] at hw;exact hw.1
   obtain⟨hb0,hb1',hp8⟩:=hbnd;have HE:Hid (pN ps bs=if !(vZ bs&&qK (iL bs)) then 9 else if nW ps (iL bs) then 8 else 0):=by rw[Hid,pN,HLp.out,HLb.out,hl,hw];rfl
   clear hl hw
   go_enter Tryz.func44,Tryz.ntmps44
   go_upto_region 5 with (first
    |((with_reducible show wpList _ _ _ (⟨some 5,.load _ _,_,_,_,_⟩ :: _) _ _);refine ay rfl 47 _ rfl w.heap.size rfl 47 _ (0,0) _ HF0.out bj rfl fY ?_)
    |(go_at_call 72
      refine(DV pa pn pc ba bn bc (hOf bs) _ (HB.out.ext HB0.out).x.1).mono ?_;rw[HL.out];rintro e w1 ⟨rfl,hb1⟩;have HF1:=ac (eB hb1 HF0.out);have HB1:=ac (eA HB0.out hb1)
      clear hb1)
    |((with_reducible show wpList _ _ _ (⟨some 7,.load _ _,_,_,_,_⟩ :: _) _ _);refine ay rfl 47 _ rfl w.heap.size rfl 47 _ (0,0) _ HF1.out bj rfl fY ?_)
    |(go_at_call 73
      refine(BR pa pn pc ps ba bn bc bs w1 (HPI.out.ext HB1.out) (HB.out.ext HB1.out)).mono ?_;rw[HWB.out];rintro e w2 ⟨rfl,hb2⟩;have HF2:=ac (eB hb2 HF1.out);have HB2:=ac (eA HB1.out hb2)
      clear hb2))
   go_upto_region 6 with (first
    |((with_reducible show wpList _ _ _ (⟨some 11,.load _ _,_,_,_,_⟩ :: _) _ _);refine ay rfl 47 _ rfl w.heap.size rfl 47 _ (0,0) _ HF2.out bj rfl fY ?_)
    |(go_at_call 74
      refine(PY pa pn pc ba bn bc bs w2 (HB.out.ext HB2.out) hb0 hb1').mono ?_;rintro e w3 ⟨hr,hb3⟩
      obtain⟨k3,b3,rfl,HR3⟩:∃(k3:Nat) (b3:Bool),e=.returned (.tuple #[.int .i64 k3,.bool b3])/\Hid ((b3=false/\vZ bs=false)\/(b3=true/\vZ bs=true/\k3<=bn/\(bn<=k3↔qK (iL bs)=true))):=(by
       rcases hr with ⟨h1,rfl⟩|⟨h1,k,rfl,h2,h3⟩
       .exact⟨0,false,rfl,.inl ⟨rfl,h1⟩⟩
       .rw[HLb.out] at h2 h3;refine⟨k,true,rfl,.inr ⟨rfl,h1,h2,h3.trans ?_⟩⟩
        rw[MI,mD,HLb.out])
      have HF3:=ac (eB hb3 HF2.out);have HB3:=ac (eA HB2.out hb3)
      clear hr hb3))
   have f1:=cK 1 HF3.out rfl;have hl3:=eT HF3.out;by_cases hno:(vZ bs&&qK (iL bs))=true
   .have hti:vZ bs=true:=by rw[az] at hno;exact hno.1
    have hk:b3=true/\bn<=k3/\k3<=bn:=by
     rcases HR3.out with ⟨_,h⟩|⟨h1,_,h2,h3⟩
     .rw[hti] at h;cases h
     .exact⟨h1,h3.2 (by rw[az] at hno;exact hno.2),h2⟩
    obtain⟨rfl,hk1,hk2⟩:=hk;have hkn:¬(k3:Int)<(bn:Int):=by omega
    have HIN:=ac hti;have HE2:Hid (pN ps bs=if nW ps (iL bs) then 8 else 0):=by rw[Hid,HE.out,hno];rfl
    clear hno hti HR3;cases ha:nW ps (iL bs) with
    |true=>
     have HE3:Hid (pN ps bs=8):=by rw[Hid,HE2.out,ha];rfl
     have HA:=ac ha;clear ha
     go_wp2_with (first
      |((with_reducible show wpList _ _ _ (⟨some 24,.load _ _,_,_,_,_⟩ :: _) _ _);refine ay rfl 47 _ rfl w.heap.size rfl 47 _ (0,0) _ HF3.out bj rfl fY ?_)
      |(go_at_call 75
        refine(EI pa pn pc ps ba bn bc bs w3 (HPI.out.ext HB3.out) (HB.out.ext HB3.out) hb0 hb1' (by omega) HPAR.out HIN.out HNA.out).mono ?_;rw[HA.out];rintro e w4 ⟨rfl,hb4⟩;have HB4:=ac (eA HB3.out hb4)
        clear hb4))
     go_ret
     exact⟨by rw[HE3.out];rfl,HB4.out⟩
    |false=>
     have HE3:Hid (pN ps bs=0):=by rw[Hid,HE2.out,ha];rfl
     have HA:=ac ha;clear ha
     go_wp2_with (first
      |((with_reducible show wpList _ _ _ (⟨some 24,.load _ _,_,_,_,_⟩ :: _) _ _);refine ay rfl 47 _ rfl w.heap.size rfl 47 _ (0,0) _ HF3.out bj rfl fY ?_)
      |(go_at_call 75
        refine(EI pa pn pc ps ba bn bc bs w3 (HPI.out.ext HB3.out) (HB.out.ext HB3.out) hb0 hb1' (by omega) HPAR.out HIN.out HNA.out).mono ?_;rw[HA.out];rintro e w4 ⟨rfl,hb4⟩;have HB4:=ac (eA HB3.out hb4)
        clear hb4))
     go_ret
     exact⟨by rw[HE3.out];rfl,HB4.out⟩
   .have HE2:Hid (pN ps bs=9):=by
     have hn:(vZ bs&&qK (iL bs))=false:=by simpa using hno
     rw[Hid,HE.out,hn];rfl
    cases b3 with
    |false=>
     clear hno HR3;go_wp2
     go_ret
     exact⟨by rw[HE2.out];rfl,HB3.out⟩
    |true=>
     have hk:(k3:Int)<(bn:Int):=by
      rcases HR3.out with ⟨h,_⟩|⟨_,h1,h2,h3⟩
      .cases h
      .have:¬bn<=k3:=λhx=>hno (by rw[h1,h3.1 hx];rfl);omega
     clear hno HR3;go_wp2
     go_ret
     exact⟨by rw[HE2.out];rfl,HB3.out⟩
end

section
open Go.RowKit
abbrev BB(x:gQ):Value:=.agg #[.int .i64 x.fr,.int .i64 x.arm,.int .i64 x.to]
abbrev po(x:gQ):Obj:=.cells #[.int .i64 x.fr,.int .i64 x.arm,.int .i64 x.to] 113
end

section
open Go.RowKit
attribute [local go_sem] Oper.semAt_some iB fS gP fH
theorem WI:(Tryz.prog.info? 113).map (·.size)=some 3:=by kernel_rfl
end
end Go.Proofs.YtchdkjenhppleaaGreat
