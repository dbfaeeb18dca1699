/-
 Building tiles:loops and regions.
-/
import Derived.Test.YtblhmdhfhaencaaGreatDF
import Derived.Test.YtblhmdhfhaencaaGreatTR
import Derived.Test.YtblhmdhfhaencaaGreatTL
import Derived.Test.YtblhmdhfhaencaaGreatQL
import Derived.Sort.LoopGhostIn
import Derived.Test.YtblhmdhfhaencaaGreatQB
import Derived.Test.YtblhmdhfhaencaaGreatDH
import Derived.Test.YtblhmdhfhaencaaGreatCR
import Derived.Test.YtblhmdhfhaencaaGreatRM
namespace Go.Proofs.YtblhmdhfhaencaaGreat
set_option linter.unusedSimpArgs false
set_option linter.unusedVariables false
set_option linter.unusedSectionVars false
set_option maxRecDepth 100000
set_option maxHeartbeats 40000000
section
open Go.RowKit Go.Shelf
attribute [local go_sem] Oper.semAt_some cT bM cC bG
def stP(ts:List aT)(f:Nat)(inn:Nat→Bool)(dn:List Nat):(Nat→Bool)×List aI:=dn.foldl (lF ts (dZ ts f) inn) (inn,[])
theorem rH(ts:List aT)(f:Nat)(inn:Nat→Bool)(dn:List Nat)(x:Nat):stP ts f inn (dn++ [x])=lF ts (dZ ts f) inn (stP ts f inn dn) x:=by rw[stP,List.foldl_append];rfl
theorem VK(ts:List aT)(rec:(Nat→Bool)→List aI)(inn:Nat→Bool)(st:(Nat→Bool)×List aI)(x:Nat):st.2.length≤(lF ts rec inn st x).2.length:=by
 unfold lF
 split
 ·split<;>simp
 ·exact aBV _
theorem FQ(ts:List aT)(f:Nat)(inn:Nat→Bool):∀(r dn:List Nat),(stP ts f inn dn).2.length≤(stP ts f inn (dn++r)).2.length
 | [],dn=>by simp
 |x :: r,dn=>by
  rw[show dn++x :: r=(dn++ [x])++r by simp];refine aCD ?_ (FQ ts f inn r (dn++ [x]));rw[rH];exact VK _ _ _ _ _
def CV(f:Nat→Bool)(dn:List Nat):Nat→Bool:=fun y=>if dn.contains y then false else f y
theorem WC(f:Nat→Bool):CV f []=f:=by funext y;simp[CV]
theorem SL(f:Nat→Bool)(dn:List Nat)(x:Nat):(fun k=>if k=x then false else CV f dn k)=CV f (dn++ [x]):=by
 funext k
 simp only[CV,List.contains_eq_mem,aCA,List.mem_singleton]
 by_cases e:k=x<;>simp[e]
theorem WD(f:Nat→Bool){s:Nat→Bool}(hc:cA s):CV f (aZ s)=iA f s:=by
 funext k
 simp only[CV,iA,List.contains_eq_mem,eG hc]
 cases s k<;>simp
structure LoF(W0:World)(P:Nat)(v0:Value)(w:World):Prop where
 h0:W0.heap.size≤w.heap.size
 hP:P<w.heap.size
 hv:∀q,v0.ownBlock=some q→q<w.heap.size
def LoJ(W0:World)(d:fD)(P base:Nat)(v0:Value)(L:List aI)(w:World)(inn:Nat→Bool)(st:(Nat→Bool)×List aI)(W:World):Prop:=
 ∃v,mR W0 d P base v (L++st.2) W∧W.heap[w.heap.size]? =some (.cells #[.pointer (some ⟨P,0,none⟩)] 119 (0,0))∧W.heap[w.heap.size+1]? =some (eA inn)∧W.heap[w.heap.size+1+1]? =some (eA st.1)∧
  W.heap[w.heap.size+1+1+1]? =some (.cells #[.pointer (some ⟨w.heap.size+1,0,none⟩)] 189 (0,0))∧Chg (SP P v0) w W∧∀q,v.ownBlock=some q→v0.ownBlock=some q∨w.heap.size+1+1+1<q
section
variable {W0:World} {d:fD} {P base:Nat} {v0:Value} {L:List aI} {w:World} {inn:Nat→Bool} {st:(Nat→Bool)×List aI} {D:Nat} {W W':World}
theorem LoJ.steady(hD:w.heap.size≤D)(h0:W0.heap.size≤w.heap.size):aR D (LoJ W0 d P base v0 L w inn st):=by
 unfold LoJ
 exact aR.ex fun v=>(mR.steady (by omega)).and ((aR.block _ _ rfl).and ((aR.block _ _ rfl).and ((aR.block _ _ rfl).and ((aR.block _ _ rfl).and ((aR.chg hD).and (aR.pure _ _))))))
theorem LoJ.off(hF:LoF W0 P v0 w)(h:LoJ W0 d P base v0 L w inn st W){y:Nat}(hy:y<200):LoJ W0 d P base v0 L w inn ((fun k=>if k=y then false else st.1 k),st.2) (W.setCell ⟨w.heap.size+1+1,y,none⟩ (.bool false)):=by
 obtain⟨v,j0,j1,j2,j3,j4,jc,jv⟩:=h
 obtain⟨f0,f1,f2⟩:=hF
 have g:=bA W (w.heap.size+1+1) y (.bool false)
 refine⟨v,j0.grown g fun q e=>?_,aK g j1 fun e=>?_,aK g j2 fun e=>?_,sH j3 y hy false,aK g j4 fun e=>?_,jc.setCell (.inr (by show w.heap.size≤w.heap.size+1+1;omega)) _,jv⟩
 ·injection e with e;refine⟨by omega,by omega,fun e2=>?_⟩;rcases jv q e2 with h|h
  ·have:=f2 q h;omega
  ·omega
 all_goals (injection e with e;omega)
theorem LoJ.app(hF:LoF W0 P v0 w){v:Value}{M:List aI}{v':Value}{W3:World}(j0:mR W0 d P base v (L++st.2) W)(h:LoJ W0 d P base v0 L w inn st W)(hv:∀q,v.ownBlock=some q→v0.ownBlock=some q∨w.heap.size+1+1+1<q)(j0':mR W0 d P base v' (L++st.2++M) W3)(hc:Chg (SP P v) W W3)
  (hat:∀q,v'.ownBlock=some q→v.ownBlock=some q∨W.heap.size≤q):LoJ W0 d P base v0 L w inn (st.1,st.2++M) W3:=by
 obtain⟨v1,k0,j1,j2,j3,j4,jc,jv⟩:=h
 obtain⟨f0,f1,f2⟩:=hF
 have key:∀{k:Nat} {o:Obj},W.heap[k]? =some o→(k=w.heap.size∨k=w.heap.size+1∨k=w.heap.size+1+1∨k=w.heap.size+1+1+1)→W3.heap[k]? =some o:=fun {k o} hk he=>by
  refine hc.row hk fun hs=>?_;rcases hs with hs|hs
  ·omega
  ·rcases hv k hs with h|h
   ·have:=f2 k h;omega
   ·omega
 have hlt:=aN j4
 refine⟨v',by rw[←List.append_assoc];exact j0',key j1 (by omega),key j2 (by omega),key j3 (by omega),key j4 (by omega),jc.then hc fun q hq=>?_,fun q hq=>?_⟩
 ·rcases hq with rfl|hq
  ·exact .inl (.inl rfl)
  ·rcases hv q hq with h|h
   ·exact .inl (.inr h)
   ·exact .inr (by omega)
 ·rcases hat q hq with h|h
  ·exact hv q h
  ·exact .inr (by omega)
end
theorem SR(W0:World)(d:fD)(ts:List aT)(hok:gH W0 d ts)(hf:bU ts=true)(P base:Nat):
  ∀(f:Nat) (inn:Nat→Bool) (v:Value) (L:List aI) (w:World),cA inn→(∀y,inn y=true→y<ts.length)→L.length+(dZ ts f inn).length≤1000→(aZ inn).length<f→mR W0 d P base v L w→
  Calls Tryz.prog 79 #[.pointer (some ⟨P,0,none⟩),.agg (aQ inn)] w (GB W0 d P base v w (L++dZ ts f inn)):=by
 intro f
 induction f with
 |zero=>intro inn v L w _ _ _ h;omega
 |succ f ih=>
  intro inn v L w hc hin hlen hlt h;have IH:=aBO ih;have HC:=aBO hc;have HIN:=aBO hin;have HLEN:=aBO hlen;have HLT:=aBO hlt;have HJ0:=aBO h;have HF:=aBO hf;have HOK:=aBO hok;have hbn:ts.length=d.bn:=hok.1;have hw0:W0.heap.size≤w.heap.size:=h.ext.size;have hPw:P<w.heap.size:=aN h.bld;have HLF:LoF W0 P v w:=⟨hw0,hPw,fun q hq=>(h.own hq).2⟩
  have HBN:=aBO hbn;clear hc hin hlen hlt h ih hok hf hbn;refine(callsIn_wide (n:=0)).1 ?_;refine callsIn_of_wp_marks Tryz.func79 rfl trivial ?_;simp only[Tryz.ntmps79,List.size_toArray,List.length_cons,List.length_nil,Nat.reduceAdd,Nat.reduceSub,Array.replicate_succ,Array.replicate_zero,List.push_toArray,List.append_toArray,List.nil_append,List.cons_append];have hi1:((w.alloc (.cells #[.pointer (some ⟨P,0,none⟩)] 119)).alloc (eA inn)).heap[w.heap.size+1]? =some (eA inn):=aU _ _ _ (by simp)
  gi_wp2_with (first
   |(refine mP 124 _ rfl (w.heap.size+1) rfl 124 (aQ inn) (0,0) _ hi1 Tryz.underlying124 rfl (by rw[aF];exact bF) ?_)
   |(refine sD 124 _ _ rfl (w.heap.size+1+1) (aQ inn) rfl rfl 124 Tryz.zeroCells124 (aU _ _ _ (by simp)) (by rw[aF];exact bF) (by rw[aF];kernel_rfl) (dE _) ?_)
   |(gi_at_call 88;refine(callsIn_wide.2 (nB _ _)).mono ?_;rintro e w' ⟨rfl,rfl⟩))
  clear hi1;obtain⟨W1,hW1⟩:∃W1,W1=((((w.alloc (.cells #[.pointer (some ⟨P,0,none⟩)] 119)).alloc (eA inn)).alloc (.cells Tryz.zeroCells124 124)).setRow (w.heap.size+1+1) (aQ inn)).alloc (.cells #[.pointer (some ⟨w.heap.size+1,0,none⟩)] 189):=⟨_,rfl⟩
  rw[←hW1];have hb1:Below w.heap.size w W1:=by rw[hW1];exact(below_setRow ((((aBQ _ w).alloc (aBV _) _).alloc (by simp) _).alloc (by simp;omega) _) (by omega) _).alloc (by simp;omega) _
  have hsz1:W1.heap.size=w.heap.size+1+1+1+1:=by rw[hW1];simp
  have HST:Hid (LoJ W0 d P base v L w inn (stP ts f inn []) W1):=by
   have e:stP ts f inn []=(inn,[]):=rfl;rw[Hid,e];refine⟨v,by rw[List.append_nil];exact HJ0.out.ext' hb1,?_,?_,?_,?_,(Chg.refl _ _).of_ext hb1,fun q hq=>.inl hq⟩
   ·rw[hW1,aBR _ _ _ (by simp;omega),setRow_other _ _ _ _ (by omega),aBR _ _ _ (by simp;omega),aBR _ _ _ (by simp)];exact aBS _ _
   ·rw[hW1,aBR _ _ _ (by simp),setRow_other _ _ _ _ (by omega),aBR _ _ _ (by simp)];exact aU _ _ _ (by simp)
   ·rw[hW1,aBR _ _ _ (by simp)];exact setRow_heap _ _ _ _ _ _ (aU _ _ _ (by simp))
   ·rw[hW1];exact aU _ _ _ (by simp)
  clear hW1
  refine yF (ps:=#[11]) (gf:=139) (lb:=#[.pointer (some ⟨w.heap.size+1+1+1,0,none⟩)]) (enc:=nY) (l:=aZ inn) rfl jU _ (kY inn (w.heap.size+1+1+1) (w.heap.size+1)) (fun _=>rfl)
   (fun dn r W=>Hid (LoJ W0 d P base v L w inn (stP ts f inn dn) W)) (fun _ _=>False) (fun dn r=>LoJ.steady (by omega) hw0) (fun c=>aR.pure _ _)
   (fun dn r W h=>by obtain⟨v1,_,_,h2,_,h4,_⟩:=h.out;exact⟨by rw[aBP _ _ _ _ _ _ h4];rfl,h2⟩) HST ?round ?done ?stop
  case round=>
   rintro lp dn x r W hd hJ;unfold nY
   gi_wp2
   refine⟨dI.refl _,hJ,?_⟩;clear hJ lp W;rintro lp W hlp ⟨rc,hrc⟩ hJ;have hxin:inn x=true:=(eG HC.out x).1 (by rw[hd];simp);have hxl:x<200:=HC.out x hxin;have hxb:inn x=true→x<d.bn:=fun h=>by rw[←HBN.out];exact HIN.out x h
   have HXIN:=aBO hxin;have HD:=aBO hd;have HRC:=aBO hrc;obtain⟨v1,j0,j1,j2,j3,j4,jc,jv⟩:=hJ.out;have J0:=aBO j0.bld;have J1:=aBO j1;have J2:=aBO j2;have JB:=aBO j0.ext;have hWs:w.heap.size+1+1+1<W.heap.size:=aN j4;clear hd hrc j0 j1 j2 j3 j4 jc jv hxin
   gi_wp2
   refine BH 8 [some 12,some 13,some 14,some 15,some 16,some 17,some 18,some 6] (by kernel_rfl) (by kernel_rfl) (by repeat (first|exact iJ|refine jP ?_|refine iK ?_)) (by kernel_rfl) (dV [.val (.pointer (some ⟨P,0,none⟩)),.val (.pointer (some ⟨P,0,none⟩)),.val (.pointer (some ⟨P,0,none⟩)),.val (dK d),.val (.int .i64 (x:Int)),.val (.agg (aQ inn)),.val (.agg (aQ (bT ts x inn))),.new (eA fun _=>false)]) (dN ?_) ?_ ?_
   ·intro k hk;simp only[List.mem_cons,List.not_mem_nil,or_false] at hk;rcases hk with rfl|rfl|rfl|rfl|rfl|rfl|rfl|rfl
    ·exact trivial
    ·exact trivial
    ·exact trivial
    ·exact trivial
    ·exact trivial
    ·exact trivial
    ·exact trivial
    ·exact trivial
   ·intro i hi ν lo hi' w1 K hB hD hK;have hcase:i=0∨i=1∨i=2∨i=3∨i=4∨i=5∨i=6∨i=7:=by omega
    clear hi;rcases hcase with rfl|rfl|rfl|rfl|rfl|rfl|rfl|rfl
    ·clear hD;refine aC rfl rfl ?_;simp only[zA,zB,zC,zD,zE,zF,zJ,zK,zG,zH,zI] at hK⊢;have q1:=aH hB (show W.cell? ⟨w.heap.size,0,none⟩=some (.pointer (some ⟨P,0,none⟩)) by rw[aBP _ _ _ _ _ _ J1.out];rfl);go_simp;exact hK _ _ (aBQ _ _) rfl
    ·have e0:=hD 0 (by kernel_rfl)
     replace e0:ν 0=(.pointer (some ⟨P,0,none⟩)):=e0
     clear hD;refine aC rfl rfl ?_;simp only[zA,zB,zC,zD,zE,zF,zJ,zK,zG,zH,zI,e0] at hK⊢;go_simp;exact hK _ _ (aBQ _ _) rfl
    ·have e1:=hD 1 (by kernel_rfl)
     replace e1:ν 1=(.pointer (some ⟨P,0,none⟩)):=e1
     clear hD;refine aC rfl rfl ?_;simp only[zA,zB,zC,zD,zE,zF,zJ,zK,zG,zH,zI,e1] at hK⊢;go_simp;exact hK _ _ (aBQ _ _) rfl
    ·have e2:=hD 2 (by kernel_rfl)
     replace e2:ν 2=(.pointer (some ⟨P,0,none⟩)):=e2
     clear hD;refine aC rfl rfl ?_;simp only[zA,zB,zC,zD,zE,zF,zJ,zK,zG,zH,zI,e2] at hK⊢;refine wp_load_mid 116 _ rfl P 0 rfl _ _ (rK (aB hB J0.out)) Tryz.underlying116 rfl bD ?_;exact hK _ _ (aBQ _ _) rfl
    ·clear hD;refine aC rfl rfl ?_;simp only[zA,zB,zC,zD,zE,zF,zJ,zK,zG,zH,zI] at hK⊢;go_simp;exact hK _ _ (aBQ _ _) rfl
    ·clear hD;refine aC rfl rfl ?_;simp only[zA,zB,zC,zD,zE,zF,zJ,zK,zG,zH,zI] at hK⊢;refine wp_load_row 124 _ rfl (w.heap.size+1) rfl 124 _ (0,0) _ (aB hB J2.out) Tryz.underlying124 rfl (by rw[aF];exact bF) ?_;exact hK _ _ (aBQ _ _) rfl
    ·have e3:=hD 3 (by kernel_rfl)
     replace e3:ν 3=(dK d):=e3
     have e4:=hD 4 (by kernel_rfl)
     replace e4:ν 4=(.int .i64 (x:Int)):=e4
     have e5:=hD 5 (by kernel_rfl)
     replace e5:ν 5=(.agg (aQ inn)):=e5
     clear hD;refine aC rfl rfl ?_;simp only[zA,zB,zC,zD,zE,zF,zJ,zK,zG,zH,zI,e3,e4,e5] at hK⊢;go_simp;refine(AR d ts x inn w1 hxl (HOK.out.ext (aA JB.out hB)) (bQ HF.out).1 HC.out hxb).mono ?_;rintro e w3 ⟨rfl,hb3⟩;exact hK _ _ hb3 rfl
    ·clear hD;refine aC rfl rfl ?_;simp only[zA,zB,zC,zD,zE,zF,zJ,zK,zG,zH,zI] at hK⊢;go_simp;refine hK _ _ (aD _ _) ⟨rfl,by simp,?_⟩;rw[aBS,jK]
   ·intro ν lo hi w1 hB hS hI hD;have e0:ν 0=(.pointer (some ⟨P,0,none⟩)):=hS 0 (by omega);have e1:ν 1=(.pointer (some ⟨P,0,none⟩)):=hS 1 (by omega);have e2:ν 2=(.pointer (some ⟨P,0,none⟩)):=hS 2 (by omega);have e3:ν 3=(dK d):=hS 3 (by omega);have e4:ν 4=(.int .i64 (x:Int)):=hS 4 (by omega);have e5:ν 5=(.agg (aQ inn)):=hS 5 (by omega);have e6:ν 6=(.agg (aQ (bT ts x inn))):=hS 6 (by omega);obtain⟨e7,l7,h7⟩:=hS 7 (by omega);clear hS;simp only[List.drop_succ_cons,List.drop_zero,zA,zB,zC,zD,zE,zF,zJ,zK,zG,zH,zI,e0,e1,e2,e3,e4,e5,e6,e7];obtain⟨K,hKK⟩:∃K,K=bT ts x inn:=⟨_,rfl⟩
    rw[←hKK];have i7:=hI 7 (by omega);generalize lo 7=S7 at *;have hS7:=i7.1;have hw2:=below_setRow (g:=S7) hB hS7 (aQ K);have hs2:=setRow_heap w1 S7 _ (aQ K) _ _ h7;refine wpList_store_row (o:=⟨none,.store 124 _ _,_,_,_,_⟩) rfl 124 _ _ rfl S7 (aQ K) rfl rfl 124 _ h7 (by rw[aF];exact bF) rfl (dE _) ?_;have HJ2:=aBO ((LoJ.steady (aBV _) hw0).ext hJ.out hw2);have HK2:=aBO (dI.ext hw2);have hrc2:=aB hw2 HRC.out;have hS7b:S7<w1.heap.size:=aN h7;have hsz2:(w1.setRow S7 (aQ K)).heap.size=w1.heap.size:=by simp
    generalize w1.setRow S7 (aQ K)=w2 at *;have HS2:=aBO hs2;have HRC2:=aBO hrc2;have HKK:=aBO hKK;have hsS:W.heap.size≤S7:=hS7;rw[←hsz2] at hS7b;clear hI hD hB e0 e1 e2 e3 e4 e5 e6 e7 l7 h7 i7 hw2 hs2 hrc2 hsz2 hKK hJ HRC hS7;go_wp2;obtain⟨v2,j0,j1,j2,j3,j4,jc,jv⟩:=HJ2.out;obtain⟨lb,hlb⟩:∃b,b=(stP ts f inn dn).1 x:=⟨_,rfl⟩
    obtain⟨kb,hkb⟩:∃b,b=K x:=⟨_,rfl⟩
    have c1:=fE j3 x hxl;have c2:=fE HS2.out x hxl;rw[←hlb] at c1;rw[←hkb] at c2;have HLB:=aBO hlb;have HKB:=aBO hkb;clear hlb hkb j0 j1 j2 j3 j4 jc jv;cases lb with
    |false=>
     have HE:Hid (stP ts f inn (dn++ [x])=stP ts f inn dn):=by rw[Hid,rH,lF,←HLB.out,Bool.false_and];rfl
     gi_wp2
     exact⟨HK2.out,by rw[HE.out];exact HJ2⟩
    |true=>
     cases kb with
     |false=>
      have HE:Hid (stP ts f inn (dn++ [x])=stP ts f inn dn):=by rw[Hid,rH,lF,←HKK.out,←HKB.out,Bool.and_false];rfl
      gi_wp2
      exact⟨HK2.out,by rw[HE.out];exact HJ2⟩
     |true=>
      have HCK:Hid (cA K):=by rw[Hid,HKK.out];exact oL HC.out x
      gi_wp2_with (gi_at_call 88;refine(CallsIn.inRound _ (callsIn_wide.2 (nB _ _))).mono ?_;rintro e w' ⟨rfl,rfl⟩)
      clear c1 c2;obtain⟨w3,hw3⟩:∃w3,w3=w2.alloc (.cells #[.pointer (some ⟨S7,0,none⟩)] 189):=⟨_,rfl⟩
      rw[←hw3];have hb3:Below w2.heap.size w2 w3:=by rw[hw3];exact aD _ _
      have hg3:w3.heap[w2.heap.size]? =some (.cells #[.pointer (some ⟨S7,0,none⟩)] 189 (0,0)):=by rw[hw3];exact aBS _ _
      have hrc3:=aB hb3 HRC2.out;have hsz3:w3.heap.size=w2.heap.size+1:=by rw[hw3];simp
      have HST3:Hid (LoJ W0 d P base v L w inn (CV (stP ts f inn dn).1 [],(stP ts f inn dn).2) w3∧w3.heap[S7]? =some (eA K)∧w3.heap[w2.heap.size]? =some (.cells #[.pointer (some ⟨S7,0,none⟩)] 189 (0,0))∧dI W w3):=
       ⟨by rw[WC];exact(LoJ.steady (aBV _) hw0).ext HJ2.out hb3,aB hb3 HS2.out,hg3,HK2.out.trans (dI.ext hb3)⟩
      clear hw3 hb3 hg3 HJ2 HK2 HRC2 HS2
      refine LI (ps:=#[30]) (gf:=139) (lb:=#[.pointer (some ⟨w2.heap.size,0,none⟩)]) (enc:=nY) (l:=aZ K) hrc3 rfl jU _ (kY K w2.heap.size S7) (fun _=>rfl)
       (fun dn2 r2 Wi=>Hid (LoJ W0 d P base v L w inn (CV (stP ts f inn dn).1 dn2,(stP ts f inn dn).2) Wi∧Wi.heap[S7]? =some (eA K)∧Wi.heap[w2.heap.size]? =some (.cells #[.pointer (some ⟨S7,0,none⟩)] 189 (0,0))∧dI W Wi)) (fun _ _=>False)
       (fun dn2 r2=>(LoJ.steady (by omega) hw0).and ((aR.block _ _ rfl).and ((aR.block _ _ rfl).and (aR.keep _ _ (by omega))))) (fun c=>aR.pure _ _)
       (fun dn2 r2 Wi h=>⟨by rw[aBP _ _ _ _ _ _ h.out.2.2.1];rfl,h.out.2.1⟩) HST3 ?round2 ?done2 ?stop2
      case round2=>
       rintro lp2 dn2 y r2 Wi hd2 hJi;unfold nY
       gi_wp2
       refine⟨dI.refl _,hJi,?_⟩;clear hJi lp2 Wi;rintro lp2 Wi _ _ hJi;have hyl:y<200:=mZ K y (by rw[hd2];simp);have HN:Hid (LoJ W0 d P base v L w inn (CV (stP ts f inn dn).1 (dn2++ [y]),(stP ts f inn dn).2) (Wi.setCell ⟨w.heap.size+1+1,y,none⟩ (.bool false))∧(Wi.setCell ⟨w.heap.size+1+1,y,none⟩ (.bool false)).heap[S7]? =some (eA K)∧(Wi.setCell ⟨w.heap.size+1+1,y,none⟩ (.bool false)).heap[w2.heap.size]? =some (.cells #[.pointer (some ⟨S7,0,none⟩)] 189 (0,0))∧dI W (Wi.setCell ⟨w.heap.size+1+1,y,none⟩ (.bool false))):=by
        obtain⟨i0,i1,i2,i3⟩:=hJi.out;have g:=bA Wi (w.heap.size+1+1) y (.bool false);refine⟨?_,aK g i1 fun e=>by injection e with e;omega,aK g i2 fun e=>by injection e with e;omega,i3.trans (dI.setCell _ _ _)⟩;rw[←SL];exact i0.off HLF hyl
       obtain⟨i0,i1,i2,i3⟩:=hJi.out;obtain⟨vi,k0,k1,k2,k3,k4,kc,kv⟩:=i0;have hc:=fE k3 y hyl;have hf:=lL k3 y;have hl:=aN k3;clear i1 i2 i3 k0 k1 k2 k3 k4 kc kv hJi hd2
       gi_wp2
       exact⟨dI.setCell _ _ _,HN⟩
      case stop2=>rintro c Wx h;exact h.elim
      case done2=>
       rintro Wd hJd;obtain⟨i0,i1,i2,i3⟩:=hJd.out;rw[WD _ HCK.out] at i0;have HJ3:=aBO i0;have HS3:=aBO i1;have HK3:=aBO i3;clear i0 i1 i2 i3 hJd HST3 hrc3 hsz3;obtain⟨v3,j0,j1,j2,j3,j4,jc,jv⟩:=HJ3.out;have g1:∀n:aY Wd,n.val.cell? ⟨w.heap.size,0,none⟩=some (.pointer (some ⟨P,0,none⟩)):=aY.cell (by rw[aBP _ _ _ _ _ _ j1];rfl);have g2:∀w',(∃n:aY Wd,w'=n.val)→w'.rangeAt P 0 [.slice d.pa d.pn d.pc,.slice d.ba d.bn d.bc,.slice d.ta d.bn d.tc,.slice d.fa d.bn d.fc]:=fun w' ⟨n,e⟩=>by rw[e];exact rK (aB n.ext j0.bld)
       have g3:∀w',(∃n:aY Wd,w'=n.val)→w'.heap[S7]? =some (eA K):=fun w' ⟨n,e⟩=>by rw[e];exact aB n.ext HS3.out
       have HWK:=aBO (HOK.out.ext (aA j0.ext (bZ (aBQ _ Wd) 1)));clear j0 j1 j2 j3 j4 jc jv
       gi_wp2
       refine sN (fun w'=>∃n:aY Wd,w'=n.val) [(0,5,some (5,true)),(6,1,none)] (by kernel_rfl) (by kernel_rfl) (by kernel_rfl) (by repeat (first|exact iJ|refine jP ?_|refine iK ?_)) ⟨⟨_,bZ (aBQ _ _) 1⟩,rfl⟩ ?_;simp only[lW,List.take_succ_cons,List.take_zero,List.drop_succ_cons,List.drop_zero]
       repeat (first
        |go_big_quiet_skip
        |(refine aX (o:=⟨some 36,.load 116 _,_,_,_,_⟩) (by rfl) 116 _ rfl P 0 rfl _ _ g2 Tryz.underlying116 rfl bD ?_;simp only[zJ,zG,zH,zI])
        |(refine aW (o:=⟨some 37,.load 124 _,_,_,_,_⟩) (by rfl) 124 _ rfl S7 rfl 124 (aQ K) (0,0) _ g3 Tryz.underlying124 rfl (by rw[aF];exact bF) ?_;simp only[zJ,zG,zH,zI])
        |go_big_quiet_step (fail))
       refine wpQuiet_nil ?_;refine dP rfl rfl ?_;go_simp;refine(rX d ts K Wd.drew HWK.out (bQ HF.out).1).mono ?_;rintro e w4 ⟨v4,rfl,ho4,hb4⟩;have hb4:=nN hb4;refine⟨⟨⟨w4,hb4⟩,rfl⟩,?_⟩;clear g1 g2 g3;obtain⟨av,cv,rfl⟩:=ho4.form
       repeat (go_big_quiet_step (fail))
       refine wpQuiet_nil ?_;refine NoPanic.normal ?_;have HJ4:=aBO ((LoJ.steady (aBV _) hw0).ext HJ3.out hb4);have HS4:=aBO (aB hb4 HS3.out);have HK4:=aBO (HK3.out.trans (dI.ext hb4));have hEl:(aO (aM ts K)).length=(aM ts K).length:=by simp[aO]
       rw[hEl];obtain⟨E,hE⟩:∃E,E=aM ts K:=⟨_,rfl⟩
       rw[hEl,←hE] at ho4;have HO4:=aBO (ho4.mono (base':=Wd.heap.size) (aBV _));have HEE:=aBO hE;rw[←hE];clear ho4 hEl hE HJ3 HS3 HK3;by_cases h1:1<E.length
       ·have h1':(1:Int)<(E.length:Int):=by omega
        have HE:Hid (stP ts f inn (dn++ [x])=(iA (stP ts f inn dn).1 K,(stP ts f inn dn).2++ [⟨K,3,-1⟩])):=by
         rw[Hid,rH,lF,←HKK.out,←HLB.out,←HKB.out,Bool.true_and,if_pos rfl,←HEE.out,if_pos h1]
        have hb5:(L++(stP ts f inn dn).2).length+1≤1000:=by
         have q1:=FQ ts f inn r (dn++ [x]);rw[HE.out] at q1;have q2:dn++ [x]++r=aZ inn:=by rw[HD.out];simp
         rw[q2] at q1;have q3:=HLEN.out;have q4:dZ ts (f+1) inn=(stP ts f inn (aZ inn)).2:=rfl;rw[q4] at q3;simp at q1⊢;omega
        obtain⟨v5,j0,j1,j2,j3,j4,jc,jv⟩:=HJ4.out;obtain⟨a5,c5,hv5⟩:=cK.form j0.parts;obtain⟨n5,hn5⟩:∃n,n=(L++(stP ts f inn dn).2).length:=⟨_,rfl⟩
        rw[←hn5] at hv5;subst hv5;have hS5:(Value.slice a5 n5 c5).ownBlock≠some S7:=cH j0.parts.1 HS4.out (by decide);have g1:∀n:mD (fun W'=>w4.grownBy W' (Value.slice a5 n5 c5).ownBlock),n.val.cell? ⟨w.heap.size,0,none⟩=some (.pointer (some ⟨P,0,none⟩)):=fun n=>by rw[aBP _ _ _ _ _ _ (aK n.prop j1 (cH j0.parts.1 j1 (by decide)))];rfl
        have g2:∀n:mD (fun W'=>w4.grownBy W' (Value.slice a5 n5 c5).ownBlock),n.val.cell? ⟨P,4,none⟩=some (.slice a5 n5 c5):=fun n=>by rw[aBP _ _ _ _ _ _ (aK n.prop j0.bld (cH j0.parts.1 j0.bld (by decide)))];rfl
        have g3:∀w',(∃n:mD (fun W'=>w4.grownBy W' (Value.slice a5 n5 c5).ownBlock),w'=n.val)→w'.heap[S7]? =some (eA K):=fun w' ⟨n,e⟩=>by rw[e];exact aK n.prop HS4.out hS5
        have hne:Nonempty (mD (fun W'=>w4.grownBy W' (Value.slice a5 n5 c5).ownBlock)):=wV (qO _ _);have J0:=aBO (j0.ext' (pQ w4));have hown4:w4.drew.ownsRow base 128 202 (.slice a5 n5 c5) n5 ((L++(stP ts f inn dn).2).flatMap bJ):=by have:=J0.out.parts.1;rwa [←hn5] at this
        have HOWN4:=aBO hown4;have JV:=aBO jv;have HN5:=aBO hn5;have hbs:=J0.out.bs;have hn1000:n5+1≤1000:=by omega
        clear j0 j1 j2 j3 j4 jc jv hown4 hn5
        gi_wp2
        refine sN (fun w'=>∃n:mD (fun W'=>w4.grownBy W' (Value.slice a5 n5 c5).ownBlock),w'=n.val) [(0,7,some (7,true)),(8,0,some (8,true)),(9,2,some (11,false))] (by kernel_rfl) (by kernel_rfl) (by kernel_rfl) (by repeat (first|exact iJ|refine jP ?_|refine iK ?_)) (mG (gK _ _)) ?_;simp only[lW,List.take_succ_cons,List.take_zero,List.drop_succ_cons,List.drop_zero]
        repeat (first
         |go_big_quiet_skip
         |(refine aW (o:=⟨some 47,.load 124 _,_,_,_,_⟩) (by rfl) 124 _ rfl S7 rfl 124 (aQ K) (0,0) _ g3 Tryz.underlying124 rfl (by rw[aF];exact bF) ?_;simp only[zJ,zG,zH,zI])
         |(refine BN (o:=⟨some 48,.build 128 _,_,_,_,_⟩) (by rfl) _ _ _ K 3 (-1) rfl rfl rfl rfl ?_;simp only[zJ,zG,zH,zI])
         |go_big_quiet_step (fail))
        refine wpQuiet_nil ?_;refine dP rfl rfl ?_;refine uJ _ ⟨K,3,(-1)⟩ rfl rfl ?_;simp only[zJ,zG,zH,zI];refine⟨mG (lP (gK _ _) (World.grownBy_alloc _ _ _)),?_⟩;refine wpQuiet_nil ?_;refine dP rfl rfl ?_;refine mM w4.drew (.tmp 46) (.tmp 49) 120 128 rfl base _ 202 216 Tryz.underlying120 vR (by kernel_rfl) (by omega) (.slice a5 n5 c5) n5 _ (bJ ⟨K,3,(-1)⟩) rfl HOWN4.out w4.heap.size rfl rfl (eE _) (cV _) (by simp only[maxLen];omega) (by omega) hbs ?_;intro g cap w5 hown5 hg5 hat5;have hP5:w5.heap[P]? =some (wQ d (.slice a5 n5 c5)):=aK hg5 J0.out.bld (cH HOWN4.out J0.out.bld (by decide));have hf5:w5.frozen? ⟨P,4,none⟩=false:=frozen_of_row _ _ _ _ _ hP5;have hl5:=aN hP5;have hc5:w5.cell? ⟨P,4,none⟩=some (.slice a5 n5 c5):=by rw[aBP _ _ _ _ _ _ hP5];rfl
        have hgg:w4.grownBy w5 (Value.slice a5 n5 c5).ownBlock:=lP (gK _ _) hg5;have happ:=J0.out.app (M:= [⟨K,3,(-1)⟩]) hg5 (by rw[←HN5.out];simpa using hown5) (by rw[←HN5.out];simp;omega)
        have hJN:=LoJ.app (st:=(iA (stP ts f inn dn).1 K,(stP ts f inn dn).2)) HLF J0.out ((LoJ.steady (aBV _) hw0).ext HJ4.out (pQ w4)) JV.out happ.1 happ.2 (fun q hq=>by
         simp only[Value.ownBlock,Option.some.injEq] at hq;subst hq;rcases hat5 with h|h
         ·exact .inl h.symm
         ·exact .inr (by rw[h];exact Nat.le_succ _))
        have HBN5:=aBO happ.1;have HJN:=aBO hJN
        have HKN:Hid (dI W (w5.setCell ⟨P,4,none⟩ (.slice (some ⟨g,0,none⟩) (n5+1) cap))):=HK4.out.trans ((dI.grown hgg (fun q o e ho=>by
         rcases HOWN4.out.2 with ⟨h,_⟩|⟨g',cap',cur,h,_,hg',_⟩
         ·rw[h] at e;cases e
         ·rw[h] at e;simp only[Value.ownBlock,Option.some.injEq] at e;subst e;have ho':w4.drew.heap[g']? =some o:=ho;rw[hg'] at ho';cases ho'
          rfl)).trans (dI.setCell _ _ _))
        have HAT:Hid (some g=(Value.slice a5 n5 c5).ownBlock∨g=w4.heap.size+1):=hat5;have HGG:=aBO hgg;refine⟨mG hgg,?_⟩;simp only[zJ,zG,zH,zI];clear hown5 hg5 hat5 hgg happ hJN hP5 g1 g2 g3
        repeat (go_big_quiet_step (fail))
        refine wpQuiet_nil ?_;refine dP rfl rfl ?_;go_simp;refine NoPanic.normal ?_
        gi_wp2
        exact⟨HKN.out,by rw[HE.out];exact HJN⟩
       ·have h1':¬(1:Int)<(E.length:Int):=by omega
        have hlow:∀y,K y=true→1≤y∧y<ts.length:=fun y hy=>by
         rw[HKK.out] at hy;obtain⟨x',_,hx'⟩:=qL ((eY HC.out x y).1 hy).2.1;exact lJ (bQ HF.out).1 hx'
        have hE1:E= [E.headD 0]:=by
         have h0:=FW HF.out HCK.out (y:=x) HKB.out.symm hlow;rw[←HEE.out] at h0;exact rW h0 h1
        obtain⟨e0,he0⟩:∃e0,e0=E.headD 0:=⟨_,rfl⟩
        rw[←he0] at hE1;have heK:K e0=true:=((fM HCK.out e0).1 (by rw[←HEE.out,hE1];simp)).1;have he200:e0<200:=HCK.out e0 heK;have HE:Hid (stP ts f inn (dn++ [x])=(iA (stP ts f inn dn).1 K,(stP ts f inn dn).2++⟨K,2,(e0:Int)⟩ :: dZ ts f (bW K e0))):=by
         rw[Hid,rH,lF,←HKK.out,←HLB.out,←HKB.out,Bool.true_and,if_pos rfl,←HEE.out,if_neg h1,←he0]
        have hb6:(L++(stP ts f inn dn).2).length+1+(dZ ts f (bW K e0)).length≤1000:=by
         have q1:=FQ ts f inn r (dn++ [x]);rw[HE.out] at q1;have q2:dn++ [x]++r=aZ inn:=by rw[HD.out];simp
         rw[q2] at q1;have q3:=HLEN.out;have q4:dZ ts (f+1) inn=(stP ts f inn (aZ inn)).2:=rfl;rw[q4] at q3;simp at q1⊢;omega
        have HB6:=aBO hb6;have hb5:(L++(stP ts f inn dn).2).length+1≤1000:=by omega
        have hl1:E.length=1:=by rw[hE1];rfl
        have ho4:=HO4.out;rw[hl1,hE1] at ho4;rw[hl1];have HLOW:=aBO hlow;clear HO4 hE1 he0 hlow hb6 h1;obtain⟨g4,hav,cur4,HG4,HC4⟩:∃g4,av=some ⟨g4,0,none⟩∧(∃cur4,Hid (w4.heap[g4]? =some (.cells cur4 3 (0,0)))∧Hid (cur4[0]? =some (.int .i64 (e0:Int)))):=by
         rcases ho4.1.2 with ⟨h,_⟩|⟨g4,cap4,cur4,h,_,hg4,hcap1,_,hcs,htk⟩
         ·cases h
         ·injection h with h1 h2 h3;refine⟨g4,h1,cur4,hg4,?_⟩;have:(cur4.toList.take 1)[0]? =some (.int .i64 (e0:Int)):=by
           simp only[aO,bC,List.map_cons,List.map_nil,List.length_cons,List.length_nil] at htk;exact congrArg (fun(l:List Value)=>l[0]?) htk
          rw[List.getElem?_take] at this;simpa[Hid] using this
        subst hav;have HO4:=aBO ho4;clear ho4;obtain⟨v5,j0,j1,j2,j3,j4,jc,jv⟩:=HJ4.out;obtain⟨a5,c5,hv5⟩:=cK.form j0.parts;obtain⟨n5,hn5⟩:∃n,n=(L++(stP ts f inn dn).2).length:=⟨_,rfl⟩
        rw[←hn5] at hv5;subst hv5;have hS5:(Value.slice a5 n5 c5).ownBlock≠some S7:=cH j0.parts.1 HS4.out (by decide);have g1:∀n:mD (fun W'=>w4.grownBy W' (Value.slice a5 n5 c5).ownBlock),n.val.cell? ⟨w.heap.size,0,none⟩=some (.pointer (some ⟨P,0,none⟩)):=fun n=>by rw[aBP _ _ _ _ _ _ (aK n.prop j1 (cH j0.parts.1 j1 (by decide)))];rfl
        have g2:∀n:mD (fun W'=>w4.grownBy W' (Value.slice a5 n5 c5).ownBlock),n.val.cell? ⟨P,4,none⟩=some (.slice a5 n5 c5):=fun n=>by rw[aBP _ _ _ _ _ _ (aK n.prop j0.bld (cH j0.parts.1 j0.bld (by decide)))];rfl
        have g3:∀w',(∃n:mD (fun W'=>w4.grownBy W' (Value.slice a5 n5 c5).ownBlock),w'=n.val)→w'.heap[S7]? =some (eA K):=fun w' ⟨n,e⟩=>by rw[e];exact aK n.prop HS4.out hS5
        have hne4:(Value.slice a5 n5 c5).ownBlock≠some g4:=cH j0.parts.1 HG4.out (by decide);have g4':∀n:mD (fun W'=>w4.grownBy W' (Value.slice a5 n5 c5).ownBlock),n.val.cell? ⟨g4,0,none⟩=some (.int .i64 (e0:Int)):=fun n=>by rw[aBP _ _ _ _ _ _ (aK n.prop HG4.out hne4)];exact HC4.out
        have hne:Nonempty (mD (fun W'=>w4.grownBy W' (Value.slice a5 n5 c5).ownBlock)):=wV (qO _ _);have J0:=aBO (j0.ext' (pQ w4));have hown4:w4.drew.ownsRow base 128 202 (.slice a5 n5 c5) n5 ((L++(stP ts f inn dn).2).flatMap bJ):=by have:=J0.out.parts.1;rwa [←hn5] at this
        have HOWN4:=aBO hown4;have JV:=aBO jv;have HN5:=aBO hn5;have hbs:=J0.out.bs;have hn1000:n5+1≤1000:=by omega
        clear j0 j1 j2 j3 j4 jc jv hown4 hn5
        gi_wp2
        refine sN (fun w'=>∃n:mD (fun W'=>w4.grownBy W' (Value.slice a5 n5 c5).ownBlock),w'=n.val) [(0,10,some (10,true)),(11,0,some (11,true)),(12,2,some (14,false))] (by kernel_rfl) (by kernel_rfl) (by kernel_rfl) (by repeat (first|exact iJ|refine jP ?_|refine iK ?_)) (mG (gK _ _)) ?_;simp only[lW,List.take_succ_cons,List.take_zero,List.drop_succ_cons,List.drop_zero]
        repeat (first
         |go_big_quiet_skip
         |(refine aW (o:=⟨some 58,.load 124 _,_,_,_,_⟩) (by rfl) 124 _ rfl S7 rfl 124 (aQ K) (0,0) _ g3 Tryz.underlying124 rfl (by rw[aF];exact bF) ?_;simp only[zJ,zG,zH,zI])
         |(refine BN (o:=⟨some 62,.build 128 _,_,_,_,_⟩) (by rfl) _ _ _ K 2 (e0:Int) rfl rfl rfl rfl ?_;simp only[zJ,zG,zH,zI])
         |go_big_quiet_step (fail))
        refine wpQuiet_nil ?_;refine dP rfl rfl ?_;refine uJ _ ⟨K,2,(e0:Int)⟩ rfl rfl ?_;simp only[zJ,zG,zH,zI];refine⟨mG (lP (gK _ _) (World.grownBy_alloc _ _ _)),?_⟩;refine wpQuiet_nil ?_;refine dP rfl rfl ?_;refine mM w4.drew (.tmp 57) (.tmp 63) 120 128 rfl base _ 202 216 Tryz.underlying120 vR (by kernel_rfl) (by omega) (.slice a5 n5 c5) n5 _ (bJ ⟨K,2,(e0:Int)⟩) rfl HOWN4.out w4.heap.size rfl rfl (eE _) (cV _) (by simp only[maxLen];omega) (by omega) hbs ?_;intro g cap w5 hown5 hg5 hat5;have hP5:w5.heap[P]? =some (wQ d (.slice a5 n5 c5)):=aK hg5 J0.out.bld (cH HOWN4.out J0.out.bld (by decide));have hf5:w5.frozen? ⟨P,4,none⟩=false:=frozen_of_row _ _ _ _ _ hP5;have hl5:=aN hP5;have hc5:w5.cell? ⟨P,4,none⟩=some (.slice a5 n5 c5):=by rw[aBP _ _ _ _ _ _ hP5];rfl
        have hgg:w4.grownBy w5 (Value.slice a5 n5 c5).ownBlock:=lP (gK _ _) hg5;have happ:=J0.out.app (M:= [⟨K,2,(e0:Int)⟩]) hg5 (by rw[←HN5.out];simpa using hown5) (by rw[←HN5.out];simp;omega)
        have hJN:=LoJ.app (st:=(iA (stP ts f inn dn).1 K,(stP ts f inn dn).2)) HLF J0.out ((LoJ.steady (aBV _) hw0).ext HJ4.out (pQ w4)) JV.out happ.1 happ.2 (fun q hq=>by
         simp only[Value.ownBlock,Option.some.injEq] at hq;subst hq;rcases hat5 with h|h
         ·exact .inl h.symm
         ·exact .inr (by rw[h];exact Nat.le_succ _))
        have HBN5:=aBO happ.1;have HJN:=aBO hJN
        have HKN:Hid (dI W (w5.setCell ⟨P,4,none⟩ (.slice (some ⟨g,0,none⟩) (n5+1) cap))):=HK4.out.trans ((dI.grown hgg (fun q o e ho=>by
         rcases HOWN4.out.2 with ⟨h,_⟩|⟨g',cap',cur,h,_,hg',_⟩
         ·rw[h] at e;cases e
         ·rw[h] at e;simp only[Value.ownBlock,Option.some.injEq] at e;subst e;have ho':w4.drew.heap[g']? =some o:=ho;rw[hg'] at ho';cases ho'
          rfl)).trans (dI.setCell _ _ _))
        have HAT:Hid (some g=(Value.slice a5 n5 c5).ownBlock∨g=w4.heap.size+1):=hat5;have HGG:=aBO hgg;refine⟨mG hgg,?_⟩;simp only[zJ,zG,zH,zI];clear hown5 hg5 hat5 hgg happ hJN hP5 g1 g2 g3 g4'
        repeat (go_big_quiet_step (fail))
        refine wpQuiet_nil ?_;refine dP rfl rfl ?_;go_simp;refine NoPanic.normal ?_;have HS5:=aBO hS5;have hP7:P≠S7:=by omega
        have hS6:(w5.setCell ⟨P,4,none⟩ (.slice (some ⟨g,0,none⟩) (n5+1) cap)).heap[S7]? =some (eA K):=aK (bA w5 P 4 _) (aK HGG.out HS4.out hS5) (fun e=>by injection e with e;omega);have hP4:P≠g4:=by
         intro e;have h5:=HG4.out;rw[←e] at h5;have h6:=J0.out.bld;have h7:w4.drew.heap[P]? =some (.cells cur4 3 (0,0)):=h5;rw[h6] at h7;injection h7 with h7;injection h7 with _ h7 _;exact absurd h7 (by decide)
        have hg6:(w5.setCell ⟨P,4,none⟩ (.slice (some ⟨g,0,none⟩) (n5+1) cap)).heap[g4]? =some (.cells cur4 3 (0,0)):=aK (bA w5 P 4 _) (aK HGG.out HG4.out hne4) (fun e=>by injection e with e;exact hP4 e);clear hc5 hf5 hl5 HGG hS5;generalize w5.setCell ⟨P,4,none⟩ (.slice (some ⟨g,0,none⟩) (n5+1) cap)=w6 at *;obtain⟨v6,hv6⟩:∃v6,v6=Value.slice (some ⟨g,0,none⟩) (n5+1) cap:=⟨_,rfl⟩
        have hv6o:∀q,v6.ownBlock=some q→v.ownBlock=some q∨w.heap.size+1+1+1<q:=fun q hq=>by
         rw[hv6] at hq;simp only[Value.ownBlock,Option.some.injEq] at hq;subst hq;rcases HAT.out with h|h
         ·exact JV.out g h.symm
         ·right;have:=aN HS4.out;omega
        rw[←hv6] at HBN5;have HV6:=aBO hv6o;clear hv6o;have hj6:=HJN.out;obtain⟨v9,q0,q1,_⟩:=hj6;have g1:∀n:aY w6,n.val.cell? ⟨w.heap.size,0,none⟩=some (.pointer (some ⟨P,0,none⟩)):=aY.cell (by rw[aBP _ _ _ _ _ _ q1];rfl);have g3:∀w',(∃n:aY w6,w'=n.val)→w'.heap[S7]? =some (eA K):=fun w' ⟨n,e⟩=>by rw[e];exact aB n.ext hS6
        have g4':∀n:aY w6,n.val.cell? ⟨g4,0,none⟩=some (.int .i64 (e0:Int)):=aY.cell (by rw[aBP _ _ _ _ _ _ hg6];exact HC4.out);clear q0 q1 hS6 hg6
        gi_wp2
        refine sN (fun w'=>∃n:aY w6,w'=n.val) [(0,5,some (5,true)),(6,0,some (6,false))] (by kernel_rfl) (by kernel_rfl) (by kernel_rfl) (by repeat (first|exact iJ|refine jP ?_|refine iK ?_)) ⟨⟨_,bZ (aBQ _ _) 1⟩,rfl⟩ ?_;simp only[lW,List.take_succ_cons,List.take_zero,List.drop_succ_cons,List.drop_zero]
        repeat (first
         |go_big_quiet_skip
         |(refine aW (o:=⟨some 68,.load 124 _,_,_,_,_⟩) (by rfl) 124 _ rfl S7 rfl 124 (aQ K) (0,0) _ g3 Tryz.underlying124 rfl (by rw[aF];exact bF) ?_;simp only[zJ,zG,zH,zI])
         |go_big_quiet_step (fail))
        refine wpQuiet_nil ?_;clear g1 g3 g4';refine dP rfl rfl ?_;go_simp;refine(AQ K e0 he200 w6.drew).mono ?_;rintro e w7 ⟨rfl,hb7⟩;have hb7:=nN hb7;refine⟨⟨⟨w7,hb7⟩,rfl⟩,?_⟩;refine wpQuiet_nil ?_;refine dP rfl rfl ?_;have hJ7:=(LoJ.steady (aBV _) hw0).ext HJN.out hb7;have hB7:mR W0 d P base v6 (L++((stP ts f inn dn).2++ [⟨K,2,(e0:Int)⟩])) w7:=by rw[←List.append_assoc];exact HBN5.out.ext' hb7
        have hcall:=IH.out (bW K e0) v6 (L++((stP ts f inn dn).2++ [⟨K,2,(e0:Int)⟩])) w7 (jQ HCK.out e0) (fun y hy=>(HLOW.out y (oG.1 hy).2).2) (by have:=HB6.out;simp at this⊢;omega)
         (by
           have h5:=AP (s:=K) (inn:=inn) (e:=e0) (fun y hy=>by rw[HKK.out] at hy;exact((eY HC.out x y).1 hy).2.1.inn) HC.out heK;have:=HLT.out
           omega) hB7
        have HCALL:=aBO hcall;have HJ7:=aBO hJ7;have HB7:=aBO hB7;have HBB7:=aBO hb7;clear hcall hJ7 hB7 hb7;go_simp;refine HCALL.out.mono ?_;rintro e w8 ⟨rfl,v8,k0,kc,kv⟩;have hJ8:=LoJ.app (st:=(iA (stP ts f inn dn).1 K,(stP ts f inn dn).2++ [⟨K,2,(e0:Int)⟩])) HLF HB7.out HJ7.out HV6.out k0 kc kv;have HJ8:=aBO hJ8;have HK8:=aBO ((HKN.out.trans (dI.ext HBB7.out)).trans (HB7.out.keep kc));clear hJ8 k0 kc kv;refine NoPanic.normal ?_
        gi_wp2
        refine⟨HK8.out,?_⟩;rw[HE.out];have h9:=HJ8.out;simp only[List.append_assoc,List.cons_append,List.nil_append] at h9;exact h9
  case done=>
   rintro D W hD hJ hK;have HJD:=aBO ((LoJ.steady (D:=w.heap.size) (aBV _) hw0).put (.deferred none) (l:=D) hJ.out (by omega) hK rfl);have HKD:=aBO hK;clear hJ
   gi_wp2
   refine⟨by simp,.inl ⟨_,_,rfl,run_takeDeferred HKD.out,?_⟩⟩;obtain⟨v9,j0,_,_,_,_,jc,jv⟩:=HJD.out;refine⟨.tuple #[],by simp[results,Tryz.results79,go_sem],rfl,v9,?_,jc,fun q hq=>?_⟩
   ·exact j0
   ·rcases jv q hq with h|h
    ·exact .inl h
    ·exact .inr (by omega)
  case stop=>rintro D c W hD h;exact h.elim
end

section
open Go.RowKit
def sK(a:Act)(slots:List Nat)(u:Nat→Value)(ds:List Deferred):Act:={tmps:=slots.foldl (fun t s=>t.setIfInBounds s (u s)) a.tmps,defers:=ds}
theorem TE(a:Act):∀(slots:List Nat),sK a slots (fun s=>a.tmps.getD s undef) a.defers=a:=by
 intro slots
 have key:slots.foldl (fun t s=>t.setIfInBounds s (a.tmps.getD s undef)) a.tmps=a.tmps:=by
  induction slots with
  |nil=>rfl
  |cons s l ih=>rw[List.foldl_cons,IN];exact ih
 rw[sK,key]
theorem CE{F:Fence}{rm:Nat}{P:Program}{Q:Exit→Act→World→Prop}{a:Act}{w:World}{c:Code}(slots:List Nat)(R:Nat→(Nat→Value)→List Deferred→World→Prop)(n0:Nat)
  (h0:R n0 (fun s=>a.tmps.getD s undef) a.defers w)
  (round:∀m u ds w',R m u ds w'→c.wpIn F rm P (Exit.then (fun a' w''=>∃m',m'<m∧∃u' ds',a'=sK a slots u' ds'∧R m' u' ds' w'') Q) (sK a slots u ds) w'):(Code.loop c).wpIn F rm P Q a w:=by
 refine wpIn_loop_ghost (fun m a' w'=>∃u ds,a'=sK a slots u ds∧R m u ds w') n0 ⟨_,_,(TE a slots).symm,h0⟩ ?_
 rintro m a' w' ⟨u,ds,rfl,h⟩
 exact round m u ds w' h
end

section
open Go.RowKit Go.Shelf
attribute [local go_sem] Oper.semAt_some cT bM cC bG
theorem nV:(Tryz.prog.info? 76).map (fun i=>(i.zero,i.size,i.bytes))=some (some (.agg #[.int .i64 0,.int .i64 0,.slice none 0 0]),3,40):=by kernel_rfl
theorem XE{tm:Array Value}{ds:List Deferred}{m:Nat}{G:(Nat→Value)→List Deferred→Act}{R:Nat→(Nat→Value)→List Deferred→Prop}(h:(⟨tm,ds⟩:Act)=G (fun s=>tm.getD s undef) ds)(m':Nat)(hm:m'<m)(hR:R m' (fun s=>tm.getD s undef) ds):∃m',m'<m∧∃u' ds',(⟨tm,ds⟩:Act)=G u' ds'∧R m' u' ds':=⟨m',hm,_,_,h,hR⟩
def zR(ts:List aT)(qs:List aI):Prop:=(dR ts).Perm qs∧PY qs
def sY(ts:List aT)(w:World)(e:Ending)(w':World):Prop:=
 (bU ts=false→e=.returned (.tuple #[iY,.int .i64 2]))∧(bU ts=true→∃v ls qs,e=.returned (.tuple #[v,.int .i64 0])∧zR ts qs∧dG w' w.heap.size v ls∧aJ ls=dQ ts.length qs)∧Below w.heap.size w w'
abbrev UO:Obj:=.cells #[.slice none 0 0,.slice none 0 0,.slice none 0 0,.slice none 0 0] 116
theorem XN(pa:Option Addr)(pn pc:Nat)(ba:Option Addr)(bn bc:Nat)(bs:List gS)(w:World)(h:dU w ba bn bs)(hf:bU (aG bs)=false):
  Calls Tryz.prog 34 #[dX pa pn pc ba bn bc] w (sY (aG bs) w):=by
 have H:=aBO h
 have HF:=aBO hf
 clear h hf
 go_enter Tryz.func34,Tryz.ntmps34
 go_upto_region 1 with (fail)
 obtain⟨W,hW⟩:∃W,W=w.alloc (bO pa pn pc ba bn bc):=⟨_,rfl⟩
 rw[←hW]
 have hk0:W.heap[w.heap.size]? =some (bO pa pn pc ba bn bc):=by rw[hW];exact aBS _ _
 have hB:Below w.heap.size w W:=by rw[hW];exact aD _ _
 have HK:=aBO hk0
 have HB:=aBO hB
 clear hW hk0 hB
 go_wp2_with (first
  |(refine wpList_load_row (o:=⟨some 15,.load 25 _,_,_,_,_⟩) rfl 25 _ rfl w.heap.size rfl 25 _ (0,0) _ HK.out Tryz.underlying25 rfl aS ?_)
  |(go_at_call 78
    refine(lO pa pn pc ba bn bc bs W (H.out.ext HB.out)).mono ?_;rintro e w2 ⟨cs,rfl,hcs,hall,hb,hokk⟩;rw[HF.out];have HB2:=aBO (aA HB.out hb);have HCS:=aBO hcs;have HALL:=aBO hall
    clear hb hokk hcs hall)
  |(refine wpList_store_row rfl 116 _ _ rfl w2.heap.size cs rfl rfl 116 _ (aBS w2 UO) (by rw[HCS.out];exact bD) (by rw[HCS.out];rfl) HALL.out ?_))
 refine bodyPost_ret (v:=.tuple #[iY,.int .i64 2]) (by simp[results,Tryz.results34,go_sem,Act.put]) rfl ?_
 unfold sY
 refine⟨fun _=>rfl,?_,below_setRow (HB2.out.alloc HB2.out.size _) HB2.out.size _⟩
 intro h
 rw[HF.out] at h
 cases h
theorem TX(pa:Option Addr)(pn pc:Nat)(ba:Option Addr)(bn bc:Nat)(bs:List gS)(w:World)(h:dU w ba bn bs)(hf:bU (aG bs)=true)(hbn40:bn≤40):
  Calls Tryz.prog 34 #[dX pa pn pc ba bn bc] w (sY (aG bs) w):=by
 have H:=aBO h
 have HF:=aBO hf
 have hgood:=(cY _).1 (bQ hf).1
 have hbn:(aG bs).length=bn:=by rw[dD];exact h.1.1
 have hbn1:1≤bn:=by rw[←hbn];exact hgood.1.1
 have hbn2:bn≤200:=by omega
 have HLN:=aBO hbn
 clear h hf hgood hbn
 obtain⟨ts,hts⟩:∃ts,ts=aG bs:=⟨_,rfl⟩
 refine(callsIn_wide (n:=0)).1 ?_
 refine callsIn_of_wp_marks Tryz.func34 rfl trivial ?_
 simp only[Tryz.ntmps34,List.size_toArray,List.length_cons,List.length_nil,Nat.reduceAdd,Nat.reduceSub,Array.replicate_succ,Array.replicate_zero,List.push_toArray,List.append_toArray,List.nil_append,List.cons_append]
 refine wpIn_wide.2 ?_
 go_upto_region 1 with (fail)
 obtain⟨W,hW⟩:∃W,W=w.alloc (bO pa pn pc ba bn bc):=⟨_,rfl⟩
 rw[←hW]
 have hk0:W.heap[w.heap.size]? =some (bO pa pn pc ba bn bc):=by rw[hW];exact aBS _ _
 have hB:Below w.heap.size w W:=by rw[hW];exact aD _ _
 have HK:=aBO hk0
 have HB:=aBO hB
 clear hW hk0 hB
 go_upto_region 4 with (first
  |(refine wpList_load_row (o:=⟨some 15,.load 25 _,_,_,_,_⟩) rfl 25 _ rfl w.heap.size rfl 25 _ (0,0) _ HK.out Tryz.underlying25 rfl aS ?_)
  |(go_at_call 78
    refine(lO pa pn pc ba bn bc bs W (H.out.ext HB.out)).mono ?_;rintro e w2 ⟨cs,rfl,hcs,hall,hb,hokk⟩;rw[HF.out];obtain⟨ta,tc,fa,fc,hcv,hwk⟩:=hokk HF.out;injection hcv with hcv;subst hcv;have HB2:=aBO hb;have HWK:=aBO hwk
    clear hb hokk hcs hall hwk)
  |(refine wpList_store_row rfl 116 _ _ rfl w2.heap.size #[.slice pa pn pc,.slice ba bn bc,.slice ta bn tc,.slice fa bn fc] rfl rfl 116 _ (aBS w2 UO) bD rfl rfl ?_))
 obtain⟨d,hd⟩:∃d:fD,d=⟨pa,pn,pc,ba,bn,bc,ta,tc,fa,fc⟩:=⟨_,rfl⟩
 rw[←hd] at HWK
 have hdbn:d.bn=bn:=by rw[hd]
 obtain⟨W3,hW3⟩:∃W3,W3=w2.alloc (kK ⟨pa,pn,pc,ba,bn,bc,ta,tc,fa,fc⟩):=⟨_,rfl⟩
 rw[←hW3]
 have hw3:W3.heap[w2.heap.size]? =some (kK d):=by rw[hW3,hd];exact aBS _ _
 have hb3:Below w2.heap.size w2 W3:=by rw[hW3];exact aD _ _
 have HW3:=aBO hw3
 have HB3:=aBO (aA (aA HB.out HB2.out) hb3)
 have HWK3:=aBO (HWK.out.ext hb3)
 have HK3:=aBO (aB (aA HB2.out hb3) HK.out)
 have HDD:=aBO hd
 clear hW3 hw3 hb3 HWK HB2 HK HB
 go_upto_region 5 with (first
  |(refine wpList_load_row (o:=⟨some 21,.load 116 _,_,_,_,_⟩) rfl 116 _ rfl w2.heap.size rfl 116 _ (0,0) _ HW3.out Tryz.underlying116 rfl bD ?_))
 obtain⟨P,hP⟩:∃P,P=W3.heap.size:=⟨_,rfl⟩
 obtain⟨bv,hbv⟩:∃b,b=W3.heap.size+1:=⟨_,rfl⟩
 obtain⟨W4,hW4⟩:∃W4,W4=(W3.alloc (.cells #[.slice pa pn pc,.slice ba bn bc,.slice ta bn tc,.slice fa bn fc,.slice none 0 0] 122)).alloc (.cells #[.pointer (some ⟨W3.heap.size,0,none⟩)] 119):=⟨_,rfl⟩
 rw[←hW4]
 have hb4:Below W3.heap.size W3 W4:=by rw[hW4];exact(aD _ _).alloc (by simp) _
 have hbd4:W4.heap[P]? =some (wQ d iY):=by rw[hW4,hP,hd,aBR _ _ _ (by simp)];exact aBS _ _
 have hbv4:W4.heap[bv]? =some (.cells #[.pointer (some ⟨P,0,none⟩)] 119 (0,0)):=by rw[hW4,hbv,hP];exact aU _ _ _ (by simp)
 have hsz4:W4.heap.size=W3.heap.size+1+1:=by rw[hW4];simp
 rw[←hbv,←hP]
 have HBJ4:Hid (mR W3 d P W4.heap.size iY [] W4):=⟨hbd4,cK.nil _ _ _ _ _,by omega,aBV _,by omega,hb4⟩
 have HW4:=aBO (aB hb4 HW3.out)
 have HBV4:=aBO hbv4
 have HK4:=aBO (aB hb4 HK3.out)
 have HB4:=aBO (aA HB3.out hb4)
 have hPw:W3.heap.size≤P:=by omega
 have hbvP:P<bv:=by omega
 have hbvs:bv<W4.heap.size:=by omega
 clear hW4 hb4 hbd4 hbv4 hsz4 hP hbv hd
 refine dL 3 [some 24,some 25,some 26] (by kernel_rfl) (by kernel_rfl) (dV [.val (.pointer (some ⟨P,0,none⟩)),.val (dK d),.val (.agg (aQ (aL d.bn)))]) (dN ?_) ?_ ?_
 ·intro k hk;simp only[List.mem_cons,List.not_mem_nil,or_false] at hk;rcases hk with rfl|rfl|rfl
  ·exact trivial
  ·exact trivial
  ·exact trivial
 ·intro i hi ν lo hi' w1 K hB hD hK;have hcase:i=0∨i=1∨i=2:=by omega
  clear hi;rcases hcase with rfl|rfl|rfl
  ·clear hD;refine aC rfl rfl ?_;simp only[zA,zB,zC,zD,zE,zF,zJ,zK,zG,zH,zI] at hK⊢;have q1:=aH hB (show W4.cell? ⟨bv,0,none⟩=some (.pointer (some ⟨P,0,none⟩)) by rw[aBP _ _ _ _ _ _ HBV4.out];rfl);go_simp;exact hK _ _ (aBQ _ _) rfl
  ·clear hD;refine aC rfl rfl ?_;simp only[zA,zB,zC,zD,zE,zF,zJ,zK,zG,zH,zI] at hK⊢;refine wp_load_row 116 _ rfl w2.heap.size rfl 116 _ (0,0) _ (aB hB HW4.out) Tryz.underlying116 rfl bD ?_;exact hK _ _ (aBQ _ _) rfl
  ·have e1:=hD 1 (by kernel_rfl)
   replace e1:ν 1=(dK d):=e1
   clear hD;refine aC rfl rfl ?_;simp only[zA,zB,zC,zD,zE,zF,zJ,zK,zG,zH,zI,e1] at hK⊢;go_simp;refine(pS d (by omega) w1).mono ?_;rintro e w3 ⟨rfl,hb3⟩;exact hK _ _ hb3 rfl
 ·intro ν lo hi w1 hB hS hI hD;have e0:ν 0=(.pointer (some ⟨P,0,none⟩)):=hS 0 (by omega);have e1:ν 1=(dK d):=hS 1 (by omega);have e2:ν 2=(.agg (aQ (aL d.bn))):=hS 2 (by omega);clear hS;simp only[List.drop_succ_cons,List.drop_zero,zA,zB,zC,zD,zE,zF,zJ,zK,zG,zH,zI,e0,e1,e2];have HBJ5:=aBO (HBJ4.out.ext' hB);have HBV5:=aBO (aB hB HBV4.out);have HK5:=aBO (aB hB HK4.out);have HB5:=aBO (aA HB4.out hB);have hsz5:W4.heap.size≤w1.heap.size:=hB.size;have HHF:Hid (bU ts=true):=by rw[Hid,hts];exact HF.out
  have HLT:Hid (ts.length=bn):=by rw[Hid,hts];exact HLN.out
  have HWKT:Hid (gH W3 d ts):=by rw[Hid,hts];exact HWK3.out
  have HLL:Hid (([]:List aI).length+(dZ ts 201 (aL ts.length)).length≤1000):=by
   have:=JJ HHF.out;rw[Hid,List.length_nil];omega
  have HWL:Hid ((aZ (aL ts.length)).length<201):=by
   have:=List.length_filter_le (aL ts.length) (List.range 200);rw[List.length_range] at this;rw[Hid,aZ];omega
  have HDB:Hid (d.bn=ts.length):=hdbn.trans HLT.out.symm;clear hI hD hB e0 e1 e2 HBJ4 HBV4 HK4 HB4 HW4 hdbn;obtain⟨L0,hL0⟩:∃L,L=dZ ts 201 (aL ts.length):=⟨_,rfl⟩
  have HL0:=aBO hL0;have HL0l:Hid (L0.length≤200):=by rw[Hid,hL0];exact JJ HHF.out
  clear hL0;have HPL:Hid ((dR ts).length+1≤bn):=by rw[Hid,←HLT.out];exact pV HHF.out
  have HPS:Hid (∀p∈dR ts,aZ p.s≠[]∧cI p<200∧p.s (cI p)=true∧cI p<ts.length∧cA p.s):=iI (by rw[HLT.out];exact hbn2) (lN HHF.out);have HPP:Hid (dR ts=L0++lH ts L0):=by rw[Hid,dR,HL0.out]
  have HCALL:Hid (Calls Tryz.prog 79 #[.pointer (some ⟨P,0,none⟩),.agg (aQ (aL d.bn))] w1 (GB W3 d P W4.heap.size iY w1 ([]++dZ ts 201 (aL ts.length)))):=by
   have h:=SR W3 d ts HWKT.out HHF.out P W4.heap.size 201 (aL ts.length) iY [] w1 (eJ (by have:=HLT.out;omega)) (fun y hy=>by simpa[aL] using hy) HLL.out HWL.out HBJ5.out;rw[Hid,HDB.out];exact h
  have hwW3:w.heap.size<W3.heap.size:=aN HK3.out
  go_upto_region 8 with (first
   |(go_at_call 79
     refine HCALL.out.mono ?_;rintro e w6 ⟨rfl,v6,hj6,hc6,hv6⟩;rw[List.nil_append,←HL0.out] at hj6;have hbv6:=hc6.row HBV5.out (fun hs=>by rcases hs with h|h<;>first|omega|cases h);have HK6:=aBO (hc6.row HK5.out (fun hs=>by rcases hs with h|h<;>first|omega|cases h));have HBJ6:=aBO hj6;have HBV6:=aBO hbv6;have HC6:=aBO hc6;have q6:w6.cell? ⟨bv,0,none⟩=some (.pointer (some ⟨P,0,none⟩)):=(by rw[aBP _ _ _ _ _ _ hbv6];rfl)
     clear hj6 hc6 hv6 hbv6)
   |(go_at_call 81
     refine(TU W3 d ts HWKT.out HHF.out P W4.heap.size v6 L0 w6 (by rw[HL0.out];exact LN HHF.out) (by have:=HL0l.out;omega) HBJ6.out).mono ?_;rintro e w7 ⟨rfl,v7,hj7,hc7,hv7⟩;rw[←HPP.out] at hj7
     have hbv7:=hc7.row HBV6.out (fun hs=>by
      rcases hs with h|h
      ·omega
      ·have:=(HBJ6.out.own h).1;omega)
     have HK7:=aBO (hc7.row HK6.out (fun hs=>by
      rcases hs with h|h
      ·omega
      ·have:=(HBJ6.out.own h).1;omega))
     have HBJ7:=aBO hj7;have HBV7:=aBO hbv7;have HC7:=aBO hc7;have q7:w7.cell? ⟨bv,0,none⟩=some (.pointer (some ⟨P,0,none⟩)):=(by rw[aBP _ _ _ _ _ _ hbv7];rfl)
     have p7:=hj7.cell
     clear hj7 hc7 hv7 hbv7 q6)
   |(go_at_call 82
     refine(DD P W4.heap.size bv d v7 (dR ts) w7 HBV7.out HBJ7.out.bld HBJ7.out.parts (by have:=HPL.out;omega) (fun p hp=>(HPS.out p hp).1) (fun p hp=>by have:=(HPS.out p hp).2.1;omega)).mono ?_;rintro e w8 ⟨rfl,qs,hp8,hperm,hsort,hc8⟩;have HP8:=aBO hp8;have HPERM:=aBO hperm;have HSORT:=aBO hsort;have HC8:=aBO hc8
     clear hp8 hperm hsort hc8 q7 p7))
  have hwP:w.heap.size<P:=by omega
  generalize W4.heap.size=base at *;have hlow7:∀q,v7.ownBlock=some q→base≤q∧q<w7.heap.size:=fun q hq=>HBJ7.out.own hq;have hw7:base≤w7.heap.size:=HBJ7.out.bs;have hw8:base≤w8.heap.size:=aCD hw7 HC8.out.size;have HK8:=aBO (HC8.out.row HK7.out (fun hs=>by have:=(hlow7 _ hs).1;omega));have HBV8:=aBO (HC8.out.row HBV7.out (fun hs=>by have:=(hlow7 _ hs).1;omega));have HBL8:=aBO (HC8.out.row HBJ7.out.bld (fun hs=>by have:=(hlow7 _ hs).1;omega));have HE8:Hid (Below W3.heap.size W3 w8):=HBJ7.out.ext.trans (HC8.out.below (B:=W3.heap.size) (by omega) (fun q hq=>by have:=(hlow7 q hq).1;omega));obtain⟨pa7,pc7,hv7f⟩:=cK.form HP8.out;obtain⟨m,hm⟩:∃m,m=qs.length:=⟨_,rfl⟩
  rw[←hm] at hv7f;subst hv7f;have hml:m+1≤bn:=by rw[hm,←HPERM.out.length_eq];exact HPL.out
  have HM:=aBO hm;clear hm HC6 HC7 HC8 HK7 HBV7 HBJ7 HK6 HBV6 HBJ6 HBJ5 HBV5 HK5 hlow7;go_upto_region 9 with (fail)
  obtain⟨W9,hW9⟩:∃W9,W9=w8.alloc (.cells #[.int .i64 1,.int .i64 (-1),.slice none 0 0] 76):=⟨_,rfl⟩
  rw[←hW9];obtain⟨T0,hT0⟩:∃T,T=w8.heap.size:=⟨_,rfl⟩
  rw[←hT0];have hb9:Below w8.heap.size w8 W9:=by rw[hW9];exact aD _ _
  have ht9:W9.heap[T0]? =some (.cells #[.int .i64 1,.int .i64 (-1),.slice none 0 0] 76 (0,0)):=by rw[hW9,hT0];exact aBS _ _
  have i1:I64 1:=by unfold I64;omega
  have im:I64 (-1):=by unfold I64;omega
  have hti9:dG W9 base (.slice (some ⟨T0,0,none⟩) 1 1) [⟨⟨1,-1,[]⟩,none,0,0⟩]:=DX W9 T0 ⟨⟨1,-1,[]⟩,none,0,0⟩ ht9 base (by omega) (bN.nil _ _) ⟨i1,im⟩ (fun e=>by cases e);have k9:W9.cell? ⟨w.heap.size,1,none⟩=some (.slice ba bn bc):=by rw[aBP _ _ _ _ _ _ (aB hb9 HK8.out)];rfl
  have hbs9:base≤W9.heap.size:=aCD hw8 hb9.size;have HTI9:=aBO hti9;have HP9:=aBO (bR.ext HP8.out hb9);have HBV9:=aBO (aB hb9 HBV8.out);have HBL9:=aBO (aB hb9 HBL8.out);have HK9:=aBO (aB hb9 HK8.out);have HE9:=aBO (HE8.out.trans (hb9.mono HE8.out.size));obtain⟨i0,hi,hz0,hz1,hz2⟩:=info_parts (P:=Tryz.prog) lY;clear hW9 hb9 ht9 i1 im hti9 HP8 HBV8 HBL8 HK8 HE8 hw8 hw7 hT0
  go_upto_region 10 with (
   (at_make
    refine wpList_make_full W9 rfl _ _ 22 rfl base 3 i0 (.int .i64 0) 1 Tryz.underlying22 hi hz0 hz1 .i64 .i64 _ _ bn rfl rfl rfl rfl (by rw[hz2];omega) (by simp only[maxLen];omega) hbs9 ?_;intro w10 hown10 hg10;have HOWN10:=aBO hown10;have HG10:=aBO hg10
    clear hown10 hg10))
  obtain⟨ob,hob⟩:∃b,b=w10.heap.size:=⟨_,rfl⟩
  obtain⟨og,hog⟩:∃b,b=W9.heap.size:=⟨_,rfl⟩
  obtain⟨W11,hW11⟩:∃W,W=w10.alloc (.cells #[.slice (some ⟨og,0,none⟩) bn bn] 22):=⟨_,rfl⟩
  rw[←hog,←hob,←hW11];have hg11:w10.grownBy W11 none:=by rw[hW11];exact World.grownBy_alloc _ _ _
  have hb10:Below W9.heap.size W9 w10:=⟨HG10.out.os,HG10.out.tape,HG10.out.output,HG10.out.size,fun k hk=>HG10.out.block k hk (by simp)⟩
  have hb11:Below W9.heap.size W9 W11:=by rw[hW11];exact aA hb10 (aD _ _)
  have hown11:bN W11 base (.slice (some ⟨og,0,none⟩) bn bn) (yU bn qs 0):=by
   have e:(madeCells (Value.int .i64 0).cells (bn*1)).toList=bC (List.replicate bn 0):=by
    have:(Value.int .i64 0).cells= #[.int .i64 0]:=rfl;rw[this,toList_madeCells_one,Nat.mul_one];simp[bC]
   have h1:=HOWN10.out.kept hg11 (.inr (by simp[Value.ownBlock]));rw[e,←hog] at h1;rw[SI];refine⟨by rw[List.length_replicate];exact h1,fun x hx=>?_,by rw[List.length_replicate];omega⟩;rw[List.eq_of_mem_replicate hx];unfold I64;omega
  have hc11:W11.heap[ob]? =some (.cells #[.slice (some ⟨og,0,none⟩) bn bn] 22 (0,0)):=by rw[hW11,hob];exact aBS _ _
  have HBD0:Hid (BdJ W3 base (.slice pa7 m pc7) qs ob og bn (yU bn qs 0) (.slice (some ⟨T0,0,none⟩) 1 1) [⟨⟨1,-1,[]⟩,none,0,0⟩] W11):=
   ⟨bR.ext HP9.out hb11,hc11,hown11,HTI9.out.ext hb11,(fun t ht e2=>by(have e:t=⟨⟨1,-1,[]⟩,none,0,0⟩:=(by simpa using ht));rw[e] at e2;cases e2),HE9.out.trans (hb11.mono HE9.out.size),aCD hbs9 hb11.size,by omega⟩
  have q11:W11.cell? ⟨bv,0,none⟩=some (.pointer (some ⟨P,0,none⟩)):=by rw[aBP _ _ _ _ _ _ (aB hb11 HBV9.out)];rfl
  have p11:W11.cell? ⟨P,4,none⟩=some (.slice pa7 m pc7):=by rw[aBP _ _ _ _ _ _ (aB hb11 HBL9.out)];rfl
  have HB11:=aBO hb11;clear hW11 hg11 hb10 hb11 hown11 hc11 hob hog HOWN10 HG10 HTI9 HP9 HBV9 HBL9 HK9 HE9 hi hz0 hz1 hz2 k9;go_wp2;refine(wpIn_wide (n:=0)).1 ?_;refine CE [7,9,10,11,47,48,49,50,51,52,53,54,55,56,57,58,59,60,61,62,63,64,65,66,67,68,69,70,71,72,73,74] (fun r u ds W=>∃(k:Nat) (out:Value) (ls:List bK),r=m-k∧k≤m∧u 47=.int .i64 (k:Int)∧u 7=out∧Hid (BdJ W3 base (.slice pa7 m pc7) qs ob og bn (yU bn qs k) out ls W)∧Hid (aJ ls=pD qs k)∧Hid (kO base W.heap.size ds W)) m ?_ ?_
  ·exact⟨0,_,_,rfl,by omega,rfl,rfl,HBD0,rfl,kO.nil _ _ _⟩
  ·rintro r u ds Wr ⟨k,out,ls,rfl,hk,e47,e7,HBD,HTD,HMK⟩;clear HBD0 q11 p11;refine wpIn_wide.2 ?_;simp only[sK,List.foldl_cons,List.foldl_nil,List.setIfInBounds_toArray,List.set_cons_succ,List.set_cons_zero,e47,e7];by_cases hlt:k<m
   ·have hlt':(k:Int)<(m:Int):=by omega
    obtain⟨pg,rfl⟩:∃g,pa7=some ⟨g,0,none⟩:=by
     obtain⟨g,c',e⟩:=eI HBD.out.parts.1 (by have:=HM.out;omega);injection e with e _ _;exact⟨g,e⟩
    have hr:=dW HBD.out.parts hlt;obtain⟨q,hq⟩:∃q,q=qs.getD k aE:=⟨_,rfl⟩
    rw[←hq] at hr;have HQ:=aBO hq;clear hq e47 e7
    go_upto_region 13 with (first
     |(refine wpList_load_mid rfl 128 _ rfl pg (k*202) rfl (bJ q) _ hr Tryz.underlying128 rfl (cE _) ?_)
     |(refine wpList_store_row rfl 128 _ _ rfl (Wr.heap.size+1) (bJ q).toArray rfl rfl 128 Tryz.zeroCells128 (aU _ _ _ (by simp)) (cF _) (by rw[nR,List.size_toArray,eE]) (all_oneCell_toArray (cV _)) ?_))
    obtain⟨W12,hW12⟩:∃W,W=((Wr.alloc (.cells #[.int .i64 (k:Int)] 3)).alloc (.cells Tryz.zeroCells128 128)).setRow (Wr.heap.size+1) (bJ q).toArray:=⟨_,rfl⟩
    rw[←hW12,cW];have hb12:Below Wr.heap.size Wr W12:=by rw[hW12];exact below_setRow ((aD _ _).alloc (by simp) _) (by omega) _
    have hk12:W12.heap[Wr.heap.size]? =some (.cells #[.int .i64 (k:Int)] 3 (0,0)):=by rw[hW12,setRow_other _ _ _ _ (by omega),aBR _ _ _ (by simp)];exact aBS _ _
    have hp12:W12.heap[Wr.heap.size+1]? =some (lA q):=by rw[hW12];exact setRow_heap _ _ _ _ _ _ (aU _ _ _ (by simp))
    have hsz12:W12.heap.size=Wr.heap.size+1+1:=by rw[hW12];simp
    have HBD12:=aBO (HBD.out.ext' hb12);have HOWNR:=aBO HBD.out.own;have HK12:=aBO hk12;have HP12:=aBO hp12;have HMK12:=aBO ((HMK.out.mono (hi':=W12.heap.size) (by omega)).keep (dI.ext hb12));obtain⟨kb,hkb⟩:∃b,b=Wr.heap.size:=⟨_,rfl⟩
    rw[←hkb] at HK12 HP12⊢;have hkbs:kb+1<W12.heap.size:=by omega
    have hkb0:base≤kb:=by have:=HBD.out.bs;omega
    have HKB:=aBO hkb;clear hW12 hb12 hk12 hp12 hsz12 HBD HMK hr hkb;obtain⟨oa,oc,hof⟩:=HBD12.out.tiles.own.form;have hll:ls.length=k+1:=by have:=congrArg List.length HTD.out;rw[qI] at this;simpa[aJ] using this
    rw[hll] at hof;subst hof;have hqm:q∈dR ts:=by
     rw[HPERM.out.mem_iff,HQ.out];have hk2:k<qs.length:=by rw[←HM.out];exact hlt
     rw[aBT,aBU hk2];exact aBZ _
    obtain⟨hqne,hq200,hqin,hqn,hqc⟩:=HPS.out q hqm;have hkd:=(lN HHF.out).kind q hqm;obtain⟨fp,hfp⟩:∃x,x=cI q:=⟨_,rfl⟩
    obtain⟨lp,hlp⟩:∃x,x=dF qs fp k:=⟨_,rfl⟩
    have hfn:fp<bn:=by rw[hfp,←HLT.out];exact hqn
    have hfn':(fp:Int)<(bn:Int):=by omega
    have hll':=HLT.out;have hlpk:lp≤k:=by rw[hlp];exact iE qs fp k
    have hof:W12.cell? ⟨og,fp,none⟩=some (.int .i64 (lp:Int)):=by
     obtain⟨b,o,e,hc,_⟩:=HBD12.out.own.ints.2.2 fp hfn;injection e with e;injection e with e1 e2;subst e1 e2;rw[Nat.zero_add,QE _ _ _ _ hfn,←hlp] at hc;exact hc
    have HOGK:Hid (og<kb):=by obtain⟨cur,hcur⟩:=pL HOWNR.out;have:=aN hcur;rw[Hid,HKB.out];exact this
    have HLOW:Hid (∀y,q.s y=true→y<bn):=fun y hy=>by have:=((lN HHF.out).low q hqm y hy).2;omega
    have HOF:=aBO hof;have HQNE:=aBO hqne;have HQC:=aBO hqc;have HKD:=aBO hkd;have HFP:=aBO hfp;have HLP:=aBO hlp;have HLL:=aBO hll;clear hof hqm hqne hq200 hqin hqn hqc hkd hfp hlp hll hll';refine dL 13 [some 52,some 53,some 54,some 55,some 56,some 57,some 58,some 59,some 60,some 61,some 62,some 63,some 64] (by kernel_rfl) (by kernel_rfl) (dV [.val (.slice oa (k+1) oc),.val (.pointer (some ⟨kb+1,200,none⟩)),.val (.int .i64 q.kind),.val (.slice (some ⟨og,0,none⟩) bn bn),.val (.pointer (some ⟨kb+1,0,none⟩)),.val (.agg (aQ q.s)),(.any fun v lo hi W=>∃g5 n5 c5,v=.slice (some ⟨g5,0,none⟩) n5 c5∧0<n5∧W.cell? ⟨g5,0,none⟩=some (.int .i64 (fp:Int))),(.any fun v lo hi W=>∃g5,v=.pointer (some ⟨g5,0,none⟩)∧W.cell? ⟨g5,0,none⟩=some (.int .i64 (fp:Int))),.val (.int .i64 (fp:Int)),.val (.pointer (some ⟨og,fp,none⟩)),.val (.int .i64 (lp:Int)),.val (.agg #[.int .i64 q.kind,.int .i64 (lp:Int),.slice none 0 0]),(.any fun v lo hi W=>∃B9,v=.slice (some ⟨B9,0,none⟩) 1 1∧W.heap[B9]? =some (.cells #[.int .i64 q.kind,.int .i64 (lp:Int),.slice none 0 0] 76 (0,0)))]) (dN ?_) ?_ ?_
    ·intro k hk;simp only[List.mem_cons,List.not_mem_nil,or_false] at hk;rcases hk with rfl|rfl|rfl|rfl|rfl|rfl|rfl|rfl|rfl|rfl|rfl|rfl|rfl
     ·exact trivial
     ·exact trivial
     ·exact trivial
     ·exact trivial
     ·exact trivial
     ·exact trivial
     ·intro v lo hi w w' hb ⟨g5,n5,c5,e,hn,hc⟩;exact⟨g5,n5,c5,e,hn,aH hb hc⟩
     ·intro v lo hi w w' hb ⟨g5,e,hc⟩;exact⟨g5,e,aH hb hc⟩
     ·exact trivial
     ·exact trivial
     ·exact trivial
     ·exact trivial
     ·intro v lo hi w w' hb ⟨B9,e,hc⟩;exact⟨B9,e,aB hb hc⟩
    ·intro i hi ν lo hi' w1 K hB hD hK;have hcase:i=0∨i=1∨i=2∨i=3∨i=4∨i=5∨i=6∨i=7∨i=8∨i=9∨i=10∨i=11∨i=12:=by omega
     clear hi;rcases hcase with rfl|rfl|rfl|rfl|rfl|rfl|rfl|rfl|rfl|rfl|rfl|rfl|rfl
     ·clear hD;refine aC rfl rfl ?_;simp only[zA,zB,zC,zD,zE,zF,zJ,zK,zG,zH,zI] at hK⊢;go_simp;exact hK _ _ (aBQ _ _) rfl
     ·clear hD;refine aC rfl rfl ?_;simp only[zA,zB,zC,zD,zE,zF,zJ,zK,zG,zH,zI] at hK⊢;go_simp;exact hK _ _ (aBQ _ _) rfl
     ·have e1:=hD 1 (by kernel_rfl)
      replace e1:ν 1=(.pointer (some ⟨kb+1,200,none⟩)):=e1
      clear hD;refine aC rfl rfl ?_;simp only[zA,zB,zC,zD,zE,zF,zJ,zK,zG,zH,zI,e1] at hK⊢;have hcl:=(uH (aB hB HP12.out)).1;go_simp;exact hK _ _ (aBQ _ _) rfl
     ·clear hD;refine aC rfl rfl ?_;simp only[zA,zB,zC,zD,zE,zF,zJ,zK,zG,zH,zI] at hK⊢;have hcl:w1.cell? ⟨ob,0,none⟩=some (.slice (some ⟨og,0,none⟩) bn bn):=(by rw[aBP _ _ _ _ _ _ (aB hB HBD12.out.cell)];rfl)
      go_simp;exact hK _ _ (aBQ _ _) rfl
     ·clear hD;refine aC rfl rfl ?_;simp only[zA,zB,zC,zD,zE,zF,zJ,zK,zG,zH,zI] at hK⊢;go_simp;exact hK _ _ (aBQ _ _) rfl
     ·have e4:=hD 4 (by kernel_rfl)
      replace e4:ν 4=(.pointer (some ⟨kb+1,0,none⟩)):=e4
      clear hD;refine aC rfl rfl ?_;simp only[zA,zB,zC,zD,zE,zF,zJ,zK,zG,zH,zI,e4] at hK⊢;refine wp_load_mid 124 _ rfl (kb+1) 0 rfl (aQ q.s).toList _ (lB (aB hB HP12.out)) Tryz.underlying124 rfl (by rw[Array.length_toList,aF];exact bF) ?_;exact hK _ _ (aBQ _ _) (show Value.agg (aQ q.s).toList.toArray=.agg (aQ q.s) by simp)
     ·have e5:=hD 5 (by kernel_rfl)
      replace e5:ν 5=(.agg (aQ q.s)):=e5
      clear hD;refine aC rfl rfl ?_;simp only[zA,zB,zC,zD,zE,zF,zJ,zK,zG,zH,zI,e5] at hK⊢;go_simp;refine(vO q.s w1).mono ?_;rintro e w3 ⟨vl,rfl,ho,hb3⟩;obtain⟨g5,n5,c5,rfl,hn5,hcell⟩:=vD ho HQNE.out;exact hK _ _ hb3 ⟨g5,n5,c5,rfl,hn5,by rw[HFP.out];exact hcell⟩
     ·have e6:=hD 6 (by kernel_rfl);unfold dV at e6;simp only[List.getD_cons_zero,List.getD_cons_succ,gG] at e6;clear hD;refine aC rfl rfl ?_;simp only[zA,zB,zC,zD,zE,zF,zJ,zK,zG,zH,zI] at hK⊢;obtain⟨g5,n5,c5,e6',hn5,hcell⟩:=e6;simp only[e6'] at hK⊢;have hn5':(0:Int)<(n5:Int):=(by omega)
      go_simp;exact hK _ _ (aBQ _ _) ⟨g5,rfl,hcell⟩
     ·have e7:=hD 7 (by kernel_rfl);unfold dV at e7;simp only[List.getD_cons_zero,List.getD_cons_succ,gG] at e7;clear hD;refine aC rfl rfl ?_;simp only[zA,zB,zC,zD,zE,zF,zJ,zK,zG,zH,zI] at hK⊢;obtain⟨g5,e7',hcell⟩:=e7;simp only[e7'] at hK⊢;go_simp;exact hK _ _ (aBQ _ _) rfl
     ·have e3:=hD 3 (by kernel_rfl)
      replace e3:ν 3=(.slice (some ⟨og,0,none⟩) bn bn):=e3
      have e8:=hD 8 (by kernel_rfl)
      replace e8:ν 8=(.int .i64 (fp:Int)):=e8
      clear hD;refine aC rfl rfl ?_;simp only[zA,zB,zC,zD,zE,zF,zJ,zK,zG,zH,zI,e3,e8] at hK⊢;go_simp;exact hK _ _ (aBQ _ _) rfl
     ·have e9:=hD 9 (by kernel_rfl)
      replace e9:ν 9=(.pointer (some ⟨og,fp,none⟩)):=e9
      clear hD;refine aC rfl rfl ?_;simp only[zA,zB,zC,zD,zE,zF,zJ,zK,zG,zH,zI,e9] at hK⊢;have hcl:=aH hB HOF.out;go_simp;exact hK _ _ (aBQ _ _) rfl
     ·have e2:=hD 2 (by kernel_rfl)
      replace e2:ν 2=(.int .i64 q.kind):=e2
      have e10:=hD 10 (by kernel_rfl)
      replace e10:ν 10=(.int .i64 (lp:Int)):=e10
      clear hD;refine aC rfl rfl ?_;simp only[zA,zB,zC,zD,zE,zF,zJ,zK,zG,zH,zI,e2,e10] at hK⊢;go_simp;exact hK _ _ (aBQ _ _) rfl
     ·have e11:=hD 11 (by kernel_rfl)
      replace e11:ν 11=(.agg #[.int .i64 q.kind,.int .i64 (lp:Int),.slice none 0 0]):=e11
      clear hD;refine aC rfl rfl ?_;simp only[zA,zB,zC,zD,zE,zF,zJ,zK,zG,zH,zI,e11] at hK⊢;go_simp;exact hK _ _ (aD _ _) ⟨_,rfl,aBS _ _⟩
    ·intro ν lo hi w1 hB hS hI hD;have e0:ν 0=(.slice oa (k+1) oc):=hS 0 (by omega);have e1:ν 1=(.pointer (some ⟨kb+1,200,none⟩)):=hS 1 (by omega);have e2:ν 2=(.int .i64 q.kind):=hS 2 (by omega);have e3:ν 3=(.slice (some ⟨og,0,none⟩) bn bn):=hS 3 (by omega);have e4:ν 4=(.pointer (some ⟨kb+1,0,none⟩)):=hS 4 (by omega);have e5:ν 5=(.agg (aQ q.s)):=hS 5 (by omega);have e6:=hS 6 (by omega);unfold dV at e6;simp only[List.getD_cons_zero,List.getD_cons_succ,gG] at e6;have e7:=hS 7 (by omega);unfold dV at e7;simp only[List.getD_cons_zero,List.getD_cons_succ,gG] at e7;have e8:ν 8=(.int .i64 (fp:Int)):=hS 8 (by omega);have e9:ν 9=(.pointer (some ⟨og,fp,none⟩)):=hS 9 (by omega);have e10:ν 10=(.int .i64 (lp:Int)):=hS 10 (by omega);have e11:ν 11=(.agg #[.int .i64 q.kind,.int .i64 (lp:Int),.slice none 0 0]):=hS 11 (by omega);have e12:=hS 12 (by omega);unfold dV at e12;simp only[List.getD_cons_zero,List.getD_cons_succ,gG] at e12;clear hS;simp only[List.drop_succ_cons,List.drop_zero,zA,zB,zC,zD,zE,zF,zJ,zK,zG,zH,zI,e0,e1,e2,e3,e4,e5,e8,e9,e10,e11];obtain⟨B9,e12',h12⟩:=e12;simp only[e12'];have HBD13:=aBO (HBD12.out.ext' hB);have HK13:=aBO (aB hB HK12.out);have HP13:=aBO (aB hB HP12.out);have HMK13:=aBO ((HMK12.out.mono hB.size).keep (dI.ext hB));have hsz13:=hB.size;have HB9:=aBO h12;have hbs13:=HBD13.out.bs;have hown13:=HBD13.out.tiles.own.1;rw[HLL.out] at hown13;have HOWN13:=aBO hown13;clear hI hD hB e0 e1 e2 e3 e4 e5 e6 e7 e8 e9 e10 e11 e12' h12 HBD12 HK12 HP12 HMK12 HOF hown13;refine fN w1 rfl (.tmp 52) (.tmp 64) 26 76 rfl base _ 3 40 Tryz.underlying26 nV rfl (by omega) (.slice oa (k+1) oc) (k+1) _ rfl HOWN13.out (some ⟨B9,0,none⟩) 1 1 rfl [.int .i64 q.kind,.int .i64 (lp:Int),.slice none 0 0] rfl (fun j u hu=>⟨_,rfl,by rw[show(⟨B9,0,none⟩:Addr).add j=⟨B9,0+j,none⟩ by simp only[Addr.add];split<;>simp_all,aBP _ _ _ _ _ _ HB9.out,Nat.zero_add];simpa using hu⟩) (fun u hu=>by simp at hu;rcases hu with rfl|rfl|rfl<;>rfl) (by simp only[maxLen];omega) (by omega) hbs13 ?_;intro v14 w14 hown14 hg14 hat14;have HOWN14:=aBO hown14;have HG14:=aBO hg14;have HAT14:=aBO hat14;clear hown14 hg14 hat14
     have hkeep14:dI w1 w14:=dI.grown HG14.out (fun j o e ho=>by
      rcases HOWN13.out.2 with ⟨h,_⟩|⟨g',cap',cur,h,_,hg',_⟩
      ·rw[h] at e;cases e
      ·rw[h] at e;simp only[Value.ownBlock,Option.some.injEq] at e;subst e;rw[hg'] at ho;cases ho
       rfl)
     have ik:I64 q.kind:=by unfold I64;rcases HKD.out with h|h|h<;>rw[h]<;>omega
     have il:I64 (lp:Int):=by unfold I64;omega
     have HBD14:=aBO (HBD13.out.add (v':=v14) ⟨⟨q.kind,(lp:Int),[]⟩,none,0,0⟩ rfl rfl rfl rfl ⟨ik,il⟩ HG14.out (by rw[HLL.out];exact HOWN14.out) (by
      rcases HAT14.out with h|h
      ·exact .inl h
      ·exact .inr ⟨_,h,aBV _⟩) (by have:=HLL.out;omega))
     have HTD14:Hid (aJ (ls++ [⟨⟨q.kind,(lp:Int),[]⟩,none,0,0⟩])=pD qs (k+1)):=by
      rw[Hid,UR,HTD.out,xY,DT,←HQ.out,←HFP.out,←HLP.out]
     obtain⟨ls14,hls14⟩:∃x,x=ls++ [(⟨⟨q.kind,(lp:Int),[]⟩,none,0,0⟩:bK)]:=⟨_,rfl⟩
     rw[←hls14] at HBD14 HTD14;have HK14:=aBO (aK HG14.out HK13.out (cH HOWN13.out HK13.out (by decide)));have HP14:=aBO (aK HG14.out HP13.out (cH HOWN13.out HP13.out (by decide)));have HMK14:=aBO ((HMK13.out.mono HG14.out.size).keep hkeep14);clear ik il hls14 hkeep14 HBD13 HK13 HP13 HMK13 HOWN13 HOWN14 HG14 HAT14 HB9 HTD hsz13 hbs13
     go_wp2_with (go_at_call 88;refine(nB _ _).mono ?_;rintro e w' ⟨rfl,rfl⟩)
     obtain⟨eb,heb⟩:∃b,b=w14.heap.size:=⟨_,rfl⟩
     obtain⟨w15,hw15⟩:∃W,W=w14.alloc (.cells #[.pointer (some ⟨kb+1,0,none⟩)] 189):=⟨_,rfl⟩
     rw[←hw15,←heb];have hb15:Below w14.heap.size w14 w15:=by rw[hw15];exact aD _ _
     have he15:w15.heap[eb]? =some (.cells #[.pointer (some ⟨kb+1,0,none⟩)] 189 (0,0)):=by rw[hw15,heb];exact aBS _ _
     have hsz15:W3.heap.size≤w15.heap.size:=by have:=HBD14.out.bs;have:=hb15.size;have:=HBD14.out.w0;omega
     have hkb15:kb+1<w15.heap.size:=by have:=aN HP14.out;have:=hb15.size;omega
     have hogk:og<kb:=HOGK.out
     have HST:Hid (BdJ W3 base (.slice (some ⟨pg,0,none⟩) m pc7) qs ob og bn (qW bn qs k []) v14 ls14 w15∧w15.heap[kb]? =some (.cells #[.int .i64 (k:Int)] 3 (0,0))∧w15.heap[kb+1]? =some (lA q)∧w15.heap[eb]? =some (.cells #[.pointer (some ⟨kb+1,0,none⟩)] 189 (0,0))∧kO base w15.heap.size ds w15):=
      ⟨by rw[SG];exact HBD14.out.ext' hb15,aB hb15 HK14.out,aB hb15 HP14.out,he15,(HMK14.out.mono hb15.size).keep (dI.ext hb15)⟩
     have HOGE:Hid (og<eb):=by have h1:=aN HP14.out;rw[Hid,heb];omega
     clear hw15 hb15 he15 heb HBD14 HK14 HP14 HMK14;refine(wpIn_wide (n:=0)).1 ?_
     refine yF (ps:=#[68]) (gf:=139) (lb:=#[.pointer (some ⟨eb,0,none⟩)]) (enc:=nY) (l:=aZ q.s) rfl jU _ (PD q.s eb (kb+1)) (fun _=>rfl)
      (fun dn r W=>Hid (BdJ W3 base (.slice (some ⟨pg,0,none⟩) m pc7) qs ob og bn (qW bn qs k dn) v14 ls14 W∧W.heap[kb]? =some (.cells #[.int .i64 (k:Int)] 3 (0,0))∧W.heap[kb+1]? =some (lA q)∧W.heap[eb]? =some (.cells #[.pointer (some ⟨kb+1,0,none⟩)] 189 (0,0))∧kO base w15.heap.size ds W)) (fun _ _=>False)
      (fun dn r=>(BdJ.steady hsz15).and ((aR.block _ _ rfl).and ((aR.block _ _ rfl).and ((aR.block _ _ rfl).and (aR.marks (aBV _) _))))) (fun c=>aR.pure _ _)
      (fun dn r W h=>⟨by rw[aBP _ _ _ _ _ _ h.out.2.2.2.1];rfl,fun j hj=>EH h.out.2.2.1 hj⟩) HST ?round ?done ?stop
     case stop=>rintro D c Wx hD h;exact h.elim
     case round=>
      rintro lq dn x r W hd hJ;unfold nY
      gi_wp2
      refine⟨dI.refl _,hJ,?_⟩;clear hJ lq W;rintro lq W hlq ⟨rc,hrc⟩ hJ;have hxin:q.s x=true:=(eG HQC.out x).1 (by rw[hd];simp);have hxn:x<bn:=HLOW.out x hxin;obtain⟨cur,hcur⟩:=pL hJ.out.1.own;have hfz:W.frozen? ⟨og,x,none⟩=false:=frozen_of_row _ _ _ _ _ hcur;have c1:W.cell? ⟨ob,0,none⟩=some (.slice (some ⟨og,0,none⟩) bn bn):=by rw[aBP _ _ _ _ _ _ hJ.out.1.cell];rfl
      have c2:W.cell? ⟨kb,0,none⟩=some (.int .i64 (k:Int)):=by rw[aBP _ _ _ _ _ _ hJ.out.2.1];rfl
      obtain⟨y9,c3⟩:∃y:Int,W.cell? ⟨og,x,none⟩=some (.int .i64 y):=by
       obtain⟨b,o,e,hc,_⟩:=hJ.out.1.own.ints.2.2 x hxn;injection e with e;injection e with e1 e2;subst e1 e2;rw[Nat.zero_add] at hc;exact⟨_,hc⟩
      have hogW:=aN hcur;have hxn':(x:Int)<(bn:Int):=by omega
      have HN:Hid (BdJ W3 base (.slice (some ⟨pg,0,none⟩) m pc7) qs ob og bn (qW bn qs k (dn++ [x])) v14 ls14 (W.setCell ⟨og,x,none⟩ (.int .i64 ((k:Int)+1)))∧(W.setCell ⟨og,x,none⟩ (.int .i64 ((k:Int)+1))).heap[kb]? =some (.cells #[.int .i64 (k:Int)] 3 (0,0))∧(W.setCell ⟨og,x,none⟩ (.int .i64 ((k:Int)+1))).heap[kb+1]? =some (lA q)∧(W.setCell ⟨og,x,none⟩ (.int .i64 ((k:Int)+1))).heap[eb]? =some (.cells #[.pointer (some ⟨kb+1,0,none⟩)] 189 (0,0))∧kO base w15.heap.size ds (W.setCell ⟨og,x,none⟩ (.int .i64 ((k:Int)+1)))):=by
       obtain⟨j1,j2,j3,j4,j5⟩:=hJ.out;have g:=bA W og x (.int .i64 ((k:Int)+1));have hge:=HOGE.out;refine⟨?_,aK g j2 (fun e=>by injection e with e;omega),aK g j3 (fun e=>by injection e with e;omega),aK g j4 (fun e=>by injection e with e;omega),j5.keep (dI.setCell _ _ _)⟩;rw[←OA _ _ _ _ _ hxn,show((k+1:Nat):Int)=(k:Int)+1 by omega];exact j1.put x (by unfold I64;omega)
      clear hJ hcur hd
      gi_wp2
      exact⟨dI.setCell _ _ _,HN⟩
     case done=>
      rintro D W hD hJ hK;have hj9:=hJ.out.1;rw[HQ.out,SH _ _ _ (by rw[←HQ.out];exact HQC.out)] at hj9;have HBD9:=aBO hj9;have HMK9:Hid (kO base W.heap.size (UK D :: ds) W):=hJ.out.2.2.2.2.cons hD (by have:=HBD9.out.bs;have:=aN hJ.out.2.2.1;omega) (aN hK) hK;clear hj9 hJ hK HST;dsimp only;go_wp2;refine XE (m:=m-k) (by kernel_rfl) (m-(k+1)) (by omega) ?_;refine⟨k+1,v14,ls14,rfl,by omega,?_,rfl,HBD9,HTD14,HMK9⟩;show Value.int .i64 _=_
      go_num
   ·obtain rfl:k=m:=by omega
    have hlt':¬(k:Int)<(k:Int):=by omega
    clear e47 e7 hlt hk;obtain⟨oa,oc,hof⟩:=HBD.out.tiles.own.form;have hll:ls.length=k+1:=by have:=congrArg List.length HTD.out;rw[qI] at this;simpa[aJ] using this
    rw[hll] at hof;subst hof;obtain⟨tg,rfl⟩:∃g,oa=some ⟨g,0,none⟩:=by
     obtain⟨g,c',e⟩:=eI HBD.out.tiles.own.1 (by omega);injection e with e _ _;exact⟨g,e⟩
    have c0:Wr.cell? ⟨ob,0,none⟩=some (.slice (some ⟨og,0,none⟩) bn bn):=by rw[aBP _ _ _ _ _ _ HBD.out.cell];rfl
    have HTJ0:Hid (aJ ls=fU qs 0):=by rw[Hid,xZ,←HM.out];exact HTD.out
    clear hll HTD;go_wp2
    go_loopw [77] (fun s77 wr=>∃(j:Nat) (ls2:List bK),j≤bn∧s77=.int .i64 (j:Int)∧Hid (BdJ W3 base (.slice pa7 k pc7) qs ob og bn (yU bn qs k) (.slice (some ⟨tg,0,none⟩) (k+1) oc) ls2 wr)∧Hid (aJ ls2=fU qs j)∧Hid (kO base wr.heap.size ds wr)) (fun s77 _=>bn-(intOf s77).toNat)
    case atStart=>exact⟨0,ls,by omega,by go_num,HBD,HTJ0,HMK⟩
    case round=>
     obtain⟨j,ls2,hj,rfl,HBJ,HTJ,HMJ⟩:=hrel;clear HBD HTJ0 HMK c0;by_cases hlt:j<bn
     ·have hlt':(j:Int)<(bn:Int):=by omega
      obtain⟨lp,hlp⟩:∃x,x=dF qs j k:=⟨_,rfl⟩
      have hlpk:lp≤k:=by rw[hlp];exact iE qs j k
      have hlpq:dF qs j qs.length=lp:=by rw[←HM.out,hlp]
      have cO:wr.cell? ⟨ob,0,none⟩=some (.slice (some ⟨og,0,none⟩) bn bn):=by rw[aBP _ _ _ _ _ _ HBJ.out.cell];rfl
      have cJ:wr.cell? ⟨og,j,none⟩=some (.int .i64 (lp:Int)):=by
       obtain⟨b,o,e,hc,_⟩:=HBJ.out.own.ints.2.2 j hlt;injection e with e;injection e with e1 e2;subst e1 e2;rw[Nat.zero_add,QE _ _ _ _ hlt,←hlp] at hc;exact hc
      obtain⟨t,b9,o9,ht,_,e9,_,_,cB⟩:=HBJ.out.tiles.ok.cells (k:=lp) (by omega);injection e9 with e9;injection e9 with e1 e2;subst e1 e2;rw[Nat.zero_add] at cB;have hlpk':(lp:Int)<((k+1:Nat):Int):=by omega
      have HBT:=aBO (HBJ.out.tiles.each t (aBY ht)).1;have htd:(fU qs j)[lp]? =some t.d:=by rw[←HTJ.out,aJ,List.getElem?_map,ht];rfl
      have HTN:Hid (fU qs (j+1)=(fU qs j).set lp ⟨t.d.kind,t.d.parent,t.d.blocks++ [(j:Int)]⟩):=by
       have:=yA qs j t.d (by rw[hlpq];exact htd);rw[hlpq] at this;exact this.symm
      have HTB:Hid (t.d.blocks.length≤j):=tE qs j lp t.d htd;have HLPQ:=aBO ht;obtain⟨tcur,htg⟩:∃cur,wr.heap[tg]? =some (.cells cur 76 (0,0)):=by
       rcases HBJ.out.tiles.own.1.2 with ⟨h1,_⟩|⟨g4,cap4,cur4,h1,_,hg4,_⟩
       ·cases h1
       ·injection h1 with h1;injection h1 with h1;injection h1 with h1;subst h1;exact⟨cur4,hg4⟩
      have hbne:(bsV t).ownBlock≠some tg:=cH HBT.out.1 htg (by decide);have HTG:=aBO htg;have HBN:=aBO hbne;have HCB:=aBO cB;clear hlp hlpq htd ht htg hbne
      go_wp2_with (
       (at_builtin
        go_loud (refine kS rfl wr (.tmp 88) (.tmp 90) 22 rfl base _ 8 Tryz.underlying22 lY rfl (bsV t) t.d.blocks rfl HBT.out (j:Int) (by unfold I64;omega) wr.heap.size rfl rfl (by have:=HTB.out;omega) (by omega) HBJ.out.bs ?_)
        intro g9 cap9 w9 ho9 hg9 hat9;have htg9:=aK hg9 HTG.out HBN.out;have c9:w9.cell? ⟨tg,lp*3+2,none⟩=some (.slice t.ba t.bn t.bc):=(by rw[aBP _ _ _ _ _ _ htg9,←aBP _ _ _ _ _ _ HTG.out];exact HCB.out)
        have f9:w9.frozen? ⟨tg,lp*3+2,none⟩=false:=frozen_of_row _ _ _ _ _ htg9
        have hk9:dI wr w9:=dI.grown hg9 (fun i o e ho=>by
         rcases HBT.out.1.2 with ⟨h,_⟩|⟨g',cap',cur,h,_,hg',_⟩
         ·rw[h] at e;cases e
         ·rw[h] at e;simp only[Value.ownBlock,Option.some.injEq] at e;subst e;rw[hg'] at ho;cases ho
          rfl)
        obtain⟨t',ht'⟩:∃x:bK,x=⟨⟨t.d.kind,t.d.parent,t.d.blocks++ [(j:Int)]⟩,some ⟨g9,0,none⟩,t.d.blocks.length+1,cap9⟩:=⟨_,rfl⟩
        have hbv:bsV t'=.slice (some ⟨g9,0,none⟩) (t.d.blocks.length+1) cap9:=(by rw[ht'])
        have hj9:=HBJ.out.turn (t':=t') HLPQ.out hg9 (by rw[hbv,ht'];exact ho9) (by rw[ht'];exact⟨rfl,rfl⟩) (by
         rw[hbv];rcases hat9 with h|h
         ·exact .inl h
         ·exact .inr ⟨g9,rfl,by omega⟩)
        rw[hbv] at hj9;have HJ9:=aBO hj9;have HT9:Hid (aJ (ls2.set lp t')=fU qs (j+1)):=(by rw[Hid,UQ,HTJ.out,HTN.out,ht'])
        have HM9:Hid (kO base (w9.setCell ⟨tg,lp*3+2,none⟩ (.slice (some ⟨g9,0,none⟩) (t.d.blocks.length+1) cap9)).heap.size ds (w9.setCell ⟨tg,lp*3+2,none⟩ (.slice (some ⟨g9,0,none⟩) (t.d.blocks.length+1) cap9))):=
         ((HMJ.out.mono (aCD hg9.size (by simp))).keep hk9).keep (dI.setCell _ _ _)
        clear ho9 hg9 hat9 htg9 hk9 ht' hbv hj9))
      go_roundw
      case rel=>exact⟨j+1,_,by omega,by go_num,HJ9,HT9,HM9⟩
      case measure=>simp[intOf];omega
     ·obtain rfl:j=bn:=by omega
      go_wp2;refine GR (by simp) (lo:=base) (hi:=wr.heap.size) (fun W=>BdJ W3 base (.slice pa7 k pc7) qs ob og j (yU j qs k) (.slice (some ⟨tg,0,none⟩) (k+1) oc) ls2 W) (BdJ.steady (by omega)) (fun W hj=>?_) ds wr HMJ.out HBJ.out;refine⟨.tuple #[.slice (some ⟨tg,0,none⟩) (k+1) oc,.int .i64 0],by simp[results,Tryz.results34,go_sem],?_⟩;have hb3:=HB3.out;refine⟨fun hf=>?_,fun _=>⟨_,ls2,qs,rfl,⟨by rw[←hts];exact HPERM.out,HSORT.out⟩,hj.tiles.mono (aCD hb3.size hj.w0),?_⟩,hb3.trans (hj.ext.mono hb3.size)⟩
      ·rw[HF.out] at hf;cases hf
      ·rw[HTJ.out,BE,HLN.out]
theorem FC(pa:Option Addr)(pn pc:Nat)(ba:Option Addr)(bn bc:Nat)(bs:List gS)(w:World)(h:dU w ba bn bs)(hbn40:bn≤40∨200<bn):
  Calls Tryz.prog 34 #[dX pa pn pc ba bn bc] w (sY (aG bs) w):=by
 by_cases hf:bU (aG bs)=true
 ·refine TX pa pn pc ba bn bc bs w h hf ?_;rcases hbn40 with h1|h1
  ·exact h1
  ·have hg:=((cY _).1 (bQ hf).1).1;have hbn:(aG bs).length=bn:=by rw[dD];exact h.1.1
   omega
 ·exact XN pa pn pc ba bn bc bs w h (by simpa using hf)
end
end Go.Proofs.YtblhmdhfhaencaaGreat
