/-
 The document's answer to layer 17:conditionals.
-/
import Derived.Test.YtblhmdhfhaencaaGreatQL
import Derived.Test.YtblhmdhfhaencaaGreatTL
import Derived.Test.YtblhmdhfhaencaaGreatDF
import Derived.Test.YtblhmdhfhaencaaGreatTR
namespace Go.Proofs.YtblhmdhfhaencaaGreat
set_option linter.unusedSimpArgs false
set_option linter.unusedVariables false
set_option linter.unusedSectionVars false
set_option maxRecDepth 100000
set_option maxHeartbeats 40000000
section
open Go.RowKit
attribute [local go_sem] Oper.semAt_some cT bM cC bG
def RE(w:World)(L:List aI)(e:Ending)(w':World):Prop:=∃v,e=.returned v∧eD w' w.heap.size v L∧Below w.heap.size w w'
theorem eD.form{W:World}{base:Nat}{v:Value}{L:List aI}(h:eD W base v L):∃a c,v=.slice a L.length c:=cK.form h
theorem MK(pa:Option Addr)(pn pc:Nat)(ba:Option Addr)(bn bc:Nat)(bs:List gS)(a:Option Addr)(n c base:Nat)(L:List aI)(w:World)(hb:dU w ba bn bs)(hf:bU (aG bs)=true)(F:tZ (aG bs) (aL (aG bs).length) L)(h:eD w base (.slice a n c) L)(hn:n≤1000):
  Calls Tryz.prog 74 #[dX pa pn pc ba bn bc,.slice a n c] w (RE w (lH (aG bs) L)):=by
 have hg:fS (aG bs)=true:=(bQ hf).1
 have hgg:=(cY _).1 hg
 have hbn:bn≤200:=by have:=hgg.1.2;rw[dD,hb.1.1] at this;exact this
 have hbn1:1≤bn:=by have:=hgg.1.1;rw[dD,hb.1.1] at this;exact this
 have HTL:Hid ((aG bs).length=bn):=by rw[Hid,dD,hb.1.1]
 have hlen:L.length=n:=by
  obtain⟨_,_,e⟩:=cK.form h;injection e with _ e _;exact e.symm
 have HLN:=aBO hlen
 have H:=aBO hb
 have HL:=aBO h
 have HF:=aBO F
 have HG:=aBO hg
 clear hb h F hgg hlen hg hf
 go_enter Tryz.func74,Tryz.ntmps74
 go_upto_region 1 with (fail)
 obtain⟨W,hW⟩:∃W,W=w.alloc (bO pa pn pc ba bn bc):=⟨_,rfl⟩
 rw[←hW]
 have h0:W.heap[w.heap.size]? =some (bO pa pn pc ba bn bc):=by rw[hW];exact aBS _ _
 have h1:W.heap.size=w.heap.size+1:=by rw[hW];simp
 have h2:Below w.heap.size w W:=by rw[hW];exact aD _ _
 have H0:=aBO h0
 have H1:=aBO h1
 have H2:=aBO h2
 clear hW h0 h1 h2
 go_wp2
 go_loopw [5,6,7,8,9,10,11] (fun s5 s6 _ _ _ _ _ wr=>∃j:Nat,1≤j∧j≤bn∧s6=.int .i64 (j:Int)∧Hid (eD wr (w.heap.size+1) s5 ((List.range j).filterMap (eX (aG bs) L)))∧Hid (wr.heap[w.heap.size]? =some (bO pa pn pc ba bn bc))∧Hid (Below w.heap.size w wr)) (fun _ s6 _ _ _ _ _ _=>bn-(intOf s6).toNat)
 case atStart=>exact⟨1,by omega,by omega,rfl,by rw[show(List.range 1).filterMap (eX (aG bs) L)= [] by simp[List.range_succ,PF HG.out]];exact cK.nil _ _ _ _ _,H0,H2⟩
 case round=>
  obtain⟨j,hj1,hj,rfl,HM,HO,HB⟩:=hrel;clear H0 H1 H2;have kf:=HO.out;have k1:wr.cell? ⟨w.heap.size,1,none⟩=some (.slice ba bn bc):=by rw[aBP _ _ _ _ _ _ kf];rfl
  clear kf;have hws:=aN HO.out;by_cases hlt:j<bn
  ·have hlt':(j:Int)<(bn:Int):=by omega
   have hj200:j<200:=by omega
   obtain⟨af,cf,hvf⟩:=cK.form HM.out;obtain⟨m,hm⟩:∃m,m=((List.range j).filterMap (eX (aG bs) L)).length:=⟨_,rfl⟩
   rw[←hm] at hvf;subst hvf;have hm200:m≤200:=by have:=xK (aG bs) L j;omega
   have HMM:=aBO hm;clear hm;have HNX:Hid (∀w',Below wr.heap.size wr w'→eX (aG bs) L j=none→eD w' (w.heap.size+1) (.slice af m cf) ((List.range (j+1)).filterMap (eX (aG bs) L))∧w'.heap[w.heap.size]? =some (bO pa pn pc ba bn bc)∧Below w.heap.size w w'):=fun w' hb hc=>by
    rw[qP,hc,List.append_nil];exact⟨eD.ext HM.out hb,aB hb HO.out,aA HB.out hb⟩
   go_upto_region 7 with (first
    |(refine wpList_load_row (o:=⟨some 22,.load 25 _,_,_,_,_⟩) rfl 25 _ rfl w.heap.size rfl 25 _ (0,0) _ HO4.out Tryz.underlying25 rfl aS ?_)
    |(refine wpList_store_row (o:=⟨none,.store 107 _ _,_,_,_,_⟩) rfl 107 _ _ rfl w5.heap.size (aQ (aL bn)) rfl rfl 107 _ (aBS _ _) (by rw[aF];exact aV) rfl (dE _) ?_)
    |(go_at_call 73
      refine(oV pa pn pc ba bn bc hbn w4).mono ?_;rintro e w5 ⟨rfl,hb5⟩;have HB5:=aBO (aA HB4.out hb5)
      clear hb5)
    |(go_at_call 125
      refine(CJ a n c base (aG bs) (by rw[HTL.out];exact hbn) L HF.out j hj200 wr (eD.ext HL.out HB.out) hn).mono ?_;rintro e w4 ⟨⟨best,rfl,hsm⟩,hb4⟩;have HSM:=aBO hsm.done;have HB4:=aBO hb4;have HO4:=aBO (aB hb4 HO.out)
      clear hsm hb4 k1))
   obtain⟨W6,hW6⟩:∃W,W=(w5.alloc (.cells Tryz.zeroCells107 107)).setRow w5.heap.size (aQ (aL bn)):=⟨_,rfl⟩
   rw[←hW6,cW];have hp6:W6.heap[w5.heap.size]? =some (bY (aL bn)):=by rw[hW6];exact setRow_heap _ _ _ _ _ _ (aBS _ _)
   have hb6:Below wr.heap.size wr W6:=by rw[hW6];exact below_setRow (aA HB5.out (aD _ _)) HB5.out.size _
   have hgs:wr.heap.size≤w5.heap.size:=HB5.out.size;have HP6:=aBO hp6;have HB6:=aBO hb6;clear hW6 hp6 hb6;obtain⟨bp,hbp⟩:∃g,g=w5.heap.size:=⟨_,rfl⟩
   rw[←hbp] at HP6 hgs⊢;clear hbp HB4 HO4 HB5;obtain⟨sm,hsm⟩:∃sm,sm=bP bn L j:=⟨_,rfl⟩
   have HSM2:Hid (sm=bP (aG bs).length L j):=by rw[Hid,HTL.out];exact hsm
   have hsmc:(best= -1∧sm=eP bn)∨∃i:Nat,best=i∧i<n∧L.getD i aE=sm:=by
    rw[HSM2.out];have:=HSM.out;rw[HLN.out,HTL.out] at this;rw[HTL.out];exact this
   have hsmlow:∀y,sm.s y=true→y<bn:=by
    rcases hsmc with ⟨_,e⟩|⟨i,_,hi,e⟩
    ·intro y hy;rw[e] at hy;simpa[eP,aL] using hy
    ·intro y hy;have hmem:L.getD i aE∈L:=by rw[aBT,aBU (by rw[HLN.out];exact hi)];exact aBZ _
     rw[e] at hmem;have:=(HF.out.ok sm hmem).low y hy;rw[HTL.out] at this;omega
   have HLOW:=aBO hsmlow;clear hsm hsmlow HSM
   go_upto_if 25 with (fail)
   go_cut [] (fun wx=>Hid (wx.heap[bp]? =some (bY sm.s))∧Hid (Below wr.heap.size wr wx))
   case first=>
    rcases hsmc with ⟨rfl,rfl⟩|⟨i,rfl,hi,hgi⟩
    ·go_wp2_with fail
     go_meet
     exact⟨HP6,HB6⟩
    ·have hi':(i:Int)<(n:Int):=by omega
     have hform:∃g,a=some ⟨g,0,none⟩:=by
      obtain⟨g,c',e⟩:=eI HL.out.1 (by have:=HLN.out;omega);injection e with e _ _;exact⟨g,e⟩
     obtain⟨gg,rfl⟩:=hform;obtain⟨_,rj,_,_⟩:=jL ((eD.ext HL.out (aA HB.out HB6.out)).range hi);rw[hgi] at rj;have RJ:=aBO rj;clear rj hgi;have h6:=HP6.out
     go_wp2_with (first
      |(refine wpList_load_mid rfl 107 _ rfl gg (i*202+1) rfl (aQ sm.s).toList _ RJ.out Tryz.underlying107 rfl (by rw[Array.length_toList,aF];exact aV) ?_)
      |(refine wpList_store_row rfl 107 _ _ rfl bp (aQ sm.s) rfl rfl 107 _ HP6.out (by rw[aF];exact aV) (by rw[aF,aF]) (dE _) ?_))
     go_meet
     exact⟨setRow_heap _ _ _ _ _ _ HP6.out,below_setRow HB6.out hgs _⟩
   case rest=>
    obtain⟨HP7,HB7⟩:=hcut;clear HP6 HB6;obtain⟨pl,hpl⟩:∃x,x=(pv (aG bs) j).length:=⟨_,rfl⟩
    obtain⟨br,hbr⟩:∃x,x=brV (aG bs) (pv (aG bs) j):=⟨_,rfl⟩
    have HPL:=aBO hpl;have HBR:=aBO hbr;clear hpl hbr
    go_upto_region 10 with (first
     |(refine wpList_load_row (o:=⟨some 32,.load 25 _,_,_,_,_⟩) rfl 25 _ rfl w.heap.size rfl 25 _ (0,0) _ (aB HB7.out HO.out) Tryz.underlying25 rfl aS ?_)
     |(go_at_call 126
       refine(MH pa pn pc ba bn bc bs j wc (H.out.ext (aA HB.out HB7.out)) HG.out hj200).mono ?_;rintro e w8 ⟨rfl,hb8⟩;rw[←HPL.out,←HBR.out];have HP8:=aBO (aB hb8 HP7.out);have HB8:=aBO (aA HB7.out hb8)
       clear hb8))
    clear HP7 HB7;obtain⟨bb,hbb⟩:∃bb:Bool,bb=decide (pl≠1∨br=false∨sm.kind=3∨sm.entry=(j:Int)):=⟨_,rfl⟩
    have HBB:=aBO hbb;clear hbb;have hpl9:pl≤1000:=by rw[HPL.out];have:=AI (aG bs) (aG bs).length 0 j;rw[vC,HTL.out] at this;omega
    go_cut [63] (fun s63 wx=>s63=.bool bb∧Hid (wx=w8))
    case first=>
     by_cases h1:pl=1
     rotate_left
     ·have d1:((pl:Int) != 1)=true:=by simp;omega
      have HB1:Hid (bb=true):=by rw[Hid,HBB.out];simp[h1]
      clear h1
      go_wp2_with fail
      go_meet
      exact⟨by rw[HB1.out],rfl⟩
     have d1:((pl:Int) != 1)=false:=by simp;omega
     have H1:=aBO h1;clear h1;cases br with
     |false=>
      have HB1:Hid (bb=true):=by rw[Hid,HBB.out];simp
      go_wp2_with fail
      go_meet
      exact⟨by rw[HB1.out],rfl⟩
     |true=>
      rcases hsmc with ⟨rfl,hsme⟩|⟨i,rfl,hi,hgi⟩
      ·have HB1:Hid (bb=false):=by rw[Hid,HBB.out,H1.out,hsme];simp[eP];omega
       clear hsme
       go_wp2_with fail
       go_meet
       exact⟨by rw[HB1.out],rfl⟩
      ·have hi':(i:Int)<(n:Int):=by omega
       have hi0:¬(i:Int)<0:=by omega
       have hform:∃g,a=some ⟨g,0,none⟩:=by
        obtain⟨g,c',e⟩:=eI HL.out.1 (by have:=HLN.out;omega);injection e with e _ _;exact⟨g,e⟩
       obtain⟨gg,rfl⟩:=hform;obtain⟨ck,_,ce,_⟩:=jL ((eD.ext HL.out (aA HB.out HB8.out)).range hi);rw[hgi] at ck ce;obtain⟨kd,hkd⟩:∃x,x=sm.kind:=⟨_,rfl⟩
       obtain⟨en,hen⟩:∃x,x=sm.entry:=⟨_,rfl⟩
       rw[←hkd] at ck;rw[←hen] at ce;have HBB2:Hid (bb=decide (kd=3∨en=(j:Int))):=by rw[Hid,HBB.out,H1.out,hkd,hen];simp
       clear hgi hkd hen;by_cases h3:kd=3
       ·have d3:(kd==3)=true:=by simpa using h3
        have HB1:Hid (bb=true):=by rw[Hid,HBB2.out];simp[h3]
        clear h3 ce
        go_wp2_with fail
        go_meet
        exact⟨by rw[HB1.out],rfl⟩
       ·have d3:(kd==3)=false:=by simpa using h3
        have HB1:Hid (bb=(en==(j:Int))):=by rw[Hid,HBB2.out,Bool.eq_iff_iff];simp[h3]
        clear h3
        go_wp2_with fail
        go_meet
        exact⟨by rw[HB1.out],rfl⟩
    case rest=>
     obtain⟨rfl,hw⟩:=hcut;obtain rfl:=hw.out;cases bb with
     |true=>
      have HCN:Hid (eX (aG bs) L j=none):=by
       have h:=HBB.out;have h':=of_decide_eq_true h.symm;rcases h' with h'|h'|h'|h'
       ·exact AX (by rw[←HPL.out];exact h')
       ·by_cases h1:(pv (aG bs) j).length=1
        ·refine KR ?_;have:=HBR.out;rw[h',UX h1] at this;simpa using this.symm
        ·exact AX h1
       ·exact KQ (by rw[←HSM2.out];exact h')
       ·exact KP (by rw[←HSM2.out];exact h')
      have HNE:=aBO (HNX.out _ HB8.out HCN.out);go_wp2
      go_roundw
      case rel=>exact⟨j+1,by omega,by omega,by go_num,HNE.out.1,HNE.out.2.1,HNE.out.2.2⟩
      case measure=>simp[intOf];omega
     |false=>
      have hnc:¬(pl≠1∨br=false∨sm.kind=3∨sm.entry=(j:Int)):=of_decide_eq_false HBB.out.symm;have HY1:Hid ((pv (aG bs) j).length=1):=by rw[Hid,←HPL.out];exact aCF fun h=>hnc (.inl h)
      have HY2:Hid ((nx (aG bs) ((pv (aG bs) j).headD 0)).length=2):=by
       have h2:br=true:=by cases br with
        |true=>rfl
        |false=>exact absurd (.inr (.inl rfl)) hnc
       have:=HBR.out;rw[h2,UX HY1.out] at this;exact beq_iff_eq.1 this.symm
      have HY3:Hid (sm.kind≠3):=fun h=>hnc (.inr (.inr (.inl h)));have HY4:Hid (sm.entry≠(j:Int)):=fun h=>hnc (.inr (.inr (.inr h)));clear hnc hsmc;obtain⟨gs,hgs⟩:∃f,f=fF (aG bs) j sm.s:=⟨_,rfl⟩
      have HGS:=aBO hgs;clear hgs
      go_upto_region 12 with (first
       |(refine wpList_load_row (o:=⟨some 64,.load 25 _,_,_,_,_⟩) rfl 25 _ rfl w.heap.size rfl 25 _ (0,0) _ (aB HB8.out HO.out) Tryz.underlying25 rfl aS ?_)
       |(refine wpList_load_row (o:=⟨some 66,.load 107 _,_,_,_,_⟩) rfl 107 _ rfl bp rfl 107 _ (0,0) _ HP8.out Tryz.underlying107 rfl (by rw[aF];exact aV) ?_)
       |(refine wpList_store_row (o:=⟨none,.store 107 _ _,_,_,_,_⟩) rfl 107 _ _ rfl w9.heap.size (aQ gs) rfl rfl 107 _ (aBS _ _) (by rw[aF];exact aV) rfl (dE _) ?_)
       |(go_at_call 127
         refine(DM pa pn pc ba bn bc bs j sm.s wc (H.out.ext (aA HB.out HB8.out)) HG.out hj200 hj1 HLOW.out).mono ?_;rintro e w9 ⟨rfl,hb9⟩;rw[←HGS.out];have HB9:=aBO (aA HB8.out hb9)
         clear hb9))
      obtain⟨gb,hgb⟩:∃g,g=w9.heap.size:=⟨_,rfl⟩
      obtain⟨WA,hWA⟩:∃W,W=(w9.alloc (.cells Tryz.zeroCells107 107)).setRow w9.heap.size (aQ gs):=⟨_,rfl⟩
      rw[←hWA,←hgb,cW];have hsA:WA.heap[gb]? =some (bY gs):=by rw[hWA,hgb];exact setRow_heap _ _ _ _ _ _ (aBS _ _)
      have hbA:Below wr.heap.size wr WA:=by rw[hWA];exact below_setRow (aA HB9.out (aD _ _)) HB9.out.size _
      have HSA:=aBO hsA;have HBA:=aBO hbA;clear hWA hgb hsA hbA HB9 HB8 HP8;have HCT:Hid (fZ gs 200=(aZ gs).length):=rfl
      go_upto_if 70 with (first
       |(refine wpList_load_row (o:=⟨some 68,.load 107 _,_,_,_,_⟩) rfl 107 _ rfl gb rfl 107 (aQ gs) (0,0) _ HSA.out Tryz.underlying107 rfl (by rw[aF];exact aV) ?_)
       |(go_at_call 99
         refine(mN gs WA).mono ?_;rintro e wB ⟨rfl,hbB⟩;rw[HCT.out];have HBB9:=aBO (aA HBA.out hbB);have HSB:=aBO (aB hbB HSA.out)
         clear hbB))
      by_cases hmn:1<(aZ gs).length
      ·have hmn':(1:Int)<((aZ gs).length:Int):=by omega
       have hmn2:decide (((aZ gs).length:Int)>1)=true:=decide_eq_true hmn';have HCN:Hid (eX (aG bs) L j=some ⟨gs,4,(j:Int)⟩):=by
        have:=KN (ts:=aG bs) (L:=L) (j:=j) HY1.out HY2.out (by rw[←HSM2.out];exact HY3.out) (by rw[←HSM2.out];exact HY4.out) (by rw[←HSM2.out,←HGS.out];exact hmn);rw[←HSM2.out,←HGS.out] at this;exact this
       have HOWNB:=aBO (eD.ext HM.out HBB9.out);have HOB:=aBO (aB HBB9.out HO.out);clear hmn;have hbsB:w.heap.size+1≤wB.heap.size:=aCD hws HBB9.out.size
       go_wp2_with (first
        |(refine wpList_load_row (o:=⟨some 72,.load 107 _,_,_,_,_⟩) rfl 107 _ rfl gb rfl 107 (aQ gs) (0,0) _ HSB.out Tryz.underlying107 rfl (by rw[aF];exact aV) ?_)
        |(refine DV (o:=⟨some 74,.build 112 _,_,_,_,_⟩) rfl _ _ _ gs 4 (j:Int) rfl rfl rfl rfl ?_)
        |(refine qQ (o:=⟨some 75,.buildSlice _ _ _,_,_,_,_⟩) rfl _ ⟨gs,4,(j:Int)⟩ rfl rfl ?_)
        |(refine bV (o:=⟨some 76,.call _,_,_,_,_⟩) rfl wB (.tmp 71) (.tmp 75) 104 112 rfl (w.heap.size+1) _ 202 216 Tryz.underlying104 wU (by kernel_rfl) (by omega) (.slice af m cf) m _ (ptC ⟨gs,4,(j:Int)⟩) rfl (by rw[HMM.out];have:=HOWNB.out.1;rw[←HMM.out] at this⊢;exact this) wB.heap.size rfl rfl (kD _) (sI _) (by simp only[maxLen];omega) (by omega) hbsB ?_
          intro g cap w10 hown10 hg10 hat10;have HO10:=aBO hown10;have HG10:=aBO hg10
          clear hown10 hg10 hat10))
       go_roundw
       case rel=>
        refine⟨j+1,by omega,by omega,by go_num,?_,?_,?_⟩
        ·rw[qP,HCN.out];refine⟨?_,?_⟩
         ·rw[List.length_append,List.flatMap_append,←HMM.out];simpa using HO10.out
         ·have:=HMM.out;simp;omega
        ·exact aK HG10.out HOB.out (fun e=>by have:=(cK.low HM.out e).1;omega)
        ·exact(aA HB.out HBB9.out).grown HG10.out (by omega) (fun q e=>by have:=(cK.low HM.out e).1;omega)
       case measure=>simp[intOf];omega
      ·have hmn':¬(1:Int)<((aZ gs).length:Int):=by omega
       have hmn2:decide (((aZ gs).length:Int)>1)=false:=decide_eq_false hmn';have HCN:Hid (eX (aG bs) L j=none):=KO (by rw[←HSM2.out,←HGS.out];exact hmn);have HNE:=aBO (HNX.out wB HBB9.out HCN.out);clear hmn;go_wp2
       go_roundw
       case rel=>exact⟨j+1,by omega,by omega,by go_num,HNE.out.1,HNE.out.2.1,HNE.out.2.2⟩
       case measure=>simp[intOf];omega
  ·obtain rfl:j=bn:=by omega
   have hM:=HM.out;rw[←HTL.out] at hM;have hM2:eD wr (w.heap.size+1) u5 (lH (aG bs) L):=hM;obtain⟨va,vc,rfl⟩:=hM2.form;have HM2:=aBO (eD.mono hM2 (show w.heap.size≤w.heap.size+1 by omega));generalize (lH (aG bs) L).length=m at *;clear hM hM2;go_wp2
   go_ret
   exact⟨_,rfl,HM2.out,HB.out⟩
end

section
open Go.RowKit
section
variable {P:Program} {l:List Oper} {S S':World→Prop} {Q:Exit→Act→World→Prop}
theorem UN(h:∀w,S' w→S w):∀{fuel:Nat} {listed:Array Bool} {a:Act} {w:World},gO P l Q S' fuel listed a w→gO P l Q S fuel listed a w
 |0,_,_,_,hz=>hz
 |_+1,_,_,_,hz=>⟨hz.1,fun i hi=>wpOp_mono (fun _ _ h'=>⟨h'.1.imp id (h _),UN h h'.2⟩) (hz.2 i hi)⟩
theorem PS{W W':World}(h:Below W.heap.size W W'){fuel:Nat}{listed:Array Bool}{a:Act}{w:World}(hz:gO P l Q (fun w'=>∃n:aY W',w'=n.val) fuel listed a w):gO P l Q (fun w'=>∃n:aY W,w'=n.val) fuel listed a w:=
 UN (fun _ hn=>by obtain⟨n,rfl⟩:=hn;exact⟨⟨n.val,aA h n.ext⟩,rfl⟩) hz
end
end

section
open Go.RowKit Go.Shelf
def cfP(L:List aI)(p q:aI):Int:=orV [tC (bE L p:Int) (bE L q:Int),tC (cI p:Int) (cI q:Int)]
def zT(L:List aI)(p:aI):Nat:=300*bE L p+cI p
theorem ZD(L:List aI)(p q:aI)(hp:cI p<300)(hq:cI q<300):cfP L p q<0↔zT L p<zT L q:=by
 rw[cfP,aAA,zT,zT]
 omega
theorem KT(x y:Int):I64 (tC x y):=by
 unfold tC I64
 split
 ·omega
 ·split<;>omega
theorem vD{w:World}{base:Nat}{v:Value}{l:List Nat}(h:bN w base v (aO l))(hl:l≠[]):∃g n c,v=.slice (some ⟨g,0,none⟩) n c∧0<n∧w.cell? ⟨g,0,none⟩=some (.int .i64 ((l.headD 0:Nat):Int)):=by
 cases l with
 |nil=>exact absurd rfl hl
 |cons x l=>
  rcases h.1.2 with ⟨_,h0⟩|⟨g,cap,cur,hv,_,hg,hc1,_,hcs,htk⟩
  ·simp[aO] at h0
  ·refine⟨g,_,cap,hv,by simp[aO],?_⟩;rw[aBP _ _ _ _ _ _ hg];have:(cur.toList.take ((aO (x :: l)).length*1))[0]? =some (.int .i64 (x:Int)):=by rw[htk];rfl
   rw[List.getElem?_take] at this;simpa[aO] using this
theorem ZC(P base bv:Nat)(a:Option Addr)(n c:Nat)(d:fD)(L:List aI)(p q:aI)(w:World)(hV:w.heap[bv]? =some (.cells #[.pointer (some ⟨P,0,none⟩)] 119 (0,0)))(hB:w.heap[P]? =some (wQ d (.slice a n c)))(hL:bR w base (.slice a n c) L)(hn:n≤1000000)(hp:aZ p.s≠[])(hq:aZ q.s≠[]):
  Calls Tryz.prog 83 (#[kN p,kN q]++ #[.pointer (some ⟨bv,0,none⟩)]) w fun e w'=>e=.returned (.int .i64 (cfP L p q))∧Below w.heap.size w w':=by
 have HBL:=aBO hB
 have HL:=aBO hL
 have HP:=aBO hp
 have HQ:=aBO hq
 have HV:=aBO hV
 clear hB hL hp hq hV
 go_enter Tryz.func83,Tryz.ntmps83
 go_upto_region 1 with (fail)
 obtain⟨W,hW⟩:∃W,W=(w.alloc (lA p)).alloc (lA q):=⟨_,rfl⟩
 rw[←hW]
 have hb:Below w.heap.size w W:=by rw[hW];exact aA (aD _ _) (aD _ _)
 have h3:W.heap[w.heap.size]? =some (lA p):=by rw[hW];exact aB (aD _ _) (aBS _ _)
 have h4:W.heap[w.heap.size+1]? =some (lA q):=by rw[hW];exact aU _ _ _ (by simp)
 have HB:=aBO hb
 have HBW:=aBO (aB hb HBL.out)
 have HLW:Hid (bR W base (.slice a n c) L):=bR.ext HL.out hb
 have g0:∀n:aY W,n.val.cell? ⟨bv,0,none⟩=some (.pointer (some ⟨P,0,none⟩)):=aY.cell (by rw[aBP _ _ _ _ _ _ (aB hb HV.out)];rfl)
 have g3:∀w',(∃n:aY W,w'=n.val)→w'.heap[w.heap.size]? =some (lA p):=fun w' ⟨n,e⟩=>by rw[e];exact aB n.ext h3
 have g4:∀w',(∃n:aY W,w'=n.val)→w'.heap[w.heap.size+1]? =some (lA q):=fun w' ⟨n,e⟩=>by rw[e];exact aB n.ext h4
 have s3:∀w',(∃n:aY W,w'=n.val)→w'.rangeAt w.heap.size 0 (aQ p.s).toList:=fun w' h=>lB (g3 w' h)
 have s4:∀w',(∃n:aY W,w'=n.val)→w'.rangeAt (w.heap.size+1) 0 (aQ q.s).toList:=fun w' h=>lB (g4 w' h)
 clear hW hb h3 h4 HBL HL HV
 refine oU (fun w'=>∃n:aY W,w'=n.val) (by kernel_rfl) ?_
 obtain⟨v0,F0,hv0⟩:∃v0,Below W.heap.size W v0∧W.drew=v0:=⟨_,bZ (aBQ _ _) 1,rfl⟩
 rw[hv0]
 clear hv0
 refine cP 0 2 (by kernel_rfl) ⟨⟨_,F0⟩,rfl⟩ ?_
 simp only[List.take_succ_cons,List.take_zero,List.drop_succ_cons,List.drop_zero]
 repeat (first
  |(refine aW (o:=⟨some 7,.load 128 _,_,_,_,_⟩) (by rfl) 128 _ rfl w.heap.size rfl 128 (bJ p).toArray (0,0) _ g3 Tryz.underlying128 rfl (cF _) ?_;simp only[zJ,zG,zH,zI])
  |go_big_quiet_step (fail))
 refine wpQuiet_nil ?_
 refine cP 3 2 (by kernel_rfl) ⟨⟨_,F0⟩,rfl⟩ ?_
 simp only[List.take_succ_cons,List.take_zero,List.drop_succ_cons,List.drop_zero]
 repeat (first
  |(refine aW (o:=⟨some 10,.load 128 _,_,_,_,_⟩) (by rfl) 128 _ rfl (w.heap.size+1) rfl 128 (bJ q).toArray (0,0) _ g4 Tryz.underlying128 rfl (cF _) ?_;simp only[zJ,zG,zH,zI])
  |go_big_quiet_step (fail))
 refine wpQuiet_nil ?_
 refine cP 7 2 (by kernel_rfl) ⟨⟨_,F0⟩,rfl⟩ ?_
 simp only[List.take_succ_cons,List.take_zero,List.drop_succ_cons,List.drop_zero]
 repeat (first
  |(refine aX (o:=⟨some 14,.load 124 _,_,_,_,_⟩) (by rfl) 124 _ rfl w.heap.size 0 rfl (aQ p.s).toList _ s3 Tryz.underlying124 rfl (by rw[Array.length_toList,aF];exact bF) ?_;simp only[zJ,zG,zH,zI])
  |go_big_quiet_step (fail))
 refine wpQuiet_nil ?_
 refine cP 12 2 (by kernel_rfl) ⟨⟨_,F0⟩,rfl⟩ ?_
 simp only[List.take_succ_cons,List.take_zero,List.drop_succ_cons,List.drop_zero]
 repeat (first
  |(refine aX (o:=⟨some 19,.load 124 _,_,_,_,_⟩) (by rfl) 124 _ rfl (w.heap.size+1) 0 rfl (aQ q.s).toList _ s4 Tryz.underlying124 rfl (by rw[Array.length_toList,aF];exact bF) ?_;simp only[zJ,zG,zH,zI])
  |go_big_quiet_step (fail))
 refine wpQuiet_nil ?_
 clear g0 g3 g4 s3 s4
 refine eQ 2 (by kernel_rfl) ?_
 refine dP rfl rfl ?_
 go_simp
 refine(BZ P base a n c d L p v0 (aB F0 HBW.out) (bR.ext HLW.out F0) hn).mono ?_
 rintro e v1 ⟨rfl,hb⟩
 have F1:=aA F0 hb
 clear hb
 refine⟨Or.inr ⟨⟨_,F1⟩,rfl⟩,?_⟩
 refine eQ 5 (by kernel_rfl) ?_
 refine dP rfl rfl ?_
 go_simp
 refine(BZ P base a n c d L q v1 (aB F1 HBW.out) (bR.ext HLW.out F1) hn).mono ?_
 rintro e v2 ⟨rfl,hb⟩
 have F2:=aA F1 hb
 clear hb F0 F1
 refine⟨Or.inr ⟨⟨_,F2⟩,rfl⟩,?_⟩
 refine eQ 6 (by kernel_rfl) ?_
 refine dP rfl rfl ?_
 go_simp
 refine(yP _ _ v2).mono ?_
 rintro e v3 ⟨rfl,rfl⟩
 refine⟨Or.inr ⟨⟨_,F2⟩,rfl⟩,?_⟩
 refine eQ 9 (by kernel_rfl) ?_
 refine dP rfl rfl ?_
 go_simp
 refine(vO p.s v2).mono ?_
 rintro e v4 ⟨vl,rfl,ho,hb⟩
 have F4:=aA F2 hb
 obtain⟨g5,n5,c5,rfl,hn5,hcell⟩:=vD ho HP.out
 have hn5':(0:Int)<(n5:Int):=by omega
 obtain⟨y1,hy1⟩:∃y,y=(aZ p.s).headD 0:=⟨_,rfl⟩
 rw[←hy1] at hcell
 have HY1:=aBO hy1
 clear hy1
 refine⟨Or.inr ⟨⟨_,F4⟩,rfl⟩,?_⟩
 clear ho hb
 refine PS F4 ?_
 have g5':∀n:aY v4,n.val.cell? ⟨g5,0,none⟩=some (.int .i64 (y1:Int)):=aY.cell hcell
 refine cP 10 2 (by kernel_rfl) ⟨⟨_,aBQ _ _⟩,rfl⟩ ?_
 simp only[List.take_succ_cons,List.take_zero,List.drop_succ_cons,List.drop_zero]
 repeat (go_big_quiet_step (fail))
 refine wpQuiet_nil ?_
 clear g5' hcell hn5'
 refine eQ 14 (by kernel_rfl) ?_
 refine dP rfl rfl ?_
 go_simp
 refine(vO q.s v4).mono ?_
 rintro e v5 ⟨vl,rfl,ho,hb⟩
 obtain⟨g6,n6,c6,rfl,hn6,hcell⟩:=vD ho HQ.out
 have hn6':(0:Int)<(n6:Int):=by omega
 obtain⟨y2,hy2⟩:∃y,y=(aZ q.s).headD 0:=⟨_,rfl⟩
 rw[←hy2] at hcell
 have HY2:=aBO hy2
 clear hy2
 refine⟨Or.inr ⟨⟨_,hb⟩,rfl⟩,?_⟩
 have F5:=aA F4 hb
 refine PS hb ?_
 clear ho hb
 have g6':∀n:aY v5,n.val.cell? ⟨g6,0,none⟩=some (.int .i64 (y2:Int)):=aY.cell hcell
 refine cP 15 2 (by kernel_rfl) ⟨⟨_,aBQ _ _⟩,rfl⟩ ?_
 simp only[List.take_succ_cons,List.take_zero,List.drop_succ_cons,List.drop_zero]
 repeat (go_big_quiet_step (fail))
 refine wpQuiet_nil ?_
 clear g6' hcell hn6'
 refine eQ 17 (by kernel_rfl) ?_
 refine dP rfl rfl ?_
 go_simp
 refine(yP _ _ v5).mono ?_
 rintro e v6 ⟨rfl,rfl⟩
 refine⟨Or.inr ⟨⟨_,aBQ _ _⟩,rfl⟩,?_⟩
 refine eQ 18 (by kernel_rfl) ?_
 refine dP rfl rfl ?_
 go_simp
 obtain⟨x1,hx1⟩:∃x,x=tC (bE L p:Int) (bE L q:Int):=⟨_,rfl⟩
 obtain⟨x2,hx2⟩:∃x,x=tC (y1:Int) (y2:Int):=⟨_,rfl⟩
 rw[←hx1,←hx2]
 have hi1:I64 x1:=by rw[hx1];exact KT _ _
 have hi2:I64 x2:=by rw[hx2];exact KT _ _
 have HX:Hid (orV [x1,x2]=cfP L p q):=by rw[Hid,hx1,hx2,HY1.out,HY2.out];rfl
 have hI:=(mX (W:=v5) (xs:= [x1,x2]) rfl 0 (Nat.zero_le _) (fun x hx=>by simp at hx;rcases hx with rfl|rfl<;>assumption) (by simp)).ints
 have HI:Hid (dY (v5.alloc (.cells #[.int .i64 x1,.int .i64 x2] 3)) (some ⟨v5.heap.size,0,none⟩) 2 [x1,x2]):=hI
 have F6:Below v5.heap.size v5 (v5.alloc (.cells #[.int .i64 x1,.int .i64 x2] 3)):=aD _ _
 clear hx1 hx2 hi1 hi2 hI
 refine⟨Or.inr ⟨⟨_,F6⟩,rfl⟩,?_⟩
 refine eQ 19 (by kernel_rfl) ?_
 refine dP rfl rfl ?_
 go_simp
 refine(TV _ 2 2 [x1,x2] _ HI.out).mono ?_
 rintro e v7 ⟨rfl,rfl⟩
 rw[HX.out]
 have HF:=aBO (aA HB.out (aA F5 F6))
 refine⟨Or.inr ⟨⟨_,F6⟩,rfl⟩,?_⟩
 refine cP 20 1 (by kernel_rfl) ⟨⟨_,F6⟩,rfl⟩ ?_
 simp only[List.take_succ_cons,List.take_zero,List.drop_succ_cons,List.drop_zero]
 repeat (go_big_quiet_step (fail))
 refine wpQuiet_nil ?_
 refine mE (by kernel_rfl) ?_
 go_wp2
 go_ret
 exact⟨rfl,HF.out⟩
end

section
open Go.RowKit Go.Shelf
attribute [local go_sem] Oper.semAt_some cT bM cC bG
theorem PD(f:Nat→Bool)(G S:Nat):xS Tryz.prog 139 #[.pointer (some ⟨G,0,none⟩)] nY (aZ f) (fun W=>W.cell? ⟨G,0,none⟩=some (.pointer (some ⟨S,0,none⟩))∧∀k,k<200→W.cell? ⟨S,k,none⟩=some (.bool (f k))):=by
 intro l K Kx W hK hKx hInv hY h0
 refine callsIn_of_wp Tryz.func139 rfl trivial ?_ rfl
 simp only[Tryz.ntmps139,List.size_toArray,List.length_cons,List.length_nil,Nat.reduceAdd,Nat.reduceSub,Array.replicate_succ,Array.replicate_zero,List.push_toArray,List.append_toArray,List.nil_append,List.cons_append]
 have HY:=aBO hY
 have HI:=aBO hInv
 have HK0:=aBO hK
 have H0:Hid (K (gT f 0) W):=by rw[Hid,BL];exact h0
 have hg0:W.cell? ⟨G,0,none⟩=some (.pointer (some ⟨S,0,none⟩)):=(hInv _ _ h0).1
 clear hY hInv hK hKx h0
 gi_wp2
 gi_loopw [6] (fun i wr=>∃k:Nat,i=.int .i64 k∧k≤200∧Hid (K (gT f k) wr)) (fun i _=>200-(intOf i).toNat)
 case atStart=>exact⟨0,rfl,by omega,H0.out⟩
 case round=>
  obtain⟨k,rfl,hk,HK⟩:=hrel;clear hg0;have hSr:=(HI.out _ _ HK.out).2;have hn:∀q,(wr.drewN q).cell? ⟨S,0,none⟩=some (.bool (f 0)):=fun q=>hSr 0 (by omega);have hne:wr.cell? ⟨S,0,none⟩=some (.bool (f 0)):=hn 0;by_cases hlt:k<200
  ·have hc:wr.cell? ⟨S,k,none⟩=some (.bool (f k)):=hSr k hlt;have HST:=aBO (BM f k hlt);have hlt':(k:Int)<200:=by omega
   clear hSr hn;by_cases hf:f k=true
   ·rw[hf] at hc;have HR:Hid (gT f k=k :: gT f (k+1)):=by rw[Hid,HST.out,if_pos hf]
    clear hf HST
    gi_wp2
    refine lR (by kernel_rfl) (by kernel_rfl) ?_
    repeat (go_big_quiet_step (fail))
    refine wpQuiet_nil ?_;rintro _ ⟨nq,rfl⟩;have HKq:Hid (K (gT f k) (wr.drewN nq)):=HK0.out _ _ _ HK.out (bZ (aBQ _ _) nq);obtain⟨fn,tmps,assign,body,hy,hR⟩:=HY.out (gT f k) k (wr.drewN nq) (by rw[HR.out];rfl) HKq.out;unfold nY at hy;have hT:nxL (gT f k) k=gT f (k+1):=by rw[HR.out];rfl
    rw[hT] at hR;have HR2:=aBO hR;clear hT hR HKq
    gi_wp2
    refine HR2.out.mono ?_;rintro e W' (⟨rfl,hJ'⟩|⟨rfl,hX'⟩)
    ·have HK1:=aBO hJ';clear hJ' hy HR2
     gi_wp2
     go_roundw
     case rel=>exact⟨k+1,by go_num,by omega,HK1.out⟩
     case measure=>simp[intOf];omega
    ·have HX:=aBO hX';clear hX' hy HR2
     gi_wp2
     exact bodyPost_ret (v:=.tuple #[]) (by simp[results,Tryz.results139,go_sem]) rfl ⟨⟨_,rfl⟩,Or.inr HX.out⟩
   ·have hf':f k=false:=by simpa using hf
    rw[hf'] at hc;have HR:Hid (gT f k=gT f (k+1)):=by rw[Hid,HST.out,if_neg hf]
    clear hf hf' HST
    gi_wp2
    refine lR (by kernel_rfl) (by kernel_rfl) ?_
    repeat (go_big_quiet_step (fail))
    refine wpQuiet_nil ?_;rintro _ ⟨nq,rfl⟩;have HKq:Hid (K (gT f (k+1)) (wr.drewN nq)):=by rw[←HR.out];exact HK0.out _ _ _ HK.out (bZ (aBQ _ _) nq)
    gi_wp2
    go_roundw
    case rel=>exact⟨k+1,by go_num,by omega,HKq.out⟩
    case measure=>simp[intOf];omega
  ·obtain rfl:k=200:=by omega
   clear hSr hn
   gi_wp2
   go_end0
   exact⟨⟨_,rfl⟩,Or.inl ⟨_,EC f,HK.out⟩⟩
abbrev bsV(t:bK):Value:=.slice t.ba t.bn t.bc
structure dG(W:World)(base:Nat)(v:Value)(ls:List bK):Prop where
 own:cK 76 3 cN W base v ls
 each:∀t∈ls,bN W base (bsV t) t.d.blocks∧I64 t.d.kind∧I64 t.d.parent
 sepv:∀t∈ls,Sep (bsV t) v
 pw:ls.Pairwise fun s t=>Sep (bsV s) (bsV t)
section
variable {W W' W3:World} {base base':Nat} {v:Value} {ls:List bK}
theorem dG.grown{row:Option Nat}(h:dG W base v ls)(hg:W.grownBy W' row)(hr:∀q,row=some q→q<base∨W.heap.size≤q):dG W' base v ls where
 own:=h.own.kept hg (by
  cases e:v.ownBlock with
  |none=>exact .inl rfl
  |some q=>exact .inr fun e2=>by have:=h.own.low e;have:=hr q e2.symm;omega)
 each:=fun t ht=>⟨(h.each t ht).1.kept hg (by
  cases e:(bsV t).ownBlock with
  |none=>exact .inl rfl
  |some q=>exact .inr fun e2=>by have:=(h.each t ht).1.1.lt q e;have:=hr q e2.symm;omega),(h.each t ht).2⟩
 sepv:=h.sepv
 pw:=h.pw
theorem dG.ext(h:dG W base v ls)(hb:Below W.heap.size W W'):dG W' base v ls:=
 h.grown (row:=none) ⟨hb.os,hb.tape,hb.output,hb.size,fun k hk _=>hb.block k hk⟩ fun q e=>by cases e
theorem dG.mono(h:dG W base v ls)(hb:base'≤base):dG W base' v ls:=⟨h.own.mono hb,fun t ht=>⟨(h.each t ht).1.mono hb,(h.each t ht).2⟩,h.sepv,h.pw⟩
theorem dG.steady{D:Nat}:aR D (fun W=>dG W base v ls):=fun W W' row h hg hr=>
 ⟨(aR.ownR D base v ls) W W' row h.own hg hr,fun t ht=>⟨(aR.ownI D base (bsV t) t.d.blocks) W W' row (h.each t ht).1 hg hr,(h.each t ht).2⟩,h.sepv,h.pw⟩
theorem FK{w:World}{base:Nat}{a:Option Addr}{n c:Nat}{xs:List Int}(h:bN w base (.slice a n c) xs):n≤c:=by
 rcases h.1.2 with ⟨e,_⟩|⟨g,cap,cur,e,_,_,hc,_⟩
 ·injection e with _ e1 e2;omega
 ·injection e with _ e1 e2;omega
theorem dG.ok{a:Option Addr}{n c:Nat}(h:dG W base (.slice a n c) ls):cM W a n ls:=
 ⟨h.own.recs dM,fun t ht=>⟨(h.each t ht).1.ints,FK (h.each t ht).1,(h.each t ht).2⟩⟩
theorem DX(W:World)(B:Nat)(t:bK)(h:W.heap[B]? =some (.cells (cN t).toArray 76 (0,0)))(base:Nat)(hb:base≤B)(ho:bN W base (bsV t) t.d.blocks)(hk:I64 t.d.kind∧I64 t.d.parent)(hn:(bsV t).ownBlock≠some B):dG W base (.slice (some ⟨B,0,none⟩) 1 1) [t] where
 own:=by
  refine⟨⟨by simp[cN],.inr ⟨B,1,(cN t).toArray,rfl,hb,h,by simp,by simp[maxLen],by simp[cN],?_⟩⟩,by simp⟩;simp[cN]
 each:=fun s hs=>by
  have:s=t:=by simpa using hs
  subst this;exact⟨ho,hk⟩
 sepv:=fun s hs g hg e=>by
  have:s=t:=by simpa using hs
  subst this;simp only[Value.ownBlock,Option.some.injEq] at e;subst e;exact hn hg
 pw:=List.pairwise_singleton _ _
theorem dG.add{v':Value}(h:dG W base v ls)(x:bK)(hx:x.ba=none)(hx2:x.bn=0)(hx3:x.bc=0)(hx4:x.d.blocks= [])(hk:I64 x.d.kind∧I64 x.d.parent)(hg:W.grownBy W3 v.ownBlock)
  (ho:W3.ownsRow base 76 3 v' (ls.length+1) (ls.flatMap cN++cN x)) (hat:v'.ownBlock=v.ownBlock∨∃q,v'.ownBlock=some q∧W.heap.size≤q) (hn:ls.length≤1000):dG W3 base v' (ls++ [x]) where
 own:=by
  refine⟨?_,by simp;omega⟩;rw[List.length_append,List.flatMap_append];simpa using ho
 each:=fun t ht=>by
  rcases aCA.1 ht with ht|ht
  ·refine⟨(h.each t ht).1.kept hg ?_,(h.each t ht).2⟩;cases e:(bsV t).ownBlock with
   |none=>exact .inl rfl
   |some q=>exact .inr fun e2=>h.sepv t ht q e e2.symm
  ·have:t=x:=by simpa using ht
   subst this;refine⟨?_,hk⟩;rw[bsV,hx,hx2,hx3,hx4];exact bN.nil _ _
 sepv:=fun t ht g hg1 hg2=>by
  rcases aCA.1 ht with ht|ht
  ·rcases hat with e|⟨q,e,hq⟩
   ·rw[e] at hg2;exact h.sepv t ht g hg1 hg2
   ·rw[e] at hg2;injection hg2 with hg2;have:=((h.each t ht).1.1.lt g hg1).2;omega
  ·have:t=x:=by simpa using ht
   subst this;rw[bsV,hx] at hg1;cases hg1
 pw:=by
  rw[List.pairwise_append];refine⟨h.pw,List.pairwise_singleton _ _,fun s _ t ht g _ hg2=>?_⟩;have:t=x:=by simpa using ht
  subst this;rw[bsV,hx] at hg2;cases hg2
theorem EW:∀(ls:List bK) (k:Nat) (t t':bK),ls[k]? =some t→t'.d.kind=t.d.kind∧t'.d.parent=t.d.parent→(ls.flatMap cN).set (k*3+2) (bsV t')=(ls.set k t').flatMap cN
 |x :: ls,0,t,t',h,he=>by
  simp only[List.getElem?_cons_zero,Option.some.injEq] at h;subst h;simp[cN,he.1,he.2]
 |x :: ls,k+1,t,t',h,he=>by
  have ih:=EW ls k t t' (by simpa using h) he;rw[List.flatMap_cons,List.set_cons_succ,List.flatMap_cons,←ih];have e:(k+1)*3+2=(cN x).length+(k*3+2):=by rw[dM];omega
  rw[e,List.set_append_right _ _ (by omega)]
  congr 2
  omega
theorem dG.turn{g n c:Nat}(h:dG W base (.slice (some ⟨g,0,none⟩) n c) ls){k:Nat}{t t':bK}(hk:ls[k]? =some t)(hg:W.grownBy W3 (bsV t).ownBlock)(ho:bN W3 base (bsV t') t'.d.blocks)(he:t'.d.kind=t.d.kind∧t'.d.parent=t.d.parent)
  (hat:(bsV t').ownBlock=(bsV t).ownBlock∨∃q,(bsV t').ownBlock=some q∧W.heap.size≤q):dG (W3.setCell ⟨g,k*3+2,none⟩ (bsV t')) base (.slice (some ⟨g,0,none⟩) n c) (ls.set k t'):=by
 have hlt:=(aBX.1 hk).1
 have htm:=aBY hk
 have hlen:ls.length=n:=by obtain⟨a,c',e⟩:=h.own.form;injection e with _ e _;exact e.symm
 have hgb:=h.own.low (k:=g) rfl
 have g2:=bA W3 g (k*3+2) (bsV t')
 have hne:∀s∈ls,(bsV s).ownBlock≠some g:=fun s hs e=>h.sepv s hs g e rfl
 have keep:∀s,bN W base (bsV s) s.d.blocks→Sep (bsV t) (bsV s)→(bsV s).ownBlock≠some g→bN (W3.setCell ⟨g,k*3+2,none⟩ (bsV t')) base (bsV s) s.d.blocks:=fun s hs hsep hng=>by
  refine(hs.kept hg ?_).kept g2 ?_
  ·cases e:(bsV s).ownBlock with
   |none=>exact .inl rfl
   |some q=>exact .inr fun e2=>hsep q e2.symm e
  ·cases e:(bsV s).ownBlock with
   |none=>exact .inl rfl
   |some q=>exact .inr fun e2=>hng (e.trans e2)
 have sepT:∀s,bN W base (bsV s) s.d.blocks→Sep (bsV t) (bsV s)→Sep (bsV t') (bsV s):=fun s hs hsep q e1 e2=>by
  rcases hat with e|⟨q',e,hq⟩
  ·rw[e] at e1;exact hsep q e1 e2
  ·rw[e] at e1;injection e1 with e1;have:=(hs.1.lt q e2).2;omega
 have sepg:(bsV t').ownBlock≠some g:=fun e=>by
  rcases hat with e1|⟨q',e1,hq⟩
  ·rw[e1] at e;exact hne t htm e
  ·rw[e1] at e;injection e with e;omega
 have hpw:∀i s,ls[i]? =some s→i≠k→Sep (bsV t) (bsV s):=fun i s hi hik=>by
  have hil:=(aBX.1 hi).1;have e1:=(aBX.1 hi).2;have e2:=(aBX.1 hk).2;rcases Nat.lt_or_ge i k with hl|hl
  ·have:=(List.pairwise_iff_getElem.1 h.pw) i k hil hlt hl;rw[e1,e2] at this;exact this.symm
  ·have:=(List.pairwise_iff_getElem.1 h.pw) k i hlt hil (by omega);rw[e1,e2] at this;exact this
 refine⟨?_,fun s hs=>?_,fun s hs=>?_,?_⟩
 ·have h3:cK 76 3 cN W3 base (.slice (some ⟨g,0,none⟩) n c) ls:=h.own.kept hg (.inr fun e=>hne t htm e.symm);have h4:cK 76 3 cN (W3.setCell ⟨g,k*3+2,none⟩ (bsV t')) base (.slice (some ⟨g,0,none⟩) n c) (ls.set k t'):=by
   refine⟨?_,by rw[List.length_set];exact h.own.2⟩;have h6:=h3.1;rw[hlen] at h6;have h5:=(h6.stored (k*3+2) (bsV t')).1;rw[List.length_set,hlen];have e:(ls.flatMap cN).set (k*3+2) (bsV t')=(ls.set k t').flatMap cN:=EW ls k t t' hk he;rw[←e];exact h5
  exact h4
 ·obtain⟨i,hi,e⟩:=List.mem_iff_getElem.1 hs;rw[List.getElem_set] at e
  split at e
  ·rename_i hki
   subst e;refine⟨ho.kept g2 ?_,by rw[he.1,he.2];exact(h.each t htm).2⟩;cases e:(bsV t').ownBlock with
   |none=>exact .inl rfl
   |some q=>exact .inr fun e2=>sepg (e.trans e2)
  ·rename_i hki
   have hi':i<ls.length:=by simpa using hi
   have hsm:s∈ls:=by rw[←e];exact aBZ hi'
   exact⟨keep s (h.each s hsm).1 (hpw i s (by rw[aBU hi',e]) (fun e=>hki e.symm)) (hne s hsm),(h.each s hsm).2⟩
 ·obtain⟨i,hi,e⟩:=List.mem_iff_getElem.1 hs;rw[List.getElem_set] at e
  split at e
  ·subst e;intro q e1 e2;simp only[Value.ownBlock,Option.some.injEq] at e2;subst e2;exact sepg e1
  ·have hi':i<ls.length:=by simpa using hi
   exact h.sepv s (by rw[←e];exact aBZ hi')
 ·rw[List.pairwise_iff_getElem];intro i j hi hj hij;have hi':i<ls.length:=by simpa using hi
  have hj':j<ls.length:=by simpa using hj
  rw[List.getElem_set,List.getElem_set];by_cases e1:k=i
  ·subst e1;rw[if_pos rfl,if_neg (by omega)];exact sepT _ (h.each _ (aBZ hj')).1 (hpw j _ (aBU hj') (by omega))
  ·rw[if_neg e1];by_cases e2:k=j
   ·subst e2;rw[if_pos rfl];exact(sepT _ (h.each _ (aBZ hi')).1 (hpw i _ (aBU hi') (by omega))).symm
   ·rw[if_neg e2];exact(List.pairwise_iff_getElem.1 h.pw) i j hi' hj' hij
end
end

section
open Go.RowKit Go.Shelf
theorem NW(g n c a m b base:Nat)(fv:Value)(L:List aI)(w:World)(h:bR w base (.slice (some ⟨g,0,none⟩) n c) L)(hn:n≤1000000)(ham:a<m)(hmb:m<b)(hbn:b≤n):
  Calls Tryz.prog 212 #[.slice (some ⟨g,0,none⟩) n c,.int .i64 (a:Int),.int .i64 (m:Int),.int .i64 (b:Int),fv] w fun e w'=>e=.returned (.tuple #[])∧
   ∃L',bR w' base (.slice (some ⟨g,0,none⟩) n c) L'∧Sh aE L L' a b∧(∀k,L'.getD k aE=fT (fun k=>L.getD k aE) a m b k)∧Chg (fun k=>k=g) w w':=by
 have H:=aBO h
 clear h
 go_enter Tryz.func212,Tryz.ntmps212
 go_wp2
 go_loopw [10,11] (fun s10 s11 wr=>∃(i j:Nat) (L1:List aI),s10=.int .i64 (i:Int)∧s11=.int .i64 (j:Int)∧0<i∧0<j∧a+i≤m∧m+j≤b∧Hid (bR wr base (.slice (some ⟨g,0,none⟩) n c) L1∧Sh aE L L1 a b∧fT (fun k=>L1.getD k aE) (m-i) m (m+j)=fT (fun k=>L.getD k aE) a m b∧Chg (fun k=>k=g) w wr)) (fun s10 s11 _=>(intOf s10).toNat+(intOf s11).toNat)
 case atStart=>exact⟨m-a,b-m,L,by go_num,by go_num,by omega,by omega,by omega,by omega,H.out,Sh.refl _ _ _,by rw[show m-(m-a)=a by omega,show m+(b-m)=b by omega],Chg.refl _ _⟩
 case round=>
  obtain⟨i,j,L1,rfl,rfl,hi,hj,him,hjb,HJ⟩:=hrel;have z1:(i:Int)≤(m:Int):=by omega
  have z2:(m:Int)+(j:Int)≤1000000:=by omega
  by_cases hij:i=j
  ·subst hij
   go_wp2_with (
    (go_at_call 220
     refine(oP g n c (m-i) m i base _ _ _ fv L1 wr HJ.out.1 hn (by omega) (by omega) (by omega) (by omega) (by omega)).mono ?_;rintro e w2 ⟨rfl,L2,q1,q2,q3,q4⟩
     have HJ2:Hid (bR w2 base (.slice (some ⟨g,0,none⟩) n c) L2∧Sh aE L L2 a b∧(∀k,L2.getD k aE=fT (fun k=>L.getD k aE) a m b k)∧Chg (fun k=>k=g) w w2):=
      ⟨q1,HJ.out.2.1.trans (q2.mono (by omega) (by omega)),fun k=>by rw[q3,VN _ (by omega),HJ.out.2.2.1],HJ.out.2.2.2.trans q4⟩
     clear q1 q2 q3 q4))
   go_end0
   exact⟨rfl,L2,HJ2.out⟩
  ·have dne:((i:Int) != (j:Int))=true:=by simp;omega
   by_cases hlt:j<i
   ·have dgt:decide ((i:Int)>(j:Int))=true:=by simp;omega
    have dgt2:decide ((j:Int)<(i:Int))=true:=by simp;omega
    have dgt3:decide (j<i)=true:=by simp;omega
    clear hij
    go_wp2_with (
     (go_at_call 220
      refine(oP g n c (m-i) m j base _ _ _ fv L1 wr HJ.out.1 hn (by omega) (by omega) (by omega) (by omega) (by omega)).mono ?_;rintro e w2 ⟨rfl,L2,q1,q2,q3,q4⟩
      have HJ2:Hid (bR w2 base (.slice (some ⟨g,0,none⟩) n c) L2∧Sh aE L L2 a b∧fT (fun k=>L2.getD k aE) (m-(i-j)) m (m+j)=fT (fun k=>L.getD k aE) a m b∧Chg (fun k=>k=g) w w2):=
       ⟨q1,HJ.out.2.1.trans (q2.mono (by omega) (by omega)),by rw[←HJ.out.2.2.1,←RV _ (by omega) hlt];congr 1;funext k;exact q3 k,HJ.out.2.2.2.trans q4⟩
      clear q1 q2 q3 q4))
    go_roundw
    case rel=>exact⟨i-j,j,L2,by go_num,rfl,by omega,hj,by omega,hjb,HJ2⟩
    case measure=>simp[intOf];omega
   ·have dgt:decide ((i:Int)>(j:Int))=false:=by simp;omega
    have dgt2:decide ((j:Int)<(i:Int))=false:=by simp;omega
    have dgt3:decide (j<i)=false:=by simp;omega
    have hlt2:i<j:=by omega
    clear hij
    go_wp2_with (
     (go_at_call 220
      refine(oP g n c (m-i) (m+j-i) i base _ _ _ fv L1 wr HJ.out.1 hn (by omega) (by omega) (by omega) (by omega) (by omega)).mono ?_;rintro e w2 ⟨rfl,L2,q1,q2,q3,q4⟩
      have HJ2:Hid (bR w2 base (.slice (some ⟨g,0,none⟩) n c) L2∧Sh aE L L2 a b∧fT (fun k=>L2.getD k aE) (m-i) m (m+(j-i))=fT (fun k=>L.getD k aE) a m b∧Chg (fun k=>k=g) w w2):=
       ⟨q1,HJ.out.2.1.trans (q2.mono (by omega) (by omega)),by rw[←HJ.out.2.2.1,←RU _ (by omega) hlt2];congr 1;funext k;exact q3 k,HJ.out.2.2.2.trans q4⟩
      clear q1 q2 q3 q4))
    go_roundw
    case rel=>exact⟨i,j-i,L2,rfl,by go_num,hi,by omega,him,by omega,HJ2⟩
    case measure=>simp[intOf];omega
structure uT(af:Nat)(cb:Array Value)(cf:aI→aI→Int)(key:aI→Nat)(base g n c:Nat)(J:List aI→World→Prop):Prop where
 enter:∀args w,(callFunc af args).run Tryz.prog w=.ok (.enter af args) w
 cmp:∀L W,J L W→∀p q,p∈L→q∈L→Calls Tryz.prog af (#[kN p,kN q]++cb) W fun e W'=>e=.returned (.int .i64 (cf p q))∧Below W.heap.size W W'
 less:∀L W,J L W→∀p q,p∈L→q∈L→(cf p q<0↔key p<key q)
 parts:∀L W,J L W→bR W base (.slice (some ⟨g,0,none⟩) n c) L
 turn:∀L L' W W',J L W→L'.Perm L→bR W' base (.slice (some ⟨g,0,none⟩) n c) L'→Chg (fun k=>k=g) W W'→J L' W'
theorem uT.ext{af:Nat}{cb:Array Value}{cf:aI→aI→Int}{key:aI→Nat}{base g n c:Nat}{J:List aI→World→Prop}(S:uT af cb cf key base g n c J){L:List aI}{W W':World}(h:J L W)(hb:Below W.heap.size W W'):J L W':=
 S.turn L L W W' h (List.Perm.refl _) ((S.parts L W h).ext hb) ((sW hb).mono fun k hk=>hk.elim)
theorem eZ{L:List aI}{k:Nat}(h:k<L.length):L.getD k aE∈L:=by
 rw[aBT,aBU h];exact aBZ _
theorem tJ(af:Nat)(cb:Array Value)(cf:aI→aI→Int)(key:aI→Nat)(base g n c:Nat)(J:List aI→World→Prop)(S:uT af cb cf key base g n c J)(a b:Nat)(L:List aI)(w:World)(h:J L w)(hn:n≤1000000)(hab:a≤b)(hbn:b≤n):
  Calls Tryz.prog 177 #[.slice (some ⟨g,0,none⟩) n c,.int .i64 (a:Int),.int .i64 (b:Int),.func (.func af) #[] cb] w fun e w'=>e=.returned (.tuple #[])∧
   ∃L',J L' w'∧Sh aE L L' a b∧Srt aE key L' a b:=by
 have H:=aBO h
 have HS:=aBO S
 have eF:=S.enter
 clear h S
 have S:=HS
 clear HS
 go_enter Tryz.func177,Tryz.ntmps177
 go_wp2
 go_loopw [8,9] (fun s8 _ wr=>∃(i:Nat) (L1:List aI),a+1≤i∧(i≤b∨i=a+1)∧s8=.int .i64 (i:Int)∧Hid (Srt aE key L1 a i)∧Hid (Sh aE L L1 a b)∧Hid (J L1 wr)) (fun s8 _ _=>b+1-(intOf s8).toNat)
 case atStart=>exact⟨a+1,L,by omega,.inr rfl,by go_num,Srt.one key _ (by omega),Sh.refl _ _ _,H⟩
 case round=>
  obtain⟨i,L1,hi1,hi2,rfl,HSR,HSH1,HJ1⟩:=hrel;by_cases hlt:i<b
  ·have hlt':(i:Int)<(b:Int):=by omega
   go_wp2
   go_loopw [9] (fun s9 wi=>∃(j:Nat) (L2:List aI),j≤i∧s9=.int .i64 (j:Int)∧Hid (CZ aE key L2 a i j)∧Hid (Sh aE L L2 a b)∧Hid (J L2 wi)) (fun s9 _=>(intOf s9).toNat)
   case atStart=>exact⟨i,L1,by omega,rfl,CZ.start key HSR.out (by omega),HSH1,HJ1⟩
   case round=>
    obtain⟨j,L2,hj,rfl,HIJ0,HSH0,HJ⟩:=hrel;clear HSR HSH1 HJ1;have haj:=HIJ0.out.low.1;by_cases hja:a<j
    ·have dj:decide ((j:Int)>(a:Int))=true:=by simp;omega
     have dj2:decide ((a:Int)<(j:Int))=true:=by simp;omega
     have dj3:decide (a<j)=true:=by simp;omega
     by_cases hcv:True
     ·skip
      have h0:=S.out.parts _ _ HJ.out;have hL2:=h0.len;have hp1:∀w',(∃m:aY wr,w'=m.val)→w'.rangeAt g (j*202) (bJ (L2.getD j aE)):=fun w' ⟨m,e⟩=>by rw[e];exact dW (h0.ext m.ext) (by omega)
      have hp2:∀w',(∃m:aY wr,w'=m.val)→w'.rangeAt g ((j-1)*202) (bJ (L2.getD (j-1) aE)):=fun w' ⟨m,e⟩=>by rw[e];exact dW (h0.ext m.ext) (by omega)
      have HCM:Hid (∀m:aY wr,Calls Tryz.prog af (#[kN (L2.getD j aE),kN (L2.getD (j-1) aE)]++cb) m.val fun e w''=>e=.returned (.int .i64 (cf (L2.getD j aE) (L2.getD (j-1) aE)))∧∃q:aY wr,w''=q.val):=fun m=>cG (S.out.cmp _ _ (S.out.ext HJ.out m.ext) _ _ (eZ (by omega)) (eZ (by omega)));have HLS:=aBO (S.out.less _ _ HJ.out _ _ (eZ (L:=L2) (k:=j) (by omega)) (eZ (L:=L2) (k:=j-1) (by omega)));obtain⟨cc,hcc⟩:∃cc,cc=cf (L2.getD j aE) (L2.getD (j-1) aE):=⟨_,rfl⟩
      rw[←hcc] at HCM HLS;obtain⟨xj,hxj⟩:∃xj,xj=L2.getD j aE:=⟨_,rfl⟩
      obtain⟨xp,hxp⟩:∃xp,xp=L2.getD (j-1) aE:=⟨_,rfl⟩
      rw[←hxj] at hp1 HCM;rw[←hxp] at hp2 HCM;have hji:((j:Int)-1).toNat=j-1:=by omega
      have hjj:(0:Int)≤(j:Int)-1:=by omega
      have hjk:(j:Int)-1<(n:Int):=by omega
      have hjl:(j:Int)<(n:Int):=by omega
      clear hcc hxj hxp h0;go_wp2;refine bB (by kernel_rfl) (by kernel_rfl) ?_
      repeat (first
       |go_big_quiet_skip
       |(refine aX (o:=⟨some 26,.load 128 _,_,_,_,_⟩) (by rfl) 128 _ rfl g (j*202) rfl (bJ xj) _ hp1 Tryz.underlying128 rfl (cE _) ?_;simp only[zJ,zG,zH,zI])
       |(refine aX (o:=⟨some 31,.load 128 _,_,_,_,_⟩) (by rfl) 128 _ rfl g ((j-1)*202) rfl (bJ xp) _ hp2 Tryz.underlying128 rfl (cE _) ?_;simp only[zJ,zG,zH,zI])
       |go_big_quiet_step (first|(go_at_fn af;exact HCM.out _)))
      refine wpQuiet_nil ?_;intro _ hw';obtain⟨n',rfl⟩:=hw';have HJ1:=aBO (S.out.ext HJ.out n'.ext);generalize n'.val=W8 at *;clear hp1 hp2 HCM;by_cases hlv:cc<0
      ·have dcc:decide (cc<0)=true:=by simpa using hlv
       have hkk:=HLS.out.1 hlv;have HIJ:Hid (CZ aE key (fR aE L2 j (j-1)) a i (j-1)):=HIJ0.out.step key hja (by omega) (Nat.le_of_lt hkk);have HSH:Hid (Sh aE L (fR aE L2 j (j-1)) a b):=HSH0.out.trans (Sh.swap L2 (by omega) (by omega) (by omega));have h9:=S.out.parts _ _ HJ1.out;clear hkk HLS;go_wp2;have h1:=bR.drew h9;have hr1:=dW h1 (k:=j) (by omega);have hr2:=dW h1 (k:=j-1) (by omega);have ht1:=jO h1 (k:=j) (by omega) (L2.getD (j-1) aE);have h2:=mW h1 (k:=j) (by omega) (L2.getD (j-1) aE);have ht2:=jO h2 (k:=j-1) (by omega) (L2.getD (j) aE);have h3:=mW h2 (k:=j-1) (by omega) (L2.getD (j) aE);obtain⟨w8,hw8⟩:∃w8,w8=W8.drew.setCells g ((j)*202) (bJ (L2.getD (j-1) aE)):=⟨_,rfl⟩
       rw[←hw8] at ht2 h3;obtain⟨w9,hw9⟩:∃w9,w9=w8.setCells g ((j-1)*202) (bJ (L2.getD (j) aE)):=⟨_,rfl⟩
       rw[←hw9] at h3;have HSW:Hid (bR w9 base (.slice (some ⟨g,0,none⟩) n c) (fR aE L2 (j) (j-1))):=h3;have HCW:Hid (Chg (fun k=>k=g) W8 w9):=by
        rw[Hid,hw9,hw8];exact eB (S:=fun k=>k=g) rfl _ _ _ (eB (S:=fun k=>k=g) rfl _ _ _ ((Chg.refl _ _).drewN 1))
       clear h1 h2 h3;generalize L2.getD (j) aE=xp at *;generalize L2.getD (j-1) aE=xq at *;refine oU (fun _=>True) (by kernel_rfl) ?_;refine cP 0 9 (by kernel_rfl) trivial ?_;simp only[List.take_succ_cons,List.take_zero,List.drop_succ_cons,List.drop_zero]
       repeat (go_big_quiet_step (fail))
       refine wpQuiet_nil ?_;refine cP 10 3 (by kernel_rfl) trivial ?_;simp only[List.take_succ_cons,List.take_zero,List.drop_succ_cons,List.drop_zero]
       repeat (go_big_quiet_step (fail))
       refine wpQuiet_nil ?_;refine IB 9 13 (by kernel_rfl) ?_ ?_
       ·refine aC rfl rfl ?_;refine wp_load_mid 128 _ rfl g ((j-1)*202) rfl (bJ xq) _ hr2 Tryz.underlying128 rfl (cE _) ?_;refine⟨Or.inr trivial,?_⟩;simp only[zJ,zG,zH,zI];refine eQ 13 (by kernel_rfl) ?_;refine aC rfl rfl ?_;refine wp_load_mid 128 _ rfl g ((j)*202) rfl (bJ xp) _ hr1 Tryz.underlying128 rfl (cE _) ?_;refine⟨Or.inr trivial,?_⟩;simp only[zJ,zG,zH,zI];refine cP 14 1 (by kernel_rfl) trivial ?_;simp only[List.take_succ_cons,List.take_zero,List.drop_succ_cons,List.drop_zero]
        repeat (go_big_quiet_step (fail))
        refine wpQuiet_nil ?_;refine eQ 15 (by kernel_rfl) ?_;refine aC rfl rfl ?_;refine wp_store_mid 128 _ _ rfl g ((j)*202) (bJ xq).toArray rfl rfl ht1 (cF _) (all_oneCell_toArray (cV _)) ?_;simp only[cW,cR];rw[←hw8];refine⟨Or.inr trivial,?_⟩;refine cP 16 1 (by kernel_rfl) trivial ?_;simp only[List.take_succ_cons,List.take_zero,List.drop_succ_cons,List.drop_zero]
        repeat (go_big_quiet_step (fail))
        refine wpQuiet_nil ?_;refine eQ 17 (by kernel_rfl) ?_;refine aC rfl rfl ?_;refine wp_store_mid 128 _ _ rfl g ((j-1)*202) (bJ xp).toArray rfl rfl ht2 (cF _) (all_oneCell_toArray (cV _)) ?_;simp only[cW,cR];rw[←hw9];refine⟨Or.inr trivial,?_⟩;refine mE (by kernel_rfl) ?_;clear hw9 hw8;have HJW:Hid (J (fR aE L2 j (j-1)) w9):=S.out.turn _ _ _ _ HJ1.out (kW aE L2 (by omega) (by omega)) HSW.out HCW.out;go_wp2
        go_roundw
        case rel=>exact⟨j-1,_,by omega,by go_num,HIJ,HSH,HJW⟩
        case measure=>simp[intOf];omega
       ·refine aC rfl rfl ?_;refine wp_load_mid 128 _ rfl g ((j)*202) rfl (bJ xp) _ hr1 Tryz.underlying128 rfl (cE _) ?_;refine⟨Or.inr trivial,?_⟩;simp only[zJ,zG,zH,zI];refine eQ 9 (by kernel_rfl) ?_;refine aC rfl rfl ?_;refine wp_load_mid 128 _ rfl g ((j-1)*202) rfl (bJ xq) _ hr2 Tryz.underlying128 rfl (cE _) ?_;refine⟨Or.inr trivial,?_⟩;simp only[zJ,zG,zH,zI];refine cP 14 1 (by kernel_rfl) trivial ?_;simp only[List.take_succ_cons,List.take_zero,List.drop_succ_cons,List.drop_zero]
        repeat (go_big_quiet_step (fail))
        refine wpQuiet_nil ?_;refine eQ 15 (by kernel_rfl) ?_;refine aC rfl rfl ?_;refine wp_store_mid 128 _ _ rfl g ((j)*202) (bJ xq).toArray rfl rfl ht1 (cF _) (all_oneCell_toArray (cV _)) ?_;simp only[cW,cR];rw[←hw8];refine⟨Or.inr trivial,?_⟩;refine cP 16 1 (by kernel_rfl) trivial ?_;simp only[List.take_succ_cons,List.take_zero,List.drop_succ_cons,List.drop_zero]
        repeat (go_big_quiet_step (fail))
        refine wpQuiet_nil ?_;refine eQ 17 (by kernel_rfl) ?_;refine aC rfl rfl ?_;refine wp_store_mid 128 _ _ rfl g ((j-1)*202) (bJ xp).toArray rfl rfl ht2 (cF _) (all_oneCell_toArray (cV _)) ?_;simp only[cW,cR];rw[←hw9];refine⟨Or.inr trivial,?_⟩;refine mE (by kernel_rfl) ?_;clear hw9 hw8;have HJW:Hid (J (fR aE L2 j (j-1)) w9):=S.out.turn _ _ _ _ HJ1.out (kW aE L2 (by omega) (by omega)) HSW.out HCW.out;go_wp2
        go_roundw
        case rel=>exact⟨j-1,_,by omega,by go_num,HIJ,HSH,HJW⟩
        case measure=>simp[intOf];omega
      ·have dcc:decide (cc<0)=false:=by simpa using hlv
       have HSR2:Hid (Srt aE key L2 a (i+1)):=HIJ0.out.fin key (.inr (Nat.le_of_not_lt fun h=>hlv (HLS.out.2 h)));clear HLS;go_wp2
       go_roundw
       case rel=>exact⟨i+1,L2,by omega,.inl (by omega),by go_num,HSR2,HSH0,HJ1⟩
       case measure=>simp[intOf];omega
     ·exact absurd trivial hcv
    ·have dj:decide ((j:Int)>(a:Int))=false:=by simp;omega
     have dj2:decide ((a:Int)<(j:Int))=false:=by simp;omega
     have dj3:decide (a<j)=false:=by simp;omega
     have HSR2:Hid (Srt aE key L2 a (i+1)):=HIJ0.out.fin key (.inl (by omega));go_wp2;refine bB (by kernel_rfl) (by kernel_rfl) ?_
     repeat (first
      |go_big_quiet_skip
      |go_big_quiet_step (fail))
     refine wpQuiet_nil ?_;intro _ hw';obtain⟨n',rfl⟩:=hw';have HJ1:=aBO (S.out.ext HJ.out n'.ext);generalize n'.val=W8 at *;go_wp2
     go_roundw
     case rel=>exact⟨i+1,L2,by omega,.inl (by omega),by go_num,HSR2,HSH0,HJ1⟩
     case measure=>simp[intOf];omega
  ·have hlt':¬(i:Int)<(b:Int):=by omega
   have HF:Hid (Srt aE key L1 a b):=by
    by_cases e:i=b
    ·subst e;exact HSR.out
    ·exact Srt.one key _ (by omega)
   go_wp2
   go_end0
   exact⟨rfl,L1,HJ1.out,HSH1.out,HF.out⟩
end
end Go.Proofs.YtblhmdhfhaencaaGreat
