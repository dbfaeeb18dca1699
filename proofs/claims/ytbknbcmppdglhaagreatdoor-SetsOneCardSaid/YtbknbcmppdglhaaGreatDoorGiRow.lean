/-
 sets.Needs.
-/
import Derived.Test.YtbknbcmppdglhaaGreatDoorA0
import Derived.Test.YtbknbcmppdglhaaGreatDoorVR
import Derived.Test.YtbknbcmppdglhaaGreatDoorVP
import Derived.Test.YtbknbcmppdglhaaGreatDoorQT
import Derived.Test.YtbknbcmppdglhaaGreatDoorOwnR
import Derived.Test.YtbknbcmppdglhaaGreatDoorSC
import Derived.Test.YtbknbcmppdglhaaGreatDoorSortI
import Derived.Test.YtbknbcmppdglhaaGreatDoorUD
import Derived.Test.YtbknbcmppdglhaaGreatDoorTH
import Derived.Deep.LoopGhost
import Derived.BigRegion
import Derived.Deep.MidRow
namespace Go.Proofs.YtbknbcmppdglhaaGreatDoor
set_option linter.unusedSimpArgs false
set_option linter.unusedVariables false
set_option linter.unusedSectionVars false
set_option maxRecDepth 100000
set_option maxHeartbeats 40000000
section
open Go.RowKit Go.Shelf
attribute [local go_sem] Oper.semAt_some iF gH gS fX
def sc(ps:List Int)(bs:List iA)(ls:List iN)(k:Int)(w:World)(e:Ending)(w':World):Prop:=
 ∃v:Value,e=.returned (.tuple #[v,.int .i64 (ofE ps bs (fI ls) k)])/\gD w' w.heap.size v (sl ps bs (fI ls) k)/\Below w.heap.size w w'
theorem ZW(pa:Option Addr)(pn pc:Nat)(ps:List Int)(ba:Option Addr)(bn bc:Nat)(bs:List iA)(ta:Option Addr)(tn tc:Nat)(ls:List iN)(k:Int)(w:World)(hp:iJ w pa pn ps)(h:lY w ba bn bs)(ht:iY w ta tn ls)(hL:qY (fI ls)<=1000000)(hT:Tab w)(hk:I64 k):
  Calls Tryz.prog 13 #[mB pa pn pc ba bn bc,.slice ta tn tc,.int .i64 k] w (sc ps bs ls k w):=by
 have HPI:=ac hp
 have HB:=ac h
 have HTL:=ac ht
 have HTOT:=ac hL
 have HTB:=ac hT
 have HK:=ac hk
 clear hp h ht hL hT hk
 go_enter Tryz.func13,Tryz.ntmps13
 go_upto_region 1 with (fail)
 obtain⟨w0,hw0⟩:∃w0,w0=w.alloc (gX pa pn pc ba bn bc):=⟨_,rfl⟩
 rw[<-hw0]
 have HB0:Hid (Below w.heap.size w w0):=by rw[hw0];exact fD _ _
 have HF0:Hid (w0.heap[w.heap.size]? =some (gX pa pn pc ba bn bc)):=by rw[hw0];exact ae _ _
 clear hw0
 have hmm:= @run_makeMap Tryz.prog
 go_upto_region 3 with (first
  |(refine ay (o:=⟨some 12,.load 25 _,_,_,_,_⟩) rfl 25 _ rfl w.heap.size rfl 25 _ (0,0) _ HF0.out aJ rfl gE ?_)
  |(go_at_call 11
    refine(QS pa pn pc ps ba bn bc bs ta tn tc ls k w0 (HPI.out.ext HB0.out) (HB.out.ext HB0.out) (HTL.out.ext HB0.out) HTOT.out (HTB.out.ext HB0.out) HK.out).mono ?_;rintro e w1 ⟨v,rfl,ho,hb1⟩;obtain⟨a0,c0,e0⟩:=(ho 0 (by omega)).form;obtain⟨a1,c1,e1⟩:=(ho 1 (by omega)).form;obtain⟨a2,c2,e2⟩:=(ho 2 (by omega)).form;obtain⟨a3,c3,e3⟩:=(ho 3 (by omega)).form;obtain⟨a4,c4,e4⟩:=(ho 4 (by omega)).form;obtain⟨a5,c5,e5⟩:=(ho 5 (by omega)).form;obtain⟨a6,c6,e6⟩:=(ho 6 (by omega)).form
    replace e1:v 1=.slice a1 (ofM ps bs (fI ls) k).defs.length c1:=e1
    replace e2:v 2=.slice a2 (ofM ps bs (fI ls) k).live.length c2:=e2
    have HO1:Hid (gD w1 w0.heap.size (.slice a1 (ofM ps bs (fI ls) k).defs.length c1) (ofM ps bs (fI ls) k).defs):=(by rw[Hid,<-e1];exact ho 1 (by omega))
    have HO2:Hid (gD w1 w0.heap.size (.slice a2 (ofM ps bs (fI ls) k).live.length c2) (ofM ps bs (fI ls) k).live):=(by rw[Hid,<-e2];exact ho 2 (by omega))
    generalize ((ofM ps bs (fI ls) k).rows.getD 0 []).length=l0 at e0;generalize ((ofM ps bs (fI ls) k).rows.getD 3 []).length=l3 at e3;generalize ((ofM ps bs (fI ls) k).rows.getD 4 []).length=l4 at e4;generalize ((ofM ps bs (fI ls) k).rows.getD 5 []).length=l5 at e5;generalize ((ofM ps bs (fI ls) k).rows.getD 6 []).length=l6 at e6;simp only[e0,e1,e2,e3,e4,e5,e6];have HB1:=ac (fC HB0.out hb1)
    clear hb1 ho e0 e1 e2 e3 e4 e5 e6))
 clear hmm
 obtain⟨LL,hLL⟩:∃LL,LL=(ofM ps bs (fI ls) k).live:=⟨_,rfl⟩
 obtain⟨DD,hDD⟩:∃DD,DD=(ofM ps bs (fI ls) k).defs:=⟨_,rfl⟩
 have HND:Hid (sl ps bs (fI ls) k=kS (LL++DD)):=by rw[hLL,hDD];rfl
 have HVR:Hid (∀y∈LL++DD,1<=y/\y<=200):=by
  rw[hLL,hDD];intro y hy;unfold ofM at hy
  split at hy
  .rcases ax.1 hy with h1|h1
   .have:=uC.1 h1;exact⟨this.1,this.2.1⟩
   .have:=uC.1 h1;exact⟨this.1,this.2.1⟩
  .cases hy
 rw[<-hLL,<-hDD]
 rw[<-hLL] at HO2
 rw[<-hDD] at HO1
 clear hLL hDD
 obtain⟨wa,hwa⟩:∃wa,wa=w1.alloc (.cells #[.slice a0 l0 c0,.slice a1 DD.length c1,.slice a2 LL.length c2,.slice a3 l3 c3,.slice a4 l4 c4,.slice a5 l5 c5,.slice a6 l6 c6] 39):=⟨_,rfl⟩
 rw[<-hwa]
 have hsa:wa.heap.size=w1.heap.size+1:=by rw[hwa];simp
 have hba:Below w1.heap.size w1 wa:=by rw[hwa];exact fD _ _
 have hoa:wa.heap[w1.heap.size]? =some (.cells #[.slice a0 l0 c0,.slice a1 DD.length c1,.slice a2 LL.length c2,.slice a3 l3 c3,.slice a4 l4 c4,.slice a5 l5 c5,.slice a6 l6 c6] 39 (0,0)):=by rw[hwa];exact ae _ _
 obtain⟨w2,hw2⟩:∃w2,w2=wa.alloc (.map #[] 0):=⟨_,rfl⟩
 rw[<-hw2]
 have hm2:jU w2 (w1.heap.size+1) λ_=>False:=by rw[hw2,<-hsa];exact⟨[],oB.made _ _ _ _,λy=>by simp⟩
 have hb2:Below w1.heap.size w1 w2:=by rw[hw2];exact fC hba (fD _ _)
 have ho2:=fB (show Below wa.heap.size wa w2 by rw[hw2];exact fD _ _) hoa
 have HM2:=ac hm2
 have HB2:=ac (fC HB1.out hb2)
 have HL2:=ac (HO2.out.ints.ext hb2)
 have HD2:=ac (HO1.out.ints.ext hb2)
 have HLW:Hid (w.heap.size<=w1.heap.size):=HB1.out.size
 obtain⟨-,h1,h2⟩:=TO ho2 rfl
 have hl:=fE ho2
 clear hwa hsa hba hoa hw2 hm2 hb2 ho2 HO1 HO2
 generalize w1.heap.size=P8 at*
 go_wp2_with (first
  |(go_at_call 37
    refine(oI (P8+1) _ a1 _ c1 DD w4 HV4.out HD4.out).mono ?_;rintro e w5 ⟨rfl,hv5,hg5⟩;have HV5:=ac hv5;have HC5:=ac (lR hg5)
    clear hv5 hg5 h14)
  |(go_at_call 37
    refine(oI (P8+1) _ a2 _ c2 LL w2 HM2.out HL2.out).mono ?_;rintro e w4 ⟨rfl,hv4,hg4⟩;have hck:=CK.map HM2.out (lR hg4);have h14:=hck _ _ _ h1;have hl4:P8<w4.heap.size:=bw hl (lR hg4).size;have HV4:=ac hv4;have HD4:=ac (HD2.out.ck hck);have HC4:=ac (lR hg4)
    clear hv4 hg4 hck h1 h2)
  |(go_at_call 38
    refine(pK (P8+1) _ (LL++DD) w5 HV5.out (λy=>by rw[ax];simp) HVR.out).mono ?_;rintro e w6 ⟨v,rfl,ho,hb6⟩;have HO6:=ac ho;have HB6:=ac hb6
    clear ho hb6))
 refine aR (v:=.tuple #[v,.int .i64 (ofE ps bs (fI ls) k)]) (by simp[results,Tryz.results13,go_sem]) rfl ?_
 have hc:Chg (λj=>j=P8+1) w2 w5:=HC4.out.trans HC5.out
 have hlw:=HLW.out
 have hb5:Below w.heap.size w w5:=⟨hc.os.trans HB2.out.os,hc.tape.trans HB2.out.tape,hc.output.trans HB2.out.output,aT HB2.out.size hc.size,λq hq=>(hc.block q (bw hq HB2.out.size) (by omega)).trans (HB2.out.block q hq)⟩
 exact⟨v,rfl,by rw[HND.out];exact HO6.out.mono hb5.size,fC hb5 HB6.out⟩
end

section
open Go.RowKit Go.Shelf
attribute [local go_sem] Oper.semAt_some iF gH gS fX
theorem Bf(g1 g2 g5:Nat):ofE [] (CG g1 g2) (fI (rH g5)) 1=0/\ofM [] (CG g1 g2) (fI (rH g5)) 1=⟨[1,2],[2],[1,2],[],[1],[1],[]⟩:=⟨by kernel_rfl,by kernel_rfl⟩
theorem VY(g1 g2 g5:Nat):ofE [] (CG g1 g2) (fI (rH g5)) 0=0/\sl [] (CG g1 g2) (fI (rH g5)) 0= [1]:=⟨by kernel_rfl,by kernel_rfl⟩
theorem GY(w:World)(hT:Tab w):Calls Tryz.prog 6 #[] w λe w'=>e=.returned (.bool true)/\Below w.heap.size w w':=by
 have HTB:=ac hT
 clear hT
 go_enter Tryz.func6,Tryz.ntmps6
 go_upto_region 2 with (
  (go_at_call 28
   refine(gy w).mono ?_;rintro e w1 ⟨g1,g2,ba,bc,ta,tc,g5,rfl,hbl,htl,hb1⟩;have HBL1:=ac hbl;have HTL1:=ac htl;have HB1:=ac hb1
   clear hbl htl hb1))
 obtain⟨w2,hw2⟩:∃w2,w2=w1.alloc (gX none 0 0 ba 3 bc):=⟨_,rfl⟩
 rw[<-hw2]
 have hx2:Below w1.heap.size w1 w2:=by rw[hw2];exact fD _ _
 have HF2:Hid (w2.heap[w1.heap.size]? =some (gX none 0 0 ba 3 bc)):=by rw[hw2];exact ae _ _
 have HBL2:=ac (HBL1.out.ext hx2)
 have HTL2:=ac (HTL1.out.ext hx2)
 have HB2:=ac (fC HB1.out hx2)
 clear hw2 hx2 HBL1 HTL1 HB1
 generalize w1.heap.size=F at*
 have HPS:∀W:World,iJ W none 0 []:=λW=>⟨rfl,by omega,λk hk=>absurd hk (by omega)⟩
 go_upto_region 3 with (first
  |(refine ay (o:=⟨some 14,.load 25 _,_,_,_,_⟩) rfl 25 _ rfl F rfl 25 _ (0,0) _ HF2.out aJ rfl gE ?_)
  |(go_at_call 11
    refine(QS none 0 0 [] ba 3 bc (CG g1 g2) ta 2 tc (rH g5) 1 w2 (HPS w2) HBL2.out HTL2.out (by show(3:Nat)<=1000000;omega) (HTB.out.ext HB2.out) (by unfold I64;omega)).mono ?_;rintro e w3 ⟨v,he,ho,hb3⟩;rw[(Bf g1 g2 g5).1] at he;subst he;rw[(Bf g1 g2 g5).2] at ho;obtain⟨a0,c0,e0⟩:=(ho 0 (by omega)).form;obtain⟨a1,c1,e1⟩:=(ho 1 (by omega)).form;obtain⟨a2,c2,e2⟩:=(ho 2 (by omega)).form;obtain⟨a3,c3,e3⟩:=(ho 3 (by omega)).form;obtain⟨a4,c4,e4⟩:=(ho 4 (by omega)).form;obtain⟨a5,c5,e5⟩:=(ho 5 (by omega)).form;obtain⟨a6,c6,e6⟩:=(ho 6 (by omega)).form
    replace e0:v 0=.slice a0 2 c0:=e0
    replace e1:v 1=.slice a1 1 c1:=e1
    replace e2:v 2=.slice a2 2 c2:=e2
    replace e3:v 3=.slice a3 0 c3:=e3
    replace e4:v 4=.slice a4 1 c4:=e4
    replace e5:v 5=.slice a5 1 c5:=e5
    replace e6:v 6=.slice a6 0 c6:=e6
    have HI0:Hid (iJ w3 a0 2 [1,2]):=(by have h:=ho 0 (by omega);rw[e0] at h;exact h.ints)
    have HI1:Hid (iJ w3 a1 1 [2]):=(by have h:=ho 1 (by omega);rw[e1] at h;exact h.ints)
    have HI2:Hid (iJ w3 a2 2 [1,2]):=(by have h:=ho 2 (by omega);rw[e2] at h;exact h.ints)
    have HI4:Hid (iJ w3 a4 1 [1]):=(by have h:=ho 4 (by omega);rw[e4] at h;exact h.ints)
    have HI5:Hid (iJ w3 a5 1 [1]):=(by have h:=ho 5 (by omega);rw[e5] at h;exact h.ints)
    simp only[e0,e1,e2,e3,e4,e5,e6];have HBL3:=ac (HBL2.out.ext hb3);have HTL3:=ac (HTL2.out.ext hb3);have HF3:=ac (fB hb3 HF2.out);have HB3:=ac (fC HB2.out hb3)
    clear hb3 ho e0 e1 e2 e3 e4 e5 e6))
 obtain⟨w4,hw4⟩:∃w4,w4=w3.alloc (.cells #[.slice a0 2 c0,.slice a1 1 c1,.slice a2 2 c2,.slice a3 0 c3,.slice a4 1 c4,.slice a5 1 c5,.slice a6 0 c6] 39):=⟨_,rfl⟩
 rw[<-hw4]
 have hx4:Below w3.heap.size w3 w4:=by rw[hw4];exact fD _ _
 have HQ4:Hid (w4.heap[w3.heap.size]? =some (.cells #[.slice a0 2 c0,.slice a1 1 c1,.slice a2 2 c2,.slice a3 0 c3,.slice a4 1 c4,.slice a5 1 c5,.slice a6 0 c6] 39 (0,0))):=by rw[hw4];exact ae _ _
 have HBL4:=ac (HBL3.out.ext hx4)
 have HTL4:=ac (HTL3.out.ext hx4)
 have HF4:=ac (fB hx4 HF3.out)
 have HX4:=ac hx4
 have HB4:=ac (fC HB3.out hx4)
 clear hw4 hx4 HBL2 HTL2 HF2 HB2 HBL3 HTL3 HF3 HB3
 obtain⟨Q,hQ⟩:∃Q,Q=w3.heap.size:=⟨_,rfl⟩
 rw[<-hQ] at HQ4|-
 have HQE:=ac hQ
 clear hQ
 go_upto_region 5 with (first
  |(refine ay (o:=⟨some 20,.load 25 _,_,_,_,_⟩) rfl 25 _ rfl F rfl 25 _ (0,0) _ HF4.out aJ rfl gE ?_)
  |(go_at_call 13
    refine(ZW none 0 0 [] ba 3 bc (CG g1 g2) ta 2 tc (rH g5) 0 w4 (HPS w4) HBL4.out HTL4.out (by show(3:Nat)<=1000000;omega) (HTB.out.ext HB4.out) (by unfold I64;omega)).mono ?_;rintro e w5 ⟨v,he,ho,hb5⟩;rw[(VY g1 g2 g5).1] at he;subst he;rw[(VY g1 g2 g5).2] at ho;obtain⟨a7,c7,e7⟩:=ho.form
    replace e7:v=.slice a7 1 c7:=e7
    subst e7;have HI7:Hid (iJ w5 a7 1 [1]):=ho.ints;have HX5:=ac (fC HX4.out hb5);have HQ5:=ac (fB hb5 HQ4.out);have HB5:=ac (fC HB4.out hb5)
    clear hb5 ho))
 obtain⟨w6,hw6⟩:∃w6,w6=(w5.alloc (.cells #[.int .i64 1,.int .i64 2] 3)).alloc (.cells #[.int .i64 1] 3):=⟨_,rfl⟩
 rw[<-hw6]
 have hx6:Below w5.heap.size w5 w6:=by rw[hw6];exact fC (fD _ _) (fD _ _)
 have HT0:Hid (iJ w6 (some ⟨w5.heap.size,0,none⟩) 2 [1,2]):=by rw[Hid,hw6];exact CR (xs:= [1,2]) (fB (fD _ _) (ae _ _)) rfl (se [1,2]) (by simp)
 have HO0:Hid (iJ w6 (some ⟨w5.heap.size+1,0,none⟩) 1 [1]):=by rw[Hid,hw6];exact CR (xs:= [1]) (iT _ _ _ (by simp)) rfl (se [1]) (by simp)
 have HX6:=ac (fC HX5.out hx6)
 have HQ6:=ac (fB hx6 HQ5.out)
 have HB6:=ac (fC HB5.out hx6)
 have HI76:=ac (HI7.out.ext hx6)
 clear hw6 hx6 HBL4 HTL4 HF4 HB4 HX4 HX5 HQ4 HQ5 HB5 HI7
 generalize w5.heap.size=g7 at*
 have k6:=cK 0 HQ6.out rfl
 go_wp2_with (first
  |(go_at_call 16
    refine(oE a7 (some ⟨g7+1,0,none⟩) 1 1 c7 1 [1] [1] w11 (HI76.out.ext HZ11.out) (HO0.out.ext HZ11.out)).mono ?_;rintro e w' ⟨he,q5,hw'⟩;rw[bS (rfl:([1]:List Int)= [1])] at he;subst he;obtain⟨w12,h7⟩:∃z,z=w':=⟨_,rfl⟩
    rw[<-h7];have hz:Below w11.heap.size w11 w12:=(by rw[h7,hw'];exact gB (ag _ _) _)
    have HZ12:Hid (Below w6.heap.size w6 w12):=fC HZ11.out hz
    clear h7 hz hw')
  |(go_at_call 16
    refine(oE a5 (some ⟨g7+1,0,none⟩) 1 1 c5 1 [1] [1] w10 (HI5.out.ext (fC HX6.out HZ10.out)) (HO0.out.ext HZ10.out)).mono ?_;rintro e w' ⟨he,q4,hw'⟩;rw[bS (rfl:([1]:List Int)= [1])] at he;subst he;obtain⟨w11,h7⟩:∃z,z=w':=⟨_,rfl⟩
    rw[<-h7];have hz:Below w10.heap.size w10 w11:=(by rw[h7,hw'];exact gB (ag _ _) _)
    have HZ11:Hid (Below w6.heap.size w6 w11):=fC HZ10.out hz
    clear h7 hz hw')
  |(go_at_call 16
    refine(oE a4 (some ⟨g7+1,0,none⟩) 1 1 c4 1 [1] [1] w9 (HI4.out.ext (fC HX6.out HZ9.out)) (HO0.out.ext HZ9.out)).mono ?_;rintro e w' ⟨he,q3,hw'⟩;rw[bS (rfl:([1]:List Int)= [1])] at he;subst he;obtain⟨w10,h7⟩:∃z,z=w':=⟨_,rfl⟩
    rw[<-h7];have hz:Below w9.heap.size w9 w10:=(by rw[h7,hw'];exact gB (ag _ _) _)
    have HZ10:Hid (Below w6.heap.size w6 w10):=fC HZ9.out hz;have k10:=cK 5 (fB HZ10.out HQ6.out) rfl
    clear h7 hz hw')
  |(go_at_call 16
    refine(oE a2 (some ⟨g7,0,none⟩) 2 2 c2 2 [1,2] [1,2] w8 (HI2.out.ext (fC HX6.out HZ8.out)) (HT0.out.ext HZ8.out)).mono ?_;rintro e w' ⟨he,q2,hw'⟩;rw[bS (rfl:([1,2]:List Int)= [1,2])] at he;subst he;obtain⟨w9,h7⟩:∃z,z=w':=⟨_,rfl⟩
    rw[<-h7];have hz:Below w8.heap.size w8 w9:=(by rw[h7,hw'];exact gB (ag _ _) _)
    have HZ9:Hid (Below w6.heap.size w6 w9):=fC HZ8.out hz;have k9:=cK 4 (fB HZ9.out HQ6.out) rfl
    clear h7 hz hw')
  |(go_at_call 16
    refine(oE a1 (some ⟨w7.heap.size,0,none⟩) 1 1 c1 1 [2] [2] (w7.alloc (.cells #[.int .i64 2] 3)) ((HI1.out.ext (fC HX6.out HZ7.out)).ext (fD _ _)) (CR (xs:= [2]) (ae _ _) rfl (se [2]) (by simp))).mono ?_;rintro e w' ⟨he,q1,hw'⟩;rw[bS (rfl:([2]:List Int)= [2])] at he;subst he;obtain⟨w8,h7⟩:∃z,z=w':=⟨_,rfl⟩
    rw[<-h7];have hz:Below w7.heap.size w7 w8:=(by rw[h7,hw'];exact gB (fD _ _) _)
    have HZ8:Hid (Below w6.heap.size w6 w8):=fC HZ7.out hz;have k8:=cK 2 (fB HZ8.out HQ6.out) rfl
    clear h7 hz hw')
  |(go_at_call 16
    refine(oE a0 (some ⟨g7,0,none⟩) 2 2 c0 2 [1,2] [1,2] w6 (by have h:=HI0.out.ext (show Below w3.heap.size w3 w6 from HX6.out);exact h) (HT0.out)).mono ?_;rintro e w' ⟨he,q0,hw'⟩;rw[bS (rfl:([1,2]:List Int)= [1,2])] at he;subst he;obtain⟨w7,h7⟩:∃z,z=w':=⟨_,rfl⟩
    rw[<-h7];have hz:Below w6.heap.size w6 w7:=(by rw[h7,hw'];exact gB (ag _ _) _)
    have HZ7:Hid (Below w6.heap.size w6 w7):=hz;have k7:=cK 1 (fB HZ7.out HQ6.out) rfl
    clear h7 hz hw'))
 go_ret
 exact⟨rfl,fC HB6.out HZ12.out⟩
end

section
open Go.RowKit
def AZ(x y:Int):Int:=if x<y then -1 else if y<x then 1 else 0
def orV:List Int->Int
 | []=>0
 |x :: l=>if x=0 then orV l else x
theorem lm:∀(l:List Int) (k:Nat),k<l.length->(∀j,j<k->l.getD j 0=0)->l.getD k 0≠0->orV l=l.getD k 0
 |x :: l,0,_,_,h=>by simp only[orV,br] at h|-;rw[az h]
 |x :: l,k+1,hk,h0,h=>by
  have h1:x=0:=by have:=h0 0 (by omega);simpa using this
  rw[orV,aM h1,bq];exact lm l k (by simpa using hk) (λj hj=>by have:=h0 (j+1) (by omega);simpa using this) (by simpa using h)
theorem UY:∀(l:List Int),(∀j,j<l.length->l.getD j 0=0)->orV l=0
 | [],_=>rfl
 |x :: l,h=>by
  have h1:x=0:=by have:=h 0 (by simp);simpa using this
  rw[orV,aM h1];exact UY l λj hj=>by have:=h (j+1) (by simpa using hj);simpa using this
theorem FB(x:Int)(w:World):Calls Tryz.prog 156 #[.int .i64 x] w λe w'=>e=.returned (.bool false)/\w=w':=by
 go_enter Tryz.func156,Tryz.ntmps156
 go_wp2
 go_ret
 exact⟨rfl,rfl⟩
theorem GT(x y:Int)(w:World):Calls Tryz.prog 61 #[.int .i64 x,.int .i64 y] w λe w'=>e=.returned (.int .i64 (AZ x y))/\w=w':=by
 by_cases h1:x<y
 .have HE:Hid (AZ x y= -1):=by rw[Hid,AZ,aM h1]
  go_enter Tryz.func61,Tryz.ntmps61
  go_wp2_with (go_at_call 156;refine(FB _ _).mono ?_;rintro e w1 ⟨rfl,rfl⟩)
  go_ret
  exact⟨by rw[HE.out];rfl,rfl⟩
 .by_cases h2:y<x
  .have HE:Hid (AZ x y=1):=by rw[Hid,AZ,az h1,aM h2]
   go_enter Tryz.func61,Tryz.ntmps61
   go_wp2_with (go_at_call 156;refine(FB _ _).mono ?_;rintro e w1 ⟨rfl,rfl⟩)
   go_ret
   exact⟨by rw[HE.out];rfl,rfl⟩
  .have HE:Hid (AZ x y=0):=by rw[Hid,AZ,az h1,az h2]
   go_enter Tryz.func61,Tryz.ntmps61
   go_wp2_with (go_at_call 156;refine(FB _ _).mono ?_;rintro e w1 ⟨rfl,rfl⟩)
   go_ret
   exact⟨by rw[HE.out];rfl,rfl⟩
theorem re(a:Option Addr)(n c:Nat)(xs:List Int)(w:World)(h:iJ w a n xs):Calls Tryz.prog 60 #[.slice a n c] w λe w'=>e=.returned (.int .i64 (orV xs))/\w=w':=by
 obtain⟨hl,hn,hc⟩:=h
 have HL:=ac hl
 have HC:=ac hc
 clear hl hc
 go_enter Tryz.func60,Tryz.ntmps60
 go_wp2
 go_loopw [5,8] (λ_ i wr=>∃(k:Nat),k<=n/\i=.int .i64 k/\wr=w/\Hid (∀j,j<k->xs.getD j 0=0)) (λ_ i _=>n-(intOf i).toNat)
 case atStart=>exact⟨0,by omega,rfl,rfl,λj hj=>absurd hj (by omega)⟩
 case round=>
  obtain⟨k,hk,rfl,rfl,HR⟩:=hrel;by_cases hlt:k<n
  .have hlt':(k:Int)<(n:Int):=by omega
   obtain⟨b,o,rfl,hcell,_⟩:=HC.out k hlt;by_cases he:xs.getD k 0=0
   .have HE:Hid (∀j,j<k+1->xs.getD j 0=0):=λj hj=>by
     by_cases hjk:j=k
     .subst hjk;exact he
     .exact HR.out j (by omega)
    rw[he] at hcell;clear he;go_wp2
    go_roundw
    case rel=>exact⟨k+1,by omega,by go_num,trivial,HE⟩
    case measure=>simp[intOf];omega
   .have HE:Hid (orV xs=xs.getD k 0):=lm xs k (by rw[HL.out];exact hlt) HR.out he;have hne:(xs.getD k 0 != 0)=true:=by simpa using he
    generalize xs.getD k 0=y at *;go_wp2
    go_ret
    exact⟨by rw[HE.out];rfl,rfl⟩
  .have hlt':¬(k:Int)<(n:Int):=by omega
   have HE:Hid (orV xs=0):=UY xs λj hj=>HR.out j (by rw[HL.out] at hj;omega);go_wp2
   go_ret
   exact⟨by rw[HE.out];rfl,rfl⟩
theorem B6(a b x y:Int):orV [AZ a b,AZ x y]<0↔a<b\/a=b/\x<y:=by
 simp only[orV,AZ]
 repeat' split
 all_goals omega
end

section
open Go.RowKit Go.Shelf
def gJ(p:fJ):List Value:=(gK p.s).toList++ [.int .i64 p.kind,.int .i64 p.entry]
theorem kC(p:fJ):(gJ p).length=202:=by simp[gJ,fO]
theorem iO(p:fJ):∀v∈gJ p,v.oneCell'=true:=by
 intro v hv
 rcases ax.1 hv with h|h
 .have:=mR p.s;rw[eN] at this;exact this v (by simpa using h)
 .simp only[aS,bO,cX] at h;rcases h with rfl|rfl<;>rfl
abbrev pX(p:fJ):Value:=.agg (gJ p).toArray
theorem jG(l:List Value):l.toArray.toList=l:=rfl
theorem OC:(Tryz.prog.info? 142).map (·.size)=some 202:=by kernel_rfl
theorem hX(p:fJ):(Tryz.prog.info? 142).map (·.size)=some (gJ p).length:=by rw[kC];exact OC
theorem hZ(p:fJ):(Tryz.prog.info? 142).map (·.size)=some (gJ p).toArray.size:=by rw[bd];exact hX p
def gP(W:World)(base:Nat)(v:Value)(L:List fJ):Prop:=iP 142 202 gJ W base v L
section
variable {W W':World} {base g n c:Nat} {L:List fJ}
theorem gP.len(h:gP W base (.slice (some ⟨g,0,none⟩) n c) L):L.length=n:=by
 obtain⟨_,_,e⟩:=iP.form h
 injection e with _ e _
 exact e.symm
theorem gP.ext{v:Value}(h:gP W base v L)(hb:Below W.heap.size W W'):gP W' base v L:=iP.ext h hb
theorem gP.drew{v:Value}(h:gP W base v L):gP W.drew base v L:=h.ext (gB (ag _ _) 1)
theorem jP(h:gP W base (.slice (some ⟨g,0,none⟩) n c) L){k:Nat}(hk:k<n):W.rangeAt g (k*202) (gJ (L.getD k fH)):=iP.range kC h fH (by rw[h.len];exact hk)
theorem pA(h:gP W base (.slice (some ⟨g,0,none⟩) n c) L){k:Nat}(hk:k<n)(p:fJ):W.there g (k*202) (gJ p).toArray.size:=by
 rw[bd,kC]
 exact iP.there kC h (by rw[h.len];exact hk)
theorem sU(h:gP W base (.slice (some ⟨g,0,none⟩) n c) L){k:Nat}(hk:k<n)(p:fJ):gP (W.setCells g (k*202) (gJ p)) base (.slice (some ⟨g,0,none⟩) n c) (L.set k p):=iP.setAt kC h (by rw[h.len];exact hk) p
end
theorem NE(g n c a b m base:Nat)(fv:Value)(L:List fJ)(w:World)(h:gP w base (.slice (some ⟨g,0,none⟩) n c) L)(hn:n<=1000000)(hab:a+m<=b)(hbm:b+m<=n):
  Calls Tryz.prog 269 #[.slice (some ⟨g,0,none⟩) n c,.int .i64 (a:Int),.int .i64 (b:Int),.int .i64 (m:Int),fv] w λe w'=>e=.returned (.tuple #[])/\
   ∃L',gP w' base (.slice (some ⟨g,0,none⟩) n c) L'/\Sh fH L L' a (b+m)/\(∀k,L'.getD k fH=sQ (λk=>L.getD k fH) a b m k)/\Chg (λk=>k=g) w w':=by
 have H:=ac h
 clear h
 go_enter Tryz.func269,Tryz.ntmps269
 go_wp2
 go_loopw [10] (λs10 wr=>∃(i:Nat) (L1:List fJ),i<=m/\s10=.int .i64 (i:Int)/\Hid (gP wr base (.slice (some ⟨g,0,none⟩) n c) L1/\Sh fH L L1 a (b+m)/\(∀k,L1.getD k fH=sQ (λk=>L.getD k fH) a b i k)/\Chg (λk=>k=g) w wr)) (λs10 _=>m-(intOf s10).toNat)
 case atStart=>exact⟨0,L,by omega,by go_num,H.out,Sh.refl _ _ _,λk=>by rw[ZN],Chg.refl _ _⟩
 case round=>
  obtain⟨i,L1,hi,rfl,HJ⟩:=hrel;by_cases hlt:i<m
  .have hlt':(i:Int)<(m:Int):=by omega
   have h1:=HJ.out.1.drew;have hr1:=jP h1 (k:=a+i) (by omega);have hr2:=jP h1 (k:=b+i) (by omega);have ht1:=pA h1 (k:=a+i) (by omega) (L1.getD (b+i) fH);have h2:=sU h1 (k:=a+i) (by omega) (L1.getD (b+i) fH);have ht2:=pA h2 (k:=b+i) (by omega) (L1.getD (a+i) fH);have h3:=sU h2 (k:=b+i) (by omega) (L1.getD (a+i) fH);have hlen:=HJ.out.1.len;have HJ2:Hid (gP ((wr.drew.setCells g ((a+i)*202) (gJ (L1.getD (b+i) fH))).setCells g ((b+i)*202) (gJ (L1.getD (a+i) fH))) base (.slice (some ⟨g,0,none⟩) n c) (mA fH L1 (a+i) (b+i))/\Sh fH L (mA fH L1 (a+i) (b+i)) a (b+m)/\(∀k,(mA fH L1 (a+i) (b+i)).getD k fH=sQ (λk=>L.getD k fH) a b (i+1) k)/\Chg (λk=>k=g) w ((wr.drew.setCells g ((a+i)*202) (gJ (L1.getD (b+i) fH))).setCells g ((b+i)*202) (gJ (L1.getD (a+i) fH)))):=by
    refine⟨h3,HJ.out.2.1.trans (Sh.swap L1 (by omega) (by omega) (by omega)),λk=>?_,lC (S:=λk=>k=g) rfl _ _ _ (lC (S:=λk=>k=g) rfl _ _ _ (HJ.out.2.2.2.drewN 1))⟩;rw[wC fH L1 (by omega) (by omega),<-ZO _ _ _ _ (by omega),HJ.out.2.2.1,HJ.out.2.2.1,HJ.out.2.2.1]
   clear h1 h2 h3 HJ;generalize L1.getD (a+i) fH=x at *;generalize L1.getD (b+i) fH=y at *;go_wp2;obtain⟨w8,hw8⟩:∃w8,w8=wr.drew.setCells g ((a+i)*202) (gJ y):=⟨_,rfl⟩
   rw[<-hw8] at HJ2 ht2;obtain⟨w9,hw9⟩:∃w9,w9=w8.setCells g ((b+i)*202) (gJ x):=⟨_,rfl⟩
   rw[<-hw9] at HJ2;refine rG (λ_=>True) (by kernel_rfl) ?_;refine gR 0 13 (by kernel_rfl) trivial ?_;simp only[ap,aD,am,aw]
   repeat (go_big_quiet_step (fail))
   refine aq ?_;refine gR 14 5 (by kernel_rfl) trivial ?_;simp only[ap,aD,am,aw]
   repeat (go_big_quiet_step (fail))
   refine aq ?_;refine NQ 13 19 (by kernel_rfl) ?_ ?_
   .refine fF rfl rfl ?_;refine cp 142 _ rfl g ((b+i)*202) rfl (gJ y) _ hr2 bm rfl (hX _) ?_;refine⟨Or.inr trivial,?_⟩;simp only[zJ,zG,zH,zI];refine jD 19 (by kernel_rfl) ?_;refine fF rfl rfl ?_;refine cp 142 _ rfl g ((a+i)*202) rfl (gJ x) _ hr1 bm rfl (hX _) ?_;refine⟨Or.inr trivial,?_⟩;simp only[zJ,zG,zH,zI];refine gR 20 1 (by kernel_rfl) trivial ?_;simp only[ap,aD,am,aw]
    repeat (go_big_quiet_step (fail))
    refine aq ?_;refine jD 21 (by kernel_rfl) ?_;refine fF rfl rfl ?_;refine dh 142 _ _ rfl g ((a+i)*202) (gJ y).toArray rfl rfl ht1 (hZ _) (bH (iO _)) ?_;simp only[kN,jG];rw[<-hw8];refine⟨Or.inr trivial,?_⟩;refine gR 22 1 (by kernel_rfl) trivial ?_;simp only[ap,aD,am,aw]
    repeat (go_big_quiet_step (fail))
    refine aq ?_;refine jD 23 (by kernel_rfl) ?_;refine fF rfl rfl ?_;refine dh 142 _ _ rfl g ((b+i)*202) (gJ x).toArray rfl rfl ht2 (hZ _) (bH (iO _)) ?_;simp only[kN,jG];refine⟨Or.inr trivial,?_⟩;rw[<-hw9];refine oO (by kernel_rfl) ?_;clear hw9 hw8;go_wp2
    go_roundw
    case rel=>exact⟨i+1,_,by omega,by go_num,HJ2⟩
    case measure=>simp[intOf];omega
   .refine fF rfl rfl ?_;refine cp 142 _ rfl g ((a+i)*202) rfl (gJ x) _ hr1 bm rfl (hX _) ?_;refine⟨Or.inr trivial,?_⟩;simp only[zJ,zG,zH,zI];refine jD 13 (by kernel_rfl) ?_;refine fF rfl rfl ?_;refine cp 142 _ rfl g ((b+i)*202) rfl (gJ y) _ hr2 bm rfl (hX _) ?_;refine⟨Or.inr trivial,?_⟩;simp only[zJ,zG,zH,zI];refine gR 20 1 (by kernel_rfl) trivial ?_;simp only[ap,aD,am,aw]
    repeat (go_big_quiet_step (fail))
    refine aq ?_;refine jD 21 (by kernel_rfl) ?_;refine fF rfl rfl ?_;refine dh 142 _ _ rfl g ((a+i)*202) (gJ y).toArray rfl rfl ht1 (hZ _) (bH (iO _)) ?_;simp only[kN,jG];rw[<-hw8];refine⟨Or.inr trivial,?_⟩;refine gR 22 1 (by kernel_rfl) trivial ?_;simp only[ap,aD,am,aw]
    repeat (go_big_quiet_step (fail))
    refine aq ?_;refine jD 23 (by kernel_rfl) ?_;refine fF rfl rfl ?_;refine dh 142 _ _ rfl g ((b+i)*202) (gJ x).toArray rfl rfl ht2 (hZ _) (bH (iO _)) ?_;simp only[kN,jG];refine⟨Or.inr trivial,?_⟩;rw[<-hw9];refine oO (by kernel_rfl) ?_;clear hw9 hw8;go_wp2
    go_roundw
    case rel=>exact⟨i+1,_,by omega,by go_num,HJ2⟩
    case measure=>simp[intOf];omega
  .obtain rfl:i=m:=by omega
   go_wp2
   go_end0
   exact⟨rfl,L1,HJ.out.1,HJ.out.2.1,HJ.out.2.2.1,HJ.out.2.2.2⟩
theorem uL(g n c a b m base:Nat)(za zb zm:Int)(fv:Value)(L:List fJ)(w:World)(h:gP w base (.slice (some ⟨g,0,none⟩) n c) L)(hn:n<=1000000)(ha:za=(a:Int))(hb:zb=(b:Int))(hm:zm=(m:Int))(hab:a+m<=b)(hbm:b+m<=n):
  Calls Tryz.prog 269 #[.slice (some ⟨g,0,none⟩) n c,.int .i64 za,.int .i64 zb,.int .i64 zm,fv] w λe w'=>e=.returned (.tuple #[])/\
   ∃L',gP w' base (.slice (some ⟨g,0,none⟩) n c) L'/\Sh fH L L' a (b+m)/\(∀k,L'.getD k fH=sQ (λk=>L.getD k fH) a b m k)/\Chg (λk=>k=g) w w':=by
 subst ha hb hm
 exact NE g n c a b m base fv L w h hn hab hbm
end

section
open Go.RowKit
section
variable {P:Program} {F:Fence} {n:Nat} {op:Oper} {a:Act} {w:World} {K:Act->World->Prop} {Q:Exit->Act->World->Prop}
theorem sL(ty:TypeId)(x:Operand)(ho:op.op=.load ty x)
  (g:Nat) (hx:a.eval x=.pointer (some ⟨g,0,none⟩)) (t:TypeId) (cs:Array Value) (fr:Nat×Nat) (d:TypeDesc) (hg:w.heap[g]? =some (.cells cs t fr))
  (hu:P.underlying ty=some d) (hd:(match d with| .struct _| .array _ _=>true|_=>false)=true) (hi:(P.info? ty).map (·.size)=some cs.size)
  (h:K (a.put op.dst (.agg cs)) w):op.wpIn F n P a w K Q:=by
 refine⟨λf hf=>by simp[Oper.about,ho] at hf,?_⟩
 rw[Oper.semAt_eq _ _ _ (by simp[ho])]
 unfold execOp
 simp only[ho,hx,Instr.loadAt,Instr.sureAddr,b7,dw,b8,cQ w g t ty cs fr d hg hu hd hi]
 exact h
theorem AC(ty:TypeId)(x y:Operand)(ho:op.op=.store ty x y)
  (g:Nat) (cells:Array Value) (hx:a.eval x=.pointer (some ⟨g,0,none⟩)) (hy:a.eval y=.agg cells)
  (t:TypeId) (old:Array Value) (hg:w.heap[g]? =some (.cells old t (0,0))) (hi:(P.info? ty).map (·.size)=some cells.size)
  (hold:old.size=cells.size) (h1:cells.all (·.oneCell')=true)
  (h:K (a.put op.dst undef) (w.setRow g cells)):op.wpIn F n P a w K Q:=by
 refine⟨λf hf=>by simp[Oper.about,ho] at hf,?_⟩
 rw[Oper.semAt_eq _ _ _ (by simp[ho])]
 unfold execOp
 simp only[ho,hx,hy,Instr.storeAt,Instr.sureAddr,b7,dw,b8,run_storeVar_row w g t ty old cells hg hi hold h1]
 exact h
end
end
end Go.Proofs.YtbknbcmppdglhaaGreatDoor
