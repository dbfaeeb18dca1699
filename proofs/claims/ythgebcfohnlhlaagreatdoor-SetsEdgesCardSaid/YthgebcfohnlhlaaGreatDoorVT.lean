/-
 sets.Needs.
-/
import Derived.Test.YthgebcfohnlhlaaGreatDoorVR
import Derived.Test.YthgebcfohnlhlaaGreatDoorWF
import Derived.Test.YthgebcfohnlhlaaGreatDoorMark
import Derived.Test.YthgebcfohnlhlaaGreatDoorFreeL
import Derived.Test.YthgebcfohnlhlaaGreatDoorLentI
import Derived.Test.YthgebcfohnlhlaaGreatDoorSameG
import Derived.Test.YthgebcfohnlhlaaGreatDoorPA
import Derived.Test.YthgebcfohnlhlaaGreatDoorNR
import Derived.Deep.Onto
namespace Go.Proofs.YthgebcfohnlhlaaGreatDoor
set_option linter.unusedSimpArgs false
set_option linter.unusedVariables false
set_option linter.unusedSectionVars false
set_option maxRecDepth 100000
set_option maxHeartbeats 40000000
section
open Go.RowKit Go.Shelf
attribute [local go_sem] Oper.semAt_some wide_fn wide_depth wide_fnR wide_depthR
def NeedsPost(ps:List Int)(bs:List BlkR)(ls:List TileR)(k:Int)(w:World)(e:Ending)(w':World):Prop:=
 ∃v:Value,e=.returned (.tuple #[v,.int .i64 (ofE ps bs (tdOf ls) k)])∧OwnI w' w.heap.size v (needM ps bs (tdOf ls) k)∧Below w.heap.size w w'
theorem sNeeds_any(pa:Option Addr)(pn pc:Nat)(ps:List Int)(ba:Option Addr)(bn bc:Nat)(bs:List BlkR)(ta:Option Addr)(tn tc:Nat)(ls:List TileR)(k:Int)(w:World)(hp:Ints w pa pn ps)(h:BlksR w ba bn bs)(ht:TilesOK w ta tn ls)(hL:totL (tdOf ls)≤1000000)(hT:Tab w)(hk:I64 k):
  Calls Tryz.prog 15 #[funcV pa pn pc ba bn bc,.slice ta tn tc,.int .i64 k] w (NeedsPost ps bs ls k w):=by
 have HPI:=Lib.hid hp
 have HB:=Lib.hid h
 have HTL:=Lib.hid ht
 have HTOT:=Lib.hid hL
 have HTB:=Lib.hid hT
 have HK:=Lib.hid hk
 clear hp h ht hL hT hk
 go_enter Tryz.func15,Tryz.ntmps15
 go_upto_region 1 with (fail)
 obtain⟨w0,hw0⟩:∃w0,w0=w.alloc (funcO pa pn pc ba bn bc):=⟨_,rfl⟩
 rw[←hw0]
 have HB0:Hid (Below w.heap.size w w0):=by rw[hw0];exact ext_alloc _ _
 have HF0:Hid (w0.heap[w.heap.size]? =some (funcO pa pn pc ba bn bc)):=by rw[hw0];exact heap_alloc_new _ _
 clear hw0
 have hmm:= @run_makeMap Tryz.prog
 go_upto_region 3 with (first
  |(refine wpList_load_row (o:=⟨some 12,.load 25 _,_,_,_,_⟩) rfl 25 _ rfl w.heap.size rfl 25 _ (0,0) _ HF0.out Tryz.underlying25 rfl size_func ?_)
  |(go_at_call 13
    refine(sOf_any pa pn pc ps ba bn bc bs ta tn tc ls k w0 (HPI.out.ext HB0.out) (HB.out.ext HB0.out) (HTL.out.ext HB0.out) HTOT.out (HTB.out.ext HB0.out) HK.out).mono ?_;rintro e w1 ⟨v,rfl,ho,hb1⟩;obtain⟨a0,c0,e0⟩:=(ho 0 (by omega)).form;obtain⟨a1,c1,e1⟩:=(ho 1 (by omega)).form;obtain⟨a2,c2,e2⟩:=(ho 2 (by omega)).form;obtain⟨a3,c3,e3⟩:=(ho 3 (by omega)).form;obtain⟨a4,c4,e4⟩:=(ho 4 (by omega)).form;obtain⟨a5,c5,e5⟩:=(ho 5 (by omega)).form;obtain⟨a6,c6,e6⟩:=(ho 6 (by omega)).form
    replace e1:v 1=.slice a1 (ofM ps bs (tdOf ls) k).defs.length c1:=e1
    replace e2:v 2=.slice a2 (ofM ps bs (tdOf ls) k).live.length c2:=e2
    have HO1:Hid (OwnI w1 w0.heap.size (.slice a1 (ofM ps bs (tdOf ls) k).defs.length c1) (ofM ps bs (tdOf ls) k).defs):=(by rw[Hid,←e1];exact ho 1 (by omega))
    have HO2:Hid (OwnI w1 w0.heap.size (.slice a2 (ofM ps bs (tdOf ls) k).live.length c2) (ofM ps bs (tdOf ls) k).live):=(by rw[Hid,←e2];exact ho 2 (by omega))
    generalize ((ofM ps bs (tdOf ls) k).rows.getD 0 []).length=l0 at e0;generalize ((ofM ps bs (tdOf ls) k).rows.getD 3 []).length=l3 at e3;generalize ((ofM ps bs (tdOf ls) k).rows.getD 4 []).length=l4 at e4;generalize ((ofM ps bs (tdOf ls) k).rows.getD 5 []).length=l5 at e5;generalize ((ofM ps bs (tdOf ls) k).rows.getD 6 []).length=l6 at e6;simp only[e0,e1,e2,e3,e4,e5,e6];have HB1:=Lib.hid (ext_trans HB0.out hb1)
    clear hb1 ho e0 e1 e2 e3 e4 e5 e6))
 clear hmm
 obtain⟨LL,hLL⟩:∃LL,LL=(ofM ps bs (tdOf ls) k).live:=⟨_,rfl⟩
 obtain⟨DD,hDD⟩:∃DD,DD=(ofM ps bs (tdOf ls) k).defs:=⟨_,rfl⟩
 have HND:Hid (needM ps bs (tdOf ls) k=risL (LL++DD)):=by rw[hLL,hDD];rfl
 have HVR:Hid (∀y∈LL++DD,1≤y∧y≤200):=by
  rw[hLL,hDD];intro y hy;unfold ofM at hy
  split at hy
  ·rcases List.mem_append.1 hy with h1|h1
   ·have:=risL_mem.1 h1;exact⟨this.1,this.2.1⟩
   ·have:=risL_mem.1 h1;exact⟨this.1,this.2.1⟩
  ·cases hy
 rw[←hLL,←hDD]
 rw[←hLL] at HO2
 rw[←hDD] at HO1
 clear hLL hDD
 obtain⟨wa,hwa⟩:∃wa,wa=w1.alloc (.cells #[.slice a0 l0 c0,.slice a1 DD.length c1,.slice a2 LL.length c2,.slice a3 l3 c3,.slice a4 l4 c4,.slice a5 l5 c5,.slice a6 l6 c6] 39):=⟨_,rfl⟩
 rw[←hwa]
 have hsa:wa.heap.size=w1.heap.size+1:=by rw[hwa];simp
 have hba:Below w1.heap.size w1 wa:=by rw[hwa];exact ext_alloc _ _
 have hoa:wa.heap[w1.heap.size]? =some (.cells #[.slice a0 l0 c0,.slice a1 DD.length c1,.slice a2 LL.length c2,.slice a3 l3 c3,.slice a4 l4 c4,.slice a5 l5 c5,.slice a6 l6 c6] 39 (0,0)):=by rw[hwa];exact heap_alloc_new _ _
 obtain⟨w2,hw2⟩:∃w2,w2=wa.alloc (.map #[] 0):=⟨_,rfl⟩
 rw[←hw2]
 have hm2:VHas w2 (w1.heap.size+1) fun _=>False:=by rw[hw2,←hsa];exact⟨[],SetM.made _ _ _ _,fun y=>by simp⟩
 have hb2:Below w1.heap.size w1 w2:=by rw[hw2];exact ext_trans hba (ext_alloc _ _)
 have ho2:=block_ext (show Below wa.heap.size wa w2 by rw[hw2];exact ext_alloc _ _) hoa
 have HM2:=Lib.hid hm2
 have HB2:=Lib.hid (ext_trans HB1.out hb2)
 have HL2:=Lib.hid (HO2.out.ints.ext hb2)
 have HD2:=Lib.hid (HO1.out.ints.ext hb2)
 have HLW:Hid (w.heap.size≤w1.heap.size):=HB1.out.size
 have h2:w2.cell? ⟨w1.heap.size,2,none⟩=some (.slice a2 LL.length c2):=by rw[cell_of_row _ _ _ _ _ _ ho2];rfl
 have h1:w2.cell? ⟨w1.heap.size,1,none⟩=some (.slice a1 DD.length c1):=by rw[cell_of_row _ _ _ _ _ _ ho2];rfl
 have hl:=lt_of_heap ho2
 clear hwa hsa hba hoa hw2 hm2 hb2 ho2 HO1 HO2
 generalize w1.heap.size=P8 at*
 go_wp2_with (first
  |(go_at_call 51
    refine(sAdd_any (P8+1) _ a1 _ c1 DD w4 HV4.out HD4.out).mono ?_;rintro e w5 ⟨rfl,hv5,hg5⟩;have HV5:=Lib.hid hv5;have HC5:=Lib.hid (chg_of_grown hg5)
    clear hv5 hg5 h14)
  |(go_at_call 51
    refine(sAdd_any (P8+1) _ a2 _ c2 LL w2 HM2.out HL2.out).mono ?_;rintro e w4 ⟨rfl,hv4,hg4⟩;have hck:=CK.map HM2.out (chg_of_grown hg4);have h14:=hck _ _ _ h1;have hl4:P8<w4.heap.size:=Nat.lt_of_lt_of_le hl (chg_of_grown hg4).size;have HV4:=Lib.hid hv4;have HD4:=Lib.hid (HD2.out.ck hck);have HC4:=Lib.hid (chg_of_grown hg4)
    clear hv4 hg4 hck h1 h2)
  |(go_at_call 52
    refine(sList_any (P8+1) _ (LL++DD) w5 HV5.out (fun y=>by rw[List.mem_append];simp) HVR.out).mono ?_;rintro e w6 ⟨v,rfl,ho,hb6⟩;have HO6:=Lib.hid ho;have HB6:=Lib.hid hb6
    clear ho hb6))
 refine bodyPost_ret (v:=.tuple #[v,.int .i64 (ofE ps bs (tdOf ls) k)]) (by simp[results,Tryz.results15,go_sem]) rfl ?_
 have hc:Chg (fun j=>j=P8+1) w2 w5:=HC4.out.trans HC5.out
 have hlw:=HLW.out
 have hb5:Below w.heap.size w w5:=⟨hc.os.trans HB2.out.os,hc.tape.trans HB2.out.tape,hc.output.trans HB2.out.output,Nat.le_trans HB2.out.size hc.size,fun q hq=>(hc.block q (Nat.lt_of_lt_of_le hq HB2.out.size) (by omega)).trans (HB2.out.block q hq)⟩
 exact⟨v,rfl,by rw[HND.out];exact HO6.out.mono hb5.size,ext_trans hb5 HB6.out⟩
end

section
open Go.RowKit Go.Shelf
attribute [local go_sem] Oper.semAt_some wide_fn wide_depth wide_fnR wide_depthR
theorem ex_of(g1 g2 g5:Nat):ofE [] (exBs g1 g2) (tdOf (awTiles g5)) 1=0∧ofM [] (exBs g1 g2) (tdOf (awTiles g5)) 1=⟨[1,2],[2],[1,2],[],[1],[1],[]⟩:=⟨by kernel_rfl,by kernel_rfl⟩
theorem ex_needs(g1 g2 g5:Nat):ofE [] (exBs g1 g2) (tdOf (awTiles g5)) 0=0∧needM [] (exBs g1 g2) (tdOf (awTiles g5)) 0= [1]:=⟨by kernel_rfl,by kernel_rfl⟩
theorem awake19_any(w:World)(hT:Tab w):Calls Tryz.prog 8 #[] w fun e w'=>e=.returned (.bool true)∧Below w.heap.size w w':=by
 have HTB:=Lib.hid hT
 clear hT
 go_enter Tryz.func8,Tryz.ntmps8
 go_upto_region 2 with (
  (go_at_call 31
   refine(looped_any w).mono ?_;rintro e w1 ⟨g1,g2,ba,bc,ta,tc,g5,rfl,hbl,htl,hb1⟩;have HBL1:=Lib.hid hbl;have HTL1:=Lib.hid htl;have HB1:=Lib.hid hb1
   clear hbl htl hb1))
 obtain⟨w2,hw2⟩:∃w2,w2=w1.alloc (funcO none 0 0 ba 3 bc):=⟨_,rfl⟩
 rw[←hw2]
 have hx2:Below w1.heap.size w1 w2:=by rw[hw2];exact ext_alloc _ _
 have HF2:Hid (w2.heap[w1.heap.size]? =some (funcO none 0 0 ba 3 bc)):=by rw[hw2];exact heap_alloc_new _ _
 have HBL2:=Lib.hid (HBL1.out.ext hx2)
 have HTL2:=Lib.hid (HTL1.out.ext hx2)
 have HB2:=Lib.hid (ext_trans HB1.out hx2)
 clear hw2 hx2 HBL1 HTL1 HB1
 generalize w1.heap.size=F at*
 have HPS:∀W:World,Ints W none 0 []:=fun W=>⟨rfl,by omega,fun k hk=>absurd hk (by omega)⟩
 go_upto_region 3 with (first
  |(refine wpList_load_row (o:=⟨some 14,.load 25 _,_,_,_,_⟩) rfl 25 _ rfl F rfl 25 _ (0,0) _ HF2.out Tryz.underlying25 rfl size_func ?_)
  |(go_at_call 13
    refine(sOf_any none 0 0 [] ba 3 bc (exBs g1 g2) ta 2 tc (awTiles g5) 1 w2 (HPS w2) HBL2.out HTL2.out (by show(3:Nat)≤1000000;omega) (HTB.out.ext HB2.out) (by unfold I64;omega)).mono ?_;rintro e w3 ⟨v,he,ho,hb3⟩;rw[(ex_of g1 g2 g5).1] at he;subst he;rw[(ex_of g1 g2 g5).2] at ho;obtain⟨a0,c0,e0⟩:=(ho 0 (by omega)).form;obtain⟨a1,c1,e1⟩:=(ho 1 (by omega)).form;obtain⟨a2,c2,e2⟩:=(ho 2 (by omega)).form;obtain⟨a3,c3,e3⟩:=(ho 3 (by omega)).form;obtain⟨a4,c4,e4⟩:=(ho 4 (by omega)).form;obtain⟨a5,c5,e5⟩:=(ho 5 (by omega)).form;obtain⟨a6,c6,e6⟩:=(ho 6 (by omega)).form
    replace e0:v 0=.slice a0 2 c0:=e0
    replace e1:v 1=.slice a1 1 c1:=e1
    replace e2:v 2=.slice a2 2 c2:=e2
    replace e3:v 3=.slice a3 0 c3:=e3
    replace e4:v 4=.slice a4 1 c4:=e4
    replace e5:v 5=.slice a5 1 c5:=e5
    replace e6:v 6=.slice a6 0 c6:=e6
    have HI0:Hid (Ints w3 a0 2 [1,2]):=(by have h:=ho 0 (by omega);rw[e0] at h;exact h.ints)
    have HI1:Hid (Ints w3 a1 1 [2]):=(by have h:=ho 1 (by omega);rw[e1] at h;exact h.ints)
    have HI2:Hid (Ints w3 a2 2 [1,2]):=(by have h:=ho 2 (by omega);rw[e2] at h;exact h.ints)
    have HI4:Hid (Ints w3 a4 1 [1]):=(by have h:=ho 4 (by omega);rw[e4] at h;exact h.ints)
    have HI5:Hid (Ints w3 a5 1 [1]):=(by have h:=ho 5 (by omega);rw[e5] at h;exact h.ints)
    simp only[e0,e1,e2,e3,e4,e5,e6];have HBL3:=Lib.hid (HBL2.out.ext hb3);have HTL3:=Lib.hid (HTL2.out.ext hb3);have HF3:=Lib.hid (block_ext hb3 HF2.out);have HB3:=Lib.hid (ext_trans HB2.out hb3)
    clear hb3 ho e0 e1 e2 e3 e4 e5 e6))
 obtain⟨w4,hw4⟩:∃w4,w4=w3.alloc (.cells #[.slice a0 2 c0,.slice a1 1 c1,.slice a2 2 c2,.slice a3 0 c3,.slice a4 1 c4,.slice a5 1 c5,.slice a6 0 c6] 39):=⟨_,rfl⟩
 rw[←hw4]
 have hx4:Below w3.heap.size w3 w4:=by rw[hw4];exact ext_alloc _ _
 have HQ4:Hid (w4.heap[w3.heap.size]? =some (.cells #[.slice a0 2 c0,.slice a1 1 c1,.slice a2 2 c2,.slice a3 0 c3,.slice a4 1 c4,.slice a5 1 c5,.slice a6 0 c6] 39 (0,0))):=by rw[hw4];exact heap_alloc_new _ _
 have HBL4:=Lib.hid (HBL3.out.ext hx4)
 have HTL4:=Lib.hid (HTL3.out.ext hx4)
 have HF4:=Lib.hid (block_ext hx4 HF3.out)
 have HX4:=Lib.hid hx4
 have HB4:=Lib.hid (ext_trans HB3.out hx4)
 clear hw4 hx4 HBL2 HTL2 HF2 HB2 HBL3 HTL3 HF3 HB3
 obtain⟨Q,hQ⟩:∃Q,Q=w3.heap.size:=⟨_,rfl⟩
 rw[←hQ] at HQ4⊢
 have HQE:=Lib.hid hQ
 clear hQ
 go_upto_region 5 with (first
  |(refine wpList_load_row (o:=⟨some 20,.load 25 _,_,_,_,_⟩) rfl 25 _ rfl F rfl 25 _ (0,0) _ HF4.out Tryz.underlying25 rfl size_func ?_)
  |(go_at_call 15
    refine(sNeeds_any none 0 0 [] ba 3 bc (exBs g1 g2) ta 2 tc (awTiles g5) 0 w4 (HPS w4) HBL4.out HTL4.out (by show(3:Nat)≤1000000;omega) (HTB.out.ext HB4.out) (by unfold I64;omega)).mono ?_;rintro e w5 ⟨v,he,ho,hb5⟩;rw[(ex_needs g1 g2 g5).1] at he;subst he;rw[(ex_needs g1 g2 g5).2] at ho;obtain⟨a7,c7,e7⟩:=ho.form
    replace e7:v=.slice a7 1 c7:=e7
    subst e7;have HI7:Hid (Ints w5 a7 1 [1]):=ho.ints;have HX5:=Lib.hid (ext_trans HX4.out hb5);have HQ5:=Lib.hid (block_ext hb5 HQ4.out);have HB5:=Lib.hid (ext_trans HB4.out hb5)
    clear hb5 ho))
 obtain⟨w6,hw6⟩:∃w6,w6=(w5.alloc (.cells #[.int .i64 1,.int .i64 2] 3)).alloc (.cells #[.int .i64 1] 3):=⟨_,rfl⟩
 rw[←hw6]
 have hx6:Below w5.heap.size w5 w6:=by rw[hw6];exact ext_trans (ext_alloc _ _) (ext_alloc _ _)
 have HT0:Hid (Ints w6 (some ⟨w5.heap.size,0,none⟩) 2 [1,2]):=by rw[Hid,hw6];exact intsLit (xs:= [1,2]) (block_ext (ext_alloc _ _) (heap_alloc_new _ _)) rfl (i64s [1,2]) (by simp)
 have HO0:Hid (Ints w6 (some ⟨w5.heap.size+1,0,none⟩) 1 [1]):=by rw[Hid,hw6];exact intsLit (xs:= [1]) (heap_at _ _ _ (by simp)) rfl (i64s [1]) (by simp)
 have HX6:=Lib.hid (ext_trans HX5.out hx6)
 have HQ6:=Lib.hid (block_ext hx6 HQ5.out)
 have HB6:=Lib.hid (ext_trans HB5.out hx6)
 have HI76:=Lib.hid (HI7.out.ext hx6)
 clear hw6 hx6 HBL4 HTL4 HF4 HB4 HX4 HX5 HQ4 HQ5 HB5 HI7
 generalize w5.heap.size=g7 at*
 have k6:w6.cell? ⟨Q,0,none⟩=some (.slice a0 2 c0):=by rw[cell_of_row _ _ _ _ _ _ HQ6.out];rfl
 go_wp2_with (first
  |(go_at_call 18
    refine(sameInts_any a7 (some ⟨g7+1,0,none⟩) 1 1 c7 1 [1] [1] w11 (HI76.out.ext HZ11.out) (HO0.out.ext HZ11.out)).mono ?_;rintro e w' ⟨he,q5,hw'⟩;rw[decide_eq_true (rfl:([1]:List Int)= [1])] at he;subst he;obtain⟨w12,h7⟩:∃z,z=w':=⟨_,rfl⟩
    rw[←h7];have hz:Below w11.heap.size w11 w12:=(by rw[h7,hw'];exact ext_drewN (Below.refl _ _) _)
    have HZ12:Hid (Below w6.heap.size w6 w12):=ext_trans HZ11.out hz
    clear h7 hz hw')
  |(go_at_call 18
    refine(sameInts_any a5 (some ⟨g7+1,0,none⟩) 1 1 c5 1 [1] [1] w10 (HI5.out.ext (ext_trans HX6.out HZ10.out)) (HO0.out.ext HZ10.out)).mono ?_;rintro e w' ⟨he,q4,hw'⟩;rw[decide_eq_true (rfl:([1]:List Int)= [1])] at he;subst he;obtain⟨w11,h7⟩:∃z,z=w':=⟨_,rfl⟩
    rw[←h7];have hz:Below w10.heap.size w10 w11:=(by rw[h7,hw'];exact ext_drewN (Below.refl _ _) _)
    have HZ11:Hid (Below w6.heap.size w6 w11):=ext_trans HZ10.out hz
    clear h7 hz hw')
  |(go_at_call 18
    refine(sameInts_any a4 (some ⟨g7+1,0,none⟩) 1 1 c4 1 [1] [1] w9 (HI4.out.ext (ext_trans HX6.out HZ9.out)) (HO0.out.ext HZ9.out)).mono ?_;rintro e w' ⟨he,q3,hw'⟩;rw[decide_eq_true (rfl:([1]:List Int)= [1])] at he;subst he;obtain⟨w10,h7⟩:∃z,z=w':=⟨_,rfl⟩
    rw[←h7];have hz:Below w9.heap.size w9 w10:=(by rw[h7,hw'];exact ext_drewN (Below.refl _ _) _)
    have HZ10:Hid (Below w6.heap.size w6 w10):=ext_trans HZ9.out hz;have k10:w10.cell? ⟨Q,5,none⟩=some (.slice a5 1 c5):=(by rw[cell_of_row _ _ _ _ _ _ (block_ext HZ10.out HQ6.out)];rfl)
    clear h7 hz hw')
  |(go_at_call 18
    refine(sameInts_any a2 (some ⟨g7,0,none⟩) 2 2 c2 2 [1,2] [1,2] w8 (HI2.out.ext (ext_trans HX6.out HZ8.out)) (HT0.out.ext HZ8.out)).mono ?_;rintro e w' ⟨he,q2,hw'⟩;rw[decide_eq_true (rfl:([1,2]:List Int)= [1,2])] at he;subst he;obtain⟨w9,h7⟩:∃z,z=w':=⟨_,rfl⟩
    rw[←h7];have hz:Below w8.heap.size w8 w9:=(by rw[h7,hw'];exact ext_drewN (Below.refl _ _) _)
    have HZ9:Hid (Below w6.heap.size w6 w9):=ext_trans HZ8.out hz;have k9:w9.cell? ⟨Q,4,none⟩=some (.slice a4 1 c4):=(by rw[cell_of_row _ _ _ _ _ _ (block_ext HZ9.out HQ6.out)];rfl)
    clear h7 hz hw')
  |(go_at_call 18
    refine(sameInts_any a1 (some ⟨w7.heap.size,0,none⟩) 1 1 c1 1 [2] [2] (w7.alloc (.cells #[.int .i64 2] 3)) ((HI1.out.ext (ext_trans HX6.out HZ7.out)).ext (ext_alloc _ _)) (intsLit (xs:= [2]) (heap_alloc_new _ _) rfl (i64s [2]) (by simp))).mono ?_;rintro e w' ⟨he,q1,hw'⟩;rw[decide_eq_true (rfl:([2]:List Int)= [2])] at he;subst he;obtain⟨w8,h7⟩:∃z,z=w':=⟨_,rfl⟩
    rw[←h7];have hz:Below w7.heap.size w7 w8:=(by rw[h7,hw'];exact ext_drewN (ext_alloc _ _) _)
    have HZ8:Hid (Below w6.heap.size w6 w8):=ext_trans HZ7.out hz;have k8:w8.cell? ⟨Q,2,none⟩=some (.slice a2 2 c2):=(by rw[cell_of_row _ _ _ _ _ _ (block_ext HZ8.out HQ6.out)];rfl)
    clear h7 hz hw')
  |(go_at_call 18
    refine(sameInts_any a0 (some ⟨g7,0,none⟩) 2 2 c0 2 [1,2] [1,2] w6 (by have h:=HI0.out.ext (show Below w3.heap.size w3 w6 from HX6.out);exact h) (HT0.out)).mono ?_;rintro e w' ⟨he,q0,hw'⟩;rw[decide_eq_true (rfl:([1,2]:List Int)= [1,2])] at he;subst he;obtain⟨w7,h7⟩:∃z,z=w':=⟨_,rfl⟩
    rw[←h7];have hz:Below w6.heap.size w6 w7:=(by rw[h7,hw'];exact ext_drewN (Below.refl _ _) _)
    have HZ7:Hid (Below w6.heap.size w6 w7):=hz;have k7:w7.cell? ⟨Q,1,none⟩=some (.slice a1 1 c1):=(by rw[cell_of_row _ _ _ _ _ _ (block_ext HZ7.out HQ6.out)];rfl)
    clear h7 hz hw'))
 go_ret
 exact⟨rfl,ext_trans HB6.out HZ12.out⟩
end

section
open Go.RowKit Go.Shelf
def RowsT(ty:TypeId)(W:World)(base:Nat)(v:Value)(hs:List RowH):Prop:=
 OwnR ty 5 csR W base v hs∧∀h∈hs,OwnI W base h.lv h.r.lv∧OwnI W base h.en h.r.en∧(∀q,h.lv.ownBlock=some q→v.ownBlock≠some q)∧∀q,h.en.ownBlock=some q→v.ownBlock≠some q
theorem RowsIn.t{W:World}{base:Nat}{v:Value}{hs:List RowH}(h:RowsIn W base v hs):RowsT 88 W base v hs:=h
section
variable {ty:TypeId} {W W':World} {base base':Nat} {v:Value} {hs:List RowH}
theorem RowsT.at{a:Option Addr}{n c:Nat}(h:RowsT ty W base (.slice a n c) hs){k:Nat}(hk:k<n):∃r b o la lc ea ec,hs[k]? =some r∧a=some ⟨b,o,none⟩∧r.lv=.slice la r.r.lv.length lc∧r.en=.slice ea r.r.en.length ec∧OwnI W base r.lv r.r.lv∧OwnI W base r.en r.r.en∧
  W.cell? ⟨b,o+k*5,none⟩=some (.int .i64 r.r.e.fr)∧W.cell? ⟨b,o+k*5+1,none⟩=some (.int .i64 r.r.e.arm)∧W.cell? ⟨b,o+k*5+2,none⟩=some (.int .i64 r.r.e.to)∧W.cell? ⟨b,o+k*5+3,none⟩=some (.slice la r.r.lv.length lc)∧W.cell? ⟨b,o+k*5+4,none⟩=some (.slice ea r.r.en.length ec):=by
 obtain⟨h1,h2⟩:=h
 have hr:=h1.recs csR_len
 have hl:hs.length=n:=hr.1
 obtain⟨x,hx⟩:∃x,hs[k]? =some x:=⟨_,List.getElem?_eq_getElem (by omega)⟩
 obtain⟨b,o,ha,hc⟩:=hr.2.2 k x hx
 obtain⟨h3,h4,_⟩:=h2 x (List.mem_of_getElem? hx)
 obtain⟨la,lc,e1⟩:=h3.form
 obtain⟨ea,ec,e2⟩:=h4.form
 have c0:=hc 0 (by omega)
 have c1:=hc 1 (by omega)
 have c2:=hc 2 (by omega)
 have c3:=hc 3 (by omega)
 have c4:=hc 4 (by omega)
 simp only[csR,e1,e2] at c0 c1 c2 c3 c4
 exact⟨x,b,o,la,lc,ea,ec,hx,ha,e1,e2,h3,h4,c0,c1,c2,c3,c4⟩
end
end

section
open Go.RowKit
section
variable {T:TypeId} {w W W1 W2:World} {PB:Nat} {v:Nat→Value} {xs:Nat→List Int}
end
section
variable {T:TypeId} {w w5 W W1:World} {PB:Nat} {v:Nat→Value} {xs:Nat→List Int} {R D L A ys:List Int} {u u':Value} {j:Nat}
end
section
variable {P:Program} {Q:Exit→Act→World→Prop}
theorem run_appendI(w:World)(t ty:TypeId)(base:Nat)(z:Value)(bytes:Nat)(ht:P.underlying t=some (.slice 3))(hinfo:(P.info? 3).map (fun i=>(i.zero,i.size,i.bytes))=some (some z,1,bytes))(hzs:z.cells.size=1)(hb8:bytes≤8)
  (v:Value) (xs:List Int) (hown:OwnI w base v xs) (A:Option Addr) (m c:Nat) (ys:List Int) (hy:Ints w A m ys) (hlen:xs.length+ys.length≤17592186044416) (hbase:base≤w.heap.size):
  ∃v' w',(Builtin.append_ #[t,t] ty #[v,.slice A m c]).run P w=.ok v' w'∧OwnI w' base v' (xs++ys)∧w.grownBy w' v.ownBlock∧(v'.ownBlock=v.ownBlock∨∃q,v'.ownBlock=some q∧w.heap.size≤q):=by
 have hm:ys.length=m:=hy.1
 obtain⟨v',w',h1,h2,h3,h4⟩:=run_append_rows (P:=P) w base t ty 3 z 1 bytes ht hinfo hzs (by omega) v xs.length (intVals xs) hown.1 A m c (intVals ys) (by simp[intVals,hm]) (fun j u hu=>by
  have hj:j<ys.length:=by have:=(List.getElem?_eq_some_iff.1 hu).1;simpa[intVals] using this
  obtain⟨b,o,e,hc,_⟩:=hy.2.2 j (by omega);refine⟨⟨b,o,none⟩,e,?_⟩;rw[addr_add,hc,←hu]
  simp[intVals,List.getD_eq_getElem?_getD,hj]) (intVals_one ys) (by simp only[maxLen];omega) (by
   have:(xs.length+m)*bytes≤(xs.length+m)*8:=Nat.mul_le_mul_left _ hb8
   omega) hbase
 refine⟨v',w',h1,⟨?_,fun q hq=>?_,by simp;omega⟩,h3,h4.imp_right fun e=>⟨_,e,Nat.le_refl _⟩⟩
 ·have e:intVals (xs++ys)=intVals xs++intVals ys:=by simp[intVals]
  rw[e,List.length_append,hm];exact h2
 ·rcases List.mem_append.1 hq with hq|hq
  ·exact hown.2.1 q hq
  ·obtain⟨j,hj,e⟩:=List.mem_iff_getElem.1 hq;obtain⟨_,_,_,_,hw⟩:=hy.2.2 j (by omega);rw[List.getD_eq_getElem?_getD,List.getElem?_eq_getElem hj,e] at hw;exact hw
theorem op_appendL{o:Oper}{a:Act}{K:Act→World→Prop}(w:World)(s x:Operand)(t:TypeId)(ho:o.op=.call {callee:=.builtin .append,args:=#[s,x],argTypes:=#[t,t]})
  (base:Nat) (z:Value) (bytes:Nat) (ht:P.underlying t=some (.slice 3)) (hinfo:(P.info? 3).map (fun i=>(i.zero,i.size,i.bytes))=some (some z,1,bytes)) (hzs:z.cells.size=1) (hb8:bytes≤8)
  (v:Value) (xs:List Int) (hs:a.eval s=v) (hown:OwnI w base v xs) (A:Option Addr) (m c:Nat) (hx:a.eval x=.slice A m c) (ys:List Int) (hy:Ints w A m ys) (hlen:xs.length+ys.length≤17592186044416) (hbase:base≤w.heap.size)
  (h:∀v' w',OwnI w' base v' (xs++ys)→w.grownBy w' v.ownBlock→(v'.ownBlock=v.ownBlock∨∃q,v'.ownBlock=some q∧w.heap.size≤q)→K (a.put o.dst v') w'):
  o.wp P a w K Q:=by
 obtain⟨v',w',hrun,h2,h3,h4⟩:=run_appendI (P:=P) w t o.type base z bytes ht hinfo hzs hb8 v xs hown A m c ys hy hlen hbase
 unfold Oper.wp execOp
 simp only[ho,resolve,invoke,builtin,Sem.run_bind,Sem.run_pure,Result.andThen_ok,List.map_toArray,List.map_cons,List.map_nil,hs,hx,hrun]
 exact h v' w' h2 h3 h4
end
end
end Go.Proofs.YthgebcfohnlhlaaGreatDoor
