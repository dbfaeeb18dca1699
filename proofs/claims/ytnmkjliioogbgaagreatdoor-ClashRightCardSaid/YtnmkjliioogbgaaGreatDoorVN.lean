/-
 live.Of.
-/
import Derived.Test.YtnmkjliioogbgaaGreatDoorSD
import Derived.Sort.CutIn
namespace Go.Proofs.YtnmkjliioogbgaaGreatDoor
set_option linter.unusedSimpArgs false
set_option linter.unusedVariables false
set_option linter.unusedSectionVars false
set_option maxRecDepth 100000
set_option maxHeartbeats 40000000
section
open Go.RowKit Go.Shelf
attribute [local go_sem] Oper.semAt_some wide_fn wide_depth wide_fnR wide_depthR
abbrev liveZ:Obj:=liveO nilS nilS nilS
theorem liveOf_any(pa:Option Addr)(pn pc:Nat)(ps:List Int)(ba:Option Addr)(bn bc:Nat)(bs:List BlkR)(w:World)(hp:Ints w pa pn ps)(h:BlksR w ba bn bs)(hT:Tab w):
  Calls Tryz.prog 34 #[funcV pa pn pc ba bn bc] w (LivePost ps bs w):=by
 refine(callsIn_wide (n:=0)).1 ?_
 refine callsIn_of_wp_marks Tryz.func34 rfl trivial ?_
 simp only[Tryz.ntmps34,List.size_toArray,List.length_cons,List.length_nil,Nat.reduceAdd,Nat.reduceSub,Array.replicate_succ,Array.replicate_zero,List.push_toArray,List.append_toArray,List.nil_append,List.cons_append]
 have HPI:=Lib.hid hp
 have HB:=Lib.hid h
 have HTB:=Lib.hid hT
 have HLb:=Lib.hid h.1.1
 clear hp h hT
 gi_upto_region 1 with (fail)
 generalize hw0:World.alloc _ _=w0
 have HB0:Hid (Below w.heap.size w w0):=by rw[←hw0];exact ext_trans (ext_alloc _ _) (ext_alloc _ _)
 have HF0:Hid (w0.heap[w.heap.size]? =some (funcO pa pn pc ba bn bc)):=by rw[←hw0];exact block_ext (ext_alloc _ _) (heap_alloc_new _ _)
 have HZ0:Hid (w0.heap[w.heap.size+1]? =some liveZ):=by
  have:=heap_alloc_new (w.alloc (funcO pa pn pc ba bn bc)) liveZ;rw[Hid,←hw0];simpa using this
 have HS0:Hid (w0.heap.size=w.heap.size+2):=by rw[Hid,←hw0];simp
 clear hw0
 by_cases hR:rightE ps bs=0
 rotate_left
 ·have hne:(rightE ps bs != 0)=true:=by simpa using hR
  have HR:=Lib.hid hR;clear hR
  gi_wp2_with (first
   |((with_reducible show wpListIn _ _ _ _ _ (⟨some 10,.load _ _,_,_,_,_⟩ :: _) _ _);refine wpListIn_load_rowG rfl 40 _ rfl w.heap.size rfl 40 _ (0,0) _ HF0.out Tryz.underlying40 rfl size_func ?_)
   |(gi_at_call 44
     refine(callsIn_wide.2 (irRight_any pa pn pc ps ba bn bc bs w0 (HPI.out.ext HB0.out) (HB.out.ext HB0.out))).mono ?_;rintro e w1 ⟨rfl,hb1⟩;have HZ1:=Lib.hid (block_ext hb1 HZ0.out);have HB1:=Lib.hid (ext_trans HB0.out hb1);have z0:w1.cell? ⟨w.heap.size+1,0,none⟩=some nilS:=(by rw[cell_of_row _ _ _ _ _ _ HZ1.out];rfl)
     have z1:w1.cell? ⟨w.heap.size+1,1,none⟩=some nilS:=(by rw[cell_of_row _ _ _ _ _ _ HZ1.out];rfl)
     have z2:w1.cell? ⟨w.heap.size+1,2,none⟩=some nilS:=(by rw[cell_of_row _ _ _ _ _ _ HZ1.out];rfl)
     have y0:w1.frozen? ⟨w.heap.size+1,0,none⟩=false:=frozen_of_row _ _ _ _ _ HZ1.out;have y1:w1.frozen? ⟨w.heap.size+1,1,none⟩=false:=frozen_of_row _ _ _ _ _ HZ1.out;have y2:w1.frozen? ⟨w.heap.size+1,2,none⟩=false:=frozen_of_row _ _ _ _ _ HZ1.out;have hl1:=lt_of_heap HZ1.out
     clear hb1))
  obtain⟨w4,hw4⟩:∃w4,w4=((w1.setCell ⟨w.heap.size+1,0,none⟩ nilS).setCell ⟨w.heap.size+1,1,none⟩ nilS).setCell ⟨w.heap.size+1,2,none⟩ nilS:=⟨_,rfl⟩
  rw[←hw4];have hz4:w4.heap[w.heap.size+1]? =some liveZ:=by
   rw[hw4,heap_setCell_same _ _ _ _ _ _ (heap_setCell_same _ _ _ _ _ _ (heap_setCell_same _ _ _ _ _ _ HZ1.out))];rfl
  have hb4:Below w.heap.size w w4:=by rw[hw4];exact((HB1.out.setCell (by simp) _).setCell (by simp) _).setCell (by simp) _
  refine leaves_marks (by simp) (lo:=w.heap.size+2) (hi:=w.heap.size+2) (fun W=>W.heap[w.heap.size+1]? =some liveZ∧Below w.heap.size w W) ((Steady.block _ _ rfl).and (Steady.below (Nat.le_refl _) (by omega))) (fun W hj=>?_) [] w4 (Marks.nil _ _ _) ⟨hz4,hb4⟩;have k0:W.cell? ⟨w.heap.size+1,0,none⟩=some nilS:=by rw[cell_of_row _ _ _ _ _ _ hj.1];rfl
  have k1:W.cell? ⟨w.heap.size+1,1,none⟩=some nilS:=by rw[cell_of_row _ _ _ _ _ _ hj.1];rfl
  have k2:W.cell? ⟨w.heap.size+1,2,none⟩=some nilS:=by rw[cell_of_row _ _ _ _ _ _ hj.1];rfl
  exact⟨.tuple #[.agg #[nilS,nilS,nilS],.int .i64 2],by simp[results,Tryz.results34,asAddr,k0,k1,k2,go_sem],.inl ⟨HR.out,rfl⟩,hj.2⟩
 ·obtain⟨hlong,hwh,hti⟩:=rightE_zero hR;have hbnd:0<bn∧bn≤200:=by
   rw[longB,HLb.out] at hlong;simp only[Bool.or_eq_false_iff,decide_eq_false_iff_not] at hlong;omega
  obtain⟨hb0,hb200⟩:=hbnd;have HN64:Hid (∀x∈bs,x.h.n≤64):=fun x hx=>by
   rw[longB] at hlong;simp only[Bool.or_eq_false_iff,List.any_eq_false] at hlong;have:=hlong.2 x.h (List.mem_map.2 ⟨x,hx,rfl⟩);simpa using this
  have HNA:=Lib.hid (whole_na HB.out hwh);have HIN:=Lib.hid hti;have HRZ:=Lib.hid hR;have hne:(rightE ps bs != 0)=false:=by simpa using hR
  clear hlong hwh hti hR
  gi_upto_region 4 with (first
   |((with_reducible show wpListIn _ _ _ _ _ (⟨some 10,.load _ _,_,_,_,_⟩ :: _) _ _);refine wpListIn_load_rowG rfl 40 _ rfl w.heap.size rfl 40 _ (0,0) _ HF0.out Tryz.underlying40 rfl size_func ?_)
   |(gi_at_call 44
     refine(callsIn_wide.2 (irRight_any pa pn pc ps ba bn bc bs w0 (HPI.out.ext HB0.out) (HB.out.ext HB0.out))).mono ?_;rintro e w1 ⟨rfl,hb1⟩;have HZ1:=Lib.hid (block_ext hb1 HZ0.out);have HF1:=Lib.hid (block_ext hb1 HF0.out);have HB1:=Lib.hid (ext_trans HB0.out hb1);have HS1:Hid (w.heap.size+2≤w1.heap.size):=(by have:=hb1.size;have:=HS0.out;show w.heap.size+2≤_;omega)
     clear hb1)
   |((with_reducible show wpListIn _ _ _ _ _ (⟨some 14,.load _ _,_,_,_,_⟩ :: _) _ _);refine wpListIn_load_rowG rfl 40 _ rfl w.heap.size rfl 40 _ (0,0) _ HF1.out Tryz.underlying40 rfl size_func ?_)
   |(gi_at_call 45
     refine(callsIn_wide.2 (solved_any pa pn pc ba bn bc bs w1 (HB.out.ext HB1.out) hb0 hb200 HIN.out HNA.out)).mono ?_;rintro e w2 ⟨R0,R1,inn,out,rfl,hi,ho,hlv,hen,hb2⟩;have HI2:=Lib.hid hi;have HO2:=Lib.hid ho;have HLV:=Lib.hid hlv;have HEN:=Lib.hid hen;have HB2:=Lib.hid (ext_trans HB1.out hb2);have HX2:=Lib.hid hb2
     clear hi ho hlv hen hb2))
  have hbase:w.heap.size+2≤w1.heap.size:=HS1.out;obtain⟨w3,hw3⟩:∃w3,w3=w2.alloc (flowO bn R0 R1):=⟨_,rfl⟩
  rw[←hw3];have hx3:Below w2.heap.size w2 w3:=by rw[hw3];exact ext_alloc _ _
  have HL0:Hid (LfJ w (funcO pa pn pc ba bn bc) (bksL bs) bn R0 R1 w2.heap.size inn out nilS nilS nilS (fun _=>0) 0 0 0 w3):=
   LfJ.start (block_ext hx3 (block_ext HX2.out HF1.out)) (block_ext hx3 (block_ext HX2.out HZ1.out)) (by rw[hw3];exact heap_alloc_new _ _) (OwnR.ext (HI2.out.mono hbase) hx3) (OwnR.ext (HO2.out.mono hbase) hx3) (ext_trans HB2.out hx3)
  have HP0:Hid (w.heap.size+2≤R0∧w.heap.size+2≤R1∧R0<w2.heap.size∧R1<w2.heap.size∧w.heap.size+2≤w2.heap.size):=by
   have h1:=(HI2.out.1.lt R0 rfl)
   have h2:=(HO2.out.1.lt R1 rfl)
   exact⟨by omega,by omega,by omega,by omega,by omega⟩
  clear hw3 hx3 hbase HI2 HO2 HX2 HB2 HZ1 HF1 HB1 HF0 HZ0 HB0 HS0 HS1;generalize w2.heap.size=PF at *;have hf1:w3.cell? ⟨w.heap.size,1,none⟩=some (.slice ba bn bc):=by rw[cell_of_row _ _ _ _ _ _ HL0.out.fn];rfl
  have hfl:=lt_of_heap HL0.out.fn
  gi_wp2
  clear hf1 hfl;refine wpIn_loop_fill [5,6,7,19,20,21,22,23,24,25,26,27,28,29,30,31,32,33,34,35,36,37,38,39,40,41,42,43,44,45,46,47,48,49,50,51,52,53,54,55,56,57,65,66,67,68,69,70,71] (fun r u ds W=>∃(k:Nat) (vI vO vA:Value) (gs:Nat→Nat),r=bn-k∧k≤bn∧u 19=.int .i64 (k:Int)∧Hid (LfJ w (funcO pa pn pc ba bn bc) (bksL bs) bn R0 R1 PF inn out vI vO vA gs k k k W)∧Hid (Marks (w.heap.size+2) W.heap.size ds W)) bn ?_ ?_
  ·exact⟨0,_,_,_,_,rfl,by omega,rfl,HL0,Marks.nil _ _ _⟩
  ·rintro r u ds wr ⟨k,vI,vO,vA,gs,rfl,hk,e19,HLJ,HMK⟩;clear HL0;refine wpIn_wide.2 ?_;simp only[fillAct,List.foldl_cons,List.foldl_nil,List.setIfInBounds_toArray,List.set_cons_succ,List.set_cons_zero,e19];by_cases hlt:k<bn
   ·have hlt':(k:Int)<(bn:Int):=by omega
    obtain⟨x,b,o,hx,hok,rfl,c0,c1,c2,c3,c4⟩:=blksR_cells (HB.out.ext HLJ.out.b) hlt;have HXK:=Lib.hid hx;have HMB:Hid (atN (bksL bs) k=x.h.n+1):=by
     rw[Hid,atN,bksL_at hx];show(x.rs.map fun r=>(⟨readsI r.d,definesV r.d⟩:OpL)).length+1=_;rw[List.length_map,hok.2.1.1]
    have HLS:=Lib.hid (live_lists HLV.out HEN.out HIN.out hx);have HN6:Hid (x.h.n≤64):=HN64.out x (List.mem_of_getElem? hx);clear hx hok e19;go_upto_region 7 with (fail)
    clear c0 c1 c2 c3 c4;obtain⟨w4,hw4⟩:∃w4,w4=wr.alloc (blkO x.h):=⟨_,rfl⟩
    rw[←hw4];have hx4:Below wr.heap.size wr w4:=by rw[hw4];exact ext_alloc _ _
    have HB6:Hid (w4.heap[wr.heap.size]? =some (blkO x.h)):=by rw[hw4];exact heap_alloc_new _ _
    have HL4:=Lib.hid (HLJ.out.ext hx4);have HMK4:=Lib.hid ((HMK.out.mono (hi':=w4.heap.size) hx4.size).keep (Keep.ext hx4));have HP6:Hid (w.heap.size+2≤wr.heap.size):=by
     have h1:=lt_of_heap HLJ.out.fl;have h2:=HP0.out;show w.heap.size+2≤_;omega
    clear hw4 hx4 HLJ HMK;generalize wr.heap.size=P6 at *;have hxI:=HL4.out.gI;obtain⟨aI,cI,hvI⟩:=hxI.form;rw[famL_len] at hvI;subst hvI;have k1:∀n:ClsW (fun W'=>w4.grownBy W' (Value.slice aI k cI).ownBlock),n.val.cell? ⟨w.heap.size+1,0,none⟩=some (.slice aI k cI):=fun n=>by rw[cell_of_row _ _ _ _ _ _ (HL4.out.cls HL4.out.ia n.prop).1];rfl
    have k2:∀n:ClsW (fun W'=>w4.grownBy W' (Value.slice aI k cI).ownBlock),n.val.cell? ⟨PF,0,none⟩=some (.slice (some ⟨R0,0,none⟩) bn bn):=fun n=>by rw[cell_of_row _ _ _ _ _ _ (HL4.out.cls HL4.out.ia n.prop).2.1];rfl
    have k3:∀n:ClsW (fun W'=>w4.grownBy W' (Value.slice aI k cI).ownBlock),w.heap.size+1<n.val.heap.size:=fun n=>lt_of_heap (HL4.out.cls HL4.out.ia n.prop).1;have k4:∀n:ClsW (fun W'=>w4.grownBy W' (Value.slice aI k cI).ownBlock),PF<n.val.heap.size:=fun n=>lt_of_heap (HL4.out.cls HL4.out.ia n.prop).2.1;have k5:∀w',(∃n:ClsW (fun W'=>w4.grownBy W' (Value.slice aI k cI).ownBlock),w'=n.val)→w'.rangeAt R0 (k*16) (bsC (inn k)):=fun w' ⟨n,e⟩=>by rw[e];exact ownW_range (HL4.out.cls HL4.out.ia n.prop).2.2.1 hlt
    have HNE:Nonempty (ClsW (fun W'=>w4.grownBy W' (Value.slice aI k cI).ownBlock)):=cls_ne (grown_drew' _ _);clear hxI;refine region_mix (fun w'=>∃n:ClsW (fun W'=>w4.grownBy W' (Value.slice aI k cI).ownBlock),w'=n.val) [(0,7,some (7,true)),(8,0,some (8,true)),(9,0,some (9,true)),(10,1,some (11,false))] (by kernel_rfl) (by kernel_rfl) (cls_mk (grown_drew' _ _)) ?_;simp only[wpMix,List.take_succ_cons,List.take_zero,List.drop_succ_cons,List.drop_zero]
    repeat (first
     |go_big_quiet_skip
     |((with_reducible show wpQuiet _ _ _ _ (⟨some 30,_,_,_,_,_⟩ :: _) _);refine wpQuiet_load_mid (o:=⟨some 30,.load 120 _,_,_,_,_⟩) (by rfl) 120 _ rfl R0 (k*16) rfl (bsC (inn k)) _ k5 Tryz.underlying120 rfl bset_len' ?_;simp only[bsC_arr,Act.put,List.setIfInBounds_toArray,List.set_cons_succ,List.set_cons_zero])
     |go_big_quiet_step (fail))
    refine wpQuiet_nil ?_;refine wpOp_at rfl rfl ?_;go_simp;refine(bList_any (inn k) w4.drew (HTB.out.ext (ext_trans HL4.out.b (ext_drewN (Below.refl _ _) 1)))).mono ?_;rintro e w5 ⟨v,rfl,ho,hb⟩;obtain⟨al,cl,rfl⟩:=ho.form
    replace hb:=unDrew1 hb
    have hLI:=HL4.out.ext hb;have hg0:w4.grownBy w5 (Value.slice aI k cI).ownBlock:=⟨hb.os,hb.tape,hb.output,hb.size,fun j hj _=>hb.block j hj⟩
    refine⟨cls_mk hg0,?_⟩;refine wpQuiet_nil ?_;refine wpOp_at rfl rfl ?_;go_simp;refine⟨cls_mk (grown_tr' hg0 (World.grownBy_alloc _ _ _)),?_⟩;refine wpQuiet_nil ?_;obtain⟨us,hus,hown,hty,hnext⟩:=hLI.gI.own;rw[famL_len] at hown hus;refine wpOp_at rfl rfl ?_;refine op_append1 w5 (.tmp 25) (.tmp 32) 88 22 rfl (w.heap.size+2) _ 1 24 Tryz.underlying88 infoSI rfl (by omega) (.slice aI k cI) k us [.slice al (intsN (bitsL 1024 (inn k))).length cl] rfl hown w5.heap.size rfl rfl rfl (by simp[Value.oneCell']) (by simp only[maxLen];omega) (by omega) (Nat.le_trans (by have:=lt_of_heap hLI.lv;omega) (Nat.le_refl _)) ?_;intro g cap w8 hown8 hg8 hat8;have hl8:=hnext w8 g cap (.slice al (intsN (bitsL 1024 (inn k))).length cl) (intsN (bitsL 1024 (inn k))) (by rw[famL_len];exact hown8) hg8 rfl ((ho.mono (by have:=lt_of_heap HL4.out.lv;show w.heap.size+2≤w4.heap.size;omega)).keptT hg8 hty);rw[famL_len,HLS.out.1,famL_snoc] at hl8;obtain⟨hp8,hz8⟩:=hLI.pushI hg8 hl8 fun q e=>by
     simp only[Value.ownBlock,Option.some.injEq] at e;subst e;rcases hat8 with h|h
     ·exact .inl h.symm
     ·right;omega
    have HL5:=Lib.hid hp8;have q1:w8.cell? ⟨w.heap.size+1,0,none⟩=some (.slice aI k cI):=by rw[cell_of_row _ _ _ _ _ _ hz8];rfl
    have q2:w8.frozen? ⟨w.heap.size+1,0,none⟩=false:=frozen_of_row _ _ _ _ _ hz8;have q3:=lt_of_heap hz8;refine⟨cls_mk (grown_tr' hg0 hg8),?_⟩;simp only[zJ,zG,zH,zI]
    repeat (go_big_quiet_step (fail))
    refine wpQuiet_nil ?_;clear k1 k2 k3 k4 k5 HNE;refine wpOp_at rfl rfl ?_;go_simp;refine NoPanic.normal ?_;obtain⟨w6,hw6⟩:∃w6,w6=w8.setCell ⟨w.heap.size+1,0,none⟩ (.slice (some ⟨g,0,none⟩) (k+1) cap):=⟨_,rfl⟩
    rw[←hw6] at HL5⊢;have hb6:=block_ext hb HB6.out;have HB66:Hid (w6.heap[P6]? =some (blkO x.h)):=by
     rw[Hid,hw6,Below.heap_setCell _ _ _ _ (by have:=HP6.out;simp;omega)];exact(hg8.block _ (lt_of_heap hb6) fun e=>own_ne_ty hown (OtherTy.of hb6 (by decide)) e.symm).trans hb6
    have hs6:w4.heap.size≤w6.heap.size:=by rw[hw6,World.size_setCell];exact Nat.le_trans hb.size hg8.size
    have HMK6:Hid (Marks (w.heap.size+2) w6.heap.size ds w6):=by
     have:=HMK4.out.mono hs6;rw[Hid];refine this.keep ((Keep.ext hb).trans ((keep_ownR hown hg8).trans ?_));rw[hw6];exact Keep.setCell _ _ _
    clear q1 q2 q3 hz8 hp8 hl8 hown8 hg8 hat8 hnext hty hown hus us hg0 hLI hb ho hw6 hb6 hs6 HL4 HB6 HMK4;generalize w5.heap.size=s5;clear w8 w5;go_upto_region 8 with (fail)
    have hxO:=HL5.out.gO;obtain⟨aO,cO,hvO⟩:=hxO.form;rw[famL_len] at hvO;subst hvO;have k1:∀n:ClsW (fun W'=>w6.grownBy W' (Value.slice aO k cO).ownBlock),n.val.cell? ⟨w.heap.size+1,1,none⟩=some (.slice aO k cO):=fun n=>by rw[cell_of_row _ _ _ _ _ _ (HL5.out.cls HL5.out.oa n.prop).1];rfl
    have k2:∀n:ClsW (fun W'=>w6.grownBy W' (Value.slice aO k cO).ownBlock),n.val.cell? ⟨PF,1,none⟩=some (.slice (some ⟨R1,0,none⟩) bn bn):=fun n=>by rw[cell_of_row _ _ _ _ _ _ (HL5.out.cls HL5.out.oa n.prop).2.1];rfl
    have k3:∀n:ClsW (fun W'=>w6.grownBy W' (Value.slice aO k cO).ownBlock),w.heap.size+1<n.val.heap.size:=fun n=>lt_of_heap (HL5.out.cls HL5.out.oa n.prop).1;have k4:∀n:ClsW (fun W'=>w6.grownBy W' (Value.slice aO k cO).ownBlock),PF<n.val.heap.size:=fun n=>lt_of_heap (HL5.out.cls HL5.out.oa n.prop).2.1;have k5:∀w',(∃n:ClsW (fun W'=>w6.grownBy W' (Value.slice aO k cO).ownBlock),w'=n.val)→w'.rangeAt R1 (k*16) (bsC (out k)):=fun w' ⟨n,e⟩=>by rw[e];exact ownW_range (HL5.out.cls HL5.out.oa n.prop).2.2.2 hlt
    have HNE:Nonempty (ClsW (fun W'=>w6.grownBy W' (Value.slice aO k cO).ownBlock)):=cls_ne (grown_drew' _ _);clear hxO;refine region_mix (fun w'=>∃n:ClsW (fun W'=>w6.grownBy W' (Value.slice aO k cO).ownBlock),w'=n.val) [(0,7,some (7,true)),(8,0,some (8,true)),(9,0,some (9,true)),(10,1,some (11,false))] (by kernel_rfl) (by kernel_rfl) (cls_mk (grown_drew' _ _)) ?_;simp only[wpMix,List.take_succ_cons,List.take_zero,List.drop_succ_cons,List.drop_zero]
    repeat (first
     |go_big_quiet_skip
     |((with_reducible show wpQuiet _ _ _ _ (⟨some 41,_,_,_,_,_⟩ :: _) _);refine wpQuiet_load_mid (o:=⟨some 41,.load 120 _,_,_,_,_⟩) (by rfl) 120 _ rfl R1 (k*16) rfl (bsC (out k)) _ k5 Tryz.underlying120 rfl bset_len' ?_;simp only[bsC_arr,Act.put,List.setIfInBounds_toArray,List.set_cons_succ,List.set_cons_zero])
     |go_big_quiet_step (fail))
    refine wpQuiet_nil ?_;refine wpOp_at rfl rfl ?_;go_simp;refine(bList_any (out k) w6.drew (HTB.out.ext (ext_trans HL5.out.b (ext_drewN (Below.refl _ _) 1)))).mono ?_;rintro e w7 ⟨v,rfl,ho,hb⟩;obtain⟨al2,cl2,rfl⟩:=ho.form
    replace hb:=unDrew1 hb
    have hLO:=HL5.out.ext hb;have hg0:w6.grownBy w7 (Value.slice aO k cO).ownBlock:=⟨hb.os,hb.tape,hb.output,hb.size,fun j hj _=>hb.block j hj⟩
    refine⟨cls_mk hg0,?_⟩;refine wpQuiet_nil ?_;refine wpOp_at rfl rfl ?_;go_simp;refine⟨cls_mk (grown_tr' hg0 (World.grownBy_alloc _ _ _)),?_⟩;refine wpQuiet_nil ?_;obtain⟨us,hus,hown,hty,hnext⟩:=hLO.gO.own;rw[famL_len] at hown hus;refine wpOp_at rfl rfl ?_;refine op_append1 w7 (.tmp 36) (.tmp 43) 88 22 rfl (w.heap.size+2) _ 1 24 Tryz.underlying88 infoSI rfl (by omega) (.slice aO k cO) k us [.slice al2 (intsN (bitsL 1024 (out k))).length cl2] rfl hown w7.heap.size rfl rfl rfl (by simp[Value.oneCell']) (by simp only[maxLen];omega) (by omega) (Nat.le_trans (by have:=lt_of_heap hLO.lv;omega) (Nat.le_refl _)) ?_;intro g2 cap2 w11 hown8 hg8 hat8;have hl8:=hnext w11 g2 cap2 (.slice al2 (intsN (bitsL 1024 (out k))).length cl2) (intsN (bitsL 1024 (out k))) (by rw[famL_len];exact hown8) hg8 rfl ((ho.mono (by have:=lt_of_heap HL5.out.lv;show w.heap.size+2≤w6.heap.size;omega)).keptT hg8 hty);rw[famL_len,HLS.out.2.1,famL_snoc] at hl8;obtain⟨hp8,hz8⟩:=hLO.pushO hg8 hl8 fun q e=>by
     simp only[Value.ownBlock,Option.some.injEq] at e;subst e;rcases hat8 with h|h
     ·exact .inl h.symm
     ·right;omega
    have HL9:=Lib.hid hp8;have q1:w11.cell? ⟨w.heap.size+1,1,none⟩=some (.slice aO k cO):=by rw[cell_of_row _ _ _ _ _ _ hz8];rfl
    have q2:w11.frozen? ⟨w.heap.size+1,1,none⟩=false:=frozen_of_row _ _ _ _ _ hz8;have q3:=lt_of_heap hz8;refine⟨cls_mk (grown_tr' hg0 hg8),?_⟩;simp only[zJ,zG,zH,zI]
    repeat (go_big_quiet_step (fail))
    refine wpQuiet_nil ?_;clear k1 k2 k3 k4 k5 HNE;refine wpOp_at rfl rfl ?_;go_simp;refine NoPanic.normal ?_;obtain⟨w9,hw9⟩:∃w9,w9=w11.setCell ⟨w.heap.size+1,1,none⟩ (.slice (some ⟨g2,0,none⟩) (k+1) cap2):=⟨_,rfl⟩
    rw[←hw9] at HL9⊢;have hb9:=block_ext hb HB66.out;have HB9:Hid (w9.heap[P6]? =some (blkO x.h)):=by
     rw[Hid,hw9,Below.heap_setCell _ _ _ _ (by have:=HP6.out;simp;omega)];exact(hg8.block _ (lt_of_heap hb9) fun e=>own_ne_ty hown (OtherTy.of hb9 (by decide)) e.symm).trans hb9
    have hs9:w6.heap.size≤w9.heap.size:=by rw[hw9,World.size_setCell];exact Nat.le_trans hb.size hg8.size
    have HMK9:Hid (Marks (w.heap.size+2) w9.heap.size ds w9):=by
     have:=HMK6.out.mono hs9;rw[Hid];refine this.keep ((Keep.ext hb).trans ((keep_ownR hown hg8).trans ?_));rw[hw9];exact Keep.setCell _ _ _
    clear q1 q2 q3 hz8 hp8 hl8 hown8 hg8 hat8 hnext hty hown hus us hg0 hLO hb ho hw9 hb9 hs9 HL5 HB66 HMK6;generalize w7.heap.size=s9;clear w11 w7;have hb6:=HB9.out;have l0:w9.cell? ⟨P6,0,none⟩=some (.slice x.h.ia x.h.n x.h.c):=by rw[cell_of_row _ _ _ _ _ _ hb6];rfl
    have l1:=lt_of_heap hb6;have hn64:x.h.n≤64:=HN6.out;have hm:=make_SI (x.h.n+1) (by omega) w9;rw[show((x.h.n+1:Nat):Int)=(x.h.n:Int)+1 by omega] at hm;clear hb6;go_upto_region 10 with (fail)
    clear hm l0 l1;clear hn64;obtain⟨w12,hw12⟩:∃w12,w12=(w9.alloc (rowN (x.h.n+1))).alloc (.cells #[.slice (some ⟨w9.heap.size,0,none⟩) (x.h.n+1) (x.h.n+1)] 88):=⟨_,rfl⟩
    rw[←hw12];have hx12:Below w9.heap.size w9 w12:=by rw[hw12];exact ext_trans (ext_alloc _ _) (ext_alloc _ _)
    have HTG:Hid (w12.heap[w9.heap.size]? =some (rowN (x.h.n+1))):=by rw[hw12];exact block_ext (ext_alloc _ _) (heap_alloc_new _ _)
    have HP7:Hid (w12.heap[w9.heap.size+1]? =some (.cells #[.slice (some ⟨w9.heap.size,0,none⟩) (x.h.n+1) (x.h.n+1)] 88 (0,0))):=by
     have:=heap_alloc_new (w9.alloc (rowN (x.h.n+1))) (.cells #[.slice (some ⟨w9.heap.size,0,none⟩) (x.h.n+1) (x.h.n+1)] 88);rw[Hid,hw12];simpa using this
    have HS12:Hid (w12.heap.size=w9.heap.size+2):=by rw[Hid,hw12];simp
    have HL12:=Lib.hid (HL9.out.ext hx12);have HB12:=Lib.hid (block_ext hx12 HB9.out);have HMK12:=Lib.hid ((HMK9.out.mono (hi':=w12.heap.size) hx12.size).keep (Keep.ext hx12));have HAPI:Hid ((Value.slice (some ⟨g,0,none⟩) (k+1) cap).ownBlock≠some w9.heap.size):=fun e=>by have:=(HL9.out.gI.lt e).2.1;omega
    have HAPO:Hid ((Value.slice (some ⟨g2,0,none⟩) (k+1) cap2).ownBlock≠some w9.heap.size):=fun e=>by have:=(HL9.out.gO.lt e).2.1;omega
    have HAPG:Hid (∀j,j<k→gs j≠w9.heap.size):=fun j hj e=>by
     obtain⟨us,h5,_⟩:=HL9.out.tb j hj;have:=lt_of_heap h5;omega
    have HTGL:Hid (w.heap.size+2≤w9.heap.size∧R0<w9.heap.size∧R1<w9.heap.size∧PF<w9.heap.size∧P6<w9.heap.size):=by
     have h1:=lt_of_heap HL9.out.fl;have h2:=HP0.out;have h3:=lt_of_heap HB9.out;exact⟨by omega,by omega,by omega,by omega,h3⟩
    clear hw12 hx12 HL9 HB9 HMK9;generalize w9.heap.size=TG at *;generalize hvI:Value.slice (some ⟨g,0,none⟩) (k+1) cap=vI at HL12 HAPI;generalize hvO:Value.slice (some ⟨g2,0,none⟩) (k+1) cap2=vO at HL12 HAPO;clear hvI hvO;have HBX:=Lib.hid (HB.out.ext HL12.out.b);have g1:∀w',(∃n:ExtW w12,w'=n.val)→w'.heap[P6]? =some (blkO x.h):=fun w' ⟨n,e⟩=>by rw[e];exact block_ext n.ext HB12.out
    have g2':∀n:ExtW w12,n.val.cell? ⟨PF,1,none⟩=some (.slice (some ⟨R1,0,none⟩) bn bn):=fun n=>by rw[cell_of_row _ _ _ _ _ _ (block_ext n.ext HL12.out.fl)];rfl
    have g3:∀n:ExtW w12,PF<n.val.heap.size:=fun n=>Nat.lt_of_lt_of_le (lt_of_heap HL12.out.fl) n.ext.size;have g4:∀w',(∃n:ExtW w12,w'=n.val)→w'.rangeAt R1 (k*16) (bsC (out k)):=fun w' ⟨n,e⟩=>by rw[e];exact ownW_range (OwnR.ext HL12.out.out n.ext) hlt
    have HNE:Nonempty (ExtW w12):=⟨⟨w12,Below.refl _ _⟩⟩
    refine region_mix (fun w'=>∃n:ExtW w12,w'=n.val) [(0,6,some (6,false))] (by kernel_rfl) (by kernel_rfl) ⟨⟨_,ext_drewN (Below.refl _ _) 1⟩,rfl⟩ ?_;simp only[wpMix,List.take_succ_cons,List.take_zero,List.drop_succ_cons,List.drop_zero]
    repeat (first
     |go_big_quiet_skip
     |((with_reducible show wpQuiet _ _ _ _ (⟨some 51,_,_,_,_,_⟩ :: _) _);refine wpQuiet_load_row (o:=⟨some 51,.load 67 _,_,_,_,_⟩) (by rfl) 67 _ rfl P6 rfl 67 _ (0,0) _ g1 Tryz.underlying67 rfl rfl ?_;simp only[Act.put,List.setIfInBounds_toArray,List.set_cons_succ,List.set_cons_zero])
     |((with_reducible show wpQuiet _ _ _ _ (⟨some 56,_,_,_,_,_⟩ :: _) _);refine wpQuiet_load_mid (o:=⟨some 56,.load 120 _,_,_,_,_⟩) (by rfl) 120 _ rfl R1 (k*16) rfl (bsC (out k)) _ g4 Tryz.underlying120 rfl bset_len' ?_;simp only[bsC_arr,Act.put,List.setIfInBounds_toArray,List.set_cons_succ,List.set_cons_zero])
     |go_big_quiet_step (fail))
    refine wpQuiet_nil ?_;clear g1 g2' g3 g4 HNE;refine wpOp_at rfl rfl ?_;go_simp;refine(points_any x.h (out k) w12.drew).mono ?_;rintro e w13 ⟨rfl,hw13⟩;refine NoPanic.normal ?_;have hx13:Below w12.heap.size w12 w13:=by rw[hw13];exact unDrew1 (ext_trans (ext_alloc _ _) (ext_alloc _ _))
    have h130:w13.heap[TG+2]? =some (blkO x.h):=by
     rw[←HS12.out,hw13];exact block_ext (ext_alloc _ _) (heap_alloc_new w12.drew _)
    have h131:w13.heap[TG+2+1]? =some (bsO (out k)):=by
     have:=heap_alloc_new (w12.drew.alloc (blkO x.h)) (bsO (out k));rw[World.size_alloc] at this;rw[←HS12.out,hw13];exact this
    have hs13:w13.heap.size=TG+4:=by
     rw[hw13,World.size_alloc,World.size_alloc];show w12.heap.size+1+1=_;rw[HS12.out]
    have HT0:Hid (LfJt w (funcO pa pn pc (some ⟨b,o,none⟩) bn bc) (bksL bs) bn R0 R1 PF inn out vI vO vA gs k x TG (TG+1) (TG+2) w13.heap.size ds (x.h.n+1) w13):=
     ⟨HL12.out.ext hx13,⟨fun _=>nilS,block_ext hx13 HTG.out,fun i h1 h2=>absurd h2 (by omega)⟩,block_ext hx13 HP7.out,h130,h131,(HMK12.out.mono hx13.size).keep (Keep.ext hx13)⟩
    have hz12:w12.drew.heap.size=TG+2:=HS12.out;rw[hz12];have HS13:=Lib.hid hs13;clear hx13 h130 h131 hs13 hz12 hw13 HL12 HMK12 HTG HP7 HB12 HS12 HBX;have HMX:=List.mem_of_getElem? HXK.out;have HNX:x.h.n≤17592186044416:=by have:=HN6.out;omega
    go_wp2;refine(wpIn_wide (n:=0)).1 ?_
    refine range_listO (ps:=#[58,59]) (gf:=77) (lb:=#[.pointer (some ⟨TG+2+1,0,none⟩),.pointer (some ⟨TG+2,0,none⟩)]) (enc:=encP) (l:=ptsL x.h.t (out k) x.rs (x.h.n+1)) rfl enter_points (PtsI x (out k) (TG+2+1) (TG+2)) (points_iter x (out k) (TG+2+1) (TG+2) (HNA.out x HMX) HNX) (fun _=>rfl)
     (fun _ s W=>Hid (∃m,s=ptsL x.h.t (out k) x.rs m∧m≤x.h.n+1∧LfJt w (funcO pa pn pc (some ⟨b,o,none⟩) bn bc) (bksL bs) bn R0 R1 PF inn out vI vO vA gs k x TG (TG+1) (TG+2) w13.heap.size ds m W)) (fun _ _=>False) ?hJ2 (fun _=>SteadyO.pure _ _) ?hInv2 (fun _ j=>j=TG) ?hT02 (fun _ _ _ _ _ _ _ h=>h) ?start2 ?round2 ?done2 ?stop2
    case hJ2=>exact fun d s=>SteadyO.ex fun m=>SteadyO.and (SteadyO.pure _ _) (SteadyO.and (SteadyO.pure _ _) (LfJt.steadyO rfl (by have:=HTGL.out;have:=HS13.out;omega) (by have:=HTGL.out;have:=HS13.out;omega) (by have:=HTGL.out;have:=HS13.out;omega) (by have:=HTGL.out;have:=HS13.out;omega) (by have:=HS13.out;omega) (Nat.le_refl _) (by have:=HS13.out;omega)))
    case hInv2=>
     intro d s W h;obtain⟨m,_,_,h⟩:=h.out;exact⟨h.s1,h.s0,(HB.out.2 x HMX).ext h.f.b⟩
    case hT02=>
     intro d s W j h e;obtain⟨m,_,_,h⟩:=h.out;have e:j=TG:=e;obtain⟨us,h5,_⟩:=h.t;rw[e];exact lt_of_heap h5
    case start2=>exact⟨x.h.n+1,rfl,Nat.le_refl _,HT0.out⟩
    case stop2=>rintro D c W hD h;exact h.elim
    case round2=>
     rintro lp2 d ⟨j,P⟩ s W hd hJ;obtain⟨m,hms,hml,hj⟩:=hJ.out;obtain⟨m',rfl,hy,hs⟩:=ptsL_cons hms.symm;obtain⟨e1,e2⟩:=Prod.mk.inj hy;subst e1 hs;have HPE:=Lib.hid e2;have HM:=Lib.hid hml;have HJ:=Lib.hid hj;unfold encP;clear hJ hj hy hd e2 hms hml
     gi_wp2_with ((with_reducible show wpListIn _ _ _ _ _ (⟨none,.store 120 _ _,_,_,_,_⟩ :: _) _ _);refine listIn_of (by repeat (first|exact noOut_round|refine noOut_then ?_|refine noOut_block ?_|exact fun⟨_,_,h⟩=>h)) _ _ _ rfl ?_;refine wpList_store_row rfl 120 _ _ rfl W.heap.size (setW P) rfl rfl 120 _ (heap_alloc_new _ _) (by rw[setW_size];exact size_bset) rfl (setW_all _) ?_)
     generalize hw3:World.setRow _ _ _=w3;have hb3:Below W.heap.size W w3:=by rw[←hw3];exact below_setRow (ext_alloc _ _) (Nat.le_refl _) _
     have hp3:w3.heap[W.heap.size]? =some (bsO P):=by rw[←hw3];exact setRow_heap _ _ _ _ _ _ (heap_alloc_new _ _)
     clear hw3;go_wp2;refine⟨Keep.ext hb3,⟨j+1,(by rw[HPE.out];rfl),HM.out,HJ.out.ext hb3⟩,⟨hb3.size,fun i hi _=>hb3.block i hi,fun i h=>.inl h⟩,fun V=>Hid (V.heap[W.heap.size]? =some (bsO P)),Steady.block _ _ rfl,hp3,?_⟩;obtain⟨P11,hP11⟩:∃P11,W.heap.size=P11:=⟨_,rfl⟩
     rw[hP11];clear hP11 hp3 hb3 HJ lp2 W w3;rintro lp2 W3 hJ3 hG3;obtain⟨m3,hm3,hl3,hj3⟩:=hJ3.out;obtain⟨m4,rfl,hy4,hs4⟩:=ptsL_cons hm3.symm;have hy4:=(Prod.mk.inj hy4).1;rw[←hy4] at hj3;clear hy4;have HJ3:=Lib.hid hj3;have HG3:=Lib.hid hG3.out;have q7:∀n:ExtW W3,n.val.cell? ⟨TG+1,0,none⟩=some (.slice (some ⟨TG,0,none⟩) (x.h.n+1) (x.h.n+1)):=fun n=>by rw[cell_of_row _ _ _ _ _ _ (block_ext n.ext HJ3.out.p7)];rfl
     have q9:∀w',(∃n:ExtW W3,w'=n.val)→w'.heap[P11]? =some (bsO P):=fun w' ⟨n,e⟩=>by rw[e];exact block_ext n.ext HG3.out
     have HNE:Nonempty (ExtW W3):=⟨⟨W3,Below.refl _ _⟩⟩
     have hm4:(j:Int)<(x.h.n+1:Nat):=by have:=HM.out;omega
     have hm4':(j:Int)<(x.h.n:Int)+1:=by have:=HM.out;omega
     clear hj3 hJ3 hG3 hs4 hm3 hl3
     gi_upto_region 13 with (fail)
     refine round_mix (fun w'=>∃n:ExtW W3,w'=n.val) [(0,3,some (3,true)),(4,1,some (5,false))] (by kernel_rfl) (by kernel_rfl) (by kernel_rfl) (by repeat (first|exact noOut_round|refine noOut_then ?_|refine noOut_block ?_)) ⟨⟨_,ext_drewN (Below.refl _ _) 1⟩,rfl⟩ ?_;simp only[wpMix,List.take_succ_cons,List.take_zero,List.drop_succ_cons,List.drop_zero]
     repeat (first
      |go_big_quiet_skip
      |((with_reducible show wpQuiet _ _ _ _ (⟨some 62,_,_,_,_,_⟩ :: _) _);refine wpQuiet_load_row (o:=⟨some 62,.load 120 _,_,_,_,_⟩) (by rfl) 120 _ rfl P11 rfl 120 _ (0,0) _ q9 Tryz.underlying120 rfl (by rw[setW_size];exact size_bset) ?_;simp only[Act.put,List.setIfInBounds_toArray,List.set_cons_succ,List.set_cons_zero])
      |go_big_quiet_step (fail))
     refine wpQuiet_nil ?_;clear q7 q9;refine wpOp_at rfl rfl ?_;go_simp;refine(bList_any P W3.drew (HTB.out.ext (ext_trans HJ3.out.f.b (ext_drewN (Below.refl _ _) 1)))).mono ?_;rintro e w5 ⟨v,rfl,ho,hb⟩;obtain⟨al3,cl3,rfl⟩:=ho.form
     replace hb:=unDrew1 hb
     refine⟨⟨⟨w5,hb⟩,rfl⟩,?_⟩;have hj5:=HJ3.out.ext hb;have hmt:=HM.out;have hu5:OwnI w5 (w.heap.size+2) (.slice al3 (intsN (bitsL 1024 P)).length cl3) (atL (bksL bs) k j):=by
      rw[←HLS.out.2.2 j,←HPE.out];exact ho.mono (by have:=lt_of_heap HJ3.out.f.lv;show w.heap.size+2≤W3.heap.size;omega)
     obtain⟨hput,hz1,⟨z,hz2⟩,hz3⟩:=hj5.put (by omega) HTGL.out.1 HAPI.out HAPO.out HAPG.out (by omega) hu5;have HPUT:=Lib.hid hput;have HBB:=Lib.hid hb;clear hput hu5 hj5 hb ho hmt
     repeat (go_big_quiet_step (fail))
     refine wpQuiet_nil ?_;refine wpOp_at rfl rfl ?_;go_simp;refine NoPanic.normal ?_;clear hz1 hz2 hz3 hm4 hm4' HNE;go_wp2;refine⟨(Keep.ext HBB.out).trans (Keep.setCell _ _ _),⟨j,rfl,by have:=HM.out;omega,HPUT.out⟩,?_,fun i hi hn=>?_,fun i h=>.inl h⟩
     ·rw[World.size_setCell];exact HBB.out.size
     ·rw[Below.heap_setCell _ _ _ _ (by simpa using hn)];exact HBB.out.block i hi
    case done2=>
     rintro D W hD hJ hK;obtain⟨m,hm,hl,hj⟩:=hJ.out;have hm0:m=0:=by
      cases m with
      |zero=>rfl
      |succ m=>cases hm
     subst hm0;have HMW:Hid (Marks (w.heap.size+2) W.heap.size (markD D :: ds) W):=hj.ma.cons hD (by have:=HTGL.out;have:=HS13.out;omega) (lt_of_heap hK) hK;have HJ:=Lib.hid hj;obtain⟨av,cv,hav⟩:=own_slice hj.f.gA;subst hav;have z0:W.cell? ⟨w.heap.size+1,2,none⟩=some (.slice av k cv):=by rw[cell_of_row _ _ _ _ _ _ hj.f.lv];rfl
     have z1:=lt_of_heap hj.f.lv;have z2:W.cell? ⟨TG+1,0,none⟩=some (.slice (some ⟨TG,0,none⟩) (x.h.n+1) (x.h.n+1)):=by rw[cell_of_row _ _ _ _ _ _ hj.p7];rfl
     have z3:w.heap.size+2≤W.heap.size:=by have:=lt_of_heap hj.f.lv;omega
     clear hJ hj hm hl hK;dsimp only
     go_wp2_with (
      (refine wpList_append1 (o:=⟨some 69,.call _,_,_,_,_⟩) rfl W (.tmp 66) (.tmp 68) 89 88 rfl (w.heap.size+2) _ 1 24 Tryz.underlying89 infoSS rfl (by omega) (.slice av k cv) k _ [.slice (some ⟨TG,0,none⟩) (x.h.n+1) (x.h.n+1)] rfl HJ.out.f.gA W.heap.size rfl rfl rfl (by simp[Value.oneCell']) (by simp only[maxLen];omega) (by omega) z3 ?_
       intro ga capa w15 hown hgr hat
       obtain⟨hp15,hz15⟩:=HJ.out.f.pushA (g:=TG) (v':=.slice (some ⟨ga,0,none⟩) (k+1) capa) hgr (by
        rw[←famL_snoc,famL_congr (g:=tabV gs (bksL bs)) (fun j hj=>by simp only[tabV];rw[if_neg (by omega)])];simp only[tabV,if_true];rw[HMB.out]
        exact hown) (by rw[HMB.out];exact HJ.out.t) HAPI.out HAPO.out HTGL.out.1
       have HP15:=Lib.hid hp15;have HMK15:Hid (Marks (w.heap.size+2) w15.heap.size (markD D :: ds) w15):=(HMW.out.mono hgr.size).keep (keep_ownR HJ.out.f.gA hgr);have q1:w15.cell? ⟨w.heap.size+1,2,none⟩=some (.slice av k cv):=by rw[cell_of_row _ _ _ _ _ _ hz15];rfl
       have q2:w15.frozen? ⟨w.heap.size+1,2,none⟩=false:=frozen_of_row _ _ _ _ _ hz15;have q3:=lt_of_heap hz15
       clear z0 z1 z2 z3 hown hgr hat hp15 hz15))
     refine fill_endL (m:=bn-k) (by kernel_rfl) (bn-(k+1)) (by omega) ?_;refine⟨k+1,_,_,_,_,rfl,by omega,?_,HP15,by rw[World.size_setCell];exact HMK15.out.keep (Keep.setCell _ _ _)⟩;show Value.int .i64 _=_
     go_num
   ·obtain rfl:k=bn:=by omega
    have hlt':¬(k:Int)<(k:Int):=by omega
    obtain⟨ai,ci,hvi⟩:=HLJ.out.gI.form;obtain⟨ao,co,hvo⟩:=HLJ.out.gO.form;obtain⟨aA,cA,hva⟩:=own_slice HLJ.out.gA;rw[famL_len] at hvi hvo;subst hvi hvo hva;have z0:wr.cell? ⟨w.heap.size+1,0,none⟩=some (.slice ai k ci):=by rw[cell_of_row _ _ _ _ _ _ HLJ.out.lv];rfl
    have z1:wr.cell? ⟨w.heap.size+1,1,none⟩=some (.slice ao k co):=by rw[cell_of_row _ _ _ _ _ _ HLJ.out.lv];rfl
    have z2:wr.cell? ⟨w.heap.size+1,2,none⟩=some (.slice aA k cA):=by rw[cell_of_row _ _ _ _ _ _ HLJ.out.lv];rfl
    have y0:wr.frozen? ⟨w.heap.size+1,0,none⟩=false:=frozen_of_row _ _ _ _ _ HLJ.out.lv;have y1:wr.frozen? ⟨w.heap.size+1,1,none⟩=false:=frozen_of_row _ _ _ _ _ HLJ.out.lv;have y2:wr.frozen? ⟨w.heap.size+1,2,none⟩=false:=frozen_of_row _ _ _ _ _ HLJ.out.lv;have hl1:=lt_of_heap HLJ.out.lv;refine(wpIn_wide (n:=0)).1 ?_
    gi_wp2
    obtain⟨w4,hw4⟩:∃w4,w4=((wr.setCell ⟨w.heap.size+1,0,none⟩ (.slice ai k ci)).setCell ⟨w.heap.size+1,1,none⟩ (.slice ao k co)).setCell ⟨w.heap.size+1,2,none⟩ (.slice aA k cA):=⟨_,rfl⟩
    rw[←hw4];have hg4:wr.grownBy w4 none:=by
     refine⟨by rw[hw4];rfl,by rw[hw4];rfl,by rw[hw4];rfl,by rw[hw4];simp,fun j hj _=>?_⟩;by_cases e:j=w.heap.size+1
     ·subst e;rw[hw4,heap_setCell_same _ _ _ _ _ _ (heap_setCell_same _ _ _ _ _ _ (heap_setCell_same _ _ _ _ _ _ HLJ.out.lv)),HLJ.out.lv];rfl
     ·rw[hw4,Below.heap_setCell _ _ _ _ (by simpa using e),Below.heap_setCell _ _ _ _ (by simpa using e),Below.heap_setCell _ _ _ _ (by simpa using e)]
    have hj4:=HLJ.out.keep hg4 fun q e=>by cases e
    have hm4:Marks (w.heap.size+2) wr.heap.size ds w4:=by rw[hw4];exact((HMK.out.keep (Keep.setCell _ _ _)).keep (Keep.setCell _ _ _)).keep (Keep.setCell _ _ _)
    clear z0 z1 z2 y0 y1 y2 hl1 hw4;refine leaves_marks (by simp) (lo:=w.heap.size+2) (hi:=wr.heap.size) _ (LfJ.steady (Nat.le_refl _)) (fun W hj=>?_) ds w4 hm4 hj4;have k0:W.cell? ⟨w.heap.size+1,0,none⟩=some (.slice ai k ci):=by rw[cell_of_row _ _ _ _ _ _ hj.lv];rfl
    have k1:W.cell? ⟨w.heap.size+1,1,none⟩=some (.slice ao k co):=by rw[cell_of_row _ _ _ _ _ _ hj.lv];rfl
    have k2:W.cell? ⟨w.heap.size+1,2,none⟩=some (.slice aA k cA):=by rw[cell_of_row _ _ _ _ _ _ hj.lv];rfl
    refine⟨.tuple #[.agg #[.slice ai k ci,.slice ao k co,.slice aA k cA],.int .i64 0],by simp[results,Tryz.results34,asAddr,k0,k1,k2,go_sem],.inr ⟨HRZ.out,⟨ai,ci,ao,co,aA,cA⟩,?_,?_⟩,hj.b⟩
    ·rw[HLb.out]
    ·rw[HLb.out];exact hj.post
end
end Go.Proofs.YtnmkjliioogbgaaGreatDoor
