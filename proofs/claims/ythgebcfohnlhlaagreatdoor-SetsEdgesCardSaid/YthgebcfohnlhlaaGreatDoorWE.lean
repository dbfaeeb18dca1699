/-
 live.On,at an edge of a right function.
-/
import Derived.Test.YthgebcfohnlhlaaGreatDoorSD
import Derived.Test.YthgebcfohnlhlaaGreatDoorTB
import Derived.Test.YthgebcfohnlhlaaGreatDoorZedMono
namespace Go.Proofs.YthgebcfohnlhlaaGreatDoor
set_option linter.unusedSimpArgs false
set_option linter.unusedVariables false
set_option linter.unusedSectionVars false
set_option maxRecDepth 100000
set_option maxHeartbeats 40000000
section
open Go.RowKit Go.Shelf
attribute [local go_sem] Oper.semAt_some wide_fn wide_depth wide_fnR wide_depthR
abbrev edgO(x:EdgeD):Obj:=.cells #[.int .i64 x.fr,.int .i64 x.arm,.int .i64 x.to] 86
theorem flow_fld(w:World)(a b:Option Addr)(n c m d:Nat):(Instr.field 171 (.agg #[.slice a n c,.slice b m d]) 0).run Tryz.prog w=.ok (.slice a n c) w:=by kernel_rfl
theorem liveOn_any(pa:Option Addr)(pn pc:Nat)(ps:List Int)(ba:Option Addr)(bn bc:Nat)(bs:List BlkR)(b j:Nat)(y:Int)(w:World)(hp:Ints w pa pn ps)(h:BlksR w ba bn bs)(hT:Tab w)(hR:rightE ps bs=0)
  (hb:b<bn) (x:BlkR) (hx:bs[b]? =some x) (hj:(toD x.h.t)[j]? =some y):
  Calls Tryz.prog 36 #[funcV pa pn pc ba bn bc,edgeV ⟨(b:Nat),(j:Nat),y⟩] w (IntsPost w (vInL (bksL bs) y.toNat)):=by
 have HPI:=Lib.hid hp
 have HB:=Lib.hid h
 have HTB:=Lib.hid hT
 have HLb:=Lib.hid h.1.1
 obtain⟨hlong,hwh,hti⟩:=rightE_zero hR
 obtain⟨hb0,hb200⟩:0<bn∧bn≤200:=by
  rw[longB,h.1.1] at hlong;simp only[Bool.or_eq_false_iff,decide_eq_false_iff_not] at hlong;omega
 have hjl:j<(toD x.h.t).length:=(List.getElem?_eq_some_iff.1 hj).1
 have hj2:j<2:=Nat.lt_of_lt_of_le hjl (toD_len _)
 have hy:1≤y∧y<(bn:Int):=by
  have h1:=List.all_eq_true.1 (List.all_eq_true.1 hti x (List.mem_of_getElem? hx)) y (List.mem_of_getElem? hj);rw[h.1.1] at h1;simpa using h1
 obtain⟨q,rfl⟩:∃q:Nat,y=(q:Int):=⟨y.toNat,by omega⟩
 have HNA:=Lib.hid (whole_na h hwh)
 have HIN:=Lib.hid hti
 have HRZ:=Lib.hid hR
 have HX:=Lib.hid hx
 have HJ:=Lib.hid hj
 clear hp h hT hlong hwh hti hR hx hj
 go_enter Tryz.func36,Tryz.ntmps36
 go_upto_region 1 with (fail)
 obtain⟨w0,hw0⟩:∃w0,w0=(w.alloc (funcO pa pn pc ba bn bc)).alloc (edgO ⟨(b:Nat),(j:Nat),(q:Nat)⟩):=⟨_,rfl⟩
 rw[←hw0]
 have HB0:Hid (Below w.heap.size w w0):=by rw[hw0];exact ext_trans (ext_alloc _ _) (ext_alloc _ _)
 have HF0:Hid (w0.heap[w.heap.size]? =some (funcO pa pn pc ba bn bc)):=by rw[hw0];exact block_ext (ext_alloc _ _) (heap_alloc_new _ _)
 have HE0:Hid (w0.heap[w.heap.size+1]? =some (edgO ⟨(b:Nat),(j:Nat),(q:Nat)⟩)):=by
  have:=heap_alloc_new (w.alloc (funcO pa pn pc ba bn bc)) (edgO ⟨(b:Nat),(j:Nat),(q:Nat)⟩);rw[World.size_alloc] at this;rw[Hid,hw0];exact this
 clear hw0
 have hblt:(b:Int)<(bn:Int):=by omega
 have hbn:¬bn≤b:=by omega
 go_upto_region 4 with (first
  |(refine wpList_load_row (o:=⟨some 6,.load 25 _,_,_,_,_⟩) rfl 25 _ rfl w.heap.size rfl 25 _ (0,0) _ HF0.out Tryz.underlying25 rfl size_func ?_)
  |(go_at_call 32
    refine(irRight_any pa pn pc ps ba bn bc bs w0 (HPI.out.ext HB0.out) (HB.out.ext HB0.out)).mono ?_;rw[HRZ.out];rintro e w1 ⟨rfl,hb1⟩;have HB1:=Lib.hid (ext_trans HB0.out hb1);have HF1:=Lib.hid (block_ext hb1 HF0.out);have HE1:=Lib.hid (block_ext hb1 HE0.out);obtain⟨x2,gb,ob,hx2,hok2,rfl,c0,c1,c2,c3,c4⟩:=blksR_cells (HB.out.ext HB1.out) hb;rw[HX.out] at hx2;cases hx2;have k0:w1.cell? ⟨w.heap.size,1,none⟩=some (.slice (some ⟨gb,ob,none⟩) bn bc):=(by rw[cell_of_row _ _ _ _ _ _ HF1.out];rfl)
    have k1:w1.cell? ⟨w.heap.size+1,0,none⟩=some (.int .i64 (b:Int)):=(by rw[cell_of_row _ _ _ _ _ _ HE1.out];rfl)
    have HOK:=Lib.hid hok2.1
    clear hb1 hok2)
  |(go_at_call 81
    refine(to_any x.h.t w1 HOK.out).mono ?_;rintro e w2 ⟨v2,rfl,ho2,hb2⟩;obtain⟨a2,cc2,rfl⟩:=ho2.form;have HB2:=Lib.hid (ext_trans HB1.out hb2);have HF2:=Lib.hid (block_ext hb2 HF1.out);have HE2:=Lib.hid (block_ext hb2 HE1.out);have HO2:=Lib.hid ho2.ints
    clear hb2 ho2))
 clear c0 c1 c2 c3 c4 k0 k1 hbn
 obtain⟨g2,o2,rfl,cj,_⟩:=HO2.out.2.2 j hjl
 have hgd:(toD x.h.t).getD j 0=(q:Int):=by rw[List.getD_eq_getElem?_getD,HJ.out];rfl
 rw[hgd] at cj
 have k1:w2.cell? ⟨w.heap.size+1,1,none⟩=some (.int .i64 (j:Int)):=by rw[cell_of_row _ _ _ _ _ _ HE2.out];rfl
 have k2:w2.cell? ⟨w.heap.size+1,2,none⟩=some (.int .i64 (q:Int)):=by rw[cell_of_row _ _ _ _ _ _ HE2.out];rfl
 have hjn:¬(toD x.h.t).length≤j:=by omega
 have hjlt:(j:Int)<((toD x.h.t).length:Int):=by omega
 have hl2:=toD_len x.h.t
 have hne:((q:Int) != (q:Int))=false:=by simp
 generalize (toD x.h.t).length=nl at*
 clear hgd
 go_quiet (fail)
 obtain⟨w3,hw3⟩:∃w3,w3=w2.drewN nq:=⟨_,rfl⟩
 rw[←hw3]
 have hb3:Below w2.heap.size w2 w3:=by rw[hw3];exact ext_drewN (Below.refl _ _) nq
 have HB3:=Lib.hid (ext_trans HB2.out hb3)
 have HF3:=Lib.hid (block_ext hb3 HF2.out)
 have HE3:=Lib.hid (block_ext hb3 HE2.out)
 clear hw3 hb3 cj k1 k2 hjn hjlt hl2 hne HO2 HF0 HF1 HF2 HE0 HE1 HE2 HB0 HB1 HB2
 have g1:∀w',(∃n:ExtW w3,w'=n.val)→w'.heap[w.heap.size]? =some (funcO pa pn pc (some ⟨gb,ob,none⟩) bn bc):=fun w' ⟨n,e⟩=>by rw[e];exact block_ext n.ext HF3.out
 have g2:∀n:ExtW w3,n.val.cell? ⟨w.heap.size+1,2,none⟩=some (.int .i64 (q:Int)):=fun n=>by rw[cell_of_row _ _ _ _ _ _ (block_ext n.ext HE3.out)];rfl
 have HNE:Nonempty (ExtW w3):=⟨⟨w3,Below.refl _ _⟩⟩
 have hqn:(q:Int)<(bn:Int):=hy.2
 go_upto_region 6 with (fail)
 refine z_start (fun w'=>∃n:ExtW w3,w'=n.val) (by kernel_rfl) ?_
 have E0:Below w3.heap.size w3 w3.drew:=ext_drewN (Below.refl _ _) 1
 refine z_reads 0 1 (by kernel_rfl) ⟨⟨_,E0⟩,rfl⟩ ?_
 simp only[List.take_succ_cons,List.take_zero,List.drop_succ_cons,List.drop_zero]
 refine wpQuiet_load_row (o:=⟨some 44,.load 25 _,_,_,_,_⟩) (by rfl) 25 _ rfl w.heap.size rfl 25 _ (0,0) _ g1 Tryz.underlying25 rfl size_func ?_
 simp only[Act.put,List.setIfInBounds_toArray,List.set_cons_succ,List.set_cons_zero]
 refine wpQuiet_nil ?_
 refine z_reads 3 2 (by kernel_rfl) ⟨⟨_,E0⟩,rfl⟩ ?_
 simp only[List.take_succ_cons,List.take_zero,List.drop_succ_cons,List.drop_zero]
 repeat (go_big_quiet_step (fail))
 refine wpQuiet_nil ?_
 refine z_one 1 (by kernel_rfl) ?_
 refine wpOp_at rfl rfl ?_
 go_simp
 refine(solved_any pa pn pc (some ⟨gb,ob,none⟩) bn bc bs w3.drew (HB.out.ext (ext_trans HB3.out E0)) hb0 hb200 HIN.out HNA.out).mono ?_
 rintro e w4 ⟨R0,R1,inn,out,rfl,hi,ho,hlv,hen,hb4⟩
 replace hb4:=unDrew1 hb4
 obtain⟨z,hz⟩:∃z,bs[q]? =some z:=⟨_,List.getElem?_eq_getElem (by rw[HLb.out];omega)⟩
 have HLL:Hid (intsN (bitsL 1024 (inn q))=vInL (bksL bs) q):=(live_lists hlv hen HIN.out hz).1
 refine⟨.inr ⟨⟨_,hb4⟩,rfl⟩,?_⟩
 refine z_later hb4 ?_
 clear g1 g2 HNE hz ho hlv hen
 have g3:∀w',(∃n:ExtW w4,w'=n.val)→w'.rangeAt R0 (q*16) (bsC (inn q)):=fun w' ⟨n,e⟩=>by rw[e];exact ownW_range (OwnR.ext hi n.ext) (by omega)
 have HNE:Nonempty (ExtW w4):=⟨⟨w4,Below.refl _ _⟩⟩
 have hfl:=fun w=>flow_fld w (some ⟨R0,0,none⟩) (some ⟨R1,0,none⟩) bn bn bn bn
 refine z_reads 2 1 (by kernel_rfl) ⟨⟨w4,Below.refl _ _⟩,rfl⟩ ?_
 simp only[List.take_succ_cons,List.take_zero,List.drop_succ_cons,List.drop_zero]
 repeat (go_big_quiet_step (fail))
 refine wpQuiet_nil ?_
 refine z_reads 5 2 (by kernel_rfl) ⟨⟨w4,Below.refl _ _⟩,rfl⟩ ?_
 simp only[List.take_succ_cons,List.take_zero,List.drop_succ_cons,List.drop_zero]
 go_big_quiet_step (fail)
 refine wpQuiet_load_mid (o:=⟨some 50,.load 168 _,_,_,_,_⟩) (by rfl) 168 _ rfl R0 (q*16) rfl (bsC (inn q)) _ g3 Tryz.underlying168 rfl bset_len' ?_
 simp only[bsC_arr,Act.put,List.setIfInBounds_toArray,List.set_cons_succ,List.set_cons_zero]
 refine wpQuiet_nil ?_
 refine z_one 7 (by kernel_rfl) ?_
 refine wpOp_at rfl rfl ?_
 go_simp
 refine(bList_any (inn q) w4 (HTB.out.ext (ext_trans HB3.out hb4))).mono ?_
 rintro e w5 ⟨v,rfl,ho,hb5⟩
 rw[HLL.out] at ho
 have HO:=Lib.hid ho
 have HB5:=Lib.hid (ext_trans HB3.out (ext_trans hb4 hb5))
 have HS:Hid (w.heap.size≤w4.heap.size):=by have:=HB3.out.size;have:=hb4.size;show _≤_;omega
 refine⟨.inr ⟨⟨_,hb5⟩,rfl⟩,?_⟩
 refine z_reads 8 1 (by kernel_rfl) ⟨⟨_,hb5⟩,rfl⟩ ?_
 simp only[List.take_succ_cons,List.take_zero,List.drop_succ_cons,List.drop_zero]
 repeat (go_big_quiet_step (fail))
 refine wpQuiet_nil ?_
 clear g3 ho hb5 hb4 hi
 refine z_done (by kernel_rfl) ?_
 go_wp2
 go_ret
 exact⟨_,rfl,HO.out.mono HS.out,HB5.out⟩
end
end Go.Proofs.YthgebcfohnlhlaaGreatDoor
