/-
 Blocks that are lent: LentBlock, KeptBlock, SameBlock, LentBlocks, KeptBlocks, SameBlocks.
-/
import Derived.Test.YtblhmdhfhaencaaGreatLR
import Derived.Test.YtblhmdhfhaencaaGreatTR
import Derived.Test.YtblhmdhfhaencaaGreatTD
import Derived.ArgAppend
import Derived.Deep.Onto
import Derived.Maps.AppendAt
import Derived.Deep.LoopGhost
namespace Go.Proofs.YtblhmdhfhaencaaGreat
set_option linter.unusedSimpArgs false
set_option linter.unusedVariables false
set_option linter.unusedSectionVars false
set_option maxRecDepth 100000
set_option maxHeartbeats 40000000
section
open Go.RowKit
theorem part_kind (cs : Array Value) (o : Nat) (v : Value) (w : World) (h : cs[o]? = some v) : (part 67 cs o).run Tryz.prog w = .ok v w := by
 have hu : (underlying 67).run Tryz.prog w = .ok (.int .i64) w := run_underlying Tryz.underlying67 w
 simp [part, isAgg, hu, h]
theorem info_to : (Tryz.prog.info? 68).map (fun i => (i.zero, i.size, i.bytes)) = some (some (.agg #[.int .i64 0, .int .i64 0]), 2, 16) := by kernel_rfl
theorem part_to (cs : Array Value) (o : Nat) (u v : Value) (w : World) (h : cs.extract o (o + 2) = #[u, v]) : (part 68 cs o).run Tryz.prog w = .ok (.agg #[u, v]) w := by
 have hu : (underlying 68).run Tryz.prog w = .ok _ w := run_underlying Tryz.underlying68 w
 obtain ⟨i, hi, -, hs, -⟩ := info_parts info_to
 have hz : (sizeOf 68).run Tryz.prog w = .ok 2 w := by simp [sizeOf, typeInfo, hi, hs]
 simp [part, isAgg, hu, hz, h]
theorem equal_toD (w : World) (d : Nat) (x0 x1 y0 y1 : Int) : (Op.equalIn (d + 2) 68 (.agg #[.int .i64 x0, .int .i64 x1]) (.agg #[.int .i64 y0, .int .i64 y1])).run Tryz.prog w = .ok (x0 == y0 && x1 == y1) w := by
 obtain ⟨i, hi, -, -, -⟩ := info_parts lentInfoI
 have h1 : Tryz.prog.cellsOf 3 = 1 := by kernel_rfl
 have e0 := run_equalIn_int w d 3 .i64 .i64 x0 y0 Tryz.underlying3
 have e1 := run_equalIn_int w d 3 .i64 .i64 x1 y1 Tryz.underlying3
 rw [run_equalIn_array w (d + 1) _ _ Tryz.underlying68 hi, h1]
 simp only [List.range, List.range.loop, Op.eqItems, Sem.run_bind, Nat.zero_mul, Nat.one_mul]
 rw [part_int _ 0 (.int .i64 x0) w rfl]
 simp only [Result.andThen_ok]
 rw [part_int _ 0 (.int .i64 y0) w rfl]
 simp only [Result.andThen_ok]
 rw [e0]
 simp only [Result.andThen_ok]
 cases hq : (x0 == y0) with
 | false => simp
 | true =>
   simp only [Bool.not_true, Bool.false_eq_true, if_false, Sem.run_bind];rw [part_int _ 1 (.int .i64 x1) w rfl];simp only [Result.andThen_ok];rw [part_int _ 1 (.int .i64 y1) w rfl];simp only [Result.andThen_ok];rw [e1];simp only [Result.andThen_ok];cases hq : (x1 == y1) <;> simp
theorem fields_term : (Tryz.prog.fieldsOf 70).toList.map (fun f => (f.name, f.type, f.offset)) = [("Kind", 67, 0), ("A", 3, 1), ("To", 68, 2)] := by kernel_rfl
theorem under_term : Tryz.prog.underlying 70 = some (.struct (Tryz.prog.fieldsOf 70)) := by kernel_rfl
theorem stood_term : Tryz.prog.stoodInHeld 70 = false := by kernel_rfl
theorem eql_term (w : World) (x0 x1 x2 x3 : Int) : (binOp .eql 70 (.agg #[.int .i64 x0, .int .i64 x1, .int .i64 x2, .int .i64 x3]) (.agg #[.int .i64 x0, .int .i64 x1, .int .i64 x2, .int .i64 x3])).run Tryz.prog w = .ok (.bool true) w := by
 rw [run_eql_struct, run_equalIn_struct w 9999 _ _ _ under_term stood_term]
 rw [eqFields3 w 9999 _ _ _ _ _ _ _ _ _ _ _ _ fields_term (by decide) (by decide) (by decide) (.int .i64 x0) (.int .i64 x0) (.int .i64 x1) (.int .i64 x1) (.agg #[.int .i64 x2, .int .i64 x3]) (.agg #[.int .i64 x2, .int .i64 x3]) _ _ _ (part_kind _ _ _ w rfl) (part_kind _ _ _ w rfl) (part_int _ _ _ w rfl) (part_int _ _ _ w rfl) (part_to _ _ _ _ w rfl) (part_to _ _ _ _ w rfl) (run_equalIn_int w 9998 _ .i64 .i64 _ _ Tryz.underlying67) (run_equalIn_int w 9998 _ .i64 .i64 _ _ Tryz.underlying3) (equal_toD w 9997 _ _ _ _)]
 simp
def BlkNA (b : BlkR) : Prop := b.h.n ≤ 1000000 ∧ ∀ r ∈ b.rs, InsNA r
def SDBlk (r s : BlkR) : Prop := r.h.t = s.h.t ∧ r.h.n = s.h.n ∧ SameEs SDIns r.rs s.rs
theorem SDBlk_refl (r : BlkR) : SDBlk r r := ⟨rfl, rfl, rfl, fun k x y h1 h2 => by rw [h1] at h2; cases h2; rfl⟩
abbrev blkVR (b : BlkR) : Value := blkV b.h
theorem info_Block : (Tryz.prog.info? 73).map (fun i => (i.zero, i.size, i.bytes)) = some (some (.agg #[.slice none 0 0, .int .i64 0, .int .i64 0, .int .i64 0, .int .i64 0]), 5, 56) := by kernel_rfl
theorem Block_one (r : BlkR) : ∀ u ∈ blkC' r, u.oneCell' = true := by
 intro u hu
 simp only [blkC', blkC, List.mem_cons, List.not_mem_nil, or_false] at hu
 rcases hu with rfl | rfl | rfl | rfl | rfl <;> rfl
def LentB (w : World) (base : Nat) (r r' : BlkR) : Prop := r'.h.t = r.h.t ∧ r'.h.n = r.h.n ∧ LentRow w base (.slice r'.h.ia r'.h.n r'.h.c) r.rs r'.rs
theorem LentB.sd {w : World} {base : Nat} {r r' : BlkR} (h : LentB w base r r') : SDBlk r' r := by
 obtain ⟨h1, h2, _, _, _, _, h3⟩ := h
 exact ⟨h1, h2, h3.same fun _ _ h => h.sd⟩
theorem LentB_law : LentLaw [216, 3] LentB where
 chg := fun h hc hn => ⟨h.1, h.2.1, h.2.2.chg LentR_law hc hn⟩
 mono := fun hb h => ⟨h.1, h.2.1, h.2.2.mono LentR_law hb⟩
 grown := fun he h ho hg => ⟨h.1, h.2.1, h.2.2.grown LentR_law he ho hg⟩
theorem LentB.ok {w : World} {base : Nat} {r r' : BlkR} (h : LentB w base r r') (hr : BlkROK w r) (hna : BlkNA r) : BlkROK w r' := by
 obtain ⟨⟨ia, n, c, t⟩, rs⟩ := r'
 obtain ⟨h1, h2, h3⟩ := h
 obtain ⟨g, cap, e⟩ := h3.form
 injection e with e1 e2 e3
 obtain rfl : ia = some ⟨g, 0, none⟩ := e1
 obtain rfl : n = r.h.n := h2
 obtain rfl : t = r.h.t := h1
 exact ⟨hr.1, (h3.okS hr.2 hna.1 hna.2).2.1⟩
def markB (i : Nat) : BlkR := ⟨⟨none, 0, 0, ⟨0, markV 1 (i : Int), 0, 0⟩⟩, []⟩
theorem markB_ok (w : World) (k : Nat) (hk : k < 12) : BlkROK w (markB k) := by
 have hm : I64 (markV 1 (k : Int)) := by unfold I64 markV; omega
 have z : I64 0 := by unfold I64; omega
 exact ⟨⟨z, hm, z, z⟩, ⟨rfl, Nat.zero_le _, fun j r h => by simp [markB] at h⟩, fun r hr => by simp [markB] at hr⟩
theorem markB_na (k : Nat) : BlkNA (markB k) := ⟨by simp [markB], fun r hr => by simp [markB] at hr⟩
theorem lentBlock_any (r : BlkR) (w : World) (h : BlkROK w r) (hn : BlkNA r) :
  Calls Tryz.prog 113 #[blkVR r] w fun e w' => ∃ r', e = .returned (blkVR r') ∧ LentB w' w.heap.size r r' ∧ Below w.heap.size w w' := by
 have H := Lib.hid h
 have HN := Lib.hid hn
 clear h hn
 go_enter Tryz.func113, Tryz.ntmps113
 go_wp2_with (first
  | (go_at_call 170
     refine (lentRow_any r.h.ia r.h.n r.h.c r.rs _ (H.out.2.ext (ext_trans (ext_alloc _ _) (ext_alloc _ _))) HN.out.1 HN.out.2).mono ?_;rintro e w1 ⟨v, rs0, rfl, hL, hb⟩;obtain ⟨g0, cap0, rfl⟩ := hL.form;obtain ⟨x1, x2, x3⟩ := box2 w (.cells #[.slice r.h.ia r.h.n r.h.c, .int .i64 r.h.t.kind, .int .i64 r.h.t.a, .int .i64 r.h.t.t0, .int .i64 r.h.t.t1] 73) (.cells #[.slice none 0 0, .int .i64 0, .int .i64 0, .int .i64 0, .int .i64 0] 73) w1 hb;have y6 : w1.cell? ⟨w.heap.size, 0, none⟩ = some (.slice r.h.ia r.h.n r.h.c) := by rw [cell_of_row _ _ _ _ _ _ x1]; rfl
     have z6 : w1.frozen? ⟨w.heap.size, 0, none⟩ = false := frozen_of_row _ _ _ _ _ x1;obtain ⟨W1, hW2⟩ : ∃ W, w1.setCell ⟨w.heap.size, 0, none⟩ (.slice (some ⟨g0, 0, none⟩) r.rs.length cap0) = W := ⟨_, rfl⟩
     have c2 : Chg (fun k => k = w.heap.size) w1 W1 := by rw [← hW2]; exact chg_setCell _ _ _ _
     have HL1_0 := Lib.hid (hL.chg LentR_law c2 (fun k hk => by simp; omega));have X1 : W1.heap[w.heap.size]? = some (.cells #[.slice (some ⟨g0, 0, none⟩) r.rs.length cap0, .int .i64 r.h.t.kind, .int .i64 r.h.t.a, .int .i64 r.h.t.t0, .int .i64 r.h.t.t1] 73 (0, 0)) := by rw [← hW2, heap_setCell_same _ _ 0 _ _ _ x1]; rfl
     have HK1 := Lib.hid X1;have HZ1 := Lib.hid (c2.row x2 (by omega));have HX1 := Lib.hid (x3.trans (c2.below (B := w.heap.size) x3.size (fun k hk => by omega)));have i1_0 : W1.cell? ⟨w.heap.size, 0, none⟩ = some (.slice (some ⟨g0, 0, none⟩) r.rs.length cap0) := by rw [cell_of_row _ _ _ _ _ _ X1]; rfl
     have i1_1 : W1.cell? ⟨w.heap.size, 1, none⟩ = some (.int .i64 r.h.t.kind) := by rw [cell_of_row _ _ _ _ _ _ X1]; rfl
     have i1_2 : W1.cell? ⟨w.heap.size, 2, none⟩ = some (.int .i64 r.h.t.a) := by rw [cell_of_row _ _ _ _ _ _ X1]; rfl
     have i1_3 : W1.cell? ⟨w.heap.size, 3, none⟩ = some (.int .i64 r.h.t.t0) := by rw [cell_of_row _ _ _ _ _ _ X1]; rfl
     have i1_4 : W1.cell? ⟨w.heap.size, 4, none⟩ = some (.int .i64 r.h.t.t1) := by rw [cell_of_row _ _ _ _ _ _ X1]; rfl
     clear hL x1 x2 x3 hb c2 X1)
  | (refine wpList_store_rowC rfl 73 _ _ rfl (w.heap.size + 1) #[.slice (some ⟨g0, 0, none⟩) r.rs.length cap0, .int .i64 r.h.t.kind, .int .i64 r.h.t.a, .int .i64 r.h.t.t0, .int .i64 r.h.t.t1] rfl rfl 73 _ HZ1.out (by kernel_rfl) rfl (by simp [Value.oneCell']) ?_
     intro W9 c3 X3;have HL9_0 := Lib.hid (HL1_0.out.chg LentR_law c3 (fun k hk => by simp; omega));have HX9 := Lib.hid (HX1.out.trans (c3.below (B := w.heap.size) HX1.out.size (fun k hk => by omega)));have j0 : W9.cell? ⟨w.heap.size + 1, 0, none⟩ = some (.slice (some ⟨g0, 0, none⟩) r.rs.length cap0) := by rw [cell_of_row _ _ _ _ _ _ X3]; rfl
     have j1 : W9.cell? ⟨w.heap.size + 1, 1, none⟩ = some (.int .i64 r.h.t.kind) := by rw [cell_of_row _ _ _ _ _ _ X3]; rfl
     have j2 : W9.cell? ⟨w.heap.size + 1, 2, none⟩ = some (.int .i64 r.h.t.a) := by rw [cell_of_row _ _ _ _ _ _ X3]; rfl
     have j3 : W9.cell? ⟨w.heap.size + 1, 3, none⟩ = some (.int .i64 r.h.t.t0) := by rw [cell_of_row _ _ _ _ _ _ X3]; rfl
     have j4 : W9.cell? ⟨w.heap.size + 1, 4, none⟩ = some (.int .i64 r.h.t.t1) := by rw [cell_of_row _ _ _ _ _ _ X3]; rfl
     clear c3 X3))
 refine bodyPost_ret (v := .agg #[.slice (some ⟨g0, 0, none⟩) r.rs.length cap0, .int .i64 r.h.t.kind, .int .i64 r.h.t.a, .int .i64 r.h.t.t0, .int .i64 r.h.t.t1]) (by simp [results, Tryz.results113, go_sem, j0, j1, j2, j3, j4]) rfl ⟨⟨⟨some ⟨g0, 0, none⟩, r.rs.length, cap0, r.h.t⟩, rs0⟩, rfl, ?_, HX9.out⟩
 exact ⟨rfl, H.out.2.1.1, HL9_0.out.mono LentR_law (by simp; omega)⟩
theorem sameBlock_any (r s : BlkR) (w : World) (hd : SDBlk r s) (hr : BlkROK w r) (hs : BlkROK w s) (hna : BlkNA s) :
  Calls Tryz.prog 120 #[blkVR r, blkVR s] w fun e w' => e = .returned (.bool true) ∧ Below w.heap.size w w' := by
 obtain ⟨⟨ria, rn, rc, rt⟩, rrs⟩ := r
 obtain ⟨h1, h2, h3⟩ := hd
 obtain rfl : rt = s.h.t := h1
 obtain rfl : rn = s.h.n := h2
 have HR := Lib.hid hr
 have HS := Lib.hid hs
 have HSD : Hid (SameEs SDIns rrs s.rs) := h3
 have HNA := Lib.hid hna.2
 clear hr hs hna h3
 obtain ⟨W0, HW0, hR, hS, hW0⟩ := boxes2 w (.cells #[.slice ria s.h.n rc, .int .i64 s.h.t.kind, .int .i64 s.h.t.a, .int .i64 s.h.t.t0, .int .i64 s.h.t.t1] 73) (.cells #[.slice s.h.ia s.h.n s.h.c, .int .i64 s.h.t.kind, .int .i64 s.h.t.a, .int .i64 s.h.t.t0, .int .i64 s.h.t.t1] 73)
 have x0 : ∀ w', Below W0.heap.size W0 w' → w'.cell? ⟨w.heap.size, 0, none⟩ = some (.slice ria s.h.n rc) := fun w' hb => by rw [cell_of_row _ _ _ _ _ _ (block_ext hb hR)]; rfl
 have x1 : ∀ w', Below W0.heap.size W0 w' → w'.cell? ⟨w.heap.size, 1, none⟩ = some (.int .i64 s.h.t.kind) := fun w' hb => by rw [cell_of_row _ _ _ _ _ _ (block_ext hb hR)]; rfl
 have x2 : ∀ w', Below W0.heap.size W0 w' → w'.cell? ⟨w.heap.size, 2, none⟩ = some (.int .i64 s.h.t.a) := fun w' hb => by rw [cell_of_row _ _ _ _ _ _ (block_ext hb hR)]; rfl
 have x3 : ∀ w', Below W0.heap.size W0 w' → w'.cell? ⟨w.heap.size, 3, none⟩ = some (.int .i64 s.h.t.t0) := fun w' hb => by rw [cell_of_row _ _ _ _ _ _ (block_ext hb hR)]; rfl
 have x4 : ∀ w', Below W0.heap.size W0 w' → w'.cell? ⟨w.heap.size, 4, none⟩ = some (.int .i64 s.h.t.t1) := fun w' hb => by rw [cell_of_row _ _ _ _ _ _ (block_ext hb hR)]; rfl
 have y0 : ∀ w', Below W0.heap.size W0 w' → w'.cell? ⟨w.heap.size + 1, 0, none⟩ = some (.slice s.h.ia s.h.n s.h.c) := fun w' hb => by rw [cell_of_row _ _ _ _ _ _ (block_ext hb hS)]; rfl
 have y1 : ∀ w', Below W0.heap.size W0 w' → w'.cell? ⟨w.heap.size + 1, 1, none⟩ = some (.int .i64 s.h.t.kind) := fun w' hb => by rw [cell_of_row _ _ _ _ _ _ (block_ext hb hS)]; rfl
 have y2 : ∀ w', Below W0.heap.size W0 w' → w'.cell? ⟨w.heap.size + 1, 2, none⟩ = some (.int .i64 s.h.t.a) := fun w' hb => by rw [cell_of_row _ _ _ _ _ _ (block_ext hb hS)]; rfl
 have y3 : ∀ w', Below W0.heap.size W0 w' → w'.cell? ⟨w.heap.size + 1, 3, none⟩ = some (.int .i64 s.h.t.t0) := fun w' hb => by rw [cell_of_row _ _ _ _ _ _ (block_ext hb hS)]; rfl
 have y4 : ∀ w', Below W0.heap.size W0 w' → w'.cell? ⟨w.heap.size + 1, 4, none⟩ = some (.int .i64 s.h.t.t1) := fun w' hb => by rw [cell_of_row _ _ _ _ _ _ (block_ext hb hS)]; rfl
 have E0 : Below W0.heap.size W0 W0 := Below.refl _ _
 have hq := eql_term
 clear hR hS
 go_enter Tryz.func120, Tryz.ntmps120
 go_wp2_with (first
  | (go_at_call 172
     refine (sameRow_any ria s.h.ia s.h.n rc s.h.c rrs s.rs W0 ((HR.out.2.ext HW0.out).ext E0) ((HS.out.2.ext HW0.out).ext E0) HSD.out HNA.out).mono ?_;rintro e w1 ⟨rfl, hb1⟩
     have E1 : Below W0.heap.size W0 w1 := ext_trans E0 hb1))
 go_ret
 exact ⟨rfl, ext_trans HW0.out E1⟩
theorem keptBlock_any (r s : BlkR) (base : Nat) (w : World) (h : LentB w base s r) (hs : BlkROK w s) (hn : BlkNA s) :
  Calls Tryz.prog 119 #[blkVR r, blkVR s] w fun e w' => e = .returned (.bool true) ∧ Below w.heap.size w w' := by
 obtain ⟨⟨ria, rn, rc, rt⟩, rrs⟩ := r
 obtain ⟨g, cap, e⟩ := h.2.2.form
 injection e with e1 e2 e3
 obtain rfl : ria = some ⟨g, 0, none⟩ := e1
 obtain rfl : rc = cap := e3
 obtain rfl : rn = s.h.n := h.2.1
 clear e2
 have HR := Lib.hid (h.ok hs hn)
 have HS := Lib.hid hs
 have HH := Lib.hid h
 have HN := Lib.hid hn
 have HD := Lib.hid h.sd
 clear hs h hn
 obtain ⟨W0, HW0, hR, hS, hW0⟩ := boxes2 w (.cells #[.slice (some ⟨g, 0, none⟩) s.h.n rc, .int .i64 rt.kind, .int .i64 rt.a, .int .i64 rt.t0, .int .i64 rt.t1] 73) (.cells #[.slice s.h.ia s.h.n s.h.c, .int .i64 s.h.t.kind, .int .i64 s.h.t.a, .int .i64 s.h.t.t0, .int .i64 s.h.t.t1] 73)
 have x0 : ∀ w', Below W0.heap.size W0 w' → w'.cell? ⟨w.heap.size, 0, none⟩ = some (.slice (some ⟨g, 0, none⟩) s.h.n rc) := fun w' hb => by rw [cell_of_row _ _ _ _ _ _ (block_ext hb hR)]; rfl
 have x1 : ∀ w', Below W0.heap.size W0 w' → w'.cell? ⟨w.heap.size, 1, none⟩ = some (.int .i64 rt.kind) := fun w' hb => by rw [cell_of_row _ _ _ _ _ _ (block_ext hb hR)]; rfl
 have x2 : ∀ w', Below W0.heap.size W0 w' → w'.cell? ⟨w.heap.size, 2, none⟩ = some (.int .i64 rt.a) := fun w' hb => by rw [cell_of_row _ _ _ _ _ _ (block_ext hb hR)]; rfl
 have x3 : ∀ w', Below W0.heap.size W0 w' → w'.cell? ⟨w.heap.size, 3, none⟩ = some (.int .i64 rt.t0) := fun w' hb => by rw [cell_of_row _ _ _ _ _ _ (block_ext hb hR)]; rfl
 have x4 : ∀ w', Below W0.heap.size W0 w' → w'.cell? ⟨w.heap.size, 4, none⟩ = some (.int .i64 rt.t1) := fun w' hb => by rw [cell_of_row _ _ _ _ _ _ (block_ext hb hR)]; rfl
 have y0 : ∀ w', Below W0.heap.size W0 w' → w'.cell? ⟨w.heap.size + 1, 0, none⟩ = some (.slice s.h.ia s.h.n s.h.c) := fun w' hb => by rw [cell_of_row _ _ _ _ _ _ (block_ext hb hS)]; rfl
 have y1 : ∀ w', Below W0.heap.size W0 w' → w'.cell? ⟨w.heap.size + 1, 1, none⟩ = some (.int .i64 s.h.t.kind) := fun w' hb => by rw [cell_of_row _ _ _ _ _ _ (block_ext hb hS)]; rfl
 have y2 : ∀ w', Below W0.heap.size W0 w' → w'.cell? ⟨w.heap.size + 1, 2, none⟩ = some (.int .i64 s.h.t.a) := fun w' hb => by rw [cell_of_row _ _ _ _ _ _ (block_ext hb hS)]; rfl
 have y3 : ∀ w', Below W0.heap.size W0 w' → w'.cell? ⟨w.heap.size + 1, 3, none⟩ = some (.int .i64 s.h.t.t0) := fun w' hb => by rw [cell_of_row _ _ _ _ _ _ (block_ext hb hS)]; rfl
 have y4 : ∀ w', Below W0.heap.size W0 w' → w'.cell? ⟨w.heap.size + 1, 4, none⟩ = some (.int .i64 s.h.t.t1) := fun w' hb => by rw [cell_of_row _ _ _ _ _ _ (block_ext hb hS)]; rfl
 have E0 : Below W0.heap.size W0 W0 := Below.refl _ _
 clear hR hS
 go_enter Tryz.func119, Tryz.ntmps119
 go_wp2_with (first
  | (go_at_call 171
     refine (keptRow_any base _ _ s.h.ia s.h.n s.h.c s.rs rrs w1 (LentB_law.ext (LentB_law.ext HH.out HW0.out) E1).2.2 ((HS.out.ext HW0.out).ext E1).2 HN.out.1 HN.out.2).mono ?_;rintro e w2 ⟨rfl, hb2⟩
     have E2 : Below W0.heap.size W0 w2 := ext_trans E1 hb2)
  | (go_at_call 120
     refine (sameBlock_any ⟨⟨some ⟨g, 0, none⟩, s.h.n, rc, rt⟩, rrs⟩ s W0 HD.out (HR.out.ext HW0.out) (HS.out.ext HW0.out) HN.out).mono ?_
     rintro e w1 ⟨rfl, E1⟩))
 go_ret
 exact ⟨rfl, ext_trans HW0.out E2⟩
theorem markBlock_any (i : Nat) (w : World) (hi : i ≤ 100000) :
  Calls Tryz.prog 114 #[.int .i64 1, .int .i64 (i : Int)] w fun e w' => e = .returned (blkVR (markB i)) ∧ Below w.heap.size w w' := by
 go_enter Tryz.func114, Tryz.ntmps114
 go_wp2_with (first
  | (go_at_call 112; refine (mark_any _ _ _ (by omega) (by omega)).mono ?_; rintro e w' ⟨rfl, rfl⟩)
  | (refine wpList_store_rowB rfl 73 _ _ rfl w.heap.size #[.slice none 0 0, .int .i64 0, .int .i64 (markV 1 (i : Int)), .int .i64 0, .int .i64 0] rfl rfl 73 _ (heap_alloc_new w _) (by kernel_rfl) rfl (by simp [Value.oneCell']) w.heap.size w (ext_alloc w _) (Nat.le_refl _) ?_
     intro W3 hb3 X3;have HX := Lib.hid hb3;have j0 : W3.cell? ⟨w.heap.size, 0, none⟩ = some (.slice none 0 0) := by rw [cell_of_row _ _ _ _ _ _ X3]; rfl
     have j1 : W3.cell? ⟨w.heap.size, 1, none⟩ = some (.int .i64 0) := by rw [cell_of_row _ _ _ _ _ _ X3]; rfl
     have j2 : W3.cell? ⟨w.heap.size, 2, none⟩ = some (.int .i64 (markV 1 (i : Int))) := by rw [cell_of_row _ _ _ _ _ _ X3]; rfl
     have j3 : W3.cell? ⟨w.heap.size, 3, none⟩ = some (.int .i64 0) := by rw [cell_of_row _ _ _ _ _ _ X3]; rfl
     have j4 : W3.cell? ⟨w.heap.size, 4, none⟩ = some (.int .i64 0) := by rw [cell_of_row _ _ _ _ _ _ X3]; rfl
     clear hb3 X3))
 refine bodyPost_ret (v := blkVR (markB i)) (by simp [results, Tryz.results114, go_sem, j0, j1, j2, j3, j4, markB]) rfl ⟨rfl, HX.out⟩
theorem BlksR.cells {w : World} {a : Option Addr} {n : Nat} {rs : List BlkR} (h : BlksR w a n rs) {k : Nat} (hk : k < n) : ∃ r b o, rs[k]? = some r ∧ BlkROK w r ∧ a = some ⟨b, o, none⟩ ∧ w.cell? ⟨b, o + k * 5, none⟩ = some (.slice r.h.ia r.h.n r.h.c) ∧ w.cell? ⟨b, o + k * 5 + 1, none⟩ = some (.int .i64 r.h.t.kind) ∧ w.cell? ⟨b, o + k * 5 + 2, none⟩ = some (.int .i64 r.h.t.a) ∧ w.cell? ⟨b, o + k * 5 + 3, none⟩ = some (.int .i64 r.h.t.t0) ∧ w.cell? ⟨b, o + k * 5 + 4, none⟩ = some (.int .i64 r.h.t.t1) := by
 have hk' : k < rs.length := by rw [h.1.1]; exact hk
 obtain ⟨b, o, e, hc⟩ := h.1.2.2 k rs[k] (List.getElem?_eq_getElem hk')
 exact ⟨rs[k], b, o, List.getElem?_eq_getElem hk', h.2 _ (List.getElem_mem hk'), e, hc 0 (by omega), hc 1 (by omega), hc 2 (by omega), hc 3 (by omega), hc 4 (by omega)⟩
abbrev LentBlocks (w : World) (base : Nat) (v : Value) (rs rs' : List BlkR) : Prop := LentL blkC' 5 73 LentB markB w base v rs rs'
def LentBlocksPost (w : World) (rs : List BlkR) (e : Ending) (w' : World) : Prop := ∃ v rs', e = .returned v ∧ LentBlocks w' w.heap.size v rs rs' ∧ Below w.heap.size w w'
theorem LentBlocks.okS {w : World} {base : Nat} {g n cap : Nat} {rs rs' : List BlkR} {a : Option Addr} (h : LentBlocks w base (.slice (some ⟨g, 0, none⟩) n cap) rs rs') (hs : BlksR w a n rs) (hn : n ≤ 1000000) (hna : ∀ r ∈ rs, BlkNA r) :
  BlksR w (some ⟨g, 0, none⟩) (n + 12) (rs' ++ markL markB) ∧ BlksR w (some ⟨g, 0, none⟩) n rs' ∧ rs'.length = n ∧ n + 12 ≤ cap ∧ cap ≤ maxLen ∧ LentEs LentB w base rs rs' := by
 obtain ⟨h1, h2, h3, h4, h5, h6⟩ := h.recs blkC'_len (by omega) hn
 have ho : ∀ r ∈ rs', BlkROK w r := fun r hm => by
  obtain ⟨k, hk, e⟩ := List.mem_iff_getElem.1 hm;have hk2 : k < rs.length := by rw [← h6.1]; exact hk
  exact (h6.2 k rs[k] r (List.getElem?_eq_getElem hk2) (by rw [List.getElem?_eq_getElem hk, e])).ok (hs.2 _ (List.getElem_mem hk2)) (hna _ (List.getElem_mem hk2))
 refine ⟨⟨h1, fun r hm => ?_⟩, ⟨h.recsN blkC'_len (by omega) hn, ho⟩, h3, h4, h5, h6⟩
 rcases List.mem_append.1 hm with hm | hm
 · exact ho r hm
 · exact markL_all (OK := fun r => BlkROK w r) (fun j hj => markB_ok w j hj) r hm
theorem lentBlocks_any (a : Option Addr) (n c : Nat) (rs : List BlkR) (w : World) (h : BlksR w a n rs) (hn : n ≤ 1000000) (hna : ∀ r ∈ rs, BlkNA r) :
  Calls Tryz.prog 53 #[.slice a n c] w (LentBlocksPost w rs) := by
 obtain ⟨i0, hi, hz0, hz1, hz2⟩ := info_parts (P := Tryz.prog) info_Block
 have HL := Lib.hid h.1.1
 have H := Lib.hid h
 have HNA := Lib.hid hna
 clear h hna
 go_enter Tryz.func53, Tryz.ntmps53
 go_wp2_with (first
  | (at_make
     refine wpList_make_own _ rfl _ _ 23 rfl w.heap.size 73 i0 _ 5 Tryz.underlying23 hi hz0 hz1 .i64 .i64 _ (n + 12) rfl rfl (by omega) (by rw [hz2]; omega) (by simp only [maxLen]; omega) (Nat.le_refl _) ?_;intro w1 hown1 hg1;have HO1 := Lib.hid hown1;have HB1 : Hid (Below w.heap.size w w1) := (Below.refl _ _).grown hg1 (Nat.le_refl _) (by simp)
     clear hown1 hg1))
 go_loopw [3, 4, 5] (fun v i _ wr => ∃ (k : Nat) (rs' : List BlkR), k ≤ n ∧ i = .int .i64 k ∧ Hid (wr.ownsRow w.heap.size 73 5 v k (rs'.flatMap blkC')) ∧ Hid (LentEs LentB wr w.heap.size (rs.take k) rs') ∧ Hid (Below w.heap.size w wr)) (fun _ i _ _ => n - (intOf i).toNat)
 case atStart => exact ⟨0, [], by omega, rfl, HO1, LentEs.nil _ _, HB1⟩
 case round =>
  obtain ⟨k, rs', hk, rfl, HO, HLR, HB⟩ := hrel;by_cases hlt : k < n
  · obtain ⟨r, b, o, hr, hok, rfl, y0, y1, y2, y3, y4⟩ := (H.out.ext HB.out).cells hlt;have HG := Lib.hid hr;have HOK := Lib.hid hok;have HTK : Hid (rs.take (k + 1) = rs.take k ++ [r]) := by rw [Hid, List.take_add_one, hr]; rfl
    have HNr := Lib.hid (HNA.out r (List.mem_of_getElem? hr));clear hr hok
    go_wp2_with (first
     | (go_at_call 113
        refine (lentBlock_any r wr HOK.out HNr.out).mono ?_;rintro e w1 ⟨r', rfl, hL, hb⟩;have HLr := Lib.hid hL;have HB1 := Lib.hid hb
        clear hL hb y0 y1 y2 y3 y4)
     | (refine wpList_store_rowB rfl 73 _ _ rfl w1.heap.size #[.slice r'.h.ia r'.h.n r'.h.c, .int .i64 r'.h.t.kind, .int .i64 r'.h.t.a, .int .i64 r'.h.t.t0, .int .i64 r'.h.t.t1] rfl rfl 73 _ (heap_alloc_new w1 _) (by kernel_rfl) rfl (by simp [Value.oneCell']) w1.heap.size w1 (ext_alloc w1 _) (Nat.le_refl _) ?_
        intro W3 hb3 X3;have HB3 := Lib.hid (ext_trans HB1.out hb3);have HLr3 := Lib.hid (LentB_law.ext (LentB_law.mono HB.out.size HLr.out) hb3);have i0 : W3.cell? ⟨w1.heap.size, 0, none⟩ = some (.slice r'.h.ia r'.h.n r'.h.c) := by rw [cell_of_row _ _ _ _ _ _ X3]; rfl
        have i1 : W3.cell? ⟨w1.heap.size, 1, none⟩ = some (.int .i64 r'.h.t.kind) := by rw [cell_of_row _ _ _ _ _ _ X3]; rfl
        have i2 : W3.cell? ⟨w1.heap.size, 2, none⟩ = some (.int .i64 r'.h.t.a) := by rw [cell_of_row _ _ _ _ _ _ X3]; rfl
        have i3 : W3.cell? ⟨w1.heap.size, 3, none⟩ = some (.int .i64 r'.h.t.t0) := by rw [cell_of_row _ _ _ _ _ _ X3]; rfl
        have i4 : W3.cell? ⟨w1.heap.size, 4, none⟩ = some (.int .i64 r'.h.t.t1) := by rw [cell_of_row _ _ _ _ _ _ X3]; rfl
        clear hb3 X3)
     | (at_builtin
        go_loud (
         have HO1 := Lib.hid ((Steady.ownsRow wr.heap.size _ _ _ _ _ _).ext HO.out HB3.out);refine wpList_append1 rfl W3 (.tmp 22) (.tmp 24) 23 73 rfl w.heap.size _ 5 56 Tryz.underlying23 info_Block rfl (by omega) u3 k _ (blkC' r') rfl HO1.out W3.heap.size rfl rfl rfl (Block_one r') (by simp only [maxLen]; omega) (by omega) (ext_trans HB.out HB3.out).size ?_;intro g cap w4 hown4 hg4 hat4;have HO4 : Hid (w4.ownsRow w.heap.size 73 5 (.slice (some ⟨g, 0, none⟩) (k + 1) cap) (k + 1) ((rs' ++ [r']).flatMap blkC')) := by rw [Hid, List.flatMap_append]; simpa using hown4
         have HB4 : Hid (Below w.heap.size w w4) := (ext_trans HB.out HB3.out).grown hg4 (ext_trans HB.out HB3.out).size (fun j e => (HO1.out.lt j e).1);have HL4 : Hid (LentEs LentB w4 w.heap.size (rs.take (k + 1)) (rs' ++ [r'])) := by
          rw [Hid, HTK.out];exact ((HLR.out.ext LentB_law HB3.out).snoc HLr3.out).grown LentB_law (by decide) HO1.out hg4
         clear hown4 hg4 hat4 i0 i1 i2 i3 i4)))
    go_roundw
    case rel => exact ⟨k + 1, rs' ++ [r'], by omega, by go_num, HO4, HL4, HB4⟩
    case measure => simp [intOf]; omega
  · obtain rfl : k = n := by omega
    have HLR1 : Hid (LentEs LentB wr w.heap.size rs rs') := by
     have := HLR.out;rw [List.take_of_length_le (by rw [HL.out]; omega)] at this;exact this
    have HO1 : Hid (wr.ownsRow w.heap.size 73 5 u3 (k + 0) ((rs' ++ (markL markB).take 0).flatMap blkC')) := by rw [Hid]; simpa using HO.out
    clear HLR HO;go_wp2
    go_loopw [3, 6] (fun v i wr => ∃ (j : Nat), j ≤ 12 ∧ i = .int .i64 j ∧ Hid (wr.ownsRow w.heap.size 73 5 v (k + j) ((rs' ++ (markL markB).take j).flatMap blkC')) ∧ Hid (LentEs LentB wr w.heap.size rs rs') ∧ Hid (Below w.heap.size w wr)) (fun _ i _ => 12 - (intOf i).toNat)
    case atStart => exact ⟨0, by omega, rfl, HO1, HLR1, HB⟩
    case round =>
     clear HO1 HLR1 HB;obtain ⟨j, hj, rfl, HO, HLR, HB⟩ := hrel;by_cases hlt : j < 12
     · go_wp2_with (first
        | (go_at_call 114; refine (markBlock_any j _ (by omega)).mono ?_; rintro e w1 ⟨rfl, hb1⟩; have HB1 := Lib.hid hb1; clear hb1)
        | (at_builtin
           go_loud (
            have HO1 := Lib.hid ((Steady.ownsRow wr.heap.size _ _ _ _ _ _).ext HO.out HB1.out);refine wpList_append1 rfl w1 (.tmp 30) (.tmp 33) 23 73 rfl w.heap.size _ 5 56 Tryz.underlying23 info_Block rfl (by omega) u3 (k + j) _ (blkC' (markB j)) rfl HO1.out w1.heap.size rfl rfl rfl (Block_one _) (by simp only [maxLen]; omega) (by omega) (ext_trans HB.out HB1.out).size ?_;intro g cap w4 hown4 hg4 hat4;have HO4 : Hid (w4.ownsRow w.heap.size 73 5 (.slice (some ⟨g, 0, none⟩) (k + j + 1) cap) (k + j + 1) ((rs' ++ (markL markB).take (j + 1)).flatMap blkC')) := by rw [Hid, markL_take markB j hlt, ← List.append_assoc, List.flatMap_append]; simpa using hown4
            have HB4 : Hid (Below w.heap.size w w4) := (ext_trans HB.out HB1.out).grown hg4 (ext_trans HB.out HB1.out).size (fun j e => (HO1.out.lt j e).1);have HL4 : Hid (LentEs LentB w4 w.heap.size rs rs') := (HLR.out.ext LentB_law HB1.out).grown LentB_law (by decide) HO1.out hg4
            clear hown4 hg4 hat4)))
       go_roundw
       case rel => exact ⟨j + 1, by omega, by go_num, HO4, HL4, HB4⟩
       case measure => simp [intOf]; omega
     · obtain rfl : j = 12 := by omega
       have hown := HO.out;have hform : ∃ g cap, u3 = .slice (some ⟨g, 0, none⟩) (k + 12) cap ∧ k + 12 ≤ cap ∧ cap ≤ maxLen := by
        rcases hown.2 with ⟨_, h0⟩ | ⟨g', cap', cur, hv, _, _, h1, h2, _⟩
        · omega
        · exact ⟨_, _, hv, h1, h2⟩
       obtain ⟨g, cap, rfl, hc1, hc2⟩ := hform;clear hown;unfold maxLen at hc2;go_wp2
       go_ret
       refine ⟨_, rs', rfl, ⟨g, cap, by rw [HL.out]; rfl, ?_, HLR.out⟩, HB.out⟩;have := HO.out;rw [HL.out];rw [List.take_of_length_le (by rw [markL_len]; omega)] at this;exact this
theorem sameBlocks_any (a b : Option Addr) (n c d : Nat) (rs ss : List BlkR) (w : World) (hr : BlksR w a n rs) (hs : BlksR w b n ss) (h : SameEs SDBlk rs ss) (hna : ∀ r ∈ ss, BlkNA r) :
  Calls Tryz.prog 118 #[.slice a n c, .slice b n d] w fun e w' => e = .returned (.bool true) ∧ Below w.heap.size w w' := by
 have HR := Lib.hid hr
 have HS := Lib.hid hs
 have HH := Lib.hid h
 have HNA := Lib.hid hna
 have hn := hr.1.2.1
 clear hr hs h hna
 have hne : ((n : Int) != (n : Int)) = false := by simp
 go_enter Tryz.func118, Tryz.ntmps118
 go_wp2
 go_loopw [5] (fun i wr => ∃ (k : Nat), k ≤ n ∧ i = .int .i64 k ∧ Hid (Below w.heap.size w wr)) (fun i _ => n - (intOf i).toNat)
 case atStart => exact ⟨0, by omega, rfl, Below.refl _ _⟩
 case round =>
  obtain ⟨k, hk, rfl, HB⟩ := hrel;by_cases hlt : k < n
  · obtain ⟨r, b1, o1, hr, hokr, rfl, y0, y1, y2, y3, y4⟩ := (HR.out.ext HB.out).cells hlt;obtain ⟨s, b2, o2, hs, hoks, rfl, z0, z1, z2, z3, z4⟩ := (HS.out.ext HB.out).cells hlt;have HD := Lib.hid (HH.out.2 k r s hr hs);have HNs := Lib.hid (HNA.out s (List.mem_of_getElem? hs));have HOr := Lib.hid hokr;have HOs := Lib.hid hoks;have hk0 : (0 : Int) ≤ (k : Int) := by omega
    have hk1 : (k : Int) < (n : Int) := by omega
    have kx0 : ∀ n : ExtW wr, n.val.cell? ⟨b1, o1 + k * 5, none⟩ = some (.slice r.h.ia r.h.n r.h.c) := fun n => cell_ext n.ext y0;have kx1 : ∀ n : ExtW wr, n.val.cell? ⟨b1, o1 + k * 5 + 1, none⟩ = some (.int .i64 r.h.t.kind) := fun n => cell_ext n.ext y1;have kx2 : ∀ n : ExtW wr, n.val.cell? ⟨b1, o1 + k * 5 + 2, none⟩ = some (.int .i64 r.h.t.a) := fun n => cell_ext n.ext y2;have kx3 : ∀ n : ExtW wr, n.val.cell? ⟨b1, o1 + k * 5 + 3, none⟩ = some (.int .i64 r.h.t.t0) := fun n => cell_ext n.ext y3;have kx4 : ∀ n : ExtW wr, n.val.cell? ⟨b1, o1 + k * 5 + 4, none⟩ = some (.int .i64 r.h.t.t1) := fun n => cell_ext n.ext y4;have ky0 : ∀ n : ExtW wr, n.val.cell? ⟨b2, o2 + k * 5, none⟩ = some (.slice s.h.ia s.h.n s.h.c) := fun n => cell_ext n.ext z0;have ky1 : ∀ n : ExtW wr, n.val.cell? ⟨b2, o2 + k * 5 + 1, none⟩ = some (.int .i64 s.h.t.kind) := fun n => cell_ext n.ext z1;have ky2 : ∀ n : ExtW wr, n.val.cell? ⟨b2, o2 + k * 5 + 2, none⟩ = some (.int .i64 s.h.t.a) := fun n => cell_ext n.ext z2;have ky3 : ∀ n : ExtW wr, n.val.cell? ⟨b2, o2 + k * 5 + 3, none⟩ = some (.int .i64 s.h.t.t0) := fun n => cell_ext n.ext z3;have ky4 : ∀ n : ExtW wr, n.val.cell? ⟨b2, o2 + k * 5 + 4, none⟩ = some (.int .i64 s.h.t.t1) := fun n => cell_ext n.ext z4;have HNE : Nonempty (ExtW wr) := ⟨⟨wr, Below.refl _ _⟩⟩
    clear hr hs hokr hoks y0 y1 y2 y3 y4 z0 z1 z2 z3 z4;go_wp2;refine region_ext (by kernel_rfl) (by kernel_rfl) ?_
    repeat (first
     | go_big_quiet_skip
     | go_big_quiet_step (first
       | (go_at_call 120; exact quiet_ext (sameBlock_any r s _ HD.out (BlkROK.ext HOr.out (ExtW.ext _)) (BlkROK.ext HOs.out (ExtW.ext _)) HNs.out))))
    refine wpQuiet_nil ?_;rintro _ ⟨mm, rfl⟩;have HM := Lib.hid (ext_trans HB.out mm.ext);generalize mm.val = W8 at *;clear kx0 kx1 kx2 kx3 kx4 ky0 ky1 ky2 ky3 ky4;go_wp2
    go_roundw
    case rel => exact ⟨k + 1, by omega, by go_num, HM⟩
    case measure => simp [intOf]; omega
  · go_wp2
    go_ret
    exact ⟨rfl, HB.out⟩
theorem keptBlocks_any (base g cap : Nat) (a : Option Addr) (n c : Nat) (rs rs' : List BlkR) (w : World) (h : LentBlocks w base (.slice (some ⟨g, 0, none⟩) n cap) rs rs') (hs : BlksR w a n rs) (hn : n ≤ 1000000) (hna : ∀ r ∈ rs, BlkNA r) :
  Calls Tryz.prog 64 #[.slice (some ⟨g, 0, none⟩) n cap, .slice a n c] w fun e w' => e = .returned (.bool true) ∧ Below w.heap.size w w' := by
 obtain ⟨h1, _, hlen, hc1, hc2, hl⟩ := h.okS hs hn hna
 have HA := Lib.hid h1
 have HS := Lib.hid hs
 have HL := Lib.hid hl
 have HLen := Lib.hid hlen
 have HNA := Lib.hid hna
 clear h hs h1 hl hlen hna
 unfold maxLen at hc2
 have hne : ((n : Int) != (n : Int)) = false := by simp
 go_enter Tryz.func64, Tryz.ntmps64
 go_wp2
 go_loopw [6] (fun i wr => ∃ (k : Nat), k ≤ n + 12 ∧ i = .int .i64 k ∧ Hid (Below w.heap.size w wr)) (fun i _ => n + 12 - (intOf i).toNat)
 case atStart => exact ⟨0, by omega, rfl, Below.refl _ _⟩
 case round =>
  obtain ⟨k, hk, rfl, HB⟩ := hrel;by_cases hlt : k < n + 12
  · obtain ⟨r, b1, o1, hr, hokr, hab, y0, y1, y2, y3, y4⟩ := (HA.out.ext HB.out).cells hlt;injection hab with hab;injection hab with hab1 hab2 _;subst hab1;subst hab2;have HOr := Lib.hid hokr;rw [Nat.zero_add] at y0 y1 y2 y3 y4;have kx0 : ∀ n : ExtW wr, n.val.cell? ⟨g, k * 5, none⟩ = some (.slice r.h.ia r.h.n r.h.c) := fun n => cell_ext n.ext y0;have kx1 : ∀ n : ExtW wr, n.val.cell? ⟨g, k * 5 + 1, none⟩ = some (.int .i64 r.h.t.kind) := fun n => cell_ext n.ext y1;have kx2 : ∀ n : ExtW wr, n.val.cell? ⟨g, k * 5 + 2, none⟩ = some (.int .i64 r.h.t.a) := fun n => cell_ext n.ext y2;have kx3 : ∀ n : ExtW wr, n.val.cell? ⟨g, k * 5 + 3, none⟩ = some (.int .i64 r.h.t.t0) := fun n => cell_ext n.ext y3;have kx4 : ∀ n : ExtW wr, n.val.cell? ⟨g, k * 5 + 4, none⟩ = some (.int .i64 r.h.t.t1) := fun n => cell_ext n.ext y4;have HNE : Nonempty (ExtW wr) := ⟨⟨wr, Below.refl _ _⟩⟩
    by_cases hkn : k < n
    · rw [List.getElem?_append_left (by rw [HLen.out]; exact hkn)] at hr;obtain ⟨s, b2, o2, hs, hoks, rfl, z0, z1, z2, z3, z4⟩ := (HS.out.ext HB.out).cells hkn;have HLk := Lib.hid (LentB_law.ext (HL.out.2 k s r hs hr) HB.out);have HOs := Lib.hid hoks;have HNs := Lib.hid (HNA.out s (List.mem_of_getElem? hs));have ky0 : ∀ n : ExtW wr, n.val.cell? ⟨b2, o2 + k * 5, none⟩ = some (.slice s.h.ia s.h.n s.h.c) := fun n => cell_ext n.ext z0;have ky1 : ∀ n : ExtW wr, n.val.cell? ⟨b2, o2 + k * 5 + 1, none⟩ = some (.int .i64 s.h.t.kind) := fun n => cell_ext n.ext z1;have ky2 : ∀ n : ExtW wr, n.val.cell? ⟨b2, o2 + k * 5 + 2, none⟩ = some (.int .i64 s.h.t.a) := fun n => cell_ext n.ext z2;have ky3 : ∀ n : ExtW wr, n.val.cell? ⟨b2, o2 + k * 5 + 3, none⟩ = some (.int .i64 s.h.t.t0) := fun n => cell_ext n.ext z3;have ky4 : ∀ n : ExtW wr, n.val.cell? ⟨b2, o2 + k * 5 + 4, none⟩ = some (.int .i64 s.h.t.t1) := fun n => cell_ext n.ext z4;have hk0 : (0 : Int) ≤ (k : Int) := by omega
      have hk1 : (k : Int) < (n : Int) := by omega
      have hk2 : (k : Int) < (n : Int) + 12 := by omega
      have d1 : decide ((k : Int) < (n : Int)) = true := by simpa using hkn
      have d2 : decide ((n : Int) ≤ (k : Int)) = false := by simp; omega
      have d3 : decide (k < n) = true := by simpa using hkn
      have d4 : decide (n ≤ k) = false := by simp; omega
      clear hr hs hoks hokr y0 y1 y2 y3 y4 z0 z1 z2 z3 z4 hkn;go_wp2;refine region_ext (by kernel_rfl) (by kernel_rfl) ?_
      repeat (go_big_quiet_step (first
       | (go_at_call 119; exact quiet_ext (keptBlock_any r s base _ (LentB_law.ext HLk.out (ExtW.ext _)) (BlkROK.ext HOs.out (ExtW.ext _)) HNs.out))))
      refine wpQuiet_nil ?_;rintro _ ⟨mm, rfl⟩;have HM := Lib.hid (ext_trans HB.out mm.ext);generalize mm.val = W8 at *;clear kx0 kx1 kx2 kx3 kx4 ky0 ky1 ky2 ky3 ky4;go_wp2
      go_roundw
      case rel => exact ⟨k + 1, by omega, by go_num, HM⟩
      case measure => simp [intOf]; omega
    · obtain ⟨j, rfl⟩ : ∃ j, k = n + j := ⟨k - n, by omega⟩
      have hj : j < 12 := by omega
      have hrm : r = markB j := by
       rw [List.getElem?_append_right (by rw [HLen.out]; omega), HLen.out, Nat.add_sub_cancel_left, markL_at markB j hj] at hr;exact (Option.some.inj hr).symm
      have HRM := Lib.hid hrm;have d1 : decide (n + j < n) = false := by simp
      have d2 : decide (n ≤ n + j) = true := by simp
      have d3 : decide ((n : Int) + (j : Int) < (n : Int)) = false := by simp; omega
      have d4 : decide ((n : Int) ≤ (n : Int) + (j : Int)) = true := by simp; omega
      have d5 : IntKind.i64.wrap ((n : Int) + (j : Int) - (n : Int)) = (j : Int) := by rw [IntKind.wrap_i64]; omega
      have hk0 : (0 : Int) ≤ (n : Int) + (j : Int) := by omega
      have hk2 : (n : Int) + (j : Int) < (n : Int) + 12 := by omega
      clear hr hrm hokr y0 y1 y2 y3 y4 hkn;go_wp2;refine region_ext (by kernel_rfl) (by kernel_rfl) ?_
      repeat (go_big_quiet_step (first
       | (go_at_call 114; exact quiet_ext (markBlock_any j _ (by omega)))
       | (go_at_call 120; exact quiet_ext (sameBlock_any r (markB j) _ (by rw [HRM.out]; exact SDBlk_refl _) (BlkROK.ext HOr.out (ExtW.ext _)) (markB_ok _ j hj) (markB_na j)))))
      refine wpQuiet_nil ?_;rintro _ ⟨mm, rfl⟩;have HM := Lib.hid (ext_trans HB.out mm.ext);generalize mm.val = W8 at *;clear kx0 kx1 kx2 kx3 kx4;go_wp2
      go_roundw
      case rel => exact ⟨n + j + 1, by omega, by go_num, HM⟩
      case measure => simp [intOf]; omega
  · go_wp2
    go_ret
    exact ⟨rfl, HB.out⟩
end

section
open Go.RowKit
structure FuncR where
 pa : Option Addr
 pn : Nat
 pc : Nat
 ps : List Int
 ba : Option Addr
 bn : Nat
 bc : Nat
 bs : List BlkR
abbrev funcVR (f : FuncR) : Value := funcV f.pa f.pn f.pc f.ba f.bn f.bc
def FuncOK (w : World) (f : FuncR) : Prop := Ints w f.pa f.pn f.ps ∧ BlksR w f.ba f.bn f.bs
theorem FuncOK.ext {w w' : World} {f : FuncR} (h : FuncOK w f) (hb : Below w.heap.size w w') : FuncOK w' f := ⟨h.1.ext hb, h.2.ext hb⟩
def FuncNA (f : FuncR) : Prop := f.pn ≤ 1000000 ∧ f.bn ≤ 1000000 ∧ ∀ b ∈ f.bs, BlkNA b
def SDFunc (r s : FuncR) : Prop := r.ps = s.ps ∧ r.bn = s.bn ∧ SameEs SDBlk r.bs s.bs
def LentFn (w : World) (base : Nat) (r r' : FuncR) : Prop := r'.ps = r.ps ∧ r'.pn = r.pn ∧ r'.bn = r.bn ∧ Lent w base (.slice r'.pa r'.pn r'.pc) r.ps ∧ LentBlocks w base (.slice r'.ba r'.bn r'.bc) r.bs r'.bs
theorem LentFn.sd {w : World} {base : Nat} {r r' : FuncR} (h : LentFn w base r r') : SDFunc r' r := by
 obtain ⟨h1, _, h2, _, _, _, _, _, h3⟩ := h
 exact ⟨h1, h2, h3.same fun _ _ h => h.sd⟩
theorem LentFn_law : LentLaw [3, 73, 216, 3] LentFn where
 chg := fun h hc hn => ⟨h.1, h.2.1, h.2.2.1, h.2.2.2.1.chg hc hn, h.2.2.2.2.chg LentB_law hc hn⟩
 mono := fun hb h => ⟨h.1, h.2.1, h.2.2.1, h.2.2.2.1.mono hb, h.2.2.2.2.mono LentB_law hb⟩
 grown := fun he h ho hg => ⟨h.1, h.2.1, h.2.2.1, h.2.2.2.1.grown (fun e => he (by simp [e])) ho hg, h.2.2.2.2.grown LentB_law (fun e => he (List.mem_cons_of_mem _ e)) ho hg⟩
theorem LentFn.ok {w : World} {base : Nat} {r r' : FuncR} (h : LentFn w base r r') (hr : FuncOK w r) (hna : FuncNA r) : FuncOK w r' := by
 obtain ⟨pa, pn, pc, ps, ba, bn, bc, bs⟩ := r'
 obtain ⟨h1, h2, h3, h4, h5⟩ := h
 obtain ⟨g, cap, e⟩ := h5.form
 injection e with e1 e2 e3
 obtain rfl : ba = some ⟨g, 0, none⟩ := e1
 obtain rfl : bn = r.bn := h3
 obtain rfl : ps = r.ps := h1
 obtain ⟨a, c, e, hi⟩ := h4.ints (by rw [hr.1.1]; exact hr.1.2.1) hr.1.mem
 injection e with e1 e2' e3
 refine ⟨?_, (h5.okS hr.2 hna.2.1 hna.2.2).2.1⟩
 show Ints w pa pn r.ps
 have e4 : pa = a := e1
 have e5 : pn = r.ps.length := e2'
 rw [e4, e5]
 exact hi
theorem lentFunc_any (r : FuncR) (w : World) (h : FuncOK w r) (hn : FuncNA r) :
  Calls Tryz.prog 11 #[funcVR r] w fun e w' => ∃ r', e = .returned (funcVR r') ∧ LentFn w' w.heap.size r r' ∧ Below w.heap.size w w' := by
 have H := Lib.hid h
 have HN := Lib.hid hn
 clear h hn
 go_enter Tryz.func11, Tryz.ntmps11
 go_wp2_with (first
  | (go_at_call 53
     refine (lentBlocks_any r.ba r.bn r.bc r.bs W1 (H.out.2.ext HX1.out) HN.out.2.1 HN.out.2.2).mono ?_;rintro e w1 ⟨v, rs1, rfl, hL, hb⟩;obtain ⟨g1, cap1, rfl⟩ := hL.form;have x1 := block_ext hb HK1.out;have x2 := block_ext hb HZ1.out;have x3 := ext_trans HX1.out hb;have hl0 := HL1_0.out.ext hb;have y6 : w1.cell? ⟨w.heap.size, 1, none⟩ = some (.slice r.ba r.bn r.bc) := by rw [cell_of_row _ _ _ _ _ _ x1]; rfl
     have z6 : w1.frozen? ⟨w.heap.size, 1, none⟩ = false := frozen_of_row _ _ _ _ _ x1;obtain ⟨W2, hW2⟩ : ∃ W, w1.setCell ⟨w.heap.size, 1, none⟩ (.slice (some ⟨g1, 0, none⟩) r.bs.length cap1) = W := ⟨_, rfl⟩
     have c2 : Chg (fun k => k = w.heap.size) w1 W2 := by rw [← hW2]; exact chg_setCell _ _ _ _
     have hsz := x3.size;have HL2_1 := Lib.hid (hL.chg LentB_law c2 (fun k hk => by have := HX1.out.size; have := (Array.getElem?_eq_some_iff.1 HK1.out).1; omega));have HL2_0 := Lib.hid (hl0.chg c2 (fun k hk => by simp; omega));have X1 : W2.heap[w.heap.size]? = some (.cells #[.slice (some ⟨g0, 0, none⟩) r.ps.length cap0, .slice (some ⟨g1, 0, none⟩) r.bs.length cap1] 25 (0, 0)) := by rw [← hW2, heap_setCell_same _ _ 1 _ _ _ x1]; rfl
     have HK2 := Lib.hid X1;have HZ2 := Lib.hid (c2.row x2 (by omega));have HX2 := Lib.hid (x3.trans (c2.below (B := w.heap.size) x3.size (fun k hk => by omega)));have i2_0 : W2.cell? ⟨w.heap.size, 0, none⟩ = some (.slice (some ⟨g0, 0, none⟩) r.ps.length cap0) := by rw [cell_of_row _ _ _ _ _ _ X1]; rfl
     have i2_1 : W2.cell? ⟨w.heap.size, 1, none⟩ = some (.slice (some ⟨g1, 0, none⟩) r.bs.length cap1) := by rw [cell_of_row _ _ _ _ _ _ X1]; rfl
     clear hL x1 x2 x3 hb c2 X1 i1_0 i1_1)
  | (go_at_call 52
     refine (lentInts_any r.pa r.pn r.pc r.ps _ (H.out.1.ext (ext_trans (ext_alloc _ _) (ext_alloc _ _))) HN.out.1).mono ?_;rintro e w1 ⟨v, rfl, hL, hb⟩;obtain ⟨g0, cap0, rfl⟩ := hL.form;obtain ⟨x1, x2, x3⟩ := box2 w (.cells #[.slice r.pa r.pn r.pc, .slice r.ba r.bn r.bc] 25) (.cells #[.slice none 0 0, .slice none 0 0] 25) w1 hb;have y6 : w1.cell? ⟨w.heap.size, 0, none⟩ = some (.slice r.pa r.pn r.pc) := by rw [cell_of_row _ _ _ _ _ _ x1]; rfl
     have z6 : w1.frozen? ⟨w.heap.size, 0, none⟩ = false := frozen_of_row _ _ _ _ _ x1;obtain ⟨W1, hW2⟩ : ∃ W, w1.setCell ⟨w.heap.size, 0, none⟩ (.slice (some ⟨g0, 0, none⟩) r.ps.length cap0) = W := ⟨_, rfl⟩
     have c2 : Chg (fun k => k = w.heap.size) w1 W1 := by rw [← hW2]; exact chg_setCell _ _ _ _
     have HL1_0 := Lib.hid (hL.chg c2 (fun k hk => by simp; omega));have X1 : W1.heap[w.heap.size]? = some (.cells #[.slice (some ⟨g0, 0, none⟩) r.ps.length cap0, .slice r.ba r.bn r.bc] 25 (0, 0)) := by rw [← hW2, heap_setCell_same _ _ 0 _ _ _ x1]; rfl
     have HK1 := Lib.hid X1;have HZ1 := Lib.hid (c2.row x2 (by omega));have HX1 := Lib.hid (x3.trans (c2.below (B := w.heap.size) x3.size (fun k hk => by omega)));have i1_0 : W1.cell? ⟨w.heap.size, 0, none⟩ = some (.slice (some ⟨g0, 0, none⟩) r.ps.length cap0) := by rw [cell_of_row _ _ _ _ _ _ X1]; rfl
     have i1_1 : W1.cell? ⟨w.heap.size, 1, none⟩ = some (.slice r.ba r.bn r.bc) := by rw [cell_of_row _ _ _ _ _ _ X1]; rfl
     clear hL x1 x2 x3 hb c2 X1)
  | (refine wpList_store_rowC rfl 25 _ _ rfl (w.heap.size + 1) #[.slice (some ⟨g0, 0, none⟩) r.ps.length cap0, .slice (some ⟨g1, 0, none⟩) r.bs.length cap1] rfl rfl 25 _ HZ2.out (by kernel_rfl) rfl (by simp [Value.oneCell']) ?_
     intro W9 c3 X3;have HL9_0 := Lib.hid (HL2_0.out.chg c3 (fun k hk => by simp; omega));have HL9_1 := Lib.hid (HL2_1.out.chg LentB_law c3 (fun k hk => by have := (Array.getElem?_eq_some_iff.1 HZ1.out).1; omega));have HX9 := Lib.hid (HX2.out.trans (c3.below (B := w.heap.size) HX2.out.size (fun k hk => by omega)));have j0 : W9.cell? ⟨w.heap.size + 1, 0, none⟩ = some (.slice (some ⟨g0, 0, none⟩) r.ps.length cap0) := by rw [cell_of_row _ _ _ _ _ _ X3]; rfl
     have j1 : W9.cell? ⟨w.heap.size + 1, 1, none⟩ = some (.slice (some ⟨g1, 0, none⟩) r.bs.length cap1) := by rw [cell_of_row _ _ _ _ _ _ X3]; rfl
     clear c3 X3))
 refine bodyPost_ret (v := .agg #[.slice (some ⟨g0, 0, none⟩) r.ps.length cap0, .slice (some ⟨g1, 0, none⟩) r.bs.length cap1]) (by simp [results, Tryz.results11, go_sem, j0, j1]) rfl ⟨⟨some ⟨g0, 0, none⟩, r.ps.length, cap0, r.ps, some ⟨g1, 0, none⟩, r.bs.length, cap1, rs1⟩, rfl, ?_, HX9.out⟩
 exact ⟨rfl, H.out.1.1, H.out.2.1.1, HL9_0.out.mono (by simp; omega), HL9_1.out.mono LentB_law (by have := HX1.out.size; omega)⟩
theorem sameFunc_any (r s : FuncR) (w : World) (hd : SDFunc r s) (hr : FuncOK w r) (hs : FuncOK w s) (hna : FuncNA s) :
  Calls Tryz.prog 62 #[funcVR r, funcVR s] w fun e w' => e = .returned (.bool true) ∧ Below w.heap.size w w' := by
 obtain ⟨rpa, rpn, rpc, rps, rba, rbn, rbc, rbs⟩ := r
 obtain ⟨h1, h2, h3⟩ := hd
 obtain rfl : rps = s.ps := h1
 obtain rfl : rbn = s.bn := h2
 have HR := Lib.hid hr
 have HS := Lib.hid hs
 have HSD : Hid (SameEs SDBlk rbs s.bs) := h3
 have HNA := Lib.hid hna.2.2
 clear hr hs hna h3
 obtain ⟨W0, HW0, hR, hS, hW0⟩ := boxes2 w (.cells #[.slice rpa rpn rpc, .slice rba s.bn rbc] 25) (.cells #[.slice s.pa s.pn s.pc, .slice s.ba s.bn s.bc] 25)
 have x0 : ∀ w', Below W0.heap.size W0 w' → w'.cell? ⟨w.heap.size, 0, none⟩ = some (.slice rpa rpn rpc) := fun w' hb => by rw [cell_of_row _ _ _ _ _ _ (block_ext hb hR)]; rfl
 have x1 : ∀ w', Below W0.heap.size W0 w' → w'.cell? ⟨w.heap.size, 1, none⟩ = some (.slice rba s.bn rbc) := fun w' hb => by rw [cell_of_row _ _ _ _ _ _ (block_ext hb hR)]; rfl
 have y0 : ∀ w', Below W0.heap.size W0 w' → w'.cell? ⟨w.heap.size + 1, 0, none⟩ = some (.slice s.pa s.pn s.pc) := fun w' hb => by rw [cell_of_row _ _ _ _ _ _ (block_ext hb hS)]; rfl
 have y1 : ∀ w', Below W0.heap.size W0 w' → w'.cell? ⟨w.heap.size + 1, 1, none⟩ = some (.slice s.ba s.bn s.bc) := fun w' hb => by rw [cell_of_row _ _ _ _ _ _ (block_ext hb hS)]; rfl
 have E0 : Below W0.heap.size W0 W0 := Below.refl _ _
 clear hR hS
 go_enter Tryz.func62, Tryz.ntmps62
 go_wp2_with (first
  | (go_at_call 118
     refine (sameBlocks_any rba s.ba s.bn rbc s.bc rbs s.bs w1 ((HR.out.2.ext HW0.out).ext E1) ((HS.out.2.ext HW0.out).ext E1) HSD.out HNA.out).mono ?_;rintro e w2 ⟨rfl, hb2⟩
     have E2 : Below W0.heap.size W0 w2 := ext_trans E1 hb2)
  | (go_at_call 44
     refine (sameInts_any rpa s.pa rpn s.pn rpc s.pc s.ps s.ps W0 ((HR.out.1.ext HW0.out).ext E0) ((HS.out.1.ext HW0.out).ext E0)).mono ?_;rw [decide_eq_true rfl];rintro e w1 ⟨rfl, q1, hq1⟩;have E1 : Below W0.heap.size W0 w1 := by rw [hq1]; exact ext_drewN E0 q1
     clear hq1))
 go_ret
 exact ⟨rfl, ext_trans HW0.out E2⟩
theorem keptFunc_any (r s : FuncR) (base : Nat) (w : World) (h : LentFn w base s r) (hs : FuncOK w s) (hn : FuncNA s) :
  Calls Tryz.prog 21 #[funcVR r, funcVR s] w fun e w' => e = .returned (.bool true) ∧ Below w.heap.size w w' := by
 obtain ⟨rpa, rpn, rpc, rps, rba, rbn, rbc, rbs⟩ := r
 obtain ⟨g, cap, e⟩ := h.2.2.2.2.form
 injection e with e1 e2 e3
 obtain rfl : rba = some ⟨g, 0, none⟩ := e1
 obtain rfl : rbc = cap := e3
 obtain rfl : rbn = s.bn := h.2.2.1
 clear e2
 have HR := Lib.hid (h.ok hs hn)
 have HS := Lib.hid hs
 have HH := Lib.hid h
 have HN := Lib.hid hn
 have HD := Lib.hid h.sd
 clear hs h hn
 obtain ⟨W0, HW0, hR, hS, hW0⟩ := boxes2 w (.cells #[.slice rpa rpn rpc, .slice (some ⟨g, 0, none⟩) s.bn rbc] 25) (.cells #[.slice s.pa s.pn s.pc, .slice s.ba s.bn s.bc] 25)
 have x0 : ∀ w', Below W0.heap.size W0 w' → w'.cell? ⟨w.heap.size, 0, none⟩ = some (.slice rpa rpn rpc) := fun w' hb => by rw [cell_of_row _ _ _ _ _ _ (block_ext hb hR)]; rfl
 have x1 : ∀ w', Below W0.heap.size W0 w' → w'.cell? ⟨w.heap.size, 1, none⟩ = some (.slice (some ⟨g, 0, none⟩) s.bn rbc) := fun w' hb => by rw [cell_of_row _ _ _ _ _ _ (block_ext hb hR)]; rfl
 have y0 : ∀ w', Below W0.heap.size W0 w' → w'.cell? ⟨w.heap.size + 1, 0, none⟩ = some (.slice s.pa s.pn s.pc) := fun w' hb => by rw [cell_of_row _ _ _ _ _ _ (block_ext hb hS)]; rfl
 have y1 : ∀ w', Below W0.heap.size W0 w' → w'.cell? ⟨w.heap.size + 1, 1, none⟩ = some (.slice s.ba s.bn s.bc) := fun w' hb => by rw [cell_of_row _ _ _ _ _ _ (block_ext hb hS)]; rfl
 have E0 : Below W0.heap.size W0 W0 := Below.refl _ _
 clear hR hS
 go_enter Tryz.func21, Tryz.ntmps21
 go_wp2_with (first
  | (go_at_call 64
     refine (keptBlocks_any base _ _ s.ba s.bn s.bc s.bs rbs w2 (LentFn_law.ext (LentFn_law.ext HH.out HW0.out) E2).2.2.2.2 ((HS.out.ext HW0.out).ext E2).2 HN.out.2.1 HN.out.2.2).mono ?_;rintro e w3 ⟨rfl, hb3⟩
     have E3 : Below W0.heap.size W0 w3 := ext_trans E2 hb3)
  | (go_at_call 63
     refine (keptInts_any base _ s.pa s.pn s.pc s.ps w1 (LentFn_law.ext (LentFn_law.ext HH.out HW0.out) E1).2.2.2.1 ((HS.out.ext HW0.out).ext E1).1 HN.out.1).mono ?_;rintro e w2 ⟨rfl, q2, hq2⟩;have E2 : Below W0.heap.size W0 w2 := by rw [hq2]; exact ext_drewN E1 q2
     clear hq2)
  | (go_at_call 62
     refine (sameFunc_any ⟨rpa, rpn, rpc, rps, some ⟨g, 0, none⟩, s.bn, rbc, rbs⟩ s W0 HD.out (HR.out.ext HW0.out) (HS.out.ext HW0.out) HN.out).mono ?_
     rintro e w1 ⟨rfl, E1⟩))
 go_ret
 exact ⟨rfl, ext_trans HW0.out E3⟩
end

section
open Go.RowKit
theorem var03_any (n : Int) (w : World) : Calls Tryz.prog 162 #[.int .i64 n] w fun e w' => e = .returned (.bool (varB n)) ∧ w = w' := by
 by_cases h1 : 1 ≤ n
 · have d1 : decide (1 ≤ n) = true := by simpa using h1
   have HE : Hid (varB n = decide (n ≤ 200)) := by rw [Hid, varB, decide_eq_decide]; omega
   go_enter Tryz.func162, Tryz.ntmps162
   go_wp2
   go_ret
   exact ⟨by rw [HE.out]; rfl, rfl⟩
 · have d1 : decide (1 ≤ n) = false := by simpa using h1
   have HE : Hid (varB n = false) := by rw [Hid, varB, decide_eq_false_iff_not]; omega
   go_enter Tryz.func162, Tryz.ntmps162
   go_wp2
   go_ret
   exact ⟨by rw [HE.out]; rfl, rfl⟩
theorem eql_to (w : World) (x0 x1 y0 y1 : Int) : (binOp .eql 68 (.agg #[.int .i64 x0, .int .i64 x1]) (.agg #[.int .i64 y0, .int .i64 y1])).run Tryz.prog w = .ok (.bool (x0 == y0 && x1 == y1)) w := by
 rw [run_eql_struct, equal_toD w 9998]
 rfl
theorem eql_to0 (x0 x1 : Int) (b : Bool) (hb : (x0 == 0 && x1 == 0) = b) (w : World) : (binOp .eql 68 (.agg #[.int .i64 x0, .int .i64 x1]) (.agg #[.int .i64 0, .int .i64 0])).run Tryz.prog w = .ok (.bool b) w := by
 rw [eql_to, hb]
theorem isTerm03_any (t : TermD) (w : World) : Calls Tryz.prog 97 #[termV t] w (TermPost t w) := by
 obtain ⟨k, a, x, y⟩ := t
 obtain ⟨b, hb⟩ : ∃ b, (x == 0 && y == 0) = b := ⟨_, rfl⟩
 have hq := eql_to0 x y b hb
 have HBB := Lib.hid hb
 clear hb
 by_cases k1 : k = 1
 · subst k1;by_cases a0 : a = 0
   · subst a0;have HE : Hid (termB ⟨1, 0, x, y⟩ = (y == 0)) := by rw [Hid, Bool.eq_iff_iff]; simp [termB]
     go_enter Tryz.func97, Tryz.ntmps97
     go_wp2
     go_ret
     exact ⟨by rw [HE.out]; rfl, ext_alloc _ _⟩
   · have b0 : (a == 0) = false := by simpa using a0
     have HE : Hid (termB ⟨1, a, x, y⟩ = false) := by simp [Hid, termB, a0]
     clear a0
     go_enter Tryz.func97, Tryz.ntmps97
     go_wp2
     go_ret
     exact ⟨by rw [HE.out]; rfl, ext_alloc _ _⟩
 · have b1 : (k == 1) = false := by simpa using k1
   by_cases k2 : k = 2
   · subst k2;have HE : Hid (termB ⟨2, a, x, y⟩ = varB a) := by simp [Hid, termB]
     clear k1 b1
     go_enter Tryz.func97, Tryz.ntmps97
     go_wp2_with (go_at_call 162; refine (var03_any _ _).mono ?_; rintro e w' ⟨rfl, rfl⟩)
     go_ret
     exact ⟨by rw [HE.out]; rfl, ext_alloc _ _⟩
   · have b2 : (k == 2) = false := by simpa using k2
     by_cases k3 : k = 3
     · subst k3;clear k1 b1 k2 b2;by_cases a0 : a = 0
       · subst a0;have HE : Hid (termB ⟨3, 0, x, y⟩ = b) := by rw [Hid, ← HBB.out, Bool.eq_iff_iff]; simp [termB]
         go_enter Tryz.func97, Tryz.ntmps97
         go_wp2
         go_ret
         exact ⟨by rw [HE.out]; rfl, ext_alloc _ _⟩
       · have b0 : (a == 0) = false := by simpa using a0
         cases hv : varB a with
         | true =>
           have HV := Lib.hid hv;have HE : Hid (termB ⟨3, a, x, y⟩ = b) := by rw [Hid, ← HBB.out, Bool.eq_iff_iff]; simp [termB, hv]
           clear a0 hv
           go_enter Tryz.func97, Tryz.ntmps97
           go_wp2_with (go_at_call 162; refine (var03_any _ _).mono ?_; rintro e w' ⟨rfl, rfl⟩; rw [HV.out])
           go_ret
           exact ⟨by rw [HE.out]; rfl, ext_alloc _ _⟩
         | false =>
           have HV := Lib.hid hv;have HE : Hid (termB ⟨3, a, x, y⟩ = false) := by simp [Hid, termB, hv, a0]
           clear a0 hv
           go_enter Tryz.func97, Tryz.ntmps97
           go_wp2_with (go_at_call 162; refine (var03_any _ _).mono ?_; rintro e w' ⟨rfl, rfl⟩; rw [HV.out])
           go_ret
           exact ⟨by rw [HE.out]; rfl, ext_alloc _ _⟩
     · have b3 : (k == 3) = false := by simpa using k3
       by_cases k4 : k = 4
       · subst k4;clear k1 b1 k2 b2 k3 b3;by_cases a0 : a = 0
         · subst a0;have HE : Hid (termB ⟨4, 0, x, y⟩ = b) := by rw [Hid, ← HBB.out, Bool.eq_iff_iff]; simp [termB]
           go_enter Tryz.func97, Tryz.ntmps97
           go_wp2
           go_ret
           exact ⟨by rw [HE.out]; rfl, ext_alloc _ _⟩
         · have b0 : (a == 0) = false := by simpa using a0
           have HE : Hid (termB ⟨4, a, x, y⟩ = false) := by simp [Hid, termB, a0]
           clear a0
           go_enter Tryz.func97, Tryz.ntmps97
           go_wp2
           go_ret
           exact ⟨by rw [HE.out]; rfl, ext_alloc _ _⟩
       · have b4 : (k == 4) = false := by simpa using k4
         have HE : Hid (termB ⟨k, a, x, y⟩ = false) := by simp [Hid, termB, k1, k2, k3, k4]
         clear k1 k2 k3 k4
         go_enter Tryz.func97, Tryz.ntmps97
         go_wp2
         go_ret
         exact ⟨by rw [HE.out]; rfl, ext_alloc _ _⟩
theorem to03_any (t : TermD) (w : World) (h : TermOK t) : Calls Tryz.prog 71 #[termV t] w (IntsPost w (toD t)) := by
 have HO := Lib.hid (toD_ok t h)
 clear h
 obtain ⟨k, a, x, y⟩ := t
 by_cases ht : termB ⟨k, a, x, y⟩ = true
 · have HB := Lib.hid ht;by_cases k1 : k = 1
   · subst k1;have HE : Hid (toD ⟨1, a, x, y⟩ = [x]) := by rw [Hid, toD, if_pos ht, if_pos rfl]
     clear ht
     go_enter Tryz.func71, Tryz.ntmps71
     go_wp2_with (go_at_call 97; refine (isTerm03_any ⟨1, a, x, y⟩ _).mono ?_; rintro e w' ⟨rfl, hb'⟩; rw [HB.out]; obtain ⟨g1, g2⟩ := bcell hb'; have HB' := Lib.hid hb'; clear hb')
     go_ret
     rw [HE.out];exact ⟨_, rfl, (ownI_lit (xs := [x]) rfl _ (below_size' HB'.out) (by have := HO.out; rwa [HE.out] at this) (by simp)), (ext_trans (ext_alloc _ _) HB'.out).alloc (below_size' HB'.out) _⟩
   · have b1 : (k == 1) = false := by simpa using k1
     by_cases k2 : k = 2
     · subst k2;have HE : Hid (toD ⟨2, a, x, y⟩ = [x, y]) := by rw [Hid, toD, if_pos ht, if_neg (by simp), if_pos rfl]
       clear ht k1
       go_enter Tryz.func71, Tryz.ntmps71
       go_wp2_with (go_at_call 97; refine (isTerm03_any ⟨2, a, x, y⟩ _).mono ?_; rintro e w' ⟨rfl, hb'⟩; rw [HB.out]; obtain ⟨g1, g2⟩ := bcell hb'; have HB' := Lib.hid hb'; clear hb')
       go_ret
       rw [HE.out];exact ⟨_, rfl, (ownI_lit (xs := [x, y]) rfl _ (below_size' HB'.out) (by have := HO.out; rwa [HE.out] at this) (by simp)), (ext_trans (ext_alloc _ _) HB'.out).alloc (below_size' HB'.out) _⟩
     · have b2 : (k == 2) = false := by simpa using k2
       have HE : Hid (toD ⟨k, a, x, y⟩ = []) := by rw [Hid, toD, if_pos ht, if_neg k1, if_neg k2]
       clear ht k1 k2
       go_enter Tryz.func71, Tryz.ntmps71
       go_wp2_with (go_at_call 97; refine (isTerm03_any ⟨k, a, x, y⟩ _).mono ?_; rintro e w' ⟨rfl, hb'⟩; rw [HB.out]; obtain ⟨g1, g2⟩ := bcell hb'; have HB' := Lib.hid hb'; clear hb')
       go_ret
       rw [HE.out];exact ⟨_, rfl, OwnI.nil _ _, ext_trans (ext_alloc _ _) HB'.out⟩
 · have HE : Hid (toD ⟨k, a, x, y⟩ = []) := by rw [Hid, toD, if_neg ht]
   have ht' : termB ⟨k, a, x, y⟩ = false := by simpa using ht
   have HB := Lib.hid ht';clear ht ht'
   go_enter Tryz.func71, Tryz.ntmps71
   go_wp2_with (go_at_call 97; refine (isTerm03_any ⟨k, a, x, y⟩ _).mono ?_; rintro e w' ⟨rfl, hb'⟩; rw [HB.out]; obtain ⟨g1, g2⟩ := bcell hb'; have HB' := Lib.hid hb'; clear hb')
   go_ret
   rw [HE.out];exact ⟨_, rfl, OwnI.nil _ _, ext_trans (ext_alloc _ _) HB'.out⟩
end

section
open Go.RowKit
def QueI (w : World) (base : Nat) (v : Value) (xs : List Int) : Prop :=
 ∃ g o cap cur, v = .slice (some ⟨g, o, none⟩) xs.length cap ∧ base ≤ g ∧ xs.length ≤ cap ∧ cap ≤ maxLen ∧ w.heap[g]? = some (.cells cur 3 (0, 0)) ∧ o + cap ≤ cur.size ∧
   (∀ k, k < xs.length → cur[o + k]? = some (.int .i64 (xs.getD k 0))) ∧ (∀ x ∈ xs, I64 x) ∧ xs.length ≤ 17592186044416
section
variable {w w' : World} {base : Nat} {v : Value} {xs : List Int}
theorem QueI.form (h : QueI w base v xs) : ∃ g o cap, v = .slice (some ⟨g, o, none⟩) xs.length cap ∧ xs.length ≤ cap ∧ cap ≤ maxLen ∧ Ints w (some ⟨g, o, none⟩) xs.length xs := by
 obtain ⟨g, o, cap, cur, rfl, h1, h2, h3, h4, h5, h6, h7, h8⟩ := h
 refine ⟨g, o, cap, rfl, h2, h3, rfl, h8, fun k hk => ⟨g, o, rfl, ?_, h7 _ ?_⟩⟩
 · rw [cell_of_row _ _ _ _ _ _ h4]; exact h6 k hk
 · rw [List.getD_eq_getElem?_getD, List.getElem?_eq_getElem hk]; exact List.getElem_mem _
theorem QueI.low {k : Nat} (h : QueI w base v xs) (hk : v.ownBlock = some k) : base ≤ k ∧ k < w.heap.size := by
 obtain ⟨g, o, cap, cur, rfl, h1, h2, h3, h4, _⟩ := h
 simp only [Value.ownBlock, Option.some.injEq] at hk
 subst hk
 exact ⟨h1, (Array.getElem?_eq_some_iff.1 h4).1⟩
theorem QueI.chg {S : Nat → Prop} (h : QueI w base v xs) (hc : Chg S w w') (hn : ∀ k, v.ownBlock = some k → ¬ S k) : QueI w' base v xs := by
 obtain ⟨g, o, cap, cur, rfl, h1, h2, h3, h4, h5⟩ := h
 exact ⟨g, o, cap, cur, rfl, h1, h2, h3, (hc.block g (Array.getElem?_eq_some_iff.1 h4).1 (hn g rfl)).trans h4, h5⟩
theorem QueI.ext (h : QueI w base v xs) (hb : Below w.heap.size w w') : QueI w' base v xs := h.chg (S := fun _ => False) ⟨hb.os, hb.tape, hb.output, hb.size, fun k hk _ => hb.block k hk⟩ fun _ _ e => e
theorem QueI.of_own {g n c : Nat} (h : OwnI w base (.slice (some ⟨g, 0, none⟩) n c) xs) : QueI w base (.slice (some ⟨g, 0, none⟩) n c) xs := by
 rcases h.1.2 with ⟨hv, _⟩ | ⟨g', cap, cur, hv, hb, hh, h1, h2, h3, h4⟩
 · cases hv
 · injection hv with e1 e2 e3;injection e1 with e1;injection e1 with e1 _ _;subst e1 e2 e3;refine ⟨g, 0, c, cur, rfl, hb, h1, h2, hh, by omega, fun k hk => ?_, h.2.1, h.2.2⟩;have h5 : (cur.toList.take (xs.length * 1))[k]? = (intVals xs)[k]? := by rw [h4]
   rw [List.getElem?_take, if_pos (by omega)] at h5;rw [Nat.zero_add];rw [Array.getElem?_toList] at h5;rw [h5];simp [intVals, List.getD_eq_getElem?_getD, hk]
theorem QueI.tail {g o n c : Nat} {x : Int} (h : QueI w base (.slice (some ⟨g, o, none⟩) n c) (x :: xs)) : QueI w base (.slice (some ⟨g, o + 1, none⟩) xs.length (c - 1)) xs := by
 obtain ⟨g', o', cap, cur, e, h1, h2, h3, h4, h5, h6, h7, h8⟩ := h
 injection e with e1 e2 e3
 injection e1 with e1
 injection e1 with e1 e4 _
 subst e1 e3 e4
 simp only [List.length_cons] at h2 h8
 refine ⟨g, o + 1, c - 1, cur, rfl, h1, by omega, by omega, h4, by omega, fun k hk => ?_, fun z hz => h7 z (by simp [hz]), by omega⟩
 have := h6 (k + 1) (by simp; omega)
 rw [show o + 1 + k = o + (k + 1) by omega, this]
 simp
end
section
variable {P : Program} {Q : Exit → Act → World → Prop}
theorem run_append_que (w0 : World) (base : Nat) (t ty : TypeId) (z : Value) (bytes : Nat) (ht : P.underlying t = some (.slice 3)) (hinfo : (P.info? 3).map (fun i => (i.zero, i.size, i.bytes)) = some (some z, 1, bytes)) (hzs : z.cells.size = 1)
  (v : Value) (xs : List Int) (h : QueI w0 base v xs) (x : Int) (hx : I64 x) (hlen : xs.length ≤ 1000000) (hb8 : bytes ≤ 16) (hbase : base ≤ w0.heap.size) :
  ∃ v' w', (Builtin.append_ #[t, t] ty #[v, .slice (some ⟨w0.heap.size, 0, none⟩) 1 1]).run P (w0.alloc (.cells #[.int .i64 x] 3)) = .ok v' w' ∧ QueI w' base v' (xs ++ [x]) ∧ w0.grownBy w' v.ownBlock ∧ (v'.ownBlock = v.ownBlock ∨ ∃ k, v'.ownBlock = some k ∧ w0.heap.size ≤ k) := by
 obtain ⟨i, hi, hz, hsize, hby⟩ := info_parts hinfo
 obtain ⟨g, o, cap, cur, rfl, h1, h2, h3, h4, h5, h6, h7, h8⟩ := h
 have hgl := (Array.getElem?_eq_some_iff.1 h4).1
 have hadd : ∀ j, (⟨w0.heap.size, 0, none⟩ : Addr).add j = ⟨w0.heap.size, j, none⟩ := fun j => by unfold Addr.add; split <;> simp_all
 have hadd2 : ∀ j, (⟨g, o, none⟩ : Addr).add j = ⟨g, o + j, none⟩ := fun j => by unfold Addr.add; split <;> simp_all
 have hg' : (w0.alloc (.cells #[.int .i64 x] 3)).heap[g]? = some (.cells cur 3 (0, 0)) := (Below.heap_alloc _ _ _ hgl).trans h4
 have hnews : ∀ j u, [Value.int .i64 x][j]? = some u → (w0.alloc (.cells #[.int .i64 x] 3)).cell? ((⟨w0.heap.size, 0, none⟩ : Addr).add j) = some u := by
  intro j u hu;rw [hadd, cell_of_row _ _ _ _ _ _ (World.alloc_heap_new w0 _)];simpa using hu
 by_cases hr : xs.length + 1 ≤ cap
 · refine ⟨_, _, run_append_room_cells (P := P) (w0.alloc (.cells #[.int .i64 x] 3)) t ty 3 i ht hi g o xs.length cap ⟨w0.heap.size, 0, none⟩ 1 1 [.int .i64 x] (by rw [hsize]; rfl) hnews (by simp [Value.oneCell']) hr (fun j hj => ?_) (fun j hj => frozen_of_row _ _ _ _ _ hg'), ?_, ?_, .inl rfl⟩
   · simp only [List.length_singleton] at hj;obtain rfl : j = 0 := by omega
     rw [cell_of_row _ _ _ _ _ _ hg', hsize, Array.getElem?_eq_getElem (by omega)];rfl
   · have hst := heap_setCell_same (w0.alloc (.cells #[.int .i64 x] 3)) g (o + xs.length) _ _ (.int .i64 x) hg';rw [hsize, Nat.mul_one];refine ⟨g, o, cap, _, by simp, h1, by simp; omega, h3, hst, by simp; omega, fun k hk => ?_, fun z hz => ?_, by simp; omega⟩
     · simp only [List.length_append, List.length_singleton] at hk;rw [Array.getElem?_setIfInBounds];by_cases e : k = xs.length
       · subst e;rw [if_pos rfl, if_pos (by omega)];simp [List.getD_eq_getElem?_getD]
       · rw [if_neg (by omega), h6 k (by omega)];simp [List.getD_eq_getElem?_getD, List.getElem?_append_left (show k < xs.length by omega)]
     · rcases List.mem_append.1 hz with hz | hz
       · exact h7 z hz
       · simp at hz; subst hz; exact hx
   · refine ⟨rfl, rfl, rfl, by simp [World.setCells], fun k hk hne => ?_⟩;have hkg : k ≠ g := fun e => hne (by simp [Value.ownBlock, e]);simp only [World.setCells];rw [Below.heap_setCell _ _ _ _ (fun e => hkg e), Below.heap_alloc _ _ _ hk]
 · have holds : ∀ j u, (intVals xs)[j]? = some u → (w0.alloc (.cells #[.int .i64 x] 3)).cell? ((⟨g, o, none⟩ : Addr).add j) = some u := fun j u hu => by
    have hj : j < xs.length := by have := (List.getElem?_eq_some_iff.1 hu).1; simpa [intVals] using this
    rw [hadd2, cell_of_row _ _ _ _ _ _ hg', h6 j hj, ← hu];simp [intVals, List.getD_eq_getElem?_getD, hj]
   obtain ⟨v', w', hrun, hown, hgr⟩ := run_append_arg_grows (P := P) (w0.alloc (.cells #[.int .i64 x] 3)) t ty 3 i z 1 bytes ht hi hz hsize hby hzs (by omega) ⟨g, o, none⟩ xs.length cap (intVals xs) (by simp [intVals]) holds ⟨w0.heap.size, 0, none⟩ 1 1 [.int .i64 x] rfl hnews (by omega) (by simp only [maxLen]; omega) (by
    have : (xs.length + 1) * bytes ≤ (xs.length + 1) * 16 := Nat.mul_le_mul_left _ hb8
    omega)
   obtain ⟨g2, c2, rfl⟩ : ∃ g2 c2, v' = .slice (some ⟨g2, 0, none⟩) (xs.length + 1) c2 := by
    rcases hown.2 with ⟨_, h0⟩ | ⟨g2, c2, cur, hv, _⟩
    · omega
    · exact ⟨g2, c2, hv⟩
   refine ⟨_, w', hrun, ?_, ⟨hgr.os, hgr.tape, hgr.output, Nat.le_trans (by simp) hgr.size, fun k hk _ => ?_⟩, .inr ⟨g2, rfl, by have := (hown.lt g2 rfl).1; simp at this; omega⟩⟩
   · have : OwnI w' base (.slice (some ⟨g2, 0, none⟩) (xs ++ [x]).length c2) (xs ++ [x]) := by
      refine ⟨?_, fun z hz => ?_, by simp; omega⟩
      · have e : intVals (xs ++ [x]) = intVals xs ++ [.int .i64 x] := by simp [intVals]
        rw [e, List.length_append];exact hown.mono (by simp; omega)
      · rcases List.mem_append.1 hz with hz | hz
        · exact h7 z hz
        · simp at hz; subst hz; exact hx
     have h9 := QueI.of_own this
     rwa [List.length_append, List.length_singleton] at h9
   · rw [hgr.block k (by simp; omega) (fun e => by cases e), Below.heap_alloc _ _ _ hk]
theorem wpList_append_que {ops : Array Oper} {rest : List Oper} {o : Oper} {a : Act} (hgd : o.guard = none) (w0 : World) (s x : Operand) (t : TypeId) (ho : o.op = .call { callee := .builtin .append, args := #[s, x], argTypes := #[t, t] })
  (base : Nat) (z : Value) (bytes : Nat) (ht : P.underlying t = some (.slice 3)) (hinfo : (P.info? 3).map (fun i => (i.zero, i.size, i.bytes)) = some (some z, 1, bytes)) (hzs : z.cells.size = 1)
  (v : Value) (xs : List Int) (hs : a.eval s = v) (hq : QueI w0 base v xs) (y : Int) (hy : I64 y) (H : Nat) (hH : w0.heap.size = H) (hx : a.eval x = .slice (some ⟨H, 0, none⟩) 1 1) (hlen : xs.length ≤ 1000000) (hb8 : bytes ≤ 16) (hbase : base ≤ w0.heap.size)
  (h : ∀ v' w', QueI w' base v' (xs ++ [y]) → w0.grownBy w' v.ownBlock → (v'.ownBlock = v.ownBlock ∨ ∃ k, v'.ownBlock = some k ∧ w0.heap.size ≤ k) → wpList P ops Q rest (a.put o.dst v') w') :
  wpList P ops Q (o :: rest) a (w0.alloc (.cells #[.int .i64 y] 3)) := by
 refine wpList_plain hgd fun K hK => ?_
 subst hH
 obtain ⟨v', w', hrun, h2, h3, h4⟩ := run_append_que (P := P) w0 base t o.type z bytes ht hinfo hzs v xs hq y hy hlen hb8 hbase
 unfold Oper.wp execOp
 simp only [ho, resolve, invoke, builtin, Sem.run_bind, Sem.run_pure, Result.andThen_ok, List.map_toArray, List.map_cons, List.map_nil, hs, hx, hrun]
 exact hK _ _ (h v' w' h2 h3 h4)
end
end

section
open Go.RowKit
abbrev rsetO (f : Nat → Bool) : Obj := .cells (setA f) 107 (0, 0)
theorem size_rset : (Tryz.prog.info? 107).map (·.size) = some 200 := by kernel_rfl
theorem zero_rset : Tryz.zeroCells107 = setA fun _ => false := by kernel_rfl
theorem load_rset {W : World} {g : Nat} {f : Nat → Bool} (hg : W.heap[g]? = some (rsetO f)) : (loadVar 107 ⟨g, 0, none⟩).run Tryz.prog W = .ok (.agg (setA f)) W :=
 run_loadVar_row (P := Tryz.prog) W g 107 107 _ (0, 0) _ hg Tryz.underlying107 rfl (by rw [setA_size]; exact size_rset)
theorem rset_cell {W : World} {g : Nat} {f : Nat → Bool} (hg : W.heap[g]? = some (rsetO f)) (j : Nat) (hj : j < 200) : W.cell? ⟨g, j, none⟩ = some (.bool (f j)) := by rw [cell_of_row _ _ _ _ _ _ hg, setA_at _ _ hj]
theorem rset_free {W : World} {g : Nat} {f : Nat → Bool} (hg : W.heap[g]? = some (rsetO f)) (j : Nat) : W.frozen? ⟨g, j, none⟩ = false := frozen_of_row _ _ _ _ _ hg
theorem rset_to {W : World} {g : Nat} {f h : Nat → Bool} {j : Nat} {b : Bool} (hg : W.heap[g]? = some (rsetO f)) (hj : j < 200) (e : (fun k => if k = j then b else f k) = h) : (W.setCell ⟨g, j, none⟩ (.bool b)).heap[g]? = some (rsetO h) := by
 rw [heap_setCell_same _ _ _ _ _ _ hg, setA_put _ _ hj, e]
theorem to17_any (pa : Option Addr) (pn pc : Nat) (ba : Option Addr) (bn bc : Nat) (bs : List BlkH) (k : Nat) (w : World) (h : BlksOK w ba bn bs) (hk : k < bn) :
  Calls Tryz.prog 96 #[funcV pa pn pc ba bn bc, .int .i64 (k : Int)] w (IntsPost w (toD ((tsOf bs).getD k zTerm))) := by
 have hbn := h.1.2.1
 obtain ⟨x, b, o, hx, ht, rfl, c0, c1, c2, c3, c4⟩ := (h.ext (ext_alloc w (funcO pa pn pc ba bn bc))).cells hk
 rw [tsOf_at _ _ _ hx]
 have HT := Lib.hid ht
 have hk2 : (k : Int) < (bn : Int) := by omega
 clear h hx ht c0
 go_enter Tryz.func96, Tryz.ntmps96
 go_wp2_with (
  (go_at_call 71
   refine (to03_any x.t _ HT.out).mono ?_;rintro e w1 ⟨v, rfl, ho, hb⟩;have HO := Lib.hid (ho.mono (show w.heap.size ≤ _ by simp));have HB := Lib.hid (ext_trans (ext_alloc _ _) hb)
   clear ho hb c1 c2 c3 c4))
 go_ret
 exact ⟨v, rfl, HO.out, HB.out⟩
theorem whole17_any (pa : Option Addr) (pn pc : Nat) (ba : Option Addr) (bn bc : Nat) (hd : bn ≤ 200) (w : World) : Calls Tryz.prog 73 #[funcV pa pn pc ba bn bc] w (SetPost w (wholeS bn)) := by
 go_enter Tryz.func73, Tryz.ntmps73
 go_upto_region 2 with (fail)
 obtain ⟨W, hW⟩ : ∃ W, W = ((w.alloc (funcO pa pn pc ba bn bc)).alloc (.cells Tryz.zeroCells107 107)).alloc (.cells Tryz.zeroCells107 107) := ⟨_, rfl⟩
 rw [← hW]
 have hf : W.heap[w.heap.size]? = some (funcO pa pn pc ba bn bc) := by rw [hW, Below.heap_alloc _ _ _ (by simp; omega), Below.heap_alloc _ _ _ (by simp)]; exact heap_alloc_new _ _
 have hr : W.heap[w.heap.size + 1]? = some (rsetO fun _ => false) := by rw [hW, Below.heap_alloc _ _ _ (by simp), heap_at _ _ _ (by simp), zero_rset]
 have hs : W.heap[w.heap.size + 1 + 1]? = some (rsetO (wholeS 0)) := by rw [hW, heap_at _ _ _ (by simp), zero_rset]; rfl
 have HF := Lib.hid hf
 have HR := Lib.hid hr
 have HS := Lib.hid hs
 have HB : Hid (Below w.heap.size w W) := by rw [Hid, hW]; exact ((ext_alloc _ _).alloc (by simp) _).alloc (by simp; omega) _
 clear hW hf hr hs
 go_wp2
 go_loopw [4] (fun i wr => ∃ (k : Nat), k ≤ bn ∧ i = .int .i64 k ∧ Hid (wr.heap[w.heap.size]? = some (funcO pa pn pc ba bn bc)) ∧ Hid (wr.heap[w.heap.size + 1]? = some (rsetO fun _ => false)) ∧ Hid (wr.heap[w.heap.size + 1 + 1]? = some (rsetO (wholeS k))) ∧ Hid (Below w.heap.size w wr)) (fun i _ => bn - (intOf i).toNat)
 case atStart => exact ⟨0, by omega, rfl, HF, HR, HS, HB⟩
 case round =>
  clear HF HR HS HB;obtain ⟨k, hk, rfl, HF, HR, HS, HB⟩ := hrel;have kf := HF.out;have k1 : wr.cell? ⟨w.heap.size, 1, none⟩ = some (.slice ba bn bc) := by rw [cell_of_row _ _ _ _ _ _ kf]; rfl
  clear kf;by_cases hlt : k < bn
  · have hcell := rset_cell HS.out k (by omega);have hfr := rset_free HS.out k;have HS2 := Lib.hid (rset_to (h := wholeS (k + 1)) (b := true) HS.out (show k < 200 by omega) (by funext j; by_cases e : j = k <;> simp [wholeS, e] <;> omega));have HF2 := Lib.hid (grown_row (grown_setCell wr (w.heap.size + 1 + 1) k (.bool true)) HF.out (by simp; omega));have HR2 := Lib.hid (grown_row (grown_setCell wr (w.heap.size + 1 + 1) k (.bool true)) HR.out (by simp));have hl := lt_of_heap HS.out;have hlt' : (k : Int) < (bn : Int) := by omega
    generalize wholeS k k = bb at *;go_wp2
    go_roundw
    case rel => exact ⟨k + 1, by omega, by go_num, HF2, HR2, HS2, HB.out.setCell (by simp; omega) _⟩
    case measure => simp [intOf]; omega
  · obtain rfl : k = bn := by omega
    go_wp2_with (first
     | (refine wpList_load_row rfl 107 _ rfl (w.heap.size + 1 + 1) rfl 107 _ (0, 0) _ HS.out Tryz.underlying107 rfl (by rw [setA_size]; exact size_rset) ?_)
     | (refine wpList_store_row rfl 107 _ _ rfl (w.heap.size + 1) (setA (wholeS k)) rfl rfl 107 _ HR.out (by rw [setA_size]; exact size_rset) rfl (setA_all _) ?_))
    exact bodyPost_ret (v := .agg (setA (wholeS k))) (by simp [results, Tryz.results73, asAddr, Act.put, load_rset (setRow_heap _ _ _ _ _ _ HR.out)]) rfl ⟨rfl, below_setRow HB.out (by omega) _⟩
def cntS (f : Nat → Bool) (k : Nat) : Nat := ((List.range k).filter f).length
theorem cntS_step (f : Nat → Bool) (k : Nat) : cntS f (k + 1) = cntS f k + if f k then 1 else 0 := by
 rw [cntS, cntS, List.range_succ, List.filter_append, List.length_append]
 cases h : f k <;> simp [h]
theorem cntS_le (f : Nat → Bool) (k : Nat) : cntS f k ≤ k := by
 have := List.length_filter_le f (List.range k)
 simpa [cntS] using this
theorem many17_any (f : Nat → Bool) (w : World) : Calls Tryz.prog 99 #[.agg (setA f)] w fun e w' => e = .returned (.int .i64 (cntS f 200 : Nat)) ∧ Below w.heap.size w w' := by
 have HK0 : Hid ((w.alloc (rsetO f)).heap[w.heap.size]? = some (rsetO f)) := heap_alloc_new _ _
 go_enter Tryz.func99, Tryz.ntmps99
 go_wp2
 go_loopw [3, 4] (fun s3 i wr => ∃ (k : Nat), k ≤ 200 ∧ i = .int .i64 k ∧ s3 = .int .i64 (cntS f k : Nat) ∧ Hid (wr = w.alloc (rsetO f))) (fun _ i _ => 200 - (intOf i).toNat)
 case atStart => exact ⟨0, by omega, rfl, rfl, rfl⟩
 case round =>
  obtain ⟨k, hk, rfl, rfl, HW⟩ := hrel;have hle := cntS_le f k;have HST := Lib.hid (cntS_step f k);by_cases hlt : k < 200
  · have hk0 : wr.heap[w.heap.size]? = some (rsetO f) := by rw [HW.out]; exact HK0.out
    have hcell := rset_cell hk0 k hlt;clear hk0;cases hf : f k with
    | true =>
      rw [hf] at hcell HST;have HST2 : Hid (cntS f (k + 1) = cntS f k + 1) := HST.out;clear HST hf;generalize cntS f k = z at *;go_wp2
      go_roundw
      case rel => exact ⟨k + 1, by omega, by go_num, by rw [HST2.out]; go_num, HW⟩
      case measure => simp [intOf]; omega
    | false =>
      rw [hf] at hcell HST;have HST2 : Hid (cntS f (k + 1) = cntS f k) := HST.out;clear HST hf;go_wp2
      go_roundw
      case rel => exact ⟨k + 1, by omega, by go_num, by rw [HST2.out], HW⟩
      case measure => simp [intOf]; omega
  · obtain rfl : k = 200 := by omega
    go_wp2
    go_ret
    exact ⟨rfl, by rw [HW.out]; exact ext_alloc _ _⟩
end

section
open Go.RowKit
def BJ (fo : Obj) (next : Nat → List Nat) (f : Nat → Bool) (b : Nat) (w : World) (st seen : List Nat) (x : Option (Nat × Nat)) (v : Value) (wr : World) : Prop :=
 WInv next f b st (fun y => seen.contains y) x ∧ seen.Nodup ∧ (∀ y ∈ seen, y < 200) ∧ wr.heap[w.heap.size]? = some fo ∧ wr.heap[w.heap.size + 1]? = some (rsetO f) ∧ wr.heap[w.heap.size + 1 + 1]? = some (rsetO fun _ => false) ∧
  wr.heap[w.heap.size + 1 + 1 + 1]? = some (rsetO fun y => seen.contains y) ∧ QueI wr (w.heap.size + 1 + 1 + 1 + 1) v (intsN st) ∧ Below w.heap.size w wr
theorem BJ.ext {fo : Obj} {next : Nat → List Nat} {f : Nat → Bool} {b : Nat} {w : World} {st seen : List Nat} {x : Option (Nat × Nat)} {v : Value} {wr w' : World} (h : BJ fo next f b w st seen x v wr) (hb : Below wr.heap.size wr w') : BJ fo next f b w st seen x v w' := by
 obtain ⟨h1, h2, h3, h4, h5, h6, h7, h8, h9⟩ := h
 exact ⟨h1, h2, h3, block_ext hb h4, block_ext hb h5, block_ext hb h6, block_ext hb h7, h8.ext hb, ext_trans h9 hb⟩
theorem toD_nx {ts : List TermD} (hg : goodB ts = true) (k : Nat) : toD (ts.getD k zTerm) = intsN (nx ts k) := by
 rw [nx, intsN, List.map_map]
 by_cases hk : k < ts.length
 · have hm : ts.getD k zTerm ∈ ts := by rw [List.getD_eq_getElem?_getD, List.getElem?_eq_getElem hk]; exact List.getElem_mem _
   have h := ((goodB_iff ts).1 hg).2 _ hm
   conv => lhs; rw [← List.map_id (toD (ts.getD k zTerm))]
   refine List.map_congr_left fun x hx => ?_;have := h.2 x hx;simp only [id, Function.comp];omega
 · have : ts.getD k zTerm = zTerm := by rw [List.getD_eq_getElem?_getD, List.getElem?_eq_none (by omega)]; rfl
   rw [this]; rfl
theorem behind17_any (pa : Option Addr) (pn pc : Nat) (ba : Option Addr) (bn bc : Nat) (bs : List BlkH) (b : Nat) (f : Nat → Bool) (w : World) (h : BlksOK w ba bn bs) (hg : goodB (tsOf bs) = true) (hb : b < 200) (hcf : Canon f) (hf : f b = true → b < bn) :
  Calls Tryz.prog 98 #[funcV pa pn pc ba bn bc, .int .i64 (b : Int), .agg (setA f)] w (SetPost w (walkF (nx (tsOf bs)) f b)) := by
 have hbl : (tsOf bs).length = bn := by rw [tsOf_len]; exact h.1.1
 have hbn : bn ≤ 200 := by have := ((goodB_iff _).1 hg).1.2; omega
 have H := Lib.hid h
 have HG := Lib.hid hg
 have HC := Lib.hid hcf
 have HF := Lib.hid hf
 have HX : Hid (∀ k y, y ∈ nx (tsOf bs) k → y < bn) := fun k y hy => by have := good_nx hg hy; omega
 clear h hg hcf hf
 go_enter Tryz.func98, Tryz.ntmps98
 go_upto_region 2 with (fail)
 obtain ⟨W, hW⟩ : ∃ W, W = (((w.alloc (funcO pa pn pc ba bn bc)).alloc (rsetO f)).alloc (.cells Tryz.zeroCells107 107)).alloc (.cells Tryz.zeroCells107 107) := ⟨_, rfl⟩
 rw [← hW]
 have ho : W.heap[w.heap.size]? = some (funcO pa pn pc ba bn bc) := by rw [hW, Below.heap_alloc _ _ _ (by simp <;> omega), Below.heap_alloc _ _ _ (by simp <;> omega), Below.heap_alloc _ _ _ (by simp)]; exact heap_alloc_new _ _
 have hi : W.heap[w.heap.size + 1]? = some (rsetO f) := by rw [hW, Below.heap_alloc _ _ _ (by simp <;> omega), Below.heap_alloc _ _ _ (by simp), heap_at _ _ _ (by simp)]
 have hr : W.heap[w.heap.size + 1 + 1]? = some (rsetO fun _ => false) := by rw [hW, Below.heap_alloc _ _ _ (by simp), heap_at _ _ _ (by simp), zero_rset]
 have hs : W.heap[w.heap.size + 1 + 1 + 1]? = some (rsetO fun _ => false) := by rw [hW, heap_at _ _ _ (by simp), zero_rset]
 have hB : Below w.heap.size w W := by rw [hW]; exact (((ext_alloc _ _).alloc (by simp) _).alloc (by simp; omega) _).alloc (by simp; omega) _
 have hWs : W.heap.size = w.heap.size + 1 + 1 + 1 + 1 := by rw [hW]; simp
 have HWs := Lib.hid hWs
 have hc := rset_cell hi b hb
 have HO := Lib.hid ho
 have HI := Lib.hid hi
 have HR := Lib.hid hr
 have HS := Lib.hid hs
 have HB := Lib.hid hB
 clear hW hWs ho hi hr hs hB
 by_cases hfb : f b = true
 · rw [hfb] at hc;have HFB := Lib.hid hfb;clear hfb;go_wp2
   go_loopg [8, 9, 10, 11] 201 (fun gg v _ _ _ wr => ∃ (st seen : List Nat), st.length + 200 ≤ gg + seen.length ∧ st.length ≤ seen.length + 1 ∧ Hid (BJ (funcO pa pn pc ba bn bc) (nx (tsOf bs)) f b w st seen none v wr))
   case atStart =>
    refine ⟨[b], [], by simp, by simp, by simpa using WInv.start (nx (tsOf bs)) f b, by simp, by simp, ?_, ?_, ?_, ?_, ?_, ?_⟩
    · exact (Below.heap_alloc _ _ _ (by rw [HWs.out]; omega)).trans HO.out
    · exact (Below.heap_alloc _ _ _ (by rw [HWs.out]; omega)).trans HI.out
    · exact (Below.heap_alloc _ _ _ (by rw [HWs.out]; omega)).trans HR.out
    · exact (Below.heap_alloc _ _ _ (by rw [HWs.out]; omega)).trans HS.out
    · exact QueI.of_own (ownI_lit (xs := intsN [b]) rfl _ (by rw [HWs.out]; omega) (intsN_ok [b] (by simp; omega)) (by simp [intsN]))
    · exact HB.out.alloc (by rw [HWs.out]; omega) _
   case round =>
    obtain ⟨st, seen, hm, hm2, HJ⟩ := hrel;clear hc HO HI HS HR HB HWs;rcases st with _ | ⟨x, st'⟩
    · obtain ⟨h1, h2, h3, h4, h5, h6, h7, h8, h9⟩ := HJ.out;obtain ⟨g, o, cap, rfl, hl1, hl2, _⟩ := h8.form;have HE : Hid ((fun y => seen.contains y) = walkF (nx (tsOf bs)) f b) := walkF_of HC.out HFB.out h1;rw [HE.out] at h7;have HS := Lib.hid h7;have HR := Lib.hid h6;have HB := Lib.hid h9;clear h1 h2 h3 h4 h5 h6 h7 h8 h9 HJ hm
      go_wp2_with (first
       | (refine wpList_load_row rfl 107 _ rfl (w.heap.size + 1 + 1 + 1) rfl 107 _ (0, 0) _ HS.out Tryz.underlying107 rfl (by rw [setA_size]; exact size_rset) ?_)
       | (refine wpList_store_row rfl 107 _ _ rfl (w.heap.size + 1 + 1) (setA (walkF (nx (tsOf bs)) f b)) rfl rfl 107 _ HR.out (by rw [setA_size]; exact size_rset) rfl (setA_all _) ?_))
      exact bodyPost_ret (v := .agg (setA (walkF (nx (tsOf bs)) f b))) (by simp [results, Tryz.results98, asAddr, Act.put, load_rset (setRow_heap _ _ _ _ _ _ HR.out)]) rfl ⟨rfl, below_setRow HB.out (by omega) _⟩
    · obtain ⟨h1, h2, h3, h4, h5, h6, h7, h8, h9⟩ := id HJ.out;have hst : intsN (x :: st') = (x : Int) :: intsN st' := rfl;rw [hst] at h8;obtain ⟨g, o, cap, rfl, hl1, hl2, hints⟩ := h8.form;have hlen2 : (intsN st').length = st'.length := by simp [intsN]
      have hlen' : ((x : Int) :: intsN st').length = st'.length + 1 := by simp [intsN]
      have hpop := h8.tail;obtain ⟨b1, o1, e1, hx0, _⟩ := hints.2.2 0 (by simp);injection e1 with e1;injection e1 with e1 e2;subst e1 e2;rw [Nat.add_zero] at hx0;have hx0' : wr.cell? ⟨g, o, none⟩ = some (.int .i64 (x : Int)) := hx0;have hxf : f x = true := by
       rcases h1.src x (by simp) with e | e
       · rw [e]; exact HFB.out
       · exact (h1.sound x e).inn
      have hxr : x < bn := by
       rcases h1.src x (by simp) with e | e
       · rw [e]; exact HF.out HFB.out
       · cases h1.sound x e with
         | one h _ => exact HX.out _ _ h
         | step _ h _ => exact HX.out _ _ h
      have hseen : seen.length ≤ 200 := nodup_len 200 seen h2 h3;have hstl := hm;simp only [List.length_cons] at hstl hm2;rw [hlen'] at hl1;rw [hlen2] at hpop;rw [hlen'];have hcc : (cap = 1 ∧ st' = []) ∨ ∃ c2, cap = c2 + 2 := by
       by_cases e : cap = 1
       · exact .inl ⟨e, List.eq_nil_of_length_eq_zero (by omega)⟩
       · exact .inr ⟨cap - 2, by omega⟩
      have hj2 : ∀ v2, QueI wr (w.heap.size + 1 + 1 + 1 + 1) v2 (intsN st') → BJ (funcO pa pn pc ba bn bc) (nx (tsOf bs)) f b w st' seen (some (x, 0)) v2 wr := fun v2 hp =>
       ⟨h1.take x st' (fun z => by simp), h2, h3, h4, h5, h6, h7, hp, h9⟩
      have hpop1 : cap = 1 → st' = [] → QueI wr (w.heap.size + 1 + 1 + 1 + 1) (.slice (some ⟨g, o, none⟩) 0 0) (intsN []) := fun e1 e2 => by
       obtain ⟨g', o', cap', cur, e, k1, k2, k3, k4, k5, k6, k7, k8⟩ := h8;injection e with e1 e2 e3;injection e1 with e1;injection e1 with e1 e4 _;subst e1 e3 e4;exact ⟨g, o, 0, cur, rfl, k1, by simp [intsN], by simp [maxLen], k4, by omega, fun k hk => by simp [intsN] at hk, fun z hz => by simp [intsN] at hz, by simp [intsN]⟩
      have HK := Lib.hid h4;have HBw := Lib.hid h9;unfold maxLen at hl2;have hstn : st'.length ≤ 1000 := by omega
      have hwq : w.heap.size + 1 + 1 + 1 + 1 ≤ wr.heap.size := by have := lt_of_heap h7; omega
      have hqlow : ∀ v2, QueI wr (w.heap.size + 1 + 1 + 1 + 1) v2 (intsN st') → ∀ k, v2.ownBlock = some k → k < wr.heap.size := fun v2 h k hk => (h.low hk).2;obtain ⟨wq, rfl⟩ : ∃ wq : World, wq = wr := ⟨_, rfl⟩
      rcases hcc with ⟨rfl, hs0⟩ | ⟨c2, rfl⟩
      case' inl => have HJ2 := Lib.hid (hj2 (.slice (some ⟨g, o, none⟩) 0 0) (by rw [hs0]; exact hpop1 rfl hs0)); have HQL := Lib.hid (hqlow (.slice (some ⟨g, o, none⟩) 0 0) (by rw [hs0]; exact hpop1 rfl hs0)); clear hs0
      case' inr => have HJ2 := Lib.hid (hj2 _ hpop); have HQL := Lib.hid (hqlow _ hpop)
      all_goals
       clear h1 h2 h3 h4 h5 h6 h7 h8 h9 HJ hm hst hlen' hlen2 hpop hxf hints hx0 hj2 hpop1 hqlow
       go_wp2_with (first
        | (refine wpList_load_row (o := ⟨some 27, .load 25 _, _, _, _, _⟩) rfl 25 _ rfl w.heap.size rfl 25 _ (0, 0) _ HK.out Tryz.underlying25 rfl size_func ?_)
        | (go_at_call 96
           refine (to17_any pa pn pc ba bn bc bs x wq (H.out.ext HBw.out) hxr).mono ?_;rintro e w1 ⟨v, rfl, ho, hb⟩;rw [toD_nx HG.out] at ho;obtain ⟨va, vc, rfl⟩ := ho.form;have HNX := Lib.hid (ho.mono (show w.heap.size + 1 + 1 + 1 + 1 ≤ wq.heap.size from hwq));have HSP : Hid (∀ k, (Value.slice va (intsN (nx (tsOf bs) x)).length vc).ownBlock = some k → wq.heap.size ≤ k) := fun k hk => (ho.1.lt k hk).1;have HJ3 := Lib.hid (HJ2.out.ext hb)
           clear ho hb hx0' HK HBw))
       have hnl : (intsN (nx (tsOf bs) x)).length = (nx (tsOf bs) x).length := by simp [intsN]
       have hnl2 : (nx (tsOf bs) x).length ≤ 2 := by simp only [nx, List.length_map]; exact toD_len _
       rw [hnl];rw [hnl] at HNX HSP;clear hnl HJ2;obtain ⟨wo, rfl⟩ : ∃ wo : World, wo = w1 := ⟨_, rfl⟩
       go_loopg [8, 11] (nx (tsOf bs) x).length (fun g2 v2 j wi => ∃ (j' : Nat) (st2 seen2 : List Nat), j = .int .i64 (j' : Int) ∧ j' ≤ (nx (tsOf bs) x).length ∧ (nx (tsOf bs) x).length ≤ g2 + j' ∧ st2.length + seen.length = st'.length + seen2.length ∧ Hid (OwnI wi (w.heap.size + 1 + 1 + 1 + 1) (.slice va (nx (tsOf bs) x).length vc) (intsN (nx (tsOf bs) x))) ∧ Hid (∀ k, v2.ownBlock = some k → (Value.slice va (nx (tsOf bs) x).length vc).ownBlock ≠ some k) ∧ Hid (BJ (funcO pa pn pc ba bn bc) (nx (tsOf bs)) f b w st2 seen2 (some (x, j')) v2 wi))
       case atStart => exact ⟨0, _, seen, rfl, Nat.zero_le _, Nat.le_refl _, rfl, HNX, fun k hk e => by have := HSP.out k e; have := HQL.out k hk; omega, HJ3⟩
       case round =>
        obtain ⟨j', st2, seen2, rfl, hj, hg2, hcnt, HN, HSE, HJ⟩ := hrel;clear HJ3 HNX HQL HSP;obtain ⟨h1, h2, h3, h4, h5, h6, h7, h8, h9⟩ := id HJ.out;obtain ⟨g3, o3, cap3, rfl, hl3, hl4, _⟩ := h8.form;have hseen2 : seen2.length ≤ 200 := nodup_len 200 seen2 h2 h3;unfold maxLen at hl4;by_cases hjl : j' < (nx (tsOf bs) x).length
        · have hyx : (nx (tsOf bs) x).getD j' 0 ∈ nx (tsOf bs) x := by rw [List.getD_eq_getElem?_getD, List.getElem?_eq_getElem hjl]; exact List.getElem_mem _
          have hyb := HX.out x _ hyx;have hy : (nx (tsOf bs) x).getD j' 0 < 200 := by omega
          obtain ⟨b3, o4, rfl, hcy, _⟩ := HN.out.ints.2.2 j' hjl;have hey : (intsN (nx (tsOf bs) x)).getD j' 0 = (((nx (tsOf bs) x).getD j' 0 : Nat) : Int) := by simp [intsN, List.getD_eq_getElem?_getD, hjl]
          rw [hey] at hcy;have hcf := rset_cell h5 _ hy;have hcs := rset_cell h7 _ hy;have hfs := rset_free h7 ((nx (tsOf bs) x).getD j' 0);have hlS := lt_of_heap h7;have hjl' : (j' : Int) < ((nx (tsOf bs) x).length : Int) := by omega
          clear hey hyx;by_cases hgo : f ((nx (tsOf bs) x).getD j' 0) = true ∧ seen2.contains ((nx (tsOf bs) x).getD j' 0) = false
          · obtain ⟨hg1, hg2'⟩ := hgo;have hns : (nx (tsOf bs) x).getD j' 0 ∉ seen2 := by simpa using hg2'
            have hP := h1.push hjl hg1 (st2 ++ [(nx (tsOf bs) x).getD j' 0]) (fun z => by simp [or_comm]) (fun z => ((nx (tsOf bs) x).getD j' 0 :: seen2).contains z) (fun z => by simp);rw [hg1] at hcf;simp only [hg2'] at hcs;have HP := Lib.hid hP;have HNS := Lib.hid hns;have e1 : (fun k => if k = (nx (tsOf bs) x).getD j' 0 then true else seen2.contains k) = (fun z => ((nx (tsOf bs) x).getD j' 0 :: seen2).contains z) := by
             funext k
             by_cases e : k = (nx (tsOf bs) x).getD j' 0
             · simp [e]
             · simp [e, List.contains_cons]
            have hgr := grown_setCell wr (w.heap.size + 1 + 1 + 1) ((nx (tsOf bs) x).getD j' 0) (.bool true);have HS1 := Lib.hid (rset_to (b := true) h7 hy e1);have HO1 := Lib.hid (grown_row hgr h4 (by simp; omega));have HI1 := Lib.hid (grown_row hgr h5 (by simp; omega));have HR1 := Lib.hid (grown_row hgr h6 (by simp));have HQ1 := Lib.hid (h8.chg (chg_setCell wr (w.heap.size + 1 + 1 + 1) ((nx (tsOf bs) x).getD j' 0) (.bool true)) (fun k hk e => by have := (h8.low hk).1; omega));have HB1 := Lib.hid (h9.setCell (p := ⟨w.heap.size + 1 + 1 + 1, (nx (tsOf bs) x).getD j' 0, none⟩) (by simp; omega) (.bool true));have HN1 := Lib.hid (HN.out.kept hgr (.inr (by simp only [Value.ownBlock, ne_eq, Option.some.injEq]; have := (HN.out.1.lt b3 rfl).1; omega)))
            have hcy2 : (wr.setCell ⟨w.heap.size + 1 + 1 + 1, (nx (tsOf bs) x).getD j' 0, none⟩ (.bool true)).cell? ⟨b3, o4 + j', none⟩ = some (.int .i64 (((nx (tsOf bs) x).getD j' 0 : Nat) : Int)) :=
             (World.cell?_of_block (Below.heap_setCell _ _ _ _ (fun e => by have := (HN.out.1.lt b3 rfl).1; simp only at e; omega))).trans hcy
            have H2 := Lib.hid h2;have H3 := Lib.hid h3;have hst2 : (intsN st2).length = st2.length := by simp [intsN]
            have hsl2 : (intsN st2).length ≤ 1000 := by omega
            clear hg1 hg2' hns hP e1 h1 h2 h3 h4 h5 h6 h7 h8 h9 HJ hgr HN;generalize hyy : (nx (tsOf bs) x).getD j' 0 = y at *;have hyI : I64 (y : Int) := by unfold I64; omega
            go_wp2_with (
             (at_builtin
              refine wpList_append_que rfl (wr.setCell ⟨w.heap.size + 1 + 1 + 1, y, none⟩ (.bool true)) (.tmp 56) (.tmp 61) 22 rfl (w.heap.size + 1 + 1 + 1 + 1) _ 8 Tryz.underlying22 infoI rfl (.slice (some ⟨g3, o3, none⟩) (intsN st2).length cap3) (intsN st2) rfl HQ1.out (y : Int) hyI wr.heap.size (by simp) rfl (by omega) (by omega) (by simp; omega) ?_;intro v5 w5 hq5 hg5 hb5;have HQ5 := Lib.hid hq5;have HG5 := Lib.hid hg5;have HB5 := Lib.hid hb5
              clear hq5 hg5 hb5))
            have hrow : ∀ (k : Nat), k < w.heap.size + 1 + 1 + 1 + 1 → ¬ (Value.slice (some ⟨g3, o3, none⟩) (intsN st2).length cap3).ownBlock = some k := fun k hk e => by
             have := (HQ1.out.low e).1;omega
            go_roundg ((nx (tsOf bs) x).length - (j' + 1))
            case measure => omega
            case rel =>
             refine ⟨j' + 1, st2 ++ [y], y :: seen2, by go_num, by omega, by omega, by simp; omega, HN1.out.kept HG5.out (.inr fun e => HSE.out _ e.symm rfl), ?_, HP.out, List.nodup_cons.2 ⟨HNS.out, H2.out⟩, ?_, ?_, ?_, ?_, ?_, ?_, ?_⟩
             · intro k hk;rcases HB5.out with e | ⟨q, e, hq⟩
               · exact HSE.out k (by rw [← e]; exact hk)
               · rw [e] at hk;injection hk with hk;intro e2;have := (HN1.out.1.lt k e2).2;omega
             · intro z hz;rcases List.mem_cons.1 hz with rfl | hz
               · exact hy
               · exact H3.out z hz
             · exact grown_row HG5.out HO1.out (hrow _ (by omega))
             · exact grown_row HG5.out HI1.out (hrow _ (by omega))
             · exact grown_row HG5.out HR1.out (hrow _ (by omega))
             · exact grown_row HG5.out HS1.out (hrow _ (by omega))
             · have e2 : intsN (st2 ++ [y]) = intsN st2 ++ [(y : Int)] := by simp [intsN]
               rw [e2];exact HQ5.out
             · exact HB1.out.grown HG5.out (by simp; omega) (fun k e => by have := (HQ1.out.low e).1; omega)
          · have HJ3 : Hid (BJ (funcO pa pn pc ba bn bc) (nx (tsOf bs)) f b w st2 seen2 (some (x, j' + 1)) (.slice (some ⟨g3, o3, none⟩) (intsN st2).length cap3) wr) := by
             refine ⟨h1.skip hjl (fun hi => ?_), h2, h3, h4, h5, h6, h7, h8, h9⟩;cases hb2 : seen2.contains ((nx (tsOf bs) x).getD j' 0) with
             | true => rfl
             | false => exact absurd ⟨hi, hb2⟩ hgo
            have hgo' : f ((nx (tsOf bs) x).getD j' 0) = true → seen2.contains ((nx (tsOf bs) x).getD j' 0) = true := fun hi => by
             cases hb2 : seen2.contains ((nx (tsOf bs) x).getD j' 0) with
             | true => rfl
             | false => exact absurd ⟨hi, hb2⟩ hgo
            clear h1 h2 h3 h4 h5 h6 h7 h8 h9 HJ hgo;generalize hyy : (nx (tsOf bs) x).getD j' 0 = y at *;cases hfy : f y with
            | true =>
              have hsy := hgo' hfy;rw [hfy] at hcf;simp only [hsy] at hcs;clear hgo' hsy hfy;go_wp2
              go_roundg ((nx (tsOf bs) x).length - (j' + 1))
              case measure => omega
              case rel => exact ⟨j' + 1, st2, seen2, by go_num, by omega, by omega, by omega, HN, HSE, HJ3⟩
            | false =>
              rw [hfy] at hcf;clear hgo' hfy;go_wp2
              go_roundg ((nx (tsOf bs) x).length - (j' + 1))
              case measure => omega
              case rel => exact ⟨j' + 1, st2, seen2, by go_num, by omega, by omega, by omega, HN, HSE, HJ3⟩
        · obtain rfl : j' = (nx (tsOf bs) x).length := by omega
          have HJ3 : Hid (BJ (funcO pa pn pc ba bn bc) (nx (tsOf bs)) f b w st2 seen2 none (.slice (some ⟨g3, o3, none⟩) (intsN st2).length cap3) wr) := ⟨h1.fin (Nat.le_refl _), h2, h3, h4, h5, h6, h7, h8, h9⟩
          clear h1 h2 h3 h4 h5 h6 h7 h8 h9 HJ;go_wp2
          go_roundg (st2.length + 200 - seen2.length)
          case measure => omega
          case rel => exact ⟨st2, seen2, by omega, by omega, HJ3⟩
 · have hfb' : f b = false := by simpa using hfb
   rw [hfb'] at hc;have HE : Hid (walkF (nx (tsOf bs)) f b = fun _ => false) := walkF_no hfb';clear hfb hfb'
   go_wp2_with (first
    | (refine wpList_load_row rfl 107 _ rfl (w.heap.size + 1 + 1 + 1) rfl 107 _ (0, 0) _ HS.out Tryz.underlying107 rfl (by rw [setA_size]; exact size_rset) ?_)
    | (refine wpList_store_row rfl 107 _ _ rfl (w.heap.size + 1 + 1) (setA fun _ => false) rfl rfl 107 _ HR.out (by rw [setA_size]; exact size_rset) rfl (setA_all _) ?_))
   exact bodyPost_ret (v := .agg (setA fun _ => false)) (by simp [results, Tryz.results98, asAddr, Act.put, load_rset (setRow_heap _ _ _ _ _ _ HR.out)]) rfl ⟨by rw [HE.out], below_setRow HB.out (by omega) _⟩
end
end Go.Proofs.YtblhmdhfhaencaaGreat
