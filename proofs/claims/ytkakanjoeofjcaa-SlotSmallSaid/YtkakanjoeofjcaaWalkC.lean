/-
  Walks: the document's pairs (refs), lists that are lent, lists that are kept.
-/
import Derived.Test.YtkakanjoeofjcaaSlotB
import Derived.Test.YtkakanjoeofjcaaMix
namespace Go.Proofs.Ytkakanjoeofjcaa
open Go.RowKit

def flat2 (ps : List (Int × Int)) : List Value := ps.flatMap fun p => [.int .i64 p.1, .int .i64 p.2]
theorem flat2_len (ps : List (Int × Int)) : (flat2 ps).length = ps.length * 2 := by
  induction ps with
  | nil => rfl
  | cons p ps ih => simp only [flat2, List.flatMap_cons, List.length_append, List.length_cons, List.length_nil] at ih ⊢; omega
theorem flat2_snoc (ps : List (Int × Int)) (p : Int × Int) : flat2 (ps ++ [p]) = flat2 ps ++ [.int .i64 p.1, .int .i64 p.2] := by simp [flat2]
theorem take_snoc' {α : Type} (l : List α) (k : Nat) (d : α) (h : k < l.length) : l.take (k + 1) = l.take k ++ [l.getD k d] := by
  rw [List.take_succ_eq_append_getElem h]; simp [List.getD, h]

theorem info_pair20 : (Try.prog.info? 58).map (fun i => (i.zero, i.size, i.bytes)) = some (some (.agg #[.int .i64 0, .int .i64 0]), 2, 16) := by kernel_rfl
theorem info_int : (Try.prog.info? 3).map (fun i => (i.zero, i.size, i.bytes)) = some (some (.int .i64 0), 1, 8) := by kernel_rfl

def Cell2 (p q : Addr) (x y : Value) (W : World) : Prop := W.cell? p = some x ∧ W.cell? q = some y
def RefsPost (w : World) (ps : List (Int × Int)) (e : Ending) (w' : World) : Prop :=
  ∃ v, e = .returned v ∧ w'.ownsRow w.heap.size 58 2 v ps.length (flat2 ps) ∧ Below w.heap.size w w'

set_option maxHeartbeats 1000000 in
theorem refs_any (a : Option Addr) (m cap : Nat) (ps : List (Int × Int)) (w : World) (h : Prs w a m ps) (hm : m ≤ 1000000) :
    Calls Try.prog 13 #[.slice a m cap] w (RefsPost w ps) := by
  have HL := Lib.hid h.1
  have H := Lib.hid h
  clear h
  go_enter Try.func13, Try.ntmps13
  go_wp2
  go_loopw [3, 4] (fun v i wr => ∃ (k : Nat), k ≤ m ∧ i = .int .i64 k ∧ Hid (wr.ownsRow w.heap.size 58 2 v k (flat2 (ps.take k))) ∧ Hid (Below w.heap.size w wr)) (fun _ i _ => m - (intOf i).toNat)
  case atStart => exact ⟨0, by omega, rfl, World.ownsRow_nil _ _ _ _, Below.refl _ _⟩
  case round =>
    obtain ⟨k, hk, rfl, HO, HB⟩ := hrel
    by_cases hlt : k < m
    · obtain ⟨b, o, rfl, hcell, hcell', ⟨hw1, hw2⟩, hw3, hw4⟩ := (H.out.ext HB.out).2.2 k hlt
      obtain ⟨b', o', he, hcell0, _⟩ := H.out.2.2 k hlt
      have hb := World.block_lt_of_cell? w _ hcell0
      simp only [Option.some.injEq, Addr.mk.injEq, and_true] at he
      obtain ⟨rfl, rfl⟩ := he
      simp only at hb
      clear hcell0
      have HS := Lib.hid (congrArg flat2 (take_snoc' ps k (0, 0) (by rw [HL.out]; exact hlt)))
      generalize ps.getD k (0, 0) = p at *
      obtain ⟨p1, p2⟩ := p
      simp only at hcell hcell' hw1 hw2 hw3 hw4
      go_wp2
      refine region_mix (fun w' => ∃ n : ClsW (Cell2 ⟨b, o + k * 2, none⟩ ⟨b, o + k * 2 + 1, none⟩ (.int .i64 p1) (.int .i64 p2)), w' = n.val) [(0, 12, some (12, true)), (13, 0, some (13, true)), (14, 1, none)] (by kernel_rfl) (by kernel_rfl) ⟨⟨wr.drew, hcell, hcell'⟩, rfl⟩ ?_
      simp only [wpMix, List.take_succ_cons, List.take_zero, List.drop_succ_cons, List.drop_zero]
      have hne : Nonempty (ClsW (Cell2 ⟨b, o + k * 2, none⟩ ⟨b, o + k * 2 + 1, none⟩ (.int .i64 p1) (.int .i64 p2))) := ⟨⟨wr, hcell, hcell'⟩⟩
      have g1 : ∀ n : ClsW (Cell2 ⟨b, o + k * 2, none⟩ ⟨b, o + k * 2 + 1, none⟩ (.int .i64 p1) (.int .i64 p2)), n.val.cell? ⟨b, o + k * 2, none⟩ = some (.int .i64 p1) := fun n => n.prop.1
      have g2 : ∀ n : ClsW (Cell2 ⟨b, o + k * 2, none⟩ ⟨b, o + k * 2 + 1, none⟩ (.int .i64 p1) (.int .i64 p2)), n.val.cell? ⟨b, o + k * 2 + 1, none⟩ = some (.int .i64 p2) := fun n => n.prop.2
      repeat (go_big_quiet_step (fail))
      refine wpQuiet_nil ?_
      refine wpOp_at rfl rfl ?_
      go_simp
      refine ⟨cls_mk ⟨cell_ext (ext_alloc wr _) hcell, cell_ext (ext_alloc wr _) hcell'⟩, ?_⟩
      refine wpQuiet_nil ?_
      refine wpOp_at rfl rfl ?_
      have hsz := HB.out.size
      refine op_append1 wr.drew (.tmp 11) (.tmp 23) 35 58 rfl w.heap.size _ 2 16 Try.underlying35 info_pair20 rfl (by omega) u3 k (flat2 (ps.take k)) [.int .i64 p1, .int .i64 p2] rfl HO.out wr.heap.size rfl rfl rfl (by simp [Value.oneCell']) (by simp only [maxLen]; omega) (by omega) hsz ?_
      intro g cap' w2 hown2 hg2 hat2
      have hne2 : some b ≠ u3.ownBlock := fun e => by have := (HO.out.lt b e.symm).1; omega
      refine ⟨cls_mk ⟨hg2.cell hcell hne2, hg2.cell hcell' hne2⟩, ?_⟩
      have HO2 : Hid (w2.ownsRow w.heap.size 58 2 (.slice (some ⟨g, 0, none⟩) (k + 1) cap') (k + 1) (flat2 (ps.take (k + 1)))) := by
        rw [Hid, HS.out, flat2_snoc]; exact hown2
      have HB2 : Hid (Below w.heap.size w w2) := Below.grown (w := wr.drew) HB.out.drew hg2 hsz (fun j e => (HO.out.lt j e).1)
      clear hown2 hat2 hg2 hne2 g1 g2 hne hcell hcell' HO HB
      simp only [Act.put, List.setIfInBounds_toArray, List.set_cons_succ, List.set_cons_zero]
      repeat (go_big_quiet_step (fail))
      refine wpQuiet_nil ?_
      refine NoPanic.normal ?_
      go_wp2
      go_roundw
      case rel => exact ⟨k + 1, by omega, by go_num, HO2, HB2⟩
      case measure => simp [intOf]; omega
    · go_wp2
      go_ret
      have : k = m := by omega
      subst this
      refine ⟨_, rfl, ?_, HB.out⟩
      have := HO.out
      rw [← HL.out, List.take_length] at this
      exact this
end Go.Proofs.Ytkakanjoeofjcaa
