/-
  The walk of awake: the chapter's example.
-/
import Derived.Test.YtkakanjoeofjcaaKept
namespace Go.Proofs.Ytkakanjoeofjcaa
open Go.RowKit

/-- a block of ints that reads as a list -/
theorem ints_block {w : World} {g : Nat} {cs : Array Value} {t : TypeId} {fz : Nat × Nat} (xs : List Int) (h : w.heap[g]? = some (.cells cs t fz)) (hc : ∀ k, k < xs.length → cs[k]? = some (.int .i64 (xs.getD k 0))) (hl : xs.length ≤ 17592186044416) (hw : ∀ x ∈ xs, I64 x) :
    Ints w (some ⟨g, 0, none⟩) xs.length xs :=
  ⟨rfl, hl, fun k hk => ⟨g, 0, rfl, by rw [cell_of_row w g (0 + k) cs t fz h, Nat.zero_add]; exact hc k hk, hw _ (by simp [List.getD, hk])⟩⟩

/-- the newest block -/
theorem ints_new (X : World) (H : Nat) (hH : X.heap.size = H) (t : TypeId) (xs : List Int) (hl : xs.length ≤ 17592186044416) (hw : ∀ x ∈ xs, I64 x) : Ints (X.alloc (.cells (xs.map (Value.int .i64)).toArray t)) (some ⟨H, 0, none⟩) xs.length xs := by
  subst hH
  exact ints_block xs (World.alloc_heap_new X _) (fun k hk => by simp [List.getD, hk]) hl hw
theorem small_I64 (xs : List Int) (h : xs.all (fun x => decide (-1000000 ≤ x) && decide (x ≤ 1000000)) = true) : ∀ x ∈ xs, I64 x := by
  intro x hx
  have := List.all_eq_true.1 h x hx
  simp only [Bool.and_eq_true, decide_eq_true_eq] at this
  exact ⟨by omega, by omega⟩

/-- what 'Of' tells, as ints -/
theorem of_rows {w' : World} {base : Nat} {v : Value} {ss : List Nat} (h : w'.ownsRow base 3 1 v ss.length (ss.map fun (s : Nat) => .int .i64 (s : Int))) (hs : ∀ s ∈ ss, s < 1000000) (hl : ss.length ≤ 1000000) :
    ∃ a c, v = .slice a ss.length c ∧ Ints w' a ss.length (ss.map fun (s : Nat) => (s : Int)) := by
  have h' : w'.ownsRow base 3 1 v (ss.map fun (s : Nat) => (s : Int)).length ((ss.map fun (s : Nat) => (s : Int)).map (Value.int .i64)) := by
    rw [List.length_map, List.map_map]; exact h
  obtain ⟨a, c, e, hi⟩ := ints_of_own h' (by rw [List.length_map]; omega) (fun x hx => by
    obtain ⟨s, hs', rfl⟩ := List.mem_map.1 hx
    have := hs s hs'
    exact ⟨by omega, by omega⟩)
  rw [List.length_map] at e hi
  exact ⟨a, c, e, hi⟩

theorem ex_asg : asg [(1, 2)] [1, 2, 3] = [(1, 0), (2, 1), (3, 0)] := by decide +kernel
theorem ex_ok : okAll [1, 2, 3] [(1, 2)] [7] = true := by decide +kernel
theorem ex_share : shareB [0, 1, 0] [1, 2, 3] 1 3 = true := by decide +kernel

set_option maxRecDepth 100000 in
set_option maxHeartbeats 1000000 in
theorem awake_any (w : World) : Calls Try.prog 9 #[] w fun e w' => e = .returned (.bool true) ∧ Below w.heap.size w w' := by
  have hs3 : ∀ x ∈ ([1, 2, 3] : List Int), I64 x := by intro x hx; simp at hx; rcases hx with rfl | rfl | rfl <;> exact ⟨by omega, by omega⟩
  have hs7 : ∀ x ∈ ([7] : List Int), I64 x := by intro x hx; simp at hx; subst hx; exact ⟨by omega, by omega⟩
  have H3 := Lib.hid hs3
  have H7 := Lib.hid hs7
  clear hs3 hs7
  go_enter Try.func9, Try.ntmps9
  go_wp2_with fail
  obtain ⟨W3, hW3⟩ : ∃ W3, ((w.alloc (.cells #[.int .i64 1, .int .i64 2, .int .i64 3] 3)).alloc (.cells #[.int .i64 1, .int .i64 2] 41)).alloc (.cells #[.int .i64 7] 3) = W3 := ⟨_, rfl⟩
  have hb3 : Below w.heap.size w W3 := by rw [← hW3]; exact ext_trans (ext_trans (ext_alloc _ _) (ext_alloc _ _)) (ext_alloc _ _)
  have i1 : Ints W3 (some ⟨w.heap.size, 0, none⟩) 3 [1, 2, 3] := by
    have : W3.heap[w.heap.size]? = some (.cells #[.int .i64 1, .int .i64 2, .int .i64 3] 3 (0, 0)) := by
      rw [← hW3, Below.heap_alloc _ _ _ (by simp; omega), Below.heap_alloc _ _ _ (by simp)]; exact World.alloc_heap_new w _
    exact ints_block [1, 2, 3] this (by intro k hk; simp at hk; have h3 : k = 0 ∨ k = 1 ∨ k = 2 := (by omega); rcases h3 with rfl | rfl | rfl <;> rfl) (by simp) H3.out
  have i2 : Prs W3 (some ⟨w.heap.size + 1, 0, none⟩) 1 [(1, 2)] := by
    have hblk : W3.heap[w.heap.size + 1]? = some (.cells #[.int .i64 1, .int .i64 2] 41 (0, 0)) := by
      rw [← hW3, Below.heap_alloc _ _ _ (by simp)]
      have := World.alloc_heap_new (w.alloc (.cells #[.int .i64 1, .int .i64 2, .int .i64 3] 3)) (.cells #[.int .i64 1, .int .i64 2] 41)
      rwa [World.size_alloc] at this
    refine ⟨rfl, by omega, fun k hk => ⟨w.heap.size + 1, 0, rfl, ?_⟩⟩
    obtain rfl : k = 0 := by omega
    refine ⟨?_, ?_, ⟨by simp, by simp⟩, by simp, by simp⟩ <;> simp [World.cell?, hblk]
  have i3 : Ints W3 (some ⟨w.heap.size + 1 + 1, 0, none⟩) 1 [7] := by
    have hblk : W3.heap[w.heap.size + 1 + 1]? = some (.cells #[.int .i64 7] 3 (0, 0)) := by
      rw [← hW3]
      have := World.alloc_heap_new ((w.alloc (.cells #[.int .i64 1, .int .i64 2, .int .i64 3] 3)).alloc (.cells #[.int .i64 1, .int .i64 2] 41)) (.cells #[.int .i64 7] 3)
      simpa using this
    exact ints_block [7] hblk (by intro k hk; simp at hk; subst hk; rfl) (by simp) H7.out
  rw [hW3]
  have HB3 := Lib.hid hb3
  clear hW3 hb3
  refine (of_ok _ 3 3 [1, 2, 3] _ 1 1 [(1, 2)] _ 1 1 [7] true W3 i1 i2 i3 ex_ok (by omega)).mono ?_
  rintro e w1 ⟨v1, v2, rfl, ho1, ho2, _, hb1⟩
  rw [ex_asg] at ho1 ho2 ⊢
  rw [show szOf [(1, 0), (2, 1), (3, 0)] = 2 from rfl] at ho2 ⊢
  clear i1 i2 i3
  obtain ⟨a1, c1, rfl, hi1⟩ := of_rows (ss := [0, 1, 0]) ho1 (by decide) (by decide)
  obtain ⟨a2, c2, rfl, hi2⟩ := of_rows (ss := [2]) ho2 (by decide) (by decide)
  have HI1 : Hid (Ints w1 a1 3 [0, 1, 0]) := hi1
  have HI2 : Hid (Ints w1 a2 1 [2]) := hi2
  have HB1 : Hid (Below w.heap.size w w1) := ext_trans HB3.out hb1
  clear hi1 hi2 ho1 ho2 hb1
  go_wp2_with fail
  refine (sameInts_any a1 _ 3 3 c1 3 [0, 1, 0] [0, 1, 0] _ (by exact HI1.out.ext (ext_trans (ext_alloc _ _) (ext_alloc _ _))) (by exact ints_new _ _ (by simp) _ [0, 1, 0] (by decide) (small_I64 _ rfl))).mono ?_
  rintro e w' ⟨rfl, q1, rfl⟩
  rw [show decide (([0, 1, 0] : List Int) = [0, 1, 0]) = true from rfl]
  go_wp2_with fail
  refine (sameInts_any a2 _ 1 1 c2 1 [2] [2] _ (by exact HI2.out.ext (ext_trans (ext_drewN (ext_trans (ext_alloc _ _) (ext_alloc _ _)) _) (ext_alloc _ _))) (by exact ints_new _ _ (by simp) _ [2] (by decide) (small_I64 _ rfl))).mono ?_
  rintro e w' ⟨rfl, q2, rfl⟩
  rw [show decide (([2] : List Int) = [2]) = true from rfl]
  go_wp2_with fail
  refine (share_any a1 a2 _ 3 c1 1 c2 3 3 [0, 1, 0] [1, 2, 3] 3 4 1 3 _ (by exact HI1.out.ext (ext_trans (ext_drewN (ext_trans (ext_drewN (ext_trans (ext_alloc _ _) (ext_alloc _ _)) _) (ext_alloc _ _)) _) (ext_alloc _ _))) (by exact ints_new _ _ (by simp) _ [1, 2, 3] (by decide) (small_I64 _ rfl))).mono ?_
  rintro e w5 ⟨rfl, hb5⟩
  rw [ex_share]
  have HB5 := Lib.hid hb5
  clear hb5
  go_wp2_with fail
  go_ret
  exact ⟨rfl, ext_trans HB1.out (ext_trans (ext_trans (ext_drewN (ext_trans (ext_drewN (ext_trans (ext_alloc _ _) (ext_alloc _ _)) _) (ext_alloc _ _)) _) (ext_alloc _ _)) HB5.out)⟩
end Go.Proofs.Ytkakanjoeofjcaa
