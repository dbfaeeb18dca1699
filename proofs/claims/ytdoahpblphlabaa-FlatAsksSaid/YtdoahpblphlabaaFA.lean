/-
  Flat: leaves: mir.has, with, Inserted, places.
-/
import Derived.Test.YtdoahpblphlabaaRows
import Derived.Test.YtdoahpblphlabaaMix
namespace Go.Proofs.Ytdoahpblphlabaa
set_option linter.unusedSimpArgs false
set_option linter.unusedVariables false
open Go.RowKit

theorem ext_alloc (w : World) (o : Obj) : Below w.heap.size w (w.alloc o) := (Below.refl _ w).alloc (Nat.le_refl _) o
def hasV (o : Int) : Int := if o = 1 then 9 else if 2 ≤ o ∧ o ≤ 10 then 7 else if o = 11 then 11 else if o = 12 then 14 else if o = 13 then 32 else if o = 15 then 3 else if o = 16 then 18 else if o = 17 then 17 else 0
def insB (o : Int) : Bool := decide (o = 15 ∨ o = 16 ∨ o = 17)

theorem inserted_any (o : Int) (w : World) : Calls Try.prog 32 #[.int .i64 o] w fun e w' => e = .returned (.bool (insB o)) ∧ w = w' := by
  by_cases h1 : o = 15
  · subst h1
    go_enter Try.func32, Try.ntmps32
    go_wp2
    go_ret
    exact ⟨rfl, rfl⟩
  · by_cases h2 : o = 16
    · subst h2
      go_enter Try.func32, Try.ntmps32
      go_wp2
      go_ret
      exact ⟨rfl, rfl⟩
    · by_cases h3 : o = 17
      · subst h3
        go_enter Try.func32, Try.ntmps32
        go_wp2
        go_ret
        exact ⟨rfl, rfl⟩
      · have b1 : (o == 15) = false := by simpa using h1
        have b2 : (o == 16) = false := by simpa using h2
        have b3 : (o == 17) = false := by simpa using h3
        have HE : Hid (insB o = false) := by rw [Hid, insB, decide_eq_false_iff_not]; omega
        clear h1 h2 h3
        go_enter Try.func32, Try.ntmps32
        go_wp2
        go_ret
        exact ⟨by rw [HE.out]; rfl, rfl⟩

theorem hasV_zero (o : Int) (h : o < 0 ∨ 18 ≤ o) : hasV o = 0 := by
  unfold hasV
  rw [if_neg (by omega), if_neg (by omega), if_neg (by omega), if_neg (by omega), if_neg (by omega), if_neg (by omega), if_neg (by omega), if_neg (by omega)]
theorem has_range (o : Int) (h1 : 0 ≤ o) (h2 : o < 18) : o = 0 ∨ o = 1 ∨ o = 2 ∨ o = 3 ∨ o = 4 ∨ o = 5 ∨ o = 6 ∨ o = 7 ∨ o = 8 ∨ o = 9 ∨ o = 10 ∨ o = 11 ∨ o = 12 ∨ o = 13 ∨ o = 14 ∨ o = 15 ∨ o = 16 ∨ o = 17 := by omega
set_option maxRecDepth 100000 in
set_option maxHeartbeats 2000000 in
theorem has_any (o : Int) (w : World) : Calls Try.prog 60 #[.int .i64 o] w fun e w' => e = .returned (.int .u8 (hasV o)) ∧ Below w.heap.size w w' := by
  go_enter Try.func60, Try.ntmps60
  go_wp2
  refine wp_loop_rounds 10 ?_
  iterate 10 (rw [rounds_succ]; go_wp2)
  all_goals
    go_ret
    refine ⟨?_, ext_alloc _ _⟩
    first
      | (rw [hasV_zero o (by omega)]; rfl)
      | (rcases has_range o (by omega) (by omega) with rfl | rfl | rfl | rfl | rfl | rfl | rfl | rfl | rfl | rfl | rfl | rfl | rfl | rfl | rfl | rfl | rfl | rfl <;> rfl)
end Go.Proofs.Ytdoahpblphlabaa
