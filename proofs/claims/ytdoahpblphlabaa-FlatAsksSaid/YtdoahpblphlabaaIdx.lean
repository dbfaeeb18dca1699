/-
  Walks of slices.Index, slices.Contains of ints (as in WalkA of the slots' seat).
-/
import Derived.Test.YtdoahpblphlabaaRows
import Derived.Test.YtdoahpblphlabaaBase
namespace Go.Proofs.Ytdoahpblphlabaa
set_option linter.unusedSimpArgs false
set_option linter.unusedVariables false
open Go.RowKit

set_option maxHeartbeats 400000 in
theorem sindex_any (a : Option Addr) (n cap : Nat) (xs : List Int) (x : Int) (w : World) (h : Ints w a n xs) :
    Calls Try.prog 84 #[.slice a n cap, .int .i64 x] w fun e w' => e = .returned (.int .i64 (idx xs x)) ∧ w = w' := by
  obtain ⟨hl, hn, hc⟩ := h
  have HL := Lib.hid hl
  have HC := Lib.hid hc
  clear hl hc
  go_enter Try.func84, Try.ntmps84
  go_wp2
  go_loop [5, 8] (fun _ i => ∃ (k : Nat), k ≤ n ∧ i = .int .i64 k ∧ Hid (∀ j, j < k → xs.getD j 0 ≠ x)) (fun _ i => n - (intOf i).toNat)
  case atStart => exact ⟨0, by omega, rfl, fun j hj => absurd hj (by omega)⟩
  case round =>
    obtain ⟨k, hk, rfl, HR⟩ := hrel
    by_cases hlt : k < n
    · obtain ⟨b, o, rfl, hcell, hw1, hw2⟩ := HC.out k hlt
      by_cases he : x = xs.getD k 0
      · have HE : Hid (idx xs x = k) := idx_found xs x k (by rw [HL.out]; exact hlt) he.symm HR.out
        have hb : (x == xs.getD k 0) = true := by simpa using he
        generalize xs.getD k 0 = y at *
        clear he
        go_wp2
        go_ret
        exact ⟨by rw [HE.out]; rfl, rfl⟩
      · have HE : Hid (∀ j, j < k + 1 → xs.getD j 0 ≠ x) := fun j hj => by
          by_cases hjk : j = k
          · subst hjk; exact fun e => he e.symm
          · exact HR.out j (by omega)
        have hb : (x == xs.getD k 0) = false := by simpa using he
        generalize xs.getD k 0 = y at *
        clear he
        go_wp2
        go_round
        case rel => exact ⟨k + 1, by omega, by go_num, HE⟩
        case measure => simp [intOf]; omega
    · go_wp2
      go_ret
      have : k = n := by omega
      subst this
      exact ⟨by rw [idx_none xs x (by rw [HL.out]; exact HR.out)]; rfl, rfl⟩

theorem scontains_any (a : Option Addr) (n cap : Nat) (xs : List Int) (x : Int) (w : World) (h : Ints w a n xs) :
    Calls Try.prog 75 #[.slice a n cap, .int .i64 x] w fun e w' => e = .returned (.bool (decide (0 ≤ idx xs x))) ∧ w = w' := by
  have hi := idx_ge xs x
  have H := Lib.hid h
  clear h
  go_enter Try.func75, Try.ntmps75
  go_wp2_with (go_at_call 84; refine (sindex_any a n cap xs x w H.out).mono ?_; rintro e w' ⟨rfl, rfl⟩)
  go_ret
  exact ⟨rfl, rfl⟩
end Go.Proofs.Ytdoahpblphlabaa
