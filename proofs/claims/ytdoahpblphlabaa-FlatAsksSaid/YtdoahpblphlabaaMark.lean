/-
  The marks that are laid behind lists; SameInts.
-/
import Derived.Test.YtdoahpblphlabaaRows
import Derived.Test.YtdoahpblphlabaaBase
import Derived.Test.YtdoahpblphlabaaIdx
namespace Go.Proofs.Ytdoahpblphlabaa
set_option linter.unusedSimpArgs false
set_option linter.unusedVariables false
open Go.RowKit

/-- the mark of a place -/
def markV (k i : Int) : Int := 1000003 * (k + 7) + i
theorem mark_any (k i : Int) (w : World) (hk : 0 ≤ k ∧ k ≤ 1000000000) (hi : 0 ≤ i ∧ i ≤ 100000000000000) :
    Calls Try.prog 40 #[.int .i64 k, .int .i64 i] w fun e w' => e = .returned (.int .i64 (markV k i)) ∧ w = w' := by
  obtain ⟨_, _⟩ := hk
  obtain ⟨_, _⟩ := hi
  go_enter Try.func40, Try.ntmps40
  go_wp2
  go_ret
  exact ⟨rfl, rfl⟩

set_option maxHeartbeats 400000 in
theorem sameInts_any (a b : Option Addr) (n m c d : Nat) (xs ys : List Int) (w : World) (h : Ints w a n xs) (h' : Ints w b m ys) :
    Calls Try.prog 53 #[.slice a n c, .slice b m d] w fun e w' => e = .returned (.bool (decide (xs = ys))) ∧ ∃ q, w' = w.drewN q := by
  obtain ⟨hl, hn, hc⟩ := h
  obtain ⟨hl', hn', hc'⟩ := h'
  by_cases hnm : n = m
  · subst hnm
    have HL := Lib.hid hl
    have HC := Lib.hid hc
    have HL' := Lib.hid hl'
    have HC' := Lib.hid hc'
    clear hl hc hl' hc'
    have hne : ((n : Int) != (n : Int)) = false := by simp
    go_enter Try.func53, Try.ntmps53
    go_wp2
    go_loopw [5] (fun i wr => ∃ (k q : Nat), k ≤ n ∧ i = .int .i64 k ∧ wr = w.drewN q ∧ Hid (∀ j, j < k → xs.getD j 0 = ys.getD j 0)) (fun i _ => n - (intOf i).toNat)
    case atStart => exact ⟨0, 0, by omega, rfl, rfl, fun j hj => absurd hj (by omega)⟩
    case round =>
      obtain ⟨k, q, hk, rfl, rfl, HR⟩ := hrel
      by_cases hlt : k < n
      · obtain ⟨b1, o1, rfl, hcell1, hw1, hw2⟩ := HC.out k hlt
        obtain ⟨b2, o2, rfl, hcell2, hw3, hw4⟩ := HC'.out k hlt
        by_cases he : xs.getD k 0 = ys.getD k 0
        · have HE : Hid (∀ j, j < k + 1 → xs.getD j 0 = ys.getD j 0) := fun j hj => by
            by_cases hjk : j = k
            · subst hjk; exact he
            · exact HR.out j (by omega)
          rw [← he] at hcell2
          generalize xs.getD k 0 = y at *
          clear he
          go_wp2
          go_quiet (fail)
          go_wp2
          go_roundw
          case rel => exact ⟨k + 1, _, by omega, by go_num, rfl, HE⟩
          case measure => simp [intOf]; omega
        · have HE : Hid (xs ≠ ys) := fun e => he (by rw [e])
          have hb : (xs.getD k 0 != ys.getD k 0) = true := by simpa using he
          generalize xs.getD k 0 = y at *
          generalize ys.getD k 0 = z at *
          clear he
          go_wp2
          go_quiet (fail)
          go_wp2
          go_ret
          exact ⟨ret_bool (by rw [decide_eq_false HE.out]), _, World.drewN_drewN _ _ _⟩
      · have HE : Hid (xs = ys) := List.ext_getElem (by rw [HL.out, HL'.out]) (fun j h1 h2 => by
          have := HR.out j (by rw [HL.out] at h1; omega)
          simpa [List.getD, h1, h2] using this)
        go_wp2
        go_ret
        exact ⟨ret_bool (by rw [decide_eq_true HE.out]), _, rfl⟩
  · have HE : Hid (xs ≠ ys) := fun e => hnm (by rw [← hl, ← hl', e])
    have hne : ((n : Int) != (m : Int)) = true := by simp; omega
    clear hc hc' hl hl' hnm
    go_enter Try.func53, Try.ntmps53
    go_wp2
    go_ret
    exact ⟨ret_bool (by rw [decide_eq_false HE.out]), 0, rfl⟩
end Go.Proofs.Ytdoahpblphlabaa
