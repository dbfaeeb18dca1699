/-
  Walks of slices.Index, slices.Contains of ints (as in WalkA of the slots' seat).
-/
import Derived.Test.YtblhmdhfhaencaaRows
import Derived.Test.YtblhmdhfhaencaaEP
import Derived.Test.YtblhmdhfhaencaaBR
import Derived.Test.YtblhmdhfhaencaaSortP
namespace Go.Proofs.Ytblhmdhfhaencaa
set_option linter.unusedSimpArgs false
set_option linter.unusedVariables false
set_option linter.unusedSectionVars false
section
open Go.RowKit

set_option maxHeartbeats 400000 in
theorem sindex_any (a : Option Addr) (n cap : Nat) (xs : List Int) (x : Int) (w : World) (h : Ints w a n xs) :
    Calls Try.prog 96 #[.slice a n cap, .int .i64 x] w fun e w' => e = .returned (.int .i64 (idx xs x)) ∧ w = w' := by
  obtain ⟨hl, hn, hc⟩ := h
  have HL := Lib.hid hl
  have HC := Lib.hid hc
  clear hl hc
  go_enter Try.func96, Try.ntmps96
  go_wp2
  go_loop [5, 8] (fun _ i => ∃ (k : Nat), k ≤ n ∧ i = .int .i64 k ∧ Hid (∀ j, j < k → xs.getD j 0 ≠ x)) (fun _ i => n - (intOf i).toNat)
  case atStart => exact ⟨0, by omega, rfl, fun j hj => absurd hj (by omega)⟩
  case round =>
    obtain ⟨k, hk, rfl, HR⟩ := hrel
    by_cases hlt : k < n
    · obtain ⟨b, o, rfl, hcell, hw1, hw2⟩ := HC.out k hlt
      by_cases he : x = xs.getD k 0
      · have HE : Hid (idx xs x = k) := idx_found xs x k (by rw [HL.out]; exact hlt) he.symm HR.out
        have hb : (x == xs.getD k 0) = true := by simpa using he
        generalize xs.getD k 0 = y at *
        clear he
        go_wp2
        go_ret
        exact ⟨by rw [HE.out]; rfl, rfl⟩
      · have HE : Hid (∀ j, j < k + 1 → xs.getD j 0 ≠ x) := fun j hj => by
          by_cases hjk : j = k
          · subst hjk; exact fun e => he e.symm
          · exact HR.out j (by omega)
        have hb : (x == xs.getD k 0) = false := by simpa using he
        generalize xs.getD k 0 = y at *
        clear he
        go_wp2
        go_round
        case rel => exact ⟨k + 1, by omega, by go_num, HE⟩
        case measure => simp [intOf]; omega
    · go_wp2
      go_ret
      have : k = n := by omega
      subst this
      exact ⟨by rw [idx_none xs x (by rw [HL.out]; exact HR.out)]; rfl, rfl⟩

theorem scontains_any (a : Option Addr) (n cap : Nat) (xs : List Int) (x : Int) (w : World) (h : Ints w a n xs) :
    Calls Try.prog 70 #[.slice a n cap, .int .i64 x] w fun e w' => e = .returned (.bool (decide (0 ≤ idx xs x))) ∧ w = w' := by
  have hi := idx_ge xs x
  have H := Lib.hid h
  clear h
  go_enter Try.func70, Try.ntmps70
  go_wp2_with (go_at_call 96; refine (sindex_any a n cap xs x w H.out).mono ?_; rintro e w' ⟨rfl, rfl⟩)
  go_ret
  exact ⟨rfl, rfl⟩
end

section
def awTs : List TermD := [⟨1, 0, 1, 0⟩, ⟨2, 1, 1, 2⟩, ⟨3, 0, 0, 0⟩]
def awL : List TileD := [⟨1, -1, [0, 2]⟩, ⟨2, 0, [1]⟩]
theorem aw_fits : fitsB awTs = true := by decide +kernel
theorem aw_right : rightB awTs awL = true := by decide +kernel
theorem aw_rows : rowsL awTs awL (fun _ => true) = [⟨⟨0, 0, 1⟩, [], [1]⟩, ⟨⟨1, 1, 2⟩, [1], []⟩] := by rfl
theorem aw_crit : critB awTs ⟨1, 0, 1⟩ = true := by decide +kernel
end

section
open Go.RowKit

set_option maxHeartbeats 400000 in
theorem sameInts_any (a b : Option Addr) (n m c d : Nat) (xs ys : List Int) (w : World) (h : Ints w a n xs) (h' : Ints w b m ys) :
    Calls Try.prog 29 #[.slice a n c, .slice b m d] w fun e w' => e = .returned (.bool (decide (xs = ys))) ∧ ∃ q, w' = w.drewN q := by
  obtain ⟨hl, hn, hc⟩ := h
  obtain ⟨hl', hn', hc'⟩ := h'
  by_cases hnm : n = m
  · subst hnm
    have HL := Lib.hid hl
    have HC := Lib.hid hc
    have HL' := Lib.hid hl'
    have HC' := Lib.hid hc'
    clear hl hc hl' hc'
    have hne : ((n : Int) != (n : Int)) = false := by simp
    go_enter Try.func29, Try.ntmps29
    go_wp2
    go_loopw [5] (fun i wr => ∃ (k q : Nat), k ≤ n ∧ i = .int .i64 k ∧ wr = w.drewN q ∧ Hid (∀ j, j < k → xs.getD j 0 = ys.getD j 0)) (fun i _ => n - (intOf i).toNat)
    case atStart => exact ⟨0, 0, by omega, rfl, rfl, fun j hj => absurd hj (by omega)⟩
    case round =>
      obtain ⟨k, q, hk, rfl, rfl, HR⟩ := hrel
      by_cases hlt : k < n
      · obtain ⟨b1, o1, rfl, hcell1, hw1, hw2⟩ := HC.out k hlt
        obtain ⟨b2, o2, rfl, hcell2, hw3, hw4⟩ := HC'.out k hlt
        by_cases he : xs.getD k 0 = ys.getD k 0
        · have HE : Hid (∀ j, j < k + 1 → xs.getD j 0 = ys.getD j 0) := fun j hj => by
            by_cases hjk : j = k
            · subst hjk; exact he
            · exact HR.out j (by omega)
          rw [← he] at hcell2
          generalize xs.getD k 0 = y at *
          clear he
          go_wp2
          go_quiet (fail)
          go_wp2
          go_roundw
          case rel => exact ⟨k + 1, _, by omega, by go_num, rfl, HE⟩
          case measure => simp [intOf]; omega
        · have HE : Hid (xs ≠ ys) := fun e => he (by rw [e])
          have hb : (xs.getD k 0 != ys.getD k 0) = true := by simpa using he
          generalize xs.getD k 0 = y at *
          generalize ys.getD k 0 = z at *
          clear he
          go_wp2
          go_quiet (fail)
          go_wp2
          go_ret
          exact ⟨ret_bool (by rw [decide_eq_false HE.out]), _, World.drewN_drewN _ _ _⟩
      · have HE : Hid (xs = ys) := List.ext_getElem (by rw [HL.out, HL'.out]) (fun j h1 h2 => by
          have := HR.out j (by rw [HL.out] at h1; omega)
          simpa [List.getD, h1, h2] using this)
        go_wp2
        go_ret
        exact ⟨ret_bool (by rw [decide_eq_true HE.out]), _, rfl⟩
  · have HE : Hid (xs ≠ ys) := fun e => hnm (by rw [← hl, ← hl', e])
    have hne : ((n : Int) != (m : Int)) = true := by simp; omega
    clear hc hc' hl hl' hnm
    go_enter Try.func29, Try.ntmps29
    go_wp2
    go_ret
    exact ⟨ret_bool (by rw [decide_eq_false HE.out]), 0, rfl⟩
end

section
theorem aw_parts : (partsP awTs).length = 1 := by decide +kernel
theorem aw_built : tilesP 3 (partsP awTs) = awL := by rfl
theorem aw_tiles17 {qs : List PartD} (h : (partsP awTs).Perm qs) : tilesP awTs.length qs = awL := by
  obtain ⟨p, hp⟩ := List.length_eq_one_iff.1 aw_parts
  rw [hp] at h
  have := List.perm_singleton.1 h.symm
  subst this
  rw [← hp]
  exact aw_built
theorem aw_all : (allL awL 0).length = 3 := by decide +kernel
end
end Go.Proofs.Ytblhmdhfhaencaa
