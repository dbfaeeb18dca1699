/-
  The walk of KeptInts.
-/
import Derived.Test.YtkakanjoeofjcaaLent
namespace Go.Proofs.Ytkakanjoeofjcaa
open Go.RowKit

theorem quiet_left {P : Program} {f : FuncId} {args : Array Value} {w : World} {n : Nat} {v : Value}
    (h : Calls P f args (w.drewN n) fun e w' => e = .returned v ∧ w.drewN n = w') : Calls P f args (w.drewN n) fun e w'' => e = .returned v ∧ ∃ m, w'' = w.drewN m :=
  h.mono fun _ _ ⟨he, hm⟩ => ⟨he, n, hm.symm⟩
theorem quiet_add_left {P : Program} {f : FuncId} {args : Array Value} {w : World} {a n : Nat} {v : Value}
    (h : Calls P f args (w.drewN (a + n)) fun e w' => e = .returned v ∧ w.drewN (a + n) = w') :
    Calls P f args (w.drewN (a + n)) fun e w'' => e = .returned v ∧ ∃ m, w'' = w.drewN (a + m) :=
  h.mono fun _ _ ⟨he, hm⟩ => ⟨he, n, hm.symm⟩

set_option maxRecDepth 100000 in
set_option maxHeartbeats 1000000 in
theorem keptInts_any (base : Nat) (v : Value) (a : Option Addr) (n c : Nat) (xs : List Int) (w : World) (hL : Lent w base v xs) (h : Ints w a n xs) (hn : n ≤ 1000000) :
    Calls Try.prog 18 #[v, .slice a n c] w fun e w' => e = .returned (.bool true) ∧ ∃ q, w' = w.drewN q := by
  obtain ⟨g, cap, rfl, hc1, hc2, hx, hm⟩ := hL.cells
  obtain ⟨hl, _, hc⟩ := h
  rw [hl] at hc1 hx hm ⊢
  have HX := Lib.hid hx
  have HM := Lib.hid hm
  have HC := Lib.hid hc
  clear hx hm hc hL hl
  unfold maxLen at hc2
  have b0 : ((n : Int) != (n : Int)) = false := by simp
  go_enter Try.func18, Try.ntmps18
  go_wp2
  go_loopw [6] (fun i wr => ∃ (k q : Nat), k ≤ n + 12 ∧ i = .int .i64 k ∧ wr = w.drewN q) (fun i _ => n + 12 - (intOf i).toNat)
  case atStart => exact ⟨0, 0, by omega, rfl, rfl⟩
  case round =>
    obtain ⟨k, q, hk, rfl, rfl⟩ := hrel
    by_cases hlt : k < n + 12
    · by_cases hkn : k < n
      · obtain ⟨b, o, rfl, hcell, _⟩ := HC.out k hkn
        have hcell' := HX.out k hkn
        have d1 : decide (k < n) = true := by simpa using hkn
        have d2 : decide (n ≤ k) = false := by simp; omega
        generalize xs.getD k 0 = x at *
        go_wp2
        go_quiet (fail)
        go_wp2
        go_roundw
        case rel => exact ⟨k + 1, _, by omega, by go_num, rfl⟩
        case measure => simp [intOf]; omega
      · obtain ⟨j, rfl⟩ : ∃ j, k = n + j := ⟨k - n, by omega⟩
        have hcell' := HM.out j (by omega)
        have hj : j < 12 := by omega
        have d1 : decide (n + j < n) = false := by simp
        have d2 : decide (n ≤ n + j) = true := by simp
        have d3 : decide ((n : Int) + (j : Int) < (n : Int)) = false := by simp; omega
        have d4 : decide ((n : Int) ≤ (n : Int) + (j : Int)) = true := by simp; omega
        have d5 : IntKind.i64.wrap ((n : Int) + (j : Int) - (n : Int)) = (j : Int) := by rw [IntKind.wrap_i64]; omega
        clear hkn
        go_wp2
        go_quiet ((go_at_call 20; exact quiet_add_left (mark_any 1 (j : Int) _ (by omega) (by omega))))
        go_wp2
        go_roundw
        case rel => exact ⟨n + j + 1, _, by omega, by go_num, rfl⟩
        case measure => simp [intOf]; omega
    · go_wp2
      go_ret
      exact ⟨rfl, _, rfl⟩
end Go.Proofs.Ytkakanjoeofjcaa
