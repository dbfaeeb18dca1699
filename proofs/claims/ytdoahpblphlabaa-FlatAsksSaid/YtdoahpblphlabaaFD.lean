/-
  Flat: MachineOf, check.alike, ir.variable, ir.fits.
-/
import Derived.Test.YtdoahpblphlabaaFC
namespace Go.Proofs.Ytdoahpblphlabaa
set_option linter.unusedSimpArgs false
set_option linter.unusedVariables false
open Go.RowKit

theorem machineOf_any (m : MachD) (a1 a2 : Option Addr) (n1 c1 n2 c2 : Nat) (w : World) (h1 : n1 ≤ 17592186044416) (h2 : n2 ≤ 17592186044416) :
    Calls Try.prog 5 #[machV m a1 n1 c1 a2 n2 c2] w fun e w' => e = .returned (.int .i64 ((n1 : Int) + (n2 : Int))) ∧ Below w.heap.size w w' := by
  go_enter Try.func5, Try.ntmps5
  go_wp2
  go_ret
  exact ⟨rfl, ext_alloc _ _⟩

def varB (n : Int) : Bool := decide (1 ≤ n ∧ n ≤ 200)
theorem variable_any (n : Int) (w : World) : Calls Try.prog 91 #[.int .i64 n] w fun e w' => e = .returned (.bool (varB n)) ∧ w = w' := by
  by_cases h1 : 1 ≤ n
  · have d1 : decide (1 ≤ n) = true := by simpa using h1
    have HE : Hid (varB n = decide (n ≤ 200)) := by rw [Hid, varB, decide_eq_decide]; omega
    go_enter Try.func91, Try.ntmps91
    go_wp2
    go_ret
    exact ⟨by rw [HE.out]; rfl, rfl⟩
  · have d1 : decide (1 ≤ n) = false := by simpa using h1
    have HE : Hid (varB n = false) := by rw [Hid, varB, decide_eq_false_iff_not]; omega
    go_enter Try.func91, Try.ntmps91
    go_wp2
    go_ret
    exact ⟨by rw [HE.out]; rfl, rfl⟩
def fitsB (b : Bool) (n : Int) : Bool := if b then varB n else decide (n = 0)
theorem fits_any (b : Bool) (n : Int) (w : World) : Calls Try.prog 93 #[.bool b, .int .i64 n] w fun e w' => e = .returned (.bool (fitsB b n)) ∧ w = w' := by
  cases b with
  | true =>
    go_enter Try.func93, Try.ntmps93
    go_wp2_with (go_at_call 91; refine (variable_any _ _).mono ?_; rintro e w' ⟨rfl, rfl⟩)
    go_ret
    exact ⟨rfl, rfl⟩
  | false =>
    have HE : Hid (fitsB false n = (n == 0)) := by
      rw [Hid, fitsB, if_neg (by simp)]
      by_cases h : n = 0 <;> simp [h]
    go_enter Try.func93, Try.ntmps93
    go_wp2
    go_ret
    exact ⟨by rw [HE.out]; rfl, rfl⟩
end Go.Proofs.Ytdoahpblphlabaa
