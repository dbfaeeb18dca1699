/-
  Walk of intarsiakit.Pick (as in WalkB of the slots' seat).
-/
import Derived.Test.YtdoahpblphlabaaRows
import Derived.Test.YtdoahpblphlabaaBase
namespace Go.Proofs.Ytdoahpblphlabaa
set_option linter.unusedSimpArgs false
set_option linter.unusedVariables false
open Go.RowKit

/-- Pick: a number brought into 0 to n - 1 -/
def pickI (x n : Int) : Int := if n < 1 then 0 else x % n
theorem pick_any (x n : Int) (w : World) (hx : I64 x) (hn : I64 n) :
    Calls Try.prog 17 #[.int .i64 x, .int .i64 n] w fun e w' => e = .returned (.int .i64 (pickI x n)) ∧ w = w' := by
  obtain ⟨_, _⟩ := hx
  obtain ⟨_, _⟩ := hn
  by_cases h1 : n < 1
  · have HE : Hid (pickI x n = 0) := if_pos h1
    go_enter Try.func17, Try.ntmps17
    go_wp2
    go_ret
    exact ⟨by rw [HE.out]; rfl, rfl⟩
  · have h2 : 1 ≤ n := by omega
    have hd := @Int.tmod_eq_emod x n
    have e1 := Int.emod_nonneg x (show n ≠ 0 by omega)
    have e2 := Int.emod_lt_of_pos x (show 0 < n by omega)
    have HE : Hid (pickI x n = x % n) := if_neg h1
    rcases Int.lt_or_le x 0 with hx | hx
    · by_cases hv : n ∣ x
      · rw [if_pos (Or.inr hv)] at hd
        have h3 : 0 ≤ x.tmod n := by omega
        have HD := Lib.hid hd
        clear hd hv h1
        go_enter Try.func17, Try.ntmps17
        go_wp2
        go_ret
        exact ⟨ret_int (by rw [HE.out, HD.out]; omega), rfl⟩
      · have hne : x % n ≠ 0 := fun e => hv (Int.dvd_of_emod_eq_zero e)
        rw [if_neg (by intro h; rcases h with h | h; omega; exact hv h)] at hd
        have h3 : x.tmod n < 0 := by omega
        have h4 : -9223372036854775808 ≤ x.tmod n := by omega
        have HD := Lib.hid hd
        clear hd hv h1 hne
        go_enter Try.func17, Try.ntmps17
        go_wp2
        go_ret
        exact ⟨ret_int (by rw [HE.out]; have := HD.out; omega), rfl⟩
    · clear hd h1
      go_enter Try.func17, Try.ntmps17
      go_wp2
      go_ret
      exact ⟨ret_int (by rw [HE.out]), rfl⟩
end Go.Proofs.Ytdoahpblphlabaa
