/-
  The marks that are laid behind lists; SameInts.
-/
import Derived.Test.YtblhmdhfhaencaaGreatRows
import Derived.Test.YtblhmdhfhaencaaGreatBase
import Derived.Test.YtblhmdhfhaencaaGreatSameI
namespace Go.Proofs.YtblhmdhfhaencaaGreat
set_option linter.unusedSimpArgs false
set_option linter.unusedVariables false
open Go.RowKit

/-- the mark of a place -/
def markV (k i : Int) : Int := 1000003 * (k + 7) + i
theorem mark_any (k i : Int) (w : World) (hk : 0 ≤ k ∧ k ≤ 1000000000) (hi : 0 ≤ i ∧ i ≤ 100000000000000) :
    Calls Tryz.prog 112 #[.int .i64 k, .int .i64 i] w fun e w' => e = .returned (.int .i64 (markV k i)) ∧ w = w' := by
  obtain ⟨_, _⟩ := hk
  obtain ⟨_, _⟩ := hi
  go_enter Tryz.func112, Tryz.ntmps112
  go_wp2
  go_ret
  exact ⟨rfl, rfl⟩
end Go.Proofs.YtblhmdhfhaencaaGreat
