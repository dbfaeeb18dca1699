/-
  The class of worlds of a region that draws its order may be made narrower on the way. No program in sight.
-/
import Derived.Test.YtdoahpblphlabaaZed
namespace Go.Proofs.Ytdoahpblphlabaa
set_option linter.unusedSimpArgs false
set_option linter.unusedVariables false
open Go.RowKit
section
variable {P : Program} {l : List Oper} {S S' : World → Prop} {Q : Exit → Act → World → Prop}
theorem z_mono (h : ∀ w, S' w → S w) : ∀ {fuel : Nat} {listed : Array Bool} {a : Act} {w : World}, wpAnyZ P l Q S' fuel listed a w → wpAnyZ P l Q S fuel listed a w
  | 0, _, _, _, hz => hz
  | _ + 1, _, _, _, hz => ⟨hz.1, fun i hi => wpOp_mono (fun _ _ h' => ⟨h'.1.imp id (h _), z_mono h h'.2⟩) (hz.2 i hi)⟩
/-- from the worlds grown out of one to those grown out of a later one -/
theorem z_later {W W' : World} (h : Below W.heap.size W W') {fuel : Nat} {listed : Array Bool} {a : Act} {w : World} (hz : wpAnyZ P l Q (fun w' => ∃ n : ExtW W', w' = n.val) fuel listed a w) : wpAnyZ P l Q (fun w' => ∃ n : ExtW W, w' = n.val) fuel listed a w :=
  z_mono (fun _ hn => by obtain ⟨n, rfl⟩ := hn; exact ⟨⟨n.val, ext_trans h n.ext⟩, rfl⟩) hz
end
end Go.Proofs.Ytdoahpblphlabaa
