/-
  The document's answer to layer 18: Spot. The law EdgeSpots, walked.
-/
import Derived.Test.YtblhmdhfhaencaaGreatRD
import Derived.Test.YtblhmdhfhaencaaGreatQueue
import Derived.Test.YtblhmdhfhaencaaGreatLF
namespace Go.Proofs.YtblhmdhfhaencaaGreat
set_option linter.unusedSimpArgs false
set_option linter.unusedVariables false
set_option linter.unusedSectionVars false
set_option maxRecDepth 100000
set_option maxHeartbeats 40000000
section
open Go.RowKit
attribute [local go_sem] Oper.semAt_some wide_fn wide_depth wide_fnR wide_depthR
theorem lent_ts {rs ss : List BlkR} (h : SameEs SDBlk rs ss) : tsOf (hOf rs) = tsOf (hOf ss) := by
  apply List.ext_getElem?
  intro k
  simp only [tsOf, hOf, List.getElem?_map]
  by_cases hk : k < rs.length
  · have hk2 : k < ss.length := by rw [← h.1]; exact hk
    have := h.2 k rs[k] ss[k] (List.getElem?_eq_getElem hk) (List.getElem?_eq_getElem hk2);rw [List.getElem?_eq_getElem hk, List.getElem?_eq_getElem hk2];simp only [Option.map_some, this.1]
  · rw [List.getElem?_eq_none (by omega), List.getElem?_eq_none (by rw [← h.1]; omega)]
theorem great_na {bn pn : Nat} {bs : List BlkR} {f : FuncR} (h1 : f.pn = pn) (h2 : f.bs = bs) (h3 : bs.length = f.bn) (hp : (pn : Int) ≤ 2000) (hl : (bs.length : Int) ≤ 2000) (hb : ∀ b ∈ bs, BigOK 2000 b) : FuncNA f := by
  refine ⟨by omega, by omega, fun b hb2 => ?_⟩
  rw [h2] at hb2
  have := hb b hb2
  exact ⟨by have := this.1; omega, fun r hr => by have := this.2 r hr; unfold InsNA; omega⟩
end
end Go.Proofs.YtblhmdhfhaencaaGreat
