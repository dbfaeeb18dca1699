/-
  How an argument that came in reads: a slice of ints as a list, within the reach.
-/
import Derived.Test.YtdoahpblphlabaaBase
import Derived.Test.YtdoahpblphlabaaRows
import Derived.WalkKit
import Derived.ProofKit
import Derived.OpenShut
import Derived.ShutString
import Derived.ChangeOld
import Derived.Below
import Derived.SizedLaws
import Derived.Lib.SmallJoins
namespace Go.Proofs.Ytdoahpblphlabaa
set_option linter.unusedSimpArgs false
set_option linter.unusedVariables false
open Go.ChangeShapes Go.WideShapes Go.ChangeAt Go.RowKit

theorem ownG : ownKnob Try.prog.godebug = none := by kernel_rfl
theorem laidOutG : laidOutB Try.prog = true := by kernel_rfl
theorem bytesInt : Try.prog.bytesOf 3 = 8 := by kernel_rfl
theorem cellsInt : Try.prog.cellsOf 3 = 1 := by kernel_rfl

theorem ints_in {H : Type} {enc : TypeId × Value → H} {W : World} {fuel : Nat} {v : Value} {y : DataW H × List MemPlace}
    (hf : DataW.trod enc Try.prog W 0 (fun _ => true) true fuel 22 [v] = some y) (hb : ∀ n ∈ y.1.weights Try.prog 22, n ≤ reachBytes) :
    ∃ a len cap zs, v = .slice a len cap ∧ Ints W a len zs := by
  rcases open_ints Try.underlying22 Try.underlying3 cellsInt hf with ⟨hcs, _⟩ | ⟨x, l, c, zs, hcs, _, hl, hm, hz, hx, hcell, hwz⟩
  · simp at hcs
    exact ⟨none, 0, 0, [], hcs, rfl, by omega, fun k hk => absurd hk (by omega)⟩
  · simp at hcs
    have hz' : zs.length = c := by simpa using hz
    have hlen : (zs.take l).length = l := by simp; omega
    have hbd := hb ((((zs.take l).length) + ((zs.drop l).length)) * 8) (by rw [hx]; simp [DataW.weights, Try.underlying22, bytesInt, lits])
    refine ⟨some x, l, c, zs.take l, hcs, hlen, ?_, fun k hk => ?_⟩
    · simp only [List.length_take, List.length_drop, reachBytes] at hbd
      omega
    · have hk' : k < zs.length := by omega
      have hc := hcell k hk'
      obtain ⟨b, o, sp⟩ := x
      have hsp : sp = none := by simpa [Addr.add] using World.cell?_spot (hcell 0 (by omega))
      subst hsp
      have e : (zs.take l).getD k 0 = zs.getD k 0 := by simp [List.getD_eq_getElem?_getD, List.getElem?_take, hk]
      refine ⟨b, o, rfl, ?_, ?_⟩
      · rw [e]
        have ha : (⟨b, o, none⟩ : Addr).add k = ⟨b, o + k, none⟩ := by
          by_cases h0 : k = 0
          · simp [Addr.add, h0]
          · simp [Addr.add, h0]
        rw [ha] at hc
        exact hc
      · rw [e]
        have hm' : zs.getD k 0 ∈ zs := by
          rw [List.getD_eq_getElem?_getD, List.getElem?_eq_getElem hk']
          simp
        have := Go.Joins.in64_of_wf (hwz _ hm')
        simp only [I64]
        simp only [Go.Joins.In64] at this
        omega
end Go.Proofs.Ytdoahpblphlabaa
