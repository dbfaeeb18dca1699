/-
  How a slice of pairs that came in reads.
-/
import Derived.Test.YtkakanjoeofjcaaOpen
import Derived.Deep.SlicePairs
namespace Go.Proofs.Ytkakanjoeofjcaa
open Go.ChangeShapes Go.WideShapes Go.ChangeAt Go.RowKit

theorem bytesPair : Try.prog.bytesOf 41 = 16 := by kernel_rfl
theorem cellsPair : Try.prog.cellsOf 41 = 2 := by kernel_rfl

theorem add_none (b o j : Nat) : (⟨b, o, none⟩ : Addr).add j = ⟨b, o + j, none⟩ := by unfold Addr.add; split <;> simp_all

def intVal : Value → Int
  | .int _ n => n
  | _ => 0

theorem prs_in {H : Type} {enc : TypeId × Value → H} {W : World} {fuel : Nat} {v : Value} {y : DataW H × List MemPlace}
    (hf : DataW.trod enc Try.prog W 0 (fun _ => true) true fuel 23 [v] = some y) (hb : ∀ n ∈ y.1.weights Try.prog 23, n ≤ reachBytes) :
    ∃ a len cap ps, v = .slice a len cap ∧ Prs W a len ps := by
  rcases Go.Deep.open_slice_pairs Try.underlying23 Try.underlying41 cellsPair rfl rfl cellsInt cellsInt hf with ⟨hcs, _⟩ | ⟨x, l, c, m, n, V0, V1, D0, D1, P0, P1, hcs, _, hl, hm, hmm, hx, hall⟩
  · simp at hcs
    exact ⟨none, 0, 0, [], hcs, rfl, by omega, fun k hk => absurd hk (by omega)⟩
  · simp at hcs
    have hmm' : m = c := by simpa using hmm
    subst hmm'
    have hbd := hb ((l + (m - l)) * 16) (by rw [hx]; simp [DataW.weights, Try.underlying23, bytesPair])
    have hlen : ((List.range l).map fun i => (intVal (V0 i), intVal (V1 i))).length = l := by simp
    refine ⟨some x, l, m, (List.range l).map fun i => (intVal (V0 i), intVal (V1 i)), hcs, hlen, ?_, fun k hk => ?_⟩
    · simp only [reachBytes] at hbd
      omega
    · have e : ((List.range l).map fun i => (intVal (V0 i), intVal (V1 i))).getD k (0, 0) = (intVal (V0 k), intVal (V1 k)) := by
        simp [List.getD_eq_getElem?_getD, hk]
      obtain ⟨b, o, sp⟩ := x
      have hsp : sp = none := by simpa [Addr.add] using World.cell?_spot (hall 0 (by omega)).1
      subst hsp
      obtain ⟨h0, h1, t0, t1⟩ := hall k (by omega)
      obtain ⟨n0, e0, _, w0⟩ := DataW.trod_int Try.underlying3 t0
      obtain ⟨n1, e1, _, w1⟩ := DataW.trod_int Try.underlying3 t1
      simp only [List.cons.injEq, and_true] at e0 e1
      have hadd : ∀ j, (⟨b, o, none⟩ : Addr).add j = ⟨b, o + j, none⟩ := fun j => add_none b o j
      rw [hadd] at h0 h1
      rw [e, e0, e1]
      rw [e0] at h0
      rw [e1] at h1
      refine ⟨b, o, rfl, h0, by rw [Nat.add_assoc]; exact h1, ?_, ?_⟩
      · have := Go.Joins.in64_of_wf w0; exact ⟨this.1, this.2⟩
      · have := Go.Joins.in64_of_wf w1; exact ⟨this.1, this.2⟩
end Go.Proofs.Ytkakanjoeofjcaa
