/-
  Regions that draw their order, where many operations may come up at one time: a law for each operation, whatever has been done ahead of it. No program in sight.
-/
import Derived.Test.YtdoahpblphlabaaZed
namespace Go.Proofs.Ytdoahpblphlabaa
set_option linter.unusedSimpArgs false
set_option linter.unusedVariables false
open Go.RowKit

/-- how many of some are still to come -/
def remB (es : List Nat) (L : Array Bool) : Nat := (es.filter fun e => !L.getD e false).length
/-- the states that are met, out of one -/
def nextB (l : List Oper) (L : Array Bool) : List (Array Bool) := (Region.ready .any l.toArray L).map fun i => L.setIfInBounds i true
def dedupB : List (Array Bool) → List (Array Bool)
  | [] => []
  | L :: r => if r.contains L then dedupB r else L :: dedupB r
def statesB (l : List Oper) : Nat → List (Array Bool) → List (Array Bool)
  | 0, Ls => Ls
  | n + 1, Ls => Ls ++ statesB l n (dedupB (Ls.flatMap (nextB l)))
def okSets (l : List Oper) (es : List Nat) (Ls : List (Array Bool)) (Lf : Array Bool) : Bool :=
  Ls.all fun L => (remB es L == 0 && L == Lf) || (!(Region.ready .any l.toArray L).isEmpty && (Region.ready .any l.toArray L).all fun i => es.contains i && !L.getD i false && Ls.contains (L.setIfInBounds i true) && (remB es (L.setIfInBounds i true) + 1 == remB es L))
section
variable {P : Program} {l : List Oper} {S : World → Prop} {Q : Exit → Act → World → Prop}
theorem z_sets_all (es : List Nat) (Ls : List (Array Bool)) (Lf : Array Bool) (hok : okSets l es Ls Lf = true) (J : Array Bool → Act → World → Prop) (fuel0 : Nat)
    (hstep : ∀ L e, L ∈ Ls → e ∈ es → L.getD e false = false → e ∈ Region.ready .any l.toArray L → ∀ a w, J L a w → wpOp P l.toArray (NoPanic Q) e (fun a' w' => (aloneB l e = true ∨ S w') ∧ J (L.setIfInBounds e true) a' w') a w)
    (hend : ∀ a w, J Lf a w → wpAnyZ P l (NoPanic Q) S fuel0 Lf a w) :
    ∀ (k : Nat) (L : Array Bool), L ∈ Ls → remB es L = k → ∀ a w, J L a w → wpAnyZ P l (NoPanic Q) S (fuel0 + k) L a w := by
  intro k
  induction k with
  | zero =>
    intro L hL hk a w hJ
    have h1 := List.all_eq_true.1 hok L hL
    rw [Bool.or_eq_true] at h1
    rcases h1 with h1 | h1
    · rw [Bool.and_eq_true] at h1
      have : L = Lf := by simpa using h1.2
      subst this
      exact hend a w hJ
    · rw [Bool.and_eq_true] at h1
      obtain ⟨h1, h2⟩ := h1
      cases hr : Region.ready .any l.toArray L with
      | nil => rw [hr] at h1; simp at h1
      | cons i r =>
        rw [List.all_eq_true] at h2
        have := h2 i (by rw [hr]; simp)
        simp only [Bool.and_eq_true, beq_iff_eq] at this
        omega
  | succ k ih =>
    intro L hL hk a w hJ
    have h1 := List.all_eq_true.1 hok L hL
    rw [Bool.or_eq_true] at h1
    rcases h1 with h1 | h1
    · rw [Bool.and_eq_true, beq_iff_eq] at h1
      omega
    · rw [Bool.and_eq_true] at h1
      obtain ⟨h1, h2⟩ := h1
      rw [List.all_eq_true] at h2
      refine ⟨fun h0 => ?_, fun i hi => ?_⟩
      · rw [h0] at h1; simp at h1
      · have h3 := h2 i hi
        simp only [Bool.and_eq_true, beq_iff_eq, Bool.not_eq_true'] at h3
        obtain ⟨⟨⟨h4, h5⟩, h6⟩, h7⟩ := h3
        refine wpOp_mono (fun a' w' h' => ⟨h'.1, ih (L.setIfInBounds i true) (by simpa using h6) (by omega) a' w' h'.2⟩) (hstep L i hL (by simpa using h4) h5 hi a w hJ)
/-- the same, in the form in which it is applied -/
theorem z_sets {a0 : Act} {w0 : World} {L0 : Array Bool} (es : List Nat) (n k fuel0 : Nat) (Lf : Array Bool) (hok : (okSets l es (statesB l n [L0]) Lf && remB es L0 == k && (statesB l n [L0]).contains L0) = true) (J : Act → Array Bool → Act → World → Prop)
    (h0 : J a0 L0 a0 w0)
    (hstep : ∀ L e, e ∈ es → L.getD e false = false → L.size = L0.size → e ∈ Region.ready .any l.toArray L → ∀ a w, J a0 L a w → wpOp P l.toArray (NoPanic Q) e (fun a' w' => (aloneB l e = true ∨ S w') ∧ J a0 (L.setIfInBounds e true) a' w') a w)
    (hend : ∀ a w, J a0 Lf a w → wpAnyZ P l (NoPanic Q) S fuel0 Lf a w) : wpAnyZ P l (NoPanic Q) S (fuel0 + k) L0 a0 w0 := by
  simp only [Bool.and_eq_true, beq_iff_eq] at hok
  obtain ⟨⟨h1, h2⟩, h3⟩ := hok
  refine z_sets_all es _ Lf h1 (fun L a w => L.size = L0.size ∧ J a0 L a w) fuel0 ?_ (fun a w h => hend a w h.2) k L0 (by simpa using h3) h2 a0 w0 ⟨rfl, h0⟩
  intro L e _ he hL hr a w hJ
  exact wpOp_mono (fun a' w' h' => ⟨h'.1, by simpa using hJ.1, h'.2⟩) (hstep L e he hL hJ.1 hr a w hJ.2)
end
/-- an act with some slots set -/
def putMany (a : Act) (ps : List (Nat × Value)) : Act := { a with tmps := ps.foldl (fun t p => t.setIfInBounds p.1 p.2) a.tmps }
theorem getD_set_ne (L : Array Bool) (i j : Nat) (h : i ≠ j) : (L.setIfInBounds i true).getD j false = L.getD j false := by
  rw [Array.getD_eq_getD_getElem?, Array.getD_eq_getD_getElem?, Array.getElem?_setIfInBounds_ne h]
theorem getD_set_eq (L : Array Bool) (i : Nat) (h : i < L.size) : (L.setIfInBounds i true).getD i false = true := by
  rw [Array.getD_eq_getD_getElem?, Array.getElem?_setIfInBounds_self_of_lt h]
  rfl
end Go.Proofs.Ytdoahpblphlabaa
