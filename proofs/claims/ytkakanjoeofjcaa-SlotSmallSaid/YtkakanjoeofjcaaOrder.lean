/-
  SlotOrder: the plain law, and the walk.
-/
import Derived.Test.YtkakanjoeofjcaaOfAny
import Derived.Test.YtkakanjoeofjcaaZed
namespace Go.Proofs.Ytkakanjoeofjcaa
open Go.RowKit

def rotAt (ps : List (Int × Int)) (k i : Nat) : Int × Int := ps.getD ((i + k) % ps.length) (0, 0)
def othersOf (ps : List (Int × Int)) (k : Nat) : Nat → List (Int × Int)
  | 0 => []
  | j + 1 => othersOf ps k j ++ [((rotAt ps k j).2, (rotAt ps k j).1), rotAt ps k j]
theorem othersOf_len (ps : List (Int × Int)) (k j : Nat) : (othersOf ps k j).length = j * 2 := by
  induction j with
  | zero => rfl
  | succ j ih => simp only [othersOf, List.length_append, ih, List.length_cons, List.length_nil]; omega
theorem mem_others (ps : List (Int × Int)) (k j : Nat) (a b : Int) : (a, b) ∈ othersOf ps k j ↔ ∃ i, i < j ∧ (rotAt ps k i = (a, b) ∨ rotAt ps k i = (b, a)) := by
  induction j with
  | zero => simp [othersOf]
  | succ j ih =>
    simp only [othersOf, List.mem_append, ih, List.mem_cons, List.not_mem_nil, or_false, Prod.mk.injEq]
    constructor
    · rintro (⟨i, hi, h⟩ | ⟨h1, h2⟩ | h)
      · exact ⟨i, by omega, h⟩
      · exact ⟨j, by omega, .inr (Prod.ext h2.symm h1.symm)⟩
      · exact ⟨j, by omega, .inl h.symm⟩
    · rintro ⟨i, hi, h⟩
      by_cases hj : i = j
      · subst hj
        rcases h with h | h
        · exact .inr (.inr h.symm)
        · exact .inr (.inl (by rw [h]; exact ⟨rfl, rfl⟩))
      · exact .inl ⟨i, by omega, h⟩
theorem mem_rot (ps : List (Int × Int)) (k : Nat) (p : Int × Int) : (∃ i, i < ps.length ∧ rotAt ps k i = p) ↔ p ∈ ps := by
  constructor
  · rintro ⟨i, hi, rfl⟩
    unfold rotAt
    have : (i + k) % ps.length < ps.length := Nat.mod_lt _ (by omega)
    rw [List.getD_eq_getElem?_getD, List.getElem?_eq_getElem this]
    simp
  · intro h
    obtain ⟨j, hj, rfl⟩ := List.mem_iff_getElem.1 h
    have hm : k % ps.length < ps.length := Nat.mod_lt _ (by omega)
    refine ⟨(j + (ps.length - k % ps.length)) % ps.length, Nat.mod_lt _ (by omega), ?_⟩
    have e : ((j + (ps.length - k % ps.length)) % ps.length + k) % ps.length = j := by
      rw [Nat.mod_add_mod]
      have e2 : j + (ps.length - k % ps.length) + k = j + ps.length + ps.length * (k / ps.length) := by
        have := Nat.mod_add_div k ps.length
        omega
      rw [e2, Nat.add_mul_mod_self_left, Nat.add_mod_right, Nat.mod_eq_of_lt hj]
    unfold rotAt
    rw [e, List.getD_eq_getElem?_getD, List.getElem?_eq_getElem hj]
    simp
theorem mem_others_all (ps : List (Int × Int)) (k : Nat) (a b : Int) : (a, b) ∈ othersOf ps k ps.length ↔ (a, b) ∈ ps ∨ (b, a) ∈ ps := by
  rw [mem_others, ← mem_rot ps k, ← mem_rot ps k]
  constructor
  · rintro ⟨i, hi, h | h⟩
    · exact .inl ⟨i, hi, h⟩
    · exact .inr ⟨i, hi, h⟩
  · rintro (⟨i, hi, h⟩ | ⟨i, hi, h⟩)
    · exact ⟨i, hi, .inl h⟩
    · exact ⟨i, hi, .inr h⟩
theorem asg_others (ps : List (Int × Int)) (k : Nat) (vs : List Int) : asg (othersOf ps k ps.length) vs = asg ps vs := by
  refine asg_congr (fun v x => ?_) vs
  rw [mem_notsOf, mem_notsOf, mem_others_all, mem_others_all]
  constructor
  · rintro ((h | h) | (h | h)) <;> simp [h]
  · rintro (h | h) <;> simp [h]
theorem right_others (ps : List (Int × Int)) (k : Nat) (xs : List Int) : rightB xs (othersOf ps k ps.length) = rightB xs ps := by
  rw [Bool.eq_iff_iff]
  unfold rightB
  rw [List.all_eq_true, List.all_eq_true]
  have hsw : ∀ a b : Int, okPair xs (a, b) = true → okPair xs (b, a) = true := by
    intro a b h
    simp only [okPair, Bool.and_eq_true, decide_eq_true_eq] at h ⊢
    exact ⟨⟨fun e => h.1.1 e.symm, h.2⟩, h.1.2⟩
  constructor
  · rintro h ⟨a, b⟩ hp
    exact h (a, b) ((mem_others_all _ _ _ _).2 (.inl hp))
  · rintro h ⟨a, b⟩ hp
    rcases (mem_others_all _ _ _ _).1 hp with hp | hp
    · exact h _ hp
    · exact hsw _ _ (h _ hp)
theorem frOf_others (xs : List Int) (ps : List (Int × Int)) (rs : List Int) (t : Bool) (k : Nat) : frOf xs (othersOf ps k ps.length) rs t = frOf xs ps rs t := by
  unfold frOf okAll
  rw [right_others, asg_others]
theorem frOf_more (xs : List Int) (ps : List (Int × Int)) (t : Bool) (more : Int) (h1 : (frOf xs ps [] t).err = 0) (h2 : (frOf (xs ++ [more]) ps [] t).err = 0) :
    (frOf (xs ++ [more]) ps [] t).vars.take xs.length = (frOf xs ps [] t).vars ∧ (frOf (xs ++ [more]) ps [] t).vars.length = xs.length + 1 := by
  unfold frOf at *
  split at h1
  · rename_i e1
    rw [if_pos e1]
    split at h2
    · rename_i e2
      rw [if_pos e2]
      simp only [← List.map_take, asg_take, List.length_map, asg_length, List.length_append, List.length_singleton, and_true]
      rw [List.take_left']
      rfl
    · simp at h2
  · simp at h1
end Go.Proofs.Ytkakanjoeofjcaa
