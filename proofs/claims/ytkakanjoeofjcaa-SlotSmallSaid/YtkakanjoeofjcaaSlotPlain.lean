/-
  The plain law of slots: what is assigned, one variable after another. No Go in sight.
-/
import Derived.Test.YtkakanjoeofjcaaSlotC
namespace Go.Proofs.Ytkakanjoeofjcaa

theorem snoc_ind {α : Type} {p : List α → Prop} (h0 : p []) (h1 : ∀ l a, p l → p (l ++ [a])) (l : List α) : p l := by
  have : ∀ l : List α, p l.reverse := by
    intro l
    induction l with
    | nil => exact h0
    | cons a l ih => rw [List.reverse_cons]; exact h1 _ _ ih
  simpa using this l.reverse

theorem rising_all {xs : List Int} {lo hi : Int} (h : risingB xs lo hi = true) : (∀ x ∈ xs, lo ≤ x ∧ x ≤ hi) ∧ xs.Pairwise (· < ·) ∧ (xs.length : Int) ≤ max 0 (hi - lo + 1) := by
  induction xs generalizing lo with
  | nil => exact ⟨by simp, List.Pairwise.nil, by simp; omega⟩
  | cons n l ih =>
    simp only [risingB] at h
    split at h
    · cases h
    · rename_i hc
      obtain ⟨h1, h2, h3⟩ := ih h
      refine ⟨?_, List.Pairwise.cons (fun y hy => by have := (h1 y hy).1; omega) h2, by simp only [List.length_cons]; omega⟩
      intro x hx
      rcases List.mem_cons.1 hx with rfl | hx
      · omega
      · have := h1 x hx; omega
theorem all_rising {xs : List Int} {lo hi : Int} (h1 : ∀ x ∈ xs, lo ≤ x ∧ x ≤ hi) (h2 : xs.Pairwise (· < ·)) : risingB xs lo hi = true := by
  induction xs generalizing lo with
  | nil => rfl
  | cons n l ih =>
    have h0 := h1 n (by simp)
    simp only [risingB]
    rw [if_neg (by omega)]
    rw [List.pairwise_cons] at h2
    exact ih (fun x hx => ⟨by have := h2.1 x hx; omega, (h1 x (by simp [hx])).2⟩) h2.2

def lstN (bl : Int → Bool) : Nat := ((List.range 301).find? (fun n : Nat => !bl (n : Int))).getD 0
def gOf (done : List (Int × Nat)) : Int → Option Int := fun x => (done.find? (fun d => d.1 == x)).map (fun d => (d.2 : Int))
def stepA (ps : List (Int × Int)) (done : List (Int × Nat)) (v : Int) : List (Int × Nat) := done ++ [(v, lstN (blk (notsOf ps v) (gOf done)))]
def asg (ps : List (Int × Int)) (vs : List Int) : List (Int × Nat) := vs.foldl (stepA ps) []
def szOf (done : List (Int × Nat)) : Nat := done.foldl (fun s d => max s (d.2 + 1)) 0

theorem asg_snoc (ps : List (Int × Int)) (vs : List Int) (v : Int) : asg ps (vs ++ [v]) = stepA ps (asg ps vs) v := by simp [asg]
theorem szOf_snoc (done : List (Int × Nat)) (d : Int × Nat) : szOf (done ++ [d]) = max (szOf done) (d.2 + 1) := by simp [szOf]

theorem asg_keys_aux (ps : List (Int × Int)) (vs : List Int) (done : List (Int × Nat)) : (vs.foldl (stepA ps) done).map (·.1) = done.map (·.1) ++ vs := by
  induction vs generalizing done with
  | nil => simp
  | cons v vs ih => simp [ih, stepA]
theorem asg_keys (ps : List (Int × Int)) (vs : List Int) : (asg ps vs).map (·.1) = vs := by simp [asg, asg_keys_aux]
theorem asg_length (ps : List (Int × Int)) (vs : List Int) : (asg ps vs).length = vs.length := by rw [← List.length_map (f := (·.1)), asg_keys]

theorem gOf_mem {done : List (Int × Nat)} {x y : Int} (h : gOf done x = some y) : ∃ d ∈ done, d.1 = x ∧ (d.2 : Int) = y := by
  unfold gOf at h
  cases hf : done.find? (fun d => d.1 == x) with
  | none => rw [hf] at h; cases h
  | some d =>
    rw [hf] at h
    simp only [Option.map_some, Option.some.injEq] at h
    exact ⟨d, List.mem_of_find?_eq_some hf, by have := List.find?_some hf; simpa using this, h⟩
theorem gOf_none {done : List (Int × Nat)} {x : Int} (h : x ∉ done.map (·.1)) : gOf done x = none := by
  cases hg : gOf done x with
  | none => rfl
  | some y =>
    obtain ⟨d, hd, rfl, _⟩ := gOf_mem hg
    exact absurd (List.mem_map.2 ⟨d, hd, rfl⟩) h
theorem gOf_snoc (done : List (Int × Nat)) (v : Int) (n : Nat) (h : v ∉ done.map (·.1)) (x : Int) : gOf (done ++ [(v, n)]) x = if x = v then some (n : Int) else gOf done x := by
  have hn := gOf_none h
  unfold gOf at hn ⊢
  rw [List.find?_append]
  by_cases e : x = v
  · subst e
    have : done.find? (fun d => d.1 == x) = none := by
      cases hf : done.find? (fun d => d.1 == x) with
      | none => rfl
      | some d => rw [hf] at hn; cases hn
    simp [this]
  · rw [if_neg e]
    have e' : (v == x) = false := by simpa using fun h => e h.symm
    simp [List.find?_cons, e']

theorem least_unique {ns : List Int} {g : Int → Option Int} {r r' : Nat} (h : LeastIs ns g r) (h' : LeastIs ns g r') : r = r' := by
  rcases Nat.lt_trichotomy r r' with hlt | heq | hgt
  · have := h'.2 r hlt; rw [h.1] at this; cases this
  · exact heq
  · have := h.2 r' hgt; rw [h'.1] at this; cases this

theorem lst_least (ns : List Int) (done : List (Int × Nat)) (hl : done.length ≤ 300) (hd : ∀ d ∈ done, d.2 < done.length) :
    LeastIs ns (gOf done) (lstN (blk ns (gOf done))) ∧ lstN (blk ns (gOf done)) ≤ done.length := by
  have hnb : blk ns (gOf done) (done.length : Int) = false := by
    unfold blk
    rw [List.any_eq_false]
    intro x _ hx
    obtain ⟨d, hm, _, e⟩ := gOf_mem (of_decide_eq_true hx)
    have := hd d hm
    omega
  unfold lstN
  cases hf : (List.range 301).find? (fun n : Nat => !blk ns (gOf done) (n : Int)) with
  | none =>
    have := (List.find?_eq_none.1 hf) done.length (List.mem_range.2 (by omega))
    simp [hnb] at this
  | some n =>
    obtain ⟨h1, l1, l2, h2, h3⟩ := List.find?_eq_some_iff_append.1 hf
    have hall : ∀ j : Nat, j < n → blk ns (gOf done) (j : Int) = true := by
      intro j hj
      have hlen : l1.length = n := by
        have hg : (List.range 301)[l1.length]? = some n := by rw [h2]; simp
        have hlt : l1.length < 301 := by
          have := congrArg List.length h2
          simp at this; omega
        rw [List.getElem?_range hlt] at hg
        exact Option.some.inj hg
      have hlt : l1.length < 301 := by
        have := congrArg List.length h2
        simp at this; omega
      have hj' : j ∈ l1 := by
        have hg : (List.range 301)[j]? = some j := List.getElem?_range (by omega)
        rw [h2, List.getElem?_append_left (by omega)] at hg
        exact List.mem_of_getElem? hg
      have := h3 j hj'
      simpa using this
    have h1' : blk ns (gOf done) (n : Int) = false := by simpa using h1
    refine ⟨⟨h1', hall⟩, ?_⟩
    rcases Nat.lt_or_ge done.length n with hlt | hge
    · have := hall _ hlt; rw [hnb] at this; cases this
    · exact hge

theorem asg_lt (ps : List (Int × Int)) (vs : List Int) (hl : vs.length ≤ 300) : ∀ d ∈ asg ps vs, d.2 < (asg ps vs).length := by
  revert hl
  induction vs using snoc_ind with
  | h0 => simp [asg]
  | h1 vs v ih =>
    intro hl
    rw [List.length_append, List.length_singleton] at hl
    have ih := ih (by omega)
    rw [asg_snoc, stepA]
    have hlen := asg_length ps vs
    have h := (lst_least (notsOf ps v) (asg ps vs) (by omega) ih).2
    intro d hd
    rw [List.length_append, List.length_singleton]
    rcases List.mem_append.1 hd with hd | hd
    · have := ih d hd; omega
    · simp only [List.mem_singleton] at hd
      subst hd
      show lstN _ < _
      omega
theorem sz_le (done : List (Int × Nat)) (B : Nat) (h : ∀ d ∈ done, d.2 < B) : szOf done ≤ B := by
  revert h
  induction done using snoc_ind with
  | h0 => simp [szOf]
  | h1 l d ih =>
    intro h
    rw [szOf_snoc]
    have h1 := ih (fun x hx => h x (by simp [hx]))
    have h2 := h d (by simp)
    omega
end Go.Proofs.Ytkakanjoeofjcaa
