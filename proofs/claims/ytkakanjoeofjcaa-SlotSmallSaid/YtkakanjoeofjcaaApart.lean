/-
  SlotApart: the plain law: what the frame of slot.Of is, in the words of the law. No Go in sight.
-/
import Derived.Test.YtkakanjoeofjcaaOfAny
namespace Go.Proofs.Ytkakanjoeofjcaa

theorem idx_at (l : List Int) (x : Int) (h : 0 ≤ idx l x) : (idx l x).toNat < l.length ∧ l.getD (idx l x).toNat 0 = x := by
  have hg := idx_ge l x
  refine ⟨by omega, ?_⟩
  induction l with
  | nil => simp [idx] at h
  | cons y l ih =>
    simp only [idx] at h ⊢
    split
    · rename_i e; simp [e]
    · rename_i e
      rw [if_neg e] at h
      split
      · rename_i hn; rw [if_pos hn] at h; omega
      · rename_i hn
        rw [if_neg hn] at h
        have := ih (by omega) (idx_ge l x)
        rw [show (idx l x + 1).toNat = (idx l x).toNat + 1 by omega]
        simpa using this

def degOf (ps : List (Int × Int)) (v : Int) : Nat := (ps.filter fun p => p.1 == v || p.2 == v).length
def widestOf (ps : List (Int × Int)) (vs : List Int) : Nat := vs.foldl (fun m v => max m (degOf ps v)) 0
theorem degOf_le (ps : List (Int × Int)) (v : Int) : degOf ps v ≤ ps.length := List.length_filter_le _ _
theorem degOf_snoc (ps : List (Int × Int)) (p : Int × Int) (v : Int) : degOf (ps ++ [p]) v = degOf ps v + if p.1 = v ∨ p.2 = v then 1 else 0 := by
  unfold degOf
  rw [List.filter_append, List.length_append]
  by_cases h : p.1 = v ∨ p.2 = v
  · rw [if_pos h, List.filter_cons_of_pos (by simpa using h)]; simp
  · rw [if_neg h, List.filter_cons_of_neg (by simpa using h)]; simp
theorem widest_snoc (ps : List (Int × Int)) (vs : List Int) (v : Int) : widestOf ps (vs ++ [v]) = max (widestOf ps vs) (degOf ps v) := by simp [widestOf]
theorem widest_le (ps : List (Int × Int)) (vs : List Int) : widestOf ps vs ≤ ps.length := by
  induction vs using snoc_ind with
  | h0 => simp [widestOf]
  | h1 l a ih => rw [widest_snoc]; have := degOf_le ps a; omega
theorem le_widest (ps : List (Int × Int)) (vs : List Int) : ∀ v ∈ vs, degOf ps v ≤ widestOf ps vs := by
  induction vs using snoc_ind with
  | h0 => simp
  | h1 l a ih =>
    intro v hv
    rw [widest_snoc]
    rcases List.mem_append.1 hv with hv | hv
    · have := ih v hv; omega
    · rw [List.mem_singleton.1 hv]; omega
theorem nots_deg (ps : List (Int × Int)) (v : Int) (h : ∀ p ∈ ps, p.1 ≠ p.2) : (notsOf ps v).length = degOf ps v := by
  induction ps with
  | nil => rfl
  | cons p ps ih =>
    have hp := h p (by simp)
    have ih := ih (fun q hq => h q (by simp [hq]))
    unfold degOf at ih ⊢
    simp only [notsOf, List.length_append]
    by_cases h1 : p.1 = v
    · have h2 : ¬ p.2 = v := fun e => hp (h1.trans e.symm)
      rw [if_pos h1, if_neg h2, List.filter_cons_of_pos (by simp [h1])]
      simp only [List.length_cons, List.length_nil]
      omega
    · by_cases h2 : p.2 = v
      · rw [if_neg h1, if_pos h2, List.filter_cons_of_pos (by simp [h2])]
        simp only [List.length_cons, List.length_nil]
        omega
      · rw [if_neg h1, if_neg h2, List.filter_cons_of_neg (by simp [h1, h2])]
        simp only [List.length_nil]
        omega

/-- what the law asks of a frame that is right; 'own': homes and the one to spare -/
structure ApartF (xs : List Int) (ps : List (Int × Int)) (rs : List Int) (t : Bool) (F : Fr) (own : List Int) : Prop where
  err : F.err = 0
  vlen : F.vars.length = xs.length
  hlen : F.homes.length = rs.length
  size1 : F.size ≤ xs.length + rs.length + 1
  size2 : F.size ≤ 400
  apart : ∀ p ∈ ps, shareB F.vars xs p.1 p.2 = false
  vlt : ∀ i, i < xs.length → 0 ≤ F.vars.getD i 0 ∧ F.vars.getD i 0 < F.size
  ownEq : own = F.homes ++ (if t then [F.temp] else [])
  ownLt : ∀ k, k < own.length → 0 ≤ own.getD k 0 ∧ own.getD k 0 < F.size
  ownNew : ∀ k, k < own.length → own.getD k 0 ∉ F.vars ++ own.take k
  full : ∀ j : Nat, (j : Int) < F.size → (j : Int) ∈ F.vars ++ own
  last : t = false → F.temp = -1 ∧ (xs.length = 0 ∨ F.size - own.length ≤ (widestOf ps xs : Int) + 1)

def ownOf (F : Fr) (t : Bool) : List Int := F.homes ++ (if t then [F.temp] else [])

theorem vars_at (ps : List (Int × Int)) (xs : List Int) (i : Nat) (hi : i < xs.length) :
    (((asg ps xs).map (·.2)).map fun (s : Nat) => (s : Int)).getD i 0 = (slt ps xs i : Int) := by
  have hl := asg_length ps xs
  have h1 := asg_at ps xs i hi
  rw [List.getD_eq_getElem?_getD, List.getElem?_map, List.getElem?_map, h1]
  rfl

theorem apartF_of (xs : List Int) (ps : List (Int × Int)) (rs : List Int) (t : Bool) (hok : okAll xs ps rs = true) : ApartF xs ps rs t (frOf xs ps rs t) (ownOf (frOf xs ps rs t) t) := by
  have hok' := hok
  simp only [okAll, Bool.and_eq_true] at hok'
  obtain ⟨⟨hx, hr⟩, hp⟩ := hok'
  obtain ⟨hx1, hx2, hx3⟩ := rising_all hx
  obtain ⟨hr1, hr2, hr3⟩ := rising_all hr
  have hn : xs.length ≤ 200 := by omega
  have hl : rs.length ≤ 64 := by omega
  have hp1 : ∀ p ∈ ps, p.1 ≠ p.2 ∧ 0 ≤ idx xs p.1 ∧ 0 ≤ idx xs p.2 := by
    intro p hpp
    have := (List.all_eq_true.1 hp) p hpp
    simp only [okPair, Bool.and_eq_true, decide_eq_true_eq] at this
    exact ⟨this.1.1, this.1.2, this.2⟩
  have hal := asg_length ps xs
  have halt := asg_lt ps xs (by omega)
  have hsz : szOf (asg ps xs) ≤ xs.length := by
    have := sz_le (asg ps xs) (asg ps xs).length halt
    omega
  have hown : ownOf (frOf xs ps rs t) t = (List.range (rs.length + if t then 1 else 0)).map fun (i : Nat) => ((szOf (asg ps xs) + i : Nat) : Int) := by
    cases t
    · simp [ownOf, frOf, hok]
    · simp [ownOf, frOf, hok, List.range_succ]
  have holen : (ownOf (frOf xs ps rs t) t).length = rs.length + if t then 1 else 0 := by rw [hown]; simp
  have hoat : ∀ k, k < rs.length + (if t then 1 else 0) → (ownOf (frOf xs ps rs t) t).getD k 0 = ((szOf (asg ps xs) + k : Nat) : Int) := by
    intro k hk
    rw [hown]
    simp [List.getD_eq_getElem?_getD, hk]
  have hvars : (frOf xs ps rs t).vars = ((asg ps xs).map (·.2)).map fun (s : Nat) => (s : Int) := by simp [frOf, hok]
  have hsize : (frOf xs ps rs t).size = ((szOf (asg ps xs) + rs.length + (if t then 1 else 0) : Nat) : Int) := by simp [frOf, hok]
  have hvat : ∀ i, i < xs.length → (frOf xs ps rs t).vars.getD i 0 = (slt ps xs i : Int) := by
    intro i hi
    rw [hvars]
    exact vars_at ps xs i hi
  have hvmem : ∀ x, x ∈ (frOf xs ps rs t).vars ↔ ∃ i, i < xs.length ∧ (slt ps xs i : Int) = x := by
    intro x
    have hvl : (frOf xs ps rs t).vars.length = xs.length := by rw [hvars]; simp [hal]
    constructor
    · intro h
      obtain ⟨i, hi, e⟩ := List.mem_iff_getElem.1 h
      refine ⟨i, by omega, ?_⟩
      rw [← hvat i (by omega), ← e]
      simp [List.getD_eq_getElem?_getD, hi]
    · rintro ⟨i, hi, rfl⟩
      rw [← hvat i hi]
      simp [List.getD_eq_getElem?_getD, hvl, hi]
  refine ⟨?_, ?_, ?_, ?_, ?_, ?_, ?_, rfl, ?_, ?_, ?_, ?_⟩
  · simp [frOf, hok]
  · rw [hvars]; simp [hal]
  · simp [frOf, hok]
  · rw [hsize]; cases t <;> simp <;> omega
  · rw [hsize]; cases t <;> simp <;> omega
  · intro p hpp
    obtain ⟨e1, e2, e3⟩ := hp1 p hpp
    obtain ⟨i1, i2⟩ := idx_at xs p.1 e2
    obtain ⟨k1, k2⟩ := idx_at xs p.2 e3
    rw [shareB, decide_eq_false_iff_not]
    rintro ⟨_, _, _, _, h⟩
    rw [hvat _ i1, hvat _ k1] at h
    have h' : slt ps xs (idx xs p.1).toNat = slt ps xs (idx xs p.2).toNat := by omega
    generalize (idx xs p.1).toNat = i at *
    generalize (idx xs p.2).toNat = k at *
    have hne : i ≠ k := fun e => e1 (by rw [← i2, ← k2, e])
    have hnd := nodup_of_lt hx2
    rcases Nat.lt_or_ge k i with hlt | hge
    · exact slt_apart ps xs (by omega) hnd i k hlt i1 (by rw [i2, k2]; exact .inl hpp) h'
    · exact slt_apart ps xs (by omega) hnd k i (by omega) k1 (by rw [i2, k2]; exact .inr hpp) h'.symm
  · intro i hi
    rw [hvat i hi, hsize]
    have := slt_lt ps xs i hi
    omega
  · intro k hk
    rw [holen] at hk
    rw [hoat k hk, hsize]
    omega
  · intro k hk hm
    rw [holen] at hk
    rw [hoat k hk] at hm
    rcases List.mem_append.1 hm with hm | hm
    · obtain ⟨i, hi, e⟩ := (hvmem _).1 hm
      have := slt_lt ps xs i hi
      omega
    · rw [hown] at hm
      obtain ⟨j, hj, e⟩ := List.mem_iff_getElem.1 hm
      simp only [List.length_take, List.length_map, List.length_range] at hj
      simp only [List.getElem_take, List.getElem_map, List.getElem_range] at e
      omega
  · intro j hj
    rw [hsize] at hj
    rcases Nat.lt_or_ge j (szOf (asg ps xs)) with hlt | hge
    · obtain ⟨k, hk, e⟩ := sz_full ps xs (by omega) j hlt
      exact List.mem_append.2 (.inl ((hvmem _).2 ⟨k, hk, by omega⟩))
    · refine List.mem_append.2 (.inr ?_)
      rw [hown]
      exact List.mem_map.2 ⟨j - szOf (asg ps xs), List.mem_range.2 (by omega), by omega⟩
  · rintro rfl
    refine ⟨by simp [frOf, hok], ?_⟩
    rcases Nat.eq_zero_or_pos xs.length with h0 | h0
    · exact .inl h0
    · refine .inr ?_
      rw [holen, hsize]
      simp only [Bool.false_eq_true, if_false, Nat.add_zero]
      rcases Nat.eq_zero_or_pos (szOf (asg ps xs)) with hz | hz
      · omega
      · obtain ⟨i, hi, e⟩ := sz_at ps xs hz
        have h1 := slt_le ps xs (by omega) i hi
        rw [nots_deg ps _ (fun p hpp => (hp1 p hpp).1)] at h1
        have h2 := le_widest ps xs (xs.getD i 0) (by simp [List.getD_eq_getElem?_getD, hi])
        omega

/-- which numbers are among some -/
def usedOf (size : Nat) (l : List Int) : List Int := (List.range size).map fun (j : Nat) => if (j : Int) ∈ l then 1 else 0
theorem usedOf_len (size : Nat) (l : List Int) : (usedOf size l).length = size := by simp [usedOf]
theorem usedOf_at (size : Nat) (l : List Int) (j : Nat) (hj : j < size) : (usedOf size l).getD j 0 = if (j : Int) ∈ l then 1 else 0 := by
  simp [usedOf, List.getD_eq_getElem?_getD, hj]
theorem usedOf_set (size : Nat) (l : List Int) (x : Int) (j : Nat) (hx : x = (j : Int)) (hj : j < size) : (usedOf size l).set j 1 = usedOf size (l ++ [x]) := by
  subst hx
  refine List.ext_getElem (by simp [usedOf]) fun i h1 h2 => ?_
  simp only [usedOf, List.getElem_set, List.getElem_map, List.getElem_range, List.mem_append, List.mem_singleton]
  by_cases e : j = i
  · subst e; simp
  · rw [if_neg e]
    have : ¬ ((i : Int) = (j : Int)) := by omega
    simp [this]
end Go.Proofs.Ytkakanjoeofjcaa
