/-
  The plain laws of slots: apart, without gaps, no more than there are pairs; the order of pairs. No Go in sight.
-/
import Derived.Test.YtkakanjoeofjcaaSlotPlain
namespace Go.Proofs.Ytkakanjoeofjcaa

theorem blk_congr {ns ns' : List Int} (h : ∀ x, x ∈ ns ↔ x ∈ ns') (g : Int → Option Int) : blk ns g = blk ns' g := by
  funext n
  unfold blk
  rw [Bool.eq_iff_iff, List.any_eq_true, List.any_eq_true]
  exact ⟨fun ⟨x, hx, e⟩ => ⟨x, (h x).1 hx, e⟩, fun ⟨x, hx, e⟩ => ⟨x, (h x).2 hx, e⟩⟩
theorem asg_congr {ps ps' : List (Int × Int)} (h : ∀ v x, x ∈ notsOf ps v ↔ x ∈ notsOf ps' v) (vs : List Int) : asg ps vs = asg ps' vs := by
  have : stepA ps = stepA ps' := by
    funext done v
    unfold stepA
    rw [blk_congr (h v)]
  unfold asg
  rw [this]
/-- the slots of the first are the slots of those first alone -/
theorem asg_take (ps : List (Int × Int)) (vs : List Int) (i : Nat) : (asg ps vs).take i = asg ps (vs.take i) := by
  induction vs using snoc_ind generalizing i with
  | h0 => simp [asg]
  | h1 vs v ih =>
    have hl := asg_length ps vs
    rw [asg_snoc, stepA]
    by_cases hi : i ≤ vs.length
    · rw [List.take_append_of_le_length (by omega), List.take_append_of_le_length hi, ih]
    · rw [List.take_of_length_le (by simp; omega), List.take_of_length_le (by simp; omega), asg_snoc, stepA]
abbrev slt (ps : List (Int × Int)) (vs : List Int) (i : Nat) : Nat := ((asg ps vs).map (·.2)).getD i 0

theorem asg_at (ps : List (Int × Int)) (vs : List Int) (i : Nat) (hi : i < vs.length) : (asg ps vs)[i]? = some (vs.getD i 0, slt ps vs i) := by
  have hl := asg_length ps vs
  have h1 : (asg ps vs)[i]? = some ((asg ps vs)[i]'(by omega)) := List.getElem?_eq_getElem _
  have hk : ((asg ps vs).map (·.1))[i]? = vs[i]? := by rw [asg_keys]
  rw [List.getElem?_map, h1, Option.map_some, List.getElem?_eq_getElem hi] at hk
  rw [h1]
  congr 1
  refine Prod.ext ?_ ?_
  · simp only [List.getD_eq_getElem?_getD, List.getElem?_eq_getElem hi, Option.getD_some]
    exact Option.some.inj hk
  · simp [slt, List.getD_eq_getElem?_getD, List.getElem?_map, h1]
theorem take_succ_getD (vs : List Int) (i : Nat) (hi : i < vs.length) : vs.take (i + 1) = vs.take i ++ [vs.getD i 0] := by
  rw [List.take_add_one, List.getElem?_eq_getElem hi]
  simp [List.getD_eq_getElem?_getD, List.getElem?_eq_getElem hi]
theorem slt_least (ps : List (Int × Int)) (vs : List Int) (hv : vs.length ≤ 300) (i : Nat) (hi : i < vs.length) :
    LeastIs (notsOf ps (vs.getD i 0)) (gOf (asg ps (vs.take i))) (slt ps vs i) := by
  have hl := asg_length ps vs
  have h1 := asg_at ps vs i hi
  have h2 : ((asg ps vs).take (i + 1))[i]? = some (vs.getD i 0, slt ps vs i) := by rw [List.getElem?_take]; simpa using h1
  rw [asg_take, take_succ_getD _ _ hi, asg_snoc, stepA] at h2
  have hl2 := asg_length ps (vs.take i)
  have hlt : (vs.take i).length = i := by simp; omega
  rw [List.getElem?_append_right (by omega)] at h2
  have : i - (asg ps (vs.take i)).length = 0 := by omega
  rw [this] at h2
  simp only [List.getElem?_cons_zero, Option.some.injEq, Prod.mk.injEq] at h2
  rw [← h2.2]
  exact (lst_least _ _ (by omega) (asg_lt ps (vs.take i) (by omega))).1
theorem gOf_at (done : List (Int × Nat)) (hn : (done.map (·.1)).Nodup) (i : Nat) (d : Int × Nat) (h : done[i]? = some d) : gOf done d.1 = some (d.2 : Int) := by
  induction done generalizing i with
  | nil => simp at h
  | cons e l ih =>
    rw [List.map_cons, List.nodup_cons] at hn
    cases i with
    | zero =>
      simp only [List.getElem?_cons_zero, Option.some.injEq] at h
      subst h
      simp [gOf]
    | succ i =>
      simp only [List.getElem?_cons_succ] at h
      have hne : (e.1 == d.1) = false := by
        simp only [beq_eq_false_iff_ne, ne_eq]
        intro he
        exact hn.1 (List.mem_map.2 ⟨d, List.mem_of_getElem? h, he.symm⟩)
      have := ih hn.2 i h
      unfold gOf at this ⊢
      rw [List.find?_cons, hne]
      exact this
theorem nodup_of_lt {vs : List Int} (h : vs.Pairwise (· < ·)) : vs.Nodup := h.imp fun h => by omega
theorem slt_take (ps : List (Int × Int)) (vs : List Int) (i k : Nat) (hk : k < i) : slt ps (vs.take i) k = slt ps vs k := by
  unfold slt
  rw [← asg_take, List.map_take, List.getD_eq_getElem?_getD, List.getElem?_take]
  simp [hk]
/-- no two of a pair share one -/
theorem slt_apart (ps : List (Int × Int)) (vs : List Int) (hv : vs.length ≤ 300) (hn : vs.Nodup) (i k : Nat) (hk : k < i) (hi : i < vs.length)
    (hp : (vs.getD i 0, vs.getD k 0) ∈ ps ∨ (vs.getD k 0, vs.getD i 0) ∈ ps) : slt ps vs i ≠ slt ps vs k := by
  intro he
  have h := (slt_least ps vs hv i hi).1
  have hkt : (vs.take i).getD k 0 = vs.getD k 0 := by simp [List.getD_eq_getElem?_getD, List.getElem?_take, hk]
  have h1 := asg_at ps (vs.take i) k (by simp; omega)
  rw [hkt, slt_take ps vs i k hk] at h1
  have h2 := gOf_at _ (by rw [asg_keys]; exact hn.sublist (List.take_sublist _ _)) k _ h1
  unfold blk at h
  rw [List.any_eq_false] at h
  refine h (vs.getD k 0) ((mem_notsOf _ _ _).2 hp) ?_
  rw [decide_eq_true_iff, he]
  exact h2
/-- no gaps -/
theorem slt_gaps (ps : List (Int × Int)) (vs : List Int) (hv : vs.length ≤ 300) (i : Nat) (hi : i < vs.length) (n : Nat) (hn : n < slt ps vs i) : ∃ k, k < i ∧ slt ps vs k = n := by
  have h := (slt_least ps vs hv i hi).2 n hn
  unfold blk at h
  rw [List.any_eq_true] at h
  obtain ⟨x, _, hx⟩ := h
  obtain ⟨d, hd, _, e⟩ := gOf_mem (of_decide_eq_true hx)
  obtain ⟨k, hk, hg⟩ := List.mem_iff_getElem.1 hd
  rw [asg_length] at hk
  have hki : k < i := by simp at hk; omega
  have h1 := asg_at ps (vs.take i) k hk
  rw [List.getElem?_eq_getElem (by rw [asg_length]; exact hk), hg] at h1
  rw [slt_take ps vs i k hki] at h1
  refine ⟨k, hki, ?_⟩
  have := congrArg Prod.snd (Option.some.inj h1)
  simp only at this
  omega
theorem range_le (s : Nat) (l : List Nat) (h : ∀ n, n < s → n ∈ l) : s ≤ l.length := by
  induction s generalizing l with
  | zero => omega
  | succ s ih =>
    have hm := h s (by omega)
    have := ih (l.erase s) (fun n hn => (List.mem_erase_of_ne (by omega)).2 (h n (by omega)))
    rw [List.length_erase_of_mem hm] at this
    have : 0 < l.length := List.length_pos_of_mem hm
    omega
/-- no more than whom it may not share with -/
theorem slt_le (ps : List (Int × Int)) (vs : List Int) (hv : vs.length ≤ 300) (i : Nat) (hi : i < vs.length) : slt ps vs i ≤ (notsOf ps (vs.getD i 0)).length := by
  have h := (slt_least ps vs hv i hi).2
  rw [← List.length_map (f := fun x => ((gOf (asg ps (vs.take i)) x).getD 0).toNat)]
  refine range_le _ _ fun n hn => ?_
  have hb := h n hn
  unfold blk at hb
  rw [List.any_eq_true] at hb
  obtain ⟨x, hx, e⟩ := hb
  exact List.mem_map.2 ⟨x, hx, by rw [of_decide_eq_true e]; simp⟩
theorem sz_lt (done : List (Int × Nat)) : ∀ d ∈ done, d.2 < szOf done := by
  induction done using snoc_ind with
  | h0 => simp
  | h1 l d ih =>
    intro e he
    rw [szOf_snoc]
    rcases List.mem_append.1 he with he | he
    · have := ih e he; omega
    · simp only [List.mem_singleton] at he
      subst he; omega
theorem slt_lt (ps : List (Int × Int)) (vs : List Int) (i : Nat) (hi : i < vs.length) : slt ps vs i < szOf (asg ps vs) :=
  sz_lt _ _ (List.mem_of_getElem? (asg_at ps vs i hi))
theorem sz_mem (done : List (Int × Nat)) (h : 0 < szOf done) : ∃ d ∈ done, d.2 + 1 = szOf done := by
  revert h
  induction done using snoc_ind with
  | h0 => simp [szOf]
  | h1 l d ih =>
    rw [szOf_snoc]
    intro h
    by_cases hc : szOf l ≤ d.2 + 1
    · exact ⟨d, by simp, by omega⟩
    · obtain ⟨e, he, h2⟩ := ih (by omega)
      exact ⟨e, by simp [he], by omega⟩
theorem sz_at (ps : List (Int × Int)) (vs : List Int) (h : 0 < szOf (asg ps vs)) : ∃ i, i < vs.length ∧ slt ps vs i + 1 = szOf (asg ps vs) := by
  obtain ⟨d, hd, e⟩ := sz_mem _ h
  obtain ⟨i, hi, hg⟩ := List.mem_iff_getElem.1 hd
  rw [asg_length] at hi
  have h1 := asg_at ps vs i hi
  rw [List.getElem?_eq_getElem (by rw [asg_length]; exact hi), hg] at h1
  have := congrArg Prod.snd (Option.some.inj h1)
  exact ⟨i, hi, by simp only at this; omega⟩
/-- each slot below the size of variables is one variable's -/
theorem sz_full (ps : List (Int × Int)) (vs : List Int) (hv : vs.length ≤ 300) (n : Nat) (hn : n < szOf (asg ps vs)) : ∃ k, k < vs.length ∧ slt ps vs k = n := by
  obtain ⟨i, hi, e⟩ := sz_at ps vs (by omega)
  by_cases h : n = slt ps vs i
  · exact ⟨i, hi, h.symm⟩
  · obtain ⟨k, hk, h2⟩ := slt_gaps ps vs hv i hi n (by omega)
    exact ⟨k, by omega, h2⟩
end Go.Proofs.Ytkakanjoeofjcaa
