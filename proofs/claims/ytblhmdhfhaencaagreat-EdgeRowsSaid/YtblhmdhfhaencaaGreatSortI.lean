/-
  slices.Sort, Reverse, Compact of ints, on rows of the call's own.
-/
import Derived.Test.YtblhmdhfhaencaaGreatShelfM
import Derived.Test.YtblhmdhfhaencaaGreatOwnI
namespace Go.Proofs.YtblhmdhfhaencaaGreat
set_option linter.unusedSimpArgs false
set_option linter.unusedVariables false
open Go.RowKit Go.Sort

theorem heap_mapBlock (w : World) (g k : Nat) (f : Array Value → Array Value) : (mapBlock w g f).heap[k]? = if g = k then (w.heap[k]?).map (onCells f) else w.heap[k]? := by
  show (w.heap.modify g (onCells f))[k]? = _
  rw [Array.getElem?_modify]
theorem grown_putRow (w : World) (g q : Nat) (ys : List Int) : w.grownBy (putRow (Value.int .i64) (Sort.ahead w q) g 0 ys.toArray) (some g) := by
  refine ⟨rfl, rfl, rfl, by simp [Sort.ahead], fun k _ hne => ?_⟩
  unfold putRow
  rw [heap_mapBlock, if_neg (fun e => hne (by rw [e]))]
  rfl
theorem grown_grow {w w' : World} {row : Option Nat} (h : w.grownBy w' row) (os : Array Obj) : w.grownBy (grow w' os) row := by
  refine ⟨h.os, h.tape, h.output, ?_, fun k hk hne => ?_⟩
  · have := h.size
    simp [grow]
    omega
  · rw [heap_grow_old w' os (Nat.lt_of_lt_of_le hk h.size)]
    exact h.block k hk hne
theorem own_holds {w : World} {base g n c : Nat} {xs : List Int} (h : OwnI w base (.slice (some ⟨g, 0, none⟩) n c) xs) : Holds (Value.int .i64) w g 0 xs.toArray := by
  intro j hj
  have hj' : j < xs.length := by simpa using hj
  have hn := h.cap.2.2
  obtain ⟨b, o, e, hc, _⟩ := h.ints.2.2 j (by omega)
  injection e with e
  injection e with e1 e2
  subst e1 e2
  refine ⟨?_, ?_⟩
  · rw [hc]
    simp [List.getD_eq_getElem?_getD, hj']
  · rcases h.1.2 with ⟨hv, _⟩ | ⟨g', cap, cur, hv, _, hh, _⟩
    · cases hv
    · injection hv with e1 _ _
      injection e1 with e1
      injection e1 with e1 _ _
      subst e1
      exact frozen_of_row _ _ _ _ _ hh
theorem own_putRow {w : World} {base g n c : Nat} {xs : List Int} (h : OwnI w base (.slice (some ⟨g, 0, none⟩) n c) xs) (q : Nat) (ys : List Int) (hl : ys.length = xs.length) (hy : ∀ y ∈ ys, I64 y) :
    OwnI (putRow (Value.int .i64) (Sort.ahead w q) g 0 ys.toArray) base (.slice (some ⟨g, 0, none⟩) n c) ys := by
  have hn := h.cap.2.2
  refine ⟨⟨by simp [intVals], ?_⟩, hy, by have := h.2.2; omega⟩
  rcases h.1.2 with ⟨hv, _⟩ | ⟨g', cap, cur, hv, hb, hh, h1, h2, h3, h4⟩
  · cases hv
  · injection hv with e1 e2 e3
    injection e1 with e1
    injection e1 with e1 _ _
    subst e1 e3
    refine .inr ⟨g, c, putCells (Value.int .i64) 0 ys.toArray cur, by rw [hn, hl], hb, ?_, by omega, h2, by simp [putCells, h3], ?_⟩
    · unfold putRow
      rw [heap_mapBlock, if_pos rfl]
      show (w.heap[g]?).map _ = _
      rw [hh]
      rfl
    · apply List.ext_getElem?
      intro k
      rw [List.getElem?_take]
      by_cases hk : k < ys.length
      · have hkc : k < cur.size := by omega
        rw [if_pos (by omega)]
        simp [putCells, intVals, hk, hkc]
      · rw [if_neg (by omega), List.getElem?_eq_none (by simp [intVals]; omega)]
theorem own_ahead {w : World} {base : Nat} {v : Value} {xs : List Int} (h : OwnI w base v xs) (os : Array Obj) : OwnI (grow w os) base v xs :=
  h.ext ⟨rfl, rfl, rfl, by simp [grow], fun k hk => heap_grow_old w os hk⟩
def TurnPost (w : World) (base : Nat) (v : Value) (ys : List Int) (e : Ending) (w' : World) : Prop := e = .returned (.tuple #[]) ∧ OwnI w' base v ys ∧ w.grownBy w' v.ownBlock
theorem grown_refl (w : World) (row : Option Nat) : w.grownBy w row := ⟨rfl, rfl, rfl, Nat.le_refl _, fun _ _ _ => rfl⟩
theorem sortI_any (base : Nat) (v : Value) (xs : List Int) (w : World) (h : OwnI w base v xs) :
    Calls Tryz.prog 94 #[v] w (TurnPost w base v (xs.mergeSort fun x y => decide (x ≤ y))) := by
  rcases id h.1.2 with ⟨rfl, h0⟩ | ⟨g, cap, cur, rfl, hb, hh, _⟩
  · have h0 : xs = [] := List.eq_nil_of_length_eq_zero h0
    subst h0
    refine (slices_Sort_int_none none 0 w).mono ?_
    rintro e w' ⟨rfl, rfl⟩
    exact ⟨rfl, by simpa using h, grown_refl _ _⟩
  · refine (slices_Sort_int g 0 cap xs w (own_holds h) (Array.getElem?_eq_some_iff.1 hh).1 (by have := h.2.2; omega)).mono ?_
    rintro e w' ⟨rfl, n, os, rfl⟩
    have hp := List.mergeSort_perm xs fun x y => decide (x ≤ y)
    refine ⟨rfl, own_ahead (own_putRow h n _ (List.length_mergeSort _) (fun y hy => h.2.1 y (hp.mem_iff.1 hy))) os, ?_⟩
    exact grown_grow (grown_putRow w g n _) os
theorem reverseI_any (base : Nat) (v : Value) (xs : List Int) (w : World) (h : OwnI w base v xs) :
    Calls Tryz.prog 117 #[v] w (TurnPost w base v xs.reverse) := by
  rcases id h.1.2 with ⟨rfl, h0⟩ | ⟨g, cap, cur, rfl, hb, hh, _⟩
  · have h0 : xs = [] := List.eq_nil_of_length_eq_zero h0
    subst h0
    refine (slices_Reverse_int_empty none 0 w).mono ?_
    rintro e w' ⟨rfl, rfl⟩
    exact ⟨rfl, by simpa using h, grown_refl _ _⟩
  · refine (slices_Reverse_int g 0 cap xs w (own_holds h) (by have := h.2.2; omega)).mono ?_
    rintro e w' ⟨rfl, n, rfl⟩
    exact ⟨rfl, own_putRow h n _ (by simp) (fun y hy => h.2.1 y (by simpa using hy)), grown_putRow w g n _⟩
def CompactPost (w : World) (base : Nat) (v : Value) (ys : List Int) (e : Ending) (w' : World) : Prop := ∃ v', e = .returned v' ∧ OwnI w' base v' ys ∧ w.grownBy w' v.ownBlock
theorem compact_len (xs : List Int) : (Lib.compact xs).length ≤ xs.length := by
  unfold Lib.compact Lib.compactUpTo
  rw [List.length_map]
  have := List.length_filter_le (Lib.keeps xs.toArray) (List.range xs.length)
  simpa using this
theorem compact_mem (xs : List Int) : ∀ y ∈ Lib.compact xs, y ∈ xs := by
  intro y hy
  unfold Lib.compact Lib.compactUpTo at hy
  rw [List.mem_map] at hy
  obtain ⟨k, hk, rfl⟩ := hy
  have := List.mem_range.1 (List.mem_filter.1 hk).1
  simp [this]
theorem ownI_trunc {w : World} {base g c n : Nat} {xs ys : List Int} (h : OwnI w base (.slice (some ⟨g, 0, none⟩) n c) (xs ++ ys)) : OwnI w base (.slice (some ⟨g, 0, none⟩) xs.length c) xs := by
  refine ⟨⟨by simp [intVals], ?_⟩, fun z hz => h.2.1 z (by simp [hz]), by have := h.2.2; simp at this; omega⟩
  rcases h.1.2 with ⟨hv, _⟩ | ⟨g', cap, cur, hv, hb, hh, h1, h2, h3, h4⟩
  · cases hv
  · injection hv with e1 e2 e3
    injection e1 with e1
    injection e1 with e1 _ _
    subst e1 e3
    refine .inr ⟨g, c, cur, rfl, hb, hh, by simp at h1; omega, h2, h3, ?_⟩
    have h5 : (cur.toList.take ((xs ++ ys).length * 1)).take xs.length = (intVals (xs ++ ys)).take xs.length := by rw [h4]
    rw [List.take_take] at h5
    simpa [intVals] using h5
theorem compactI_any (base : Nat) (v : Value) (xs : List Int) (w : World) (h : OwnI w base v xs) :
    Calls Tryz.prog 95 #[v] w (CompactPost w base v (Lib.compact xs)) := by
  rcases id h.1.2 with ⟨rfl, h0⟩ | ⟨g, cap, cur, rfl, hb, hh, h1, _⟩
  · have h0 : xs = [] := List.eq_nil_of_length_eq_zero h0
    subst h0
    refine (slices_Compact_int_empty none 0 w).mono ?_
    rintro e w' ⟨rfl, rfl⟩
    exact ⟨_, rfl, h, grown_refl _ _⟩
  · refine (slices_Compact_int g 0 cap xs w (own_holds h) (by have := h.2.2; omega) h1).mono ?_
    rintro e w' ⟨rfl, n, rfl⟩
    have hc := compact_len xs
    have h9 := own_putRow h n (Lib.compact xs ++ List.replicate (xs.length - (Lib.compact xs).length) 0) (by simp; omega) (fun y hy => by
      rcases List.mem_append.1 hy with hy | hy
      · exact h.2.1 y (compact_mem xs y hy)
      · have := (List.mem_replicate.1 hy).2
        subst this
        unfold I64; omega)
    exact ⟨_, rfl, ownI_trunc h9, grown_putRow w g n _⟩
end Go.Proofs.YtblhmdhfhaencaaGreat
