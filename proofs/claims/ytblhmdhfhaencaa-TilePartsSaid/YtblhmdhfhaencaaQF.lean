/-
 Parts of a function: whether one set lies in a greater one.
-/
import Derived.Test.YtblhmdhfhaencaaMidR
import Derived.Test.YtblhmdhfhaencaaQA
import Derived.Test.YtblhmdhfhaencaaQT
import Derived.Test.YtblhmdhfhaencaaGiRow
namespace Go.Proofs.Ytblhmdhfhaencaa
set_option linter.unusedSimpArgs false
set_option linter.unusedVariables false
set_option linter.unusedSectionVars false
set_option maxRecDepth 100000
set_option maxHeartbeats 40000000
section
open Go.RowKit Go.Shelf
attribute [local go_sem] Oper.semAt_some wide_fn wide_depth wide_fnR wide_depthR

/-- what lies where while a set is looked for in another one -/
def WiJ (w : World) (f g : Nat → Bool) (W : World) : Prop :=
 W.heap[w.heap.size]? = some (setO f) ∧ W.heap[w.heap.size + 1]? = some (setO g) ∧ W.heap[w.heap.size + 1 + 1]? = some (.cells #[.bool false] 4 (0, 0)) ∧ W.heap[w.heap.size + 1 + 1 + 1]? = some (.cells #[.pointer (some ⟨w.heap.size, 0, none⟩)] 141 (0, 0)) ∧ Below w.heap.size w W
theorem WiJ.steady {w : World} {f g : Nat → Bool} {D : Nat} (hD : w.heap.size ≤ D) : Steady D (WiJ w f g) := by
 unfold WiJ
 exact (Steady.block _ _ rfl).and ((Steady.block _ _ rfl).and ((Steady.block _ _ rfl).and ((Steady.block _ _ rfl).and (Steady.below (Nat.le_refl _) hD))))
theorem within_any (f g : Nat → Bool) (w : World) :
  Calls Try.prog 87 #[.agg (setA f), .agg (setA g)] w fun e w' => e = .returned (.bool (withinB f g)) ∧ Below w.heap.size w w' := by
 refine (callsIn_wide (n := 0)).1 ?_
 refine callsIn_of_wp_marks Try.func87 rfl trivial ?_
 simp only [Try.ntmps87, List.size_toArray, List.length_cons, List.length_nil, Nat.reduceAdd, Nat.reduceSub, Array.replicate_succ, Array.replicate_zero, List.push_toArray, List.append_toArray, List.nil_append, List.cons_append]
 gi_wp2_with (gi_at_call 59; refine (callsIn_wide.2 (each_any _ _)).mono ?_; rintro e w' ⟨rfl, rfl⟩)
 refine range_list (ps := #[7]) (gf := 89) (lb := #[.pointer (some ⟨w.heap.size + 1 + 1 + 1, 0, none⟩)]) (enc := encN) (l := listS f) rfl enter_each _ (each_iterI f (w.heap.size + 1 + 1 + 1) w.heap.size) (fun _ => rfl)
  (fun dn r W => Hid (dn.all g = true ∧ WiJ w f g W)) (fun c W => c = .ret ∧ W.heap[w.heap.size + 1 + 1]? = some (.cells #[.bool (withinB f g)] 4 (0, 0)) ∧ Below w.heap.size w W)
  (fun dn r => (Steady.pure _ _).and (WiJ.steady (by simp; omega))) (fun c => (Steady.pure _ _).and ((Steady.block _ _ rfl).and (Steady.below (Nat.le_refl _) (by simp; omega)))) (fun dn r W h => ⟨by rw [cell_of_row _ _ _ _ _ _ h.out.2.2.2.2.1]; rfl, h.out.2.1⟩) ?start ?round ?done ?stop
 case start =>
  refine ⟨rfl, ?_, ?_, ?_, ?_, ?_⟩
  · rw [Below.heap_alloc _ _ _ (by simp; omega), Below.heap_alloc _ _ _ (by simp; omega), Below.heap_alloc _ _ _ (by simp)]; exact heap_alloc_new _ _
  · rw [Below.heap_alloc _ _ _ (by simp), Below.heap_alloc _ _ _ (by simp)]; exact heap_at _ _ _ (by simp)
  · rw [Below.heap_alloc _ _ _ (by simp)]; exact heap_at _ _ _ (by simp)
  · exact heap_at _ _ _ (by simp)
  · exact (((ext_alloc _ _).alloc (by simp) _).alloc (by simp; omega) _).alloc (by simp; omega) _
 case round =>
  rintro lp dn x r W0 hd hJ
  unfold encN
  gi_wp2
  refine ⟨Keep.refl _, hJ, ?_⟩
  clear hJ lp W0
  rintro lp W0 hJ
  obtain ⟨ja, j1, j2, j3, j4, jb⟩ := hJ.out
  have hxl : x < 200 := listS_lt f x (by rw [hd]; simp)
  have hcx := set_cell j2 x hxl
  by_cases hgx : g x = true
  · rw [hgx] at hcx
    have HN : Hid ((dn ++ [x]).all g = true ∧ WiJ w f g W0) := ⟨by simp only [List.all_append, ja, List.all_cons, hgx, List.all_nil, Bool.and_self], j1, j2, j3, j4, jb⟩
    clear hJ ja j1 j2 j3 j4 jb hgx
    gi_wp2
    exact ⟨Keep.refl _, HN⟩
  · have hgx' : g x = false := by simpa using hgx
    rw [hgx'] at hcx
    have HE : Hid (withinB f g = false) := by
     have : (listS f).all g = false := by rw [hd, List.all_append, List.all_cons, hgx', Bool.false_and, Bool.and_false]
     rw [Hid, withinB, this, Bool.false_and]
    have hf1 : W0.frozen? ⟨w.heap.size + 1 + 1, 0, none⟩ = false := frozen_of_row _ _ _ _ _ j3
    have hc1 : W0.cell? ⟨w.heap.size + 1 + 1, 0, none⟩ = some (.bool false) := by rw [cell_of_row _ _ _ _ _ _ j3]; rfl
    have hl1 := lt_of_heap j3
    have HR := Lib.hid j3
    have HB := Lib.hid jb
    clear hJ ja j1 j2 j3 j4 jb hgx hgx'
    gi_wp2
    have hst := heap_setCell_same W0 (w.heap.size + 1 + 1) 0 _ _ (.bool false) HR.out
    exact ⟨(Keep.setCell _ _ _), rfl, by rw [HE.out]; simpa using hst, HB.out.setCell (by simp; omega) _⟩
 case done =>
  rintro D W hD hJ hK
  obtain ⟨ja, j1, j2, j3, j4, jb⟩ := hJ.out
  have HE : Hid (withinB f g = !eqS f g) := by rw [Hid, withinB, ja, Bool.true_and]
  have hc1 : W.cell? ⟨w.heap.size + 1 + 1, 0, none⟩ = some (.bool false) := by rw [cell_of_row _ _ _ _ _ _ j3]; rfl
  have hf1 : W.frozen? ⟨w.heap.size + 1 + 1, 0, none⟩ = false := frozen_of_row _ _ _ _ _ j3
  have hl1 := lt_of_heap j3
  have HB := Lib.hid jb
  have HJ1 := Lib.hid j1
  have HJ2 := Lib.hid j2
  have HJ3 := Lib.hid j3
  have HD : Hid (w.heap.size + 1 + 1 + 1 < D) := by simp at hD; simp [Hid]; omega
  clear hJ ja j1 j2 j3 j4 jb hD
  gi_wp2
  refine opIn_load_row 78 _ rfl w.heap.size rfl 78 _ (0, 0) _ HJ1.out Try.underlying78 rfl (by rw [setA_size]; exact size_set) ?_
  gi_wp2
  refine opIn_load_row 78 _ rfl (w.heap.size + 1) rfl 78 _ (0, 0) _ HJ2.out Try.underlying78 rfl (by rw [setA_size]; exact size_set) ?_
  have heq := equal_set W f g
  gi_wp2
  have hDP : D ≠ w.heap.size + 1 + 1 := by have := HD.out; omega
  have gg := grown_setCell W (w.heap.size + 1 + 1) 0 (.bool (!eqS f g))
  have hK2 := grown_row gg hK (by simp; omega)
  have hb2 : Below w.heap.size w (W.setCell ⟨w.heap.size + 1 + 1, 0, none⟩ (.bool (!eqS f g))) := HB.out.setCell (by simp; omega) _
  have hv2 : (W.setCell ⟨w.heap.size + 1 + 1, 0, none⟩ (.bool (!eqS f g))).heap[w.heap.size + 1 + 1]? = some (.cells #[.bool (!eqS f g)] 4 (0, 0)) := by
   have := heap_setCell_same W (w.heap.size + 1 + 1) 0 _ _ (.bool (!eqS f g)) HJ3.out
   simpa using this
  generalize W.setCell ⟨w.heap.size + 1 + 1, 0, none⟩ (.bool (!eqS f g)) = W2 at *
  have hb3 := (Steady.below (n₀ := w.heap.size) (B := w.heap.size) (w₀ := w) (Nat.le_refl _) (Nat.le_refl _)).put (.deferred none) (l := D) hb2 (by have := HD.out; omega) hK2 rfl
  have hv3 : (W2.putObj D (.deferred none)).heap[w.heap.size + 1 + 1]? = some (.cells #[.bool (!eqS f g)] 4 (0, 0)) := (World.putObj_heap_other (by omega)).trans hv2
  have hc3 : (W2.putObj D (.deferred none)).cell? ⟨w.heap.size + 1 + 1, 0, none⟩ = some (.bool (!eqS f g)) := by rw [cell_of_row _ _ _ _ _ _ hv3]; rfl
  refine ⟨by simp, .inl ⟨_, _, rfl, run_takeDeferred hK2, ?_⟩⟩
  exact ⟨.bool (!eqS f g), by simp [results, Try.results87, go_sem, hc3], by rw [HE.out], hb3⟩
 case stop =>
  rintro D c W hD ⟨rfl, hv, hb⟩ hK
  have hv2 : (W.putObj D (.deferred none)).heap[w.heap.size + 1 + 1]? = some (.cells #[.bool (withinB f g)] 4 (0, 0)) := (World.putObj_heap_other (by simp at hD; omega)).trans hv
  have hb2 := (Steady.below (n₀ := w.heap.size) (B := w.heap.size) (w₀ := w) (Nat.le_refl _) (Nat.le_refl _)).put (.deferred none) (l := D) hb (by simp at hD; omega) hK rfl
  have hc : (W.putObj D (.deferred none)).cell? ⟨w.heap.size + 1 + 1, 0, none⟩ = some (.bool (withinB f g)) := by rw [cell_of_row _ _ _ _ _ _ hv2]; rfl
  gi_wp2
  refine ⟨by simp, .inl ⟨_, _, rfl, run_takeDeferred hK, ?_⟩⟩
  exact ⟨.bool (withinB f g), by simp [results, Try.results87, go_sem, hc], rfl, hb2⟩
end
end Go.Proofs.Ytblhmdhfhaencaa
