/-
 Building tiles: the blocks that one guards. (Printed by gen_guarded.py.)
-/
import Derived.Test.YtblhmdhfhaencaaMarks
import Derived.Test.YtblhmdhfhaencaaTH
namespace Go.Proofs.Ytblhmdhfhaencaa
set_option linter.unusedSimpArgs false
set_option linter.unusedVariables false
set_option linter.unusedSectionVars false
set_option maxRecDepth 100000
set_option maxHeartbeats 40000000
section
open Go.RowKit Go.Shelf
attribute [local go_sem] Oper.semAt_some wide_fn wide_depth wide_fnR wide_depthR

def onL (fr : Nat → Bool) (dn : List Nat) : Nat → Bool := fun x => dn.contains x && !fr x
theorem onL_nil (fr : Nat → Bool) : onL fr [] = fun _ => false := by funext x; simp [onL]
theorem onL_snoc (fr : Nat → Bool) (dn : List Nat) (x : Nat) : (fun k => if k = x then !fr x else onL fr dn k) = onL fr (dn ++ [x]) := by
 funext k
 simp only [onL, List.contains_eq_mem, List.mem_append, List.mem_singleton]
 by_cases e : k = x
 · subst e; simp
 · simp [e]
def zeroS (f : Nat → Bool) : Nat → Bool := fun q => if q = 0 then true else f q
theorem onL_end (ts : List TermD) (k : Nat) {of : Nat → Bool} (hc : Canon of) : onL (zeroS (walkF (nx ts) (lessS (wholeS ts.length) k) 0)) (listS of) = guardedP ts k of := by
 funext x
 simp only [onL, guardedP, List.contains_eq_mem, mem_listS hc, zeroS]
 by_cases e : x = 0
 · subst e; simp
 · have e' : (x == 0) = false := by simpa using e
   simp [e, e']
def GuJ (w : World) (of fr s : Nat → Bool) (S7 G : Nat) (W : World) : Prop :=
 W.heap[w.heap.size]? = some (setO of) ∧ W.heap[w.heap.size + 1]? = some (setO s) ∧ W.heap[S7]? = some (setO fr) ∧ W.heap[G]? = some (.cells #[.pointer (some ⟨w.heap.size, 0, none⟩)] 141 (0, 0)) ∧ Below w.heap.size w W
theorem GuJ.steady {w : World} {of fr s : Nat → Bool} {S7 G D : Nat} (hD : w.heap.size ≤ D) : Steady D (GuJ w of fr s S7 G) := by
 unfold GuJ
 exact (Steady.block _ _ rfl).and ((Steady.block _ _ rfl).and ((Steady.block _ _ rfl).and ((Steady.block _ _ rfl).and (Steady.below (Nat.le_refl _) hD))))
theorem guarded_any (P : Nat) (d : WalkD) (ts : List TermD) (v : Value) (k : Nat) (of : Nat → Bool) (w : World) (hB : w.heap[P]? = some (bldO d v)) (hok : WalkOK w d ts) (hf : fitsB ts = true) (hk : k < 200) (hc : Canon of) :
  Calls Try.prog 83 #[.pointer (some ⟨P, 0, none⟩), .int .i64 (k : Int), .agg (setA of)] w (SetPost w (guardedP ts k of)) := by
 have HOK := Lib.hid hok
 have HGD := Lib.hid (fits_facts hf).1
 have HC := Lib.hid hc
 have hbn : d.bn ≤ 200 := hok.2.1
 have HLN : Hid (ts.length = d.bn) := hok.1
 refine (callsIn_wide (n := 0)).1 ?_
 refine callsIn_of_wp_marks Try.func83 rfl trivial ?_
 simp only [Try.ntmps83, List.size_toArray, List.length_cons, List.length_nil, Nat.reduceAdd, Nat.reduceSub, Array.replicate_succ, Array.replicate_zero, List.push_toArray, List.append_toArray, List.nil_append, List.cons_append]
 gi_wp2
 obtain ⟨W1, hW1⟩ : ∃ W, W = (w.alloc (setO of)).alloc (.cells Try.zeroCells78 78) := ⟨_, rfl⟩
 rw [← hW1]
 have hb1 : Below w.heap.size w W1 := by rw [hW1]; exact ext_trans (ext_alloc _ _) (ext_alloc _ _)
 have h5 : W1.heap[w.heap.size]? = some (setO of) := by rw [hW1]; exact block_ext (ext_alloc _ _) (heap_alloc_new _ _)
 have h6 : W1.heap[w.heap.size + 1]? = some (setO fun _ => false) := by rw [hW1, heap_at _ _ _ (by simp), zero_set]
 have hs1 : W1.heap.size = w.heap.size + 1 + 1 := by rw [hW1]; simp
 have HB1 := Lib.hid (block_ext hb1 hB)
 have HBB := Lib.hid hb1
 have H5 := Lib.hid h5
 have H6 := Lib.hid h6
 have HS1 := Lib.hid hs1
 clear hW1 hb1 h5 h6 hs1 hB hok hf hc
 refine wpIn_wide.2 ?_
 refine region_free 18 [some 9, some 10, some 11, some 12, some 13, some 14, some 15, some 16, some 17, some 18, some 19, some 20, some 21, some 22, some 23, some 24, some 25, some 7] (by kernel_rfl) (by kernel_rfl) (specB [.val (.pointer (some ⟨P, 0, none⟩)), .val (.pointer (some ⟨P, 0, none⟩)), .val (.pointer (some ⟨P, 0, none⟩)), .val (walkV d), .val (.pointer (some ⟨P, 0, none⟩)), .val (.pointer (some ⟨P, 0, none⟩)), .val (.pointer (some ⟨P, 0, none⟩)), .val (walkV d), .val (.agg (setA (wholeS d.bn))), .val (.int .i64 (k : Int)), .val (.agg (setA (lessS (wholeS d.bn) k))), .val (.pointer (some ⟨P, 0, none⟩)), .val (.pointer (some ⟨P, 0, none⟩)), .val (.pointer (some ⟨P, 0, none⟩)), .val (.pointer (some ⟨P, 2, none⟩)), .val (.slice d.ta d.bn d.tc), .val (.agg (setA (walkF (nx ts) (lessS (wholeS d.bn) k) 0))), .new (setO fun _ => false)]) (specB_mono ?_) ?_ ?_
 · intro k hk
   simp only [List.mem_cons, List.not_mem_nil, or_false] at hk
   rcases hk with rfl | rfl | rfl | rfl | rfl | rfl | rfl | rfl | rfl | rfl | rfl | rfl | rfl | rfl | rfl | rfl | rfl | rfl
   · exact trivial
   · exact trivial
   · exact trivial
   · exact trivial
   · exact trivial
   · exact trivial
   · exact trivial
   · exact trivial
   · exact trivial
   · exact trivial
   · exact trivial
   · exact trivial
   · exact trivial
   · exact trivial
   · exact trivial
   · exact trivial
   · exact trivial
   · exact trivial
 · intro i hi ν lo hi' w1 K hB hD hK
   have hcase : i = 0 ∨ i = 1 ∨ i = 2 ∨ i = 3 ∨ i = 4 ∨ i = 5 ∨ i = 6 ∨ i = 7 ∨ i = 8 ∨ i = 9 ∨ i = 10 ∨ i = 11 ∨ i = 12 ∨ i = 13 ∨ i = 14 ∨ i = 15 ∨ i = 16 ∨ i = 17 := by omega
   clear hi
   rcases hcase with rfl | rfl | rfl | rfl | rfl | rfl | rfl | rfl | rfl | rfl | rfl | rfl | rfl | rfl | rfl | rfl | rfl | rfl
   · clear hD
     refine wpOp_atK rfl rfl ?_
     simp only [frameOf, frameGo, List.getD_cons_zero, List.getD_cons_succ, put_some, put_none, List.setIfInBounds_toArray, List.set_cons_succ, List.set_cons_zero] at hK ⊢
     go_simp
     exact hK _ _ (Below.refl _ _) rfl
   · have e0 := hD 0 (by kernel_rfl)
     replace e0 : ν 0 = (.pointer (some ⟨P, 0, none⟩)) := e0
     clear hD
     refine wpOp_atK rfl rfl ?_
     simp only [frameOf, frameGo, List.getD_cons_zero, List.getD_cons_succ, put_some, put_none, List.setIfInBounds_toArray, List.set_cons_succ, List.set_cons_zero, e0] at hK ⊢
     go_simp
     exact hK _ _ (Below.refl _ _) rfl
   · have e1 := hD 1 (by kernel_rfl)
     replace e1 : ν 1 = (.pointer (some ⟨P, 0, none⟩)) := e1
     clear hD
     refine wpOp_atK rfl rfl ?_
     simp only [frameOf, frameGo, List.getD_cons_zero, List.getD_cons_succ, put_some, put_none, List.setIfInBounds_toArray, List.set_cons_succ, List.set_cons_zero, e1] at hK ⊢
     go_simp
     exact hK _ _ (Below.refl _ _) rfl
   · have e2 := hD 2 (by kernel_rfl)
     replace e2 : ν 2 = (.pointer (some ⟨P, 0, none⟩)) := e2
     clear hD
     refine wpOp_atK rfl rfl ?_
     simp only [frameOf, frameGo, List.getD_cons_zero, List.getD_cons_succ, put_some, put_none, List.setIfInBounds_toArray, List.set_cons_succ, List.set_cons_zero, e2] at hK ⊢
     refine wp_load_mid 70 _ rfl P 0 rfl _ _ (bld_walk (block_ext hB HB1.out)) Try.underlying70 rfl size_walk ?_
     exact hK _ _ (Below.refl _ _) rfl
   · clear hD
     refine wpOp_atK rfl rfl ?_
     simp only [frameOf, frameGo, List.getD_cons_zero, List.getD_cons_succ, put_some, put_none, List.setIfInBounds_toArray, List.set_cons_succ, List.set_cons_zero] at hK ⊢
     go_simp
     exact hK _ _ (Below.refl _ _) rfl
   · have e4 := hD 4 (by kernel_rfl)
     replace e4 : ν 4 = (.pointer (some ⟨P, 0, none⟩)) := e4
     clear hD
     refine wpOp_atK rfl rfl ?_
     simp only [frameOf, frameGo, List.getD_cons_zero, List.getD_cons_succ, put_some, put_none, List.setIfInBounds_toArray, List.set_cons_succ, List.set_cons_zero, e4] at hK ⊢
     go_simp
     exact hK _ _ (Below.refl _ _) rfl
   · have e5 := hD 5 (by kernel_rfl)
     replace e5 : ν 5 = (.pointer (some ⟨P, 0, none⟩)) := e5
     clear hD
     refine wpOp_atK rfl rfl ?_
     simp only [frameOf, frameGo, List.getD_cons_zero, List.getD_cons_succ, put_some, put_none, List.setIfInBounds_toArray, List.set_cons_succ, List.set_cons_zero, e5] at hK ⊢
     go_simp
     exact hK _ _ (Below.refl _ _) rfl
   · have e6 := hD 6 (by kernel_rfl)
     replace e6 : ν 6 = (.pointer (some ⟨P, 0, none⟩)) := e6
     clear hD
     refine wpOp_atK rfl rfl ?_
     simp only [frameOf, frameGo, List.getD_cons_zero, List.getD_cons_succ, put_some, put_none, List.setIfInBounds_toArray, List.set_cons_succ, List.set_cons_zero, e6] at hK ⊢
     refine wp_load_mid 70 _ rfl P 0 rfl _ _ (bld_walk (block_ext hB HB1.out)) Try.underlying70 rfl size_walk ?_
     exact hK _ _ (Below.refl _ _) rfl
   · have e7 := hD 7 (by kernel_rfl)
     replace e7 : ν 7 = (walkV d) := e7
     clear hD
     refine wpOp_atK rfl rfl ?_
     simp only [frameOf, frameGo, List.getD_cons_zero, List.getD_cons_succ, put_some, put_none, List.setIfInBounds_toArray, List.set_cons_succ, List.set_cons_zero, e7] at hK ⊢
     go_simp
     refine (whole_any d hbn w1).mono ?_
     rintro e w3 ⟨rfl, hb3⟩
     exact hK _ _ hb3 rfl
   · clear hD
     refine wpOp_atK rfl rfl ?_
     simp only [frameOf, frameGo, List.getD_cons_zero, List.getD_cons_succ, put_some, put_none, List.setIfInBounds_toArray, List.set_cons_succ, List.set_cons_zero] at hK ⊢
     go_simp
     exact hK _ _ (Below.refl _ _) rfl
   · have e8 := hD 8 (by kernel_rfl)
     replace e8 : ν 8 = (.agg (setA (wholeS d.bn))) := e8
     have e9 := hD 9 (by kernel_rfl)
     replace e9 : ν 9 = (.int .i64 (k : Int)) := e9
     clear hD
     refine wpOp_atK rfl rfl ?_
     simp only [frameOf, frameGo, List.getD_cons_zero, List.getD_cons_succ, put_some, put_none, List.setIfInBounds_toArray, List.set_cons_succ, List.set_cons_zero, e8, e9] at hK ⊢
     go_simp
     refine (less_any (wholeS d.bn) k hk w1).mono ?_
     rintro e w3 ⟨rfl, hb3⟩
     exact hK _ _ hb3 rfl
   · clear hD
     refine wpOp_atK rfl rfl ?_
     simp only [frameOf, frameGo, List.getD_cons_zero, List.getD_cons_succ, put_some, put_none, List.setIfInBounds_toArray, List.set_cons_succ, List.set_cons_zero] at hK ⊢
     go_simp
     exact hK _ _ (Below.refl _ _) rfl
   · have e11 := hD 11 (by kernel_rfl)
     replace e11 : ν 11 = (.pointer (some ⟨P, 0, none⟩)) := e11
     clear hD
     refine wpOp_atK rfl rfl ?_
     simp only [frameOf, frameGo, List.getD_cons_zero, List.getD_cons_succ, put_some, put_none, List.setIfInBounds_toArray, List.set_cons_succ, List.set_cons_zero, e11] at hK ⊢
     go_simp
     exact hK _ _ (Below.refl _ _) rfl
   · have e12 := hD 12 (by kernel_rfl)
     replace e12 : ν 12 = (.pointer (some ⟨P, 0, none⟩)) := e12
     clear hD
     refine wpOp_atK rfl rfl ?_
     simp only [frameOf, frameGo, List.getD_cons_zero, List.getD_cons_succ, put_some, put_none, List.setIfInBounds_toArray, List.set_cons_succ, List.set_cons_zero, e12] at hK ⊢
     go_simp
     exact hK _ _ (Below.refl _ _) rfl
   · have e13 := hD 13 (by kernel_rfl)
     replace e13 : ν 13 = (.pointer (some ⟨P, 0, none⟩)) := e13
     clear hD
     refine wpOp_atK rfl rfl ?_
     simp only [frameOf, frameGo, List.getD_cons_zero, List.getD_cons_succ, put_some, put_none, List.setIfInBounds_toArray, List.set_cons_succ, List.set_cons_zero, e13] at hK ⊢
     go_simp
     exact hK _ _ (Below.refl _ _) rfl
   · have e14 := hD 14 (by kernel_rfl)
     replace e14 : ν 14 = (.pointer (some ⟨P, 2, none⟩)) := e14
     clear hD
     refine wpOp_atK rfl rfl ?_
     simp only [frameOf, frameGo, List.getD_cons_zero, List.getD_cons_succ, put_some, put_none, List.setIfInBounds_toArray, List.set_cons_succ, List.set_cons_zero, e14] at hK ⊢
     have q1 := cell_ext hB (show W1.cell? ⟨P, 2, none⟩ = some (.slice d.ta d.bn d.tc) by rw [cell_of_row _ _ _ _ _ _ HB1.out]; rfl)
     go_simp
     exact hK _ _ (Below.refl _ _) rfl
   · have e3 := hD 3 (by kernel_rfl)
     replace e3 : ν 3 = (walkV d) := e3
     have e10 := hD 10 (by kernel_rfl)
     replace e10 : ν 10 = (.agg (setA (lessS (wholeS d.bn) k))) := e10
     have e15 := hD 15 (by kernel_rfl)
     replace e15 : ν 15 = (.slice d.ta d.bn d.tc) := e15
     clear hD
     refine wpOp_atK rfl rfl ?_
     simp only [frameOf, frameGo, List.getD_cons_zero, List.getD_cons_succ, put_some, put_none, List.setIfInBounds_toArray, List.set_cons_succ, List.set_cons_zero, e3, e10, e15] at hK ⊢
     go_simp
     refine (walk_any d 0 (lessS (wholeS d.bn) k) d.ta d.bn d.tc (toRows ts) (nx ts) w1 (by omega) hbn (fun y hy => by simp [lessS, wholeS] at hy; exact hy.2) (fun q hq => by simp [toRows, HOK.out.1, hq]) (WalkOK.nx_lt (w := w) (d := d) HGD.out).1 ((HOK.out.ext (ext_trans HBB.out hB)).2.2.1)).mono ?_
     rintro e w3 ⟨rfl, hb3⟩
     exact hK _ _ hb3 rfl
   · clear hD
     refine wpOp_atK rfl rfl ?_
     simp only [frameOf, frameGo, List.getD_cons_zero, List.getD_cons_succ, put_some, put_none, List.setIfInBounds_toArray, List.set_cons_succ, List.set_cons_zero] at hK ⊢
     go_simp
     refine hK _ _ (ext_alloc _ _) ⟨rfl, by simp, ?_⟩
     rw [heap_alloc_new, zero_set]
 · intro ν lo hi w1 hB hS hI hD
   have e0 : ν 0 = (.pointer (some ⟨P, 0, none⟩)) := hS 0 (by omega)
   have e1 : ν 1 = (.pointer (some ⟨P, 0, none⟩)) := hS 1 (by omega)
   have e2 : ν 2 = (.pointer (some ⟨P, 0, none⟩)) := hS 2 (by omega)
   have e3 : ν 3 = (walkV d) := hS 3 (by omega)
   have e4 : ν 4 = (.pointer (some ⟨P, 0, none⟩)) := hS 4 (by omega)
   have e5 : ν 5 = (.pointer (some ⟨P, 0, none⟩)) := hS 5 (by omega)
   have e6 : ν 6 = (.pointer (some ⟨P, 0, none⟩)) := hS 6 (by omega)
   have e7 : ν 7 = (walkV d) := hS 7 (by omega)
   have e8 : ν 8 = (.agg (setA (wholeS d.bn))) := hS 8 (by omega)
   have e9 : ν 9 = (.int .i64 (k : Int)) := hS 9 (by omega)
   have e10 : ν 10 = (.agg (setA (lessS (wholeS d.bn) k))) := hS 10 (by omega)
   have e11 : ν 11 = (.pointer (some ⟨P, 0, none⟩)) := hS 11 (by omega)
   have e12 : ν 12 = (.pointer (some ⟨P, 0, none⟩)) := hS 12 (by omega)
   have e13 : ν 13 = (.pointer (some ⟨P, 0, none⟩)) := hS 13 (by omega)
   have e14 : ν 14 = (.pointer (some ⟨P, 2, none⟩)) := hS 14 (by omega)
   have e15 : ν 15 = (.slice d.ta d.bn d.tc) := hS 15 (by omega)
   have e16 : ν 16 = (.agg (setA (walkF (nx ts) (lessS (wholeS d.bn) k) 0))) := hS 16 (by omega)
   obtain ⟨e17, l17, h17⟩ := hS 17 (by omega)
   clear hS
   simp only [List.drop_succ_cons, List.drop_zero, frameOf, frameGo, List.getD_cons_zero, List.getD_cons_succ, put_some, put_none, List.setIfInBounds_toArray, List.set_cons_succ, List.set_cons_zero, e0, e1, e2, e3, e4, e5, e6, e7, e8, e9, e10, e11, e12, e13, e14, e15, e16, e17]
   obtain ⟨fr0, hfr0⟩ : ∃ f, f = walkF (nx ts) (lessS (wholeS d.bn) k) 0 := ⟨_, rfl⟩
   rw [← hfr0]
   have HFR := Lib.hid hfr0
   have i17 := hI 17 (by omega)
   generalize lo 17 = S7 at *
   have hS7 := i17.1
   rw [HS1.out] at hS7
   have hw2 := below_setRow (g := S7) hB i17.1 (setA fr0)
   have hs2 := setRow_heap w1 S7 _ (setA fr0) _ _ h17
   refine wpList_store_row (o := ⟨none, .store 78 _ _, _, _, _, _⟩) rfl 78 _ _ rfl S7 (setA fr0) rfl rfl 78 _ h17 (by rw [setA_size]; exact size_set) rfl (setA_all _) ?_
   have hsl := lt_of_heap hs2
   generalize w1.setRow S7 (setA fr0) = w2 at *
   have h5 := block_ext hw2 H5.out
   have h6 := block_ext hw2 H6.out
   have hb2 := ext_trans HBB.out hw2
   have hcz := set_cell hs2 0 (by omega)
   have hfz := set_free hs2 0
   have h25 : (w2.setCell ⟨S7, 0, none⟩ (.bool true)).heap[w.heap.size]? = some (setO of) := grown_row (grown_setCell w2 S7 0 _) h5 (fun e => by injection e with e; omega)
   have h26 : (w2.setCell ⟨S7, 0, none⟩ (.bool true)).heap[w.heap.size + 1]? = some (setO fun _ => false) := grown_row (grown_setCell w2 S7 0 _) h6 (fun e => by injection e with e; omega)
   have h27 : (w2.setCell ⟨S7, 0, none⟩ (.bool true)).heap[S7]? = some (setO (zeroS fr0)) := set_put hs2 0 (by omega) true
   have hb3 : Below w.heap.size w (w2.setCell ⟨S7, 0, none⟩ (.bool true)) := hb2.setCell (by show w.heap.size ≤ S7; omega) _
   have hsz3 : S7 < (w2.setCell ⟨S7, 0, none⟩ (.bool true)).heap.size := lt_of_heap h27
   have H25 := Lib.hid h25
   have H26 := Lib.hid h26
   have H27 := Lib.hid h27
   have HB3 := Lib.hid hb3
   clear hI hD hB e0 e1 e2 e3 e4 e5 e6 e7 e8 e9 e10 e11 e12 e13 e14 e15 e16 e17 l17 h17 i17 hw2 hs2 h5 h6 hb2 h25 h26 h27 hb3 hfr0
   go_wp2
   gi_wp2
   generalize w2.setCell ⟨S7, 0, none⟩ (.bool true) = w3 at *
   gi_wp2_with (gi_at_call 59; refine (callsIn_wide.2 (each_any _ _)).mono ?_; rintro e w' ⟨rfl, rfl⟩)
   obtain ⟨w4, hw4⟩ : ∃ W, W = w3.alloc (.cells #[.pointer (some ⟨w.heap.size, 0, none⟩)] 141) := ⟨_, rfl⟩
   rw [← hw4]
   have hb4 : Below w3.heap.size w3 w4 := by rw [hw4]; exact ext_alloc _ _
   have hg4 : w4.heap[w3.heap.size]? = some (.cells #[.pointer (some ⟨w.heap.size, 0, none⟩)] 141 (0, 0)) := by rw [hw4]; exact heap_alloc_new _ _
   have hsz4 : w4.heap.size = w3.heap.size + 1 := by rw [hw4]; simp
   have hs26 := lt_of_heap H26.out
   have HST : Hid (GuJ w of (zeroS fr0) (onL (zeroS fr0) []) S7 w3.heap.size w4) := by
    rw [onL_nil]
    exact ⟨block_ext hb4 H25.out, block_ext hb4 H26.out, block_ext hb4 H27.out, hg4, ext_trans HB3.out hb4⟩
   clear hw4 hb4 hg4
   generalize w3.heap.size = G at *
   refine range_list (ps := #[28]) (gf := 89) (lb := #[.pointer (some ⟨G, 0, none⟩)]) (enc := encN) (l := listS of) rfl enter_each _ (each_iterI of G w.heap.size) (fun _ => rfl)
    (fun dn r W => Hid (GuJ w of (zeroS fr0) (onL (zeroS fr0) dn) S7 G W)) (fun _ _ => False) (fun dn r => GuJ.steady (by omega)) (fun c => Steady.pure _ _) (fun dn r W h => ⟨by rw [cell_of_row _ _ _ _ _ _ h.out.2.2.2.1]; rfl, h.out.1⟩) HST ?round ?done ?stop
   case round =>
    rintro lp dn x r W hd hJ
    unfold encN
    gi_wp2
    refine ⟨Keep.refl _, hJ, ?_⟩
    clear hJ lp W
    rintro lp W hJ
    have hxl : x < 200 := listS_lt of x (by rw [hd]; simp)
    obtain ⟨j1, j2, j3, j4, jb⟩ := hJ.out
    have c3 := set_cell j3 x hxl
    have c2 := set_cell j2 x hxl
    have f2 := set_free j2 x
    have l2 := lt_of_heap j2
    have g := grown_setCell W (w.heap.size + 1) x (.bool (!zeroS fr0 x))
    have HN : Hid (GuJ w of (zeroS fr0) (onL (zeroS fr0) (dn ++ [x])) S7 G (W.setCell ⟨w.heap.size + 1, x, none⟩ (.bool (!zeroS fr0 x)))) := by
     rw [← onL_snoc]
     exact ⟨grown_row g j1 (fun e => by injection e with e; omega), set_put j2 x hxl _, grown_row g j3 (fun e => by injection e with e; omega), grown_row g j4 (fun e => by injection e with e; omega), jb.setCell (by show w.heap.size ≤ w.heap.size + 1; omega) _⟩
    clear j1 j2 j3 j4 jb g hJ hd
    generalize zeroS fr0 x = fx at *
    gi_wp2
    exact ⟨Keep.setCell _ _ _, HN⟩
   case done =>
    rintro D W hD hJ hK
    have hJ1 := hJ.out
    have e9 := onL_end ts k HC.out
    rw [HLN.out, ← HFR.out] at e9
    rw [e9] at hJ1
    obtain ⟨j1, j2, j3, j4, jb⟩ := hJ1
    have J2 := Lib.hid j2
    have JB := Lib.hid jb
    have HKK := Lib.hid hK
    clear j1 j2 j3 j4 jb hJ e9 hK
    generalize guardedP ts k of = res at *
    gi_wp2_with (first
     | (refine opIn_load_row 78 _ rfl (w.heap.size + 1) rfl 78 (setA res) (0, 0) _ J2.out Try.underlying78 rfl (by rw [setA_size]; exact size_set) ?_)
     | (refine opIn_store_row 78 _ _ rfl (w.heap.size + 1) (setA res) rfl rfl 78 (setA res) J2.out (by rw [setA_size]; exact size_set) rfl (setA_all _) ?_))
    have hDS : D ≠ w.heap.size + 1 := by omega
    have hr := setRow_heap W (w.heap.size + 1) _ (setA res) _ _ J2.out
    have hb := below_setRow (g := w.heap.size + 1) JB.out (by omega) (setA res)
    have hk2 := (setRow_other W (w.heap.size + 1) D (setA res) (by omega)).trans HKK.out
    generalize W.setRow (w.heap.size + 1) (setA res) = W9 at *
    have hr2 : (W9.putObj D (.deferred none)).heap[w.heap.size + 1]? = some (setO res) := (World.putObj_heap_other (by omega)).trans hr
    have hb2 := (Steady.below (n₀ := w.heap.size) (B := w.heap.size) (w₀ := w) (Nat.le_refl _) (Nat.le_refl _)).put (.deferred none) (l := D) hb (by omega) hk2 rfl
    have hl := load_set hr2
    refine ⟨by simp, .inl ⟨_, _, rfl, run_takeDeferred hk2, ?_⟩⟩
    exact ⟨.agg (setA res), by simp [results, Try.results83, asAddr, Act.put, hl], rfl, hb2⟩
   case stop => rintro D c W hD h; exact h.elim
end
end Go.Proofs.Ytblhmdhfhaencaa
