/-
 Tile: Entries.
-/
import Derived.Test.YtblhmdhfhaencaaTV
import Derived.Test.YtblhmdhfhaencaaTH
namespace Go.Proofs.Ytblhmdhfhaencaa
set_option linter.unusedSimpArgs false
set_option linter.unusedVariables false
set_option linter.unusedSectionVars false
set_option maxRecDepth 100000
set_option maxHeartbeats 40000000
section
open Go.RowKit Go.Shelf
attribute [local go_sem] Oper.semAt_some wide_fn wide_depth wide_fnR wide_depthR

/-- what is told by Entries -/
def TEntPost (ts : List TermD) (l : List TileD) (k : Int) (w : World) (e : Ending) (w' : World) : Prop :=
 ∃ v, e = .returned v ∧ Below w.heap.size w w' ∧ (fitsB ts = false → v = nilV) ∧ (fitsB ts = true → OwnI w' w.heap.size v (intsN (entriesS ts (ofS (allL l k)))))
theorem tentries_any (pa : Option Addr) (pn pc : Nat) (ba : Option Addr) (bn bc : Nat) (bs : List BlkH) (a : Option Addr) (n c : Nat) (ls : List TileR) (k : Int) (w : World) (h : BlksOK w ba bn bs) (ht : TilesOK w a n ls) (hk : I64 k) (hT : totL (tdOf ls) ≤ 1000000) :
  Calls Try.prog 26 #[funcV pa pn pc ba bn bc, .slice a n c, .int .i64 k] w (TEntPost (tsOf bs) (tdOf ls) k w) := by
 have H := Lib.hid h
 have HT := Lib.hid ht
 have HKI := Lib.hid hk
 have HTOT := Lib.hid hT
 clear h ht hk hT
 go_enter Try.func26, Try.ntmps26
 go_upto_region 1 with (fail)
 obtain ⟨W, hW⟩ : ∃ W, W = w.alloc (funcO pa pn pc ba bn bc) := ⟨_, rfl⟩
 rw [← hW]
 have hk0 : W.heap[w.heap.size]? = some (funcO pa pn pc ba bn bc) := by rw [hW]; exact heap_alloc_new _ _
 have hB : Below w.heap.size w W := by rw [hW]; exact ext_alloc _ _
 have HK := Lib.hid hk0
 have HB := Lib.hid hB
 clear hW hk0 hB
 cases hf : fitsB (tsOf bs) with
 | false =>
   have HF := Lib.hid hf
   clear hf
   go_wp2_with (first
    | (refine wpList_load_row (o := ⟨some 10, .load 25 _, _, _, _, _⟩) rfl 25 _ rfl w.heap.size rfl 25 _ (0, 0) _ HK.out Try.underlying25 rfl size_func ?_)
    | (go_at_call 33
       refine (over_any pa pn pc ba bn bc bs W (H.out.ext HB.out)).mono ?_
       rintro e w2 ⟨cs, rfl, hcs, hall, hb, hokk⟩
       rw [HF.out]
       have HB2 := Lib.hid (ext_trans HB.out hb)
       have HCS := Lib.hid hcs
       have HALL := Lib.hid hall
       clear hb hokk hcs hall)
    | (refine wpList_store_row rfl 70 _ _ rfl w2.heap.size cs rfl rfl 70 _ (heap_alloc_new w2 walkZ) (by rw [HCS.out]; exact size_walk) (by rw [HCS.out]; rfl) HALL.out ?_))
   go_ret
   exact ⟨_, rfl, below_setRow (HB2.out.alloc HB2.out.size _) HB2.out.size _, fun _ => rfl, fun h => by rw [HF.out] at h; cases h⟩
 | true =>
   have HF := Lib.hid hf
   clear hf
   go_upto_region 4 with (first
    | (refine wpList_load_row (o := ⟨some 10, .load 25 _, _, _, _, _⟩) rfl 25 _ rfl w.heap.size rfl 25 _ (0, 0) _ HK.out Try.underlying25 rfl size_func ?_)
    | (go_at_call 33
       refine (over_any pa pn pc ba bn bc bs W (H.out.ext HB.out)).mono ?_
       rintro e w2 ⟨cs, rfl, hcs, hall, hb, hokk⟩
       rw [HF.out]
       obtain ⟨ta, tc, fa, fc, hcv, hwk⟩ := hokk HF.out
       injection hcv with hcv
       subst hcv
       have HB2 := Lib.hid (ext_trans HB.out hb)
       have HWK := Lib.hid hwk
       clear hb hokk hcs hall hwk)
    | (refine wpList_store_row rfl 70 _ _ rfl w2.heap.size #[.slice pa pn pc, .slice ba bn bc, .slice ta bn tc, .slice fa bn fc] rfl rfl 70 _ (heap_alloc_new w2 walkZ) size_walk rfl rfl ?_))
   obtain ⟨W3, hW3⟩ : ∃ W3, W3 = w2.alloc (walkO ⟨pa, pn, pc, ba, bn, bc, ta, tc, fa, fc⟩) := ⟨_, rfl⟩
   rw [← hW3]
   have hw3 : W3.heap[w2.heap.size]? = some (walkO ⟨pa, pn, pc, ba, bn, bc, ta, tc, fa, fc⟩) := by rw [hW3]; exact heap_alloc_new _ _
   have HW3 := Lib.hid hw3
   have HB3' : Below w2.heap.size w2 W3 := by rw [hW3]; exact ext_alloc _ _
   have HB3 := Lib.hid (ext_trans HB2.out HB3')
   have HWK3 := Lib.hid (HWK.out.ext HB3')
   clear hW3 hw3 HB3' HWK HB2
   refine region_free 6 [some 16, some 17, some 18, some 19, some 20, some 21] (by kernel_rfl) (by kernel_rfl) (specB [.val (walkV ⟨pa, pn, pc, ba, bn, bc, ta, tc, fa, fc⟩), .val (.slice a n c), .val (.int .i64 k), (.any fun v lo hi W => ∃ al cl, v = .slice al (allL (tdOf ls) k).length cl ∧ OwnI W lo v (allL (tdOf ls) k)), .val (.agg (setA (ofS (allL (tdOf ls) k)))), (.any fun v lo hi W => OwnI W lo v (intsN (entriesS (tsOf bs) (ofS (allL (tdOf ls) k)))))]) (specB_mono ?_) ?_ ?_
   · intro k hk
     simp only [List.mem_cons, List.not_mem_nil, or_false] at hk
     rcases hk with rfl | rfl | rfl | rfl | rfl | rfl
     · exact trivial
     · exact trivial
     · exact trivial
     · intro v lo hi w w' hb ⟨al, cl, e, ho⟩; exact ⟨al, cl, e, ho.ext hb⟩
     · exact trivial
     · intro v lo hi w w' hb ho; exact ho.ext hb
   · intro i hi ν lo hi' w1 K hB hD hK
     have hcase : i = 0 ∨ i = 1 ∨ i = 2 ∨ i = 3 ∨ i = 4 ∨ i = 5 := by omega
     clear hi
     rcases hcase with rfl | rfl | rfl | rfl | rfl | rfl
     · clear hD
       refine wpOp_atK rfl rfl ?_
       simp only [frameOf, frameGo, List.getD_cons_zero, List.getD_cons_succ, put_some, put_none, List.setIfInBounds_toArray, List.set_cons_succ, List.set_cons_zero] at hK ⊢
       refine wp_load_row 70 _ rfl w2.heap.size rfl 70 _ (0, 0) _ (block_ext hB HW3.out) Try.underlying70 rfl size_walk ?_
       exact hK _ _ (Below.refl _ _) rfl
     · clear hD
       refine wpOp_atK rfl rfl ?_
       simp only [frameOf, frameGo, List.getD_cons_zero, List.getD_cons_succ, put_some, put_none, List.setIfInBounds_toArray, List.set_cons_succ, List.set_cons_zero] at hK ⊢
       go_simp
       exact hK _ _ (Below.refl _ _) rfl
     · clear hD
       refine wpOp_atK rfl rfl ?_
       simp only [frameOf, frameGo, List.getD_cons_zero, List.getD_cons_succ, put_some, put_none, List.setIfInBounds_toArray, List.set_cons_succ, List.set_cons_zero] at hK ⊢
       go_simp
       exact hK _ _ (Below.refl _ _) rfl
     · have e1 := hD 1 (by kernel_rfl)
       replace e1 : ν 1 = (.slice a n c) := e1
       have e2 := hD 2 (by kernel_rfl)
       replace e2 : ν 2 = (.int .i64 k) := e2
       clear hD
       refine wpOp_atK rfl rfl ?_
       simp only [frameOf, frameGo, List.getD_cons_zero, List.getD_cons_succ, put_some, put_none, List.setIfInBounds_toArray, List.set_cons_succ, List.set_cons_zero, e1, e2] at hK ⊢
       go_simp
       refine (all_any a n c ls k w1 (HT.out.ext (ext_trans HB3.out hB)) HKI.out HTOT.out).mono ?_
       rintro e w3 ⟨v, rfl, ho, hb3⟩
       obtain ⟨al, cl, rfl⟩ := ho.form
       exact hK _ _ hb3 ⟨al, cl, rfl, ho⟩
     · have e3 := hD 3 (by kernel_rfl)
       unfold specB at e3
       simp only [List.getD_cons_zero, List.getD_cons_succ, specK] at e3
       clear hD
       refine wpOp_atK rfl rfl ?_
       simp only [frameOf, frameGo, List.getD_cons_zero, List.getD_cons_succ, put_some, put_none, List.setIfInBounds_toArray, List.set_cons_succ, List.set_cons_zero] at hK ⊢
       obtain ⟨al, cl, e3', ho3⟩ := e3
       simp only [e3'] at hK ⊢
       rw [e3'] at ho3
       go_simp
       refine (of_any al _ cl (allL (tdOf ls) k) w1 ho3.ints).mono ?_
       rintro e w3 ⟨rfl, hb3⟩
       exact hK _ _ hb3 rfl
     · have e0 := hD 0 (by kernel_rfl)
       replace e0 : ν 0 = (walkV ⟨pa, pn, pc, ba, bn, bc, ta, tc, fa, fc⟩) := e0
       have e4 := hD 4 (by kernel_rfl)
       replace e4 : ν 4 = (.agg (setA (ofS (allL (tdOf ls) k)))) := e4
       clear hD
       refine wpOp_atK rfl rfl ?_
       simp only [frameOf, frameGo, List.getD_cons_zero, List.getD_cons_succ, put_some, put_none, List.setIfInBounds_toArray, List.set_cons_succ, List.set_cons_zero, e0, e4] at hK ⊢
       go_simp
       refine (entries_any ⟨pa, pn, pc, ba, bn, bc, ta, tc, fa, fc⟩ (tsOf bs) (ofS (allL (tdOf ls) k)) w1 (HWK3.out.ext hB) (fits_good HF.out)).mono ?_
       rintro e w3 ⟨v, rfl, ho, hb3⟩
       exact hK _ _ hb3 ho
   · intro ν lo hi w1 hB hS hI hD
     have e0 : ν 0 = (walkV ⟨pa, pn, pc, ba, bn, bc, ta, tc, fa, fc⟩) := hS 0 (by omega)
     have e1 : ν 1 = (.slice a n c) := hS 1 (by omega)
     have e2 : ν 2 = (.int .i64 k) := hS 2 (by omega)
     have e3 := hS 3 (by omega)
     unfold specB at e3
     simp only [List.getD_cons_zero, List.getD_cons_succ, specK] at e3
     have e4 : ν 4 = (.agg (setA (ofS (allL (tdOf ls) k)))) := hS 4 (by omega)
     have hS5 := hS 5 (by omega)
     unfold specB at hS5
     simp only [List.getD_cons_zero, List.getD_cons_succ, specK] at hS5
     clear hS
     simp only [List.drop_succ_cons, List.drop_zero, frameOf, frameGo, List.getD_cons_zero, List.getD_cons_succ, put_some, put_none, List.setIfInBounds_toArray, List.set_cons_succ, List.set_cons_zero, e0, e1, e2, e4]
     have e5 := hS5
     have hl5 := hI 5 (by omega)
     have hsz3 := HB3.out.size
     obtain ⟨v5, hv5⟩ : ∃ v5, v5 = ν 5 := ⟨_, rfl⟩
     rw [← hv5] at e5 ⊢
     have HO := Lib.hid (e5.mono (base' := w.heap.size) (by omega))
     have HBE := Lib.hid (ext_trans HB3.out hB)
     clear e5 hl5 hI hD hB hv5 e0 e1 e2 e4 hS5 hsz3
     go_wp2
     go_ret
     exact ⟨_, rfl, HBE.out, (fun h => by rw [HF.out] at h; cases h), fun _ => HO.out⟩
end
end Go.Proofs.Ytblhmdhfhaencaa
