/-
 tile.Build.
-/
import Derived.Test.YtblhmdhfhaencaaQI
import Derived.Test.YtblhmdhfhaencaaQO
import Derived.Test.YtblhmdhfhaencaaLoopF
import Derived.Test.YtblhmdhfhaencaaQT
import Derived.Test.YtblhmdhfhaencaaTI
import Derived.Test.YtblhmdhfhaencaaTA
namespace Go.Proofs.Ytblhmdhfhaencaa
set_option linter.unusedSimpArgs false
set_option linter.unusedVariables false
set_option linter.unusedSectionVars false
set_option maxRecDepth 100000
set_option maxHeartbeats 40000000
section
open Go.RowKit Go.Shelf
attribute [local go_sem] Oper.semAt_some wide_fn wide_depth wide_fnR wide_depthR

theorem infoTile3 : (Try.prog.info? 53).map (fun i => (i.zero, i.size, i.bytes)) = some (some (.agg #[.int .i64 0, .int .i64 0, .slice none 0 0]), 3, 40) := by kernel_rfl
theorem fill_end {tm : Array Value} {ds : List Deferred} {m : Nat} {G : (Nat → Value) → List Deferred → Act} {R : Nat → (Nat → Value) → List Deferred → Prop} (h : (⟨tm, ds⟩ : Act) = G (fun s => tm.getD s undef) ds) (m' : Nat) (hm : m' < m) (hR : R m' (fun s => tm.getD s undef) ds) : ∃ m', m' < m ∧ ∃ u' ds', (⟨tm, ds⟩ : Act) = G u' ds' ∧ R m' u' ds' := ⟨m', hm, _, _, h, hR⟩
def BuildOK (ts : List TermD) (qs : List PartD) : Prop := (partsP ts).Perm qs ∧ sortedK qs
def BuildPost (ts : List TermD) (w : World) (e : Ending) (w' : World) : Prop :=
 (fitsB ts = false → e = .returned (.tuple #[nilV, .int .i64 2])) ∧ (fitsB ts = true → ∃ v ls qs, e = .returned (.tuple #[v, .int .i64 0]) ∧ BuildOK ts qs ∧ TilesIn w' w.heap.size v ls ∧ tdOf ls = tilesP ts.length qs) ∧ Below w.heap.size w w'
abbrev walkZ' : Obj := .cells #[.slice none 0 0, .slice none 0 0, .slice none 0 0, .slice none 0 0] 70
theorem build_no (pa : Option Addr) (pn pc : Nat) (ba : Option Addr) (bn bc : Nat) (bs : List BlkH) (w : World) (h : BlksOK w ba bn bs) (hf : fitsB (tsOf bs) = false) :
  Calls Try.prog 25 #[funcV pa pn pc ba bn bc] w (BuildPost (tsOf bs) w) := by
 have H := Lib.hid h
 have HF := Lib.hid hf
 clear h hf
 go_enter Try.func25, Try.ntmps25
 go_upto_region 1 with (fail)
 obtain ⟨W, hW⟩ : ∃ W, W = w.alloc (funcO pa pn pc ba bn bc) := ⟨_, rfl⟩
 rw [← hW]
 have hk0 : W.heap[w.heap.size]? = some (funcO pa pn pc ba bn bc) := by rw [hW]; exact heap_alloc_new _ _
 have hB : Below w.heap.size w W := by rw [hW]; exact ext_alloc _ _
 have HK := Lib.hid hk0
 have HB := Lib.hid hB
 clear hW hk0 hB
 go_wp2_with (first
  | (refine wpList_load_row (o := ⟨some 15, .load 25 _, _, _, _, _⟩) rfl 25 _ rfl w.heap.size rfl 25 _ (0, 0) _ HK.out Try.underlying25 rfl size_func ?_)
  | (go_at_call 33
     refine (over_any pa pn pc ba bn bc bs W (H.out.ext HB.out)).mono ?_
     rintro e w2 ⟨cs, rfl, hcs, hall, hb, hokk⟩
     rw [HF.out]
     have HB2 := Lib.hid (ext_trans HB.out hb)
     have HCS := Lib.hid hcs
     have HALL := Lib.hid hall
     clear hb hokk hcs hall)
  | (refine wpList_store_row rfl 70 _ _ rfl w2.heap.size cs rfl rfl 70 _ (heap_alloc_new w2 walkZ') (by rw [HCS.out]; exact size_walk) (by rw [HCS.out]; rfl) HALL.out ?_))
 refine bodyPost_ret (v := .tuple #[nilV, .int .i64 2]) (by simp [results, Try.results25, go_sem, Act.put]) rfl ?_
 unfold BuildPost
 refine ⟨fun _ => rfl, ?_, below_setRow (HB2.out.alloc HB2.out.size _) HB2.out.size _⟩
 intro h
 rw [HF.out] at h
 cases h
theorem build_yes (pa : Option Addr) (pn pc : Nat) (ba : Option Addr) (bn bc : Nat) (bs : List BlkH) (w : World) (h : BlksOK w ba bn bs) (hf : fitsB (tsOf bs) = true) (hbn40 : bn ≤ 40) :
  Calls Try.prog 25 #[funcV pa pn pc ba bn bc] w (BuildPost (tsOf bs) w) := by
 have H := Lib.hid h
 have HF := Lib.hid hf
 have hgood := (goodB_iff _).1 (fits_facts hf).1
 have hbn : (tsOf bs).length = bn := by rw [tsOf_len]; exact h.1.1
 have hbn1 : 1 ≤ bn := by rw [← hbn]; exact hgood.1.1
 have hbn2 : bn ≤ 200 := by omega
 have HLN := Lib.hid hbn
 clear h hf hgood hbn
 obtain ⟨ts, hts⟩ : ∃ ts, ts = tsOf bs := ⟨_, rfl⟩
 refine (callsIn_wide (n := 0)).1 ?_
 refine callsIn_of_wp_marks Try.func25 rfl trivial ?_
 simp only [Try.ntmps25, List.size_toArray, List.length_cons, List.length_nil, Nat.reduceAdd, Nat.reduceSub, Array.replicate_succ, Array.replicate_zero, List.push_toArray, List.append_toArray, List.nil_append, List.cons_append]
 refine wpIn_wide.2 ?_
 go_upto_region 1 with (fail)
 obtain ⟨W, hW⟩ : ∃ W, W = w.alloc (funcO pa pn pc ba bn bc) := ⟨_, rfl⟩
 rw [← hW]
 have hk0 : W.heap[w.heap.size]? = some (funcO pa pn pc ba bn bc) := by rw [hW]; exact heap_alloc_new _ _
 have hB : Below w.heap.size w W := by rw [hW]; exact ext_alloc _ _
 have HK := Lib.hid hk0
 have HB := Lib.hid hB
 clear hW hk0 hB
 go_upto_region 4 with (first
  | (refine wpList_load_row (o := ⟨some 15, .load 25 _, _, _, _, _⟩) rfl 25 _ rfl w.heap.size rfl 25 _ (0, 0) _ HK.out Try.underlying25 rfl size_func ?_)
  | (go_at_call 33
     refine (over_any pa pn pc ba bn bc bs W (H.out.ext HB.out)).mono ?_
     rintro e w2 ⟨cs, rfl, hcs, hall, hb, hokk⟩
     rw [HF.out]
     obtain ⟨ta, tc, fa, fc, hcv, hwk⟩ := hokk HF.out
     injection hcv with hcv
     subst hcv
     have HB2 := Lib.hid hb
     have HWK := Lib.hid hwk
     clear hb hokk hcs hall hwk)
  | (refine wpList_store_row rfl 70 _ _ rfl w2.heap.size #[.slice pa pn pc, .slice ba bn bc, .slice ta bn tc, .slice fa bn fc] rfl rfl 70 _ (heap_alloc_new w2 walkZ') size_walk rfl rfl ?_))
 obtain ⟨d, hd⟩ : ∃ d : WalkD, d = ⟨pa, pn, pc, ba, bn, bc, ta, tc, fa, fc⟩ := ⟨_, rfl⟩
 rw [← hd] at HWK
 have hdbn : d.bn = bn := by rw [hd]
 obtain ⟨W3, hW3⟩ : ∃ W3, W3 = w2.alloc (walkO ⟨pa, pn, pc, ba, bn, bc, ta, tc, fa, fc⟩) := ⟨_, rfl⟩
 rw [← hW3]
 have hw3 : W3.heap[w2.heap.size]? = some (walkO d) := by rw [hW3, hd]; exact heap_alloc_new _ _
 have hb3 : Below w2.heap.size w2 W3 := by rw [hW3]; exact ext_alloc _ _
 have HW3 := Lib.hid hw3
 have HB3 := Lib.hid (ext_trans (ext_trans HB.out HB2.out) hb3)
 have HWK3 := Lib.hid (HWK.out.ext hb3)
 have HK3 := Lib.hid (block_ext (ext_trans HB2.out hb3) HK.out)
 have HDD := Lib.hid hd
 clear hW3 hw3 hb3 HWK HB2 HK HB
 go_upto_region 5 with (first
  | (refine wpList_load_row (o := ⟨some 21, .load 70 _, _, _, _, _⟩) rfl 70 _ rfl w2.heap.size rfl 70 _ (0, 0) _ HW3.out Try.underlying70 rfl size_walk ?_))
 obtain ⟨P, hP⟩ : ∃ P, P = W3.heap.size := ⟨_, rfl⟩
 obtain ⟨bv, hbv⟩ : ∃ b, b = W3.heap.size + 1 := ⟨_, rfl⟩
 obtain ⟨W4, hW4⟩ : ∃ W4, W4 = (W3.alloc (.cells #[.slice pa pn pc, .slice ba bn bc, .slice ta bn tc, .slice fa bn fc, .slice none 0 0] 94)).alloc (.cells #[.pointer (some ⟨W3.heap.size, 0, none⟩)] 91) := ⟨_, rfl⟩
 rw [← hW4]
 have hb4 : Below W3.heap.size W3 W4 := by rw [hW4]; exact (ext_alloc _ _).alloc (by simp) _
 have hbd4 : W4.heap[P]? = some (bldO d nilV) := by rw [hW4, hP, hd, Below.heap_alloc _ _ _ (by simp)]; exact heap_alloc_new _ _
 have hbv4 : W4.heap[bv]? = some (.cells #[.pointer (some ⟨P, 0, none⟩)] 91 (0, 0)) := by rw [hW4, hbv, hP]; exact heap_at _ _ _ (by simp)
 have hsz4 : W4.heap.size = W3.heap.size + 1 + 1 := by rw [hW4]; simp
 rw [← hbv, ← hP]
 have HBJ4 : Hid (BldJ W3 d P W4.heap.size nilV [] W4) := ⟨hbd4, OwnR.nil _ _ _ _ _, by omega, Nat.le_refl _, by omega, hb4⟩
 have HW4 := Lib.hid (block_ext hb4 HW3.out)
 have HBV4 := Lib.hid hbv4
 have HK4 := Lib.hid (block_ext hb4 HK3.out)
 have HB4 := Lib.hid (ext_trans HB3.out hb4)
 have hPw : W3.heap.size ≤ P := by omega
 have hbvP : P < bv := by omega
 have hbvs : bv < W4.heap.size := by omega
 clear hW4 hb4 hbd4 hbv4 hsz4 hP hbv hd
 refine region_free 3 [some 24, some 25, some 26] (by kernel_rfl) (by kernel_rfl) (specB [.val (.pointer (some ⟨P, 0, none⟩)), .val (walkV d), .val (.agg (setA (wholeS d.bn)))]) (specB_mono ?_) ?_ ?_
 · intro k hk
   simp only [List.mem_cons, List.not_mem_nil, or_false] at hk
   rcases hk with rfl | rfl | rfl
   · exact trivial
   · exact trivial
   · exact trivial
 · intro i hi ν lo hi' w1 K hB hD hK
   have hcase : i = 0 ∨ i = 1 ∨ i = 2 := by omega
   clear hi
   rcases hcase with rfl | rfl | rfl
   · clear hD
     refine wpOp_atK rfl rfl ?_
     simp only [frameOf, frameGo, List.getD_cons_zero, List.getD_cons_succ, put_some, put_none, List.setIfInBounds_toArray, List.set_cons_succ, List.set_cons_zero] at hK ⊢
     have q1 := cell_ext hB (show W4.cell? ⟨bv, 0, none⟩ = some (.pointer (some ⟨P, 0, none⟩)) by rw [cell_of_row _ _ _ _ _ _ HBV4.out]; rfl)
     go_simp
     exact hK _ _ (Below.refl _ _) rfl
   · clear hD
     refine wpOp_atK rfl rfl ?_
     simp only [frameOf, frameGo, List.getD_cons_zero, List.getD_cons_succ, put_some, put_none, List.setIfInBounds_toArray, List.set_cons_succ, List.set_cons_zero] at hK ⊢
     refine wp_load_row 70 _ rfl w2.heap.size rfl 70 _ (0, 0) _ (block_ext hB HW4.out) Try.underlying70 rfl size_walk ?_
     exact hK _ _ (Below.refl _ _) rfl
   · have e1 := hD 1 (by kernel_rfl)
     replace e1 : ν 1 = (walkV d) := e1
     clear hD
     refine wpOp_atK rfl rfl ?_
     simp only [frameOf, frameGo, List.getD_cons_zero, List.getD_cons_succ, put_some, put_none, List.setIfInBounds_toArray, List.set_cons_succ, List.set_cons_zero, e1] at hK ⊢
     go_simp
     refine (whole_any d (by omega) w1).mono ?_
     rintro e w3 ⟨rfl, hb3⟩
     exact hK _ _ hb3 rfl
 · intro ν lo hi w1 hB hS hI hD
   have e0 : ν 0 = (.pointer (some ⟨P, 0, none⟩)) := hS 0 (by omega)
   have e1 : ν 1 = (walkV d) := hS 1 (by omega)
   have e2 : ν 2 = (.agg (setA (wholeS d.bn))) := hS 2 (by omega)
   clear hS
   simp only [List.drop_succ_cons, List.drop_zero, frameOf, frameGo, List.getD_cons_zero, List.getD_cons_succ, put_some, put_none, List.setIfInBounds_toArray, List.set_cons_succ, List.set_cons_zero, e0, e1, e2]
   have HBJ5 := Lib.hid (HBJ4.out.ext' hB)
   have HBV5 := Lib.hid (block_ext hB HBV4.out)
   have HK5 := Lib.hid (block_ext hB HK4.out)
   have HB5 := Lib.hid (ext_trans HB4.out hB)
   have hsz5 : W4.heap.size ≤ w1.heap.size := hB.size
   have HHF : Hid (fitsB ts = true) := by rw [Hid, hts]; exact HF.out
   have HLT : Hid (ts.length = bn) := by rw [Hid, hts]; exact HLN.out
   have HWKT : Hid (WalkOK W3 d ts) := by rw [Hid, hts]; exact HWK3.out
   have HLL : Hid (([] : List PartD).length + (loopsP ts 201 (wholeS ts.length)).length ≤ 1000) := by
    have := loops_le HHF.out
    rw [Hid, List.length_nil]
    omega
   have HWL : Hid ((listS (wholeS ts.length)).length < 201) := by
    have := List.length_filter_le (wholeS ts.length) (List.range 200)
    rw [List.length_range] at this
    rw [Hid, listS]
    omega
   have HDB : Hid (d.bn = ts.length) := hdbn.trans HLT.out.symm
   clear hI hD hB e0 e1 e2 HBJ4 HBV4 HK4 HB4 HW4 hdbn
   obtain ⟨L0, hL0⟩ : ∃ L, L = loopsP ts 201 (wholeS ts.length) := ⟨_, rfl⟩
   have HL0 := Lib.hid hL0
   have HL0l : Hid (L0.length ≤ 200) := by rw [Hid, hL0]; exact loops_le HHF.out
   clear hL0
   have HPL : Hid ((partsP ts).length + 1 ≤ bn) := by rw [Hid, ← HLT.out]; exact parts_len HHF.out
   have HPS : Hid (∀ p ∈ partsP ts, listS p.s ≠ [] ∧ firstP p < 200 ∧ p.s (firstP p) = true ∧ firstP p < ts.length ∧ Canon p.s) := parts_listS (by rw [HLT.out]; exact hbn2) (parts_ok HHF.out)
   have HPP : Hid (partsP ts = L0 ++ condsP ts L0) := by rw [Hid, partsP, HL0.out]
   have HCALL : Hid (Calls Try.prog 50 #[.pointer (some ⟨P, 0, none⟩), .agg (setA (wholeS d.bn))] w1 (BldPost W3 d P W4.heap.size nilV w1 ([] ++ loopsP ts 201 (wholeS ts.length)))) := by
    have h := loops_any W3 d ts HWKT.out HHF.out P W4.heap.size 201 (wholeS ts.length) nilV [] w1 (whole_canon (by have := HLT.out; omega)) (fun y hy => by simpa [wholeS] using hy) HLL.out HWL.out HBJ5.out
    rw [Hid, HDB.out]
    exact h
   have hwW3 : w.heap.size < W3.heap.size := lt_of_heap HK3.out
   go_upto_region 8 with (first
    | (go_at_call 50
       refine HCALL.out.mono ?_
       rintro e w6 ⟨rfl, v6, hj6, hc6, hv6⟩
       rw [List.nil_append, ← HL0.out] at hj6
       have hbv6 := hc6.row HBV5.out (fun hs => by rcases hs with h | h <;> first | omega | cases h)
       have HK6 := Lib.hid (hc6.row HK5.out (fun hs => by rcases hs with h | h <;> first | omega | cases h))
       have HBJ6 := Lib.hid hj6
       have HBV6 := Lib.hid hbv6
       have HC6 := Lib.hid hc6
       have q6 : w6.cell? ⟨bv, 0, none⟩ = some (.pointer (some ⟨P, 0, none⟩)) := (by rw [cell_of_row _ _ _ _ _ _ hbv6]; rfl)
       clear hj6 hc6 hv6 hbv6)
    | (go_at_call 52
       refine (conds_any W3 d ts HWKT.out HHF.out P W4.heap.size v6 L0 w6 (by rw [HL0.out]; exact loops_canon HHF.out) (by have := HL0l.out; omega) HBJ6.out).mono ?_
       rintro e w7 ⟨rfl, v7, hj7, hc7, hv7⟩
       rw [← HPP.out] at hj7
       have hbv7 := hc7.row HBV6.out (fun hs => by
        rcases hs with h | h
        · omega
        · have := (HBJ6.out.own h).1; omega)
       have HK7 := Lib.hid (hc7.row HK6.out (fun hs => by
        rcases hs with h | h
        · omega
        · have := (HBJ6.out.own h).1; omega))
       have HBJ7 := Lib.hid hj7
       have HBV7 := Lib.hid hbv7
       have HC7 := Lib.hid hc7
       have q7 : w7.cell? ⟨bv, 0, none⟩ = some (.pointer (some ⟨P, 0, none⟩)) := (by rw [cell_of_row _ _ _ _ _ _ hbv7]; rfl)
       have p7 := hj7.cell
       clear hj7 hc7 hv7 hbv7 q6)
    | (go_at_call 53
       refine (sortParts_any P W4.heap.size bv d v7 (partsP ts) w7 HBV7.out HBJ7.out.bld HBJ7.out.parts (by have := HPL.out; omega) (fun p hp => (HPS.out p hp).1) (fun p hp => by have := (HPS.out p hp).2.1; omega)).mono ?_
       rintro e w8 ⟨rfl, qs, hp8, hperm, hsort, hc8⟩
       have HP8 := Lib.hid hp8
       have HPERM := Lib.hid hperm
       have HSORT := Lib.hid hsort
       have HC8 := Lib.hid hc8
       clear hp8 hperm hsort hc8 q7 p7))
   have hwP : w.heap.size < P := by omega
   generalize W4.heap.size = base at *
   have hlow7 : ∀ q, v7.ownBlock = some q → base ≤ q ∧ q < w7.heap.size := fun q hq => HBJ7.out.own hq
   have hw7 : base ≤ w7.heap.size := HBJ7.out.bs
   have hw8 : base ≤ w8.heap.size := Nat.le_trans hw7 HC8.out.size
   have HK8 := Lib.hid (HC8.out.row HK7.out (fun hs => by have := (hlow7 _ hs).1; omega))
   have HBV8 := Lib.hid (HC8.out.row HBV7.out (fun hs => by have := (hlow7 _ hs).1; omega))
   have HBL8 := Lib.hid (HC8.out.row HBJ7.out.bld (fun hs => by have := (hlow7 _ hs).1; omega))
   have HE8 : Hid (Below W3.heap.size W3 w8) := HBJ7.out.ext.trans (HC8.out.below (B := W3.heap.size) (by omega) (fun q hq => by have := (hlow7 q hq).1; omega))
   obtain ⟨pa7, pc7, hv7f⟩ := OwnR.form HP8.out
   obtain ⟨m, hm⟩ : ∃ m, m = qs.length := ⟨_, rfl⟩
   rw [← hm] at hv7f
   subst hv7f
   have hml : m + 1 ≤ bn := by rw [hm, ← HPERM.out.length_eq]; exact HPL.out
   have HM := Lib.hid hm
   clear hm HC6 HC7 HC8 HK7 HBV7 HBJ7 HK6 HBV6 HBJ6 HBJ5 HBV5 HK5 hlow7
   go_upto_region 9 with (fail)
   obtain ⟨W9, hW9⟩ : ∃ W9, W9 = w8.alloc (.cells #[.int .i64 1, .int .i64 (-1), .slice none 0 0] 53) := ⟨_, rfl⟩
   rw [← hW9]
   obtain ⟨T0, hT0⟩ : ∃ T, T = w8.heap.size := ⟨_, rfl⟩
   rw [← hT0]
   have hb9 : Below w8.heap.size w8 W9 := by rw [hW9]; exact ext_alloc _ _
   have ht9 : W9.heap[T0]? = some (.cells #[.int .i64 1, .int .i64 (-1), .slice none 0 0] 53 (0, 0)) := by rw [hW9, hT0]; exact heap_alloc_new _ _
   have i1 : I64 1 := by unfold I64; omega
   have im : I64 (-1) := by unfold I64; omega
   have hti9 : TilesIn W9 base (.slice (some ⟨T0, 0, none⟩) 1 1) [⟨⟨1, -1, []⟩, none, 0, 0⟩] := tiles_one W9 T0 ⟨⟨1, -1, []⟩, none, 0, 0⟩ ht9 base (by omega) (OwnI.nil _ _) ⟨i1, im⟩ (fun e => by cases e)
   have k9 : W9.cell? ⟨w.heap.size, 1, none⟩ = some (.slice ba bn bc) := by rw [cell_of_row _ _ _ _ _ _ (block_ext hb9 HK8.out)]; rfl
   have hbs9 : base ≤ W9.heap.size := Nat.le_trans hw8 hb9.size
   have HTI9 := Lib.hid hti9
   have HP9 := Lib.hid (PartsIn.ext HP8.out hb9)
   have HBV9 := Lib.hid (block_ext hb9 HBV8.out)
   have HBL9 := Lib.hid (block_ext hb9 HBL8.out)
   have HK9 := Lib.hid (block_ext hb9 HK8.out)
   have HE9 := Lib.hid (HE8.out.trans (hb9.mono HE8.out.size))
   obtain ⟨i0, hi, hz0, hz1, hz2⟩ := info_parts (P := Try.prog) infoI
   clear hW9 hb9 ht9 i1 im hti9 HP8 HBV8 HBL8 HK8 HE8 hw8 hw7 hT0
   go_upto_region 10 with (
    (at_make
     refine wpList_make_full W9 rfl _ _ 22 rfl base 3 i0 (.int .i64 0) 1 Try.underlying22 hi hz0 hz1 .i64 .i64 _ _ bn rfl rfl rfl rfl (by rw [hz2]; omega) (by simp only [maxLen]; omega) hbs9 ?_
     intro w10 hown10 hg10
     have HOWN10 := Lib.hid hown10
     have HG10 := Lib.hid hg10
     clear hown10 hg10))
   obtain ⟨ob, hob⟩ : ∃ b, b = w10.heap.size := ⟨_, rfl⟩
   obtain ⟨og, hog⟩ : ∃ b, b = W9.heap.size := ⟨_, rfl⟩
   obtain ⟨W11, hW11⟩ : ∃ W, W = w10.alloc (.cells #[.slice (some ⟨og, 0, none⟩) bn bn] 22) := ⟨_, rfl⟩
   rw [← hog, ← hob, ← hW11]
   have hg11 : w10.grownBy W11 none := by rw [hW11]; exact World.grownBy_alloc _ _ _
   have hb10 : Below W9.heap.size W9 w10 := ⟨HG10.out.os, HG10.out.tape, HG10.out.output, HG10.out.size, fun k hk => HG10.out.block k hk (by simp)⟩
   have hb11 : Below W9.heap.size W9 W11 := by rw [hW11]; exact ext_trans hb10 (ext_alloc _ _)
   have hown11 : OwnI W11 base (.slice (some ⟨og, 0, none⟩) bn bn) (ownK bn qs 0) := by
    have e : (madeCells (Value.int .i64 0).cells (bn * 1)).toList = intVals (List.replicate bn 0) := by
     have : (Value.int .i64 0).cells = #[.int .i64 0] := rfl
     rw [this, toList_madeCells_one, Nat.mul_one]
     simp [intVals]
    have h1 := HOWN10.out.kept hg11 (.inr (by simp [Value.ownBlock]))
    rw [e, ← hog] at h1
    rw [ownK_zero]
    refine ⟨by rw [List.length_replicate]; exact h1, fun x hx => ?_, by rw [List.length_replicate]; omega⟩
    rw [List.eq_of_mem_replicate hx]
    unfold I64; omega
   have hc11 : W11.heap[ob]? = some (.cells #[.slice (some ⟨og, 0, none⟩) bn bn] 22 (0, 0)) := by rw [hW11, hob]; exact heap_alloc_new _ _
   have HBD0 : Hid (BdJ W3 base (.slice pa7 m pc7) qs ob og bn (ownK bn qs 0) (.slice (some ⟨T0, 0, none⟩) 1 1) [⟨⟨1, -1, []⟩, none, 0, 0⟩] W11) :=
    ⟨PartsIn.ext HP9.out hb11, hc11, hown11, HTI9.out.ext hb11, (fun t ht e2 => by (have e : t = ⟨⟨1, -1, []⟩, none, 0, 0⟩ := (by simpa using ht)); rw [e] at e2; cases e2), HE9.out.trans (hb11.mono HE9.out.size), Nat.le_trans hbs9 hb11.size, by omega⟩
   have q11 : W11.cell? ⟨bv, 0, none⟩ = some (.pointer (some ⟨P, 0, none⟩)) := by rw [cell_of_row _ _ _ _ _ _ (block_ext hb11 HBV9.out)]; rfl
   have p11 : W11.cell? ⟨P, 4, none⟩ = some (.slice pa7 m pc7) := by rw [cell_of_row _ _ _ _ _ _ (block_ext hb11 HBL9.out)]; rfl
   have HB11 := Lib.hid hb11
   clear hW11 hg11 hb10 hb11 hown11 hc11 hob hog HOWN10 HG10 HTI9 HP9 HBV9 HBL9 HK9 HE9 hi hz0 hz1 hz2 k9
   go_wp2
   refine (wpIn_wide (n := 0)).1 ?_
   refine wpIn_loop_fill [7, 9, 10, 11, 47, 48, 49, 50, 51, 52, 53, 54, 55, 56, 57, 58, 59, 60, 61, 62, 63, 64, 65, 66, 67, 68, 69, 70, 71, 72, 73, 74] (fun r u ds W => ∃ (k : Nat) (out : Value) (ls : List TileR), r = m - k ∧ k ≤ m ∧ u 47 = .int .i64 (k : Int) ∧ u 7 = out ∧ Hid (BdJ W3 base (.slice pa7 m pc7) qs ob og bn (ownK bn qs k) out ls W) ∧ Hid (tdOf ls = tilesK qs k) ∧ Hid (Marks base W.heap.size ds W)) m ?_ ?_
   · exact ⟨0, _, _, rfl, by omega, rfl, rfl, HBD0, rfl, Marks.nil _ _ _⟩
   · rintro r u ds Wr ⟨k, out, ls, rfl, hk, e47, e7, HBD, HTD, HMK⟩
     clear HBD0 q11 p11
     refine wpIn_wide.2 ?_
     simp only [fillAct, List.foldl_cons, List.foldl_nil, List.setIfInBounds_toArray, List.set_cons_succ, List.set_cons_zero, e47, e7]
     by_cases hlt : k < m
     · have hlt' : (k : Int) < (m : Int) := by omega
       obtain ⟨pg, rfl⟩ : ∃ g, pa7 = some ⟨g, 0, none⟩ := by
        obtain ⟨g, c', e⟩ := own_form HBD.out.parts.1 (by have := HM.out; omega)
        injection e with e _ _
        exact ⟨g, e⟩
       have hr := part_range HBD.out.parts hlt
       obtain ⟨q, hq⟩ : ∃ q, q = qs.getD k zPart := ⟨_, rfl⟩
       rw [← hq] at hr
       have HQ := Lib.hid hq
       clear hq e47 e7
       go_upto_region 13 with (first
        | (refine wpList_load_mid rfl 99 _ rfl pg (k * 202) rfl (partC q) _ hr Try.underlying99 rfl (size_partC _) ?_)
        | (refine wpList_store_row rfl 99 _ _ rfl (Wr.heap.size + 1) (partC q).toArray rfl rfl 99 Try.zeroCells99 (heap_at _ _ _ (by simp)) (size_partA _) (by rw [zero_part, List.size_toArray, partC_len]) (all_oneCell_toArray (partC_one _)) ?_))
       obtain ⟨W12, hW12⟩ : ∃ W, W = ((Wr.alloc (.cells #[.int .i64 (k : Int)] 3)).alloc (.cells Try.zeroCells99 99)).setRow (Wr.heap.size + 1) (partC q).toArray := ⟨_, rfl⟩
       rw [← hW12, put_none]
       have hb12 : Below Wr.heap.size Wr W12 := by rw [hW12]; exact below_setRow ((ext_alloc _ _).alloc (by simp) _) (by omega) _
       have hk12 : W12.heap[Wr.heap.size]? = some (.cells #[.int .i64 (k : Int)] 3 (0, 0)) := by rw [hW12, setRow_other _ _ _ _ (by omega), Below.heap_alloc _ _ _ (by simp)]; exact heap_alloc_new _ _
       have hp12 : W12.heap[Wr.heap.size + 1]? = some (partO q) := by rw [hW12]; exact setRow_heap _ _ _ _ _ _ (heap_at _ _ _ (by simp))
       have hsz12 : W12.heap.size = Wr.heap.size + 1 + 1 := by rw [hW12]; simp
       have HBD12 := Lib.hid (HBD.out.ext' hb12)
       have HOWNR := Lib.hid HBD.out.own
       have HK12 := Lib.hid hk12
       have HP12 := Lib.hid hp12
       have HMK12 := Lib.hid ((HMK.out.mono (hi' := W12.heap.size) (by omega)).keep (Keep.ext hb12))
       obtain ⟨kb, hkb⟩ : ∃ b, b = Wr.heap.size := ⟨_, rfl⟩
       rw [← hkb] at HK12 HP12 ⊢
       have hkbs : kb + 1 < W12.heap.size := by omega
       have hkb0 : base ≤ kb := by have := HBD.out.bs; omega
       have HKB := Lib.hid hkb
       clear hW12 hb12 hk12 hp12 hsz12 HBD HMK hr hkb
       obtain ⟨oa, oc, hof⟩ := HBD12.out.tiles.own.form
       have hll : ls.length = k + 1 := by have := congrArg List.length HTD.out; rw [tilesK_len] at this; simpa [tdOf] using this
       rw [hll] at hof
       subst hof
       have hqm : q ∈ partsP ts := by
        rw [HPERM.out.mem_iff, HQ.out]
        have hk2 : k < qs.length := by rw [← HM.out]; exact hlt
        rw [List.getD_eq_getElem?_getD, List.getElem?_eq_getElem hk2]
        exact List.getElem_mem _
       obtain ⟨hqne, hq200, hqin, hqn, hqc⟩ := HPS.out q hqm
       have hkd := (parts_ok HHF.out).kind q hqm
       obtain ⟨fp, hfp⟩ : ∃ x, x = firstP q := ⟨_, rfl⟩
       obtain ⟨lp, hlp⟩ : ∃ x, x = lastP qs fp k := ⟨_, rfl⟩
       have hfn : fp < bn := by rw [hfp, ← HLT.out]; exact hqn
       have hfn' : (fp : Int) < (bn : Int) := by omega
       have hll' := HLT.out
       have hlpk : lp ≤ k := by rw [hlp]; exact lastP_le qs fp k
       have hof : W12.cell? ⟨og, fp, none⟩ = some (.int .i64 (lp : Int)) := by
        obtain ⟨b, o, e, hc, _⟩ := HBD12.out.own.ints.2.2 fp hfn
        injection e with e
        injection e with e1 e2
        subst e1 e2
        rw [Nat.zero_add, ownK_at _ _ _ _ hfn, ← hlp] at hc
        exact hc
       have HOGK : Hid (og < kb) := by obtain ⟨cur, hcur⟩ := own_heap HOWNR.out; have := lt_of_heap hcur; rw [Hid, HKB.out]; exact this
       have HLOW : Hid (∀ y, q.s y = true → y < bn) := fun y hy => by have := ((parts_ok HHF.out).low q hqm y hy).2; omega
       have HOF := Lib.hid hof
       have HQNE := Lib.hid hqne
       have HQC := Lib.hid hqc
       have HKD := Lib.hid hkd
       have HFP := Lib.hid hfp
       have HLP := Lib.hid hlp
       have HLL := Lib.hid hll
       clear hof hqm hqne hq200 hqin hqn hqc hkd hfp hlp hll hll'
       refine region_free 13 [some 52, some 53, some 54, some 55, some 56, some 57, some 58, some 59, some 60, some 61, some 62, some 63, some 64] (by kernel_rfl) (by kernel_rfl) (specB [.val (.slice oa (k + 1) oc), .val (.pointer (some ⟨kb + 1, 200, none⟩)), .val (.int .i64 q.kind), .val (.slice (some ⟨og, 0, none⟩) bn bn), .val (.pointer (some ⟨kb + 1, 0, none⟩)), .val (.agg (setA q.s)), (.any fun v lo hi W => ∃ g5 n5 c5, v = .slice (some ⟨g5, 0, none⟩) n5 c5 ∧ 0 < n5 ∧ W.cell? ⟨g5, 0, none⟩ = some (.int .i64 (fp : Int))), (.any fun v lo hi W => ∃ g5, v = .pointer (some ⟨g5, 0, none⟩) ∧ W.cell? ⟨g5, 0, none⟩ = some (.int .i64 (fp : Int))), .val (.int .i64 (fp : Int)), .val (.pointer (some ⟨og, fp, none⟩)), .val (.int .i64 (lp : Int)), .val (.agg #[.int .i64 q.kind, .int .i64 (lp : Int), .slice none 0 0]), (.any fun v lo hi W => ∃ B9, v = .slice (some ⟨B9, 0, none⟩) 1 1 ∧ W.heap[B9]? = some (.cells #[.int .i64 q.kind, .int .i64 (lp : Int), .slice none 0 0] 53 (0, 0)))]) (specB_mono ?_) ?_ ?_
       · intro k hk
         simp only [List.mem_cons, List.not_mem_nil, or_false] at hk
         rcases hk with rfl | rfl | rfl | rfl | rfl | rfl | rfl | rfl | rfl | rfl | rfl | rfl | rfl
         · exact trivial
         · exact trivial
         · exact trivial
         · exact trivial
         · exact trivial
         · exact trivial
         · intro v lo hi w w' hb ⟨g5, n5, c5, e, hn, hc⟩; exact ⟨g5, n5, c5, e, hn, cell_ext hb hc⟩
         · intro v lo hi w w' hb ⟨g5, e, hc⟩; exact ⟨g5, e, cell_ext hb hc⟩
         · exact trivial
         · exact trivial
         · exact trivial
         · exact trivial
         · intro v lo hi w w' hb ⟨B9, e, hc⟩; exact ⟨B9, e, block_ext hb hc⟩
       · intro i hi ν lo hi' w1 K hB hD hK
         have hcase : i = 0 ∨ i = 1 ∨ i = 2 ∨ i = 3 ∨ i = 4 ∨ i = 5 ∨ i = 6 ∨ i = 7 ∨ i = 8 ∨ i = 9 ∨ i = 10 ∨ i = 11 ∨ i = 12 := by omega
         clear hi
         rcases hcase with rfl | rfl | rfl | rfl | rfl | rfl | rfl | rfl | rfl | rfl | rfl | rfl | rfl
         · clear hD
           refine wpOp_atK rfl rfl ?_
           simp only [frameOf, frameGo, List.getD_cons_zero, List.getD_cons_succ, put_some, put_none, List.setIfInBounds_toArray, List.set_cons_succ, List.set_cons_zero] at hK ⊢
           go_simp
           exact hK _ _ (Below.refl _ _) rfl
         · clear hD
           refine wpOp_atK rfl rfl ?_
           simp only [frameOf, frameGo, List.getD_cons_zero, List.getD_cons_succ, put_some, put_none, List.setIfInBounds_toArray, List.set_cons_succ, List.set_cons_zero] at hK ⊢
           go_simp
           exact hK _ _ (Below.refl _ _) rfl
         · have e1 := hD 1 (by kernel_rfl)
           replace e1 : ν 1 = (.pointer (some ⟨kb + 1, 200, none⟩)) := e1
           clear hD
           refine wpOp_atK rfl rfl ?_
           simp only [frameOf, frameGo, List.getD_cons_zero, List.getD_cons_succ, put_some, put_none, List.setIfInBounds_toArray, List.set_cons_succ, List.set_cons_zero, e1] at hK ⊢
           have hcl := (partK_cell (block_ext hB HP12.out)).1
           go_simp
           exact hK _ _ (Below.refl _ _) rfl
         · clear hD
           refine wpOp_atK rfl rfl ?_
           simp only [frameOf, frameGo, List.getD_cons_zero, List.getD_cons_succ, put_some, put_none, List.setIfInBounds_toArray, List.set_cons_succ, List.set_cons_zero] at hK ⊢
           have hcl : w1.cell? ⟨ob, 0, none⟩ = some (.slice (some ⟨og, 0, none⟩) bn bn) := (by rw [cell_of_row _ _ _ _ _ _ (block_ext hB HBD12.out.cell)]; rfl)
           go_simp
           exact hK _ _ (Below.refl _ _) rfl
         · clear hD
           refine wpOp_atK rfl rfl ?_
           simp only [frameOf, frameGo, List.getD_cons_zero, List.getD_cons_succ, put_some, put_none, List.setIfInBounds_toArray, List.set_cons_succ, List.set_cons_zero] at hK ⊢
           go_simp
           exact hK _ _ (Below.refl _ _) rfl
         · have e4 := hD 4 (by kernel_rfl)
           replace e4 : ν 4 = (.pointer (some ⟨kb + 1, 0, none⟩)) := e4
           clear hD
           refine wpOp_atK rfl rfl ?_
           simp only [frameOf, frameGo, List.getD_cons_zero, List.getD_cons_succ, put_some, put_none, List.setIfInBounds_toArray, List.set_cons_succ, List.set_cons_zero, e4] at hK ⊢
           refine wp_load_mid 78 _ rfl (kb + 1) 0 rfl (setA q.s).toList _ (part_set0 (block_ext hB HP12.out)) Try.underlying78 rfl (by rw [Array.length_toList, setA_size]; exact size_set) ?_
           exact hK _ _ (Below.refl _ _) (show Value.agg (setA q.s).toList.toArray = .agg (setA q.s) by simp)
         · have e5 := hD 5 (by kernel_rfl)
           replace e5 : ν 5 = (.agg (setA q.s)) := e5
           clear hD
           refine wpOp_atK rfl rfl ?_
           simp only [frameOf, frameGo, List.getD_cons_zero, List.getD_cons_succ, put_some, put_none, List.setIfInBounds_toArray, List.set_cons_succ, List.set_cons_zero, e5] at hK ⊢
           go_simp
           refine (list_any q.s w1).mono ?_
           rintro e w3 ⟨vl, rfl, ho, hb3⟩
           obtain ⟨g5, n5, c5, rfl, hn5, hcell⟩ := own_head ho HQNE.out
           exact hK _ _ hb3 ⟨g5, n5, c5, rfl, hn5, by rw [HFP.out]; exact hcell⟩
         · have e6 := hD 6 (by kernel_rfl)
           unfold specB at e6
           simp only [List.getD_cons_zero, List.getD_cons_succ, specK] at e6
           clear hD
           refine wpOp_atK rfl rfl ?_
           simp only [frameOf, frameGo, List.getD_cons_zero, List.getD_cons_succ, put_some, put_none, List.setIfInBounds_toArray, List.set_cons_succ, List.set_cons_zero] at hK ⊢
           obtain ⟨g5, n5, c5, e6', hn5, hcell⟩ := e6
           simp only [e6'] at hK ⊢
           have hn5' : (0 : Int) < (n5 : Int) := (by omega)
           go_simp
           exact hK _ _ (Below.refl _ _) ⟨g5, rfl, hcell⟩
         · have e7 := hD 7 (by kernel_rfl)
           unfold specB at e7
           simp only [List.getD_cons_zero, List.getD_cons_succ, specK] at e7
           clear hD
           refine wpOp_atK rfl rfl ?_
           simp only [frameOf, frameGo, List.getD_cons_zero, List.getD_cons_succ, put_some, put_none, List.setIfInBounds_toArray, List.set_cons_succ, List.set_cons_zero] at hK ⊢
           obtain ⟨g5, e7', hcell⟩ := e7
           simp only [e7'] at hK ⊢
           go_simp
           exact hK _ _ (Below.refl _ _) rfl
         · have e3 := hD 3 (by kernel_rfl)
           replace e3 : ν 3 = (.slice (some ⟨og, 0, none⟩) bn bn) := e3
           have e8 := hD 8 (by kernel_rfl)
           replace e8 : ν 8 = (.int .i64 (fp : Int)) := e8
           clear hD
           refine wpOp_atK rfl rfl ?_
           simp only [frameOf, frameGo, List.getD_cons_zero, List.getD_cons_succ, put_some, put_none, List.setIfInBounds_toArray, List.set_cons_succ, List.set_cons_zero, e3, e8] at hK ⊢
           go_simp
           exact hK _ _ (Below.refl _ _) rfl
         · have e9 := hD 9 (by kernel_rfl)
           replace e9 : ν 9 = (.pointer (some ⟨og, fp, none⟩)) := e9
           clear hD
           refine wpOp_atK rfl rfl ?_
           simp only [frameOf, frameGo, List.getD_cons_zero, List.getD_cons_succ, put_some, put_none, List.setIfInBounds_toArray, List.set_cons_succ, List.set_cons_zero, e9] at hK ⊢
           have hcl := cell_ext hB HOF.out
           go_simp
           exact hK _ _ (Below.refl _ _) rfl
         · have e2 := hD 2 (by kernel_rfl)
           replace e2 : ν 2 = (.int .i64 q.kind) := e2
           have e10 := hD 10 (by kernel_rfl)
           replace e10 : ν 10 = (.int .i64 (lp : Int)) := e10
           clear hD
           refine wpOp_atK rfl rfl ?_
           simp only [frameOf, frameGo, List.getD_cons_zero, List.getD_cons_succ, put_some, put_none, List.setIfInBounds_toArray, List.set_cons_succ, List.set_cons_zero, e2, e10] at hK ⊢
           go_simp
           exact hK _ _ (Below.refl _ _) rfl
         · have e11 := hD 11 (by kernel_rfl)
           replace e11 : ν 11 = (.agg #[.int .i64 q.kind, .int .i64 (lp : Int), .slice none 0 0]) := e11
           clear hD
           refine wpOp_atK rfl rfl ?_
           simp only [frameOf, frameGo, List.getD_cons_zero, List.getD_cons_succ, put_some, put_none, List.setIfInBounds_toArray, List.set_cons_succ, List.set_cons_zero, e11] at hK ⊢
           go_simp
           exact hK _ _ (ext_alloc _ _) ⟨_, rfl, heap_alloc_new _ _⟩
       · intro ν lo hi w1 hB hS hI hD
         have e0 : ν 0 = (.slice oa (k + 1) oc) := hS 0 (by omega)
         have e1 : ν 1 = (.pointer (some ⟨kb + 1, 200, none⟩)) := hS 1 (by omega)
         have e2 : ν 2 = (.int .i64 q.kind) := hS 2 (by omega)
         have e3 : ν 3 = (.slice (some ⟨og, 0, none⟩) bn bn) := hS 3 (by omega)
         have e4 : ν 4 = (.pointer (some ⟨kb + 1, 0, none⟩)) := hS 4 (by omega)
         have e5 : ν 5 = (.agg (setA q.s)) := hS 5 (by omega)
         have e6 := hS 6 (by omega)
         unfold specB at e6
         simp only [List.getD_cons_zero, List.getD_cons_succ, specK] at e6
         have e7 := hS 7 (by omega)
         unfold specB at e7
         simp only [List.getD_cons_zero, List.getD_cons_succ, specK] at e7
         have e8 : ν 8 = (.int .i64 (fp : Int)) := hS 8 (by omega)
         have e9 : ν 9 = (.pointer (some ⟨og, fp, none⟩)) := hS 9 (by omega)
         have e10 : ν 10 = (.int .i64 (lp : Int)) := hS 10 (by omega)
         have e11 : ν 11 = (.agg #[.int .i64 q.kind, .int .i64 (lp : Int), .slice none 0 0]) := hS 11 (by omega)
         have e12 := hS 12 (by omega)
         unfold specB at e12
         simp only [List.getD_cons_zero, List.getD_cons_succ, specK] at e12
         clear hS
         simp only [List.drop_succ_cons, List.drop_zero, frameOf, frameGo, List.getD_cons_zero, List.getD_cons_succ, put_some, put_none, List.setIfInBounds_toArray, List.set_cons_succ, List.set_cons_zero, e0, e1, e2, e3, e4, e5, e8, e9, e10, e11]
         obtain ⟨B9, e12', h12⟩ := e12
         simp only [e12']
         have HBD13 := Lib.hid (HBD12.out.ext' hB)
         have HK13 := Lib.hid (block_ext hB HK12.out)
         have HP13 := Lib.hid (block_ext hB HP12.out)
         have HMK13 := Lib.hid ((HMK12.out.mono hB.size).keep (Keep.ext hB))
         have hsz13 := hB.size
         have HB9 := Lib.hid h12
         have hbs13 := HBD13.out.bs
         have hown13 := HBD13.out.tiles.own.1
         rw [HLL.out] at hown13
         have HOWN13 := Lib.hid hown13
         clear hI hD hB e0 e1 e2 e3 e4 e5 e6 e7 e8 e9 e10 e11 e12' h12 HBD12 HK12 HP12 HMK12 HOF hown13
         refine wpList_appendR w1 rfl (.tmp 52) (.tmp 64) 26 53 rfl base _ 3 40 Try.underlying26 infoTile3 rfl (by omega) (.slice oa (k + 1) oc) (k + 1) _ rfl HOWN13.out (some ⟨B9, 0, none⟩) 1 1 rfl [.int .i64 q.kind, .int .i64 (lp : Int), .slice none 0 0] rfl (fun j u hu => ⟨_, rfl, by rw [show (⟨B9, 0, none⟩ : Addr).add j = ⟨B9, 0 + j, none⟩ by simp only [Addr.add]; split <;> simp_all, cell_of_row _ _ _ _ _ _ HB9.out, Nat.zero_add]; simpa using hu⟩) (fun u hu => by simp at hu; rcases hu with rfl | rfl | rfl <;> rfl) (by simp only [maxLen]; omega) (by omega) hbs13 ?_
         intro v14 w14 hown14 hg14 hat14
         have HOWN14 := Lib.hid hown14
         have HG14 := Lib.hid hg14
         have HAT14 := Lib.hid hat14
         clear hown14 hg14 hat14
         have hkeep14 : Keep w1 w14 := Keep.grown HG14.out (fun j o e ho => by
          rcases HOWN13.out.2 with ⟨h, _⟩ | ⟨g', cap', cur, h, _, hg', _⟩
          · rw [h] at e; cases e
          · rw [h] at e
            simp only [Value.ownBlock, Option.some.injEq] at e
            subst e
            rw [hg'] at ho
            cases ho
            rfl)
         have ik : I64 q.kind := by unfold I64; rcases HKD.out with h | h | h <;> rw [h] <;> omega
         have il : I64 (lp : Int) := by unfold I64; omega
         have HBD14 := Lib.hid (HBD13.out.add (v' := v14) ⟨⟨q.kind, (lp : Int), []⟩, none, 0, 0⟩ rfl rfl rfl rfl ⟨ik, il⟩ HG14.out (by rw [HLL.out]; exact HOWN14.out) (by
          rcases HAT14.out with h | h
          · exact .inl h
          · exact .inr ⟨_, h, Nat.le_refl _⟩) (by have := HLL.out; omega))
         have HTD14 : Hid (tdOf (ls ++ [⟨⟨q.kind, (lp : Int), []⟩, none, 0, 0⟩]) = tilesK qs (k + 1)) := by
          rw [Hid, td_app, HTD.out, tilesK_succ, tileK, ← HQ.out, ← HFP.out, ← HLP.out]
         obtain ⟨ls14, hls14⟩ : ∃ x, x = ls ++ [(⟨⟨q.kind, (lp : Int), []⟩, none, 0, 0⟩ : TileR)] := ⟨_, rfl⟩
         rw [← hls14] at HBD14 HTD14
         have HK14 := Lib.hid (grown_row HG14.out HK13.out (own_other HOWN13.out HK13.out (by decide)))
         have HP14 := Lib.hid (grown_row HG14.out HP13.out (own_other HOWN13.out HP13.out (by decide)))
         have HMK14 := Lib.hid ((HMK13.out.mono HG14.out.size).keep hkeep14)
         clear ik il hls14 hkeep14 HBD13 HK13 HP13 HMK13 HOWN13 HOWN14 HG14 HAT14 HB9 HTD hsz13 hbs13
         go_wp2_with (go_at_call 59; refine (each_any _ _).mono ?_; rintro e w' ⟨rfl, rfl⟩)
         obtain ⟨eb, heb⟩ : ∃ b, b = w14.heap.size := ⟨_, rfl⟩
         obtain ⟨w15, hw15⟩ : ∃ W, W = w14.alloc (.cells #[.pointer (some ⟨kb + 1, 0, none⟩)] 141) := ⟨_, rfl⟩
         rw [← hw15, ← heb]
         have hb15 : Below w14.heap.size w14 w15 := by rw [hw15]; exact ext_alloc _ _
         have he15 : w15.heap[eb]? = some (.cells #[.pointer (some ⟨kb + 1, 0, none⟩)] 141 (0, 0)) := by rw [hw15, heb]; exact heap_alloc_new _ _
         have hsz15 : W3.heap.size ≤ w15.heap.size := by have := HBD14.out.bs; have := hb15.size; have := HBD14.out.w0; omega
         have hkb15 : kb + 1 < w15.heap.size := by have := lt_of_heap HP14.out; have := hb15.size; omega
         have hogk : og < kb := HOGK.out
         have HST : Hid (BdJ W3 base (.slice (some ⟨pg, 0, none⟩) m pc7) qs ob og bn (ownKd bn qs k []) v14 ls14 w15 ∧ w15.heap[kb]? = some (.cells #[.int .i64 (k : Int)] 3 (0, 0)) ∧ w15.heap[kb + 1]? = some (partO q) ∧ w15.heap[eb]? = some (.cells #[.pointer (some ⟨kb + 1, 0, none⟩)] 141 (0, 0)) ∧ Marks base w15.heap.size ds w15) :=
          ⟨by rw [ownKd_nil]; exact HBD14.out.ext' hb15, block_ext hb15 HK14.out, block_ext hb15 HP14.out, he15, (HMK14.out.mono hb15.size).keep (Keep.ext hb15)⟩
         have HOGE : Hid (og < eb) := by have h1 := lt_of_heap HP14.out; rw [Hid, heb]; omega
         clear hw15 hb15 he15 heb HBD14 HK14 HP14 HMK14
         refine (wpIn_wide (n := 0)).1 ?_
         refine range_listN (ps := #[68]) (gf := 89) (lb := #[.pointer (some ⟨eb, 0, none⟩)]) (enc := encN) (l := listS q.s) rfl enter_each _ (each_iterC q.s eb (kb + 1)) (fun _ => rfl)
          (fun dn r W => Hid (BdJ W3 base (.slice (some ⟨pg, 0, none⟩) m pc7) qs ob og bn (ownKd bn qs k dn) v14 ls14 W ∧ W.heap[kb]? = some (.cells #[.int .i64 (k : Int)] 3 (0, 0)) ∧ W.heap[kb + 1]? = some (partO q) ∧ W.heap[eb]? = some (.cells #[.pointer (some ⟨kb + 1, 0, none⟩)] 141 (0, 0)) ∧ Marks base w15.heap.size ds W)) (fun _ _ => False)
          (fun dn r => (BdJ.steady hsz15).and ((Steady.block _ _ rfl).and ((Steady.block _ _ rfl).and ((Steady.block _ _ rfl).and (Steady.marks (Nat.le_refl _) _))))) (fun c => Steady.pure _ _)
          (fun dn r W h => ⟨by rw [cell_of_row _ _ _ _ _ _ h.out.2.2.2.1]; rfl, fun j hj => part_cell h.out.2.2.1 hj⟩) HST ?round ?done ?stop
         case stop => rintro D c Wx hD h; exact h.elim
         case round =>
          rintro lq dn x r W hd hJ
          unfold encN
          gi_wp2
          refine ⟨Keep.refl _, hJ, ?_⟩
          clear hJ lq W
          rintro lq W hlq ⟨rc, hrc⟩ hJ
          have hxin : q.s x = true := (mem_listS HQC.out x).1 (by rw [hd]; simp)
          have hxn : x < bn := HLOW.out x hxin
          obtain ⟨cur, hcur⟩ := own_heap hJ.out.1.own
          have hfz : W.frozen? ⟨og, x, none⟩ = false := frozen_of_row _ _ _ _ _ hcur
          have c1 : W.cell? ⟨ob, 0, none⟩ = some (.slice (some ⟨og, 0, none⟩) bn bn) := by rw [cell_of_row _ _ _ _ _ _ hJ.out.1.cell]; rfl
          have c2 : W.cell? ⟨kb, 0, none⟩ = some (.int .i64 (k : Int)) := by rw [cell_of_row _ _ _ _ _ _ hJ.out.2.1]; rfl
          obtain ⟨y9, c3⟩ : ∃ y : Int, W.cell? ⟨og, x, none⟩ = some (.int .i64 y) := by
           obtain ⟨b, o, e, hc, _⟩ := hJ.out.1.own.ints.2.2 x hxn
           injection e with e
           injection e with e1 e2
           subst e1 e2
           rw [Nat.zero_add] at hc
           exact ⟨_, hc⟩
          have hogW := lt_of_heap hcur
          have hxn' : (x : Int) < (bn : Int) := by omega
          have HN : Hid (BdJ W3 base (.slice (some ⟨pg, 0, none⟩) m pc7) qs ob og bn (ownKd bn qs k (dn ++ [x])) v14 ls14 (W.setCell ⟨og, x, none⟩ (.int .i64 ((k : Int) + 1))) ∧ (W.setCell ⟨og, x, none⟩ (.int .i64 ((k : Int) + 1))).heap[kb]? = some (.cells #[.int .i64 (k : Int)] 3 (0, 0)) ∧ (W.setCell ⟨og, x, none⟩ (.int .i64 ((k : Int) + 1))).heap[kb + 1]? = some (partO q) ∧ (W.setCell ⟨og, x, none⟩ (.int .i64 ((k : Int) + 1))).heap[eb]? = some (.cells #[.pointer (some ⟨kb + 1, 0, none⟩)] 141 (0, 0)) ∧ Marks base w15.heap.size ds (W.setCell ⟨og, x, none⟩ (.int .i64 ((k : Int) + 1)))) := by
           obtain ⟨j1, j2, j3, j4, j5⟩ := hJ.out
           have g := grown_setCell W og x (.int .i64 ((k : Int) + 1))
           have hge := HOGE.out
           refine ⟨?_, grown_row g j2 (fun e => by injection e with e; omega), grown_row g j3 (fun e => by injection e with e; omega), grown_row g j4 (fun e => by injection e with e; omega), j5.keep (Keep.setCell _ _ _)⟩
           rw [← ownKd_snoc _ _ _ _ _ hxn, show ((k + 1 : Nat) : Int) = (k : Int) + 1 by omega]
           exact j1.put x (by unfold I64; omega)
          clear hJ hcur hd
          gi_wp2
          exact ⟨Keep.setCell _ _ _, HN⟩
         case done =>
          rintro D W hD hJ hK
          have hj9 := hJ.out.1
          rw [HQ.out, ownKd_end _ _ _ (by rw [← HQ.out]; exact HQC.out)] at hj9
          have HBD9 := Lib.hid hj9
          have HMK9 : Hid (Marks base W.heap.size (markD D :: ds) W) := hJ.out.2.2.2.2.cons hD (by have := HBD9.out.bs; have := lt_of_heap hJ.out.2.2.1; omega) (lt_of_heap hK) hK
          clear hj9 hJ hK HST
          dsimp only
          go_wp2
          refine fill_end (m := m - k) (by kernel_rfl) (m - (k + 1)) (by omega) ?_
          refine ⟨k + 1, v14, ls14, rfl, by omega, ?_, rfl, HBD9, HTD14, HMK9⟩
          show Value.int .i64 _ = _
          go_num
     · obtain rfl : k = m := by omega
       have hlt' : ¬ (k : Int) < (k : Int) := by omega
       clear e47 e7 hlt hk
       obtain ⟨oa, oc, hof⟩ := HBD.out.tiles.own.form
       have hll : ls.length = k + 1 := by have := congrArg List.length HTD.out; rw [tilesK_len] at this; simpa [tdOf] using this
       rw [hll] at hof
       subst hof
       obtain ⟨tg, rfl⟩ : ∃ g, oa = some ⟨g, 0, none⟩ := by
        obtain ⟨g, c', e⟩ := own_form HBD.out.tiles.own.1 (by omega)
        injection e with e _ _
        exact ⟨g, e⟩
       have c0 : Wr.cell? ⟨ob, 0, none⟩ = some (.slice (some ⟨og, 0, none⟩) bn bn) := by rw [cell_of_row _ _ _ _ _ _ HBD.out.cell]; rfl
       have HTJ0 : Hid (tdOf ls = tilesJ qs 0) := by rw [Hid, tilesJ_zero, ← HM.out]; exact HTD.out
       clear hll HTD
       go_wp2
       go_loopw [77] (fun s77 wr => ∃ (j : Nat) (ls2 : List TileR), j ≤ bn ∧ s77 = .int .i64 (j : Int) ∧ Hid (BdJ W3 base (.slice pa7 k pc7) qs ob og bn (ownK bn qs k) (.slice (some ⟨tg, 0, none⟩) (k + 1) oc) ls2 wr) ∧ Hid (tdOf ls2 = tilesJ qs j) ∧ Hid (Marks base wr.heap.size ds wr)) (fun s77 _ => bn - (intOf s77).toNat)
       case atStart => exact ⟨0, ls, by omega, by go_num, HBD, HTJ0, HMK⟩
       case round =>
        obtain ⟨j, ls2, hj, rfl, HBJ, HTJ, HMJ⟩ := hrel
        clear HBD HTJ0 HMK c0
        by_cases hlt : j < bn
        · have hlt' : (j : Int) < (bn : Int) := by omega
          obtain ⟨lp, hlp⟩ : ∃ x, x = lastP qs j k := ⟨_, rfl⟩
          have hlpk : lp ≤ k := by rw [hlp]; exact lastP_le qs j k
          have hlpq : lastP qs j qs.length = lp := by rw [← HM.out, hlp]
          have cO : wr.cell? ⟨ob, 0, none⟩ = some (.slice (some ⟨og, 0, none⟩) bn bn) := by rw [cell_of_row _ _ _ _ _ _ HBJ.out.cell]; rfl
          have cJ : wr.cell? ⟨og, j, none⟩ = some (.int .i64 (lp : Int)) := by
           obtain ⟨b, o, e, hc, _⟩ := HBJ.out.own.ints.2.2 j hlt
           injection e with e
           injection e with e1 e2
           subst e1 e2
           rw [Nat.zero_add, ownK_at _ _ _ _ hlt, ← hlp] at hc
           exact hc
          obtain ⟨t, b9, o9, ht, _, e9, _, _, cB⟩ := HBJ.out.tiles.ok.cells (k := lp) (by omega)
          injection e9 with e9
          injection e9 with e1 e2
          subst e1 e2
          rw [Nat.zero_add] at cB
          have hlpk' : (lp : Int) < ((k + 1 : Nat) : Int) := by omega
          have HBT := Lib.hid (HBJ.out.tiles.each t (List.mem_of_getElem? ht)).1
          have htd : (tilesJ qs j)[lp]? = some t.d := by rw [← HTJ.out, tdOf, List.getElem?_map, ht]; rfl
          have HTN : Hid (tilesJ qs (j + 1) = (tilesJ qs j).set lp ⟨t.d.kind, t.d.parent, t.d.blocks ++ [(j : Int)]⟩) := by
           have := tilesJ_succ qs j t.d (by rw [hlpq]; exact htd)
           rw [hlpq] at this
           exact this.symm
          have HTB : Hid (t.d.blocks.length ≤ j) := tilesJ_blocks qs j lp t.d htd
          have HLPQ := Lib.hid ht
          obtain ⟨tcur, htg⟩ : ∃ cur, wr.heap[tg]? = some (.cells cur 53 (0, 0)) := by
           rcases HBJ.out.tiles.own.1.2 with ⟨h1, _⟩ | ⟨g4, cap4, cur4, h1, _, hg4, _⟩
           · cases h1
           · injection h1 with h1
             injection h1 with h1
             injection h1 with h1
             subst h1
             exact ⟨cur4, hg4⟩
          have hbne : (bsV t).ownBlock ≠ some tg := own_other HBT.out.1 htg (by decide)
          have HTG := Lib.hid htg
          have HBN := Lib.hid hbne
          have HCB := Lib.hid cB
          clear hlp hlpq htd ht htg hbne
          go_wp2_with (
           (at_builtin
            go_loud (refine wpList_append1I rfl wr (.tmp 88) (.tmp 90) 22 rfl base _ 8 Try.underlying22 infoI rfl (bsV t) t.d.blocks rfl HBT.out (j : Int) (by unfold I64; omega) wr.heap.size rfl rfl (by have := HTB.out; omega) (by omega) HBJ.out.bs ?_)
            intro g9 cap9 w9 ho9 hg9 hat9
            have htg9 := grown_row hg9 HTG.out HBN.out
            have c9 : w9.cell? ⟨tg, lp * 3 + 2, none⟩ = some (.slice t.ba t.bn t.bc) := (by rw [cell_of_row _ _ _ _ _ _ htg9, ← cell_of_row _ _ _ _ _ _ HTG.out]; exact HCB.out)
            have f9 : w9.frozen? ⟨tg, lp * 3 + 2, none⟩ = false := frozen_of_row _ _ _ _ _ htg9
            have hk9 : Keep wr w9 := Keep.grown hg9 (fun i o e ho => by
             rcases HBT.out.1.2 with ⟨h, _⟩ | ⟨g', cap', cur, h, _, hg', _⟩
             · rw [h] at e; cases e
             · rw [h] at e
               simp only [Value.ownBlock, Option.some.injEq] at e
               subst e
               rw [hg'] at ho
               cases ho
               rfl)
            obtain ⟨t', ht'⟩ : ∃ x : TileR, x = ⟨⟨t.d.kind, t.d.parent, t.d.blocks ++ [(j : Int)]⟩, some ⟨g9, 0, none⟩, t.d.blocks.length + 1, cap9⟩ := ⟨_, rfl⟩
            have hbv : bsV t' = .slice (some ⟨g9, 0, none⟩) (t.d.blocks.length + 1) cap9 := (by rw [ht'])
            have hj9 := HBJ.out.turn (t' := t') HLPQ.out hg9 (by rw [hbv, ht']; exact ho9) (by rw [ht']; exact ⟨rfl, rfl⟩) (by
             rw [hbv]
             rcases hat9 with h | h
             · exact .inl h
             · exact .inr ⟨g9, rfl, by omega⟩)
            rw [hbv] at hj9
            have HJ9 := Lib.hid hj9
            have HT9 : Hid (tdOf (ls2.set lp t') = tilesJ qs (j + 1)) := (by rw [Hid, td_set, HTJ.out, HTN.out, ht'])
            have HM9 : Hid (Marks base (w9.setCell ⟨tg, lp * 3 + 2, none⟩ (.slice (some ⟨g9, 0, none⟩) (t.d.blocks.length + 1) cap9)).heap.size ds (w9.setCell ⟨tg, lp * 3 + 2, none⟩ (.slice (some ⟨g9, 0, none⟩) (t.d.blocks.length + 1) cap9))) :=
             ((HMJ.out.mono (Nat.le_trans hg9.size (by simp))).keep hk9).keep (Keep.setCell _ _ _)
            clear ho9 hg9 hat9 htg9 hk9 ht' hbv hj9))
          go_roundw
          case rel => exact ⟨j + 1, _, by omega, by go_num, HJ9, HT9, HM9⟩
          case measure => simp [intOf]; omega
        · obtain rfl : j = bn := by omega
          go_wp2
          refine leaves_marks (by simp) (lo := base) (hi := wr.heap.size) (fun W => BdJ W3 base (.slice pa7 k pc7) qs ob og j (ownK j qs k) (.slice (some ⟨tg, 0, none⟩) (k + 1) oc) ls2 W) (BdJ.steady (by omega)) (fun W hj => ?_) ds wr HMJ.out HBJ.out
          refine ⟨.tuple #[.slice (some ⟨tg, 0, none⟩) (k + 1) oc, .int .i64 0], by simp [results, Try.results25, go_sem], ?_⟩
          have hb3 := HB3.out
          refine ⟨fun hf => ?_, fun _ => ⟨_, ls2, qs, rfl, ⟨by rw [← hts]; exact HPERM.out, HSORT.out⟩, hj.tiles.mono (Nat.le_trans hb3.size hj.w0), ?_⟩, hb3.trans (hj.ext.mono hb3.size)⟩
          · rw [HF.out] at hf; cases hf
          · rw [HTJ.out, tilesJ_end, HLN.out]
theorem build_any (pa : Option Addr) (pn pc : Nat) (ba : Option Addr) (bn bc : Nat) (bs : List BlkH) (w : World) (h : BlksOK w ba bn bs) (hbn40 : bn ≤ 40 ∨ 200 < bn) :
  Calls Try.prog 25 #[funcV pa pn pc ba bn bc] w (BuildPost (tsOf bs) w) := by
 by_cases hf : fitsB (tsOf bs) = true
 · refine build_yes pa pn pc ba bn bc bs w h hf ?_
   rcases hbn40 with h1 | h1
   · exact h1
   · have hg := ((goodB_iff _).1 (fits_facts hf).1).1
     have hbn : (tsOf bs).length = bn := by rw [tsOf_len]; exact h.1.1
     omega
 · exact build_no pa pn pc ba bn bc bs w h (by simpa using hf)
end
end Go.Proofs.Ytblhmdhfhaencaa
