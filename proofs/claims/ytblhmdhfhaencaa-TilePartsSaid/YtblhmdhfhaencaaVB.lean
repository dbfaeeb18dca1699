/-
 law17's goes, of: a function of blocks, each of which goes where a row says. (Printed by gen_of17.py.)
-/
import Derived.Test.YtblhmdhfhaencaaEO
import Derived.Test.YtblhmdhfhaencaaEV
import Derived.Test.YtblhmdhfhaencaaMarks
namespace Go.Proofs.Ytblhmdhfhaencaa
set_option linter.unusedSimpArgs false
set_option linter.unusedVariables false
set_option linter.unusedSectionVars false
set_option maxRecDepth 100000
set_option maxHeartbeats 40000000
section
open Go.RowKit
attribute [local go_sem] Oper.semAt_some wide_fn wide_depth wide_fnR wide_depthR

theorem size_blk5 : (Try.prog.info? 115).map (·.size) = some 5 := by kernel_rfl
theorem goes17_any (a : Option Addr) (n c : Nat) (xs : List Int) (w : World) (h : Ints w a n xs) (hn : n ≤ 2) :
  Calls Try.prog 77 #[.slice a n c] w fun e w' => e = .returned (.agg (blkC (blkOf xs)).toArray) ∧ Below w.heap.size w w' := by
 obtain ⟨hl, _, hc⟩ := h
 subst hl
 rcases xs with _ | ⟨x, _ | ⟨y, _ | ⟨z, r⟩⟩⟩
 · clear hc hn
   simp only [List.length_nil]
   go_enter Try.func77, Try.ntmps77
   have hz : (w.alloc (.cells #[.slice none 0 0, .int .i64 0, .int .i64 0, .int .i64 0, .int .i64 0] 115)).heap[w.heap.size]? = some (.cells #[.slice none 0 0, .int .i64 0, .int .i64 0, .int .i64 0, .int .i64 0] 115 (0, 0)) := heap_alloc_new _ _
   go_wp2_with (refine wpList_store_row (o := ⟨none, .store 115 _ _, _, _, _, _⟩) rfl 115 _ _ rfl w.heap.size #[.slice none 0 0, .int .i64 3, .int .i64 0, .int .i64 0, .int .i64 0] rfl rfl 115 _ hz size_blk5 rfl (by simp [Value.oneCell']) ?_)
   have hl := run_loadVar_row (P := Try.prog) _ w.heap.size 115 115 _ (0, 0) _ (setRow_heap _ w.heap.size _ #[.slice none 0 0, .int .i64 3, .int .i64 0, .int .i64 0, .int .i64 0] _ _ hz) Try.underlying115 rfl size_blk5
   refine bodyPost_ret (v := .agg (blkC (blkOf [])).toArray) ?_ rfl ⟨rfl, below_setRow (ext_alloc _ _) (Nat.le_refl _) _⟩
   simp [results, Try.results77, asAddr, Act.put, hl, blkC, blkOf, termL]
 · obtain ⟨b, o, rfl, c0, _⟩ := hc 0 (by simp)
   simp only [List.length_cons, List.length_nil, Nat.zero_add, Nat.reduceAdd, Nat.add_zero, List.getD_cons_zero] at c0 ⊢
   have c0 := cell_ext (ext_alloc w (.cells #[.slice none 0 0, .int .i64 0, .int .i64 0, .int .i64 0, .int .i64 0] 115)) c0
   clear hc hn
   go_enter Try.func77, Try.ntmps77
   have hz : (w.alloc (.cells #[.slice none 0 0, .int .i64 0, .int .i64 0, .int .i64 0, .int .i64 0] 115)).heap[w.heap.size]? = some (.cells #[.slice none 0 0, .int .i64 0, .int .i64 0, .int .i64 0, .int .i64 0] 115 (0, 0)) := heap_alloc_new _ _
   go_wp2_with (refine wpList_store_row (o := ⟨none, .store 115 _ _, _, _, _, _⟩) rfl 115 _ _ rfl w.heap.size #[.slice none 0 0, .int .i64 1, .int .i64 0, .int .i64 x, .int .i64 0] rfl rfl 115 _ hz size_blk5 rfl (by simp [Value.oneCell']) ?_)
   have hl := run_loadVar_row (P := Try.prog) _ w.heap.size 115 115 _ (0, 0) _ (setRow_heap _ w.heap.size _ #[.slice none 0 0, .int .i64 1, .int .i64 0, .int .i64 x, .int .i64 0] _ _ hz) Try.underlying115 rfl size_blk5
   refine bodyPost_ret (v := .agg (blkC (blkOf [x])).toArray) ?_ rfl ⟨rfl, below_setRow (ext_alloc _ _) (Nat.le_refl _) _⟩
   simp [results, Try.results77, asAddr, Act.put, hl, blkC, blkOf, termL]
 · obtain ⟨b, o, rfl, c0, _⟩ := hc 0 (by simp)
   obtain ⟨b', o', e, c1, _⟩ := hc 1 (by simp)
   injection e with e
   injection e with e1 e2
   subst e1 e2
   simp only [List.length_cons, List.length_nil, Nat.zero_add, Nat.reduceAdd, Nat.add_zero, List.getD_cons_zero, List.getD_cons_succ] at c0 c1 ⊢
   clear hc hn
   go_enter Try.func77, Try.ntmps77
   have hz : (w.alloc (.cells #[.slice none 0 0, .int .i64 0, .int .i64 0, .int .i64 0, .int .i64 0] 115)).heap[w.heap.size]? = some (.cells #[.slice none 0 0, .int .i64 0, .int .i64 0, .int .i64 0, .int .i64 0] 115 (0, 0)) := heap_alloc_new _ _
   go_upto_region 6 with (fail)
   refine region_free 9 [some 17, some 18, some 19, some 20, some 21, some 22, some 23, some 24, some 25] (by kernel_rfl) (by kernel_rfl) (specB [.val (.slice (some ⟨b, o, none⟩) 2 c), .val (.pointer (some ⟨b, o, none⟩)), .val (.int .i64 x), .val (.slice (some ⟨b, o, none⟩) 2 c), .val (.pointer (some ⟨b, o + 1, none⟩)), .val (.int .i64 y), .val (.agg #[.int .i64 x, .int .i64 y]), .val (.agg #[.int .i64 2, .int .i64 1, .int .i64 x, .int .i64 y]), .val (.agg #[.slice none 0 0, .int .i64 2, .int .i64 1, .int .i64 x, .int .i64 y])]) (specB_mono ?_) ?_ ?_
   · intro k hk
     simp only [List.mem_cons, List.not_mem_nil, or_false] at hk
     rcases hk with rfl | rfl | rfl | rfl | rfl | rfl | rfl | rfl | rfl
     · exact trivial
     · exact trivial
     · exact trivial
     · exact trivial
     · exact trivial
     · exact trivial
     · exact trivial
     · exact trivial
     · exact trivial
   · intro i hi ν lo hi' w1 K hB hD hK
     have hcase : i = 0 ∨ i = 1 ∨ i = 2 ∨ i = 3 ∨ i = 4 ∨ i = 5 ∨ i = 6 ∨ i = 7 ∨ i = 8 := by omega
     clear hi
     rcases hcase with rfl | rfl | rfl | rfl | rfl | rfl | rfl | rfl | rfl
     · clear hD
       refine wpOp_atK rfl rfl ?_
       simp only [frameOf, frameGo, List.getD_cons_zero, List.getD_cons_succ, put_some, put_none, List.setIfInBounds_toArray, List.set_cons_succ, List.set_cons_zero] at hK ⊢
       go_simp
       exact hK _ _ (Below.refl _ _) rfl
     · have e0 := hD 0 (by kernel_rfl)
       replace e0 : ν 0 = (.slice (some ⟨b, o, none⟩) 2 c) := e0
       clear hD
       refine wpOp_atK rfl rfl ?_
       simp only [frameOf, frameGo, List.getD_cons_zero, List.getD_cons_succ, put_some, put_none, List.setIfInBounds_toArray, List.set_cons_succ, List.set_cons_zero, e0] at hK ⊢
       go_simp
       exact hK _ _ (Below.refl _ _) rfl
     · have e1 := hD 1 (by kernel_rfl)
       replace e1 : ν 1 = (.pointer (some ⟨b, o, none⟩)) := e1
       clear hD
       refine wpOp_atK rfl rfl ?_
       simp only [frameOf, frameGo, List.getD_cons_zero, List.getD_cons_succ, put_some, put_none, List.setIfInBounds_toArray, List.set_cons_succ, List.set_cons_zero, e1] at hK ⊢
       have hcl := cell_ext (ext_trans (ext_alloc _ _) hB) c0
       go_simp
       exact hK _ _ (Below.refl _ _) rfl
     · clear hD
       refine wpOp_atK rfl rfl ?_
       simp only [frameOf, frameGo, List.getD_cons_zero, List.getD_cons_succ, put_some, put_none, List.setIfInBounds_toArray, List.set_cons_succ, List.set_cons_zero] at hK ⊢
       go_simp
       exact hK _ _ (Below.refl _ _) rfl
     · have e3 := hD 3 (by kernel_rfl)
       replace e3 : ν 3 = (.slice (some ⟨b, o, none⟩) 2 c) := e3
       clear hD
       refine wpOp_atK rfl rfl ?_
       simp only [frameOf, frameGo, List.getD_cons_zero, List.getD_cons_succ, put_some, put_none, List.setIfInBounds_toArray, List.set_cons_succ, List.set_cons_zero, e3] at hK ⊢
       go_simp
       exact hK _ _ (Below.refl _ _) rfl
     · have e4 := hD 4 (by kernel_rfl)
       replace e4 : ν 4 = (.pointer (some ⟨b, o + 1, none⟩)) := e4
       clear hD
       refine wpOp_atK rfl rfl ?_
       simp only [frameOf, frameGo, List.getD_cons_zero, List.getD_cons_succ, put_some, put_none, List.setIfInBounds_toArray, List.set_cons_succ, List.set_cons_zero, e4] at hK ⊢
       have hcl := cell_ext (ext_trans (ext_alloc _ _) hB) c1
       go_simp
       exact hK _ _ (Below.refl _ _) rfl
     · have e2 := hD 2 (by kernel_rfl)
       replace e2 : ν 2 = (.int .i64 x) := e2
       have e5 := hD 5 (by kernel_rfl)
       replace e5 : ν 5 = (.int .i64 y) := e5
       clear hD
       refine wpOp_atK rfl rfl ?_
       simp only [frameOf, frameGo, List.getD_cons_zero, List.getD_cons_succ, put_some, put_none, List.setIfInBounds_toArray, List.set_cons_succ, List.set_cons_zero, e2, e5] at hK ⊢
       go_simp
       exact hK _ _ (Below.refl _ _) rfl
     · have e6 := hD 6 (by kernel_rfl)
       replace e6 : ν 6 = (.agg #[.int .i64 x, .int .i64 y]) := e6
       clear hD
       refine wpOp_atK rfl rfl ?_
       simp only [frameOf, frameGo, List.getD_cons_zero, List.getD_cons_succ, put_some, put_none, List.setIfInBounds_toArray, List.set_cons_succ, List.set_cons_zero, e6] at hK ⊢
       go_simp
       exact hK _ _ (Below.refl _ _) rfl
     · have e7 := hD 7 (by kernel_rfl)
       replace e7 : ν 7 = (.agg #[.int .i64 2, .int .i64 1, .int .i64 x, .int .i64 y]) := e7
       clear hD
       refine wpOp_atK rfl rfl ?_
       simp only [frameOf, frameGo, List.getD_cons_zero, List.getD_cons_succ, put_some, put_none, List.setIfInBounds_toArray, List.set_cons_succ, List.set_cons_zero, e7] at hK ⊢
       go_simp
       exact hK _ _ (Below.refl _ _) rfl
   · intro ν lo hi w1 hB hS hI hD
     have e0 : ν 0 = (.slice (some ⟨b, o, none⟩) 2 c) := hS 0 (by omega)
     have e1 : ν 1 = (.pointer (some ⟨b, o, none⟩)) := hS 1 (by omega)
     have e2 : ν 2 = (.int .i64 x) := hS 2 (by omega)
     have e3 : ν 3 = (.slice (some ⟨b, o, none⟩) 2 c) := hS 3 (by omega)
     have e4 : ν 4 = (.pointer (some ⟨b, o + 1, none⟩)) := hS 4 (by omega)
     have e5 : ν 5 = (.int .i64 y) := hS 5 (by omega)
     have e6 : ν 6 = (.agg #[.int .i64 x, .int .i64 y]) := hS 6 (by omega)
     have e7 : ν 7 = (.agg #[.int .i64 2, .int .i64 1, .int .i64 x, .int .i64 y]) := hS 7 (by omega)
     have e8 : ν 8 = (.agg #[.slice none 0 0, .int .i64 2, .int .i64 1, .int .i64 x, .int .i64 y]) := hS 8 (by omega)
     clear hS
     simp only [List.drop_succ_cons, List.drop_zero, frameOf, frameGo, List.getD_cons_zero, List.getD_cons_succ, put_some, put_none, List.setIfInBounds_toArray, List.set_cons_succ, List.set_cons_zero, e0, e1, e2, e3, e4, e5, e6, e7, e8]
     clear hI hD e0 e1 e2 e3 e4 e5 e6 e7 e8
     have hz1 := block_ext hB hz
     go_wp2_with (refine wpList_store_row (o := ⟨none, .store 115 _ _, _, _, _, _⟩) rfl 115 _ _ rfl w.heap.size #[.slice none 0 0, .int .i64 2, .int .i64 1, .int .i64 x, .int .i64 y] rfl rfl 115 _ hz1 size_blk5 rfl (by simp [Value.oneCell']) ?_)
     have hl := run_loadVar_row (P := Try.prog) _ w.heap.size 115 115 _ (0, 0) _ (setRow_heap w1 w.heap.size _ #[.slice none 0 0, .int .i64 2, .int .i64 1, .int .i64 x, .int .i64 y] _ _ hz1) Try.underlying115 rfl size_blk5
     refine bodyPost_ret (v := .agg (blkC (blkOf [x, y])).toArray) ?_ rfl ⟨rfl, below_setRow (ext_trans (ext_alloc _ _) hB) (Nat.le_refl _) _⟩
     simp [results, Try.results77, asAddr, Act.put, hl, blkC, blkOf, termL]
 · simp at hn
theorem op_rowBlk {o : Oper} {a : Act} {w : World} {K : Act → World → Prop} {Q : Exit → Act → World → Prop} (x : Operand) (p : BlkH) (ho : o.op = .buildSlice 23 1 #[(0, x)]) (hx : a.eval x = .agg (blkC p).toArray)
  (h : K (a.put o.dst (.slice (some ⟨w.heap.size, 0, none⟩) 1 1)) (w.alloc (.cells (blkC p).toArray 115))) : o.wp Try.prog a w K Q := by
 obtain ⟨ie, hie⟩ : ∃ i, Try.prog.info? 115 = some i := Option.isSome_iff_exists.1 (by kernel_rfl)
 have hs : ie.size = 5 := by have := size_blk5; rw [hie] at this; simpa using this
 obtain ⟨z, hz⟩ : ∃ z, ie.zero = some z := by
  have : (Try.prog.info? 115).map (fun i => i.zero.isSome) = some true := by kernel_rfl
  rw [hie] at this
  exact Option.isSome_iff_exists.1 (by simpa using this)
 refine wp_buildSlice _ 115 1 #[(0, x)] ho (blkC p).toArray ie z Try.underlying23 hie hz (by rw [hs]; omega) (by rw [hs]; omega) ?_ h
 simp only [List.map_toArray, List.map_cons, List.map_nil, hx]
 rw [hs]
 exact fill_one (blkC p) _ (blkC_len p) (by simp)
theorem of17_any (a : Option Addr) (n c : Nat) (rs : List SlR) (w : World) (h : LRows w a n rs) (hn : n ≤ 1000) (h2 : ∀ r ∈ rs, r.xs.length ≤ 2) :
  Calls Try.prog 45 #[.slice a n c] w (OfPost (rs.map (·.xs)) w) := by
 have H := Lib.hid h
 have HLN := Lib.hid h.1.1
 have HT2 := Lib.hid h2
 clear h h2
 go_enter Try.func45, Try.ntmps45
 go_wp2
 go_loopw [4] (fun i wr => ∃ k : Nat, i = .int .i64 k ∧ k ≤ n ∧ Hid (OJ w rs k wr)) (fun i _ => n - (intOf i).toNat)
 case atStart =>
  refine ⟨0, rfl, by omega, .slice none 0 0, ?_, ?_, ?_, OwnR.nil _ _ _ _ _, (((Below.refl _ w).alloc (Nat.le_refl _) _).alloc (by simp) _).alloc (by simp; omega) _⟩
  · exact block_ext (ext_trans (ext_alloc _ _) (ext_alloc _ _)) (heap_alloc_new _ _)
  · have := heap_alloc_new ((w.alloc (.cells #[.slice none 0 0, .slice none 0 0] 25)).alloc (.cells #[.int .i64 1] 3)) (.cells #[.slice (some ⟨w.heap.size + 1, 0, none⟩) 1 1, .slice none 0 0] 25)
    simpa using this
  · have := block_ext (ext_alloc _ (.cells #[.slice (some ⟨w.heap.size + 1, 0, none⟩) 1 1, .slice none 0 0] 25)) (heap_alloc_new (w.alloc (.cells #[.slice none 0 0, .slice none 0 0] 25)) (.cells #[.int .i64 1] 3))
    simpa using this
 case round =>
  obtain ⟨k, rfl, hk, HJ⟩ := hrel
  by_cases hlt : k < n
  · have hlt' : (k : Int) < (n : Int) := by omega
    obtain ⟨v, hz, hf, hpp, hown, hbw⟩ := HJ.out
    obtain ⟨r, b, o, hlr, rfl, cr, hI⟩ := H.out.cells hlt
    have hb0 : b < w.heap.size := World.block_lt_of_cell? _ _ cr
    have cr9 := cell_ext hbw cr
    have hrl := HT2.out r (List.mem_of_getElem? hlr)
    have HI := Lib.hid (hI.ext hbw)
    obtain ⟨av, cv, rfl⟩ := hown.form
    have hlk : ((rs.take k).map fun r => blkOf r.xs).length = k := by simp [HLN.out]; omega
    have hown1 := hown.1
    rw [hlk] at hf hown1
    have hlow : ∀ q, (Value.slice av k cv).ownBlock = some q → w.heap.size + 1 + 1 + 1 ≤ q := fun q hq => by have := (hown1.lt q hq).1; omega
    have hF1 : wr.cell? ⟨w.heap.size + 1 + 1, 1, none⟩ = some (.slice av k cv) := by rw [cell_of_row _ _ _ _ _ _ hf]; rfl
    have hbwr := hbw.size
    have g1 : ∀ n : ClsW (fun W' => wr.grownBy W' (Value.slice av k cv).ownBlock), n.val.cell? ⟨w.heap.size + 1 + 1, 1, none⟩ = some (.slice av k cv) := fun n => by rw [cell_of_row _ _ _ _ _ _ (grown_row n.prop hf (fun e => by have := hlow _ e; omega))]; rfl
    have g2 : ∀ n : ClsW (fun W' => wr.grownBy W' (Value.slice av k cv).ownBlock), n.val.cell? ⟨b, o + k, none⟩ = some (.slice r.sa r.xs.length r.sc) := fun n => n.prop.cell cr9 (fun e => by have h9 : w.heap.size + 1 + 1 + 1 ≤ b := hlow b e.symm; omega)
    have hne : Nonempty (ClsW (fun W' => wr.grownBy W' (Value.slice av k cv).ownBlock)) := cls_ne (grown_same _ _)
    have HLR := Lib.hid hlr
    have HLK := Lib.hid hlk
    have HF := Lib.hid hf
    have HOWN := Lib.hid hown1
    have hbs : w.heap.size + 1 + 1 + 1 ≤ wr.heap.size := by have := lt_of_heap hf; omega
    clear hz hf hpp hown hbw hown1 hlk cr cr9 hI hF1 hlr
    go_upto_region 5 with (fail)
    refine region_mix (fun w' => ∃ n : ClsW (fun W' => wr.grownBy W' (Value.slice av k cv).ownBlock), w' = n.val) [(0, 6, some (6, true)), (7, 0, some (7, true)), (8, 0, some (8, true)), (9, 1, some (10, false))] (by kernel_rfl) (by kernel_rfl) (cls_mk (grown_drew _ _)) ?_
    simp only [wpMix, List.take_succ_cons, List.take_zero, List.drop_succ_cons, List.drop_zero]
    repeat (first
     | go_big_quiet_skip
     | go_big_quiet_step (fail))
    refine wpQuiet_nil ?_
    refine wpOp_at rfl rfl ?_
    go_simp
    refine (goes17_any r.sa r.xs.length r.sc r.xs wr.drew (HI.out.ext (drew_ext wr)) hrl).mono ?_
    rintro e w5 ⟨rfl, hb5⟩
    have hg5 : wr.grownBy w5 (Value.slice av k cv).ownBlock := grown_tr (grown_drew _ _) (grown_below hb5 _)
    refine ⟨cls_mk hg5, ?_⟩
    have HB5 := Lib.hid (unDrew1 hb5)
    have HJ5 : Hid (OJ w rs k w5) := HJ.out.grown (grown_below HB5.out none) (fun q e => by cases e)
    have HOWN5 : Hid (w5.ownsRow (w.heap.size + 1 + 1 + 1) 115 5 (.slice av k cv) k (((rs.take k).map fun r => blkOf r.xs).flatMap blkC)) := HOWN.out.kept (grown_below HB5.out none) (by
     cases h : (Value.slice av k cv).ownBlock with
     | none => exact .inl rfl
     | some q => exact .inr (by simp))
    have HG5 := Lib.hid hg5
    clear hb5 hg5 HJ g2
    try simp only [put_some, List.setIfInBounds_toArray, List.set_cons_succ, List.set_cons_zero]
    refine wpQuiet_nil ?_
    refine wpOp_at rfl rfl ?_
    refine op_rowBlk _ (blkOf r.xs) rfl rfl ?_
    simp only [put_some, List.setIfInBounds_toArray, List.set_cons_succ, List.set_cons_zero]
    refine ⟨cls_mk (grown_tr HG5.out (World.grownBy_alloc _ _ _)), ?_⟩
    refine wpQuiet_nil ?_
    refine wpOp_at rfl rfl ?_
    have hbs5 := HB5.out.size
    refine op_append1 w5 (.tmp 14) (.tmp 20) 23 115 rfl (w.heap.size + 1 + 1 + 1) _ 5 56 Try.underlying23 infoBlk rfl (by omega) (.slice av k cv) _ _ (blkC (blkOf r.xs)) rfl HOWN5.out w5.heap.size rfl rfl rfl (fun u hu => blk_one [blkOf r.xs] u (by simpa using hu)) (by simp only [maxLen]; omega) (by omega) (by omega) ?_
    intro g6 cap w6 hown6 hg6 hat6
    refine ⟨cls_mk (grown_tr HG5.out hg6), ?_⟩
    have hf5 := block_ext HB5.out HF.out
    have hlow5 : (Value.slice av k cv).ownBlock ≠ some (w.heap.size + 1 + 1) := fun e => by have h9 := (HOWN5.out.lt _ e).1; omega
    have hf6 := grown_row hg6 hf5 hlow5
    have hcv6 : w6.cell? ⟨w.heap.size + 1 + 1, 1, none⟩ = some (.slice av k cv) := by rw [cell_of_row _ _ _ _ _ _ hf6]; rfl
    have hfv6 : w6.frozen? ⟨w.heap.size + 1 + 1, 1, none⟩ = false := frozen_of_row _ _ _ _ _ hf6
    have hlt6 := lt_of_heap hf6
    have HST := Lib.hid (OJ.step HJ5.out HLR.out hown6 hg6 hf5 (by omega) HLK.out)
    clear hown6 hg6 hat6 hf5 hf6 hlow5 g1
    try simp only [put_some, List.setIfInBounds_toArray, List.set_cons_succ, List.set_cons_zero]
    repeat (go_big_quiet_step (fail))
    refine wpQuiet_nil ?_
    refine wpOp_at rfl rfl ?_
    go_simp
    refine NoPanic.normal ?_
    clear hcv6 hfv6 hlt6
    generalize w6.setCell ⟨w.heap.size + 1 + 1, 1, none⟩ (.slice (some ⟨g6, 0, none⟩) (k + 1) cap) = w7 at *
    go_wp2
    go_roundw
    case rel => exact ⟨k + 1, by go_num, by omega, HST.out⟩
    case measure => simp [intOf]; omega
  · obtain rfl : k = n := by omega
    obtain ⟨v, hz, hf, hpp, hown, hbw⟩ := HJ.out
    have hlk : ((rs.take k).map fun r => blkOf r.xs) = rs.map fun r => blkOf r.xs := by rw [List.take_of_length_le (by rw [HLN.out]; omega)]
    rw [hlk] at hown
    obtain ⟨av, cv, rfl⟩ := hown.form
    have f0 : wr.cell? ⟨w.heap.size + 1 + 1, 0, none⟩ = some (.slice (some ⟨w.heap.size + 1, 0, none⟩) 1 1) := by rw [cell_of_row _ _ _ _ _ _ hf]; rfl
    have HZ := Lib.hid hz
    have HF := Lib.hid hf
    have HPP := Lib.hid hpp
    have HOWN := Lib.hid hown
    have HBW := Lib.hid hbw
    clear hz hf hpp hown hbw hlk f0
    go_wp2_with (first
     | (refine wpList_load_row (o := ⟨some 23, .load 25 _, _, _, _, _⟩) rfl 25 _ rfl (w.heap.size + 1 + 1) rfl 25 _ (0, 0) _ HF.out Try.underlying25 rfl size_func ?_)
     | (refine wpList_store_row (o := ⟨none, .store 25 _ _, _, _, _, _⟩) rfl 25 _ _ rfl w.heap.size #[.slice (some ⟨w.heap.size + 1, 0, none⟩) 1 1, .slice av (rs.map fun r => blkOf r.xs).length cv] rfl rfl 25 _ HZ.out size_func rfl (by simp [Value.oneCell']) ?_))
    have hl := run_loadVar_row (P := Try.prog) _ w.heap.size 25 25 _ (0, 0) _ (setRow_heap _ _ _ #[.slice (some ⟨w.heap.size + 1, 0, none⟩) 1 1, .slice av (rs.map fun r => blkOf r.xs).length cv] _ _ HZ.out) Try.underlying25 rfl size_func
    have hset := grown_setRow wr w.heap.size #[.slice (some ⟨w.heap.size + 1, 0, none⟩) 1 1, .slice av (rs.map fun r => blkOf r.xs).length cv]
    have eL : (rs.map fun r => blkOf r.xs) = (rs.map (·.xs)).map blkOf := by rw [List.map_map]; rfl
    have eN : (rs.map fun r => blkOf r.xs).length = (rs.map (·.xs)).length := by simp
    have hown := HOWN.out.kept hset (kept_ne fun q hq e => by have := (HOWN.out.low hq).1; injection e with e; omega)
    have hpp := (hset.block _ (Array.getElem?_eq_some_iff.1 HPP.out).1 (fun e => by injection e with e; omega)).trans HPP.out
    have hbel := below_setRow HBW.out (Nat.le_refl _) #[.slice (some ⟨w.heap.size + 1, 0, none⟩) 1 1, .slice av (rs.map fun r => blkOf r.xs).length cv]
    generalize wr.setRow w.heap.size #[.slice (some ⟨w.heap.size + 1, 0, none⟩) 1 1, .slice av (rs.map fun r => blkOf r.xs).length cv] = W9 at *
    refine bodyPost_ret (v := funcV (some ⟨w.heap.size + 1, 0, none⟩) 1 1 av (rs.map fun r => blkOf r.xs).length cv) ?_ rfl ⟨some ⟨w.heap.size + 1, 0, none⟩, 1, av, cv, by rw [eN], ?_, ⟨⟨rfl, .inr ⟨w.heap.size + 1, 1, #[.int .i64 1], rfl, by omega, hpp, Nat.le_refl _, by unfold maxLen; omega, rfl, rfl⟩⟩, fun x hx => ?_, by simp⟩, hbel⟩
    · simp only [List.length_map] at hl
      simp [results, Try.results45, asAddr, Act.put, hl]
    · rw [eN, eL] at hown
      have hge : w.heap.size ≤ w.heap.size + 1 + 1 + 1 := by omega
      exact OwnR.mono (base' := w.heap.size) hown hge
    · have : x = 1 := by simpa using hx
      subst this
      unfold I64; omega
end
end Go.Proofs.Ytblhmdhfhaencaa
