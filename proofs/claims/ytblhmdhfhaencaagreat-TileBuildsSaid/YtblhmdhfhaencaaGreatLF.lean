/-
  law18's own awake.
-/
import Derived.Test.YtblhmdhfhaencaaGreatEO
import Derived.Test.YtblhmdhfhaencaaGreatVP
import Derived.Test.YtblhmdhfhaencaaGreatBR
import Derived.Test.YtblhmdhfhaencaaGreatTR
import Derived.Test.YtblhmdhfhaencaaGreatQH
import Derived.Test.YtblhmdhfhaencaaGreatQR
import Derived.Test.YtblhmdhfhaencaaGreatEL
import Derived.Test.YtblhmdhfhaencaaGreatQueue
namespace Go.Proofs.YtblhmdhfhaencaaGreat
set_option linter.unusedSimpArgs false
set_option linter.unusedVariables false
set_option linter.unusedSectionVars false
set_option maxRecDepth 100000
set_option maxHeartbeats 40000000
section
open Go.RowKit
attribute [local go_sem] Oper.semAt_some wide_fn wide_depth wide_fnR wide_depthR
theorem intsLit {W : World} {g : Nat} {xs : List Int} {n : Nat} (h : W.heap[g]? = some (.cells (intVals xs).toArray 3 (0, 0))) (hn : xs.length = n) (hx : ∀ x ∈ xs, I64 x) (hl : n ≤ 1000) : Ints W (some ⟨g, 0, none⟩) n xs := by
  subst hn
  refine ⟨rfl, by omega, fun k hk => ⟨g, 0, rfl, ?_, hx _ ?_⟩⟩
  · rw [cell_of_row _ _ _ _ _ _ h, Nat.zero_add];simp [intVals, List.getD_eq_getElem?_getD, hk]
  · rw [List.getD_eq_getElem?_getD, List.getElem?_eq_getElem hk]; exact List.getElem_mem _
def awRs (g : Nat) : List SlR := [⟨[1], some ⟨g, 0, none⟩, 1⟩, ⟨[1, 2], some ⟨g + 1, 0, none⟩, 2⟩, ⟨[], none, 0⟩]
theorem i64s (l : List Int) (h : ∀ x ∈ l, -1000 ≤ x ∧ x ≤ 1000 := by decide) : ∀ x ∈ l, I64 x := fun x hx => by have := h x hx; unfold I64; omega
theorem aw_lrows (w : World) (W : World) (h : W = ((w.alloc (.cells #[.int .i64 1] 3)).alloc (.cells #[.int .i64 1, .int .i64 2] 3)).alloc (.cells #[.slice (some ⟨w.heap.size, 0, none⟩) 1 1, .slice (some ⟨w.heap.size + 1, 0, none⟩) 2 2, .slice none 0 0] 22)) :
    LRows W (some ⟨w.heap.size + 1 + 1, 0, none⟩) 3 (awRs w.heap.size) ∧ Below w.heap.size w W := by
  have h0 : W.heap[w.heap.size]? = some (.cells #[.int .i64 1] 3 (0, 0)) := by rw [h]; exact block_ext (ext_trans (ext_alloc _ _) (ext_alloc _ _)) (heap_alloc_new _ _)
  have h1 : W.heap[w.heap.size + 1]? = some (.cells #[.int .i64 1, .int .i64 2] 3 (0, 0)) := by rw [h]; have := block_ext (ext_alloc _ (.cells #[.slice (some ⟨w.heap.size, 0, none⟩) 1 1, .slice (some ⟨w.heap.size + 1, 0, none⟩) 2 2, .slice none 0 0] 22)) (heap_alloc_new (w.alloc (.cells #[.int .i64 1] 3)) (.cells #[.int .i64 1, .int .i64 2] 3)); simpa using this
  have h2 : W.heap[w.heap.size + 1 + 1]? = some (.cells #[.slice (some ⟨w.heap.size, 0, none⟩) 1 1, .slice (some ⟨w.heap.size + 1, 0, none⟩) 2 2, .slice none 0 0] 22 (0, 0)) := by rw [h]; have := heap_alloc_new ((w.alloc (.cells #[.int .i64 1] 3)).alloc (.cells #[.int .i64 1, .int .i64 2] 3)) (.cells #[.slice (some ⟨w.heap.size, 0, none⟩) 1 1, .slice (some ⟨w.heap.size + 1, 0, none⟩) 2 2, .slice none 0 0] 22); simpa using this
  refine ⟨⟨⟨rfl, by omega, fun k x hx => ⟨w.heap.size + 1 + 1, 0, rfl, fun j hj => ?_⟩⟩, fun r hr => ?_⟩, by rw [h]; exact (((Below.refl _ w).alloc (Nat.le_refl _) _).alloc (by simp) _).alloc (by simp; omega) _⟩
  · obtain rfl : j = 0 := by omega
    rw [cell_of_row _ _ _ _ _ _ h2]
    match k, hx with
    | 0, hx => injection hx with hx; subst hx; rfl
    | 1, hx => injection hx with hx; subst hx; rfl
    | 2, hx => injection hx with hx; subst hx; rfl
    | k + 3, hx => simp [awRs] at hx
  · simp only [awRs, List.mem_cons, List.not_mem_nil, or_false] at hr;rcases hr with rfl | rfl | rfl
    · exact intsLit (xs := [1]) h0 rfl (i64s [1]) (by simp)
    · exact intsLit (xs := [1, 2]) h1 rfl (i64s [1, 2]) (by simp)
    · exact ⟨rfl, by simp, fun k hk => absurd hk (by simp)⟩
def awTiles (g : Nat) : List TileR := [⟨⟨1, -1, [0, 2]⟩, some ⟨g, 0, none⟩, 2, 2⟩, ⟨⟨2, 0, [1]⟩, some ⟨g + 1, 0, none⟩, 1, 1⟩]
theorem aw_tiles (w : World) (W : World) (h : W = ((w.alloc (.cells #[.int .i64 0, .int .i64 2] 3)).alloc (.cells #[.int .i64 1] 3)).alloc (.cells #[.int .i64 1, .int .i64 (-1), .slice (some ⟨w.heap.size, 0, none⟩) 2 2, .int .i64 2, .int .i64 0, .slice (some ⟨w.heap.size + 1, 0, none⟩) 1 1] 76)) :
    TilesOK W (some ⟨w.heap.size + 1 + 1, 0, none⟩) 2 (awTiles w.heap.size) ∧ Below w.heap.size w W := by
  have h0 : W.heap[w.heap.size]? = some (.cells #[.int .i64 0, .int .i64 2] 3 (0, 0)) := by rw [h]; exact block_ext (ext_trans (ext_alloc _ _) (ext_alloc _ _)) (heap_alloc_new _ _)
  have h1 : W.heap[w.heap.size + 1]? = some (.cells #[.int .i64 1] 3 (0, 0)) := by
    rw [h];have := block_ext (ext_alloc _ (.cells #[.int .i64 1, .int .i64 (-1), .slice (some ⟨w.heap.size, 0, none⟩) 2 2, .int .i64 2, .int .i64 0, .slice (some ⟨w.heap.size + 1, 0, none⟩) 1 1] 76)) (heap_alloc_new (w.alloc (.cells #[.int .i64 0, .int .i64 2] 3)) (.cells #[.int .i64 1] 3));simpa using this
  have h2 : W.heap[w.heap.size + 1 + 1]? = some (.cells #[.int .i64 1, .int .i64 (-1), .slice (some ⟨w.heap.size, 0, none⟩) 2 2, .int .i64 2, .int .i64 0, .slice (some ⟨w.heap.size + 1, 0, none⟩) 1 1] 76 (0, 0)) := by
    rw [h];have := heap_alloc_new ((w.alloc (.cells #[.int .i64 0, .int .i64 2] 3)).alloc (.cells #[.int .i64 1] 3)) (.cells #[.int .i64 1, .int .i64 (-1), .slice (some ⟨w.heap.size, 0, none⟩) 2 2, .int .i64 2, .int .i64 0, .slice (some ⟨w.heap.size + 1, 0, none⟩) 1 1] 76);simpa using this
  refine ⟨⟨⟨rfl, by omega, fun k x hx => ⟨w.heap.size + 1 + 1, 0, rfl, fun j hj => ?_⟩⟩, fun t ht => ?_⟩, by rw [h]; exact (((Below.refl _ w).alloc (Nat.le_refl _) _).alloc (by simp) _).alloc (by simp; omega) _⟩
  · rw [cell_of_row _ _ _ _ _ _ h2]
    match k, hx, j, hj with
    | 0, hx, 0, _ => injection hx with hx; subst hx; rfl
    | 0, hx, 1, _ => injection hx with hx; subst hx; rfl
    | 0, hx, 2, _ => injection hx with hx; subst hx; rfl
    | 1, hx, 0, _ => injection hx with hx; subst hx; rfl
    | 1, hx, 1, _ => injection hx with hx; subst hx; rfl
    | 1, hx, 2, _ => injection hx with hx; subst hx; rfl
    | k + 2, hx, _, _ => simp [awTiles] at hx
    | _, _, j + 3, hj => omega
  · simp only [awTiles, List.mem_cons, List.not_mem_nil, or_false] at ht;rcases ht with rfl | rfl
    · exact ⟨intsLit (xs := [0, 2]) h0 rfl (i64s [0, 2]) (by simp), by simp, by show I64 1; unfold I64; omega, by show I64 (-1); unfold I64; omega⟩
    · exact ⟨intsLit (xs := [1]) h1 rfl (i64s [1]) (by simp), by simp, by show I64 2; unfold I64; omega, by show I64 0; unfold I64; omega⟩
theorem blks_own {w : World} {base : Nat} {ba : Option Addr} {bc : Nat} {L : List (List Int)} (h : OwnR 73 5 blkC w base (.slice ba L.length bc) (L.map blkOf)) (hL : ∀ l ∈ L, ∀ x ∈ l, I64 x) : BlksOK w ba L.length (L.map blkOf) := by
  refine ⟨h.recs blkC_len, fun b hb => ?_⟩
  obtain ⟨l, hl, rfl⟩ := List.mem_map.1 hb
  have hx := hL l hl
  have i0 : I64 0 := by unfold I64; omega
  have i1 : I64 1 := by unfold I64; omega
  have i2 : I64 2 := by unfold I64; omega
  have i3 : I64 3 := by unfold I64; omega
  match l, hx with
  | [], _ => exact ⟨i3, i0, i0, i0⟩
  | [x], hx => exact ⟨i1, i0, hx x (by simp), i0⟩
  | [x, y], hx => exact ⟨i2, i1, hx x (by simp), hx y (by simp)⟩
  | x :: y :: z :: l, _ => exact ⟨i3, i0, i0, i0⟩
end

section
open Go.RowKit
attribute [local go_sem] Oper.semAt_some wide_fn wide_depth wide_fnR wide_depthR
theorem size_blk5 : (Tryz.prog.info? 73).map (·.size) = some 5 := by kernel_rfl
theorem goes17_any (a : Option Addr) (n c : Nat) (xs : List Int) (w : World) (h : Ints w a n xs) (hn : n ≤ 2) :
    Calls Tryz.prog 110 #[.slice a n c] w fun e w' => e = .returned (.agg (blkC (blkOf xs)).toArray) ∧ Below w.heap.size w w' := by
  obtain ⟨hl, _, hc⟩ := h
  subst hl
  rcases xs with _ | ⟨x, _ | ⟨y, _ | ⟨z, r⟩⟩⟩
  · clear hc hn;simp only [List.length_nil]
    go_enter Tryz.func110, Tryz.ntmps110
    have hz : (w.alloc (.cells #[.slice none 0 0, .int .i64 0, .int .i64 0, .int .i64 0, .int .i64 0] 73)).heap[w.heap.size]? = some (.cells #[.slice none 0 0, .int .i64 0, .int .i64 0, .int .i64 0, .int .i64 0] 73 (0, 0)) := heap_alloc_new _ _
    go_wp2_with (refine wpList_store_row (o := ⟨none, .store 73 _ _, _, _, _, _⟩) rfl 73 _ _ rfl w.heap.size #[.slice none 0 0, .int .i64 3, .int .i64 0, .int .i64 0, .int .i64 0] rfl rfl 73 _ hz size_blk5 rfl (by simp [Value.oneCell']) ?_)
    have hl := run_loadVar_row (P := Tryz.prog) _ w.heap.size 73 73 _ (0, 0) _ (setRow_heap _ w.heap.size _ #[.slice none 0 0, .int .i64 3, .int .i64 0, .int .i64 0, .int .i64 0] _ _ hz) Tryz.underlying73 rfl size_blk5;refine bodyPost_ret (v := .agg (blkC (blkOf [])).toArray) ?_ rfl ⟨rfl, below_setRow (ext_alloc _ _) (Nat.le_refl _) _⟩;simp [results, Tryz.results110, asAddr, Act.put, hl, blkC, blkOf, termL]
  · obtain ⟨b, o, rfl, c0, _⟩ := hc 0 (by simp);simp only [List.length_cons, List.length_nil, Nat.zero_add, Nat.reduceAdd, Nat.add_zero, List.getD_cons_zero] at c0 ⊢;have c0 := cell_ext (ext_alloc w (.cells #[.slice none 0 0, .int .i64 0, .int .i64 0, .int .i64 0, .int .i64 0] 73)) c0;clear hc hn
    go_enter Tryz.func110, Tryz.ntmps110
    have hz : (w.alloc (.cells #[.slice none 0 0, .int .i64 0, .int .i64 0, .int .i64 0, .int .i64 0] 73)).heap[w.heap.size]? = some (.cells #[.slice none 0 0, .int .i64 0, .int .i64 0, .int .i64 0, .int .i64 0] 73 (0, 0)) := heap_alloc_new _ _
    go_wp2_with (refine wpList_store_row (o := ⟨none, .store 73 _ _, _, _, _, _⟩) rfl 73 _ _ rfl w.heap.size #[.slice none 0 0, .int .i64 1, .int .i64 0, .int .i64 x, .int .i64 0] rfl rfl 73 _ hz size_blk5 rfl (by simp [Value.oneCell']) ?_)
    have hl := run_loadVar_row (P := Tryz.prog) _ w.heap.size 73 73 _ (0, 0) _ (setRow_heap _ w.heap.size _ #[.slice none 0 0, .int .i64 1, .int .i64 0, .int .i64 x, .int .i64 0] _ _ hz) Tryz.underlying73 rfl size_blk5;refine bodyPost_ret (v := .agg (blkC (blkOf [x])).toArray) ?_ rfl ⟨rfl, below_setRow (ext_alloc _ _) (Nat.le_refl _) _⟩;simp [results, Tryz.results110, asAddr, Act.put, hl, blkC, blkOf, termL]
  · obtain ⟨b, o, rfl, c0, _⟩ := hc 0 (by simp);obtain ⟨b', o', e, c1, _⟩ := hc 1 (by simp);injection e with e;injection e with e1 e2;subst e1 e2;simp only [List.length_cons, List.length_nil, Nat.zero_add, Nat.reduceAdd, Nat.add_zero, List.getD_cons_zero, List.getD_cons_succ] at c0 c1 ⊢;clear hc hn
    go_enter Tryz.func110, Tryz.ntmps110
    have hz : (w.alloc (.cells #[.slice none 0 0, .int .i64 0, .int .i64 0, .int .i64 0, .int .i64 0] 73)).heap[w.heap.size]? = some (.cells #[.slice none 0 0, .int .i64 0, .int .i64 0, .int .i64 0, .int .i64 0] 73 (0, 0)) := heap_alloc_new _ _;go_upto_region 6 with (fail)
    refine region_free 9 [some 17, some 18, some 19, some 20, some 21, some 22, some 23, some 24, some 25] (by kernel_rfl) (by kernel_rfl) (specB [.val (.slice (some ⟨b, o, none⟩) 2 c), .val (.pointer (some ⟨b, o, none⟩)), .val (.int .i64 x), .val (.slice (some ⟨b, o, none⟩) 2 c), .val (.pointer (some ⟨b, o + 1, none⟩)), .val (.int .i64 y), .val (.agg #[.int .i64 x, .int .i64 y]), .val (.agg #[.int .i64 2, .int .i64 1, .int .i64 x, .int .i64 y]), .val (.agg #[.slice none 0 0, .int .i64 2, .int .i64 1, .int .i64 x, .int .i64 y])]) (specB_mono ?_) ?_ ?_
    · intro k hk;simp only [List.mem_cons, List.not_mem_nil, or_false] at hk;rcases hk with rfl | rfl | rfl | rfl | rfl | rfl | rfl | rfl | rfl
      · exact trivial
      · exact trivial
      · exact trivial
      · exact trivial
      · exact trivial
      · exact trivial
      · exact trivial
      · exact trivial
      · exact trivial
    · intro i hi ν lo hi' w1 K hB hD hK;have hcase : i = 0 ∨ i = 1 ∨ i = 2 ∨ i = 3 ∨ i = 4 ∨ i = 5 ∨ i = 6 ∨ i = 7 ∨ i = 8 := by omega
      clear hi;rcases hcase with rfl | rfl | rfl | rfl | rfl | rfl | rfl | rfl | rfl
      · clear hD;refine wpOp_atK rfl rfl ?_;simp only [zA,zB,zC,zD,zE,zF,zJ,zK,zG,zH,zI] at hK ⊢;go_simp;exact hK _ _ (Below.refl _ _) rfl
      · have e0 := hD 0 (by kernel_rfl)
        replace e0 : ν 0 = (.slice (some ⟨b, o, none⟩) 2 c) := e0
        clear hD;refine wpOp_atK rfl rfl ?_;simp only [zA,zB,zC,zD,zE,zF,zJ,zK,zG,zH,zI, e0] at hK ⊢;go_simp;exact hK _ _ (Below.refl _ _) rfl
      · have e1 := hD 1 (by kernel_rfl)
        replace e1 : ν 1 = (.pointer (some ⟨b, o, none⟩)) := e1
        clear hD;refine wpOp_atK rfl rfl ?_;simp only [zA,zB,zC,zD,zE,zF,zJ,zK,zG,zH,zI, e1] at hK ⊢;have hcl := cell_ext (ext_trans (ext_alloc _ _) hB) c0;go_simp;exact hK _ _ (Below.refl _ _) rfl
      · clear hD;refine wpOp_atK rfl rfl ?_;simp only [zA,zB,zC,zD,zE,zF,zJ,zK,zG,zH,zI] at hK ⊢;go_simp;exact hK _ _ (Below.refl _ _) rfl
      · have e3 := hD 3 (by kernel_rfl)
        replace e3 : ν 3 = (.slice (some ⟨b, o, none⟩) 2 c) := e3
        clear hD;refine wpOp_atK rfl rfl ?_;simp only [zA,zB,zC,zD,zE,zF,zJ,zK,zG,zH,zI, e3] at hK ⊢;go_simp;exact hK _ _ (Below.refl _ _) rfl
      · have e4 := hD 4 (by kernel_rfl)
        replace e4 : ν 4 = (.pointer (some ⟨b, o + 1, none⟩)) := e4
        clear hD;refine wpOp_atK rfl rfl ?_;simp only [zA,zB,zC,zD,zE,zF,zJ,zK,zG,zH,zI, e4] at hK ⊢;have hcl := cell_ext (ext_trans (ext_alloc _ _) hB) c1;go_simp;exact hK _ _ (Below.refl _ _) rfl
      · have e2 := hD 2 (by kernel_rfl)
        replace e2 : ν 2 = (.int .i64 x) := e2
        have e5 := hD 5 (by kernel_rfl)
        replace e5 : ν 5 = (.int .i64 y) := e5
        clear hD;refine wpOp_atK rfl rfl ?_;simp only [zA,zB,zC,zD,zE,zF,zJ,zK,zG,zH,zI, e2, e5] at hK ⊢;go_simp;exact hK _ _ (Below.refl _ _) rfl
      · have e6 := hD 6 (by kernel_rfl)
        replace e6 : ν 6 = (.agg #[.int .i64 x, .int .i64 y]) := e6
        clear hD;refine wpOp_atK rfl rfl ?_;simp only [zA,zB,zC,zD,zE,zF,zJ,zK,zG,zH,zI, e6] at hK ⊢;go_simp;exact hK _ _ (Below.refl _ _) rfl
      · have e7 := hD 7 (by kernel_rfl)
        replace e7 : ν 7 = (.agg #[.int .i64 2, .int .i64 1, .int .i64 x, .int .i64 y]) := e7
        clear hD;refine wpOp_atK rfl rfl ?_;simp only [zA,zB,zC,zD,zE,zF,zJ,zK,zG,zH,zI, e7] at hK ⊢;go_simp;exact hK _ _ (Below.refl _ _) rfl
    · intro ν lo hi w1 hB hS hI hD;have e0 : ν 0 = (.slice (some ⟨b, o, none⟩) 2 c) := hS 0 (by omega);have e1 : ν 1 = (.pointer (some ⟨b, o, none⟩)) := hS 1 (by omega);have e2 : ν 2 = (.int .i64 x) := hS 2 (by omega);have e3 : ν 3 = (.slice (some ⟨b, o, none⟩) 2 c) := hS 3 (by omega);have e4 : ν 4 = (.pointer (some ⟨b, o + 1, none⟩)) := hS 4 (by omega);have e5 : ν 5 = (.int .i64 y) := hS 5 (by omega);have e6 : ν 6 = (.agg #[.int .i64 x, .int .i64 y]) := hS 6 (by omega);have e7 : ν 7 = (.agg #[.int .i64 2, .int .i64 1, .int .i64 x, .int .i64 y]) := hS 7 (by omega);have e8 : ν 8 = (.agg #[.slice none 0 0, .int .i64 2, .int .i64 1, .int .i64 x, .int .i64 y]) := hS 8 (by omega);clear hS;simp only [List.drop_succ_cons, List.drop_zero, zA,zB,zC,zD,zE,zF,zJ,zK,zG,zH,zI, e0, e1, e2, e3, e4, e5, e6, e7, e8];clear hI hD e0 e1 e2 e3 e4 e5 e6 e7 e8;have hz1 := block_ext hB hz
      go_wp2_with (refine wpList_store_row (o := ⟨none, .store 73 _ _, _, _, _, _⟩) rfl 73 _ _ rfl w.heap.size #[.slice none 0 0, .int .i64 2, .int .i64 1, .int .i64 x, .int .i64 y] rfl rfl 73 _ hz1 size_blk5 rfl (by simp [Value.oneCell']) ?_)
      have hl := run_loadVar_row (P := Tryz.prog) _ w.heap.size 73 73 _ (0, 0) _ (setRow_heap w1 w.heap.size _ #[.slice none 0 0, .int .i64 2, .int .i64 1, .int .i64 x, .int .i64 y] _ _ hz1) Tryz.underlying73 rfl size_blk5;refine bodyPost_ret (v := .agg (blkC (blkOf [x, y])).toArray) ?_ rfl ⟨rfl, below_setRow (ext_trans (ext_alloc _ _) hB) (Nat.le_refl _) _⟩;simp [results, Tryz.results110, asAddr, Act.put, hl, blkC, blkOf, termL]
  · simp at hn
theorem op_rowBlk {o : Oper} {a : Act} {w : World} {K : Act → World → Prop} {Q : Exit → Act → World → Prop} (x : Operand) (p : BlkH) (ho : o.op = .buildSlice 23 1 #[(0, x)]) (hx : a.eval x = .agg (blkC p).toArray)
    (h : K (a.put o.dst (.slice (some ⟨w.heap.size, 0, none⟩) 1 1)) (w.alloc (.cells (blkC p).toArray 73))) : o.wp Tryz.prog a w K Q := by
  obtain ⟨ie, hie⟩ : ∃ i, Tryz.prog.info? 73 = some i := Option.isSome_iff_exists.1 (by kernel_rfl)
  have hs : ie.size = 5 := by have := size_blk5; rw [hie] at this; simpa using this
  obtain ⟨z, hz⟩ : ∃ z, ie.zero = some z := by
    have : (Tryz.prog.info? 73).map (fun i => i.zero.isSome) = some true := by kernel_rfl
    rw [hie] at this;exact Option.isSome_iff_exists.1 (by simpa using this)
  refine wp_buildSlice _ 73 1 #[(0, x)] ho (blkC p).toArray ie z Tryz.underlying23 hie hz (by rw [hs]; omega) (by rw [hs]; omega) ?_ h
  simp only [List.map_toArray, List.map_cons, List.map_nil, hx]
  rw [hs]
  exact fill_one (blkC p) _ (blkC_len p) (by simp)
theorem of17_any (a : Option Addr) (n c : Nat) (rs : List SlR) (w : World) (h : LRows w a n rs) (hn : n ≤ 1000) (h2 : ∀ r ∈ rs, r.xs.length ≤ 2) :
    Calls Tryz.prog 49 #[.slice a n c] w (OfPost (rs.map (·.xs)) w) := by
  have H := Lib.hid h
  have HLN := Lib.hid h.1.1
  have HT2 := Lib.hid h2
  clear h h2
  go_enter Tryz.func49, Tryz.ntmps49
  go_wp2
  go_loopw [4] (fun i wr => ∃ k : Nat, i = .int .i64 k ∧ k ≤ n ∧ Hid (OJ w rs k wr)) (fun i _ => n - (intOf i).toNat)
  case atStart =>
    refine ⟨0, rfl, by omega, .slice none 0 0, ?_, ?_, ?_, OwnR.nil _ _ _ _ _, (((Below.refl _ w).alloc (Nat.le_refl _) _).alloc (by simp) _).alloc (by simp; omega) _⟩
    · exact block_ext (ext_trans (ext_alloc _ _) (ext_alloc _ _)) (heap_alloc_new _ _)
    · have := heap_alloc_new ((w.alloc (.cells #[.slice none 0 0, .slice none 0 0] 25)).alloc (.cells #[.int .i64 1] 3)) (.cells #[.slice (some ⟨w.heap.size + 1, 0, none⟩) 1 1, .slice none 0 0] 25);simpa using this
    · have := block_ext (ext_alloc _ (.cells #[.slice (some ⟨w.heap.size + 1, 0, none⟩) 1 1, .slice none 0 0] 25)) (heap_alloc_new (w.alloc (.cells #[.slice none 0 0, .slice none 0 0] 25)) (.cells #[.int .i64 1] 3));simpa using this
  case round =>
    obtain ⟨k, rfl, hk, HJ⟩ := hrel;by_cases hlt : k < n
    · have hlt' : (k : Int) < (n : Int) := by omega
      obtain ⟨v, hz, hf, hpp, hown, hbw⟩ := HJ.out;obtain ⟨r, b, o, hlr, rfl, cr, hI⟩ := H.out.cells hlt;have hb0 : b < w.heap.size := World.block_lt_of_cell? _ _ cr;have cr9 := cell_ext hbw cr;have hrl := HT2.out r (List.mem_of_getElem? hlr);have HI := Lib.hid (hI.ext hbw);obtain ⟨av, cv, rfl⟩ := hown.form;have hlk : ((rs.take k).map fun r => blkOf r.xs).length = k := by simp [HLN.out]; omega
      have hown1 := hown.1;rw [hlk] at hf hown1;have hlow : ∀ q, (Value.slice av k cv).ownBlock = some q → w.heap.size + 1 + 1 + 1 ≤ q := fun q hq => by have := (hown1.lt q hq).1; omega
      have hF1 : wr.cell? ⟨w.heap.size + 1 + 1, 1, none⟩ = some (.slice av k cv) := by rw [cell_of_row _ _ _ _ _ _ hf]; rfl
      have hbwr := hbw.size;have g1 : ∀ n : ClsW (fun W' => wr.grownBy W' (Value.slice av k cv).ownBlock), n.val.cell? ⟨w.heap.size + 1 + 1, 1, none⟩ = some (.slice av k cv) := fun n => by rw [cell_of_row _ _ _ _ _ _ (grown_row n.prop hf (fun e => by have := hlow _ e; omega))]; rfl
      have g2 : ∀ n : ClsW (fun W' => wr.grownBy W' (Value.slice av k cv).ownBlock), n.val.cell? ⟨b, o + k, none⟩ = some (.slice r.sa r.xs.length r.sc) := fun n => n.prop.cell cr9 (fun e => by have h9 : w.heap.size + 1 + 1 + 1 ≤ b := hlow b e.symm; omega);have hne : Nonempty (ClsW (fun W' => wr.grownBy W' (Value.slice av k cv).ownBlock)) := cls_ne (grown_same _ _);have HLR := Lib.hid hlr;have HLK := Lib.hid hlk;have HF := Lib.hid hf;have HOWN := Lib.hid hown1;have hbs : w.heap.size + 1 + 1 + 1 ≤ wr.heap.size := by have := lt_of_heap hf; omega
      clear hz hf hpp hown hbw hown1 hlk cr cr9 hI hF1 hlr;go_upto_region 5 with (fail)
      refine region_mix (fun w' => ∃ n : ClsW (fun W' => wr.grownBy W' (Value.slice av k cv).ownBlock), w' = n.val) [(0, 6, some (6, true)), (7, 0, some (7, true)), (8, 0, some (8, true)), (9, 1, some (10, false))] (by kernel_rfl) (by kernel_rfl) (cls_mk (grown_drew _ _)) ?_;simp only [wpMix, List.take_succ_cons, List.take_zero, List.drop_succ_cons, List.drop_zero]
      repeat (first
        | go_big_quiet_skip
        | go_big_quiet_step (fail))
      refine wpQuiet_nil ?_;refine wpOp_at rfl rfl ?_;go_simp;refine (goes17_any r.sa r.xs.length r.sc r.xs wr.drew (HI.out.ext (drew_ext wr)) hrl).mono ?_;rintro e w5 ⟨rfl, hb5⟩;have hg5 : wr.grownBy w5 (Value.slice av k cv).ownBlock := grown_tr (grown_drew _ _) (grown_below hb5 _);refine ⟨cls_mk hg5, ?_⟩;have HB5 := Lib.hid (unDrew1 hb5);have HJ5 : Hid (OJ w rs k w5) := HJ.out.grown (grown_below HB5.out none) (fun q e => by cases e)
      have HOWN5 : Hid (w5.ownsRow (w.heap.size + 1 + 1 + 1) 73 5 (.slice av k cv) k (((rs.take k).map fun r => blkOf r.xs).flatMap blkC)) := HOWN.out.kept (grown_below HB5.out none) (by
        cases h : (Value.slice av k cv).ownBlock with
        | none => exact .inl rfl
        | some q => exact .inr (by simp))
      have HG5 := Lib.hid hg5;clear hb5 hg5 HJ g2
      try simp only [zJ,zG,zH,zI]
      refine wpQuiet_nil ?_;refine wpOp_at rfl rfl ?_;refine op_rowBlk _ (blkOf r.xs) rfl rfl ?_;simp only [zJ,zG,zH,zI];refine ⟨cls_mk (grown_tr HG5.out (World.grownBy_alloc _ _ _)), ?_⟩;refine wpQuiet_nil ?_;refine wpOp_at rfl rfl ?_;have hbs5 := HB5.out.size;refine op_append1 w5 (.tmp 14) (.tmp 20) 23 73 rfl (w.heap.size + 1 + 1 + 1) _ 5 56 Tryz.underlying23 infoBlk rfl (by omega) (.slice av k cv) _ _ (blkC (blkOf r.xs)) rfl HOWN5.out w5.heap.size rfl rfl rfl (fun u hu => blk_one [blkOf r.xs] u (by simpa using hu)) (by simp only [maxLen]; omega) (by omega) (by omega) ?_;intro g6 cap w6 hown6 hg6 hat6;refine ⟨cls_mk (grown_tr HG5.out hg6), ?_⟩;have hf5 := block_ext HB5.out HF.out;have hlow5 : (Value.slice av k cv).ownBlock ≠ some (w.heap.size + 1 + 1) := fun e => by have h9 := (HOWN5.out.lt _ e).1; omega
      have hf6 := grown_row hg6 hf5 hlow5;have hcv6 : w6.cell? ⟨w.heap.size + 1 + 1, 1, none⟩ = some (.slice av k cv) := by rw [cell_of_row _ _ _ _ _ _ hf6]; rfl
      have hfv6 : w6.frozen? ⟨w.heap.size + 1 + 1, 1, none⟩ = false := frozen_of_row _ _ _ _ _ hf6;have hlt6 := lt_of_heap hf6;have HST := Lib.hid (OJ.step HJ5.out HLR.out hown6 hg6 hf5 (by omega) HLK.out);clear hown6 hg6 hat6 hf5 hf6 hlow5 g1
      try simp only [zJ,zG,zH,zI]
      repeat (go_big_quiet_step (fail))
      refine wpQuiet_nil ?_;refine wpOp_at rfl rfl ?_;go_simp;refine NoPanic.normal ?_;clear hcv6 hfv6 hlt6;generalize w6.setCell ⟨w.heap.size + 1 + 1, 1, none⟩ (.slice (some ⟨g6, 0, none⟩) (k + 1) cap) = w7 at *;go_wp2
      go_roundw
      case rel => exact ⟨k + 1, by go_num, by omega, HST.out⟩
      case measure => simp [intOf]; omega
    · obtain rfl : k = n := by omega
      obtain ⟨v, hz, hf, hpp, hown, hbw⟩ := HJ.out;have hlk : ((rs.take k).map fun r => blkOf r.xs) = rs.map fun r => blkOf r.xs := by rw [List.take_of_length_le (by rw [HLN.out]; omega)]
      rw [hlk] at hown;obtain ⟨av, cv, rfl⟩ := hown.form;have f0 : wr.cell? ⟨w.heap.size + 1 + 1, 0, none⟩ = some (.slice (some ⟨w.heap.size + 1, 0, none⟩) 1 1) := by rw [cell_of_row _ _ _ _ _ _ hf]; rfl
      have HZ := Lib.hid hz;have HF := Lib.hid hf;have HPP := Lib.hid hpp;have HOWN := Lib.hid hown;have HBW := Lib.hid hbw;clear hz hf hpp hown hbw hlk f0
      go_wp2_with (first
        | (refine wpList_load_row (o := ⟨some 23, .load 25 _, _, _, _, _⟩) rfl 25 _ rfl (w.heap.size + 1 + 1) rfl 25 _ (0, 0) _ HF.out Tryz.underlying25 rfl size_func ?_)
        | (refine wpList_store_row (o := ⟨none, .store 25 _ _, _, _, _, _⟩) rfl 25 _ _ rfl w.heap.size #[.slice (some ⟨w.heap.size + 1, 0, none⟩) 1 1, .slice av (rs.map fun r => blkOf r.xs).length cv] rfl rfl 25 _ HZ.out size_func rfl (by simp [Value.oneCell']) ?_))
      have hl := run_loadVar_row (P := Tryz.prog) _ w.heap.size 25 25 _ (0, 0) _ (setRow_heap _ _ _ #[.slice (some ⟨w.heap.size + 1, 0, none⟩) 1 1, .slice av (rs.map fun r => blkOf r.xs).length cv] _ _ HZ.out) Tryz.underlying25 rfl size_func;have hset := grown_setRow wr w.heap.size #[.slice (some ⟨w.heap.size + 1, 0, none⟩) 1 1, .slice av (rs.map fun r => blkOf r.xs).length cv];have eL : (rs.map fun r => blkOf r.xs) = (rs.map (·.xs)).map blkOf := by rw [List.map_map]; rfl
      have eN : (rs.map fun r => blkOf r.xs).length = (rs.map (·.xs)).length := by simp
      have hown := HOWN.out.kept hset (kept_ne fun q hq e => by have := (HOWN.out.low hq).1; injection e with e; omega);have hpp := (hset.block _ (Array.getElem?_eq_some_iff.1 HPP.out).1 (fun e => by injection e with e; omega)).trans HPP.out;have hbel := below_setRow HBW.out (Nat.le_refl _) #[.slice (some ⟨w.heap.size + 1, 0, none⟩) 1 1, .slice av (rs.map fun r => blkOf r.xs).length cv];generalize wr.setRow w.heap.size #[.slice (some ⟨w.heap.size + 1, 0, none⟩) 1 1, .slice av (rs.map fun r => blkOf r.xs).length cv] = W9 at *;refine bodyPost_ret (v := funcV (some ⟨w.heap.size + 1, 0, none⟩) 1 1 av (rs.map fun r => blkOf r.xs).length cv) ?_ rfl ⟨some ⟨w.heap.size + 1, 0, none⟩, 1, av, cv, by rw [eN], ?_, ⟨⟨rfl, .inr ⟨w.heap.size + 1, 1, #[.int .i64 1], rfl, by omega, hpp, Nat.le_refl _, by unfold maxLen; omega, rfl, rfl⟩⟩, fun x hx => ?_, by simp⟩, hbel⟩
      · simp only [List.length_map] at hl;simp [results, Tryz.results49, asAddr, Act.put, hl]
      · rw [eN, eL] at hown;have hge : w.heap.size ≤ w.heap.size + 1 + 1 + 1 := by omega
        exact OwnR.mono (base' := w.heap.size) hown hge
      · have : x = 1 := by simpa using hx
        subst this;unfold I64; omega
end

section
open Go.RowKit Go.Shelf
attribute [local go_sem] Oper.semAt_some wide_fn wide_depth wide_fnR wide_depthR
theorem same_td {rs ss : List TileR} (h : tdOf rs = tdOf ss) : SameEs SDTile rs ss := by
  have hl : rs.length = ss.length := by have := congrArg List.length h; simpa [tdOf] using this
  refine ⟨hl, fun k r s hr hs => ?_⟩
  have h1 := congrArg (fun l => l[k]?) h
  simp only [tdOf, List.getElem?_map, hr, hs, Option.map_some, Option.some.injEq] at h1
  exact h1
theorem aw_totL : totL awL ≤ 1000000 := by decide +kernel
theorem i64_zero : I64 0 := by unfold I64; omega
theorem awake17_any (w : World) : Calls Tryz.prog 33 #[] w fun e w' => e = .returned (.bool true) ∧ Below w.heap.size w w' := by
  go_enter Tryz.func33, Tryz.ntmps33
  go_upto_region 2 with (
    (go_at_call 49
     obtain ⟨hl, hb0⟩ := aw_lrows w _ rfl;refine (of17_any _ 3 3 _ _ hl (by omega) (by intro r hr; simp only [awRs, List.mem_cons, List.not_mem_nil, or_false] at hr; rcases hr with rfl | rfl | rfl <;> simp)).mono ?_;rintro e w2 ⟨pa, pc, ba, bc, he, hown, _, hb⟩;obtain rfl : e = .returned (funcV pa 1 pc ba 3 bc) := he;have HBLK := Lib.hid (blks_own (L := [[1], [1, 2], []]) hown (by intro l hl; simp only [List.mem_cons, List.not_mem_nil, or_false] at hl; rcases hl with rfl | rfl | rfl; exact i64s [1]; exact i64s [1, 2]; exact i64s []));have HB2 := Lib.hid (ext_trans hb0 hb)
     clear hl hb0 hown hb))
  obtain ⟨W3, hW3⟩ : ∃ W3, W3 = w2.alloc (funcO pa 1 pc ba 3 bc) := ⟨_, rfl⟩
  rw [← hW3]
  have hf3 : W3.heap[w2.heap.size]? = some (funcO pa 1 pc ba 3 bc) := by rw [hW3]; exact heap_alloc_new _ _
  have hb3 : Below w2.heap.size w2 W3 := by rw [hW3]; exact ext_alloc _ _
  have HF3 := Lib.hid hf3
  have HB3 := Lib.hid (ext_trans HB2.out hb3)
  have HBLK3 := Lib.hid (HBLK.out.ext hb3)
  generalize w2.heap.size = F at *
  clear hW3 hf3 hb3 HBLK HB2
  go_upto_region 3 with (first
    | (refine wpList_load_row (o := ⟨some 10, .load 25 _, _, _, _, _⟩) rfl 25 _ rfl F rfl 25 _ (0, 0) _ HF3.out Tryz.underlying25 rfl size_func ?_)
    | (go_at_call 34
       refine (build_any pa 1 pc ba 3 bc ([[1], [1, 2], []].map blkOf) W3 HBLK3.out (.inl (by omega))).mono ?_;rintro e w4 ⟨_, hy, hb4⟩;obtain ⟨v, ls, qs, rfl, hbo, hti, htd⟩ := hy aw_fits;have htd2 : tdOf ls = awL := htd.trans (aw_tiles17 hbo.1);obtain ⟨va, vc, hv⟩ := hti.own.form;have hll : ls.length = 2 := by have := congrArg List.length htd2; simpa [tdOf, awL] using this
       rw [hll] at hv;subst hv;have HTI := Lib.hid hti;have HTD := Lib.hid htd2;have HF4 := Lib.hid (block_ext hb4 HF3.out);have HBLK4 := Lib.hid (HBLK3.out.ext hb4);have HB4 := Lib.hid (ext_trans HB3.out hb4)
       clear hy hb4 hbo hti htd htd2 hll))
  go_upto_region 4 with (fail)
  have hti := aw_tiles w4 _ rfl
  obtain ⟨W5, hW5⟩ : ∃ W5, W5 = ((w4.alloc (.cells #[.int .i64 0, .int .i64 2] 3)).alloc (.cells #[.int .i64 1] 3)).alloc (.cells #[.int .i64 1, .int .i64 (-1), .slice (some ⟨w4.heap.size, 0, none⟩) 2 2, .int .i64 2, .int .i64 0, .slice (some ⟨w4.heap.size + 1, 0, none⟩) 1 1] 76) := ⟨_, rfl⟩
  rw [← hW5] at hti ⊢
  have HWT := Lib.hid hti.1
  have HF5 := Lib.hid (block_ext hti.2 HF4.out)
  have HBLK5 := Lib.hid (HBLK4.out.ext hti.2)
  have HB5 := Lib.hid (ext_trans HB4.out hti.2)
  have HT5 : Hid (TilesOK W5 va 2 ls) := (HTI.out.ext hti.2).ok
  have HTOT : Hid (totL (tdOf ls) ≤ 1000000) := by rw [Hid, HTD.out]; exact aw_totL
  have HR : Hid (rightB awTs (tdOf ls) = true) := by rw [Hid, HTD.out]; exact aw_right
  have HAL : Hid ((allL (tdOf ls) 0).length = 3) := by rw [Hid, HTD.out]; exact aw_all
  clear hW5 hti HF4 HBLK4 HB4 HTI HF3 HBLK3 HB3
  generalize w4.heap.size = b9 at *
  go_wp2_with (first
    | (refine wpList_load_rowW (o := ⟨some 27, .load 25 _, _, _, _, _⟩) (by rfl) 25 _ rfl F rfl 25 _ (0, 0) _ HF6.out Tryz.underlying25 rfl size_func ?_)
    | (go_at_call 39
       refine (all_any va 2 vc ls 0 w7 HT7.out i64_zero HTOT.out).mono ?_;rintro e w8 ⟨x, rfl, ho, hb8⟩;obtain ⟨xa, xc, hx⟩ := ho.form;rw [HAL.out] at hx;subst hx;have HB8 := Lib.hid (ext_trans HB7.out hb8)
       clear hb8 ho)
    | (go_at_call 42
       refine (tright_any pa 1 pc ba 3 bc ([[1], [1, 2], []].map blkOf) va 2 vc ls w6 HBLK6.out HT6.out HTOT.out).mono ?_;rintro e w7 ⟨he, hb7⟩;obtain rfl := he.trans (congrArg (fun z => Ending.returned (.bool z)) HR.out);have HT7 := Lib.hid (HT6.out.ext hb7);have HB7 := Lib.hid (ext_trans HB6.out hb7)
       clear hb7 he)
    | (go_at_call 35
       refine (sameTiles_any va (some ⟨b9 + 1 + 1, 0, none⟩) 2 vc 2 ls (awTiles b9) W5 HT5.out HWT.out (same_td (HTD.out.trans rfl)) (by intro r hr; simp only [awTiles, List.mem_cons, List.not_mem_nil, or_false] at hr; rcases hr with rfl | rfl <;> (show (_ : Nat) ≤ _; simp))).mono ?_;rintro e w6 ⟨rfl, hb6⟩;have HT6 := Lib.hid (HT5.out.ext hb6);have HF6 := Lib.hid (block_ext hb6 HF5.out);have HBLK6 := Lib.hid (HBLK5.out.ext hb6);have HB6 := Lib.hid (ext_trans HB5.out hb6)
       clear hb6))
  go_ret
  exact ⟨rfl, HB8.out⟩
end

section
open Go.RowKit
attribute [local go_sem] Oper.semAt_some wide_fn wide_depth wide_fnR wide_depthR
theorem great17_any2 (pa : Option Addr) (pn pc : Nat) (hpn : pn ≤ 17592186044416) (ba : Option Addr) (bn bc : Nat) (bs : List BlkR) (a : Option Addr) (n c : Nat) (ls : List TileR) (w : World) (h : BlksR w ba bn bs) (ht : TilesOK w a n ls) :
    Calls Tryz.prog 32 #[funcV pa pn pc ba bn bc, .slice a n c] w (GreatPost2 bn pn bs n ls 40 w) := by
  have HX := Lib.hid h
  have HT := Lib.hid ht
  have hn := ht.1.2.1
  have HLN := Lib.hid ht.1.1
  have hbn := h.1.2.1
  clear h ht
  go_enter Tryz.func32, Tryz.ntmps32
  go_wp2
  go_loopw [5, 6] (fun s5 s6 wr => ∃ (i : Nat) (acc : Nat), s6 = .int .i64 i ∧ s5 = .int .i64 acc ∧ i ≤ n ∧ acc = n + totN ls i ∧ acc ≤ 35184372088832 ∧ Hid (wr = w.alloc (funcO pa pn pc ba bn bc))) (fun _ s6 _ => n - (intOf s6).toNat)
  case atStart => exact ⟨0, n, rfl, rfl, by omega, by simp [totN], by omega, rfl⟩
  case round =>
    obtain ⟨i, acc, rfl, rfl, hi, hacc, hab, HW⟩ := hrel;have HBw : Hid (Below w.heap.size w wr) := by rw [Hid, HW.out]; exact ext_alloc _ _
    have hk0 : wr.heap[w.heap.size]? = some (funcO pa pn pc ba bn bc) := by rw [HW.out]; exact heap_alloc_new _ _
    have HK := Lib.hid hk0;have k0 : wr.cell? ⟨w.heap.size, 0, none⟩ = some (.slice pa pn pc) := by rw [cell_of_row _ _ _ _ _ _ hk0]; rfl
    have k1 : wr.cell? ⟨w.heap.size, 1, none⟩ = some (.slice ba bn bc) := by rw [cell_of_row _ _ _ _ _ _ hk0]; rfl
    clear hk0;by_cases hlt : i < n
    · have hlt' : (i : Int) < (n : Int) := by omega
      have hd1 : decide ((i : Int) < (n : Int)) = true := by simpa using hlt
      by_cases hle : acc ≤ 120
      · have hd2 : decide ((acc : Int) ≤ 120) = true := by simp; omega
        obtain ⟨t, b, o, hlk, ⟨hI, _⟩, rfl, c0, c1, c2⟩ := (HT.out.ext HBw.out).cells hlt;have hst := totN_step ls i t hlk;have hb := hI.2.1;clear c0 c1 hlk hI;go_wp2
        go_roundw
        case rel => exact ⟨i + 1, n + totN ls i + t.bn, by go_num, by go_num, by omega, by omega, by omega, HW⟩
        case measure => simp [intOf]; omega
      · have hd2 : decide ((acc : Int) ≤ 120) = false := by simp; omega
        have hgt : (120 : Int) < (acc : Int) := by omega
        clear hacc;by_cases q1 : bn ≤ 40
        · have e1 : (bn : Int) ≤ 40 := by omega
          go_wp2_with (
            (go_at_call 51
             refine (funcOf_any2 pa pn pc hpn ba bn bc bs 2000 (by omega) (by omega) wr (HX.out.ext HBw.out)).mono ?_;rintro e w2 ⟨z, rfl, hz0, hz1, hz2, hb2⟩;have HB2 := Lib.hid (ext_trans HBw.out hb2);have HZ := Lib.hid hz2
             clear hb2 hz2))
          all_goals
            go_ret
            first
              | exact ⟨_, rfl, HBw.out, fun h => by first | cases h | (simp at h; done) | (simp at h; omega)⟩
              | exact ⟨_, rfl, HB2.out, fun h => by first | cases h | (simp at h; done) | (simp at h; omega)⟩
        · by_cases q2 : bn ≤ 200
          · have e1 : (40 : Int) < (bn : Int) := by omega
            have e2 : (bn : Int) ≤ 200 := by omega
            go_wp2_with (
              (go_at_call 51
               refine (funcOf_any2 pa pn pc hpn ba bn bc bs 2000 (by omega) (by omega) wr (HX.out.ext HBw.out)).mono ?_;rintro e w2 ⟨z, rfl, hz0, hz1, hz2, hb2⟩;have HB2 := Lib.hid (ext_trans HBw.out hb2);have HZ := Lib.hid hz2
               clear hb2 hz2))
            all_goals
              go_ret
              first
                | exact ⟨_, rfl, HBw.out, fun h => by first | cases h | (simp at h; done) | (simp at h; omega)⟩
                | exact ⟨_, rfl, HB2.out, fun h => by first | cases h | (simp at h; done) | (simp at h; omega)⟩
          · have e1 : (40 : Int) < (bn : Int) := by omega
            have e2 : (200 : Int) < (bn : Int) := by omega
            go_wp2_with (
              (go_at_call 51
               refine (funcOf_any2 pa pn pc hpn ba bn bc bs 2000 (by omega) (by omega) wr (HX.out.ext HBw.out)).mono ?_;rintro e w2 ⟨z, rfl, hz0, hz1, hz2, hb2⟩;have HB2 := Lib.hid (ext_trans HBw.out hb2);have HZ := Lib.hid hz2
               clear hb2 hz2))
            all_goals
              go_ret
              first
                | exact ⟨_, rfl, HBw.out, fun h => by first | cases h | (simp at h; done) | (simp at h; omega)⟩
                | exact ⟨_, rfl, HB2.out, fun h => by first | cases h | (simp at h; done) | (simp at h; omega)⟩
    · obtain rfl : i = n := by omega
      have HTOT : Hid (totN ls i = totL (tdOf ls)) := totN_all HT.out;by_cases hle : acc ≤ 120
      · have hd2 : (acc : Int) ≤ 120 := by omega
        by_cases q1 : bn ≤ 40
        · have e1 : (bn : Int) ≤ 40 := by omega
          go_wp2_with (
            (go_at_call 51
             refine (funcOf_any2 pa pn pc hpn ba bn bc bs 2000 (by omega) (by omega) wr (HX.out.ext HBw.out)).mono ?_;rintro e w2 ⟨z, rfl, hz0, hz1, hz2, hb2⟩;have HB2 := Lib.hid (ext_trans HBw.out hb2);have HZ := Lib.hid hz2
             clear hb2 hz2))
          all_goals
            go_ret
            first
              | exact ⟨_, rfl, HBw.out, fun h => by first | cases h | (simp at h; done) | (simp at h; omega)⟩
              | exact ⟨_, rfl, HB2.out, fun h => ⟨by omega, by have := HTOT.out; omega, HZ.out (by first | (simp at h; done) | (simp at h; omega))⟩⟩
        · by_cases q2 : bn ≤ 200
          · have e1 : (40 : Int) < (bn : Int) := by omega
            have e2 : (bn : Int) ≤ 200 := by omega
            go_wp2_with (
              (go_at_call 51
               refine (funcOf_any2 pa pn pc hpn ba bn bc bs 2000 (by omega) (by omega) wr (HX.out.ext HBw.out)).mono ?_;rintro e w2 ⟨z, rfl, hz0, hz1, hz2, hb2⟩;have HB2 := Lib.hid (ext_trans HBw.out hb2);have HZ := Lib.hid hz2
               clear hb2 hz2))
            all_goals
              go_ret
              first
                | exact ⟨_, rfl, HBw.out, fun h => by first | cases h | (simp at h; done) | (simp at h; omega)⟩
                | exact ⟨_, rfl, HB2.out, fun h => ⟨by omega, by have := HTOT.out; omega, HZ.out (by first | (simp at h; done) | (simp at h; omega))⟩⟩
          · have e1 : (40 : Int) < (bn : Int) := by omega
            have e2 : (200 : Int) < (bn : Int) := by omega
            go_wp2_with (
              (go_at_call 51
               refine (funcOf_any2 pa pn pc hpn ba bn bc bs 2000 (by omega) (by omega) wr (HX.out.ext HBw.out)).mono ?_;rintro e w2 ⟨z, rfl, hz0, hz1, hz2, hb2⟩;have HB2 := Lib.hid (ext_trans HBw.out hb2);have HZ := Lib.hid hz2
               clear hb2 hz2))
            all_goals
              go_ret
              first
                | exact ⟨_, rfl, HBw.out, fun h => by first | cases h | (simp at h; done) | (simp at h; omega)⟩
                | exact ⟨_, rfl, HB2.out, fun h => ⟨by omega, by have := HTOT.out; omega, HZ.out (by first | (simp at h; done) | (simp at h; omega))⟩⟩
      · have hd2 : (120 : Int) < (acc : Int) := by omega
        clear hacc;by_cases q1 : bn ≤ 40
        · have e1 : (bn : Int) ≤ 40 := by omega
          go_wp2_with (
            (go_at_call 51
             refine (funcOf_any2 pa pn pc hpn ba bn bc bs 2000 (by omega) (by omega) wr (HX.out.ext HBw.out)).mono ?_;rintro e w2 ⟨z, rfl, hz0, hz1, hz2, hb2⟩;have HB2 := Lib.hid (ext_trans HBw.out hb2);have HZ := Lib.hid hz2
             clear hb2 hz2))
          all_goals
            go_ret
            first
              | exact ⟨_, rfl, HBw.out, fun h => by first | cases h | (simp at h; done) | (simp at h; omega)⟩
              | exact ⟨_, rfl, HB2.out, fun h => by first | cases h | (simp at h; done) | (simp at h; omega)⟩
        · by_cases q2 : bn ≤ 200
          · have e1 : (40 : Int) < (bn : Int) := by omega
            have e2 : (bn : Int) ≤ 200 := by omega
            go_wp2_with (
              (go_at_call 51
               refine (funcOf_any2 pa pn pc hpn ba bn bc bs 2000 (by omega) (by omega) wr (HX.out.ext HBw.out)).mono ?_;rintro e w2 ⟨z, rfl, hz0, hz1, hz2, hb2⟩;have HB2 := Lib.hid (ext_trans HBw.out hb2);have HZ := Lib.hid hz2
               clear hb2 hz2))
            all_goals
              go_ret
              first
                | exact ⟨_, rfl, HBw.out, fun h => by first | cases h | (simp at h; done) | (simp at h; omega)⟩
                | exact ⟨_, rfl, HB2.out, fun h => by first | cases h | (simp at h; done) | (simp at h; omega)⟩
          · have e1 : (40 : Int) < (bn : Int) := by omega
            have e2 : (200 : Int) < (bn : Int) := by omega
            go_wp2_with (
              (go_at_call 51
               refine (funcOf_any2 pa pn pc hpn ba bn bc bs 2000 (by omega) (by omega) wr (HX.out.ext HBw.out)).mono ?_;rintro e w2 ⟨z, rfl, hz0, hz1, hz2, hb2⟩;have HB2 := Lib.hid (ext_trans HBw.out hb2);have HZ := Lib.hid hz2
               clear hb2 hz2))
            all_goals
              go_ret
              first
                | exact ⟨_, rfl, HBw.out, fun h => by first | cases h | (simp at h; done) | (simp at h; omega)⟩
                | exact ⟨_, rfl, HB2.out, fun h => by first | cases h | (simp at h; done) | (simp at h; omega)⟩
end

section
open Go.RowKit
structure FuncR where
  pa : Option Addr
  pn : Nat
  pc : Nat
  ps : List Int
  ba : Option Addr
  bn : Nat
  bc : Nat
  bs : List BlkR
abbrev funcVR (f : FuncR) : Value := funcV f.pa f.pn f.pc f.ba f.bn f.bc
def FuncOK (w : World) (f : FuncR) : Prop := Ints w f.pa f.pn f.ps ∧ BlksR w f.ba f.bn f.bs
theorem FuncOK.ext {w w' : World} {f : FuncR} (h : FuncOK w f) (hb : Below w.heap.size w w') : FuncOK w' f := ⟨h.1.ext hb, h.2.ext hb⟩
def FuncNA (f : FuncR) : Prop := f.pn ≤ 1000000 ∧ f.bn ≤ 1000000 ∧ ∀ b ∈ f.bs, BlkNA b
def SDFunc (r s : FuncR) : Prop := r.ps = s.ps ∧ r.bn = s.bn ∧ SameEs SDBlk r.bs s.bs
def LentFn (w : World) (base : Nat) (r r' : FuncR) : Prop := r'.ps = r.ps ∧ r'.pn = r.pn ∧ r'.bn = r.bn ∧ Lent w base (.slice r'.pa r'.pn r'.pc) r.ps ∧ LentBlocks w base (.slice r'.ba r'.bn r'.bc) r.bs r'.bs
theorem LentFn.sd {w : World} {base : Nat} {r r' : FuncR} (h : LentFn w base r r') : SDFunc r' r := by
  obtain ⟨h1, _, h2, _, _, _, _, _, h3⟩ := h
  exact ⟨h1, h2, h3.same fun _ _ h => h.sd⟩
theorem LentFn_law : LentLaw [3, 73, 216, 3] LentFn where
  chg := fun h hc hn => ⟨h.1, h.2.1, h.2.2.1, h.2.2.2.1.chg hc hn, h.2.2.2.2.chg LentB_law hc hn⟩
  mono := fun hb h => ⟨h.1, h.2.1, h.2.2.1, h.2.2.2.1.mono hb, h.2.2.2.2.mono LentB_law hb⟩
  grown := fun he h ho hg => ⟨h.1, h.2.1, h.2.2.1, h.2.2.2.1.grown (fun e => he (by simp [e])) ho hg, h.2.2.2.2.grown LentB_law (fun e => he (List.mem_cons_of_mem _ e)) ho hg⟩
theorem LentFn.ok {w : World} {base : Nat} {r r' : FuncR} (h : LentFn w base r r') (hr : FuncOK w r) (hna : FuncNA r) : FuncOK w r' := by
  obtain ⟨pa, pn, pc, ps, ba, bn, bc, bs⟩ := r'
  obtain ⟨h1, h2, h3, h4, h5⟩ := h
  obtain ⟨g, cap, e⟩ := h5.form
  injection e with e1 e2 e3
  obtain rfl : ba = some ⟨g, 0, none⟩ := e1
  obtain rfl : bn = r.bn := h3
  obtain rfl : ps = r.ps := h1
  obtain ⟨a, c, e, hi⟩ := h4.ints (by rw [hr.1.1]; exact hr.1.2.1) hr.1.mem
  injection e with e1 e2' e3
  refine ⟨?_, (h5.okS hr.2 hna.2.1 hna.2.2).2.1⟩
  show Ints w pa pn r.ps
  have e4 : pa = a := e1
  have e5 : pn = r.ps.length := e2'
  rw [e4, e5]
  exact hi
theorem lentFunc_any (r : FuncR) (w : World) (h : FuncOK w r) (hn : FuncNA r) :
    Calls Tryz.prog 11 #[funcVR r] w fun e w' => ∃ r', e = .returned (funcVR r') ∧ LentFn w' w.heap.size r r' ∧ Below w.heap.size w w' := by
  have H := Lib.hid h
  have HN := Lib.hid hn
  clear h hn
  go_enter Tryz.func11, Tryz.ntmps11
  go_wp2_with (first
    | (go_at_call 53
       refine (lentBlocks_any r.ba r.bn r.bc r.bs W1 (H.out.2.ext HX1.out) HN.out.2.1 HN.out.2.2).mono ?_;rintro e w1 ⟨v, rs1, rfl, hL, hb⟩;obtain ⟨g1, cap1, rfl⟩ := hL.form;have x1 := block_ext hb HK1.out;have x2 := block_ext hb HZ1.out;have x3 := ext_trans HX1.out hb;have hl0 := HL1_0.out.ext hb;have y6 : w1.cell? ⟨w.heap.size, 1, none⟩ = some (.slice r.ba r.bn r.bc) := by rw [cell_of_row _ _ _ _ _ _ x1]; rfl
       have z6 : w1.frozen? ⟨w.heap.size, 1, none⟩ = false := frozen_of_row _ _ _ _ _ x1;obtain ⟨W2, hW2⟩ : ∃ W, w1.setCell ⟨w.heap.size, 1, none⟩ (.slice (some ⟨g1, 0, none⟩) r.bs.length cap1) = W := ⟨_, rfl⟩
       have c2 : Chg (fun k => k = w.heap.size) w1 W2 := by rw [← hW2]; exact chg_setCell _ _ _ _
       have hsz := x3.size;have HL2_1 := Lib.hid (hL.chg LentB_law c2 (fun k hk => by have := HX1.out.size; have := (Array.getElem?_eq_some_iff.1 HK1.out).1; omega));have HL2_0 := Lib.hid (hl0.chg c2 (fun k hk => by simp; omega));have X1 : W2.heap[w.heap.size]? = some (.cells #[.slice (some ⟨g0, 0, none⟩) r.ps.length cap0, .slice (some ⟨g1, 0, none⟩) r.bs.length cap1] 25 (0, 0)) := by rw [← hW2, heap_setCell_same _ _ 1 _ _ _ x1]; rfl
       have HK2 := Lib.hid X1;have HZ2 := Lib.hid (c2.row x2 (by omega));have HX2 := Lib.hid (x3.trans (c2.below (B := w.heap.size) x3.size (fun k hk => by omega)));have i2_0 : W2.cell? ⟨w.heap.size, 0, none⟩ = some (.slice (some ⟨g0, 0, none⟩) r.ps.length cap0) := by rw [cell_of_row _ _ _ _ _ _ X1]; rfl
       have i2_1 : W2.cell? ⟨w.heap.size, 1, none⟩ = some (.slice (some ⟨g1, 0, none⟩) r.bs.length cap1) := by rw [cell_of_row _ _ _ _ _ _ X1]; rfl
       clear hL x1 x2 x3 hb c2 X1 i1_0 i1_1)
    | (go_at_call 52
       refine (lentInts_any r.pa r.pn r.pc r.ps _ (H.out.1.ext (ext_trans (ext_alloc _ _) (ext_alloc _ _))) HN.out.1).mono ?_;rintro e w1 ⟨v, rfl, hL, hb⟩;obtain ⟨g0, cap0, rfl⟩ := hL.form;obtain ⟨x1, x2, x3⟩ := box2 w (.cells #[.slice r.pa r.pn r.pc, .slice r.ba r.bn r.bc] 25) (.cells #[.slice none 0 0, .slice none 0 0] 25) w1 hb;have y6 : w1.cell? ⟨w.heap.size, 0, none⟩ = some (.slice r.pa r.pn r.pc) := by rw [cell_of_row _ _ _ _ _ _ x1]; rfl
       have z6 : w1.frozen? ⟨w.heap.size, 0, none⟩ = false := frozen_of_row _ _ _ _ _ x1;obtain ⟨W1, hW2⟩ : ∃ W, w1.setCell ⟨w.heap.size, 0, none⟩ (.slice (some ⟨g0, 0, none⟩) r.ps.length cap0) = W := ⟨_, rfl⟩
       have c2 : Chg (fun k => k = w.heap.size) w1 W1 := by rw [← hW2]; exact chg_setCell _ _ _ _
       have HL1_0 := Lib.hid (hL.chg c2 (fun k hk => by simp; omega));have X1 : W1.heap[w.heap.size]? = some (.cells #[.slice (some ⟨g0, 0, none⟩) r.ps.length cap0, .slice r.ba r.bn r.bc] 25 (0, 0)) := by rw [← hW2, heap_setCell_same _ _ 0 _ _ _ x1]; rfl
       have HK1 := Lib.hid X1;have HZ1 := Lib.hid (c2.row x2 (by omega));have HX1 := Lib.hid (x3.trans (c2.below (B := w.heap.size) x3.size (fun k hk => by omega)));have i1_0 : W1.cell? ⟨w.heap.size, 0, none⟩ = some (.slice (some ⟨g0, 0, none⟩) r.ps.length cap0) := by rw [cell_of_row _ _ _ _ _ _ X1]; rfl
       have i1_1 : W1.cell? ⟨w.heap.size, 1, none⟩ = some (.slice r.ba r.bn r.bc) := by rw [cell_of_row _ _ _ _ _ _ X1]; rfl
       clear hL x1 x2 x3 hb c2 X1)
    | (refine wpList_store_rowC rfl 25 _ _ rfl (w.heap.size + 1) #[.slice (some ⟨g0, 0, none⟩) r.ps.length cap0, .slice (some ⟨g1, 0, none⟩) r.bs.length cap1] rfl rfl 25 _ HZ2.out (by kernel_rfl) rfl (by simp [Value.oneCell']) ?_
       intro W9 c3 X3;have HL9_0 := Lib.hid (HL2_0.out.chg c3 (fun k hk => by simp; omega));have HL9_1 := Lib.hid (HL2_1.out.chg LentB_law c3 (fun k hk => by have := (Array.getElem?_eq_some_iff.1 HZ1.out).1; omega));have HX9 := Lib.hid (HX2.out.trans (c3.below (B := w.heap.size) HX2.out.size (fun k hk => by omega)));have j0 : W9.cell? ⟨w.heap.size + 1, 0, none⟩ = some (.slice (some ⟨g0, 0, none⟩) r.ps.length cap0) := by rw [cell_of_row _ _ _ _ _ _ X3]; rfl
       have j1 : W9.cell? ⟨w.heap.size + 1, 1, none⟩ = some (.slice (some ⟨g1, 0, none⟩) r.bs.length cap1) := by rw [cell_of_row _ _ _ _ _ _ X3]; rfl
       clear c3 X3))
  refine bodyPost_ret (v := .agg #[.slice (some ⟨g0, 0, none⟩) r.ps.length cap0, .slice (some ⟨g1, 0, none⟩) r.bs.length cap1]) (by simp [results, Tryz.results11, go_sem, j0, j1]) rfl ⟨⟨some ⟨g0, 0, none⟩, r.ps.length, cap0, r.ps, some ⟨g1, 0, none⟩, r.bs.length, cap1, rs1⟩, rfl, ?_, HX9.out⟩
  exact ⟨rfl, H.out.1.1, H.out.2.1.1, HL9_0.out.mono (by simp; omega), HL9_1.out.mono LentB_law (by have := HX1.out.size; omega)⟩
theorem sameFunc_any (r s : FuncR) (w : World) (hd : SDFunc r s) (hr : FuncOK w r) (hs : FuncOK w s) (hna : FuncNA s) :
    Calls Tryz.prog 62 #[funcVR r, funcVR s] w fun e w' => e = .returned (.bool true) ∧ Below w.heap.size w w' := by
  obtain ⟨rpa, rpn, rpc, rps, rba, rbn, rbc, rbs⟩ := r
  obtain ⟨h1, h2, h3⟩ := hd
  obtain rfl : rps = s.ps := h1
  obtain rfl : rbn = s.bn := h2
  have HR := Lib.hid hr
  have HS := Lib.hid hs
  have HSD : Hid (SameEs SDBlk rbs s.bs) := h3
  have HNA := Lib.hid hna.2.2
  clear hr hs hna h3
  obtain ⟨W0, HW0, hR, hS, hW0⟩ := boxes2 w (.cells #[.slice rpa rpn rpc, .slice rba s.bn rbc] 25) (.cells #[.slice s.pa s.pn s.pc, .slice s.ba s.bn s.bc] 25)
  have x0 : ∀ w', Below W0.heap.size W0 w' → w'.cell? ⟨w.heap.size, 0, none⟩ = some (.slice rpa rpn rpc) := fun w' hb => by rw [cell_of_row _ _ _ _ _ _ (block_ext hb hR)]; rfl
  have x1 : ∀ w', Below W0.heap.size W0 w' → w'.cell? ⟨w.heap.size, 1, none⟩ = some (.slice rba s.bn rbc) := fun w' hb => by rw [cell_of_row _ _ _ _ _ _ (block_ext hb hR)]; rfl
  have y0 : ∀ w', Below W0.heap.size W0 w' → w'.cell? ⟨w.heap.size + 1, 0, none⟩ = some (.slice s.pa s.pn s.pc) := fun w' hb => by rw [cell_of_row _ _ _ _ _ _ (block_ext hb hS)]; rfl
  have y1 : ∀ w', Below W0.heap.size W0 w' → w'.cell? ⟨w.heap.size + 1, 1, none⟩ = some (.slice s.ba s.bn s.bc) := fun w' hb => by rw [cell_of_row _ _ _ _ _ _ (block_ext hb hS)]; rfl
  have E0 : Below W0.heap.size W0 W0 := Below.refl _ _
  clear hR hS
  go_enter Tryz.func62, Tryz.ntmps62
  go_wp2_with (first
    | (go_at_call 118
       refine (sameBlocks_any rba s.ba s.bn rbc s.bc rbs s.bs w1 ((HR.out.2.ext HW0.out).ext E1) ((HS.out.2.ext HW0.out).ext E1) HSD.out HNA.out).mono ?_;rintro e w2 ⟨rfl, hb2⟩
       have E2 : Below W0.heap.size W0 w2 := ext_trans E1 hb2)
    | (go_at_call 44
       refine (sameInts_any rpa s.pa rpn s.pn rpc s.pc s.ps s.ps W0 ((HR.out.1.ext HW0.out).ext E0) ((HS.out.1.ext HW0.out).ext E0)).mono ?_;rw [decide_eq_true rfl];rintro e w1 ⟨rfl, q1, hq1⟩;have E1 : Below W0.heap.size W0 w1 := by rw [hq1]; exact ext_drewN E0 q1
       clear hq1))
  go_ret
  exact ⟨rfl, ext_trans HW0.out E2⟩
theorem keptFunc_any (r s : FuncR) (base : Nat) (w : World) (h : LentFn w base s r) (hs : FuncOK w s) (hn : FuncNA s) :
    Calls Tryz.prog 21 #[funcVR r, funcVR s] w fun e w' => e = .returned (.bool true) ∧ Below w.heap.size w w' := by
  obtain ⟨rpa, rpn, rpc, rps, rba, rbn, rbc, rbs⟩ := r
  obtain ⟨g, cap, e⟩ := h.2.2.2.2.form
  injection e with e1 e2 e3
  obtain rfl : rba = some ⟨g, 0, none⟩ := e1
  obtain rfl : rbc = cap := e3
  obtain rfl : rbn = s.bn := h.2.2.1
  clear e2
  have HR := Lib.hid (h.ok hs hn)
  have HS := Lib.hid hs
  have HH := Lib.hid h
  have HN := Lib.hid hn
  have HD := Lib.hid h.sd
  clear hs h hn
  obtain ⟨W0, HW0, hR, hS, hW0⟩ := boxes2 w (.cells #[.slice rpa rpn rpc, .slice (some ⟨g, 0, none⟩) s.bn rbc] 25) (.cells #[.slice s.pa s.pn s.pc, .slice s.ba s.bn s.bc] 25)
  have x0 : ∀ w', Below W0.heap.size W0 w' → w'.cell? ⟨w.heap.size, 0, none⟩ = some (.slice rpa rpn rpc) := fun w' hb => by rw [cell_of_row _ _ _ _ _ _ (block_ext hb hR)]; rfl
  have x1 : ∀ w', Below W0.heap.size W0 w' → w'.cell? ⟨w.heap.size, 1, none⟩ = some (.slice (some ⟨g, 0, none⟩) s.bn rbc) := fun w' hb => by rw [cell_of_row _ _ _ _ _ _ (block_ext hb hR)]; rfl
  have y0 : ∀ w', Below W0.heap.size W0 w' → w'.cell? ⟨w.heap.size + 1, 0, none⟩ = some (.slice s.pa s.pn s.pc) := fun w' hb => by rw [cell_of_row _ _ _ _ _ _ (block_ext hb hS)]; rfl
  have y1 : ∀ w', Below W0.heap.size W0 w' → w'.cell? ⟨w.heap.size + 1, 1, none⟩ = some (.slice s.ba s.bn s.bc) := fun w' hb => by rw [cell_of_row _ _ _ _ _ _ (block_ext hb hS)]; rfl
  have E0 : Below W0.heap.size W0 W0 := Below.refl _ _
  clear hR hS
  go_enter Tryz.func21, Tryz.ntmps21
  go_wp2_with (first
    | (go_at_call 64
       refine (keptBlocks_any base _ _ s.ba s.bn s.bc s.bs rbs w2 (LentFn_law.ext (LentFn_law.ext HH.out HW0.out) E2).2.2.2.2 ((HS.out.ext HW0.out).ext E2).2 HN.out.2.1 HN.out.2.2).mono ?_;rintro e w3 ⟨rfl, hb3⟩
       have E3 : Below W0.heap.size W0 w3 := ext_trans E2 hb3)
    | (go_at_call 63
       refine (keptInts_any base _ s.pa s.pn s.pc s.ps w1 (LentFn_law.ext (LentFn_law.ext HH.out HW0.out) E1).2.2.2.1 ((HS.out.ext HW0.out).ext E1).1 HN.out.1).mono ?_;rintro e w2 ⟨rfl, q2, hq2⟩;have E2 : Below W0.heap.size W0 w2 := by rw [hq2]; exact ext_drewN E1 q2
       clear hq2)
    | (go_at_call 62
       refine (sameFunc_any ⟨rpa, rpn, rpc, rps, some ⟨g, 0, none⟩, s.bn, rbc, rbs⟩ s W0 HD.out (HR.out.ext HW0.out) (HS.out.ext HW0.out) HN.out).mono ?_
       rintro e w1 ⟨rfl, E1⟩))
  go_ret
  exact ⟨rfl, ext_trans HW0.out E3⟩
end
end Go.Proofs.YtblhmdhfhaencaaGreat
