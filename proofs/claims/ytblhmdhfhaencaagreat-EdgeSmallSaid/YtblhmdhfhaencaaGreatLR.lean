/-
 law18's own awake.
-/
import Derived.Test.YtblhmdhfhaencaaGreatEO
import Derived.Test.YtblhmdhfhaencaaGreatBP
import Derived.Test.YtblhmdhfhaencaaGreatRowG
import Derived.Test.YtblhmdhfhaencaaGreatEL
import Derived.Test.YtblhmdhfhaencaaGreatTD
import Derived.Deep.DeepAppendRoom
import Derived.Maps.AppendAt
import Derived.Deep.Onto
namespace Go.Proofs.YtblhmdhfhaencaaGreat
set_option linter.unusedSimpArgs false
set_option linter.unusedVariables false
set_option linter.unusedSectionVars false
set_option maxRecDepth 100000
set_option maxHeartbeats 40000000
section
open Go.RowKit
attribute [local go_sem] Oper.semAt_some wide_fn wide_depth wide_fnR wide_depthR
theorem intsLit {W : World} {g : Nat} {xs : List Int} {n : Nat} (h : W.heap[g]? = some (.cells (intVals xs).toArray 3 (0, 0))) (hn : xs.length = n) (hx : ∀ x ∈ xs, I64 x) (hl : n ≤ 1000) : Ints W (some ⟨g, 0, none⟩) n xs := by
 subst hn
 refine ⟨rfl, by omega, fun k hk => ⟨g, 0, rfl, ?_, hx _ ?_⟩⟩
 · rw [cell_of_row _ _ _ _ _ _ h, Nat.zero_add];simp [intVals, List.getD_eq_getElem?_getD, hk]
 · rw [List.getD_eq_getElem?_getD, List.getElem?_eq_getElem hk]; exact List.getElem_mem _
def awRs (g : Nat) : List SlR := [⟨[1], some ⟨g, 0, none⟩, 1⟩, ⟨[1, 2], some ⟨g + 1, 0, none⟩, 2⟩, ⟨[], none, 0⟩]
theorem i64s (l : List Int) (h : ∀ x ∈ l, -1000 ≤ x ∧ x ≤ 1000 := by decide) : ∀ x ∈ l, I64 x := fun x hx => by have := h x hx; unfold I64; omega
theorem aw_lrows (w : World) (W : World) (h : W = ((w.alloc (.cells #[.int .i64 1] 3)).alloc (.cells #[.int .i64 1, .int .i64 2] 3)).alloc (.cells #[.slice (some ⟨w.heap.size, 0, none⟩) 1 1, .slice (some ⟨w.heap.size + 1, 0, none⟩) 2 2, .slice none 0 0] 22)) :
  LRows W (some ⟨w.heap.size + 1 + 1, 0, none⟩) 3 (awRs w.heap.size) ∧ Below w.heap.size w W := by
 have h0 : W.heap[w.heap.size]? = some (.cells #[.int .i64 1] 3 (0, 0)) := by rw [h]; exact block_ext (ext_trans (ext_alloc _ _) (ext_alloc _ _)) (heap_alloc_new _ _)
 have h1 : W.heap[w.heap.size + 1]? = some (.cells #[.int .i64 1, .int .i64 2] 3 (0, 0)) := by rw [h]; have := block_ext (ext_alloc _ (.cells #[.slice (some ⟨w.heap.size, 0, none⟩) 1 1, .slice (some ⟨w.heap.size + 1, 0, none⟩) 2 2, .slice none 0 0] 22)) (heap_alloc_new (w.alloc (.cells #[.int .i64 1] 3)) (.cells #[.int .i64 1, .int .i64 2] 3)); simpa using this
 have h2 : W.heap[w.heap.size + 1 + 1]? = some (.cells #[.slice (some ⟨w.heap.size, 0, none⟩) 1 1, .slice (some ⟨w.heap.size + 1, 0, none⟩) 2 2, .slice none 0 0] 22 (0, 0)) := by rw [h]; have := heap_alloc_new ((w.alloc (.cells #[.int .i64 1] 3)).alloc (.cells #[.int .i64 1, .int .i64 2] 3)) (.cells #[.slice (some ⟨w.heap.size, 0, none⟩) 1 1, .slice (some ⟨w.heap.size + 1, 0, none⟩) 2 2, .slice none 0 0] 22); simpa using this
 refine ⟨⟨⟨rfl, by omega, fun k x hx => ⟨w.heap.size + 1 + 1, 0, rfl, fun j hj => ?_⟩⟩, fun r hr => ?_⟩, by rw [h]; exact (((Below.refl _ w).alloc (Nat.le_refl _) _).alloc (by simp) _).alloc (by simp; omega) _⟩
 · obtain rfl : j = 0 := by omega
   rw [cell_of_row _ _ _ _ _ _ h2]
   match k, hx with
   | 0, hx => injection hx with hx; subst hx; rfl
   | 1, hx => injection hx with hx; subst hx; rfl
   | 2, hx => injection hx with hx; subst hx; rfl
   | k + 3, hx => simp [awRs] at hx
 · simp only [awRs, List.mem_cons, List.not_mem_nil, or_false] at hr;rcases hr with rfl | rfl | rfl
   · exact intsLit (xs := [1]) h0 rfl (i64s [1]) (by simp)
   · exact intsLit (xs := [1, 2]) h1 rfl (i64s [1, 2]) (by simp)
   · exact ⟨rfl, by simp, fun k hk => absurd hk (by simp)⟩
def awTiles (g : Nat) : List TileR := [⟨⟨1, -1, [0, 2]⟩, some ⟨g, 0, none⟩, 2, 2⟩, ⟨⟨2, 0, [1]⟩, some ⟨g + 1, 0, none⟩, 1, 1⟩]
theorem aw_tiles (w : World) (W : World) (h : W = ((w.alloc (.cells #[.int .i64 0, .int .i64 2] 3)).alloc (.cells #[.int .i64 1] 3)).alloc (.cells #[.int .i64 1, .int .i64 (-1), .slice (some ⟨w.heap.size, 0, none⟩) 2 2, .int .i64 2, .int .i64 0, .slice (some ⟨w.heap.size + 1, 0, none⟩) 1 1] 76)) :
  TilesOK W (some ⟨w.heap.size + 1 + 1, 0, none⟩) 2 (awTiles w.heap.size) ∧ Below w.heap.size w W := by
 have h0 : W.heap[w.heap.size]? = some (.cells #[.int .i64 0, .int .i64 2] 3 (0, 0)) := by rw [h]; exact block_ext (ext_trans (ext_alloc _ _) (ext_alloc _ _)) (heap_alloc_new _ _)
 have h1 : W.heap[w.heap.size + 1]? = some (.cells #[.int .i64 1] 3 (0, 0)) := by
  rw [h];have := block_ext (ext_alloc _ (.cells #[.int .i64 1, .int .i64 (-1), .slice (some ⟨w.heap.size, 0, none⟩) 2 2, .int .i64 2, .int .i64 0, .slice (some ⟨w.heap.size + 1, 0, none⟩) 1 1] 76)) (heap_alloc_new (w.alloc (.cells #[.int .i64 0, .int .i64 2] 3)) (.cells #[.int .i64 1] 3));simpa using this
 have h2 : W.heap[w.heap.size + 1 + 1]? = some (.cells #[.int .i64 1, .int .i64 (-1), .slice (some ⟨w.heap.size, 0, none⟩) 2 2, .int .i64 2, .int .i64 0, .slice (some ⟨w.heap.size + 1, 0, none⟩) 1 1] 76 (0, 0)) := by
  rw [h];have := heap_alloc_new ((w.alloc (.cells #[.int .i64 0, .int .i64 2] 3)).alloc (.cells #[.int .i64 1] 3)) (.cells #[.int .i64 1, .int .i64 (-1), .slice (some ⟨w.heap.size, 0, none⟩) 2 2, .int .i64 2, .int .i64 0, .slice (some ⟨w.heap.size + 1, 0, none⟩) 1 1] 76);simpa using this
 refine ⟨⟨⟨rfl, by omega, fun k x hx => ⟨w.heap.size + 1 + 1, 0, rfl, fun j hj => ?_⟩⟩, fun t ht => ?_⟩, by rw [h]; exact (((Below.refl _ w).alloc (Nat.le_refl _) _).alloc (by simp) _).alloc (by simp; omega) _⟩
 · rw [cell_of_row _ _ _ _ _ _ h2]
   match k, hx, j, hj with
   | 0, hx, 0, _ => injection hx with hx; subst hx; rfl
   | 0, hx, 1, _ => injection hx with hx; subst hx; rfl
   | 0, hx, 2, _ => injection hx with hx; subst hx; rfl
   | 1, hx, 0, _ => injection hx with hx; subst hx; rfl
   | 1, hx, 1, _ => injection hx with hx; subst hx; rfl
   | 1, hx, 2, _ => injection hx with hx; subst hx; rfl
   | k + 2, hx, _, _ => simp [awTiles] at hx
   | _, _, j + 3, hj => omega
 · simp only [awTiles, List.mem_cons, List.not_mem_nil, or_false] at ht;rcases ht with rfl | rfl
   · exact ⟨intsLit (xs := [0, 2]) h0 rfl (i64s [0, 2]) (by simp), by simp, by show I64 1; unfold I64; omega, by show I64 (-1); unfold I64; omega⟩
   · exact ⟨intsLit (xs := [1]) h1 rfl (i64s [1]) (by simp), by simp, by show I64 2; unfold I64; omega, by show I64 0; unfold I64; omega⟩
theorem lit1 (w : World) : Ints (w.alloc (.cells #[.int .i64 1] 3)) (some ⟨w.heap.size, 0, none⟩) 1 [1] := intsLit (xs := [1]) (heap_alloc_new w _) rfl (i64s [1]) (by simp)
theorem blks_own {w : World} {base : Nat} {ba : Option Addr} {bc : Nat} {L : List (List Int)} (h : OwnR 73 5 blkC w base (.slice ba L.length bc) (L.map blkOf)) (hL : ∀ l ∈ L, ∀ x ∈ l, I64 x) : BlksOK w ba L.length (L.map blkOf) := by
 refine ⟨h.recs blkC_len, fun b hb => ?_⟩
 obtain ⟨l, hl, rfl⟩ := List.mem_map.1 hb
 have hx := hL l hl
 have i0 : I64 0 := by unfold I64; omega
 have i1 : I64 1 := by unfold I64; omega
 have i2 : I64 2 := by unfold I64; omega
 have i3 : I64 3 := by unfold I64; omega
 match l, hx with
 | [], _ => exact ⟨i3, i0, i0, i0⟩
 | [x], hx => exact ⟨i1, i0, hx x (by simp), i0⟩
 | [x, y], hx => exact ⟨i2, i1, hx x (by simp), hx y (by simp)⟩
 | x :: y :: z :: l, _ => exact ⟨i3, i0, i0, i0⟩
theorem aw_err : overErr awTs awL = 0 := by decide +kernel
theorem awake18_any (w : World) : Calls Tryz.prog 10 #[] w fun e w' => e = .returned (.bool true) ∧ Below w.heap.size w w' := by
 go_enter Tryz.func10, Tryz.ntmps10
 go_upto_region 2 with (
  (go_at_call 30
   obtain ⟨hl, hb0⟩ := aw_lrows w _ rfl;refine (of18_any _ 3 3 _ _ hl (by omega)).mono ?_;rintro e w2 ⟨pa, pc, ba, bc, he, hown, _, hb⟩;obtain rfl : e = .returned (funcV pa 1 pc ba 3 bc) := he;have HBLK := Lib.hid (blks_own (L := [[1], [1, 2], []]) hown (by intro l hl; simp only [List.mem_cons, List.not_mem_nil, or_false] at hl; rcases hl with rfl | rfl | rfl; exact i64s [1]; exact i64s [1, 2]; exact i64s []));have HB2 := Lib.hid (ext_trans hb0 hb)
   clear hl hb0 hown hb))
 obtain ⟨W3, hW3⟩ : ∃ W3, W3 = w2.alloc (funcO pa 1 pc ba 3 bc) := ⟨_, rfl⟩
 rw [← hW3]
 have hf3 : W3.heap[w2.heap.size]? = some (funcO pa 1 pc ba 3 bc) := by rw [hW3]; exact heap_alloc_new _ _
 have hb3 : Below w2.heap.size w2 W3 := by rw [hW3]; exact ext_alloc _ _
 have HF3 := Lib.hid hf3
 have HB3 := Lib.hid (ext_trans HB2.out hb3)
 have HBLK3 := Lib.hid (HBLK.out.ext hb3)
 generalize w2.heap.size = F at *
 clear hW3 hf3 hb3 HBLK HB2
 go_upto_region 3 with (fail)
 have hti := aw_tiles W3 _ rfl
 obtain ⟨W4, hW4⟩ : ∃ W4, W4 = ((W3.alloc (.cells #[.int .i64 0, .int .i64 2] 3)).alloc (.cells #[.int .i64 1] 3)).alloc (.cells #[.int .i64 1, .int .i64 (-1), .slice (some ⟨W3.heap.size, 0, none⟩) 2 2, .int .i64 2, .int .i64 0, .slice (some ⟨W3.heap.size + 1, 0, none⟩) 1 1] 76) := ⟨_, rfl⟩
 rw [← hW4] at hti ⊢
 have HTI := Lib.hid hti.1
 have HF4 := Lib.hid (block_ext hti.2 HF3.out)
 have HBLK4 := Lib.hid (HBLK3.out.ext hti.2)
 have HB4 := Lib.hid (ext_trans HB3.out hti.2)
 clear hW4 hti HF3 HBLK3 HB3
 generalize W3.heap.size = b9 at *
 go_upto_region 4 with (first
  | (refine wpList_load_row (o := ⟨some 15, .load 25 _, _, _, _, _⟩) rfl 25 _ rfl F rfl 25 _ (0, 0) _ HF4.out Tryz.underlying25 rfl size_func ?_)
  | (go_at_call 13
     refine (between_any pa 1 pc ba 3 bc ([[1], [1, 2], []].map blkOf) (some ⟨b9 + 1 + 1, 0, none⟩) 2 2 (awTiles b9) W4 HBLK4.out HTI.out (by show (3 : Nat) ≤ 1000000; omega)).mono ?_;rintro e w5 ⟨v, he, hb5, _, hr⟩;obtain rfl := he.trans (congrArg (fun z => Ending.returned (.tuple #[v, .int .i64 z])) aw_err);obtain ⟨hs, hrows, hmap⟩ := hr aw_right;have hmap : hs.map (·.r) = [⟨⟨0, 0, 1⟩, [], [1]⟩, ⟨⟨1, 1, 2⟩, [1], []⟩] := hmap;have HF5 := Lib.hid (block_ext hb5 HF4.out);have HBLK5 := Lib.hid (HBLK4.out.ext hb5);have HB5 := Lib.hid (ext_trans HB4.out hb5);have HROWS := Lib.hid hrows;have HMAP := Lib.hid hmap
     clear hb5 hr hrows hmap))
 obtain ⟨h0, h1, rfl⟩ : ∃ h0 h1, hs = [h0, h1] := by
  have hm := congrArg List.length HMAP.out
  match hs, hm with
  | [h0, h1], _ => exact ⟨h0, h1, rfl⟩
 have hm := HMAP.out
 simp only [List.map_cons, List.map_nil, List.cons.injEq, and_true] at hm
 obtain ⟨r0, lv0, en0⟩ := h0
 obtain ⟨r1, lv1, en1⟩ := h1
 simp only at hm
 obtain ⟨rfl, rfl⟩ := hm
 obtain ⟨hown, hall⟩ := HROWS.out
 have hown2 : w5.ownsRow W4.heap.size 79 5 v 2 [.int .i64 0, .int .i64 0, .int .i64 1, lv0, en0, .int .i64 1, .int .i64 1, .int .i64 2, lv1, en1] := hown.1
 obtain ⟨g, c, rfl⟩ := own_form hown2 (by omega)
 have cat := fun j hj => World.ownsRow.cellAt hown2 j hj
 have e0 : w5.cell? ⟨g, 0, none⟩ = some (.int .i64 0) := cat 0 (by simp)
 have e1 : w5.cell? ⟨g, 1, none⟩ = some (.int .i64 0) := cat 1 (by simp)
 have e2 : w5.cell? ⟨g, 2, none⟩ = some (.int .i64 1) := cat 2 (by simp)
 have e3 : w5.cell? ⟨g, 3, none⟩ = some lv0 := cat 3 (by simp)
 have e4 : w5.cell? ⟨g, 4, none⟩ = some en0 := cat 4 (by simp)
 have e8 : w5.cell? ⟨g, 8, none⟩ = some lv1 := cat 8 (by simp)
 have o1 : OwnI w5 W4.heap.size lv0 [] := (hall _ (List.mem_cons_self ..)).1
 have o2 : OwnI w5 W4.heap.size en0 [1] := (hall _ (List.mem_cons_self ..)).2.1
 have o3 : OwnI w5 W4.heap.size lv1 [1] := (hall _ (List.mem_cons_of_mem _ (List.mem_cons_self ..))).1
 obtain ⟨a1, c1, rfl⟩ := o1.form
 obtain ⟨a2, c2, rfl⟩ := o2.form
 obtain ⟨a3, c3, rfl⟩ := o3.form
 have I2 := Lib.hid o2.ints
 have I3 := Lib.hid o3.ints
 have hq := fun w => eql_edge w ⟨0, 0, 1⟩ ⟨0, 0, 1⟩
 have hq1 : ∀ w, (binOp .eql 46 (.agg #[.int .i64 0, .int .i64 0, .int .i64 1]) (.agg #[.int .i64 0, .int .i64 0, .int .i64 1])).run Tryz.prog w = .ok (.bool true) w := fun w => hq w
 clear cat hown hown2 hall o1 o2 o3 hq HROWS HMAP
 go_wp2_with (first
  | (go_at_call 28
     refine (critical_any pa 1 pc ba 3 bc ([[1], [1, 2], []].map blkOf) ⟨1, 0, 1⟩ w7 HBLK7.out).mono ?_;rintro e w8 ⟨he, hb8⟩;obtain rfl := he.trans (congrArg (fun z => Ending.returned (.bool z)) aw_crit);have HB8 := Lib.hid (ext_trans HB7.out hb8)
     clear hb8 he)
  | (go_at_call 44
     refine (sameInts_any a3 (some ⟨w6.heap.size, 0, none⟩) 1 1 c3 1 [1] [1] (w6.alloc (.cells #[.int .i64 1] 3)) (I3.out.ext (ext_trans hb6.out (ext_alloc _ _))) (lit1 w6)).mono ?_;rintro e w' ⟨he, q, hw7⟩;rw [decide_eq_true (rfl : ([1] : List Int) = [1])] at he;subst he;obtain ⟨w7, h7⟩ : ∃ w7, w7 = w' := ⟨_, rfl⟩
     have hb7 : Below w6.heap.size w6 w7 := (by rw [h7, hw7]; exact ext_drewN (ext_alloc _ _) q)
     rw [← h7];have hf7 := block_ext hb7 HF6.out;have k70 : w7.cell? ⟨F, 0, none⟩ = some (.slice pa 1 pc) := (by rw [cell_of_row _ _ _ _ _ _ hf7]; rfl)
     have k71 : w7.cell? ⟨F, 1, none⟩ = some (.slice ba 3 bc) := (by rw [cell_of_row _ _ _ _ _ _ hf7]; rfl)
     have HBLK7 := Lib.hid (HBLK6.out.ext hb7);have HB7 := Lib.hid (ext_trans HB6.out hb7)
     clear hw7 h7 hb7 hf7)
  | (go_at_call 44
     refine (sameInts_any a2 (some ⟨w5.heap.size, 0, none⟩) 1 1 c2 1 [1] [1] (w5.alloc (.cells #[.int .i64 1] 3)) (I2.out.ext (ext_alloc _ _)) (lit1 w5)).mono ?_;rintro e w' ⟨he, q, hw6⟩;rw [decide_eq_true (rfl : ([1] : List Int) = [1])] at he;subst he;obtain ⟨w6, h6⟩ : ∃ w6, w6 = w' := ⟨_, rfl⟩
     have hb6' : Below w5.heap.size w5 w6 := (by rw [h6, hw6]; exact ext_drewN (ext_alloc _ _) q)
     rw [← h6];have f3 := cell_ext hb6' e3;have f8 := cell_ext hb6' e8;have HF6 := Lib.hid (block_ext hb6' HF5.out);have HBLK6 := Lib.hid (HBLK5.out.ext hb6');have HB6 := Lib.hid (ext_trans HB5.out hb6');have hb6 := Lib.hid hb6'
     clear hw6 h6 hb6'))
 go_ret
 exact ⟨rfl, HB8.out⟩
end

section
open Go.RowKit
attribute [local go_sem] Oper.semAt_some wide_fn wide_depth wide_fnR wide_depthR
structure BlkR where
 h : BlkH
 rs : List InsR
abbrev blkC' (b : BlkR) : List Value := blkC b.h
theorem blkC'_len (b : BlkR) : (blkC' b).length = 5 := rfl
def BlkROK (w : World) (b : BlkR) : Prop := TermOK b.h.t ∧ InsS w b.h.ia b.h.n b.rs
theorem BlkROK.ext {w w' : World} {b : BlkR} (h : BlkROK w b) (hb : Below w.heap.size w w') : BlkROK w' b := ⟨h.1, h.2.ext hb⟩
def BlksR (w : World) (a : Option Addr) (n : Nat) (bs : List BlkR) : Prop := Recs 5 blkC' w a n bs ∧ ∀ b ∈ bs, BlkROK w b
theorem BlksR.ext {w w' : World} {a : Option Addr} {n : Nat} {bs : List BlkR} (h : BlksR w a n bs) (hb : Below w.heap.size w w') : BlksR w' a n bs := ⟨h.1.ext blkC'_len hb, fun b hx => (h.2 b hx).ext hb⟩
def hOf (bs : List BlkR) : List BlkH := bs.map (·.h)
theorem BlksR.x {w : World} {a : Option Addr} {n : Nat} {bs : List BlkR} (h : BlksR w a n bs) : BlksX w a n (hOf bs) := by
 refine ⟨⟨⟨by simp [hOf, h.1.1], h.1.2.1, fun k r hr => ?_⟩, fun b hb => ?_⟩, fun b hb => ?_⟩
 · simp only [hOf, List.getElem?_map, Option.map_eq_some_iff] at hr;obtain ⟨x, hx, rfl⟩ := hr;exact h.1.2.2 k x hx
 · simp only [hOf, List.mem_map] at hb;obtain ⟨x, hx, rfl⟩ := hb;exact (h.2 x hx).1
 · simp only [hOf, List.mem_map] at hb;obtain ⟨x, hx, rfl⟩ := hb;exact ⟨x.rs, (h.2 x hx).2⟩
def BigOK (most : Int) (b : BlkR) : Prop := (b.h.n : Int) ≤ most ∧ ∀ r ∈ b.rs, (r.na : Int) ≤ most
def BlocksPost2 (bs : List BlkR) (most : Int) (w : World) (e : Ending) (w' : World) : Prop := ∃ v : Int, e = .returned (.int .i64 v) ∧ 0 ≤ v ∧ v ≤ 35184372088841 ∧ (v ≤ most → (bs.length : Int) ≤ most ∧ ∀ b ∈ bs, BigOK most b) ∧ w = w'
theorem blocksOf_any2 (a : Option Addr) (n c : Nat) (bs : List BlkR) (most : Int) (h0 : 0 ≤ most) (h1 : most ≤ 10000) (w : World) (h : BlksR w a n bs) :
  Calls Tryz.prog 111 #[.slice a n c, .int .i64 most] w (BlocksPost2 bs most w) := by
 have H := Lib.hid h
 have HL := Lib.hid h.1.1
 have hn := h.1.2.1
 clear h
 go_enter Tryz.func111, Tryz.ntmps111
 go_wp2
 go_loopg [5, 6, 7] n (fun gg s5 s6 _ wr => ∃ (i : Nat) (acc : Int), s6 = .int .i64 i ∧ s5 = .int .i64 acc ∧ i ≤ n ∧ n - i ≤ gg ∧ (i : Int) ≤ acc ∧ acc ≤ 35184372088841 ∧ Hid (acc ≤ most → ∀ b ∈ bs.take i, BigOK most b) ∧ wr = w)
 case atStart => exact ⟨0, 0, rfl, rfl, by omega, by omega, by omega, by omega, fun _ b hb => by simp at hb, rfl⟩
 case round =>
  obtain ⟨i, acc, rfl, rfl, hi, hgg, ha0, ha1, HR, rfl⟩ := hrel;by_cases hlt : i < n
  · by_cases hm : acc ≤ most
    · have hir : i < bs.length := by rw [HL.out]; exact hlt
      obtain ⟨b, hb⟩ : ∃ b, bs[i]? = some b := ⟨bs[i], List.getElem?_eq_getElem hir⟩
      obtain ⟨B, o, rfl, hc⟩ := H.out.1.2.2 i b hb;have g0 := hc 0 (by omega);rw [Nat.add_zero] at g0;have hI := (H.out.2 b (List.mem_of_getElem? hb)).2;have HI := Lib.hid hI;have hbn := hI.1.2.1;have HB := Lib.hid hb;have g0' : wr.cell? ⟨B, o + i * 5, none⟩ = some (.slice b.h.ia b.h.n b.h.c) := g0;have hmr := HR.out hm;have HMR := Lib.hid hmr;clear hb hc hI g0 hmr;have hlt' : (i : Int) < (n : Int) := by omega
      go_wp2;obtain ⟨wo, rfl⟩ : ∃ wo : World, wo = wr := ⟨_, rfl⟩
      have HT : Hid (∀ acc2 : Int, acc + 1 + b.h.n ≤ acc2 → acc2 ≤ most → (∀ r ∈ b.rs, (r.na : Int) ≤ most) → ∀ x ∈ bs.take (i + 1), BigOK most x) := fun acc2 h1 h2 h3 x hx => by
       rw [List.take_add_one, HB.out, List.mem_append] at hx;rcases hx with hx | hx
       · exact HMR.out x hx
       · simp at hx; subst hx; exact ⟨by omega, h3⟩
      go_loopg [5, 7] b.h.n (fun gg2 s5 s7 wi => ∃ (k : Nat) (acc2 : Int), s7 = .int .i64 k ∧ s5 = .int .i64 acc2 ∧ k ≤ b.h.n ∧ b.h.n - k ≤ gg2 ∧ acc + 1 + b.h.n ≤ acc2 ∧ acc2 ≤ 35184372088841 ∧ Hid (acc2 ≤ most → ∀ r ∈ b.rs.take k, (r.na : Int) ≤ most) ∧ wi = wo)
      case atStart => exact ⟨0, acc + 1 + b.h.n, rfl, rfl, by omega, by omega, by omega, by omega, fun _ r hr => by simp at hr, rfl⟩
      case round =>
       obtain ⟨k, acc2, rfl, rfl, hk, hgg2, hb1, hb2, HRk, rfl⟩ := hrel;by_cases hk2 : k < b.h.n
       · by_cases hm2 : acc2 ≤ most
         · obtain ⟨r, bb, oo, hr, hok, hia, c0, c1, c2, c3, c4, c5, c6, c7⟩ := HI.out.cells hk2;have hna := hok.1.2.1;rw [hia] at g0';have hkz : (k : Int) < (b.h.n : Int) := by omega
           have HRk2 : Hid (acc2 + r.na ≤ most → ∀ q ∈ b.rs.take (k + 1), (q.na : Int) ≤ most) := fun h q hq => by
            rw [List.take_add_one, hr, List.mem_append] at hq;rcases hq with hq | hq
            · exact HRk.out (by omega) q hq
            · simp at hq; subst hq; omega
           clear hr hok c0 c1 c2 c3 c4 c5 c7 hia;go_wp2
           go_roundg (b.h.n - (k + 1))
           case measure => omega
           case rel => exact ⟨k + 1, acc2 + r.na, by go_num, rfl, by omega, Nat.le_refl _, by omega, by omega, HRk2, rfl⟩
         · have hkz : (k : Int) < (b.h.n : Int) := by omega
           have hm3 : most < acc2 := by omega
           go_wp2
           go_roundg (n - (i + 1))
           case measure => omega
           case rel => exact ⟨i + 1, acc2, by go_num, rfl, by omega, Nat.le_refl _, by omega, by omega, fun h => absurd h (by omega), rfl⟩
       · have hkz : ¬ (k : Int) < (b.h.n : Int) := by omega
         have HRk3 : Hid (acc2 ≤ most → ∀ r ∈ b.rs, (r.na : Int) ≤ most) := fun h => by
          have := HRk.out h
          rwa [List.take_of_length_le (by rw [HI.out.1.1]; omega)] at this
         go_wp2
         go_roundg (n - (i + 1))
         case measure => omega
         case rel => exact ⟨i + 1, acc2, by go_num, rfl, by omega, Nat.le_refl _, by omega, by omega, fun h => HT.out acc2 hb1 h (HRk3.out h), rfl⟩
    · have hm3 : most < acc := by omega
      have hlt' : (i : Int) < (n : Int) := by omega
      go_wp2
      go_ret
      exact ⟨acc, rfl, by omega, ha1, fun h => absurd h (by omega), rfl⟩
  · obtain rfl : i = n := by omega
    have HT : Hid (bs.take i = bs) := List.take_of_length_le (by rw [HL.out]; omega);go_wp2
    go_ret
    exact ⟨acc, rfl, by omega, ha1, fun h => ⟨by rw [HL.out]; omega, by have := HR.out h; rw [HT.out] at this; exact this⟩, rfl⟩
def FuncOfPost2 (pn : Nat) (bs : List BlkR) (most : Int) (w : World) (e : Ending) (w' : World) : Prop := ∃ z : Int, e = .returned (.int .i64 z) ∧ 0 ≤ z ∧ z ≤ 70368744177664 ∧ (z ≤ most → (pn : Int) ≤ most ∧ (bs.length : Int) ≤ most ∧ ∀ b ∈ bs, BigOK most b) ∧ Below w.heap.size w w'
theorem funcOf_any2 (pa : Option Addr) (pn pc : Nat) (hpn : pn ≤ 17592186044416) (ba : Option Addr) (bn bc : Nat) (bs : List BlkR) (most : Int) (h0 : 0 ≤ most) (h1 : most ≤ 10000) (w : World) (h : BlksR w ba bn bs) :
  Calls Tryz.prog 51 #[funcV pa pn pc ba bn bc, .int .i64 most] w (FuncOfPost2 pn bs most w) := by
 have HX := Lib.hid h
 clear h
 go_enter Tryz.func51, Tryz.ntmps51
 go_upto_region 1 with (fail)
 obtain ⟨W, hW⟩ : ∃ W, W = w.alloc (funcO pa pn pc ba bn bc) := ⟨_, rfl⟩
 rw [← hW]
 have hk0 : W.heap[w.heap.size]? = some (funcO pa pn pc ba bn bc) := by rw [hW]; exact heap_alloc_new _ _
 have hB : Below w.heap.size w W := by rw [hW]; exact ext_alloc _ _
 have HK := Lib.hid hk0
 have HB := Lib.hid hB
 clear hW hk0 hB
 refine region_free 8 [some 5, some 6, some 7, some 8, some 9, some 10, some 11, some 12] (by kernel_rfl) (by kernel_rfl) (specB [.val (.pointer (some ⟨w.heap.size, 0, none⟩)), .val (.slice pa pn pc), .val (.int .i64 (pn : Int)), .val (.pointer (some ⟨w.heap.size, 1, none⟩)), .val (.slice ba bn bc), .val (.int .i64 most), (.any fun v lo hi W => ∃ z : Int, v = .int .i64 z ∧ 0 ≤ z ∧ z ≤ 35184372088841 ∧ (z ≤ most → (bs.length : Int) ≤ most ∧ ∀ b ∈ bs, BigOK most b)), (.any fun v lo hi W => ∃ z : Int, v = .int .i64 z ∧ 0 ≤ z ∧ z ≤ 70368744177664 ∧ (z ≤ most → (pn : Int) ≤ most ∧ (bs.length : Int) ≤ most ∧ ∀ b ∈ bs, BigOK most b))]) (specB_mono ?_) ?_ ?_
 · intro k hk;simp only [List.mem_cons, List.not_mem_nil, or_false] at hk;rcases hk with rfl | rfl | rfl | rfl | rfl | rfl | rfl | rfl
   · exact trivial
   · exact trivial
   · exact trivial
   · exact trivial
   · exact trivial
   · exact trivial
   · intro v lo hi w w' _ h; exact h
   · intro v lo hi w w' _ h; exact h
 · intro i hi ν lo hi' w1 K hB hD hK;have hcase : i = 0 ∨ i = 1 ∨ i = 2 ∨ i = 3 ∨ i = 4 ∨ i = 5 ∨ i = 6 ∨ i = 7 := by omega
   clear hi;rcases hcase with rfl | rfl | rfl | rfl | rfl | rfl | rfl | rfl
   · clear hD;refine wpOp_atK rfl rfl ?_;simp only [zA,zB,zC,zD,zE,zF,zJ,zK,zG,zH,zI] at hK ⊢;go_simp;exact hK _ _ (Below.refl _ _) rfl
   · have e0 := hD 0 (by kernel_rfl)
     replace e0 : ν 0 = (.pointer (some ⟨w.heap.size, 0, none⟩)) := e0
     clear hD;refine wpOp_atK rfl rfl ?_;simp only [zA,zB,zC,zD,zE,zF,zJ,zK,zG,zH,zI, e0] at hK ⊢;have hcl : w1.cell? ⟨w.heap.size, 0, none⟩ = some (.slice pa pn pc) := (by rw [cell_of_row _ _ _ _ _ _ (block_ext hB HK.out)]; rfl)
     go_simp;exact hK _ _ (Below.refl _ _) rfl
   · have e1 := hD 1 (by kernel_rfl)
     replace e1 : ν 1 = (.slice pa pn pc) := e1
     clear hD;refine wpOp_atK rfl rfl ?_;simp only [zA,zB,zC,zD,zE,zF,zJ,zK,zG,zH,zI, e1] at hK ⊢;go_simp;exact hK _ _ (Below.refl _ _) rfl
   · clear hD;refine wpOp_atK rfl rfl ?_;simp only [zA,zB,zC,zD,zE,zF,zJ,zK,zG,zH,zI] at hK ⊢;go_simp;exact hK _ _ (Below.refl _ _) rfl
   · have e3 := hD 3 (by kernel_rfl)
     replace e3 : ν 3 = (.pointer (some ⟨w.heap.size, 1, none⟩)) := e3
     clear hD;refine wpOp_atK rfl rfl ?_;simp only [zA,zB,zC,zD,zE,zF,zJ,zK,zG,zH,zI, e3] at hK ⊢;have hcl : w1.cell? ⟨w.heap.size, 1, none⟩ = some (.slice ba bn bc) := (by rw [cell_of_row _ _ _ _ _ _ (block_ext hB HK.out)]; rfl)
     go_simp;exact hK _ _ (Below.refl _ _) rfl
   · clear hD;refine wpOp_atK rfl rfl ?_;simp only [zA,zB,zC,zD,zE,zF,zJ,zK,zG,zH,zI] at hK ⊢;go_simp;exact hK _ _ (Below.refl _ _) rfl
   · have e4 := hD 4 (by kernel_rfl)
     replace e4 : ν 4 = (.slice ba bn bc) := e4
     have e5 := hD 5 (by kernel_rfl)
     replace e5 : ν 5 = (.int .i64 most) := e5
     clear hD;refine wpOp_atK rfl rfl ?_;simp only [zA,zB,zC,zD,zE,zF,zJ,zK,zG,zH,zI, e4, e5] at hK ⊢;go_simp;refine (blocksOf_any2 ba bn bc bs most h0 h1 w1 (HX.out.ext (ext_trans HB.out hB))).mono ?_;rintro e w3 ⟨z, rfl, hz0, hz1, hz2, rfl⟩;exact hK _ _ (Below.refl _ _) ⟨z, rfl, hz0, hz1, hz2⟩
   · have e2 := hD 2 (by kernel_rfl)
     replace e2 : ν 2 = (.int .i64 (pn : Int)) := e2
     have e6 := hD 6 (by kernel_rfl);unfold specB at e6;simp only [List.getD_cons_zero, List.getD_cons_succ, specK] at e6;clear hD;refine wpOp_atK rfl rfl ?_;simp only [zA,zB,zC,zD,zE,zF,zJ,zK,zG,zH,zI, e2] at hK ⊢;obtain ⟨z, hz, hz0, hz1, hz2⟩ := e6;simp only [hz] at hK ⊢;go_simp;exact hK _ _ (Below.refl _ _) ⟨(pn : Int) + z, by rw [IntKind.wrap_i64]; congr 1; omega, by omega, by omega, fun h => ⟨by omega, hz2 (by omega)⟩⟩
 · intro ν lo hi w1 hB hS hI hD;have e0 : ν 0 = (.pointer (some ⟨w.heap.size, 0, none⟩)) := hS 0 (by omega);have e1 : ν 1 = (.slice pa pn pc) := hS 1 (by omega);have e2 : ν 2 = (.int .i64 (pn : Int)) := hS 2 (by omega);have e3 : ν 3 = (.pointer (some ⟨w.heap.size, 1, none⟩)) := hS 3 (by omega);have e4 : ν 4 = (.slice ba bn bc) := hS 4 (by omega);have e5 : ν 5 = (.int .i64 most) := hS 5 (by omega);have e6 := hS 6 (by omega);unfold specB at e6;simp only [List.getD_cons_zero, List.getD_cons_succ, specK] at e6;have e7 := hS 7 (by omega);unfold specB at e7;simp only [List.getD_cons_zero, List.getD_cons_succ, specK] at e7;clear hS;simp only [List.drop_succ_cons, List.drop_zero, zA,zB,zC,zD,zE,zF,zJ,zK,zG,zH,zI, e0, e1, e2, e3, e4, e5];clear e0 e1 e2 e3 e4 e5 e6;obtain ⟨z, hz, hz0, hz1, hz2⟩ := e7;rw [hz];have HZ2 := Lib.hid hz2;have HB9 := Lib.hid (ext_trans HB.out hB);clear hI hD hB hz2;go_wp2
   go_ret
   exact ⟨z, rfl, hz0, hz1, HZ2.out, HB9.out⟩
def GreatPost2 (bn : Nat) (pn : Nat) (bs : List BlkR) (n : Nat) (ls : List TileR) (most : Nat) (w : World) (e : Ending) (w' : World) : Prop :=
 ∃ b, e = .returned (.bool b) ∧ Below w.heap.size w w' ∧ (b = false → (bn ≤ most ∨ 200 < bn) ∧ n + totL (tdOf ls) ≤ 3 * most ∧ (pn : Int) ≤ 2000 ∧ (bs.length : Int) ≤ 2000 ∧ ∀ b ∈ bs, BigOK 2000 b)
theorem great18_any2 (pa : Option Addr) (pn pc : Nat) (hpn : pn ≤ 17592186044416) (ba : Option Addr) (bn bc : Nat) (bs : List BlkR) (a : Option Addr) (n c : Nat) (ls : List TileR) (w : World) (h : BlksR w ba bn bs) (ht : TilesOK w a n ls) :
  Calls Tryz.prog 9 #[funcV pa pn pc ba bn bc, .slice a n c] w (GreatPost2 bn pn bs n ls 30 w) := by
 have HX := Lib.hid h
 have HT := Lib.hid ht
 have hn := ht.1.2.1
 have HLN := Lib.hid ht.1.1
 have hbn := h.1.2.1
 clear h ht
 go_enter Tryz.func9, Tryz.ntmps9
 go_wp2
 go_loopw [5, 6] (fun s5 s6 wr => ∃ (i : Nat) (acc : Nat), s6 = .int .i64 i ∧ s5 = .int .i64 acc ∧ i ≤ n ∧ acc = n + totN ls i ∧ acc ≤ 35184372088832 ∧ Hid (wr = w.alloc (funcO pa pn pc ba bn bc))) (fun _ s6 _ => n - (intOf s6).toNat)
 case atStart => exact ⟨0, n, rfl, rfl, by omega, by simp [totN], by omega, rfl⟩
 case round =>
  obtain ⟨i, acc, rfl, rfl, hi, hacc, hab, HW⟩ := hrel;have HBw : Hid (Below w.heap.size w wr) := by rw [Hid, HW.out]; exact ext_alloc _ _
  have hk0 : wr.heap[w.heap.size]? = some (funcO pa pn pc ba bn bc) := by rw [HW.out]; exact heap_alloc_new _ _
  have HK := Lib.hid hk0;have k0 : wr.cell? ⟨w.heap.size, 0, none⟩ = some (.slice pa pn pc) := by rw [cell_of_row _ _ _ _ _ _ hk0]; rfl
  have k1 : wr.cell? ⟨w.heap.size, 1, none⟩ = some (.slice ba bn bc) := by rw [cell_of_row _ _ _ _ _ _ hk0]; rfl
  clear hk0;by_cases hlt : i < n
  · have hlt' : (i : Int) < (n : Int) := by omega
    have hd1 : decide ((i : Int) < (n : Int)) = true := by simpa using hlt
    by_cases hle : acc ≤ 90
    · have hd2 : decide ((acc : Int) ≤ 90) = true := by simp; omega
      obtain ⟨t, b, o, hlk, ⟨hI, _⟩, rfl, c0, c1, c2⟩ := (HT.out.ext HBw.out).cells hlt;have hst := totN_step ls i t hlk;have hb := hI.2.1;clear c0 c1 hlk hI;go_wp2
      go_roundw
      case rel => exact ⟨i + 1, n + totN ls i + t.bn, by go_num, by go_num, by omega, by omega, by omega, HW⟩
      case measure => simp [intOf]; omega
    · have hd2 : decide ((acc : Int) ≤ 90) = false := by simp; omega
      have hgt : (90 : Int) < (acc : Int) := by omega
      clear hacc;by_cases q1 : bn ≤ 30
      · have e1 : (bn : Int) ≤ 30 := by omega
        go_wp2_with (
         (go_at_call 51
          refine (funcOf_any2 pa pn pc hpn ba bn bc bs 2000 (by omega) (by omega) wr (HX.out.ext HBw.out)).mono ?_;rintro e w2 ⟨z, rfl, hz0, hz1, hz2, hb2⟩;have HB2 := Lib.hid (ext_trans HBw.out hb2);have HZ := Lib.hid hz2
          clear hb2 hz2))
        all_goals
         go_ret
         first
          | exact ⟨_, rfl, HBw.out, fun h => by first | cases h | (simp at h; done) | (simp at h; omega)⟩
          | exact ⟨_, rfl, HB2.out, fun h => by first | cases h | (simp at h; done) | (simp at h; omega)⟩
      · by_cases q2 : bn ≤ 200
        · have e1 : (30 : Int) < (bn : Int) := by omega
          have e2 : (bn : Int) ≤ 200 := by omega
          go_wp2_with (
           (go_at_call 51
            refine (funcOf_any2 pa pn pc hpn ba bn bc bs 2000 (by omega) (by omega) wr (HX.out.ext HBw.out)).mono ?_;rintro e w2 ⟨z, rfl, hz0, hz1, hz2, hb2⟩;have HB2 := Lib.hid (ext_trans HBw.out hb2);have HZ := Lib.hid hz2
            clear hb2 hz2))
          all_goals
           go_ret
           first
            | exact ⟨_, rfl, HBw.out, fun h => by first | cases h | (simp at h; done) | (simp at h; omega)⟩
            | exact ⟨_, rfl, HB2.out, fun h => by first | cases h | (simp at h; done) | (simp at h; omega)⟩
        · have e1 : (30 : Int) < (bn : Int) := by omega
          have e2 : (200 : Int) < (bn : Int) := by omega
          go_wp2_with (
           (go_at_call 51
            refine (funcOf_any2 pa pn pc hpn ba bn bc bs 2000 (by omega) (by omega) wr (HX.out.ext HBw.out)).mono ?_;rintro e w2 ⟨z, rfl, hz0, hz1, hz2, hb2⟩;have HB2 := Lib.hid (ext_trans HBw.out hb2);have HZ := Lib.hid hz2
            clear hb2 hz2))
          all_goals
           go_ret
           first
            | exact ⟨_, rfl, HBw.out, fun h => by first | cases h | (simp at h; done) | (simp at h; omega)⟩
            | exact ⟨_, rfl, HB2.out, fun h => by first | cases h | (simp at h; done) | (simp at h; omega)⟩
  · obtain rfl : i = n := by omega
    have HTOT : Hid (totN ls i = totL (tdOf ls)) := totN_all HT.out;by_cases hle : acc ≤ 90
    · have hd2 : (acc : Int) ≤ 90 := by omega
      by_cases q1 : bn ≤ 30
      · have e1 : (bn : Int) ≤ 30 := by omega
        go_wp2_with (
         (go_at_call 51
          refine (funcOf_any2 pa pn pc hpn ba bn bc bs 2000 (by omega) (by omega) wr (HX.out.ext HBw.out)).mono ?_;rintro e w2 ⟨z, rfl, hz0, hz1, hz2, hb2⟩;have HB2 := Lib.hid (ext_trans HBw.out hb2);have HZ := Lib.hid hz2
          clear hb2 hz2))
        all_goals
         go_ret
         first
          | exact ⟨_, rfl, HBw.out, fun h => by first | cases h | (simp at h; done) | (simp at h; omega)⟩
          | exact ⟨_, rfl, HB2.out, fun h => ⟨by omega, by have := HTOT.out; omega, HZ.out (by first | (simp at h; done) | (simp at h; omega))⟩⟩
      · by_cases q2 : bn ≤ 200
        · have e1 : (30 : Int) < (bn : Int) := by omega
          have e2 : (bn : Int) ≤ 200 := by omega
          go_wp2_with (
           (go_at_call 51
            refine (funcOf_any2 pa pn pc hpn ba bn bc bs 2000 (by omega) (by omega) wr (HX.out.ext HBw.out)).mono ?_;rintro e w2 ⟨z, rfl, hz0, hz1, hz2, hb2⟩;have HB2 := Lib.hid (ext_trans HBw.out hb2);have HZ := Lib.hid hz2
            clear hb2 hz2))
          all_goals
           go_ret
           first
            | exact ⟨_, rfl, HBw.out, fun h => by first | cases h | (simp at h; done) | (simp at h; omega)⟩
            | exact ⟨_, rfl, HB2.out, fun h => ⟨by omega, by have := HTOT.out; omega, HZ.out (by first | (simp at h; done) | (simp at h; omega))⟩⟩
        · have e1 : (30 : Int) < (bn : Int) := by omega
          have e2 : (200 : Int) < (bn : Int) := by omega
          go_wp2_with (
           (go_at_call 51
            refine (funcOf_any2 pa pn pc hpn ba bn bc bs 2000 (by omega) (by omega) wr (HX.out.ext HBw.out)).mono ?_;rintro e w2 ⟨z, rfl, hz0, hz1, hz2, hb2⟩;have HB2 := Lib.hid (ext_trans HBw.out hb2);have HZ := Lib.hid hz2
            clear hb2 hz2))
          all_goals
           go_ret
           first
            | exact ⟨_, rfl, HBw.out, fun h => by first | cases h | (simp at h; done) | (simp at h; omega)⟩
            | exact ⟨_, rfl, HB2.out, fun h => ⟨by omega, by have := HTOT.out; omega, HZ.out (by first | (simp at h; done) | (simp at h; omega))⟩⟩
    · have hd2 : (90 : Int) < (acc : Int) := by omega
      clear hacc;by_cases q1 : bn ≤ 30
      · have e1 : (bn : Int) ≤ 30 := by omega
        go_wp2_with (
         (go_at_call 51
          refine (funcOf_any2 pa pn pc hpn ba bn bc bs 2000 (by omega) (by omega) wr (HX.out.ext HBw.out)).mono ?_;rintro e w2 ⟨z, rfl, hz0, hz1, hz2, hb2⟩;have HB2 := Lib.hid (ext_trans HBw.out hb2);have HZ := Lib.hid hz2
          clear hb2 hz2))
        all_goals
         go_ret
         first
          | exact ⟨_, rfl, HBw.out, fun h => by first | cases h | (simp at h; done) | (simp at h; omega)⟩
          | exact ⟨_, rfl, HB2.out, fun h => by first | cases h | (simp at h; done) | (simp at h; omega)⟩
      · by_cases q2 : bn ≤ 200
        · have e1 : (30 : Int) < (bn : Int) := by omega
          have e2 : (bn : Int) ≤ 200 := by omega
          go_wp2_with (
           (go_at_call 51
            refine (funcOf_any2 pa pn pc hpn ba bn bc bs 2000 (by omega) (by omega) wr (HX.out.ext HBw.out)).mono ?_;rintro e w2 ⟨z, rfl, hz0, hz1, hz2, hb2⟩;have HB2 := Lib.hid (ext_trans HBw.out hb2);have HZ := Lib.hid hz2
            clear hb2 hz2))
          all_goals
           go_ret
           first
            | exact ⟨_, rfl, HBw.out, fun h => by first | cases h | (simp at h; done) | (simp at h; omega)⟩
            | exact ⟨_, rfl, HB2.out, fun h => by first | cases h | (simp at h; done) | (simp at h; omega)⟩
        · have e1 : (30 : Int) < (bn : Int) := by omega
          have e2 : (200 : Int) < (bn : Int) := by omega
          go_wp2_with (
           (go_at_call 51
            refine (funcOf_any2 pa pn pc hpn ba bn bc bs 2000 (by omega) (by omega) wr (HX.out.ext HBw.out)).mono ?_;rintro e w2 ⟨z, rfl, hz0, hz1, hz2, hb2⟩;have HB2 := Lib.hid (ext_trans HBw.out hb2);have HZ := Lib.hid hz2
            clear hb2 hz2))
          all_goals
           go_ret
           first
            | exact ⟨_, rfl, HBw.out, fun h => by first | cases h | (simp at h; done) | (simp at h; omega)⟩
            | exact ⟨_, rfl, HB2.out, fun h => by first | cases h | (simp at h; done) | (simp at h; omega)⟩
end

section
open Go.RowKit
structure Chg (S : Nat → Prop) (w w' : World) : Prop where
 os : w'.os = w.os
 tape : w'.tape = w.tape
 output : w'.output = w.output
 size : w.heap.size ≤ w'.heap.size
 block : ∀ k, k < w.heap.size → ¬ S k → w'.heap[k]? = w.heap[k]?
theorem Chg.refl (S : Nat → Prop) (w : World) : Chg S w w := ⟨rfl, rfl, rfl, Nat.le_refl _, fun _ _ _ => rfl⟩
theorem Chg.trans {S : Nat → Prop} {a b c : World} (h : Chg S a b) (k : Chg S b c) : Chg S a c :=
 ⟨k.os.trans h.os, k.tape.trans h.tape, k.output.trans h.output, Nat.le_trans h.size k.size, fun i hi hn => (k.block i (Nat.lt_of_lt_of_le hi h.size) hn).trans (h.block i hi hn)⟩
theorem Chg.setCell {S : Nat → Prop} {a w : World} (h : Chg S a w) {p : Addr} (hp : S p.block ∨ a.heap.size ≤ p.block) (u : Value) : Chg S a (w.setCell p u) :=
 ⟨h.os, h.tape, h.output, Nat.le_trans h.size (by simp [World.setCell]), fun k hk hn => (Below.heap_setCell w p u k (fun e => by
  subst e;rcases hp with h1 | h1
  · exact hn h1
  · omega)).trans (h.block k hk hn)⟩
theorem Chg.mono {S T : Nat → Prop} {a w : World} (h : Chg S a w) (hs : ∀ k, S k → T k) : Chg T a w := ⟨h.os, h.tape, h.output, h.size, fun k hk hn => h.block k hk (fun hk' => hn (hs k hk'))⟩
theorem Chg.below {S : Nat → Prop} {a w : World} {B : Nat} (h : Chg S a w) (hB : B ≤ a.heap.size) (hs : ∀ k, S k → B ≤ k) : Below B a w :=
 ⟨h.os, h.tape, h.output, h.size, fun k hk => h.block k (by omega) (fun hk' => by have := hs k hk'; omega)⟩
theorem ownsRow_chg {S : Nat → Prop} {w w' : World} {base : Nat} {e : TypeId} {size : Nat} {v : Value} {n : Nat} {xs : List Value} (h : w.ownsRow base e size v n xs) (hc : Chg S w w') (hn : ∀ g, v.ownBlock = some g → ¬ S g) : w'.ownsRow base e size v n xs := by
 refine ⟨h.1, ?_⟩
 rcases h.2 with h2 | ⟨g, cap, cur, rfl, hb, hh, r⟩
 · exact .inl h2
 · exact .inr ⟨g, cap, cur, rfl, hb, (hc.block g (Array.getElem?_eq_some_iff.1 hh).1 (hn g rfl)).trans hh, r⟩
theorem rows_ne {w : World} {base base' : Nat} {e e' : TypeId} {size size' : Nat} {v v' : Value} {n n' : Nat} {xs xs' : List Value} (h : w.ownsRow base e size v n xs) (h' : w.ownsRow base' e' size' v' n' xs') (hne : e ≠ e') :
  ∀ g, v.ownBlock = some g → v'.ownBlock ≠ some g := by
 intro g hg hg'
 rcases h.2 with ⟨rfl, _⟩ | ⟨b, cap, cur, rfl, _, hh, _⟩
 · simp [Value.ownBlock] at hg
 · rcases h'.2 with ⟨rfl, _⟩ | ⟨b', cap', cur', rfl, _, hh', _⟩
   · simp [Value.ownBlock] at hg'
   · simp only [Value.ownBlock, Option.some.injEq] at hg hg';subst hg;subst hg';rw [hh] at hh';injection hh' with hh';injection hh' with _ ht;exact hne ht
section
variable {P : Program} {Q : Exit → Act → World → Prop}
end
end

section
open Go.RowKit
theorem lentInfoI : (Tryz.prog.info? 3).map (fun i => (i.zero, i.size, i.bytes)) = some (some (.int .i64 0), 1, 8) := by kernel_rfl
def marks : List Int := (List.range 12).map fun (i : Nat) => markV 1 (i : Int)
theorem marks_len : marks.length = 12 := by simp [marks]
theorem marks_at (k : Nat) (h : k < 12) : marks.getD k 0 = markV 1 (k : Int) := by simp [marks, List.getD, h]
def lentVals (xs : List Int) : List Value := xs.map (Value.int .i64)
theorem lentVals_len (xs : List Int) : (lentVals xs).length = xs.length := by simp [lentVals]
theorem lentVals_one (xs : List Int) : ∀ u ∈ lentVals xs, u.oneCell' = true := by
 intro u hu
 simp only [lentVals, List.mem_map] at hu
 obtain ⟨x, _, rfl⟩ := hu
 rfl
def Lent (w : World) (base : Nat) (v : Value) (xs : List Int) : Prop :=
 ∃ g cap, v = .slice (some ⟨g, 0, none⟩) xs.length cap ∧ w.ownsRow base 3 1 (.slice (some ⟨g, 0, none⟩) (xs.length + 12) cap) (xs.length + 12) (lentVals (xs ++ marks))
def LentPost (w : World) (xs : List Int) (e : Ending) (w' : World) : Prop := ∃ v, e = .returned v ∧ Lent w' w.heap.size v xs ∧ Below w.heap.size w w'
theorem Lent.ext {w w' : World} {base : Nat} {v : Value} {xs : List Int} (h : Lent w base v xs) (hb : Below w.heap.size w w') : Lent w' base v xs := by
 obtain ⟨g, cap, rfl, hown⟩ := h
 exact ⟨g, cap, rfl, (Steady.ownsRow w.heap.size _ _ _ _ _ _).ext hown hb⟩
theorem Lent.cells {w : World} {base : Nat} {v : Value} {xs : List Int} (h : Lent w base v xs) : ∃ g cap, v = .slice (some ⟨g, 0, none⟩) xs.length cap ∧ xs.length + 12 ≤ cap ∧ cap ≤ maxLen ∧
  (∀ k, k < xs.length → w.cell? ⟨g, k, none⟩ = some (.int .i64 (xs.getD k 0))) ∧ (∀ k, k < 12 → w.cell? ⟨g, xs.length + k, none⟩ = some (.int .i64 (markV 1 (k : Int)))) := by
 obtain ⟨g, cap, rfl, hown⟩ := h
 have hadd : ∀ k, (⟨g, 0, none⟩ : Addr).add k = ⟨g, k, none⟩ := fun k => by unfold Addr.add; split <;> simp_all
 have hc : xs.length + 12 ≤ cap ∧ cap ≤ maxLen := by
  rcases hown.2 with ⟨h0, _⟩ | ⟨g', cap', cur, hv, _, _, h1, h2, _⟩
  · cases h0
  · injection hv with _ _ hcc;subst hcc;exact ⟨h1, h2⟩
 refine ⟨g, cap, rfl, hc.1, hc.2, fun k hk => ?_, fun k hk => ?_⟩
 · have := hown.cells (g := g) rfl k (.int .i64 (xs.getD k 0)) (by rw [lentVals, List.map_append, List.getElem?_append_left (by simpa using hk)]; simp [List.getD, hk])
   rwa [hadd] at this
 · have := hown.cells (g := g) rfl (xs.length + k) (.int .i64 (marks.getD k 0)) (by
    have hk' : k < marks.length := by rw [marks_len]; exact hk
    simp [lentVals, List.getElem?_append_right, List.getD, hk'])
   rw [marks_at k hk, hadd] at this;exact this
theorem Lent.ints {w : World} {base : Nat} {v : Value} {xs : List Int} (h : Lent w base v xs) (hl : xs.length ≤ 17592186044416) (hw : ∀ x ∈ xs, I64 x) : ∃ a c, v = .slice a xs.length c ∧ Ints w a xs.length xs := by
 obtain ⟨g, cap, rfl, _, _, h1, _⟩ := h.cells
 exact ⟨_, _, rfl, rfl, hl, fun k hk => ⟨g, 0, rfl, by simpa using h1 k hk, hw _ (by simp [List.getD, hk])⟩⟩
theorem lentInts_any (a : Option Addr) (n c : Nat) (xs : List Int) (w : World) (h : Ints w a n xs) (hn : n ≤ 1000000) :
  Calls Tryz.prog 52 #[.slice a n c] w (LentPost w xs) := by
 obtain ⟨i0, hi, hz0, hz1, hz2⟩ := info_parts (P := Tryz.prog) lentInfoI
 have HL := Lib.hid h.1
 have H := Lib.hid h
 clear h
 go_enter Tryz.func52, Tryz.ntmps52
 go_wp2_with (first
  | (at_make
     refine wpList_make_own _ rfl _ _ 22 rfl w.heap.size 3 i0 (.int .i64 0) 1 Tryz.underlying22 hi hz0 hz1 .i64 .i64 _ (n + 12) rfl rfl (by omega) (by rw [hz2]; omega) (by simp only [maxLen]; omega) (Nat.le_refl _) ?_;intro w1 hown1 hg1;have HO1 := Lib.hid hown1;have HB1 : Hid (Below w.heap.size w w1) := (Below.refl _ _).grown hg1 (Nat.le_refl _) (by simp)
     clear hown1 hg1)
  | (at_builtin
     refine wpList_appendS _ rfl (.tmp 9) (.tmp 10) 22 3 rfl w.heap.size (.int .i64 0) 8 Tryz.underlying22 lentInfoI rfl _ 0 [] rfl HO1.out a n c rfl (lentVals xs) (by rw [lentVals_len, HL.out]) (by
      intro j u hu;have hj : j < n := by
       have := (List.getElem?_eq_some_iff.1 hu).1
       rwa [lentVals_len, HL.out] at this
      obtain ⟨b, o, rfl, hc, _⟩ := (H.out.ext HB1.out).2.2 j hj;refine ⟨_, rfl, ?_⟩;have hadd : (⟨b, o, none⟩ : Addr).add j = ⟨b, o + j, none⟩ := by unfold Addr.add; split <;> simp_all
      rw [hadd, hc];have hj' : j < xs.length := by rw [HL.out]; exact hj
      simp [lentVals, hj'] at hu
      simp [List.getD, hj', hu]) (lentVals_one xs) (by simp only [maxLen]; omega) (by omega) HB1.out.size ?_
     intro v2 w2 hown2 hg2 hat2;have HO2 := Lib.hid hown2;have HB2 : Hid (Below w.heap.size w w2) := HB1.out.grown hg2 HB1.out.size (fun k e => (HO1.out.lt k e).1)
     clear hown2 hg2 hat2))
 have HO3 : Hid (w2.ownsRow w.heap.size 3 1 v2 (n + 0) (lentVals (xs ++ marks.take 0))) := by
  have := HO2.out;rw [Hid];simpa using this
 clear HO2 HO1 HB1
 go_loopw [3, 4] (fun v i wr => ∃ (k : Nat), k ≤ 12 ∧ i = .int .i64 k ∧ Hid (wr.ownsRow w.heap.size 3 1 v (n + k) (lentVals (xs ++ marks.take k))) ∧ Hid (Below w.heap.size w wr)) (fun _ i _ => 12 - (intOf i).toNat)
 case atStart => exact ⟨0, by omega, rfl, HO3, HB2⟩
 case round =>
  clear HO3 HB2;obtain ⟨k, hk, rfl, HO, HB⟩ := hrel;by_cases hlt : k < 12
  · have HS : Hid (lentVals (xs ++ marks.take (k + 1)) = lentVals (xs ++ marks.take k) ++ [.int .i64 (markV 1 (k : Int))]) := by
     rw [Hid, takeS marks k 0 (by rw [marks_len]; exact hlt), marks_at k hlt, ← List.append_assoc, lentVals, List.map_append];rfl
    go_wp2_with (first
     | (go_at_call 112; refine (mark_any _ _ _ (by omega) (by omega)).mono ?_; rintro e w' ⟨rfl, rfl⟩)
     | (at_builtin
        refine wpList_append1 rfl wr (.tmp 16) (.tmp 19) 22 3 rfl w.heap.size _ 1 8 Tryz.underlying22 lentInfoI rfl (by omega) u3 (n + k) _ [.int .i64 (markV 1 (k : Int))] rfl HO.out wr.heap.size rfl rfl rfl (by simp [Value.oneCell']) (by simp only [maxLen]; omega) (by omega) HB.out.size ?_;intro g cap w2 hown2 hg2 hat2;have HO2 : Hid (w2.ownsRow w.heap.size 3 1 (.slice (some ⟨g, 0, none⟩) (n + k + 1) cap) (n + k + 1) (lentVals (xs ++ marks.take (k + 1)))) := by rw [Hid, HS.out]; exact hown2
        have HB2 : Hid (Below w.heap.size w w2) := HB.out.grown hg2 HB.out.size (fun j e => (HO.out.lt j e).1)
        clear hown2 hat2 hg2))
    go_roundw
    case rel => exact ⟨k + 1, by omega, by go_num, HO2, HB2⟩
    case measure => simp [intOf]; omega
  · obtain rfl : k = 12 := by omega
    have hown := HO.out;have hform : ∃ g cap, u3 = .slice (some ⟨g, 0, none⟩) (n + 12) cap ∧ n + 12 ≤ cap ∧ cap ≤ maxLen := by
     rcases hown.2 with ⟨_, h0⟩ | ⟨g', cap', cur, hv, _, _, h1, h2, _⟩
     · omega
     · exact ⟨_, _, hv, h1, h2⟩
    obtain ⟨g, cap, rfl, hc1, hc2⟩ := hform;clear hown;unfold maxLen at hc2;go_wp2
    go_ret
    refine ⟨_, rfl, ⟨g, cap, by rw [HL.out]; rfl, ?_⟩, HB.out⟩;have := HO.out;rw [HL.out];rw [List.take_of_length_le (by rw [marks_len]; omega)] at this;exact this
theorem quiet_add_left {P : Program} {f : FuncId} {args : Array Value} {w : World} {a n : Nat} {v : Value}
  (h : Calls P f args (w.drewN (a + n)) fun e w' => e = .returned v ∧ w.drewN (a + n) = w') :
  Calls P f args (w.drewN (a + n)) fun e w'' => e = .returned v ∧ ∃ m, w'' = w.drewN (a + m) :=
 h.mono fun _ _ ⟨he, hm⟩ => ⟨he, n, hm.symm⟩
theorem keptInts_any (base : Nat) (v : Value) (a : Option Addr) (n c : Nat) (xs : List Int) (w : World) (hL : Lent w base v xs) (h : Ints w a n xs) (hn : n ≤ 1000000) :
  Calls Tryz.prog 63 #[v, .slice a n c] w fun e w' => e = .returned (.bool true) ∧ ∃ q, w' = w.drewN q := by
 obtain ⟨g, cap, rfl, hc1, hc2, hx, hm⟩ := hL.cells
 obtain ⟨hl, _, hc⟩ := h
 rw [hl] at hc1 hx hm ⊢
 have HX := Lib.hid hx
 have HM := Lib.hid hm
 have HC := Lib.hid hc
 clear hx hm hc hL hl
 unfold maxLen at hc2
 have b0 : ((n : Int) != (n : Int)) = false := by simp
 go_enter Tryz.func63, Tryz.ntmps63
 go_wp2
 go_loopw [6] (fun i wr => ∃ (k q : Nat), k ≤ n + 12 ∧ i = .int .i64 k ∧ wr = w.drewN q) (fun i _ => n + 12 - (intOf i).toNat)
 case atStart => exact ⟨0, 0, by omega, rfl, rfl⟩
 case round =>
  obtain ⟨k, q, hk, rfl, rfl⟩ := hrel;by_cases hlt : k < n + 12
  · by_cases hkn : k < n
    · obtain ⟨b, o, rfl, hcell, _⟩ := HC.out k hkn;have hcell' := HX.out k hkn;have d1 : decide (k < n) = true := by simpa using hkn
      have d2 : decide (n ≤ k) = false := by simp; omega
      generalize xs.getD k 0 = x at *;go_wp2
      go_quiet (fail)
      go_wp2
      go_roundw
      case rel => exact ⟨k + 1, _, by omega, by go_num, rfl⟩
      case measure => simp [intOf]; omega
    · obtain ⟨j, rfl⟩ : ∃ j, k = n + j := ⟨k - n, by omega⟩
      have hcell' := HM.out j (by omega);have hj : j < 12 := by omega
      have d1 : decide (n + j < n) = false := by simp
      have d2 : decide (n ≤ n + j) = true := by simp
      have d3 : decide ((n : Int) + (j : Int) < (n : Int)) = false := by simp; omega
      have d4 : decide ((n : Int) ≤ (n : Int) + (j : Int)) = true := by simp; omega
      have d5 : IntKind.i64.wrap ((n : Int) + (j : Int) - (n : Int)) = (j : Int) := by rw [IntKind.wrap_i64]; omega
      clear hkn;go_wp2
      go_quiet ((go_at_call 112; exact quiet_add_left (mark_any 1 (j : Int) _ (by omega) (by omega))))
      go_wp2
      go_roundw
      case rel => exact ⟨n + j + 1, _, by omega, by go_num, rfl⟩
      case measure => simp [intOf]; omega
  · go_wp2
    go_ret
    exact ⟨rfl, _, rfl⟩
end

section
open Go.RowKit
theorem box2 (w : World) (o1 o2 : Obj) (W : World) (h : Below ((w.alloc o1).alloc o2).heap.size ((w.alloc o1).alloc o2) W) : W.heap[w.heap.size]? = some o1 ∧ W.heap[w.heap.size + 1]? = some o2 ∧ Below w.heap.size w W := by
 refine ⟨?_, ?_, ext_trans (ext_trans (ext_alloc w o1) (ext_alloc _ o2)) h⟩
 · rw [h.block _ (by simp; omega), Below.heap_alloc _ _ _ (by simp)];exact heap_alloc_new w o1
 · rw [h.block _ (by simp)];have := heap_alloc_new (w.alloc o1) o2;simpa using this
theorem boxes2 (w : World) (o1 o2 : Obj) : ∃ W0, Hid (Below w.heap.size w W0) ∧ W0.heap[w.heap.size]? = some o1 ∧ W0.heap[w.heap.size + 1]? = some o2 ∧ (w.alloc o1).alloc o2 = W0 := by
 obtain ⟨x1, x2, x3⟩ := box2 w o1 o2 _ (Below.refl _ _)
 exact ⟨_, x3, x1, x2, rfl⟩
theorem chg_setRow (w : World) (g : Nat) (cs : Array Value) : Chg (fun k => k = g) w (w.setRow g cs) :=
 ⟨rfl, rfl, rfl, by rw [size_setRow]; exact Nat.le_refl _, fun k _ hn => setRow_other w g k cs hn⟩
theorem chg_setCell (w : World) (b o : Nat) (u : Value) : Chg (fun k => k = b) w (w.setCell ⟨b, o, none⟩ u) := (Chg.refl (fun k => k = b) w).setCell (p := ⟨b, o, none⟩) (Or.inl rfl) u
theorem Chg.row {S : Nat → Prop} {w w' : World} (h : Chg S w w') {k : Nat} {o : Obj} (hk : w.heap[k]? = some o) (hn : ¬ S k) : w'.heap[k]? = some o := (h.block k (Array.getElem?_eq_some_iff.1 hk).1 hn).trans hk
theorem chg_below {w w' : World} (h : Below w.heap.size w w') : Chg (fun _ => False) w w' := ⟨h.os, h.tape, h.output, h.size, fun k hk _ => h.block k hk⟩
section
variable {P : Program} {Q : Exit → Act → World → Prop}
theorem wpList_store_rowC {ops : Array Oper} {rest : List Oper} {o : Oper} {a : Act} {w : World} (hgd : o.guard = none) (ty : TypeId) (x y : Operand) (ho : o.op = .store ty x y)
  (g : Nat) (cells : Array Value) (hx : a.eval x = .pointer (some ⟨g, 0, none⟩)) (hy : a.eval y = .agg cells)
  (t : TypeId) (old : Array Value) (hg : w.heap[g]? = some (.cells old t (0, 0))) (hi : (P.info? ty).map (·.size) = some cells.size)
  (hold : old.size = cells.size) (h1 : cells.all (·.oneCell') = true)
  (h : ∀ W', Chg (fun k => k = g) w W' → W'.heap[g]? = some (.cells cells t (0, 0)) → wpList P ops Q rest (a.put o.dst undef) W') : wpList P ops Q (o :: rest) a w :=
 wpList_store_row hgd ty x y ho g cells hx hy t old hg hi hold h1 (h _ (chg_setRow _ _ _) (setRow_heap _ _ _ _ _ _ hg))
end
def SameEs {α : Type} (SD : α → α → Prop) (rs ss : List α) : Prop := rs.length = ss.length ∧ ∀ (k : Nat) r s, rs[k]? = some r → ss[k]? = some s → SD r s
end

section
open Go.RowKit
theorem Lent.chg {S : Nat → Prop} {w w' : World} {base : Nat} {v : Value} {xs : List Int} (h : Lent w base v xs) (hc : Chg S w w') (hn : ∀ k, S k → k < base) : Lent w' base v xs := by
 obtain ⟨g, cap, rfl, hown⟩ := h
 exact ⟨g, cap, rfl, ownsRow_chg hown hc (fun k hk hs => by have := (hown.lt k hk).1; have := hn k hs; omega)⟩
theorem Lent.mono {w : World} {base base' : Nat} {v : Value} {xs : List Int} (h : Lent w base v xs) (hb : base' ≤ base) : Lent w base' v xs := by
 obtain ⟨g, cap, rfl, hown⟩ := h
 exact ⟨g, cap, rfl, hown.mono hb⟩
theorem Lent.form {w : World} {base : Nat} {v : Value} {xs : List Int} (h : Lent w base v xs) : ∃ g cap, v = .slice (some ⟨g, 0, none⟩) xs.length cap := by
 obtain ⟨g, cap, rfl, _⟩ := h
 exact ⟨g, cap, rfl⟩
theorem Lent.grown {w w' : World} {base base' : Nat} {v vr : Value} {e : TypeId} {size n : Nat} {xs : List Int} {ys : List Value} (he : 3 ≠ e) (h : Lent w base v xs) (ho : w.ownsRow base' e size vr n ys) (hg : w.grownBy w' vr.ownBlock) : Lent w' base v xs := by
 obtain ⟨g, cap, rfl, hown⟩ := h
 exact ⟨g, cap, rfl, hown.kept hg (Or.inr (fun e2 => rows_ne hown ho he g rfl e2.symm))⟩
structure LentLaw {α : Type} (tys : List TypeId) (LX : World → Nat → α → α → Prop) : Prop where
 chg : ∀ {S : Nat → Prop} {w w' : World} {base : Nat} {r r' : α}, LX w base r r' → Chg S w w' → (∀ k, S k → k < base) → LX w' base r r'
 mono : ∀ {w : World} {base base' : Nat} {r r' : α}, base' ≤ base → LX w base r r' → LX w base' r r'
 grown : ∀ {w w' : World} {base base' : Nat} {r r' : α} {e : TypeId} {size : Nat} {vr : Value} {n : Nat} {ys : List Value}, e ∉ tys → LX w base r r' → w.ownsRow base' e size vr n ys → w.grownBy w' vr.ownBlock → LX w' base r r'
theorem LentLaw.ext {α : Type} {tys : List TypeId} {LX : World → Nat → α → α → Prop} (L : LentLaw tys LX) {w w' : World} {base : Nat} {r r' : α} (h : LX w base r r') (hb : Below w.heap.size w w') : LX w' base r r' :=
 L.chg h (chg_below hb) fun k hk => hk.elim
section
variable {α : Type} (cs : α → List Value) (size : Nat) (ty : TypeId) (LX : World → Nat → α → α → Prop) (mk : Nat → α)
def LentEs (w : World) (base : Nat) (rs rs' : List α) : Prop := rs'.length = rs.length ∧ ∀ (k : Nat) r r', rs[k]? = some r → rs'[k]? = some r' → LX w base r r'
def markL : List α := (List.range 12).map mk
def LentL (w : World) (base : Nat) (v : Value) (rs rs' : List α) : Prop :=
 ∃ g cap, v = .slice (some ⟨g, 0, none⟩) rs.length cap ∧ w.ownsRow base ty size (.slice (some ⟨g, 0, none⟩) (rs.length + 12) cap) (rs.length + 12) ((rs' ++ markL mk).flatMap cs) ∧ LentEs LX w base rs rs'
theorem markL_len : (markL mk).length = 12 := by simp [markL]
theorem markL_at (k : Nat) (h : k < 12) : (markL mk)[k]? = some (mk k) := by simp [markL, h]
theorem markL_take (k : Nat) (h : k < 12) : (markL mk).take (k + 1) = (markL mk).take k ++ [mk k] := by
 rw [List.take_add_one, markL_at mk k h]
 rfl
end
section
variable {α : Type} {cs : α → List Value} {size : Nat} {ty : TypeId} {LX : World → Nat → α → α → Prop} {mk : Nat → α} {tys : List TypeId}
theorem LentEs.nil (w : World) (base : Nat) : LentEs LX w base [] [] := ⟨rfl, fun k r r' h => by simp at h⟩
theorem LentEs.snoc {w : World} {base : Nat} {rs rs' : List α} {r r' : α} (h : LentEs LX w base rs rs') (hr : LX w base r r') : LentEs LX w base (rs ++ [r]) (rs' ++ [r']) := by
 refine ⟨by simp [h.1], fun k x x' h1 h2 => ?_⟩
 by_cases hk : k < rs.length
 · rw [List.getElem?_append_left hk] at h1;rw [List.getElem?_append_left (by rw [h.1]; exact hk)] at h2;exact h.2 k x x' h1 h2
 · have hk1 := (List.getElem?_eq_some_iff.1 h1).1;rw [List.length_append, List.length_singleton] at hk1;obtain rfl : k = rs.length := by omega
   rw [List.getElem?_append_right (Nat.le_refl _), Nat.sub_self] at h1;rw [← h.1, List.getElem?_append_right (Nat.le_refl _), Nat.sub_self] at h2;simp only [List.getElem?_cons_zero, Option.some.injEq] at h1 h2;subst h1;subst h2;exact hr
theorem LentEs.map {w w' : World} {base base' : Nat} {rs rs' : List α} (h : LentEs LX w base rs rs') (f : ∀ r r', LX w base r r' → LX w' base' r r') : LentEs LX w' base' rs rs' := ⟨h.1, fun k r r' h1 h2 => f _ _ (h.2 k r r' h1 h2)⟩
theorem LentEs.ext (L : LentLaw tys LX) {w w' : World} {base : Nat} {rs rs' : List α} (h : LentEs LX w base rs rs') (hb : Below w.heap.size w w') : LentEs LX w' base rs rs' := h.map fun _ _ h => L.ext h hb
theorem LentEs.grown (L : LentLaw tys LX) {w w' : World} {base base' : Nat} {rs rs' : List α} {e : TypeId} {size : Nat} {vr : Value} {n : Nat} {ys : List Value} (he : e ∉ tys) (h : LentEs LX w base rs rs') (ho : w.ownsRow base' e size vr n ys) (hg : w.grownBy w' vr.ownBlock) : LentEs LX w' base rs rs' := h.map fun _ _ h => L.grown he h ho hg
theorem LentEs.same {w : World} {base : Nat} {rs rs' : List α} {SD : α → α → Prop} (h : LentEs LX w base rs rs') (f : ∀ r r', LX w base r r' → SD r' r) : SameEs SD rs' rs := ⟨h.1, fun k r s hr hs => f _ _ (h.2 k s r hs hr)⟩
theorem LentL.chg (L : LentLaw tys LX) {S : Nat → Prop} {w w' : World} {base : Nat} {v : Value} {rs rs' : List α} (h : LentL cs size ty LX mk w base v rs rs') (hc : Chg S w w') (hn : ∀ k, S k → k < base) : LentL cs size ty LX mk w' base v rs rs' := by
 obtain ⟨g, cap, rfl, hown, hl⟩ := h
 exact ⟨g, cap, rfl, ownsRow_chg hown hc (fun k hk hs => by have := (hown.lt k hk).1; have := hn k hs; omega), hl.map fun _ _ h => L.chg h hc hn⟩
theorem LentL.ext (L : LentLaw tys LX) {w w' : World} {base : Nat} {v : Value} {rs rs' : List α} (h : LentL cs size ty LX mk w base v rs rs') (hb : Below w.heap.size w w') : LentL cs size ty LX mk w' base v rs rs' := h.chg L (chg_below hb) fun k hk => hk.elim
theorem LentL.mono (L : LentLaw tys LX) {w : World} {base base' : Nat} {v : Value} {rs rs' : List α} (h : LentL cs size ty LX mk w base v rs rs') (hb : base' ≤ base) : LentL cs size ty LX mk w base' v rs rs' := by
 obtain ⟨g, cap, rfl, hown, hl⟩ := h
 exact ⟨g, cap, rfl, hown.mono hb, hl.map fun _ _ h => L.mono hb h⟩
theorem LentL.grown (L : LentLaw tys LX) {w w' : World} {base base' : Nat} {v vr : Value} {rs rs' : List α} {e : TypeId} {size' n : Nat} {ys : List Value} (he : e ∉ ty :: tys) (h : LentL cs size ty LX mk w base v rs rs') (ho : w.ownsRow base' e size' vr n ys) (hg : w.grownBy w' vr.ownBlock) : LentL cs size ty LX mk w' base v rs rs' := by
 simp only [List.mem_cons, not_or] at he
 obtain ⟨g, cap, rfl, hown, hl⟩ := h
 exact ⟨g, cap, rfl, hown.kept hg (Or.inr (fun e2 => rows_ne hown ho (fun e3 => he.1 e3.symm) g rfl e2.symm)), hl.map fun _ _ h => L.grown he.2 h ho hg⟩
theorem LentL.form {w : World} {base : Nat} {v : Value} {rs rs' : List α} (h : LentL cs size ty LX mk w base v rs rs') : ∃ g cap, v = .slice (some ⟨g, 0, none⟩) rs.length cap := by
 obtain ⟨g, cap, rfl, _⟩ := h
 exact ⟨g, cap, rfl⟩
theorem LentL.recs (hcs : ∀ x, (cs x).length = size) (hs0 : 0 < size) {w : World} {base : Nat} {g n cap : Nat} {rs rs' : List α} (h : LentL cs size ty LX mk w base (.slice (some ⟨g, 0, none⟩) n cap) rs rs') (hn : n ≤ 1000000) :
  Recs size cs w (some ⟨g, 0, none⟩) (n + 12) (rs' ++ markL mk) ∧ rs.length = n ∧ rs'.length = n ∧ n + 12 ≤ cap ∧ cap ≤ maxLen ∧ LentEs LX w base rs rs' := by
 obtain ⟨g', cap', e, hown, hl⟩ := h
 injection e with e1 e2 e3
 injection e1 with e1
 injection e1 with e1 _ _
 subst e1
 subst e3
 have hrl : rs.length = n := e2.symm
 have hlen : rs'.length = n := by rw [hl.1, hrl]
 have hll : (rs' ++ markL mk).length = n + 12 := by rw [List.length_append, markL_len, hlen]
 have hc : n + 12 ≤ cap ∧ cap ≤ maxLen := by
  rcases hown.2 with ⟨_, h0⟩ | ⟨g', cap', cur, hv, _, _, h1, h2, _⟩
  · omega
  · injection hv with _ _ hcc;subst hcc;rw [hrl] at h1;exact ⟨h1, h2⟩
 rw [hrl, ← hll] at hown
 obtain ⟨a2, c2, e, hr, _⟩ := recs_of_own hcs hown (by rw [hll]; omega)
 injection e with e1 _ _
 subst e1
 rw [hll] at hr
 exact ⟨hr, hrl, hlen, hc.1, hc.2, hl⟩
theorem Recs.takeN {w : World} {a : Option Addr} {n m : Nat} {rs : List α} (h : Recs size cs w a n rs) (hm : m ≤ n) : Recs size cs w a m (rs.take m) :=
 ⟨by rw [List.length_take, h.1]; omega, by have := h.2.1; omega, fun j x hx => by
  refine h.2.2 j x ?_;have hj := (List.getElem?_eq_some_iff.1 hx).1;rw [List.length_take] at hj
  rwa [List.getElem?_take, if_pos (by omega)] at hx⟩
theorem LentL.recsN (hcs : ∀ x, (cs x).length = size) (hs0 : 0 < size) {w : World} {base : Nat} {g n cap : Nat} {rs rs' : List α} (h : LentL cs size ty LX mk w base (.slice (some ⟨g, 0, none⟩) n cap) rs rs') (hn : n ≤ 1000000) : Recs size cs w (some ⟨g, 0, none⟩) n rs' := by
 obtain ⟨h1, _, h2, _⟩ := h.recs hcs hs0 hn
 have := h1.takeN (m := n) (by omega)
 rwa [List.take_append_of_le_length (by omega), List.take_of_length_le (by omega)] at this
theorem markL_all {OK : α → Prop} (h : ∀ k, k < 12 → OK (mk k)) : ∀ r ∈ markL mk, OK r := fun r hm => by
 obtain ⟨k, hk, e⟩ := List.mem_iff_getElem.1 hm
 rw [markL_len] at hk
 have : r = mk k := by rw [← e]; simp [markL]
 rw [this]
 exact h k hk
end
end

section
open Go.RowKit
def InsNA (r : InsR) : Prop := r.na ≤ 1000000
def SDIns (r s : InsR) : Prop := r.d = s.d
theorem SDIns_refl (r : InsR) : SDIns r r := rfl
theorem info_Ins : (Tryz.prog.info? 216).map (fun i => (i.zero, i.size, i.bytes)) = some (some (.agg #[.int .i64 0, .int .i64 0, .int .i64 0, .int .i64 0, .int .i64 0, .int .i64 0, .slice none 0 0, .int .i64 0]), 8, 80) := by kernel_rfl
theorem Ins_one (r : InsR) : ∀ u ∈ insC r, u.oneCell' = true := by
 intro u hu
 simp only [insC, List.mem_cons, List.not_mem_nil, or_false] at hu
 rcases hu with rfl | rfl | rfl | rfl | rfl | rfl | rfl | rfl <;> rfl
def LentR (w : World) (base : Nat) (r r' : InsR) : Prop := r'.d = r.d ∧ Lent w base (.slice r'.aa r'.na r'.ca) r.d.args
theorem LentR.sd {w : World} {base : Nat} {r r' : InsR} (h : LentR w base r r') : SDIns r' r := h.1
theorem LentR_law : LentLaw [3] LentR where
 chg := fun h hc hn => ⟨h.1, h.2.chg hc hn⟩
 mono := fun hb h => ⟨h.1, h.2.mono hb⟩
 grown := fun he h ho hg => ⟨h.1, h.2.grown (fun e => he (by simp [e])) ho hg⟩
theorem LentR.ok {w : World} {base : Nat} {r r' : InsR} (h : LentR w base r r') (hr : InsOK w r) (_ : InsNA r) : InsOK w r' := by
 obtain ⟨hd, hl⟩ := h
 obtain ⟨a, c, e, hi⟩ := hl.ints (by rw [hr.1.1]; exact hr.1.2.1) hr.1.mem
 obtain ⟨g, cap, e2, hc, _⟩ := hl.cells
 injection e with e1 e2' e3
 injection e2 with f1 f2 f3
 refine ⟨?_, by omega, ?_⟩
 · rw [hd, e1, e2']; exact hi
 · rw [hd]; exact hr.2.2
def markR (i : Nat) : InsR := ⟨⟨0, 0, 0, 0, markV 1 (i : Int), 0, [], 0⟩, none, 0, 0⟩
theorem markR_ok (w : World) (k : Nat) (hk : k < 12) : InsOK w (markR k) := by
 have hm : I64 (markV 1 (k : Int)) := by unfold I64 markV; omega
 have z : I64 0 := by unfold I64; omega
 exact ⟨⟨rfl, Nat.zero_le _, fun j hj => absurd hj (by simp [markR])⟩, Nat.le_refl _, z, z, z, z, hm, z, z⟩
theorem markR_na (k : Nat) : InsNA (markR k) := by simp [InsNA, markR]
theorem lentIns_any (r : InsR) (w : World) (h : InsOK w r) (hn : InsNA r) :
  Calls Tryz.prog 209 #[insVR r] w fun e w' => ∃ r', e = .returned (insVR r') ∧ LentR w' w.heap.size r r' ∧ Below w.heap.size w w' := by
 have H := Lib.hid h
 have HN := Lib.hid hn
 clear h hn
 go_enter Tryz.func209, Tryz.ntmps209
 go_wp2_with (first
  | (go_at_call 52
     refine (lentInts_any r.aa r.na r.ca r.d.args _ (H.out.1.ext (ext_trans (ext_alloc _ _) (ext_alloc _ _))) HN.out).mono ?_;rintro e w1 ⟨v, rfl, hL, hb⟩;obtain ⟨g0, cap0, rfl⟩ := hL.form;obtain ⟨x1, x2, x3⟩ := box2 w (.cells #[.int .i64 r.d.op, .int .i64 r.d.dst, .int .i64 r.d.a, .int .i64 r.d.b, .int .i64 r.d.imm, .int .i64 r.d.callee, .slice r.aa r.na r.ca, .int .i64 r.d.many] 216) (.cells #[.int .i64 0, .int .i64 0, .int .i64 0, .int .i64 0, .int .i64 0, .int .i64 0, .slice none 0 0, .int .i64 0] 216) w1 hb;have y6 : w1.cell? ⟨w.heap.size, 6, none⟩ = some (.slice r.aa r.na r.ca) := by rw [cell_of_row _ _ _ _ _ _ x1]; rfl
     have z6 : w1.frozen? ⟨w.heap.size, 6, none⟩ = false := frozen_of_row _ _ _ _ _ x1;obtain ⟨W1, hW2⟩ : ∃ W, w1.setCell ⟨w.heap.size, 6, none⟩ (.slice (some ⟨g0, 0, none⟩) r.d.args.length cap0) = W := ⟨_, rfl⟩
     have c2 : Chg (fun k => k = w.heap.size) w1 W1 := by rw [← hW2]; exact chg_setCell _ _ _ _
     have HL1_0 := Lib.hid (hL.chg c2 (fun k hk => by simp; omega));have X1 : W1.heap[w.heap.size]? = some (.cells #[.int .i64 r.d.op, .int .i64 r.d.dst, .int .i64 r.d.a, .int .i64 r.d.b, .int .i64 r.d.imm, .int .i64 r.d.callee, .slice (some ⟨g0, 0, none⟩) r.d.args.length cap0, .int .i64 r.d.many] 216 (0, 0)) := by rw [← hW2, heap_setCell_same _ _ 6 _ _ _ x1]; rfl
     have HK1 := Lib.hid X1;have HZ1 := Lib.hid (c2.row x2 (by omega));have HX1 := Lib.hid (x3.trans (c2.below (B := w.heap.size) x3.size (fun k hk => by omega)));have i1_0 : W1.cell? ⟨w.heap.size, 0, none⟩ = some (.int .i64 r.d.op) := by rw [cell_of_row _ _ _ _ _ _ X1]; rfl
     have i1_1 : W1.cell? ⟨w.heap.size, 1, none⟩ = some (.int .i64 r.d.dst) := by rw [cell_of_row _ _ _ _ _ _ X1]; rfl
     have i1_2 : W1.cell? ⟨w.heap.size, 2, none⟩ = some (.int .i64 r.d.a) := by rw [cell_of_row _ _ _ _ _ _ X1]; rfl
     have i1_3 : W1.cell? ⟨w.heap.size, 3, none⟩ = some (.int .i64 r.d.b) := by rw [cell_of_row _ _ _ _ _ _ X1]; rfl
     have i1_4 : W1.cell? ⟨w.heap.size, 4, none⟩ = some (.int .i64 r.d.imm) := by rw [cell_of_row _ _ _ _ _ _ X1]; rfl
     have i1_5 : W1.cell? ⟨w.heap.size, 5, none⟩ = some (.int .i64 r.d.callee) := by rw [cell_of_row _ _ _ _ _ _ X1]; rfl
     have i1_6 : W1.cell? ⟨w.heap.size, 6, none⟩ = some (.slice (some ⟨g0, 0, none⟩) r.d.args.length cap0) := by rw [cell_of_row _ _ _ _ _ _ X1]; rfl
     have i1_7 : W1.cell? ⟨w.heap.size, 7, none⟩ = some (.int .i64 r.d.many) := by rw [cell_of_row _ _ _ _ _ _ X1]; rfl
     clear hL x1 x2 x3 hb c2 X1)
  | (refine wpList_store_rowC rfl 216 _ _ rfl (w.heap.size + 1) #[.int .i64 r.d.op, .int .i64 r.d.dst, .int .i64 r.d.a, .int .i64 r.d.b, .int .i64 r.d.imm, .int .i64 r.d.callee, .slice (some ⟨g0, 0, none⟩) r.d.args.length cap0, .int .i64 r.d.many] rfl rfl 216 _ HZ1.out (by kernel_rfl) rfl (by simp [Value.oneCell']) ?_
     intro W9 c3 X3;have HL9_0 := Lib.hid (HL1_0.out.chg c3 (fun k hk => by simp; omega));have HX9 := Lib.hid (HX1.out.trans (c3.below (B := w.heap.size) HX1.out.size (fun k hk => by omega)));have j0 : W9.cell? ⟨w.heap.size + 1, 0, none⟩ = some (.int .i64 r.d.op) := by rw [cell_of_row _ _ _ _ _ _ X3]; rfl
     have j1 : W9.cell? ⟨w.heap.size + 1, 1, none⟩ = some (.int .i64 r.d.dst) := by rw [cell_of_row _ _ _ _ _ _ X3]; rfl
     have j2 : W9.cell? ⟨w.heap.size + 1, 2, none⟩ = some (.int .i64 r.d.a) := by rw [cell_of_row _ _ _ _ _ _ X3]; rfl
     have j3 : W9.cell? ⟨w.heap.size + 1, 3, none⟩ = some (.int .i64 r.d.b) := by rw [cell_of_row _ _ _ _ _ _ X3]; rfl
     have j4 : W9.cell? ⟨w.heap.size + 1, 4, none⟩ = some (.int .i64 r.d.imm) := by rw [cell_of_row _ _ _ _ _ _ X3]; rfl
     have j5 : W9.cell? ⟨w.heap.size + 1, 5, none⟩ = some (.int .i64 r.d.callee) := by rw [cell_of_row _ _ _ _ _ _ X3]; rfl
     have j6 : W9.cell? ⟨w.heap.size + 1, 6, none⟩ = some (.slice (some ⟨g0, 0, none⟩) r.d.args.length cap0) := by rw [cell_of_row _ _ _ _ _ _ X3]; rfl
     have j7 : W9.cell? ⟨w.heap.size + 1, 7, none⟩ = some (.int .i64 r.d.many) := by rw [cell_of_row _ _ _ _ _ _ X3]; rfl
     clear c3 X3))
 refine bodyPost_ret (v := .agg #[.int .i64 r.d.op, .int .i64 r.d.dst, .int .i64 r.d.a, .int .i64 r.d.b, .int .i64 r.d.imm, .int .i64 r.d.callee, .slice (some ⟨g0, 0, none⟩) r.d.args.length cap0, .int .i64 r.d.many]) (by simp [results, Tryz.results209, go_sem, j0, j1, j2, j3, j4, j5, j6, j7]) rfl ⟨⟨r.d, some ⟨g0, 0, none⟩, r.d.args.length, cap0⟩, rfl, ?_, HX9.out⟩
 exact ⟨rfl, HL9_0.out.mono (by simp; omega)⟩
theorem sameIns_any (r s : InsR) (w : World) (hd : SDIns r s) (hr : InsOK w r) (hs : InsOK w s) (hna : InsNA s) :
  Calls Tryz.prog 183 #[insVR r, insVR s] w fun e w' => e = .returned (.bool true) ∧ Below w.heap.size w w' := by
 obtain ⟨dr, ra, rn, rc⟩ := r
 obtain rfl : dr = s.d := hd
 have HR := Lib.hid hr
 have HS := Lib.hid hs
 clear hr hs hna
 obtain ⟨W0, HW0, hR, hS, hW0⟩ := boxes2 w (.cells #[.int .i64 s.d.op, .int .i64 s.d.dst, .int .i64 s.d.a, .int .i64 s.d.b, .int .i64 s.d.imm, .int .i64 s.d.callee, .slice ra rn rc, .int .i64 s.d.many] 216) (.cells #[.int .i64 s.d.op, .int .i64 s.d.dst, .int .i64 s.d.a, .int .i64 s.d.b, .int .i64 s.d.imm, .int .i64 s.d.callee, .slice s.aa s.na s.ca, .int .i64 s.d.many] 216)
 have x0 : ∀ w', Below W0.heap.size W0 w' → w'.cell? ⟨w.heap.size, 0, none⟩ = some (.int .i64 s.d.op) := fun w' hb => by rw [cell_of_row _ _ _ _ _ _ (block_ext hb hR)]; rfl
 have x1 : ∀ w', Below W0.heap.size W0 w' → w'.cell? ⟨w.heap.size, 1, none⟩ = some (.int .i64 s.d.dst) := fun w' hb => by rw [cell_of_row _ _ _ _ _ _ (block_ext hb hR)]; rfl
 have x2 : ∀ w', Below W0.heap.size W0 w' → w'.cell? ⟨w.heap.size, 2, none⟩ = some (.int .i64 s.d.a) := fun w' hb => by rw [cell_of_row _ _ _ _ _ _ (block_ext hb hR)]; rfl
 have x3 : ∀ w', Below W0.heap.size W0 w' → w'.cell? ⟨w.heap.size, 3, none⟩ = some (.int .i64 s.d.b) := fun w' hb => by rw [cell_of_row _ _ _ _ _ _ (block_ext hb hR)]; rfl
 have x4 : ∀ w', Below W0.heap.size W0 w' → w'.cell? ⟨w.heap.size, 4, none⟩ = some (.int .i64 s.d.imm) := fun w' hb => by rw [cell_of_row _ _ _ _ _ _ (block_ext hb hR)]; rfl
 have x5 : ∀ w', Below W0.heap.size W0 w' → w'.cell? ⟨w.heap.size, 5, none⟩ = some (.int .i64 s.d.callee) := fun w' hb => by rw [cell_of_row _ _ _ _ _ _ (block_ext hb hR)]; rfl
 have x6 : ∀ w', Below W0.heap.size W0 w' → w'.cell? ⟨w.heap.size, 6, none⟩ = some (.slice ra rn rc) := fun w' hb => by rw [cell_of_row _ _ _ _ _ _ (block_ext hb hR)]; rfl
 have x7 : ∀ w', Below W0.heap.size W0 w' → w'.cell? ⟨w.heap.size, 7, none⟩ = some (.int .i64 s.d.many) := fun w' hb => by rw [cell_of_row _ _ _ _ _ _ (block_ext hb hR)]; rfl
 have y0 : ∀ w', Below W0.heap.size W0 w' → w'.cell? ⟨w.heap.size + 1, 0, none⟩ = some (.int .i64 s.d.op) := fun w' hb => by rw [cell_of_row _ _ _ _ _ _ (block_ext hb hS)]; rfl
 have y1 : ∀ w', Below W0.heap.size W0 w' → w'.cell? ⟨w.heap.size + 1, 1, none⟩ = some (.int .i64 s.d.dst) := fun w' hb => by rw [cell_of_row _ _ _ _ _ _ (block_ext hb hS)]; rfl
 have y2 : ∀ w', Below W0.heap.size W0 w' → w'.cell? ⟨w.heap.size + 1, 2, none⟩ = some (.int .i64 s.d.a) := fun w' hb => by rw [cell_of_row _ _ _ _ _ _ (block_ext hb hS)]; rfl
 have y3 : ∀ w', Below W0.heap.size W0 w' → w'.cell? ⟨w.heap.size + 1, 3, none⟩ = some (.int .i64 s.d.b) := fun w' hb => by rw [cell_of_row _ _ _ _ _ _ (block_ext hb hS)]; rfl
 have y4 : ∀ w', Below W0.heap.size W0 w' → w'.cell? ⟨w.heap.size + 1, 4, none⟩ = some (.int .i64 s.d.imm) := fun w' hb => by rw [cell_of_row _ _ _ _ _ _ (block_ext hb hS)]; rfl
 have y5 : ∀ w', Below W0.heap.size W0 w' → w'.cell? ⟨w.heap.size + 1, 5, none⟩ = some (.int .i64 s.d.callee) := fun w' hb => by rw [cell_of_row _ _ _ _ _ _ (block_ext hb hS)]; rfl
 have y6 : ∀ w', Below W0.heap.size W0 w' → w'.cell? ⟨w.heap.size + 1, 6, none⟩ = some (.slice s.aa s.na s.ca) := fun w' hb => by rw [cell_of_row _ _ _ _ _ _ (block_ext hb hS)]; rfl
 have y7 : ∀ w', Below W0.heap.size W0 w' → w'.cell? ⟨w.heap.size + 1, 7, none⟩ = some (.int .i64 s.d.many) := fun w' hb => by rw [cell_of_row _ _ _ _ _ _ (block_ext hb hS)]; rfl
 have E0 : Below W0.heap.size W0 W0 := Below.refl _ _
 clear hR hS
 go_enter Tryz.func183, Tryz.ntmps183
 go_wp2_with (first
  | (go_at_call 44
     refine (sameInts_any ra s.aa rn s.na rc s.ca s.d.args s.d.args W0 ((HR.out.1.ext HW0.out).ext E0) ((HS.out.1.ext HW0.out).ext E0)).mono ?_;rw [decide_eq_true rfl];rintro e w1 ⟨rfl, q1, hq1⟩;have E1 : Below W0.heap.size W0 w1 := by rw [hq1]; exact ext_drewN E0 q1
     clear hq1))
 go_ret
 exact ⟨rfl, ext_trans HW0.out E1⟩
theorem keptIns_any (r s : InsR) (base : Nat) (w : World) (h : LentR w base s r) (hs : InsOK w s) (hn : InsNA s) :
  Calls Tryz.prog 210 #[insVR r, insVR s] w fun e w' => e = .returned (.bool true) ∧ Below w.heap.size w w' := by
 have HR := Lib.hid (h.ok hs hn)
 have HS := Lib.hid hs
 have HH := Lib.hid h
 have HN := Lib.hid hn
 have HD := Lib.hid h.sd
 clear hs h hn
 obtain ⟨W0, HW0, hR, hS, hW0⟩ := boxes2 w (.cells #[.int .i64 r.d.op, .int .i64 r.d.dst, .int .i64 r.d.a, .int .i64 r.d.b, .int .i64 r.d.imm, .int .i64 r.d.callee, .slice r.aa r.na r.ca, .int .i64 r.d.many] 216) (.cells #[.int .i64 s.d.op, .int .i64 s.d.dst, .int .i64 s.d.a, .int .i64 s.d.b, .int .i64 s.d.imm, .int .i64 s.d.callee, .slice s.aa s.na s.ca, .int .i64 s.d.many] 216)
 have x0 : ∀ w', Below W0.heap.size W0 w' → w'.cell? ⟨w.heap.size, 0, none⟩ = some (.int .i64 r.d.op) := fun w' hb => by rw [cell_of_row _ _ _ _ _ _ (block_ext hb hR)]; rfl
 have x1 : ∀ w', Below W0.heap.size W0 w' → w'.cell? ⟨w.heap.size, 1, none⟩ = some (.int .i64 r.d.dst) := fun w' hb => by rw [cell_of_row _ _ _ _ _ _ (block_ext hb hR)]; rfl
 have x2 : ∀ w', Below W0.heap.size W0 w' → w'.cell? ⟨w.heap.size, 2, none⟩ = some (.int .i64 r.d.a) := fun w' hb => by rw [cell_of_row _ _ _ _ _ _ (block_ext hb hR)]; rfl
 have x3 : ∀ w', Below W0.heap.size W0 w' → w'.cell? ⟨w.heap.size, 3, none⟩ = some (.int .i64 r.d.b) := fun w' hb => by rw [cell_of_row _ _ _ _ _ _ (block_ext hb hR)]; rfl
 have x4 : ∀ w', Below W0.heap.size W0 w' → w'.cell? ⟨w.heap.size, 4, none⟩ = some (.int .i64 r.d.imm) := fun w' hb => by rw [cell_of_row _ _ _ _ _ _ (block_ext hb hR)]; rfl
 have x5 : ∀ w', Below W0.heap.size W0 w' → w'.cell? ⟨w.heap.size, 5, none⟩ = some (.int .i64 r.d.callee) := fun w' hb => by rw [cell_of_row _ _ _ _ _ _ (block_ext hb hR)]; rfl
 have x6 : ∀ w', Below W0.heap.size W0 w' → w'.cell? ⟨w.heap.size, 6, none⟩ = some (.slice r.aa r.na r.ca) := fun w' hb => by rw [cell_of_row _ _ _ _ _ _ (block_ext hb hR)]; rfl
 have x7 : ∀ w', Below W0.heap.size W0 w' → w'.cell? ⟨w.heap.size, 7, none⟩ = some (.int .i64 r.d.many) := fun w' hb => by rw [cell_of_row _ _ _ _ _ _ (block_ext hb hR)]; rfl
 have y0 : ∀ w', Below W0.heap.size W0 w' → w'.cell? ⟨w.heap.size + 1, 0, none⟩ = some (.int .i64 s.d.op) := fun w' hb => by rw [cell_of_row _ _ _ _ _ _ (block_ext hb hS)]; rfl
 have y1 : ∀ w', Below W0.heap.size W0 w' → w'.cell? ⟨w.heap.size + 1, 1, none⟩ = some (.int .i64 s.d.dst) := fun w' hb => by rw [cell_of_row _ _ _ _ _ _ (block_ext hb hS)]; rfl
 have y2 : ∀ w', Below W0.heap.size W0 w' → w'.cell? ⟨w.heap.size + 1, 2, none⟩ = some (.int .i64 s.d.a) := fun w' hb => by rw [cell_of_row _ _ _ _ _ _ (block_ext hb hS)]; rfl
 have y3 : ∀ w', Below W0.heap.size W0 w' → w'.cell? ⟨w.heap.size + 1, 3, none⟩ = some (.int .i64 s.d.b) := fun w' hb => by rw [cell_of_row _ _ _ _ _ _ (block_ext hb hS)]; rfl
 have y4 : ∀ w', Below W0.heap.size W0 w' → w'.cell? ⟨w.heap.size + 1, 4, none⟩ = some (.int .i64 s.d.imm) := fun w' hb => by rw [cell_of_row _ _ _ _ _ _ (block_ext hb hS)]; rfl
 have y5 : ∀ w', Below W0.heap.size W0 w' → w'.cell? ⟨w.heap.size + 1, 5, none⟩ = some (.int .i64 s.d.callee) := fun w' hb => by rw [cell_of_row _ _ _ _ _ _ (block_ext hb hS)]; rfl
 have y6 : ∀ w', Below W0.heap.size W0 w' → w'.cell? ⟨w.heap.size + 1, 6, none⟩ = some (.slice s.aa s.na s.ca) := fun w' hb => by rw [cell_of_row _ _ _ _ _ _ (block_ext hb hS)]; rfl
 have y7 : ∀ w', Below W0.heap.size W0 w' → w'.cell? ⟨w.heap.size + 1, 7, none⟩ = some (.int .i64 s.d.many) := fun w' hb => by rw [cell_of_row _ _ _ _ _ _ (block_ext hb hS)]; rfl
 have E0 : Below W0.heap.size W0 W0 := Below.refl _ _
 clear hR hS
 go_enter Tryz.func210, Tryz.ntmps210
 go_wp2_with (first
  | (go_at_call 63
     refine (keptInts_any base _ s.aa s.na s.ca s.d.args w1 (LentR_law.ext (LentR_law.ext HH.out HW0.out) E1).2 ((HS.out.ext HW0.out).ext E1).1 HN.out).mono ?_;rintro e w2 ⟨rfl, q2, hq2⟩;have E2 : Below W0.heap.size W0 w2 := by rw [hq2]; exact ext_drewN E1 q2
     clear hq2)
  | (go_at_call 183
     refine (sameIns_any r s W0 HD.out (HR.out.ext HW0.out) (HS.out.ext HW0.out) HN.out).mono ?_
     rintro e w1 ⟨rfl, E1⟩))
 go_ret
 exact ⟨rfl, ext_trans HW0.out E2⟩
theorem markIns_any (i : Nat) (w : World) (hi : i ≤ 100000) :
  Calls Tryz.prog 182 #[.int .i64 1, .int .i64 (i : Int)] w fun e w' => e = .returned (insVR (markR i)) ∧ Below w.heap.size w w' := by
 go_enter Tryz.func182, Tryz.ntmps182
 go_wp2_with (first
  | (go_at_call 112; refine (mark_any _ _ _ (by omega) (by omega)).mono ?_; rintro e w' ⟨rfl, rfl⟩)
  | (refine wpList_store_rowB rfl 216 _ _ rfl w.heap.size #[.int .i64 0, .int .i64 0, .int .i64 0, .int .i64 0, .int .i64 (markV 1 (i : Int)), .int .i64 0, .slice none 0 0, .int .i64 0] rfl rfl 216 _ (heap_alloc_new w _) (by kernel_rfl) rfl (by simp [Value.oneCell']) w.heap.size w (ext_alloc w _) (Nat.le_refl _) ?_
     intro W3 hb3 X3;have HX := Lib.hid hb3;have j0 : W3.cell? ⟨w.heap.size, 0, none⟩ = some (.int .i64 0) := by rw [cell_of_row _ _ _ _ _ _ X3]; rfl
     have j1 : W3.cell? ⟨w.heap.size, 1, none⟩ = some (.int .i64 0) := by rw [cell_of_row _ _ _ _ _ _ X3]; rfl
     have j2 : W3.cell? ⟨w.heap.size, 2, none⟩ = some (.int .i64 0) := by rw [cell_of_row _ _ _ _ _ _ X3]; rfl
     have j3 : W3.cell? ⟨w.heap.size, 3, none⟩ = some (.int .i64 0) := by rw [cell_of_row _ _ _ _ _ _ X3]; rfl
     have j4 : W3.cell? ⟨w.heap.size, 4, none⟩ = some (.int .i64 (markV 1 (i : Int))) := by rw [cell_of_row _ _ _ _ _ _ X3]; rfl
     have j5 : W3.cell? ⟨w.heap.size, 5, none⟩ = some (.int .i64 0) := by rw [cell_of_row _ _ _ _ _ _ X3]; rfl
     have j6 : W3.cell? ⟨w.heap.size, 6, none⟩ = some (.slice none 0 0) := by rw [cell_of_row _ _ _ _ _ _ X3]; rfl
     have j7 : W3.cell? ⟨w.heap.size, 7, none⟩ = some (.int .i64 0) := by rw [cell_of_row _ _ _ _ _ _ X3]; rfl
     clear hb3 X3))
 refine bodyPost_ret (v := insVR (markR i)) (by simp [results, Tryz.results182, go_sem, j0, j1, j2, j3, j4, j5, j6, j7, markR]) rfl ⟨rfl, HX.out⟩
abbrev LentRow (w : World) (base : Nat) (v : Value) (rs rs' : List InsR) : Prop := LentL insC 8 216 LentR markR w base v rs rs'
def LentRowPost (w : World) (rs : List InsR) (e : Ending) (w' : World) : Prop := ∃ v rs', e = .returned v ∧ LentRow w' w.heap.size v rs rs' ∧ Below w.heap.size w w'
theorem LentRow.okS {w : World} {base : Nat} {g n cap : Nat} {rs rs' : List InsR} {a : Option Addr} (h : LentRow w base (.slice (some ⟨g, 0, none⟩) n cap) rs rs') (hs : InsS w a n rs) (hn : n ≤ 1000000) (hna : ∀ r ∈ rs, InsNA r) :
  InsS w (some ⟨g, 0, none⟩) (n + 12) (rs' ++ markL markR) ∧ InsS w (some ⟨g, 0, none⟩) n rs' ∧ rs'.length = n ∧ n + 12 ≤ cap ∧ cap ≤ maxLen ∧ LentEs LentR w base rs rs' := by
 obtain ⟨h1, h2, h3, h4, h5, h6⟩ := h.recs insC_len (by omega) hn
 have ho : ∀ r ∈ rs', InsOK w r := fun r hm => by
  obtain ⟨k, hk, e⟩ := List.mem_iff_getElem.1 hm;have hk2 : k < rs.length := by rw [← h6.1]; exact hk
  exact (h6.2 k rs[k] r (List.getElem?_eq_getElem hk2) (by rw [List.getElem?_eq_getElem hk, e])).ok (hs.2 _ (List.getElem_mem hk2)) (hna _ (List.getElem_mem hk2))
 refine ⟨⟨h1, fun r hm => ?_⟩, ⟨h.recsN insC_len (by omega) hn, ho⟩, h3, h4, h5, h6⟩
 rcases List.mem_append.1 hm with hm | hm
 · exact ho r hm
 · exact markL_all (OK := fun r => InsOK w r) (fun j hj => markR_ok w j hj) r hm
theorem lentRow_any (a : Option Addr) (n c : Nat) (rs : List InsR) (w : World) (h : InsS w a n rs) (hn : n ≤ 1000000) (hna : ∀ r ∈ rs, InsNA r) :
  Calls Tryz.prog 170 #[.slice a n c] w (LentRowPost w rs) := by
 obtain ⟨i0, hi, hz0, hz1, hz2⟩ := info_parts (P := Tryz.prog) info_Ins
 have HL := Lib.hid h.1.1
 have H := Lib.hid h
 have HNA := Lib.hid hna
 clear h hna
 go_enter Tryz.func170, Tryz.ntmps170
 go_wp2_with (first
  | (at_make
     refine wpList_make_own _ rfl _ _ 71 rfl w.heap.size 216 i0 _ 8 Tryz.underlying71 hi hz0 hz1 .i64 .i64 _ (n + 12) rfl rfl (by omega) (by rw [hz2]; omega) (by simp only [maxLen]; omega) (Nat.le_refl _) ?_;intro w1 hown1 hg1;have HO1 := Lib.hid hown1;have HB1 : Hid (Below w.heap.size w w1) := (Below.refl _ _).grown hg1 (Nat.le_refl _) (by simp)
     clear hown1 hg1))
 go_loopw [3, 4, 5] (fun v i _ wr => ∃ (k : Nat) (rs' : List InsR), k ≤ n ∧ i = .int .i64 k ∧ Hid (wr.ownsRow w.heap.size 216 8 v k (rs'.flatMap insC)) ∧ Hid (LentEs LentR wr w.heap.size (rs.take k) rs') ∧ Hid (Below w.heap.size w wr)) (fun _ i _ _ => n - (intOf i).toNat)
 case atStart => exact ⟨0, [], by omega, rfl, HO1, LentEs.nil _ _, HB1⟩
 case round =>
  obtain ⟨k, rs', hk, rfl, HO, HLR, HB⟩ := hrel;by_cases hlt : k < n
  · obtain ⟨r, b, o, hr, hok, rfl, y0, y1, y2, y3, y4, y5, y6, y7⟩ := (H.out.ext HB.out).cells hlt;have HG := Lib.hid hr;have HOK := Lib.hid hok;have HTK : Hid (rs.take (k + 1) = rs.take k ++ [r]) := by rw [Hid, List.take_add_one, hr]; rfl
    have HNr := Lib.hid (HNA.out r (List.mem_of_getElem? hr));clear hr hok
    go_wp2_with (first
     | (go_at_call 209
        refine (lentIns_any r wr HOK.out HNr.out).mono ?_;rintro e w1 ⟨r', rfl, hL, hb⟩;have HLr := Lib.hid hL;have HB1 := Lib.hid hb
        clear hL hb y0 y1 y2 y3 y4 y5 y6 y7)
     | (refine wpList_store_rowB rfl 216 _ _ rfl w1.heap.size #[.int .i64 r'.d.op, .int .i64 r'.d.dst, .int .i64 r'.d.a, .int .i64 r'.d.b, .int .i64 r'.d.imm, .int .i64 r'.d.callee, .slice r'.aa r'.na r'.ca, .int .i64 r'.d.many] rfl rfl 216 _ (heap_alloc_new w1 _) (by kernel_rfl) rfl (by simp [Value.oneCell']) w1.heap.size w1 (ext_alloc w1 _) (Nat.le_refl _) ?_
        intro W3 hb3 X3;have HB3 := Lib.hid (ext_trans HB1.out hb3);have HLr3 := Lib.hid (LentR_law.ext (LentR_law.mono HB.out.size HLr.out) hb3);have i0 : W3.cell? ⟨w1.heap.size, 0, none⟩ = some (.int .i64 r'.d.op) := by rw [cell_of_row _ _ _ _ _ _ X3]; rfl
        have i1 : W3.cell? ⟨w1.heap.size, 1, none⟩ = some (.int .i64 r'.d.dst) := by rw [cell_of_row _ _ _ _ _ _ X3]; rfl
        have i2 : W3.cell? ⟨w1.heap.size, 2, none⟩ = some (.int .i64 r'.d.a) := by rw [cell_of_row _ _ _ _ _ _ X3]; rfl
        have i3 : W3.cell? ⟨w1.heap.size, 3, none⟩ = some (.int .i64 r'.d.b) := by rw [cell_of_row _ _ _ _ _ _ X3]; rfl
        have i4 : W3.cell? ⟨w1.heap.size, 4, none⟩ = some (.int .i64 r'.d.imm) := by rw [cell_of_row _ _ _ _ _ _ X3]; rfl
        have i5 : W3.cell? ⟨w1.heap.size, 5, none⟩ = some (.int .i64 r'.d.callee) := by rw [cell_of_row _ _ _ _ _ _ X3]; rfl
        have i6 : W3.cell? ⟨w1.heap.size, 6, none⟩ = some (.slice r'.aa r'.na r'.ca) := by rw [cell_of_row _ _ _ _ _ _ X3]; rfl
        have i7 : W3.cell? ⟨w1.heap.size, 7, none⟩ = some (.int .i64 r'.d.many) := by rw [cell_of_row _ _ _ _ _ _ X3]; rfl
        clear hb3 X3)
     | (at_builtin
        go_loud (
         have HO1 := Lib.hid ((Steady.ownsRow wr.heap.size _ _ _ _ _ _).ext HO.out HB3.out);refine wpList_append1 rfl W3 (.tmp 22) (.tmp 24) 71 216 rfl w.heap.size _ 8 80 Tryz.underlying71 info_Ins rfl (by omega) u3 k _ (insC r') rfl HO1.out W3.heap.size rfl rfl rfl (Ins_one r') (by simp only [maxLen]; omega) (by omega) (ext_trans HB.out HB3.out).size ?_;intro g cap w4 hown4 hg4 hat4;have HO4 : Hid (w4.ownsRow w.heap.size 216 8 (.slice (some ⟨g, 0, none⟩) (k + 1) cap) (k + 1) ((rs' ++ [r']).flatMap insC)) := by rw [Hid, List.flatMap_append]; simpa using hown4
         have HB4 : Hid (Below w.heap.size w w4) := (ext_trans HB.out HB3.out).grown hg4 (ext_trans HB.out HB3.out).size (fun j e => (HO1.out.lt j e).1);have HL4 : Hid (LentEs LentR w4 w.heap.size (rs.take (k + 1)) (rs' ++ [r'])) := by
          rw [Hid, HTK.out];exact ((HLR.out.ext LentR_law HB3.out).snoc HLr3.out).grown LentR_law (by decide) HO1.out hg4
         clear hown4 hg4 hat4 i0 i1 i2 i3 i4 i5 i6 i7)))
    go_roundw
    case rel => exact ⟨k + 1, rs' ++ [r'], by omega, by go_num, HO4, HL4, HB4⟩
    case measure => simp [intOf]; omega
  · obtain rfl : k = n := by omega
    have HLR1 : Hid (LentEs LentR wr w.heap.size rs rs') := by
     have := HLR.out;rw [List.take_of_length_le (by rw [HL.out]; omega)] at this;exact this
    have HO1 : Hid (wr.ownsRow w.heap.size 216 8 u3 (k + 0) ((rs' ++ (markL markR).take 0).flatMap insC)) := by rw [Hid]; simpa using HO.out
    clear HLR HO;go_wp2
    go_loopw [3, 6] (fun v i wr => ∃ (j : Nat), j ≤ 12 ∧ i = .int .i64 j ∧ Hid (wr.ownsRow w.heap.size 216 8 v (k + j) ((rs' ++ (markL markR).take j).flatMap insC)) ∧ Hid (LentEs LentR wr w.heap.size rs rs') ∧ Hid (Below w.heap.size w wr)) (fun _ i _ => 12 - (intOf i).toNat)
    case atStart => exact ⟨0, by omega, rfl, HO1, HLR1, HB⟩
    case round =>
     clear HO1 HLR1 HB;obtain ⟨j, hj, rfl, HO, HLR, HB⟩ := hrel;by_cases hlt : j < 12
     · go_wp2_with (first
        | (go_at_call 182; refine (markIns_any j _ (by omega)).mono ?_; rintro e w1 ⟨rfl, hb1⟩; have HB1 := Lib.hid hb1; clear hb1)
        | (at_builtin
           go_loud (
            have HO1 := Lib.hid ((Steady.ownsRow wr.heap.size _ _ _ _ _ _).ext HO.out HB1.out);refine wpList_append1 rfl w1 (.tmp 30) (.tmp 33) 71 216 rfl w.heap.size _ 8 80 Tryz.underlying71 info_Ins rfl (by omega) u3 (k + j) _ (insC (markR j)) rfl HO1.out w1.heap.size rfl rfl rfl (Ins_one _) (by simp only [maxLen]; omega) (by omega) (ext_trans HB.out HB1.out).size ?_;intro g cap w4 hown4 hg4 hat4;have HO4 : Hid (w4.ownsRow w.heap.size 216 8 (.slice (some ⟨g, 0, none⟩) (k + j + 1) cap) (k + j + 1) ((rs' ++ (markL markR).take (j + 1)).flatMap insC)) := by rw [Hid, markL_take markR j hlt, ← List.append_assoc, List.flatMap_append]; simpa using hown4
            have HB4 : Hid (Below w.heap.size w w4) := (ext_trans HB.out HB1.out).grown hg4 (ext_trans HB.out HB1.out).size (fun j e => (HO1.out.lt j e).1);have HL4 : Hid (LentEs LentR w4 w.heap.size rs rs') := (HLR.out.ext LentR_law HB1.out).grown LentR_law (by decide) HO1.out hg4
            clear hown4 hg4 hat4)))
       go_roundw
       case rel => exact ⟨j + 1, by omega, by go_num, HO4, HL4, HB4⟩
       case measure => simp [intOf]; omega
     · obtain rfl : j = 12 := by omega
       have hown := HO.out;have hform : ∃ g cap, u3 = .slice (some ⟨g, 0, none⟩) (k + 12) cap ∧ k + 12 ≤ cap ∧ cap ≤ maxLen := by
        rcases hown.2 with ⟨_, h0⟩ | ⟨g', cap', cur, hv, _, _, h1, h2, _⟩
        · omega
        · exact ⟨_, _, hv, h1, h2⟩
       obtain ⟨g, cap, rfl, hc1, hc2⟩ := hform;clear hown;unfold maxLen at hc2;go_wp2
       go_ret
       refine ⟨_, rs', rfl, ⟨g, cap, by rw [HL.out]; rfl, ?_, HLR.out⟩, HB.out⟩;have := HO.out;rw [HL.out];rw [List.take_of_length_le (by rw [markL_len]; omega)] at this;exact this
theorem sameRow_any (a b : Option Addr) (n c d : Nat) (rs ss : List InsR) (w : World) (hr : InsS w a n rs) (hs : InsS w b n ss) (h : SameEs SDIns rs ss) (hna : ∀ r ∈ ss, InsNA r) :
  Calls Tryz.prog 172 #[.slice a n c, .slice b n d] w fun e w' => e = .returned (.bool true) ∧ Below w.heap.size w w' := by
 have HR := Lib.hid hr
 have HS := Lib.hid hs
 have HH := Lib.hid h
 have HNA := Lib.hid hna
 have hn := hr.1.2.1
 clear hr hs h hna
 have hne : ((n : Int) != (n : Int)) = false := by simp
 go_enter Tryz.func172, Tryz.ntmps172
 go_wp2
 go_loopw [5] (fun i wr => ∃ (k : Nat), k ≤ n ∧ i = .int .i64 k ∧ Hid (Below w.heap.size w wr)) (fun i _ => n - (intOf i).toNat)
 case atStart => exact ⟨0, by omega, rfl, Below.refl _ _⟩
 case round =>
  obtain ⟨k, hk, rfl, HB⟩ := hrel;by_cases hlt : k < n
  · obtain ⟨r, b1, o1, hr, hokr, rfl, y0, y1, y2, y3, y4, y5, y6, y7⟩ := (HR.out.ext HB.out).cells hlt;obtain ⟨s, b2, o2, hs, hoks, rfl, z0, z1, z2, z3, z4, z5, z6, z7⟩ := (HS.out.ext HB.out).cells hlt;have HD := Lib.hid (HH.out.2 k r s hr hs);have HNs := Lib.hid (HNA.out s (List.mem_of_getElem? hs));have HOr := Lib.hid hokr;have HOs := Lib.hid hoks;have hk0 : (0 : Int) ≤ (k : Int) := by omega
    have hk1 : (k : Int) < (n : Int) := by omega
    have kx0 : ∀ n : ExtW wr, n.val.cell? ⟨b1, o1 + k * 8, none⟩ = some (.int .i64 r.d.op) := fun n => cell_ext n.ext y0;have kx1 : ∀ n : ExtW wr, n.val.cell? ⟨b1, o1 + k * 8 + 1, none⟩ = some (.int .i64 r.d.dst) := fun n => cell_ext n.ext y1;have kx2 : ∀ n : ExtW wr, n.val.cell? ⟨b1, o1 + k * 8 + 2, none⟩ = some (.int .i64 r.d.a) := fun n => cell_ext n.ext y2;have kx3 : ∀ n : ExtW wr, n.val.cell? ⟨b1, o1 + k * 8 + 3, none⟩ = some (.int .i64 r.d.b) := fun n => cell_ext n.ext y3;have kx4 : ∀ n : ExtW wr, n.val.cell? ⟨b1, o1 + k * 8 + 4, none⟩ = some (.int .i64 r.d.imm) := fun n => cell_ext n.ext y4;have kx5 : ∀ n : ExtW wr, n.val.cell? ⟨b1, o1 + k * 8 + 5, none⟩ = some (.int .i64 r.d.callee) := fun n => cell_ext n.ext y5;have kx6 : ∀ n : ExtW wr, n.val.cell? ⟨b1, o1 + k * 8 + 6, none⟩ = some (.slice r.aa r.na r.ca) := fun n => cell_ext n.ext y6;have kx7 : ∀ n : ExtW wr, n.val.cell? ⟨b1, o1 + k * 8 + 7, none⟩ = some (.int .i64 r.d.many) := fun n => cell_ext n.ext y7;have ky0 : ∀ n : ExtW wr, n.val.cell? ⟨b2, o2 + k * 8, none⟩ = some (.int .i64 s.d.op) := fun n => cell_ext n.ext z0;have ky1 : ∀ n : ExtW wr, n.val.cell? ⟨b2, o2 + k * 8 + 1, none⟩ = some (.int .i64 s.d.dst) := fun n => cell_ext n.ext z1;have ky2 : ∀ n : ExtW wr, n.val.cell? ⟨b2, o2 + k * 8 + 2, none⟩ = some (.int .i64 s.d.a) := fun n => cell_ext n.ext z2;have ky3 : ∀ n : ExtW wr, n.val.cell? ⟨b2, o2 + k * 8 + 3, none⟩ = some (.int .i64 s.d.b) := fun n => cell_ext n.ext z3;have ky4 : ∀ n : ExtW wr, n.val.cell? ⟨b2, o2 + k * 8 + 4, none⟩ = some (.int .i64 s.d.imm) := fun n => cell_ext n.ext z4;have ky5 : ∀ n : ExtW wr, n.val.cell? ⟨b2, o2 + k * 8 + 5, none⟩ = some (.int .i64 s.d.callee) := fun n => cell_ext n.ext z5;have ky6 : ∀ n : ExtW wr, n.val.cell? ⟨b2, o2 + k * 8 + 6, none⟩ = some (.slice s.aa s.na s.ca) := fun n => cell_ext n.ext z6;have ky7 : ∀ n : ExtW wr, n.val.cell? ⟨b2, o2 + k * 8 + 7, none⟩ = some (.int .i64 s.d.many) := fun n => cell_ext n.ext z7;have HNE : Nonempty (ExtW wr) := ⟨⟨wr, Below.refl _ _⟩⟩
    clear hr hs hokr hoks y0 y1 y2 y3 y4 y5 y6 y7 z0 z1 z2 z3 z4 z5 z6 z7;go_wp2;refine region_ext (by kernel_rfl) (by kernel_rfl) ?_
    repeat (first
     | go_big_quiet_skip
     | go_big_quiet_step (first
       | (go_at_call 183; exact quiet_ext (sameIns_any r s _ HD.out (InsOK.ext HOr.out (ExtW.ext _)) (InsOK.ext HOs.out (ExtW.ext _)) HNs.out))))
    refine wpQuiet_nil ?_;rintro _ ⟨mm, rfl⟩;have HM := Lib.hid (ext_trans HB.out mm.ext);generalize mm.val = W8 at *;clear kx0 kx1 kx2 kx3 kx4 kx5 kx6 kx7 ky0 ky1 ky2 ky3 ky4 ky5 ky6 ky7;go_wp2
    go_roundw
    case rel => exact ⟨k + 1, by omega, by go_num, HM⟩
    case measure => simp [intOf]; omega
  · go_wp2
    go_ret
    exact ⟨rfl, HB.out⟩
theorem keptRow_any (base g cap : Nat) (a : Option Addr) (n c : Nat) (rs rs' : List InsR) (w : World) (h : LentRow w base (.slice (some ⟨g, 0, none⟩) n cap) rs rs') (hs : InsS w a n rs) (hn : n ≤ 1000000) (hna : ∀ r ∈ rs, InsNA r) :
  Calls Tryz.prog 171 #[.slice (some ⟨g, 0, none⟩) n cap, .slice a n c] w fun e w' => e = .returned (.bool true) ∧ Below w.heap.size w w' := by
 obtain ⟨h1, _, hlen, hc1, hc2, hl⟩ := h.okS hs hn hna
 have HA := Lib.hid h1
 have HS := Lib.hid hs
 have HL := Lib.hid hl
 have HLen := Lib.hid hlen
 have HNA := Lib.hid hna
 clear h hs h1 hl hlen hna
 unfold maxLen at hc2
 have hne : ((n : Int) != (n : Int)) = false := by simp
 go_enter Tryz.func171, Tryz.ntmps171
 go_wp2
 go_loopw [6] (fun i wr => ∃ (k : Nat), k ≤ n + 12 ∧ i = .int .i64 k ∧ Hid (Below w.heap.size w wr)) (fun i _ => n + 12 - (intOf i).toNat)
 case atStart => exact ⟨0, by omega, rfl, Below.refl _ _⟩
 case round =>
  obtain ⟨k, hk, rfl, HB⟩ := hrel;by_cases hlt : k < n + 12
  · obtain ⟨r, b1, o1, hr, hokr, hab, y0, y1, y2, y3, y4, y5, y6, y7⟩ := (HA.out.ext HB.out).cells hlt;injection hab with hab;injection hab with hab1 hab2 _;subst hab1;subst hab2;have HOr := Lib.hid hokr;rw [Nat.zero_add] at y0 y1 y2 y3 y4 y5 y6 y7;have kx0 : ∀ n : ExtW wr, n.val.cell? ⟨g, k * 8, none⟩ = some (.int .i64 r.d.op) := fun n => cell_ext n.ext y0;have kx1 : ∀ n : ExtW wr, n.val.cell? ⟨g, k * 8 + 1, none⟩ = some (.int .i64 r.d.dst) := fun n => cell_ext n.ext y1;have kx2 : ∀ n : ExtW wr, n.val.cell? ⟨g, k * 8 + 2, none⟩ = some (.int .i64 r.d.a) := fun n => cell_ext n.ext y2;have kx3 : ∀ n : ExtW wr, n.val.cell? ⟨g, k * 8 + 3, none⟩ = some (.int .i64 r.d.b) := fun n => cell_ext n.ext y3;have kx4 : ∀ n : ExtW wr, n.val.cell? ⟨g, k * 8 + 4, none⟩ = some (.int .i64 r.d.imm) := fun n => cell_ext n.ext y4;have kx5 : ∀ n : ExtW wr, n.val.cell? ⟨g, k * 8 + 5, none⟩ = some (.int .i64 r.d.callee) := fun n => cell_ext n.ext y5;have kx6 : ∀ n : ExtW wr, n.val.cell? ⟨g, k * 8 + 6, none⟩ = some (.slice r.aa r.na r.ca) := fun n => cell_ext n.ext y6;have kx7 : ∀ n : ExtW wr, n.val.cell? ⟨g, k * 8 + 7, none⟩ = some (.int .i64 r.d.many) := fun n => cell_ext n.ext y7;have HNE : Nonempty (ExtW wr) := ⟨⟨wr, Below.refl _ _⟩⟩
    by_cases hkn : k < n
    · rw [List.getElem?_append_left (by rw [HLen.out]; exact hkn)] at hr;obtain ⟨s, b2, o2, hs, hoks, rfl, z0, z1, z2, z3, z4, z5, z6, z7⟩ := (HS.out.ext HB.out).cells hkn;have HLk := Lib.hid (LentR_law.ext (HL.out.2 k s r hs hr) HB.out);have HOs := Lib.hid hoks;have HNs := Lib.hid (HNA.out s (List.mem_of_getElem? hs));have ky0 : ∀ n : ExtW wr, n.val.cell? ⟨b2, o2 + k * 8, none⟩ = some (.int .i64 s.d.op) := fun n => cell_ext n.ext z0;have ky1 : ∀ n : ExtW wr, n.val.cell? ⟨b2, o2 + k * 8 + 1, none⟩ = some (.int .i64 s.d.dst) := fun n => cell_ext n.ext z1;have ky2 : ∀ n : ExtW wr, n.val.cell? ⟨b2, o2 + k * 8 + 2, none⟩ = some (.int .i64 s.d.a) := fun n => cell_ext n.ext z2;have ky3 : ∀ n : ExtW wr, n.val.cell? ⟨b2, o2 + k * 8 + 3, none⟩ = some (.int .i64 s.d.b) := fun n => cell_ext n.ext z3;have ky4 : ∀ n : ExtW wr, n.val.cell? ⟨b2, o2 + k * 8 + 4, none⟩ = some (.int .i64 s.d.imm) := fun n => cell_ext n.ext z4;have ky5 : ∀ n : ExtW wr, n.val.cell? ⟨b2, o2 + k * 8 + 5, none⟩ = some (.int .i64 s.d.callee) := fun n => cell_ext n.ext z5;have ky6 : ∀ n : ExtW wr, n.val.cell? ⟨b2, o2 + k * 8 + 6, none⟩ = some (.slice s.aa s.na s.ca) := fun n => cell_ext n.ext z6;have ky7 : ∀ n : ExtW wr, n.val.cell? ⟨b2, o2 + k * 8 + 7, none⟩ = some (.int .i64 s.d.many) := fun n => cell_ext n.ext z7;have hk0 : (0 : Int) ≤ (k : Int) := by omega
      have hk1 : (k : Int) < (n : Int) := by omega
      have hk2 : (k : Int) < (n : Int) + 12 := by omega
      have d1 : decide ((k : Int) < (n : Int)) = true := by simpa using hkn
      have d2 : decide ((n : Int) ≤ (k : Int)) = false := by simp; omega
      have d3 : decide (k < n) = true := by simpa using hkn
      have d4 : decide (n ≤ k) = false := by simp; omega
      clear hr hs hoks hokr y0 y1 y2 y3 y4 y5 y6 y7 z0 z1 z2 z3 z4 z5 z6 z7 hkn;go_wp2;refine region_ext (by kernel_rfl) (by kernel_rfl) ?_
      repeat (go_big_quiet_step (first
       | (go_at_call 210; exact quiet_ext (keptIns_any r s base _ (LentR_law.ext HLk.out (ExtW.ext _)) (InsOK.ext HOs.out (ExtW.ext _)) HNs.out))))
      refine wpQuiet_nil ?_;rintro _ ⟨mm, rfl⟩;have HM := Lib.hid (ext_trans HB.out mm.ext);generalize mm.val = W8 at *;clear kx0 kx1 kx2 kx3 kx4 kx5 kx6 kx7 ky0 ky1 ky2 ky3 ky4 ky5 ky6 ky7;go_wp2
      go_roundw
      case rel => exact ⟨k + 1, by omega, by go_num, HM⟩
      case measure => simp [intOf]; omega
    · obtain ⟨j, rfl⟩ : ∃ j, k = n + j := ⟨k - n, by omega⟩
      have hj : j < 12 := by omega
      have hrm : r = markR j := by
       rw [List.getElem?_append_right (by rw [HLen.out]; omega), HLen.out, Nat.add_sub_cancel_left, markL_at markR j hj] at hr;exact (Option.some.inj hr).symm
      have HRM := Lib.hid hrm;have d1 : decide (n + j < n) = false := by simp
      have d2 : decide (n ≤ n + j) = true := by simp
      have d3 : decide ((n : Int) + (j : Int) < (n : Int)) = false := by simp; omega
      have d4 : decide ((n : Int) ≤ (n : Int) + (j : Int)) = true := by simp; omega
      have d5 : IntKind.i64.wrap ((n : Int) + (j : Int) - (n : Int)) = (j : Int) := by rw [IntKind.wrap_i64]; omega
      have hk0 : (0 : Int) ≤ (n : Int) + (j : Int) := by omega
      have hk2 : (n : Int) + (j : Int) < (n : Int) + 12 := by omega
      clear hr hrm hokr y0 y1 y2 y3 y4 y5 y6 y7 hkn;go_wp2;refine region_ext (by kernel_rfl) (by kernel_rfl) ?_
      repeat (go_big_quiet_step (first
       | (go_at_call 182; exact quiet_ext (markIns_any j _ (by omega)))
       | (go_at_call 183; exact quiet_ext (sameIns_any r (markR j) _ (by rw [HRM.out]; exact SDIns_refl _) (InsOK.ext HOr.out (ExtW.ext _)) (markR_ok _ j hj) (markR_na j)))))
      refine wpQuiet_nil ?_;rintro _ ⟨mm, rfl⟩;have HM := Lib.hid (ext_trans HB.out mm.ext);generalize mm.val = W8 at *;clear kx0 kx1 kx2 kx3 kx4 kx5 kx6 kx7;go_wp2
      go_roundw
      case rel => exact ⟨n + j + 1, by omega, by go_num, HM⟩
      case measure => simp [intOf]; omega
  · go_wp2
    go_ret
    exact ⟨rfl, HB.out⟩
end
end Go.Proofs.YtblhmdhfhaencaaGreat
