/-
 law18's own awake.
-/
import Derived.Test.YtblhmdhfhaencaaEO
import Derived.Test.YtblhmdhfhaencaaVP
import Derived.Test.YtblhmdhfhaencaaRowG
namespace Go.Proofs.Ytblhmdhfhaencaa
set_option linter.unusedSimpArgs false
set_option linter.unusedVariables false
set_option linter.unusedSectionVars false
set_option maxRecDepth 100000
set_option maxHeartbeats 40000000
section
open Go.RowKit
attribute [local go_sem] Oper.semAt_some wide_fn wide_depth wide_fnR wide_depthR

theorem intsLit {W : World} {g : Nat} {xs : List Int} {n : Nat} (h : W.heap[g]? = some (.cells (intVals xs).toArray 3 (0, 0))) (hn : xs.length = n) (hx : ∀ x ∈ xs, I64 x) (hl : n ≤ 1000) : Ints W (some ⟨g, 0, none⟩) n xs := by
 subst hn
 refine ⟨rfl, by omega, fun k hk => ⟨g, 0, rfl, ?_, hx _ ?_⟩⟩
 · rw [cell_of_row _ _ _ _ _ _ h, Nat.zero_add]
   simp [intVals, List.getD_eq_getElem?_getD, hk]
 · rw [List.getD_eq_getElem?_getD, List.getElem?_eq_getElem hk]; exact List.getElem_mem _
def awRs (g : Nat) : List SlR := [⟨[1], some ⟨g, 0, none⟩, 1⟩, ⟨[1, 2], some ⟨g + 1, 0, none⟩, 2⟩, ⟨[], none, 0⟩]
theorem i64s (l : List Int) (h : ∀ x ∈ l, -1000 ≤ x ∧ x ≤ 1000 := by decide) : ∀ x ∈ l, I64 x := fun x hx => by have := h x hx; unfold I64; omega
theorem aw_lrows (w : World) (W : World) (h : W = ((w.alloc (.cells #[.int .i64 1] 3)).alloc (.cells #[.int .i64 1, .int .i64 2] 3)).alloc (.cells #[.slice (some ⟨w.heap.size, 0, none⟩) 1 1, .slice (some ⟨w.heap.size + 1, 0, none⟩) 2 2, .slice none 0 0] 22)) :
  LRows W (some ⟨w.heap.size + 1 + 1, 0, none⟩) 3 (awRs w.heap.size) ∧ Below w.heap.size w W := by
 have h0 : W.heap[w.heap.size]? = some (.cells #[.int .i64 1] 3 (0, 0)) := by rw [h]; exact block_ext (ext_trans (ext_alloc _ _) (ext_alloc _ _)) (heap_alloc_new _ _)
 have h1 : W.heap[w.heap.size + 1]? = some (.cells #[.int .i64 1, .int .i64 2] 3 (0, 0)) := by rw [h]; have := block_ext (ext_alloc _ (.cells #[.slice (some ⟨w.heap.size, 0, none⟩) 1 1, .slice (some ⟨w.heap.size + 1, 0, none⟩) 2 2, .slice none 0 0] 22)) (heap_alloc_new (w.alloc (.cells #[.int .i64 1] 3)) (.cells #[.int .i64 1, .int .i64 2] 3)); simpa using this
 have h2 : W.heap[w.heap.size + 1 + 1]? = some (.cells #[.slice (some ⟨w.heap.size, 0, none⟩) 1 1, .slice (some ⟨w.heap.size + 1, 0, none⟩) 2 2, .slice none 0 0] 22 (0, 0)) := by rw [h]; have := heap_alloc_new ((w.alloc (.cells #[.int .i64 1] 3)).alloc (.cells #[.int .i64 1, .int .i64 2] 3)) (.cells #[.slice (some ⟨w.heap.size, 0, none⟩) 1 1, .slice (some ⟨w.heap.size + 1, 0, none⟩) 2 2, .slice none 0 0] 22); simpa using this
 refine ⟨⟨⟨rfl, by omega, fun k x hx => ⟨w.heap.size + 1 + 1, 0, rfl, fun j hj => ?_⟩⟩, fun r hr => ?_⟩, by rw [h]; exact (((Below.refl _ w).alloc (Nat.le_refl _) _).alloc (by simp) _).alloc (by simp; omega) _⟩
 · obtain rfl : j = 0 := by omega
   rw [cell_of_row _ _ _ _ _ _ h2]
   match k, hx with
   | 0, hx => injection hx with hx; subst hx; rfl
   | 1, hx => injection hx with hx; subst hx; rfl
   | 2, hx => injection hx with hx; subst hx; rfl
   | k + 3, hx => simp [awRs] at hx
 · simp only [awRs, List.mem_cons, List.not_mem_nil, or_false] at hr
   rcases hr with rfl | rfl | rfl
   · exact intsLit (xs := [1]) h0 rfl (i64s [1]) (by simp)
   · exact intsLit (xs := [1, 2]) h1 rfl (i64s [1, 2]) (by simp)
   · exact ⟨rfl, by simp, fun k hk => absurd hk (by simp)⟩
def awTiles (g : Nat) : List TileR := [⟨⟨1, -1, [0, 2]⟩, some ⟨g, 0, none⟩, 2, 2⟩, ⟨⟨2, 0, [1]⟩, some ⟨g + 1, 0, none⟩, 1, 1⟩]
theorem aw_tiles (w : World) (W : World) (h : W = ((w.alloc (.cells #[.int .i64 0, .int .i64 2] 3)).alloc (.cells #[.int .i64 1] 3)).alloc (.cells #[.int .i64 1, .int .i64 (-1), .slice (some ⟨w.heap.size, 0, none⟩) 2 2, .int .i64 2, .int .i64 0, .slice (some ⟨w.heap.size + 1, 0, none⟩) 1 1] 53)) :
  TilesOK W (some ⟨w.heap.size + 1 + 1, 0, none⟩) 2 (awTiles w.heap.size) ∧ Below w.heap.size w W := by
 have h0 : W.heap[w.heap.size]? = some (.cells #[.int .i64 0, .int .i64 2] 3 (0, 0)) := by rw [h]; exact block_ext (ext_trans (ext_alloc _ _) (ext_alloc _ _)) (heap_alloc_new _ _)
 have h1 : W.heap[w.heap.size + 1]? = some (.cells #[.int .i64 1] 3 (0, 0)) := by
  rw [h]
  have := block_ext (ext_alloc _ (.cells #[.int .i64 1, .int .i64 (-1), .slice (some ⟨w.heap.size, 0, none⟩) 2 2, .int .i64 2, .int .i64 0, .slice (some ⟨w.heap.size + 1, 0, none⟩) 1 1] 53)) (heap_alloc_new (w.alloc (.cells #[.int .i64 0, .int .i64 2] 3)) (.cells #[.int .i64 1] 3))
  simpa using this
 have h2 : W.heap[w.heap.size + 1 + 1]? = some (.cells #[.int .i64 1, .int .i64 (-1), .slice (some ⟨w.heap.size, 0, none⟩) 2 2, .int .i64 2, .int .i64 0, .slice (some ⟨w.heap.size + 1, 0, none⟩) 1 1] 53 (0, 0)) := by
  rw [h]
  have := heap_alloc_new ((w.alloc (.cells #[.int .i64 0, .int .i64 2] 3)).alloc (.cells #[.int .i64 1] 3)) (.cells #[.int .i64 1, .int .i64 (-1), .slice (some ⟨w.heap.size, 0, none⟩) 2 2, .int .i64 2, .int .i64 0, .slice (some ⟨w.heap.size + 1, 0, none⟩) 1 1] 53)
  simpa using this
 refine ⟨⟨⟨rfl, by omega, fun k x hx => ⟨w.heap.size + 1 + 1, 0, rfl, fun j hj => ?_⟩⟩, fun t ht => ?_⟩, by rw [h]; exact (((Below.refl _ w).alloc (Nat.le_refl _) _).alloc (by simp) _).alloc (by simp; omega) _⟩
 · rw [cell_of_row _ _ _ _ _ _ h2]
   match k, hx, j, hj with
   | 0, hx, 0, _ => injection hx with hx; subst hx; rfl
   | 0, hx, 1, _ => injection hx with hx; subst hx; rfl
   | 0, hx, 2, _ => injection hx with hx; subst hx; rfl
   | 1, hx, 0, _ => injection hx with hx; subst hx; rfl
   | 1, hx, 1, _ => injection hx with hx; subst hx; rfl
   | 1, hx, 2, _ => injection hx with hx; subst hx; rfl
   | k + 2, hx, _, _ => simp [awTiles] at hx
   | _, _, j + 3, hj => omega
 · simp only [awTiles, List.mem_cons, List.not_mem_nil, or_false] at ht
   rcases ht with rfl | rfl
   · exact ⟨intsLit (xs := [0, 2]) h0 rfl (i64s [0, 2]) (by simp), by simp, by show I64 1; unfold I64; omega, by show I64 (-1); unfold I64; omega⟩
   · exact ⟨intsLit (xs := [1]) h1 rfl (i64s [1]) (by simp), by simp, by show I64 2; unfold I64; omega, by show I64 0; unfold I64; omega⟩
theorem lit1 (w : World) : Ints (w.alloc (.cells #[.int .i64 1] 3)) (some ⟨w.heap.size, 0, none⟩) 1 [1] := intsLit (xs := [1]) (heap_alloc_new w _) rfl (i64s [1]) (by simp)
theorem blks_own {w : World} {base : Nat} {ba : Option Addr} {bc : Nat} {L : List (List Int)} (h : OwnR 115 5 blkC w base (.slice ba L.length bc) (L.map blkOf)) (hL : ∀ l ∈ L, ∀ x ∈ l, I64 x) : BlksOK w ba L.length (L.map blkOf) := by
 refine ⟨h.recs blkC_len, fun b hb => ?_⟩
 obtain ⟨l, hl, rfl⟩ := List.mem_map.1 hb
 have hx := hL l hl
 have i0 : I64 0 := by unfold I64; omega
 have i1 : I64 1 := by unfold I64; omega
 have i2 : I64 2 := by unfold I64; omega
 have i3 : I64 3 := by unfold I64; omega
 match l, hx with
 | [], _ => exact ⟨i3, i0, i0, i0⟩
 | [x], hx => exact ⟨i1, i0, hx x (by simp), i0⟩
 | [x, y], hx => exact ⟨i2, i1, hx x (by simp), hx y (by simp)⟩
 | x :: y :: z :: l, _ => exact ⟨i3, i0, i0, i0⟩
theorem aw_err : overErr awTs awL = 0 := by decide +kernel
theorem awake18_any (w : World) : Calls Try.prog 7 #[] w fun e w' => e = .returned (.bool true) ∧ Below w.heap.size w w' := by
 go_enter Try.func7, Try.ntmps7
 go_upto_region 2 with (
  (go_at_call 28
   obtain ⟨hl, hb0⟩ := aw_lrows w _ rfl
   refine (of18_any _ 3 3 _ _ hl (by omega)).mono ?_
   rintro e w2 ⟨pa, pc, ba, bc, he, hown, _, hb⟩
   obtain rfl : e = .returned (funcV pa 1 pc ba 3 bc) := he
   have HBLK := Lib.hid (blks_own (L := [[1], [1, 2], []]) hown (by intro l hl; simp only [List.mem_cons, List.not_mem_nil, or_false] at hl; rcases hl with rfl | rfl | rfl; exact i64s [1]; exact i64s [1, 2]; exact i64s []))
   have HB2 := Lib.hid (ext_trans hb0 hb)
   clear hl hb0 hown hb))
 obtain ⟨W3, hW3⟩ : ∃ W3, W3 = w2.alloc (funcO pa 1 pc ba 3 bc) := ⟨_, rfl⟩
 rw [← hW3]
 have hf3 : W3.heap[w2.heap.size]? = some (funcO pa 1 pc ba 3 bc) := by rw [hW3]; exact heap_alloc_new _ _
 have hb3 : Below w2.heap.size w2 W3 := by rw [hW3]; exact ext_alloc _ _
 have HF3 := Lib.hid hf3
 have HB3 := Lib.hid (ext_trans HB2.out hb3)
 have HBLK3 := Lib.hid (HBLK.out.ext hb3)
 generalize w2.heap.size = F at *
 clear hW3 hf3 hb3 HBLK HB2
 go_upto_region 3 with (fail)
 have hti := aw_tiles W3 _ rfl
 obtain ⟨W4, hW4⟩ : ∃ W4, W4 = ((W3.alloc (.cells #[.int .i64 0, .int .i64 2] 3)).alloc (.cells #[.int .i64 1] 3)).alloc (.cells #[.int .i64 1, .int .i64 (-1), .slice (some ⟨W3.heap.size, 0, none⟩) 2 2, .int .i64 2, .int .i64 0, .slice (some ⟨W3.heap.size + 1, 0, none⟩) 1 1] 53) := ⟨_, rfl⟩
 rw [← hW4] at hti ⊢
 have HTI := Lib.hid hti.1
 have HF4 := Lib.hid (block_ext hti.2 HF3.out)
 have HBLK4 := Lib.hid (HBLK3.out.ext hti.2)
 have HB4 := Lib.hid (ext_trans HB3.out hti.2)
 clear hW4 hti HF3 HBLK3 HB3
 generalize W3.heap.size = b9 at *
 go_upto_region 4 with (first
  | (refine wpList_load_row (o := ⟨some 15, .load 25 _, _, _, _, _⟩) rfl 25 _ rfl F rfl 25 _ (0, 0) _ HF4.out Try.underlying25 rfl size_func ?_)
  | (go_at_call 9
     refine (between_any pa 1 pc ba 3 bc ([[1], [1, 2], []].map blkOf) (some ⟨b9 + 1 + 1, 0, none⟩) 2 2 (awTiles b9) W4 HBLK4.out HTI.out (by show (3 : Nat) ≤ 1000000; omega)).mono ?_
     rintro e w5 ⟨v, he, hb5, _, hr⟩
     obtain rfl := he.trans (congrArg (fun z => Ending.returned (.tuple #[v, .int .i64 z])) aw_err)
     obtain ⟨hs, hrows, hmap⟩ := hr aw_right
     have hmap : hs.map (·.r) = [⟨⟨0, 0, 1⟩, [], [1]⟩, ⟨⟨1, 1, 2⟩, [1], []⟩] := hmap
     have HF5 := Lib.hid (block_ext hb5 HF4.out)
     have HBLK5 := Lib.hid (HBLK4.out.ext hb5)
     have HB5 := Lib.hid (ext_trans HB4.out hb5)
     have HROWS := Lib.hid hrows
     have HMAP := Lib.hid hmap
     clear hb5 hr hrows hmap))
 obtain ⟨h0, h1, rfl⟩ : ∃ h0 h1, hs = [h0, h1] := by
  have hm := congrArg List.length HMAP.out
  match hs, hm with
  | [h0, h1], _ => exact ⟨h0, h1, rfl⟩
 have hm := HMAP.out
 simp only [List.map_cons, List.map_nil, List.cons.injEq, and_true] at hm
 obtain ⟨r0, lv0, en0⟩ := h0
 obtain ⟨r1, lv1, en1⟩ := h1
 simp only at hm
 obtain ⟨rfl, rfl⟩ := hm
 obtain ⟨hown, hall⟩ := HROWS.out
 have hown2 : w5.ownsRow W4.heap.size 41 5 v 2 [.int .i64 0, .int .i64 0, .int .i64 1, lv0, en0, .int .i64 1, .int .i64 1, .int .i64 2, lv1, en1] := hown.1
 obtain ⟨g, c, rfl⟩ := own_form hown2 (by omega)
 have cat := fun j hj => World.ownsRow.cellAt hown2 j hj
 have e0 : w5.cell? ⟨g, 0, none⟩ = some (.int .i64 0) := cat 0 (by simp)
 have e1 : w5.cell? ⟨g, 1, none⟩ = some (.int .i64 0) := cat 1 (by simp)
 have e2 : w5.cell? ⟨g, 2, none⟩ = some (.int .i64 1) := cat 2 (by simp)
 have e3 : w5.cell? ⟨g, 3, none⟩ = some lv0 := cat 3 (by simp)
 have e4 : w5.cell? ⟨g, 4, none⟩ = some en0 := cat 4 (by simp)
 have e8 : w5.cell? ⟨g, 8, none⟩ = some lv1 := cat 8 (by simp)
 have o1 : OwnI w5 W4.heap.size lv0 [] := (hall _ (List.mem_cons_self ..)).1
 have o2 : OwnI w5 W4.heap.size en0 [1] := (hall _ (List.mem_cons_self ..)).2.1
 have o3 : OwnI w5 W4.heap.size lv1 [1] := (hall _ (List.mem_cons_of_mem _ (List.mem_cons_self ..))).1
 obtain ⟨a1, c1, rfl⟩ := o1.form
 obtain ⟨a2, c2, rfl⟩ := o2.form
 obtain ⟨a3, c3, rfl⟩ := o3.form
 have I2 := Lib.hid o2.ints
 have I3 := Lib.hid o3.ints
 have hq := fun w => eql_edge w ⟨0, 0, 1⟩ ⟨0, 0, 1⟩
 have hq1 : ∀ w, (binOp .eql 39 (.agg #[.int .i64 0, .int .i64 0, .int .i64 1]) (.agg #[.int .i64 0, .int .i64 0, .int .i64 1])).run Try.prog w = .ok (.bool true) w := fun w => hq w
 clear cat hown hown2 hall o1 o2 o3 hq HROWS HMAP
 go_wp2_with (first
  | (go_at_call 18
     refine (critical_any pa 1 pc ba 3 bc ([[1], [1, 2], []].map blkOf) ⟨1, 0, 1⟩ w7 HBLK7.out).mono ?_
     rintro e w8 ⟨he, hb8⟩
     obtain rfl := he.trans (congrArg (fun z => Ending.returned (.bool z)) aw_crit)
     have HB8 := Lib.hid (ext_trans HB7.out hb8)
     clear hb8 he)
  | (go_at_call 29
     refine (sameInts_any a3 (some ⟨w6.heap.size, 0, none⟩) 1 1 c3 1 [1] [1] (w6.alloc (.cells #[.int .i64 1] 3)) (I3.out.ext (ext_trans hb6.out (ext_alloc _ _))) (lit1 w6)).mono ?_
     rintro e w' ⟨he, q, hw7⟩
     rw [decide_eq_true (rfl : ([1] : List Int) = [1])] at he
     subst he
     obtain ⟨w7, h7⟩ : ∃ w7, w7 = w' := ⟨_, rfl⟩
     have hb7 : Below w6.heap.size w6 w7 := (by rw [h7, hw7]; exact ext_drewN (ext_alloc _ _) q)
     rw [← h7]
     have hf7 := block_ext hb7 HF6.out
     have k70 : w7.cell? ⟨F, 0, none⟩ = some (.slice pa 1 pc) := (by rw [cell_of_row _ _ _ _ _ _ hf7]; rfl)
     have k71 : w7.cell? ⟨F, 1, none⟩ = some (.slice ba 3 bc) := (by rw [cell_of_row _ _ _ _ _ _ hf7]; rfl)
     have HBLK7 := Lib.hid (HBLK6.out.ext hb7)
     have HB7 := Lib.hid (ext_trans HB6.out hb7)
     clear hw7 h7 hb7 hf7)
  | (go_at_call 29
     refine (sameInts_any a2 (some ⟨w5.heap.size, 0, none⟩) 1 1 c2 1 [1] [1] (w5.alloc (.cells #[.int .i64 1] 3)) (I2.out.ext (ext_alloc _ _)) (lit1 w5)).mono ?_
     rintro e w' ⟨he, q, hw6⟩
     rw [decide_eq_true (rfl : ([1] : List Int) = [1])] at he
     subst he
     obtain ⟨w6, h6⟩ : ∃ w6, w6 = w' := ⟨_, rfl⟩
     have hb6' : Below w5.heap.size w5 w6 := (by rw [h6, hw6]; exact ext_drewN (ext_alloc _ _) q)
     rw [← h6]
     have f3 := cell_ext hb6' e3
     have f8 := cell_ext hb6' e8
     have HF6 := Lib.hid (block_ext hb6' HF5.out)
     have HBLK6 := Lib.hid (HBLK5.out.ext hb6')
     have HB6 := Lib.hid (ext_trans HB5.out hb6')
     have hb6 := Lib.hid hb6'
     clear hw6 h6 hb6'))
 go_ret
 exact ⟨rfl, HB8.out⟩
end
end Go.Proofs.Ytblhmdhfhaencaa
