/-
 Tiles that are alike: SameTile, SameTiles.
-/
import Derived.Test.YtblhmdhfhaencaaGreatLR
import Derived.Test.YtblhmdhfhaencaaGreatRowG
import Derived.Test.YtblhmdhfhaencaaGreatBP
import Derived.Test.YtblhmdhfhaencaaGreatEW
import Derived.Test.YtblhmdhfhaencaaGreatRF
import Derived.Test.YtblhmdhfhaencaaGreatTD
import Derived.BigQuiet
import Derived.Deep.MidRow
import Derived.Test.YtblhmdhfhaencaaGreatCC
import Derived.Test.YtblhmdhfhaencaaGreatEA
import Derived.Deep.LoopGhost
import Derived.BigRegion
import Derived.Great.BuildSlice
import Derived.Test.YtblhmdhfhaencaaGreatTR
import Derived.RangeFuncNested
import Derived.Test.YtblhmdhfhaencaaGreatRC
namespace Go.Proofs.YtblhmdhfhaencaaGreat
set_option linter.unusedSimpArgs false
set_option linter.unusedVariables false
set_option linter.unusedSectionVars false
set_option maxRecDepth 100000
set_option maxHeartbeats 40000000
section
open Go.RowKit
def TileNA (t : TileR) : Prop := t.bn ≤ 1000000
abbrev TileOK (w : World) (t : TileR) : Prop := Ints w t.ba t.bn t.d.blocks ∧ t.bn ≤ t.bc ∧ I64 t.d.kind ∧ I64 t.d.parent
theorem TileOK.ext {w w' : World} {t : TileR} (h : TileOK w t) (hb : Below w.heap.size w w') : TileOK w' t := ⟨h.1.ext hb, h.2⟩
abbrev tileVR (t : TileR) : Value := .agg #[.int .i64 t.d.kind, .int .i64 t.d.parent, .slice t.ba t.bn t.bc]
def SDTile (r s : TileR) : Prop := r.d = s.d
theorem SDTile_refl (r : TileR) : SDTile r r := rfl
theorem sameTile_any (r s : TileR) (w : World) (hd : SDTile r s) (hr : TileOK w r) (hs : TileOK w s) (hna : TileNA s) :
  Calls Tryz.prog 66 #[tileVR r, tileVR s] w fun e w' => e = .returned (.bool true) ∧ Below w.heap.size w w' := by
 obtain ⟨dr, ra, rn, rc⟩ := r
 obtain rfl : dr = s.d := hd
 have HR := Lib.hid hr
 have HS := Lib.hid hs
 clear hr hs hna
 obtain ⟨W0, HW0, hR, hS, hW0⟩ := boxes2 w (.cells #[.int .i64 s.d.kind, .int .i64 s.d.parent, .slice ra rn rc] 76) (.cells #[.int .i64 s.d.kind, .int .i64 s.d.parent, .slice s.ba s.bn s.bc] 76)
 have x0 : ∀ w', Below W0.heap.size W0 w' → w'.cell? ⟨w.heap.size, 0, none⟩ = some (.int .i64 s.d.kind) := fun w' hb => by rw [cell_of_row _ _ _ _ _ _ (block_ext hb hR)]; rfl
 have x1 : ∀ w', Below W0.heap.size W0 w' → w'.cell? ⟨w.heap.size, 1, none⟩ = some (.int .i64 s.d.parent) := fun w' hb => by rw [cell_of_row _ _ _ _ _ _ (block_ext hb hR)]; rfl
 have x2 : ∀ w', Below W0.heap.size W0 w' → w'.cell? ⟨w.heap.size, 2, none⟩ = some (.slice ra rn rc) := fun w' hb => by rw [cell_of_row _ _ _ _ _ _ (block_ext hb hR)]; rfl
 have y0 : ∀ w', Below W0.heap.size W0 w' → w'.cell? ⟨w.heap.size + 1, 0, none⟩ = some (.int .i64 s.d.kind) := fun w' hb => by rw [cell_of_row _ _ _ _ _ _ (block_ext hb hS)]; rfl
 have y1 : ∀ w', Below W0.heap.size W0 w' → w'.cell? ⟨w.heap.size + 1, 1, none⟩ = some (.int .i64 s.d.parent) := fun w' hb => by rw [cell_of_row _ _ _ _ _ _ (block_ext hb hS)]; rfl
 have y2 : ∀ w', Below W0.heap.size W0 w' → w'.cell? ⟨w.heap.size + 1, 2, none⟩ = some (.slice s.ba s.bn s.bc) := fun w' hb => by rw [cell_of_row _ _ _ _ _ _ (block_ext hb hS)]; rfl
 have E0 : Below W0.heap.size W0 W0 := Below.refl _ _
 clear hR hS
 go_enter Tryz.func66, Tryz.ntmps66
 go_wp2_with (first
  | (go_at_call 44
     refine (sameInts_any ra s.ba rn s.bn rc s.bc s.d.blocks s.d.blocks W0 ((HR.out.1.ext HW0.out).ext E0) ((HS.out.1.ext HW0.out).ext E0)).mono ?_;rw [decide_eq_true rfl];rintro e w1 ⟨rfl, q1, hq1⟩;have E1 : Below W0.heap.size W0 w1 := by rw [hq1]; exact ext_drewN E0 q1
     clear hq1))
 go_ret
 exact ⟨rfl, ext_trans HW0.out E1⟩
end

section
open Go.RowKit
theorem info_Tile : (Tryz.prog.info? 76).map (fun i => (i.zero, i.size, i.bytes)) = some (some (.agg #[.int .i64 0, .int .i64 0, .slice none 0 0]), 3, 40) := by kernel_rfl
theorem Tile_one (r : TileR) : ∀ u ∈ tileC r, u.oneCell' = true := by
 intro u hu
 simp only [tileC, List.mem_cons, List.not_mem_nil, or_false] at hu
 rcases hu with rfl | rfl | rfl <;> rfl
def LentT (w : World) (base : Nat) (r r' : TileR) : Prop := r'.d = r.d ∧ Lent w base (.slice r'.ba r'.bn r'.bc) r.d.blocks
theorem LentT.sd {w : World} {base : Nat} {r r' : TileR} (h : LentT w base r r') : SDTile r' r := h.1
theorem LentT_law : LentLaw [3] LentT where
 chg := fun h hc hn => ⟨h.1, h.2.chg hc hn⟩
 mono := fun hb h => ⟨h.1, h.2.mono hb⟩
 grown := fun he h ho hg => ⟨h.1, h.2.grown (fun e => he (by simp [e])) ho hg⟩
theorem LentT.ok {w : World} {base : Nat} {r r' : TileR} (h : LentT w base r r') (hr : TileOK w r) (_ : TileNA r) : TileOK w r' := by
 obtain ⟨hd, hl⟩ := h
 obtain ⟨a, c, e, hi⟩ := hl.ints (by rw [hr.1.1]; exact hr.1.2.1) hr.1.mem
 obtain ⟨g, cap, e2, hc, _⟩ := hl.cells
 injection e with e1 e2' e3
 injection e2 with f1 f2 f3
 refine ⟨?_, by omega, ?_⟩
 · rw [hd, e1, e2']; exact hi
 · rw [hd]; exact hr.2.2
def markT (i : Nat) : TileR := ⟨⟨0, markV 1 (i : Int), []⟩, none, 0, 0⟩
theorem markT_ok (w : World) (k : Nat) (hk : k < 12) : TileOK w (markT k) := by
 have hm : I64 (markV 1 (k : Int)) := by unfold I64 markV; omega
 have z : I64 0 := by unfold I64; omega
 exact ⟨⟨rfl, Nat.zero_le _, fun j hj => absurd hj (by simp [markT])⟩, Nat.le_refl _, z, hm⟩
theorem markT_na (k : Nat) : TileNA (markT k) := by simp [TileNA, markT]
theorem lentTile_any (r : TileR) (w : World) (h : TileOK w r) (hn : TileNA r) :
  Calls Tryz.prog 54 #[tileVR r] w fun e w' => ∃ r', e = .returned (tileVR r') ∧ LentT w' w.heap.size r r' ∧ Below w.heap.size w w' := by
 have H := Lib.hid h
 have HN := Lib.hid hn
 clear h hn
 go_enter Tryz.func54, Tryz.ntmps54
 go_wp2_with (first
  | (go_at_call 52
     refine (lentInts_any r.ba r.bn r.bc r.d.blocks _ (H.out.1.ext (ext_trans (ext_alloc _ _) (ext_alloc _ _))) HN.out).mono ?_;rintro e w1 ⟨v, rfl, hL, hb⟩;obtain ⟨g0, cap0, rfl⟩ := hL.form;obtain ⟨x1, x2, x3⟩ := box2 w (.cells #[.int .i64 r.d.kind, .int .i64 r.d.parent, .slice r.ba r.bn r.bc] 76) (.cells #[.int .i64 0, .int .i64 0, .slice none 0 0] 76) w1 hb;have y6 : w1.cell? ⟨w.heap.size, 2, none⟩ = some (.slice r.ba r.bn r.bc) := by rw [cell_of_row _ _ _ _ _ _ x1]; rfl
     have z6 : w1.frozen? ⟨w.heap.size, 2, none⟩ = false := frozen_of_row _ _ _ _ _ x1;obtain ⟨W1, hW2⟩ : ∃ W, w1.setCell ⟨w.heap.size, 2, none⟩ (.slice (some ⟨g0, 0, none⟩) r.d.blocks.length cap0) = W := ⟨_, rfl⟩
     have c2 : Chg (fun k => k = w.heap.size) w1 W1 := by rw [← hW2]; exact chg_setCell _ _ _ _
     have HL1_0 := Lib.hid (hL.chg c2 (fun k hk => by simp; omega));have X1 : W1.heap[w.heap.size]? = some (.cells #[.int .i64 r.d.kind, .int .i64 r.d.parent, .slice (some ⟨g0, 0, none⟩) r.d.blocks.length cap0] 76 (0, 0)) := by rw [← hW2, heap_setCell_same _ _ 2 _ _ _ x1]; rfl
     have HK1 := Lib.hid X1;have HZ1 := Lib.hid (c2.row x2 (by omega));have HX1 := Lib.hid (x3.trans (c2.below (B := w.heap.size) x3.size (fun k hk => by omega)));have i1_0 : W1.cell? ⟨w.heap.size, 0, none⟩ = some (.int .i64 r.d.kind) := by rw [cell_of_row _ _ _ _ _ _ X1]; rfl
     have i1_1 : W1.cell? ⟨w.heap.size, 1, none⟩ = some (.int .i64 r.d.parent) := by rw [cell_of_row _ _ _ _ _ _ X1]; rfl
     have i1_2 : W1.cell? ⟨w.heap.size, 2, none⟩ = some (.slice (some ⟨g0, 0, none⟩) r.d.blocks.length cap0) := by rw [cell_of_row _ _ _ _ _ _ X1]; rfl
     clear hL x1 x2 x3 hb c2 X1)
  | (refine wpList_store_rowC rfl 76 _ _ rfl (w.heap.size + 1) #[.int .i64 r.d.kind, .int .i64 r.d.parent, .slice (some ⟨g0, 0, none⟩) r.d.blocks.length cap0] rfl rfl 76 _ HZ1.out (by kernel_rfl) rfl (by simp [Value.oneCell']) ?_
     intro W9 c3 X3;have HL9_0 := Lib.hid (HL1_0.out.chg c3 (fun k hk => by simp; omega));have HX9 := Lib.hid (HX1.out.trans (c3.below (B := w.heap.size) HX1.out.size (fun k hk => by omega)));have j0 : W9.cell? ⟨w.heap.size + 1, 0, none⟩ = some (.int .i64 r.d.kind) := by rw [cell_of_row _ _ _ _ _ _ X3]; rfl
     have j1 : W9.cell? ⟨w.heap.size + 1, 1, none⟩ = some (.int .i64 r.d.parent) := by rw [cell_of_row _ _ _ _ _ _ X3]; rfl
     have j2 : W9.cell? ⟨w.heap.size + 1, 2, none⟩ = some (.slice (some ⟨g0, 0, none⟩) r.d.blocks.length cap0) := by rw [cell_of_row _ _ _ _ _ _ X3]; rfl
     clear c3 X3))
 refine bodyPost_ret (v := .agg #[.int .i64 r.d.kind, .int .i64 r.d.parent, .slice (some ⟨g0, 0, none⟩) r.d.blocks.length cap0]) (by simp [results, Tryz.results54, go_sem, j0, j1, j2]) rfl ⟨⟨r.d, some ⟨g0, 0, none⟩, r.d.blocks.length, cap0⟩, rfl, ?_, HX9.out⟩
 exact ⟨rfl, HL9_0.out.mono (by simp; omega)⟩
theorem keptTile_any (r s : TileR) (base : Nat) (w : World) (h : LentT w base s r) (hs : TileOK w s) (hn : TileNA s) :
  Calls Tryz.prog 65 #[tileVR r, tileVR s] w fun e w' => e = .returned (.bool true) ∧ Below w.heap.size w w' := by
 have HR := Lib.hid (h.ok hs hn)
 have HS := Lib.hid hs
 have HH := Lib.hid h
 have HN := Lib.hid hn
 have HD := Lib.hid h.sd
 clear hs h hn
 obtain ⟨W0, HW0, hR, hS, hW0⟩ := boxes2 w (.cells #[.int .i64 r.d.kind, .int .i64 r.d.parent, .slice r.ba r.bn r.bc] 76) (.cells #[.int .i64 s.d.kind, .int .i64 s.d.parent, .slice s.ba s.bn s.bc] 76)
 have x0 : ∀ w', Below W0.heap.size W0 w' → w'.cell? ⟨w.heap.size, 0, none⟩ = some (.int .i64 r.d.kind) := fun w' hb => by rw [cell_of_row _ _ _ _ _ _ (block_ext hb hR)]; rfl
 have x1 : ∀ w', Below W0.heap.size W0 w' → w'.cell? ⟨w.heap.size, 1, none⟩ = some (.int .i64 r.d.parent) := fun w' hb => by rw [cell_of_row _ _ _ _ _ _ (block_ext hb hR)]; rfl
 have x2 : ∀ w', Below W0.heap.size W0 w' → w'.cell? ⟨w.heap.size, 2, none⟩ = some (.slice r.ba r.bn r.bc) := fun w' hb => by rw [cell_of_row _ _ _ _ _ _ (block_ext hb hR)]; rfl
 have y0 : ∀ w', Below W0.heap.size W0 w' → w'.cell? ⟨w.heap.size + 1, 0, none⟩ = some (.int .i64 s.d.kind) := fun w' hb => by rw [cell_of_row _ _ _ _ _ _ (block_ext hb hS)]; rfl
 have y1 : ∀ w', Below W0.heap.size W0 w' → w'.cell? ⟨w.heap.size + 1, 1, none⟩ = some (.int .i64 s.d.parent) := fun w' hb => by rw [cell_of_row _ _ _ _ _ _ (block_ext hb hS)]; rfl
 have y2 : ∀ w', Below W0.heap.size W0 w' → w'.cell? ⟨w.heap.size + 1, 2, none⟩ = some (.slice s.ba s.bn s.bc) := fun w' hb => by rw [cell_of_row _ _ _ _ _ _ (block_ext hb hS)]; rfl
 have E0 : Below W0.heap.size W0 W0 := Below.refl _ _
 clear hR hS
 go_enter Tryz.func65, Tryz.ntmps65
 go_wp2_with (first
  | (go_at_call 63
     refine (keptInts_any base _ s.ba s.bn s.bc s.d.blocks w1 (LentT_law.ext (LentT_law.ext HH.out HW0.out) E1).2 ((HS.out.ext HW0.out).ext E1).1 HN.out).mono ?_;rintro e w2 ⟨rfl, q2, hq2⟩;have E2 : Below W0.heap.size W0 w2 := by rw [hq2]; exact ext_drewN E1 q2
     clear hq2)
  | (go_at_call 66
     refine (sameTile_any r s W0 HD.out (HR.out.ext HW0.out) (HS.out.ext HW0.out) HN.out).mono ?_
     rintro e w1 ⟨rfl, E1⟩))
 go_ret
 exact ⟨rfl, ext_trans HW0.out E2⟩
theorem markTile_any (i : Nat) (w : World) (hi : i ≤ 100000) :
  Calls Tryz.prog 55 #[.int .i64 1, .int .i64 (i : Int)] w fun e w' => e = .returned (tileVR (markT i)) ∧ Below w.heap.size w w' := by
 go_enter Tryz.func55, Tryz.ntmps55
 go_wp2_with (first
  | (go_at_call 112; refine (mark_any _ _ _ (by omega) (by omega)).mono ?_; rintro e w' ⟨rfl, rfl⟩)
  | (refine wpList_store_rowB rfl 76 _ _ rfl w.heap.size #[.int .i64 0, .int .i64 (markV 1 (i : Int)), .slice none 0 0] rfl rfl 76 _ (heap_alloc_new w _) (by kernel_rfl) rfl (by simp [Value.oneCell']) w.heap.size w (ext_alloc w _) (Nat.le_refl _) ?_
     intro W3 hb3 X3;have HX := Lib.hid hb3;have j0 : W3.cell? ⟨w.heap.size, 0, none⟩ = some (.int .i64 0) := by rw [cell_of_row _ _ _ _ _ _ X3]; rfl
     have j1 : W3.cell? ⟨w.heap.size, 1, none⟩ = some (.int .i64 (markV 1 (i : Int))) := by rw [cell_of_row _ _ _ _ _ _ X3]; rfl
     have j2 : W3.cell? ⟨w.heap.size, 2, none⟩ = some (.slice none 0 0) := by rw [cell_of_row _ _ _ _ _ _ X3]; rfl
     clear hb3 X3))
 refine bodyPost_ret (v := tileVR (markT i)) (by simp [results, Tryz.results55, go_sem, j0, j1, j2, markT]) rfl ⟨rfl, HX.out⟩
abbrev LentTiles (w : World) (base : Nat) (v : Value) (rs rs' : List TileR) : Prop := LentL tileC 3 76 LentT markT w base v rs rs'
def LentTilesPost (w : World) (rs : List TileR) (e : Ending) (w' : World) : Prop := ∃ v rs', e = .returned v ∧ LentTiles w' w.heap.size v rs rs' ∧ Below w.heap.size w w'
theorem LentTiles.okS {w : World} {base : Nat} {g n cap : Nat} {rs rs' : List TileR} {a : Option Addr} (h : LentTiles w base (.slice (some ⟨g, 0, none⟩) n cap) rs rs') (hs : TilesOK w a n rs) (hn : n ≤ 1000000) (hna : ∀ r ∈ rs, TileNA r) :
  TilesOK w (some ⟨g, 0, none⟩) (n + 12) (rs' ++ markL markT) ∧ TilesOK w (some ⟨g, 0, none⟩) n rs' ∧ rs'.length = n ∧ n + 12 ≤ cap ∧ cap ≤ maxLen ∧ LentEs LentT w base rs rs' := by
 obtain ⟨h1, h2, h3, h4, h5, h6⟩ := h.recs tileC_len (by omega) hn
 have ho : ∀ r ∈ rs', TileOK w r := fun r hm => by
  obtain ⟨k, hk, e⟩ := List.mem_iff_getElem.1 hm;have hk2 : k < rs.length := by rw [← h6.1]; exact hk
  exact (h6.2 k rs[k] r (List.getElem?_eq_getElem hk2) (by rw [List.getElem?_eq_getElem hk, e])).ok (hs.2 _ (List.getElem_mem hk2)) (hna _ (List.getElem_mem hk2))
 refine ⟨⟨h1, fun r hm => ?_⟩, ⟨h.recsN tileC_len (by omega) hn, ho⟩, h3, h4, h5, h6⟩
 rcases List.mem_append.1 hm with hm | hm
 · exact ho r hm
 · exact markL_all (OK := fun r => TileOK w r) (fun j hj => markT_ok w j hj) r hm
theorem lentTiles_any (a : Option Addr) (n c : Nat) (rs : List TileR) (w : World) (h : TilesOK w a n rs) (hn : n ≤ 1000000) (hna : ∀ r ∈ rs, TileNA r) :
  Calls Tryz.prog 12 #[.slice a n c] w (LentTilesPost w rs) := by
 obtain ⟨i0, hi, hz0, hz1, hz2⟩ := info_parts (P := Tryz.prog) info_Tile
 have HL := Lib.hid h.1.1
 have H := Lib.hid h
 have HNA := Lib.hid hna
 clear h hna
 go_enter Tryz.func12, Tryz.ntmps12
 go_wp2_with (first
  | (at_make
     refine wpList_make_own _ rfl _ _ 26 rfl w.heap.size 76 i0 _ 3 Tryz.underlying26 hi hz0 hz1 .i64 .i64 _ (n + 12) rfl rfl (by omega) (by rw [hz2]; omega) (by simp only [maxLen]; omega) (Nat.le_refl _) ?_;intro w1 hown1 hg1;have HO1 := Lib.hid hown1;have HB1 : Hid (Below w.heap.size w w1) := (Below.refl _ _).grown hg1 (Nat.le_refl _) (by simp)
     clear hown1 hg1))
 go_loopw [3, 4, 5] (fun v i _ wr => ∃ (k : Nat) (rs' : List TileR), k ≤ n ∧ i = .int .i64 k ∧ Hid (wr.ownsRow w.heap.size 76 3 v k (rs'.flatMap tileC)) ∧ Hid (LentEs LentT wr w.heap.size (rs.take k) rs') ∧ Hid (Below w.heap.size w wr)) (fun _ i _ _ => n - (intOf i).toNat)
 case atStart => exact ⟨0, [], by omega, rfl, HO1, LentEs.nil _ _, HB1⟩
 case round =>
  obtain ⟨k, rs', hk, rfl, HO, HLR, HB⟩ := hrel;by_cases hlt : k < n
  · obtain ⟨r, b, o, hr, hok, rfl, y0, y1, y2⟩ := (H.out.ext HB.out).cells hlt;have HG := Lib.hid hr;have HOK := Lib.hid hok;have HTK : Hid (rs.take (k + 1) = rs.take k ++ [r]) := by rw [Hid, List.take_add_one, hr]; rfl
    have HNr := Lib.hid (HNA.out r (List.mem_of_getElem? hr));clear hr hok
    go_wp2_with (first
     | (go_at_call 54
        refine (lentTile_any r wr HOK.out HNr.out).mono ?_;rintro e w1 ⟨r', rfl, hL, hb⟩;have HLr := Lib.hid hL;have HB1 := Lib.hid hb
        clear hL hb y0 y1 y2)
     | (refine wpList_store_rowB rfl 76 _ _ rfl w1.heap.size #[.int .i64 r'.d.kind, .int .i64 r'.d.parent, .slice r'.ba r'.bn r'.bc] rfl rfl 76 _ (heap_alloc_new w1 _) (by kernel_rfl) rfl (by simp [Value.oneCell']) w1.heap.size w1 (ext_alloc w1 _) (Nat.le_refl _) ?_
        intro W3 hb3 X3;have HB3 := Lib.hid (ext_trans HB1.out hb3);have HLr3 := Lib.hid (LentT_law.ext (LentT_law.mono HB.out.size HLr.out) hb3);have i0 : W3.cell? ⟨w1.heap.size, 0, none⟩ = some (.int .i64 r'.d.kind) := by rw [cell_of_row _ _ _ _ _ _ X3]; rfl
        have i1 : W3.cell? ⟨w1.heap.size, 1, none⟩ = some (.int .i64 r'.d.parent) := by rw [cell_of_row _ _ _ _ _ _ X3]; rfl
        have i2 : W3.cell? ⟨w1.heap.size, 2, none⟩ = some (.slice r'.ba r'.bn r'.bc) := by rw [cell_of_row _ _ _ _ _ _ X3]; rfl
        clear hb3 X3)
     | (at_builtin
        go_loud (
         have HO1 := Lib.hid ((Steady.ownsRow wr.heap.size _ _ _ _ _ _).ext HO.out HB3.out);refine wpList_append1 rfl W3 (.tmp 22) (.tmp 24) 26 76 rfl w.heap.size _ 3 40 Tryz.underlying26 info_Tile rfl (by omega) u3 k _ (tileC r') rfl HO1.out W3.heap.size rfl rfl rfl (Tile_one r') (by simp only [maxLen]; omega) (by omega) (ext_trans HB.out HB3.out).size ?_;intro g cap w4 hown4 hg4 hat4;have HO4 : Hid (w4.ownsRow w.heap.size 76 3 (.slice (some ⟨g, 0, none⟩) (k + 1) cap) (k + 1) ((rs' ++ [r']).flatMap tileC)) := by rw [Hid, List.flatMap_append]; simpa using hown4
         have HB4 : Hid (Below w.heap.size w w4) := (ext_trans HB.out HB3.out).grown hg4 (ext_trans HB.out HB3.out).size (fun j e => (HO1.out.lt j e).1);have HL4 : Hid (LentEs LentT w4 w.heap.size (rs.take (k + 1)) (rs' ++ [r'])) := by
          rw [Hid, HTK.out];exact ((HLR.out.ext LentT_law HB3.out).snoc HLr3.out).grown LentT_law (by decide) HO1.out hg4
         clear hown4 hg4 hat4 i0 i1 i2)))
    go_roundw
    case rel => exact ⟨k + 1, rs' ++ [r'], by omega, by go_num, HO4, HL4, HB4⟩
    case measure => simp [intOf]; omega
  · obtain rfl : k = n := by omega
    have HLR1 : Hid (LentEs LentT wr w.heap.size rs rs') := by
     have := HLR.out;rw [List.take_of_length_le (by rw [HL.out]; omega)] at this;exact this
    have HO1 : Hid (wr.ownsRow w.heap.size 76 3 u3 (k + 0) ((rs' ++ (markL markT).take 0).flatMap tileC)) := by rw [Hid]; simpa using HO.out
    clear HLR HO;go_wp2
    go_loopw [3, 6] (fun v i wr => ∃ (j : Nat), j ≤ 12 ∧ i = .int .i64 j ∧ Hid (wr.ownsRow w.heap.size 76 3 v (k + j) ((rs' ++ (markL markT).take j).flatMap tileC)) ∧ Hid (LentEs LentT wr w.heap.size rs rs') ∧ Hid (Below w.heap.size w wr)) (fun _ i _ => 12 - (intOf i).toNat)
    case atStart => exact ⟨0, by omega, rfl, HO1, HLR1, HB⟩
    case round =>
     clear HO1 HLR1 HB;obtain ⟨j, hj, rfl, HO, HLR, HB⟩ := hrel;by_cases hlt : j < 12
     · go_wp2_with (first
        | (go_at_call 55; refine (markTile_any j _ (by omega)).mono ?_; rintro e w1 ⟨rfl, hb1⟩; have HB1 := Lib.hid hb1; clear hb1)
        | (at_builtin
           go_loud (
            have HO1 := Lib.hid ((Steady.ownsRow wr.heap.size _ _ _ _ _ _).ext HO.out HB1.out);refine wpList_append1 rfl w1 (.tmp 30) (.tmp 33) 26 76 rfl w.heap.size _ 3 40 Tryz.underlying26 info_Tile rfl (by omega) u3 (k + j) _ (tileC (markT j)) rfl HO1.out w1.heap.size rfl rfl rfl (Tile_one _) (by simp only [maxLen]; omega) (by omega) (ext_trans HB.out HB1.out).size ?_;intro g cap w4 hown4 hg4 hat4;have HO4 : Hid (w4.ownsRow w.heap.size 76 3 (.slice (some ⟨g, 0, none⟩) (k + j + 1) cap) (k + j + 1) ((rs' ++ (markL markT).take (j + 1)).flatMap tileC)) := by rw [Hid, markL_take markT j hlt, ← List.append_assoc, List.flatMap_append]; simpa using hown4
            have HB4 : Hid (Below w.heap.size w w4) := (ext_trans HB.out HB1.out).grown hg4 (ext_trans HB.out HB1.out).size (fun j e => (HO1.out.lt j e).1);have HL4 : Hid (LentEs LentT w4 w.heap.size rs rs') := (HLR.out.ext LentT_law HB1.out).grown LentT_law (by decide) HO1.out hg4
            clear hown4 hg4 hat4)))
       go_roundw
       case rel => exact ⟨j + 1, by omega, by go_num, HO4, HL4, HB4⟩
       case measure => simp [intOf]; omega
     · obtain rfl : j = 12 := by omega
       have hown := HO.out;have hform : ∃ g cap, u3 = .slice (some ⟨g, 0, none⟩) (k + 12) cap ∧ k + 12 ≤ cap ∧ cap ≤ maxLen := by
        rcases hown.2 with ⟨_, h0⟩ | ⟨g', cap', cur, hv, _, _, h1, h2, _⟩
        · omega
        · exact ⟨_, _, hv, h1, h2⟩
       obtain ⟨g, cap, rfl, hc1, hc2⟩ := hform;clear hown;unfold maxLen at hc2;go_wp2
       go_ret
       refine ⟨_, rs', rfl, ⟨g, cap, by rw [HL.out]; rfl, ?_, HLR.out⟩, HB.out⟩;have := HO.out;rw [HL.out];rw [List.take_of_length_le (by rw [markL_len]; omega)] at this;exact this
theorem keptTiles_any (base g cap : Nat) (a : Option Addr) (n c : Nat) (rs rs' : List TileR) (w : World) (h : LentTiles w base (.slice (some ⟨g, 0, none⟩) n cap) rs rs') (hs : TilesOK w a n rs) (hn : n ≤ 1000000) (hna : ∀ r ∈ rs, TileNA r) :
  Calls Tryz.prog 22 #[.slice (some ⟨g, 0, none⟩) n cap, .slice a n c] w fun e w' => e = .returned (.bool true) ∧ Below w.heap.size w w' := by
 obtain ⟨h1, _, hlen, hc1, hc2, hl⟩ := h.okS hs hn hna
 have HA := Lib.hid h1
 have HS := Lib.hid hs
 have HL := Lib.hid hl
 have HLen := Lib.hid hlen
 have HNA := Lib.hid hna
 clear h hs h1 hl hlen hna
 unfold maxLen at hc2
 have hne : ((n : Int) != (n : Int)) = false := by simp
 go_enter Tryz.func22, Tryz.ntmps22
 go_wp2
 go_loopw [6] (fun i wr => ∃ (k : Nat), k ≤ n + 12 ∧ i = .int .i64 k ∧ Hid (Below w.heap.size w wr)) (fun i _ => n + 12 - (intOf i).toNat)
 case atStart => exact ⟨0, by omega, rfl, Below.refl _ _⟩
 case round =>
  obtain ⟨k, hk, rfl, HB⟩ := hrel;by_cases hlt : k < n + 12
  · obtain ⟨r, b1, o1, hr, hokr, hab, y0, y1, y2⟩ := (HA.out.ext HB.out).cells hlt;injection hab with hab;injection hab with hab1 hab2 _;subst hab1;subst hab2;have HOr := Lib.hid hokr;rw [Nat.zero_add] at y0 y1 y2;have kx0 : ∀ n : ExtW wr, n.val.cell? ⟨g, k * 3, none⟩ = some (.int .i64 r.d.kind) := fun n => cell_ext n.ext y0;have kx1 : ∀ n : ExtW wr, n.val.cell? ⟨g, k * 3 + 1, none⟩ = some (.int .i64 r.d.parent) := fun n => cell_ext n.ext y1;have kx2 : ∀ n : ExtW wr, n.val.cell? ⟨g, k * 3 + 2, none⟩ = some (.slice r.ba r.bn r.bc) := fun n => cell_ext n.ext y2;have HNE : Nonempty (ExtW wr) := ⟨⟨wr, Below.refl _ _⟩⟩
    by_cases hkn : k < n
    · rw [List.getElem?_append_left (by rw [HLen.out]; exact hkn)] at hr;obtain ⟨s, b2, o2, hs, hoks, rfl, z0, z1, z2⟩ := (HS.out.ext HB.out).cells hkn;have HLk := Lib.hid (LentT_law.ext (HL.out.2 k s r hs hr) HB.out);have HOs := Lib.hid hoks;have HNs := Lib.hid (HNA.out s (List.mem_of_getElem? hs));have ky0 : ∀ n : ExtW wr, n.val.cell? ⟨b2, o2 + k * 3, none⟩ = some (.int .i64 s.d.kind) := fun n => cell_ext n.ext z0;have ky1 : ∀ n : ExtW wr, n.val.cell? ⟨b2, o2 + k * 3 + 1, none⟩ = some (.int .i64 s.d.parent) := fun n => cell_ext n.ext z1;have ky2 : ∀ n : ExtW wr, n.val.cell? ⟨b2, o2 + k * 3 + 2, none⟩ = some (.slice s.ba s.bn s.bc) := fun n => cell_ext n.ext z2;have hk0 : (0 : Int) ≤ (k : Int) := by omega
      have hk1 : (k : Int) < (n : Int) := by omega
      have hk2 : (k : Int) < (n : Int) + 12 := by omega
      have d1 : decide ((k : Int) < (n : Int)) = true := by simpa using hkn
      have d2 : decide ((n : Int) ≤ (k : Int)) = false := by simp; omega
      have d3 : decide (k < n) = true := by simpa using hkn
      have d4 : decide (n ≤ k) = false := by simp; omega
      clear hr hs hoks hokr y0 y1 y2 z0 z1 z2 hkn;go_wp2;refine region_ext (by kernel_rfl) (by kernel_rfl) ?_
      repeat (go_big_quiet_step (first
       | (go_at_call 65; exact quiet_ext (keptTile_any r s base _ (LentT_law.ext HLk.out (ExtW.ext _)) (TileOK.ext HOs.out (ExtW.ext _)) HNs.out))))
      refine wpQuiet_nil ?_;rintro _ ⟨mm, rfl⟩;have HM := Lib.hid (ext_trans HB.out mm.ext);generalize mm.val = W8 at *;clear kx0 kx1 kx2 ky0 ky1 ky2;go_wp2
      go_roundw
      case rel => exact ⟨k + 1, by omega, by go_num, HM⟩
      case measure => simp [intOf]; omega
    · obtain ⟨j, rfl⟩ : ∃ j, k = n + j := ⟨k - n, by omega⟩
      have hj : j < 12 := by omega
      have hrm : r = markT j := by
       rw [List.getElem?_append_right (by rw [HLen.out]; omega), HLen.out, Nat.add_sub_cancel_left, markL_at markT j hj] at hr;exact (Option.some.inj hr).symm
      have HRM := Lib.hid hrm;have d1 : decide (n + j < n) = false := by simp
      have d2 : decide (n ≤ n + j) = true := by simp
      have d3 : decide ((n : Int) + (j : Int) < (n : Int)) = false := by simp; omega
      have d4 : decide ((n : Int) ≤ (n : Int) + (j : Int)) = true := by simp; omega
      have d5 : IntKind.i64.wrap ((n : Int) + (j : Int) - (n : Int)) = (j : Int) := by rw [IntKind.wrap_i64]; omega
      have hk0 : (0 : Int) ≤ (n : Int) + (j : Int) := by omega
      have hk2 : (n : Int) + (j : Int) < (n : Int) + 12 := by omega
      clear hr hrm hokr y0 y1 y2 hkn;go_wp2;refine region_ext (by kernel_rfl) (by kernel_rfl) ?_
      repeat (go_big_quiet_step (first
       | (go_at_call 55; exact quiet_ext (markTile_any j _ (by omega)))
       | (go_at_call 66; exact quiet_ext (sameTile_any r (markT j) _ (by rw [HRM.out]; exact SDTile_refl _) (TileOK.ext HOr.out (ExtW.ext _)) (markT_ok _ j hj) (markT_na j)))))
      refine wpQuiet_nil ?_;rintro _ ⟨mm, rfl⟩;have HM := Lib.hid (ext_trans HB.out mm.ext);generalize mm.val = W8 at *;clear kx0 kx1 kx2;go_wp2
      go_roundw
      case rel => exact ⟨n + j + 1, by omega, by go_num, HM⟩
      case measure => simp [intOf]; omega
  · go_wp2
    go_ret
    exact ⟨rfl, HB.out⟩
end

section
open Go.RowKit Go.Shelf
theorem neq_edge_same (w : World) (x : EdgeD) : (binOp .neq 46 (edgeV x) (edgeV x)).run Tryz.prog w = .ok (.bool false) w := by
 rw [run_neq_struct, equal_edge, (sameE_iff x x).2 rfl]
 rfl
theorem same18_any (tyA tyB : TypeId) (ba bb : Nat) (va vb : Value) (A B : List RowH) (w : World) (hA : RowsT tyA w ba va A) (hB : RowsT tyB w bb vb B) (he : A.map (·.r) = B.map (·.r)) :
  Calls Tryz.prog 19 #[va, vb] w fun e w' => e = .returned (.bool true) ∧ Below w.heap.size w w' := by
 have hl : A.length = B.length := by have := congrArg List.length he; simpa using this
 obtain ⟨a, c, rfl⟩ := hA.form
 obtain ⟨b, d, rfl⟩ := hB.form
 rw [← hl]
 have HA := Lib.hid hA
 have HB : Hid (RowsT tyB w bb (.slice b A.length d) B) := by rw [Hid, hl]; exact hB
 have HE := Lib.hid he
 have HL := Lib.hid hl
 have hln := hA.1.2
 clear hA hB he hl
 go_enter Tryz.func19, Tryz.ntmps19
 go_wp2
 go_loopw [5] (fun s5 wr => ∃ i : Nat, i ≤ A.length ∧ s5 = .int .i64 (i : Int) ∧ Hid (Below w.heap.size w wr)) (fun s5 _ => A.length - (intOf s5).toNat)
 case atStart => exact ⟨0, by omega, by go_num, Below.refl _ _⟩
 case round =>
  obtain ⟨i, hi, rfl, HBr⟩ := hrel;by_cases hlt : i < A.length
  · have hlt' : (i : Int) < (A.length : Int) := by omega
    obtain ⟨r, p, o, la, lc, ea, ec, hri, rfl, elv, een, ho1, ho2, c0, c1, c2, c3, c4⟩ := RowsT.at (HA.out.ext HBr.out) hlt;obtain ⟨r', p', o', la', lc', ea', ec', hri', rfl, elv', een', ho1', ho2', d0, d1, d2, d3, d4⟩ := RowsT.at (HB.out.ext HBr.out) hlt;have her : r'.r = r.r := by
     have h1 : (A.map (·.r))[i]? = some r.r := by rw [List.getElem?_map, hri]; rfl
     have h2 : (B.map (·.r))[i]? = some r'.r := by rw [List.getElem?_map, hri']; rfl
     rw [HE.out, h2] at h1;injection h1
    rw [her] at d0 d1 d2 d3 d4 elv' een' ho1' ho2';rw [elv] at ho1;rw [een] at ho2;rw [elv'] at ho1';rw [een'] at ho2';have qa0 : ∀ n' : ExtW wr, n'.val.cell? ⟨p, o + i * 5, none⟩ = some (.int .i64 r.r.e.fr) := fun n' => cell_ext n'.ext c0;have qa1 : ∀ n' : ExtW wr, n'.val.cell? ⟨p, o + i * 5 + 1, none⟩ = some (.int .i64 r.r.e.arm) := fun n' => cell_ext n'.ext c1;have qa2 : ∀ n' : ExtW wr, n'.val.cell? ⟨p, o + i * 5 + 2, none⟩ = some (.int .i64 r.r.e.to) := fun n' => cell_ext n'.ext c2;have qa3 : ∀ n' : ExtW wr, n'.val.cell? ⟨p, o + i * 5 + 3, none⟩ = some (.slice la r.r.lv.length lc) := fun n' => cell_ext n'.ext c3;have qa4 : ∀ n' : ExtW wr, n'.val.cell? ⟨p, o + i * 5 + 4, none⟩ = some (.slice ea r.r.en.length ec) := fun n' => cell_ext n'.ext c4;have qb0 : ∀ n' : ExtW wr, n'.val.cell? ⟨p', o' + i * 5, none⟩ = some (.int .i64 r.r.e.fr) := fun n' => cell_ext n'.ext d0;have qb1 : ∀ n' : ExtW wr, n'.val.cell? ⟨p', o' + i * 5 + 1, none⟩ = some (.int .i64 r.r.e.arm) := fun n' => cell_ext n'.ext d1;have qb2 : ∀ n' : ExtW wr, n'.val.cell? ⟨p', o' + i * 5 + 2, none⟩ = some (.int .i64 r.r.e.to) := fun n' => cell_ext n'.ext d2;have qb3 : ∀ n' : ExtW wr, n'.val.cell? ⟨p', o' + i * 5 + 3, none⟩ = some (.slice la' r.r.lv.length lc') := fun n' => cell_ext n'.ext d3;have qb4 : ∀ n' : ExtW wr, n'.val.cell? ⟨p', o' + i * 5 + 4, none⟩ = some (.slice ea' r.r.en.length ec') := fun n' => cell_ext n'.ext d4;have S1 : Hid (∀ n' : ExtW wr, Calls Tryz.prog 44 #[.slice la r.r.lv.length lc, .slice la' r.r.lv.length lc'] n'.val fun e w'' => e = .returned (.bool true) ∧ ∃ m : ExtW wr, w'' = m.val) := fun n' => by
     have := sameInts_any la la' _ _ lc lc' r.r.lv r.r.lv n'.val (ho1.ints.ext n'.ext) (ho1'.ints.ext n'.ext);rw [decide_eq_true (rfl : r.r.lv = r.r.lv)] at this;exact quiet_ext_drew this
    have S2 : Hid (∀ n' : ExtW wr, Calls Tryz.prog 44 #[.slice ea r.r.en.length ec, .slice ea' r.r.en.length ec'] n'.val fun e w'' => e = .returned (.bool true) ∧ ∃ m : ExtW wr, w'' = m.val) := fun n' => by
     have := sameInts_any ea ea' _ _ ec ec' r.r.en r.r.en n'.val (ho2.ints.ext n'.ext) (ho2'.ints.ext n'.ext);rw [decide_eq_true (rfl : r.r.en = r.r.en)] at this;exact quiet_ext_drew this
    have hne := fun w => neq_edge_same w r.r.e;clear hri hri' her elv een elv' een' ho1 ho2 ho1' ho2' c0 c1 c2 c3 c4 d0 d1 d2 d3 d4;go_wp2;refine region_ext (by kernel_rfl) (by kernel_rfl) ?_
    iterate 22 (first
     | go_big_quiet_skip
     | go_big_quiet_step (fail))
    go_big_quiet_step (first | (go_at_call 44; exact S1.out _))
    iterate 13 (first
     | go_big_quiet_skip
     | go_big_quiet_step (fail))
    go_big_quiet_step (first | (go_at_call 44; exact S2.out _))
    repeat (first
     | go_big_quiet_skip
     | go_big_quiet_step (fail))
    refine wpQuiet_nil ?_;intro _ hw';obtain ⟨n', rfl⟩ := hw';have HB8 : Hid (Below w.heap.size w n'.val) := ext_trans HBr.out n'.ext;generalize n'.val = W8 at *;clear qa0 qa1 qa2 qa3 qa4 qb0 qb1 qb2 qb3 qb4 S1 S2 hne;go_wp2
    go_roundw
    case rel => exact ⟨i + 1, by omega, by go_num, HB8⟩
    case measure => simp [intOf]; omega
  · obtain rfl : i = A.length := by omega
    go_wp2
    go_ret
    exact ⟨rfl, HBr.out⟩
end

section
open Go.RowKit Go.Shelf
theorem lent_td {w : World} {base : Nat} {rs rs' : List TileR} (h : LentEs LentT w base rs rs') : tdOf rs' = tdOf rs := by
 apply List.ext_getElem?
 intro k
 simp only [tdOf, List.getElem?_map]
 by_cases hk : k < rs.length
 · have hk2 : k < rs'.length := by rw [h.1]; exact hk
   have := (h.2 k rs[k] rs'[k] (List.getElem?_eq_getElem hk) (List.getElem?_eq_getElem hk2)).1;rw [List.getElem?_eq_getElem hk, List.getElem?_eq_getElem hk2];simp [this]
 · rw [List.getElem?_eq_none (l := rs') (by rw [h.1]; omega), List.getElem?_eq_none (l := rs) (by omega)]
theorem bn_le_tot (ls : List TileR) : ∀ r ∈ ls, r.d.blocks.length ≤ totL (tdOf ls) := by
 induction ls with
 | nil => intro r hr; cases hr
 | cons x l ih =>
   intro r hr;simp only [tdOf, List.map_cons, totL, List.sum_cons];rcases List.mem_cons.1 hr with rfl | hr
   · omega
   · have := ih r hr;simp only [tdOf, totL] at this;omega
def RowsG (ty : TypeId) (ts : List TermD) (l : List TileD) (ask : EdgeD → Bool) (W : World) (base : Nat) (v : Value) : Prop := ∃ hs, RowsT ty W base v hs ∧ hs.map (·.r) = (if rightB ts l then rowsL ts l ask else [])
theorem RowsPost.g {ts : List TermD} {l : List TileD} {ask : EdgeD → Bool} {w : World} {e : Ending} {w' : World} (h : RowsPost ts l ask w e w') : ∃ v, e = .returned (.tuple #[v, .int .i64 (overErr ts l)]) ∧ Below w.heap.size w w' ∧ RowsG 79 ts l ask w' w.heap.size v := by
 obtain ⟨v, e1, hb, hno, hyes⟩ := h
 refine ⟨v, e1, hb, ?_⟩
 cases hr : rightB ts l with
 | false =>
   obtain rfl := hno hr;exact ⟨[], RowsT.nil _ _ _, by rw [hr]; rfl⟩
 | true =>
   obtain ⟨hs, h1, h2⟩ := hyes hr;exact ⟨hs, h1.t, by rw [hr, if_pos rfl]; exact h2⟩
theorem R18Post.g {ty : TypeId} {ts : List TermD} {l : List TileD} {ask : EdgeD → Bool} {w : World} {e : Ending} {w' : World} (h : R18Post ty ts l ask w e w') : ∃ v, e = .returned (.tuple #[v, .int .i64 (overErr ts l)]) ∧ Below w.heap.size w w' ∧ RowsG ty ts l ask w' w.heap.size v := by
 obtain ⟨v, e1, hb, hno, hyes⟩ := h
 refine ⟨v, e1, hb, ?_⟩
 cases hr : rightB ts l with
 | false =>
   obtain rfl := hno hr;exact ⟨[], RowsT.nil _ _ _, by rw [hr]; rfl⟩
 | true =>
   obtain ⟨hs, h1, h2⟩ := hyes hr;exact ⟨hs, h1, by rw [hr, if_pos rfl]; exact h2⟩
theorem RowsT.bl {ty : TypeId} {W : World} {base : Nat} {v : Value} {hs : List RowH} (h : RowsT ty W base v hs) {k : Nat} (hk : RowBl hs k) : base ≤ k ∧ k < W.heap.size := by
 obtain ⟨x, hx, hk⟩ := hk
 obtain ⟨h1, h2, _⟩ := h.2 x hx
 rcases hk with hk | hk
 · exact h1.low hk
 · exact h2.low hk
theorem edgeRows_walk (f : FuncR) (hpn : f.pn ≤ 17592186044416) (a : Option Addr) (n c : Nat) (ls : List TileR) (k : Int) (w : World) (h : FuncOK w f) (ht : TilesOK w a n ls) :
  Calls Tryz.prog 3 #[funcVR f, .slice a n c, .int .i64 k] w fun e w' => e = .returned (.bool true) ∧ Below w.heap.size w w' := by
 have H := Lib.hid h
 have HT := Lib.hid ht
 have HLB : Hid (f.bs.length = f.bn) := h.2.1.1
 clear h ht
 go_enter Tryz.func3, Tryz.ntmps3
 go_upto_region 1 with (fail)
 obtain ⟨W, hW⟩ : ∃ W, W = w.alloc (funcO f.pa f.pn f.pc f.ba f.bn f.bc) := ⟨_, rfl⟩
 rw [← hW]
 have hk0 : W.heap[w.heap.size]? = some (funcO f.pa f.pn f.pc f.ba f.bn f.bc) := by rw [hW]; exact heap_alloc_new _ _
 have hB : Below w.heap.size w W := by rw [hW]; exact ext_alloc _ _
 have HK := Lib.hid hk0
 have HB := Lib.hid hB
 clear hW hk0 hB
 go_upto_region 3 with (first
  | (refine wpList_load_row (o := ⟨some 23, .load 25 _, _, _, _, _⟩) rfl 25 _ rfl w.heap.size rfl 25 _ (0, 0) _ HK.out Tryz.underlying25 rfl size_func ?_)
  | (go_at_call 9
     refine (great18_any2 f.pa f.pn f.pc hpn f.ba f.bn f.bc f.bs a n c ls W (H.out.2.ext HB.out) (HT.out.ext HB.out)).mono ?_;rintro e w1 ⟨gb, rfl, hb, hgr⟩;have HK1 := Lib.hid (block_ext hb HK.out);have HB1 := Lib.hid (ext_trans HB.out hb);have HGR := Lib.hid hgr;clear hb hgr
     cases gb)
  | (go_at_call 10
     refine (awake18_any w1).mono ?_;rintro e w2 ⟨rfl, hb⟩;have HB2 := Lib.hid (ext_trans HB1.out hb)
     clear hb))
 all_goals first | (go_ret; exact ⟨rfl, HB2.out⟩) | skip
 clear HK HB
 obtain ⟨_, g0, g1, g2, g3⟩ := HGR.out (by trivial)
 have HNA : Hid (FuncNA f) := great_na (bn := f.bn) rfl rfl HLB.out g1 g2 g3
 have HTOT : Hid (totL (tdOf ls) ≤ 1000000) := by rw [Hid]; omega
 have hn90 : n ≤ 1000000 := by omega
 have HTNA : Hid (∀ r ∈ ls, TileNA r) := fun r hr => by
  have h1 := bn_le_tot ls r hr;have h2 := (HT.out.2 r hr).1.1;have h3 := HTOT.out;unfold TileNA;omega
 clear HGR g0 g1 g2 g3
 obtain ⟨w0, rfl⟩ : ∃ w0 : World, w0 = w1 := ⟨_, rfl⟩
 go_upto_region 4 with (first
  | (refine wpList_load_row (o := ⟨some 27, .load 25 _, _, _, _, _⟩) rfl 25 _ rfl w.heap.size rfl 25 _ (0, 0) _ HK1.out Tryz.underlying25 rfl size_func ?_)
  | (go_at_call 11
     refine (lentFunc_any f w0 (H.out.ext HB1.out) HNA.out).mono ?_;rintro e w2 ⟨r, rfl, hl, hb⟩;have HLF0 := Lib.hid hl;have HRO0 := Lib.hid (hl.ok (H.out.ext (ext_trans HB1.out hb)) HNA.out);have HK2 := Lib.hid (block_ext hb HK1.out);have HB2 := Lib.hid (ext_trans HB1.out hb)
     clear hl hb)
  | (go_at_call 12
     refine (lentTiles_any a n c ls w2 (HT.out.ext HB2.out) hn90 HTNA.out).mono ?_;rintro e w2b ⟨tv, rs, rfl, hl, hb⟩
     obtain ⟨tg, tc, rfl, hl2⟩ : ∃ tg tc, tv = .slice (some ⟨tg, 0, none⟩) n tc ∧ LentTiles w2b w2.heap.size (.slice (some ⟨tg, 0, none⟩) n tc) ls rs := (by
      obtain ⟨tg, tc, e1, h2, h3⟩ := hl;rw [HT.out.1.1] at e1;refine ⟨tg, tc, e1, tg, tc, ?_, h2, h3⟩
      rw [HT.out.1.1])
     have HLT0 := Lib.hid hl2;have HLFb := Lib.hid (LentFn_law.ext HLF0.out hb);have HROb := Lib.hid (HRO0.out.ext hb);have HKb := Lib.hid (block_ext hb HK2.out);have HBb := Lib.hid (ext_trans HB2.out hb)
     clear hl hl2 hb HLF0 HRO0 HK2)
  | (refine wpList_store_rowB rfl 25 _ _ rfl w2b.heap.size #[.slice r.pa r.pn r.pc, .slice r.ba r.bn r.bc] rfl rfl 25 _ (heap_alloc_new w2b _) size_func rfl (by simp [Value.oneCell']) w2b.heap.size w2b (ext_alloc w2b _) (Nat.le_refl _) ?_
     intro w3 hb3 hx3;have HKI3 := Lib.hid hx3;have HB23 := Lib.hid hb3;have HB3 := Lib.hid (ext_trans HBb.out hb3);have HK3 := Lib.hid (block_ext hb3 HKb.out)
     clear hb3 hx3))
 have hokS := HLT0.out.okS (HT.out.ext HBb.out) hn90 HTNA.out
 have HTS : Hid (tsOf (hOf r.bs) = tsOf (hOf f.bs)) := lent_ts HLFb.out.sd.2.2
 have HTD : Hid (tdOf rs = tdOf ls) := lent_td hokS.2.2.2.2.2
 have HT3 : Hid (TilesOK w3 (some ⟨tg, 0, none⟩) n rs) := hokS.2.1.ext HB23.out
 have HF3 : Hid (BlksOK w3 r.ba r.bn (hOf r.bs)) := (HROb.out.ext HB23.out).2.x.1
 have HFF3 := Lib.hid (H.out.ext HB3.out)
 have HFB3 : Hid (BlksOK w3 f.ba f.bn (hOf f.bs)) := HFF3.out.2.x.1
 have HTT3 := Lib.hid (HT.out.ext HB3.out)
 have HLF3 := Lib.hid (LentFn_law.ext HLFb.out HB23.out)
 have HLT3 : Hid (LentTiles w3 w2.heap.size (.slice (some ⟨tg, 0, none⟩) n tc) ls rs) := LentL.ext LentT_law HLT0.out HB23.out
 have HTOT2 : Hid (totL (tdOf rs) ≤ 1000000) := by rw [Hid, HTD.out]; exact HTOT.out
 clear hokS HK1 HB1 HB2 HLT0 HLFb HROb HKb HBb HB23
 have HE3 : Hid (Below w3.heap.size w3 w3) := Below.refl _ _
 go_upto_region 5 with (first
  | (refine wpList_load_row (o := ⟨some 32, .load 25 _, _, _, _, _⟩) rfl 25 _ rfl w2b.heap.size rfl 25 _ (0, 0) _ HKI3.out Tryz.underlying25 rfl size_func ?_)
  | (go_at_call 13
     refine (between_any r.pa r.pn r.pc r.ba r.bn r.bc (hOf r.bs) (some ⟨tg, 0, none⟩) n tc rs w3 (HF3.out.ext HE3.out) (HT3.out.ext HE3.out) HTOT2.out).mono ?_;intro e w4a hpost;obtain ⟨va, rfl, hb, hg⟩ := hpost.g;rw [HTS.out, HTD.out] at hg;rw [HTS.out, HTD.out];have HKI4a := Lib.hid (block_ext hb HKI3.out);have HK4a := Lib.hid (block_ext hb HK3.out);have HE4a : Hid (Below w3.heap.size w3 w4a) := ext_trans HE3.out hb;have HSa := Lib.hid hb;have HGa := Lib.hid hg
     clear hpost hb hg))
 go_upto_region 6 with (first
  | (refine wpList_load_row (o := ⟨some 38, .load 25 _, _, _, _, _⟩) rfl 25 _ rfl w.heap.size rfl 25 _ (0, 0) _ HK4a.out Tryz.underlying25 rfl size_func ?_)
  | (go_at_call 14
     refine (between18_any f.pa f.pn f.pc f.ba f.bn f.bc (hOf f.bs) a n c ls w4a (HFB3.out.ext HE4a.out) (HTT3.out.ext HE4a.out) HTOT.out).mono ?_;intro e w4b hpost;obtain ⟨vb, rfl, hb, hg⟩ := hpost.g
     skip
     skip
     have HKI4b := Lib.hid (block_ext hb HKI4a.out);have HK4b := Lib.hid (block_ext hb HK4a.out);have HE4b : Hid (Below w3.heap.size w3 w4b) := ext_trans HE4a.out hb;have HSb := Lib.hid hb;have HGb := Lib.hid hg
     clear hpost hb hg HKI4a HK4a))
 go_upto_region 7 with (first
  | (refine wpList_load_row (o := ⟨some 44, .load 25 _, _, _, _, _⟩) rfl 25 _ rfl w2b.heap.size rfl 25 _ (0, 0) _ HKI4b.out Tryz.underlying25 rfl size_func ?_)
  | (go_at_call 15
     refine (eInto_any r.pa r.pn r.pc r.ba r.bn r.bc (hOf r.bs) (some ⟨tg, 0, none⟩) n tc rs k w4b (HF3.out.ext HE4b.out) (HT3.out.ext HE4b.out) HTOT2.out).mono ?_;intro e w4c hpost;obtain ⟨vc, rfl, hb, hg⟩ := hpost.g;rw [HTS.out, HTD.out] at hg;rw [HTS.out, HTD.out];have HKI4c := Lib.hid (block_ext hb HKI4b.out);have HK4c := Lib.hid (block_ext hb HK4b.out);have HE4c : Hid (Below w3.heap.size w3 w4c) := ext_trans HE4b.out hb;have HSc := Lib.hid hb;have HGc := Lib.hid hg
     clear hpost hb hg HKI4b HK4b))
 go_upto_region 8 with (first
  | (refine wpList_load_row (o := ⟨some 51, .load 25 _, _, _, _, _⟩) rfl 25 _ rfl w.heap.size rfl 25 _ (0, 0) _ HK4c.out Tryz.underlying25 rfl size_func ?_)
  | (go_at_call 16
     refine (into18_any f.pa f.pn f.pc f.ba f.bn f.bc (hOf f.bs) a n c ls k w4c (HFB3.out.ext HE4c.out) (HTT3.out.ext HE4c.out) HTOT.out).mono ?_;intro e w4d hpost;obtain ⟨vd, rfl, hb, hg⟩ := hpost.g
     skip
     skip
     have HKI4d := Lib.hid (block_ext hb HKI4c.out);have HK4d := Lib.hid (block_ext hb HK4c.out);have HE4d : Hid (Below w3.heap.size w3 w4d) := ext_trans HE4c.out hb;have HSd := Lib.hid hb;have HGd := Lib.hid hg
     clear hpost hb hg HKI4c HK4c))
 go_upto_region 9 with (first
  | (refine wpList_load_row (o := ⟨some 58, .load 25 _, _, _, _, _⟩) rfl 25 _ rfl w2b.heap.size rfl 25 _ (0, 0) _ HKI4d.out Tryz.underlying25 rfl size_func ?_)
  | (go_at_call 17
     refine (eOut_any r.pa r.pn r.pc r.ba r.bn r.bc (hOf r.bs) (some ⟨tg, 0, none⟩) n tc rs k w4d (HF3.out.ext HE4d.out) (HT3.out.ext HE4d.out) HTOT2.out).mono ?_;intro e w4m hpost;obtain ⟨vm, rfl, hb, hg⟩ := hpost.g;rw [HTS.out, HTD.out] at hg;rw [HTS.out, HTD.out];have HKI4m := Lib.hid (block_ext hb HKI4d.out);have HK4m := Lib.hid (block_ext hb HK4d.out);have HE4m : Hid (Below w3.heap.size w3 w4m) := ext_trans HE4d.out hb;have HSm := Lib.hid hb;have HGm := Lib.hid hg
     clear hpost hb hg HKI4d HK4d))
 go_upto_region 10 with (first
  | (refine wpList_load_row (o := ⟨some 65, .load 25 _, _, _, _, _⟩) rfl 25 _ rfl w.heap.size rfl 25 _ (0, 0) _ HK4m.out Tryz.underlying25 rfl size_func ?_)
  | (go_at_call 18
     refine (out18_any f.pa f.pn f.pc f.ba f.bn f.bc (hOf f.bs) a n c ls k w4m (HFB3.out.ext HE4m.out) (HTT3.out.ext HE4m.out) HTOT.out).mono ?_;intro e w4n hpost;obtain ⟨vn, rfl, hb, hg⟩ := hpost.g
     skip
     skip
     have HKI4n := Lib.hid (block_ext hb HKI4m.out);have HK4n := Lib.hid (block_ext hb HK4m.out);have HE4n : Hid (Below w3.heap.size w3 w4n) := ext_trans HE4m.out hb;have HSn := Lib.hid hb;have HGn := Lib.hid hg
     clear hpost hb hg HKI4m HK4m))
 obtain ⟨rowsA, hA, mA⟩ := HGa.out
 obtain ⟨rowsB, hB, mB⟩ := HGb.out
 obtain ⟨rowsC, hC, mC⟩ := HGc.out
 obtain ⟨rowsD, hD, mD⟩ := HGd.out
 obtain ⟨rowsM, hM, mM⟩ := HGm.out
 obtain ⟨rowsN, hN, mN⟩ := HGn.out
 have HA := Lib.hid hA
 have HBB := Lib.hid hB
 have HC := Lib.hid hC
 have HD := Lib.hid hD
 have HM := Lib.hid hM
 have HN := Lib.hid hN
 have EAB : Hid (rowsA.map (·.r) = rowsB.map (·.r)) := mA.trans mB.symm
 have ECD : Hid (rowsC.map (·.r) = rowsD.map (·.r)) := mC.trans mD.symm
 have EMN : Hid (rowsM.map (·.r) = rowsN.map (·.r)) := mM.trans mN.symm
 have MB := Lib.hid mB
 have bAn : Hid (Below w4a.heap.size w4a w4n) := ext_trans HSb.out (ext_trans HSc.out (ext_trans HSd.out (ext_trans HSm.out HSn.out)))
 have bBn : Hid (Below w4b.heap.size w4b w4n) := ext_trans HSc.out (ext_trans HSd.out (ext_trans HSm.out HSn.out))
 have bCn : Hid (Below w4c.heap.size w4c w4n) := ext_trans HSd.out (ext_trans HSm.out HSn.out)
 have bDn : Hid (Below w4d.heap.size w4d w4n) := ext_trans HSm.out HSn.out
 have bMn : Hid (Below w4m.heap.size w4m w4n) := HSn.out
 have z1 : w3.heap.size ≤ w4a.heap.size := HSa.out.size
 have z2 : w4a.heap.size ≤ w4b.heap.size := HSb.out.size
 have z3 : w4b.heap.size ≤ w4c.heap.size := HSc.out.size
 have z4 : w4c.heap.size ≤ w4d.heap.size := HSd.out.size
 have z5 : w4d.heap.size ≤ w4m.heap.size := HSm.out.size
 have z6 : w4m.heap.size ≤ w4n.heap.size := HSn.out.size
 clear hA hB hC hD hM hN mA mB mC mD mM mN HGa HGb HGc HGd HGm HGn HSa HSb HSc HSd HSm HSn HE4a HE4b HE4c HE4d HE4m HE3
 go_upto_region 12 with (
  (go_at_call 19
   first
    | (refine (same18_any _ _ w4d.heap.size w4m.heap.size vm vn rowsM rowsN w6 (HM.out.ext (ext_trans bMn.out HS6.out)) (HN.out.ext HS6.out) EMN.out).mono ?_
       rintro e w7 ⟨rfl, hb⟩;have HS7 := Lib.hid (ext_trans HS6.out hb)
       clear hb)
    | (refine (same18_any _ _ w4b.heap.size w4c.heap.size vc vd rowsC rowsD w5 (HC.out.ext (ext_trans bCn.out HS5.out)) (HD.out.ext (ext_trans bDn.out HS5.out)) ECD.out).mono ?_
       rintro e w6 ⟨rfl, hb⟩;have HS6 := Lib.hid (ext_trans HS5.out hb)
       clear hb)
    | (refine (same18_any _ _ w3.heap.size w4a.heap.size va vb rowsA rowsB w4n (HA.out.ext bAn.out) (HBB.out.ext bBn.out) EAB.out).mono ?_
       rintro e w5 ⟨rfl, hb⟩;have HS5 := Lib.hid hb
       clear hb)))
 have HA7 := Lib.hid (HA.out.ext (ext_trans bAn.out HS7.out))
 have HC7 := Lib.hid (HC.out.ext (ext_trans bCn.out HS7.out))
 have blA : Hid (∀ k, RowBl rowsA k → w3.heap.size ≤ k ∧ k < w4a.heap.size) := fun k hk => HA.out.bl hk
 have blC : Hid (∀ k, RowBl rowsC k → w4b.heap.size ≤ k ∧ k < w4c.heap.size) := fun k hk => HC.out.bl hk
 clear HS5 HS6
 go_upto_region 13 with (
  (go_at_call 20
   refine (over18_any w3.heap.size va rowsA w7 HA7.out).mono ?_;rintro e w8 ⟨rfl, hc⟩;have HC8 := Lib.hid (HC7.out.chg hc (fun k hk => .inl (by have := (blA.out k hk).2; omega)));have HCH8 := Lib.hid hc
   clear hc))
 go_upto_region 14 with (
  (go_at_call 20
   refine (over18_any w4b.heap.size vc rowsC w8 HC8.out).mono ?_;rintro e w9 ⟨rfl, hc⟩;have HCH9 : Hid (Chg (fun k => RowBl rowsA k ∨ RowBl rowsC k) w7 w9) := (HCH8.out.mono fun k hk => .inl hk).trans (hc.mono fun k hk => .inr hk)
   clear hc))
 have chg7 : ∀ {u : World}, Below u.heap.size u w4n → Chg (fun k => RowBl rowsA k ∨ RowBl rowsC k) u w9 := fun hb => ((chg_below (ext_trans hb HS7.out)).mono fun k hk => hk.elim).trans HCH9.out
 have HB9 : Hid (RowsT 89 w9 w4a.heap.size vb rowsB) := HBB.out.chg (chg7 bBn.out) (fun k hk => by
  rcases hk with hk | hk
  · exact .inl (blA.out k hk).2
  · exact .inr (blC.out k hk).1)
 have HM9 : Hid (RowsT 79 w9 w4d.heap.size vm rowsM) := HM.out.chg (chg7 bMn.out) (fun k hk => .inl (by
  rcases hk with hk | hk
  · have := (blA.out k hk).2; omega
  · have := (blC.out k hk).2; omega))
 have HN9 : Hid (RowsT 89 w9 w4m.heap.size vn rowsN) := HN.out.chg (chg7 (Below.refl _ _)) (fun k hk => .inl (by
  rcases hk with hk | hk
  · have := (blA.out k hk).2; omega
  · have := (blC.out k hk).2; omega))
 have HE9 : Hid (Below w3.heap.size w3 w9) := (chg7 HE4n.out).below (Nat.le_refl _) (fun k hk => by
  rcases hk with hk | hk
  · exact (blA.out k hk).1
  · have := (blC.out k hk).1; omega)
 have HKI9 := Lib.hid (block_ext HE9.out HKI3.out)
 have HK9 := Lib.hid (block_ext HE9.out HK3.out)
 clear HA HC HD HA7 HC7 HC8 HCH8 HCH9 chg7 HM HN HBB HKI4n HK4n HS7 HE4n EAB ECD
 go_upto_region 15 with (first
  | (refine wpList_load_row (o := ⟨some 107, .load 25 _, _, _, _, _⟩) rfl 25 _ rfl w2b.heap.size rfl 25 _ (0, 0) _ HKI9.out Tryz.underlying25 rfl size_func ?_)
  | (go_at_call 13
     refine (between_any r.pa r.pn r.pc r.ba r.bn r.bc (hOf r.bs) (some ⟨tg, 0, none⟩) n tc rs w9 (HF3.out.ext HE9.out) (HT3.out.ext HE9.out) HTOT2.out).mono ?_;intro e w10 hpost;obtain ⟨vx, rfl, hb, hg⟩ := hpost.g;rw [HTS.out, HTD.out] at hg;rw [HTS.out, HTD.out];have HKI10 := Lib.hid (block_ext hb HKI9.out);have HK10 := Lib.hid (block_ext hb HK9.out);have HE10 : Hid (Below w3.heap.size w3 w10) := ext_trans HE9.out hb;have HS10 := Lib.hid hb;have HGX := Lib.hid hg
     clear hpost hb hg HKI9 HK9))
 obtain ⟨rowsX, hX, mX⟩ := HGX.out
 have HX := Lib.hid hX
 have EXB : Hid (rowsX.map (·.r) = rowsB.map (·.r)) := mX.trans MB.out.symm
 clear hX mX HGX
 go_wp2_with (first
  | (refine wpList_load_rowW (o := ⟨some 121, .load 25 _, _, _, _, _⟩) (by rfl) 25 _ rfl w2b.heap.size rfl 25 _ (0, 0) _ HKI12.out Tryz.underlying25 rfl size_func ?_)
  | (refine wpList_load_rowW (o := ⟨some 122, .load 25 _, _, _, _, _⟩) (by rfl) 25 _ rfl w.heap.size rfl 25 _ (0, 0) _ HK12.out Tryz.underlying25 rfl size_func ?_)
  | (go_at_call 10
     refine (awake18_any w14).mono ?_;rintro e w15 ⟨rfl, hb⟩;have HE15 : Hid (Below w3.heap.size w3 w15) := ext_trans HE14.out hb
     clear hb)
  | (go_at_call 22
     refine (keptTiles_any w2.heap.size tg tc a n c ls rs w13 (LentL.ext LentT_law HLT3.out HE13.out) (HTT3.out.ext HE13.out) hn90 HTNA.out).mono ?_;rintro e w14 ⟨rfl, hb⟩;have HE14 : Hid (Below w3.heap.size w3 w14) := ext_trans HE13.out hb
     clear hb)
  | (go_at_call 21
     refine (keptFunc_any r f w0.heap.size w12 (LentFn_law.ext HLF3.out HE12.out) (HFF3.out.ext HE12.out) HNA.out).mono ?_;rintro e w13 ⟨rfl, hb⟩;have HE13 : Hid (Below w3.heap.size w3 w13) := ext_trans HE12.out hb
     clear hb)
  | (go_at_call 19
     first
      | (refine (same18_any _ _ w4d.heap.size w4m.heap.size vm vn rowsM rowsN w11 (HM9.out.ext (ext_trans HS10.out HS11.out)) (HN9.out.ext (ext_trans HS10.out HS11.out)) EMN.out).mono ?_
         rintro e w12 ⟨rfl, hb⟩;have HE12 : Hid (Below w3.heap.size w3 w12) := ext_trans (ext_trans HE10.out HS11.out) hb;have HKI12 := Lib.hid (block_ext hb (block_ext HS11.out HKI10.out));have HK12 := Lib.hid (block_ext hb (block_ext HS11.out HK10.out))
         clear hb)
      | (refine (same18_any _ _ w9.heap.size w4a.heap.size vx vb rowsX rowsB w10 HX.out (HB9.out.ext HS10.out) EXB.out).mono ?_
         rintro e w11 ⟨rfl, hb⟩;have HS11 := Lib.hid hb
         clear hb)))
 go_ret
 exact ⟨rfl, ext_trans HB3.out HE15.out⟩
end

section
open Go.RowKit
section
variable {P : Program} {ops : Array Oper} {rest : List Oper} {o : Oper} {a : Act}
theorem wpQuiet_load_mid {C : World → Prop} {Q : Act → Prop} (hw : Region.wanted o (yielded ops a.tmps) = true) (ty : TypeId) (x : Operand) (ho : o.op = .load ty x)
  (b q : Nat) (hx : a.eval x = .pointer (some ⟨b, q, none⟩)) (cs : List Value) (d : TypeDesc) (hc : ∀ w, C w → w.rangeAt b q cs)
  (hu : P.underlying ty = some d) (hd : d.isRow = true) (hi : (P.info? ty).map (·.size) = some cs.length)
  (h : wpQuiet P ops C Q rest (a.put o.dst (.agg cs.toArray))) : wpQuiet P ops C Q (o :: rest) a :=
 BigFrame.wpQuiet_want hw fun _ hK => ⟨.agg cs.toArray, fun w hC => by
  unfold Oper.quietAt execOp;simp only [ho, hx, Instr.loadAt, Instr.sureAddr, Sem.run_bind, Sem.run_pure, Result.andThen_ok, run_loadVar_mid w b q ty cs d (hc w hC) hu hd hi]
  exact ⟨rfl, rfl⟩, hK _ h⟩
end
section
variable {α : Type} {e : TypeId} {size : Nat} {cs : α → List Value} {w w' : World} {base : Nat} {ls : List α} {g n c : Nat}
theorem OwnR.range (hs : ∀ x, (cs x).length = size) (h : OwnR e size cs w base (.slice (some ⟨g, 0, none⟩) n c) ls) (z : α) {k : Nat} (hk : k < ls.length) : w.rangeAt g (k * size) (cs (ls.getD k z)) := by
 obtain rfl : n = ls.length := by obtain ⟨a, c', e⟩ := h.form; injection e
 have hr := h.recs hs
 obtain ⟨b, o, ea, hc⟩ := hr.at_ (k := k) (by rw [hr.1]; exact hk) z
 injection ea with ea
 injection ea with ea eo
 subst ea eo
 intro j v hv
 have hj : j < size := by rw [← hs (ls.getD k z)]; exact (List.getElem?_eq_some_iff.1 hv).1
 rw [← hv, ← hc j hj, Nat.zero_add]
end
end

section
open Go.RowKit
theorem fold_at (off : Nat) (vs : List Value) (cells : Array Value) (k : Nat) :
  (vs.toArray.zipIdx.foldl (fun cs (x : Value × Nat) => cs.setIfInBounds (off + x.2) x.1) cells).size = cells.size ∧
  (vs.toArray.zipIdx.foldl (fun cs (x : Value × Nat) => cs.setIfInBounds (off + x.2) x.1) cells)[k]? = if off ≤ k ∧ k < off + vs.length ∧ k < cells.size then vs[k - off]? else cells[k]? := by
 have h := Great.foldl_set off vs 0 cells
 rw [← Array.foldl_toList]
 simp only [Array.toList_zipIdx]
 exact ⟨h.1, by have := h.2 k; simpa using this⟩
theorem fill_one {s : Nat} (vs : List Value) (cells : Array Value) (h1 : vs.length = s) (h2 : cells.size = s) : Instr.fill (fun i => some (i * s, s)) cells [(0, .agg vs.toArray)] = some vs.toArray := by
 unfold Instr.fill
 have s1 : (Value.agg vs.toArray).cells = vs.toArray := rfl
 simp only [s1, List.size_toArray, h1, h2]
 rw [if_neg (by simp)]
 unfold Instr.fill
 congr 1
 apply Array.ext_getElem?
 intro k
 have h := (fold_at (0 * s) vs cells k).2
 rw [h]
 simp only [Nat.zero_mul, Nat.zero_le, Nat.zero_add, Nat.sub_zero, true_and, h1, h2, List.getElem?_toArray]
 by_cases hk : k < s
 · rw [if_pos ⟨hk, hk⟩]
 · rw [if_neg (by omega), Array.getElem?_eq_none (by omega), List.getElem?_eq_none (by omega)]
theorem wpList_load_midW {P : Program} {ops : Array Oper} {rest : List Oper} {o : Oper} {a : Act} {w : World} {Q : Exit → Act → World → Prop} (hw : Region.wanted o (yielded ops a.tmps) = true) (ty : TypeId) (x : Operand) (ho : o.op = .load ty x)
  (b q : Nat) (hx : a.eval x = .pointer (some ⟨b, q, none⟩)) (cs : List Value) (d : TypeDesc) (hc : w.rangeAt b q cs)
  (hu : P.underlying ty = some d) (hd : d.isRow = true) (hi : (P.info? ty).map (·.size) = some cs.length)
  (h : wpList P ops Q rest (a.put o.dst (.agg cs.toArray)) w) : wpList P ops Q (o :: rest) a w :=
 BigFrame.wpList_want hw fun _ hK => wp_load_mid ty x ho b q hx cs d hc hu hd hi (hK _ _ h)
end

section
open Go.RowKit Go.Shelf
theorem own_other {w : World} {base : Nat} {e t : TypeId} {size : Nat} {v : Value} {n k : Nat} {xs : List Value} {cs : Array Value} {fr : Nat × Nat} (h : w.ownsRow base e size v n xs) (hk : w.heap[k]? = some (.cells cs t fr)) (ht : t ≠ e) : v.ownBlock ≠ some k := by
 intro hv
 rcases h.2 with ⟨rfl, _⟩ | ⟨g, cap, cur, rfl, _, hg, _⟩
 · cases hv
 · simp only [Value.ownBlock, Option.some.injEq] at hv;subst hv;rw [hk] at hg;injection hg with hg;injection hg with _ hg _;exact ht hg
theorem grown_tr {a b c : World} {row : Option Nat} (h : a.grownBy b row) (k : b.grownBy c row) : a.grownBy c row :=
 ⟨k.os.trans h.os, k.tape.trans h.tape, k.output.trans h.output, Nat.le_trans h.size k.size, fun q hq hn => (k.block q (Nat.lt_of_lt_of_le hq h.size) hn).trans (h.block q hq hn)⟩
theorem grown_drew (w : World) (row : Option Nat) : w.grownBy w.drew row := ⟨rfl, rfl, rfl, Nat.le_refl _, fun _ _ _ => rfl⟩
theorem grown_same (w : World) (row : Option Nat) : w.grownBy w row := ⟨rfl, rfl, rfl, Nat.le_refl _, fun _ _ _ => rfl⟩
theorem drew_ext (w : World) : Below w.heap.size w w.drew := ext_drewN (Below.refl _ _) 1
section
variable {W0 W W' W3 : World} {d : WalkD} {P base : Nat} {v v' : Value} {L M : List PartD}
end
end

section
open Go.RowKit
def ptC (p : PartD) : List Value := .int .i64 p.kind :: ((setA p.s).toList ++ [.int .i64 p.entry])
theorem ptC_len (p : PartD) : (ptC p).length = 202 := by simp [ptC, setA_size]
theorem ptC_one (p : PartD) : ∀ v ∈ ptC p, v.oneCell' = true := by
 intro v hv
 rcases List.mem_cons.1 hv with rfl | hv
 · rfl
 rcases List.mem_append.1 hv with h | h
 · have := setA_all p.s;rw [Array.all_eq_true_iff_forall_mem] at this;exact this v (by simpa using h)
 · simp only [List.mem_cons, List.not_mem_nil, or_false] at h;subst h; rfl
theorem ptC_at (p : PartD) (k : Nat) : (ptC p)[k]? = if k = 0 then some (.int .i64 p.kind) else if k ≤ 200 then (setA p.s)[k - 1]? else if k = 201 then some (.int .i64 p.entry) else none := by
 cases k with
 | zero => rfl
 | succ k =>
   rw [ptC, List.getElem?_cons_succ, if_neg (by omega)];by_cases h : k < 200
   · rw [List.getElem?_append_left (by rw [Array.length_toList, setA_size]; exact h), if_pos (by omega)];simp
   · rw [List.getElem?_append_right (by rw [Array.length_toList, setA_size]; omega), Array.length_toList, setA_size, if_neg (by omega)];by_cases h2 : k = 200
     · subst h2; rfl
     · rw [if_neg (by omega), List.getElem?_eq_none (by simp; omega)]
abbrev ptV (p : PartD) : Value := .agg (ptC p).toArray
theorem size_pt : (Tryz.prog.info? 112).map (·.size) = some 202 := by kernel_rfl
theorem size_ptC (p : PartD) : (Tryz.prog.info? 112).map (·.size) = some (ptC p).length := by rw [ptC_len]; exact size_pt
theorem infoPt : (Tryz.prog.info? 112).map (fun i => (i.zero, i.size, i.bytes)) = some (some (.agg Tryz.zeroCells112), 202, 216) := by kernel_rfl
def PtsIn (W : World) (base : Nat) (v : Value) (L : List PartD) : Prop := OwnR 112 202 ptC W base v L
section
variable {W W' : World} {base g n c : Nat} {v : Value} {L : List PartD}
theorem PtsIn.ext (h : PtsIn W base v L) (hb : Below W.heap.size W W') : PtsIn W' base v L := OwnR.ext h hb
theorem PtsIn.mono {base' : Nat} (h : PtsIn W base v L) (hb : base' ≤ base) : PtsIn W base' v L := OwnR.mono h hb
theorem PtsIn.len (h : PtsIn W base (.slice (some ⟨g, 0, none⟩) n c) L) : L.length = n := by
 obtain ⟨_, _, e⟩ := OwnR.form h
 injection e with _ e _
 exact e.symm
theorem PtsIn.range (h : PtsIn W base (.slice (some ⟨g, 0, none⟩) n c) L) {k : Nat} (hk : k < n) : W.rangeAt g (k * 202) (ptC (L.getD k zPart)) := OwnR.range ptC_len h zPart (by rw [h.len]; exact hk)
theorem pt_range {B q : Nat} {p : PartD} (h : W.rangeAt B q (ptC p)) : W.cell? ⟨B, q, none⟩ = some (.int .i64 p.kind) ∧ W.rangeAt B (q + 1) (setA p.s).toList ∧ W.cell? ⟨B, q + 201, none⟩ = some (.int .i64 p.entry) ∧ ∀ k, k < 200 → W.cell? ⟨B, q + 1 + k, none⟩ = some (.bool (p.s k)) := by
 have key : ∀ k v, (ptC p)[k]? = some v → W.cell? ⟨B, q + k, none⟩ = some v := fun k v hk => h k v hk
 refine ⟨key 0 _ rfl, ?_, key 201 _ (by rw [ptC_at]; rfl), fun k hk => ?_⟩
 · intro k v hk;have hlt : k < 200 := by
    apply Classical.byContradiction;intro hn;rw [List.getElem?_eq_none (by rw [Array.length_toList, setA_size]; omega)] at hk;cases hk
   rw [show q + 1 + k = q + (k + 1) by omega];refine key (k + 1) v ?_;rw [ptC_at, if_neg (by omega), if_pos (by omega)];simpa using hk
 · rw [show q + 1 + k = q + (k + 1) by omega];refine key (k + 1) _ ?_;rw [ptC_at, if_neg (by omega), if_pos (by omega), Nat.add_sub_cancel];exact setA_at _ _ hk
end
theorem fill_pt (s : Nat → Bool) (kd e : Int) (cells : Array Value) (hc : cells.size = 202) :
  Instr.fill (fun i => #[(0, 1), (1, 200), (201, 1)][i]?) cells [(0, .int .i64 kd), (1, .agg (setA s)), (2, .int .i64 e)] = some (ptC ⟨s, kd, e⟩).toArray := by
 have s1 : (Value.agg (setA s)).cells = setA s := rfl
 have z1 : ∀ v : Value, #[v].zipIdx = #[(v, 0)] := fun v => rfl
 unfold Instr.fill
 simp only [List.getElem?_toArray, List.getElem?_cons_zero, Value.cells, List.size_toArray, List.length_cons, List.length_nil, hc]
 rw [if_neg (by simp)]
 simp only [z1, List.foldl_toArray, List.foldl_toArray', List.foldl_cons, List.foldl_nil, Nat.add_zero]
 obtain ⟨c0, hc0⟩ : ∃ c0, c0 = cells.setIfInBounds 0 (.int .i64 kd) := ⟨_, rfl⟩
 rw [← hc0]
 have hs0 : c0.size = 202 := by rw [hc0]; simp [hc]
 have h0 : c0[0]? = some (.int .i64 kd) := by rw [hc0, Array.getElem?_setIfInBounds]; simp [hc]
 clear hc0
 unfold Instr.fill
 simp only [List.getElem?_toArray, List.getElem?_cons_succ, List.getElem?_cons_zero, s1, setA_size, hs0]
 rw [if_neg (by simp)]
 have h1 := fun k => fold_at 1 (setA s).toList c0 k
 rw [show (setA s).toList.toArray = setA s by simp] at h1
 generalize (setA s).zipIdx.foldl (fun cs (x : Value × Nat) => cs.setIfInBounds (1 + x.2) x.1) c0 = c1 at *
 have hs1 : c1.size = 202 := by rw [(h1 0).1, hs0]
 have h1 := fun k => (h1 k).2
 unfold Instr.fill
 simp only [List.getElem?_toArray, List.getElem?_cons_succ, List.getElem?_cons_zero, Value.cells, List.size_toArray, List.length_cons, List.length_nil, hs1]
 rw [if_neg (by simp)]
 unfold Instr.fill
 congr 1
 apply Array.ext_getElem?
 intro k
 simp only [z1, List.foldl_toArray, List.foldl_toArray', List.foldl_cons, List.foldl_nil, Nat.add_zero, Array.getElem?_setIfInBounds, hs1, h1, Array.length_toList, setA_size, hs0, Array.getElem?_toList, List.getElem?_toArray, ptC_at]
 by_cases k1 : k = 201
 · subst k1; simp
 · by_cases k2 : k = 0
   · subst k2; simpa using h0
   · by_cases k3 : k ≤ 200
     · rw [if_neg (by omega), if_pos (by omega), if_neg (by omega), if_pos (by omega)]
     · rw [if_neg (by omega), if_neg (by omega), if_neg (by omega), if_neg (by omega), if_neg (by omega)];rw [Array.getElem?_eq_none (by omega)]
theorem built_pt (s : Nat → Bool) (kd e : Int) : Tryz.prog.built 112 [(0, .int .i64 kd), (1, .agg (setA s)), (2, .int .i64 e)] = some (ptC ⟨s, kd, e⟩).toArray := by
 have h := fill_pt s kd e Tryz.zeroCells112 (by kernel_rfl)
 refine Eq.trans ?_ h
 kernel_rfl
theorem run_build_pt (s : Nat → Bool) (kd e : Int) (w : World) : (Instr.build 112 #[(0, .int .i64 kd), (1, .agg (setA s)), (2, .int .i64 e)]).run Tryz.prog w = .ok (ptV ⟨s, kd, e⟩) w := run_build w _ _ _ (built_pt s kd e)
theorem op_rowPt {o : Oper} {a : Act} {w : World} {K : Act → World → Prop} {Q : Exit → Act → World → Prop} (x : Operand) (p : PartD) (ho : o.op = .buildSlice 104 1 #[(0, x)]) (hx : a.eval x = ptV p)
  (h : K (a.put o.dst (.slice (some ⟨w.heap.size, 0, none⟩) 1 1)) (w.alloc (.cells (ptC p).toArray 112))) : o.wp Tryz.prog a w K Q := by
 obtain ⟨ie, hie⟩ : ∃ i, Tryz.prog.info? 112 = some i := Option.isSome_iff_exists.1 (by kernel_rfl)
 have hs : ie.size = 202 := by have := size_pt; rw [hie] at this; simpa using this
 obtain ⟨z, hz⟩ : ∃ z, ie.zero = some z := by
  have : (Tryz.prog.info? 112).map (fun i => i.zero.isSome) = some true := by kernel_rfl
  rw [hie] at this;exact Option.isSome_iff_exists.1 (by simpa using this)
 refine wp_buildSlice _ 112 1 #[(0, x)] ho (ptC p).toArray ie z Tryz.underlying104 hie hz (by rw [hs]; omega) (by rw [hs]; omega) ?_ h
 simp only [List.map_toArray, List.map_cons, List.map_nil, hx]
 rw [hs]
 exact fill_one (ptC p) _ (ptC_len p) (by simp)
theorem wpList_pt {ops : Array Oper} {rest : List Oper} {o : Oper} {a : Act} {w : World} {Q : Exit → Act → World → Prop} (hgd : o.guard = none) (x y z : Operand) (s : Nat → Bool) (kd e : Int) (ho : o.op = .build 112 #[(0, x), (1, y), (2, z)])
  (hx : a.eval x = .int .i64 kd) (hy : a.eval y = .agg (setA s)) (hz : a.eval z = .int .i64 e) (h : wpList Tryz.prog ops Q rest (a.put o.dst (ptV ⟨s, kd, e⟩)) w) : wpList Tryz.prog ops Q (o :: rest) a w :=
 wpList_plain hgd fun K hK => by
  unfold Oper.wp execOp;simp only [ho, List.map_toArray, List.map_cons, List.map_nil, hx, hy, hz, Sem.run_bind, run_build_pt, Result.andThen_ok, Sem.run_pure];exact hK _ _ h
theorem wpList_rowPt {ops : Array Oper} {rest : List Oper} {o : Oper} {a : Act} {w : World} {Q : Exit → Act → World → Prop} (hgd : o.guard = none) (x : Operand) (p : PartD) (ho : o.op = .buildSlice 104 1 #[(0, x)]) (hx : a.eval x = ptV p)
  (h : wpList Tryz.prog ops Q rest (a.put o.dst (.slice (some ⟨w.heap.size, 0, none⟩) 1 1)) (w.alloc (.cells (ptC p).toArray 112))) : wpList Tryz.prog ops Q (o :: rest) a w :=
 wpList_plain hgd fun _ hK => op_rowPt x p ho hx (hK _ _ h)
end
end Go.Proofs.YtblhmdhfhaencaaGreat
