/-
  Tiles that are lent: LentTile, KeptTile, SameTile, LentTiles, KeptTiles, SameTiles.
-/
import Derived.Test.YtblhmdhfhaencaaGreatLB
import Derived.Test.YtblhmdhfhaencaaGreatTJ
import Derived.Test.YtblhmdhfhaencaaGreatMark
import Derived.Test.YtblhmdhfhaencaaGreatFlatRel
import Derived.Test.YtblhmdhfhaencaaGreatEH
import Derived.Test.YtblhmdhfhaencaaGreatRM
import Derived.Deep.CutBlock
import Derived.Test.YtblhmdhfhaencaaGreatTH
import Derived.Test.YtblhmdhfhaencaaGreatRF
namespace Go.Proofs.YtblhmdhfhaencaaGreat
set_option linter.unusedSimpArgs false
set_option linter.unusedVariables false
set_option linter.unusedSectionVars false
set_option maxRecDepth 100000
set_option maxHeartbeats 40000000
section
open Go.RowKit
theorem info_Tile : (Tryz.prog.info? 76).map (fun i => (i.zero, i.size, i.bytes)) = some (some (.agg #[.int .i64 0, .int .i64 0, .slice none 0 0]), 3, 40) := by kernel_rfl
theorem Tile_one (r : TileR) : ∀ u ∈ tileC r, u.oneCell' = true := by
  intro u hu
  simp only [tileC, List.mem_cons, List.not_mem_nil, or_false] at hu
  rcases hu with rfl | rfl | rfl <;> rfl
def LentT (w : World) (base : Nat) (r r' : TileR) : Prop := r'.d = r.d ∧ Lent w base (.slice r'.ba r'.bn r'.bc) r.d.blocks
theorem LentT.sd {w : World} {base : Nat} {r r' : TileR} (h : LentT w base r r') : SDTile r' r := h.1
theorem LentT_law : LentLaw [3] LentT where
  chg := fun h hc hn => ⟨h.1, h.2.chg hc hn⟩
  mono := fun hb h => ⟨h.1, h.2.mono hb⟩
  grown := fun he h ho hg => ⟨h.1, h.2.grown (fun e => he (by simp [e])) ho hg⟩
theorem LentT.ok {w : World} {base : Nat} {r r' : TileR} (h : LentT w base r r') (hr : TileOK w r) (_ : TileNA r) : TileOK w r' := by
  obtain ⟨hd, hl⟩ := h
  obtain ⟨a, c, e, hi⟩ := hl.ints (by rw [hr.1.1]; exact hr.1.2.1) hr.1.mem
  obtain ⟨g, cap, e2, hc, _⟩ := hl.cells
  injection e with e1 e2' e3
  injection e2 with f1 f2 f3
  refine ⟨?_, by omega, ?_⟩
  · rw [hd, e1, e2']; exact hi
  · rw [hd]; exact hr.2.2
def markT (i : Nat) : TileR := ⟨⟨0, markV 1 (i : Int), []⟩, none, 0, 0⟩
theorem markT_ok (w : World) (k : Nat) (hk : k < 12) : TileOK w (markT k) := by
  have hm : I64 (markV 1 (k : Int)) := by unfold I64 markV; omega
  have z : I64 0 := by unfold I64; omega
  exact ⟨⟨rfl, Nat.zero_le _, fun j hj => absurd hj (by simp [markT])⟩, Nat.le_refl _, z, hm⟩
theorem markT_na (k : Nat) : TileNA (markT k) := by simp [TileNA, markT]
theorem lentTile_any (r : TileR) (w : World) (h : TileOK w r) (hn : TileNA r) :
    Calls Tryz.prog 54 #[tileVR r] w fun e w' => ∃ r', e = .returned (tileVR r') ∧ LentT w' w.heap.size r r' ∧ Below w.heap.size w w' := by
  have H := Lib.hid h
  have HN := Lib.hid hn
  clear h hn
  go_enter Tryz.func54, Tryz.ntmps54
  go_wp2_with (first
    | (go_at_call 52
       refine (lentInts_any r.ba r.bn r.bc r.d.blocks _ (H.out.1.ext (ext_trans (ext_alloc _ _) (ext_alloc _ _))) HN.out).mono ?_
       rintro e w1 ⟨v, rfl, hL, hb⟩
       obtain ⟨g0, cap0, rfl⟩ := hL.form
       obtain ⟨x1, x2, x3⟩ := box2 w (.cells #[.int .i64 r.d.kind, .int .i64 r.d.parent, .slice r.ba r.bn r.bc] 76) (.cells #[.int .i64 0, .int .i64 0, .slice none 0 0] 76) w1 hb
       have y6 : w1.cell? ⟨w.heap.size, 2, none⟩ = some (.slice r.ba r.bn r.bc) := by rw [cell_of_row _ _ _ _ _ _ x1]; rfl
       have z6 : w1.frozen? ⟨w.heap.size, 2, none⟩ = false := frozen_of_row _ _ _ _ _ x1
       obtain ⟨W1, hW2⟩ : ∃ W, w1.setCell ⟨w.heap.size, 2, none⟩ (.slice (some ⟨g0, 0, none⟩) r.d.blocks.length cap0) = W := ⟨_, rfl⟩
       have c2 : Chg (fun k => k = w.heap.size) w1 W1 := by rw [← hW2]; exact chg_setCell _ _ _ _
       have HL1_0 := Lib.hid (hL.chg c2 (fun k hk => by simp; omega))
       have X1 : W1.heap[w.heap.size]? = some (.cells #[.int .i64 r.d.kind, .int .i64 r.d.parent, .slice (some ⟨g0, 0, none⟩) r.d.blocks.length cap0] 76 (0, 0)) := by rw [← hW2, heap_setCell_same _ _ 2 _ _ _ x1]; rfl
       have HK1 := Lib.hid X1
       have HZ1 := Lib.hid (c2.row x2 (by omega))
       have HX1 := Lib.hid (x3.trans (c2.below (B := w.heap.size) x3.size (fun k hk => by omega)))
       have i1_0 : W1.cell? ⟨w.heap.size, 0, none⟩ = some (.int .i64 r.d.kind) := by rw [cell_of_row _ _ _ _ _ _ X1]; rfl
       have i1_1 : W1.cell? ⟨w.heap.size, 1, none⟩ = some (.int .i64 r.d.parent) := by rw [cell_of_row _ _ _ _ _ _ X1]; rfl
       have i1_2 : W1.cell? ⟨w.heap.size, 2, none⟩ = some (.slice (some ⟨g0, 0, none⟩) r.d.blocks.length cap0) := by rw [cell_of_row _ _ _ _ _ _ X1]; rfl
       clear hL x1 x2 x3 hb c2 X1)
    | (refine wpList_store_rowC rfl 76 _ _ rfl (w.heap.size + 1) #[.int .i64 r.d.kind, .int .i64 r.d.parent, .slice (some ⟨g0, 0, none⟩) r.d.blocks.length cap0] rfl rfl 76 _ HZ1.out (by kernel_rfl) rfl (by simp [Value.oneCell']) ?_
       intro W9 c3 X3
       have HL9_0 := Lib.hid (HL1_0.out.chg c3 (fun k hk => by simp; omega))
       have HX9 := Lib.hid (HX1.out.trans (c3.below (B := w.heap.size) HX1.out.size (fun k hk => by omega)))
       have j0 : W9.cell? ⟨w.heap.size + 1, 0, none⟩ = some (.int .i64 r.d.kind) := by rw [cell_of_row _ _ _ _ _ _ X3]; rfl
       have j1 : W9.cell? ⟨w.heap.size + 1, 1, none⟩ = some (.int .i64 r.d.parent) := by rw [cell_of_row _ _ _ _ _ _ X3]; rfl
       have j2 : W9.cell? ⟨w.heap.size + 1, 2, none⟩ = some (.slice (some ⟨g0, 0, none⟩) r.d.blocks.length cap0) := by rw [cell_of_row _ _ _ _ _ _ X3]; rfl
       clear c3 X3))
  refine bodyPost_ret (v := .agg #[.int .i64 r.d.kind, .int .i64 r.d.parent, .slice (some ⟨g0, 0, none⟩) r.d.blocks.length cap0]) (by simp [results, Tryz.results54, go_sem, j0, j1, j2]) rfl ⟨⟨r.d, some ⟨g0, 0, none⟩, r.d.blocks.length, cap0⟩, rfl, ?_, HX9.out⟩
  exact ⟨rfl, HL9_0.out.mono (by simp; omega)⟩
theorem keptTile_any (r s : TileR) (base : Nat) (w : World) (h : LentT w base s r) (hs : TileOK w s) (hn : TileNA s) :
    Calls Tryz.prog 65 #[tileVR r, tileVR s] w fun e w' => e = .returned (.bool true) ∧ Below w.heap.size w w' := by
  have HR := Lib.hid (h.ok hs hn)
  have HS := Lib.hid hs
  have HH := Lib.hid h
  have HN := Lib.hid hn
  have HD := Lib.hid h.sd
  clear hs h hn
  obtain ⟨W0, HW0, hR, hS, hW0⟩ := boxes2 w (.cells #[.int .i64 r.d.kind, .int .i64 r.d.parent, .slice r.ba r.bn r.bc] 76) (.cells #[.int .i64 s.d.kind, .int .i64 s.d.parent, .slice s.ba s.bn s.bc] 76)
  have x0 : ∀ w', Below W0.heap.size W0 w' → w'.cell? ⟨w.heap.size, 0, none⟩ = some (.int .i64 r.d.kind) := fun w' hb => by rw [cell_of_row _ _ _ _ _ _ (block_ext hb hR)]; rfl
  have x1 : ∀ w', Below W0.heap.size W0 w' → w'.cell? ⟨w.heap.size, 1, none⟩ = some (.int .i64 r.d.parent) := fun w' hb => by rw [cell_of_row _ _ _ _ _ _ (block_ext hb hR)]; rfl
  have x2 : ∀ w', Below W0.heap.size W0 w' → w'.cell? ⟨w.heap.size, 2, none⟩ = some (.slice r.ba r.bn r.bc) := fun w' hb => by rw [cell_of_row _ _ _ _ _ _ (block_ext hb hR)]; rfl
  have y0 : ∀ w', Below W0.heap.size W0 w' → w'.cell? ⟨w.heap.size + 1, 0, none⟩ = some (.int .i64 s.d.kind) := fun w' hb => by rw [cell_of_row _ _ _ _ _ _ (block_ext hb hS)]; rfl
  have y1 : ∀ w', Below W0.heap.size W0 w' → w'.cell? ⟨w.heap.size + 1, 1, none⟩ = some (.int .i64 s.d.parent) := fun w' hb => by rw [cell_of_row _ _ _ _ _ _ (block_ext hb hS)]; rfl
  have y2 : ∀ w', Below W0.heap.size W0 w' → w'.cell? ⟨w.heap.size + 1, 2, none⟩ = some (.slice s.ba s.bn s.bc) := fun w' hb => by rw [cell_of_row _ _ _ _ _ _ (block_ext hb hS)]; rfl
  have E0 : Below W0.heap.size W0 W0 := Below.refl _ _
  clear hR hS
  go_enter Tryz.func65, Tryz.ntmps65
  go_wp2_with (first
    | (go_at_call 63
       refine (keptInts_any base _ s.ba s.bn s.bc s.d.blocks w1 (LentT_law.ext (LentT_law.ext HH.out HW0.out) E1).2 ((HS.out.ext HW0.out).ext E1).1 HN.out).mono ?_
       rintro e w2 ⟨rfl, q2, hq2⟩
       have E2 : Below W0.heap.size W0 w2 := by rw [hq2]; exact ext_drewN E1 q2
       clear hq2)
    | (go_at_call 66
       refine (sameTile_any r s W0 HD.out (HR.out.ext HW0.out) (HS.out.ext HW0.out) HN.out).mono ?_
       rintro e w1 ⟨rfl, E1⟩))
  go_ret
  exact ⟨rfl, ext_trans HW0.out E2⟩
theorem markTile_any (i : Nat) (w : World) (hi : i ≤ 100000) :
    Calls Tryz.prog 55 #[.int .i64 1, .int .i64 (i : Int)] w fun e w' => e = .returned (tileVR (markT i)) ∧ Below w.heap.size w w' := by
  go_enter Tryz.func55, Tryz.ntmps55
  go_wp2_with (first
    | (go_at_call 112; refine (mark_any _ _ _ (by omega) (by omega)).mono ?_; rintro e w' ⟨rfl, rfl⟩)
    | (refine wpList_store_rowB rfl 76 _ _ rfl w.heap.size #[.int .i64 0, .int .i64 (markV 1 (i : Int)), .slice none 0 0] rfl rfl 76 _ (heap_alloc_new w _) (by kernel_rfl) rfl (by simp [Value.oneCell']) w.heap.size w (ext_alloc w _) (Nat.le_refl _) ?_
       intro W3 hb3 X3
       have HX := Lib.hid hb3
       have j0 : W3.cell? ⟨w.heap.size, 0, none⟩ = some (.int .i64 0) := by rw [cell_of_row _ _ _ _ _ _ X3]; rfl
       have j1 : W3.cell? ⟨w.heap.size, 1, none⟩ = some (.int .i64 (markV 1 (i : Int))) := by rw [cell_of_row _ _ _ _ _ _ X3]; rfl
       have j2 : W3.cell? ⟨w.heap.size, 2, none⟩ = some (.slice none 0 0) := by rw [cell_of_row _ _ _ _ _ _ X3]; rfl
       clear hb3 X3))
  refine bodyPost_ret (v := tileVR (markT i)) (by simp [results, Tryz.results55, go_sem, j0, j1, j2, markT]) rfl ⟨rfl, HX.out⟩
abbrev LentTiles (w : World) (base : Nat) (v : Value) (rs rs' : List TileR) : Prop := LentL tileC 3 76 LentT markT w base v rs rs'
def LentTilesPost (w : World) (rs : List TileR) (e : Ending) (w' : World) : Prop := ∃ v rs', e = .returned v ∧ LentTiles w' w.heap.size v rs rs' ∧ Below w.heap.size w w'
theorem LentTiles.okS {w : World} {base : Nat} {g n cap : Nat} {rs rs' : List TileR} {a : Option Addr} (h : LentTiles w base (.slice (some ⟨g, 0, none⟩) n cap) rs rs') (hs : TilesOK w a n rs) (hn : n ≤ 1000000) (hna : ∀ r ∈ rs, TileNA r) :
    TilesOK w (some ⟨g, 0, none⟩) (n + 12) (rs' ++ markL markT) ∧ TilesOK w (some ⟨g, 0, none⟩) n rs' ∧ rs'.length = n ∧ n + 12 ≤ cap ∧ cap ≤ maxLen ∧ LentEs LentT w base rs rs' := by
  obtain ⟨h1, h2, h3, h4, h5, h6⟩ := h.recs tileC_len (by omega) hn
  have ho : ∀ r ∈ rs', TileOK w r := fun r hm => by
    obtain ⟨k, hk, e⟩ := List.mem_iff_getElem.1 hm
    have hk2 : k < rs.length := by rw [← h6.1]; exact hk
    exact (h6.2 k rs[k] r (List.getElem?_eq_getElem hk2) (by rw [List.getElem?_eq_getElem hk, e])).ok (hs.2 _ (List.getElem_mem hk2)) (hna _ (List.getElem_mem hk2))
  refine ⟨⟨h1, fun r hm => ?_⟩, ⟨h.recsN tileC_len (by omega) hn, ho⟩, h3, h4, h5, h6⟩
  rcases List.mem_append.1 hm with hm | hm
  · exact ho r hm
  · exact markL_all (OK := fun r => TileOK w r) (fun j hj => markT_ok w j hj) r hm
theorem lentTiles_any (a : Option Addr) (n c : Nat) (rs : List TileR) (w : World) (h : TilesOK w a n rs) (hn : n ≤ 1000000) (hna : ∀ r ∈ rs, TileNA r) :
    Calls Tryz.prog 12 #[.slice a n c] w (LentTilesPost w rs) := by
  obtain ⟨i0, hi, hz0, hz1, hz2⟩ := info_parts (P := Tryz.prog) info_Tile
  have HL := Lib.hid h.1.1
  have H := Lib.hid h
  have HNA := Lib.hid hna
  clear h hna
  go_enter Tryz.func12, Tryz.ntmps12
  go_wp2_with (first
    | (at_make
       refine wpList_make_own _ rfl _ _ 26 rfl w.heap.size 76 i0 _ 3 Tryz.underlying26 hi hz0 hz1 .i64 .i64 _ (n + 12) rfl rfl (by omega) (by rw [hz2]; omega) (by simp only [maxLen]; omega) (Nat.le_refl _) ?_
       intro w1 hown1 hg1
       have HO1 := Lib.hid hown1
       have HB1 : Hid (Below w.heap.size w w1) := (Below.refl _ _).grown hg1 (Nat.le_refl _) (by simp)
       clear hown1 hg1))
  go_loopw [3, 4, 5] (fun v i _ wr => ∃ (k : Nat) (rs' : List TileR), k ≤ n ∧ i = .int .i64 k ∧ Hid (wr.ownsRow w.heap.size 76 3 v k (rs'.flatMap tileC)) ∧ Hid (LentEs LentT wr w.heap.size (rs.take k) rs') ∧ Hid (Below w.heap.size w wr)) (fun _ i _ _ => n - (intOf i).toNat)
  case atStart => exact ⟨0, [], by omega, rfl, HO1, LentEs.nil _ _, HB1⟩
  case round =>
    obtain ⟨k, rs', hk, rfl, HO, HLR, HB⟩ := hrel
    by_cases hlt : k < n
    · obtain ⟨r, b, o, hr, hok, rfl, y0, y1, y2⟩ := (H.out.ext HB.out).cells hlt
      have HG := Lib.hid hr
      have HOK := Lib.hid hok
      have HTK : Hid (rs.take (k + 1) = rs.take k ++ [r]) := by rw [Hid, List.take_add_one, hr]; rfl
      have HNr := Lib.hid (HNA.out r (List.mem_of_getElem? hr))
      clear hr hok
      go_wp2_with (first
        | (go_at_call 54
           refine (lentTile_any r wr HOK.out HNr.out).mono ?_
           rintro e w1 ⟨r', rfl, hL, hb⟩
           have HLr := Lib.hid hL
           have HB1 := Lib.hid hb
           clear hL hb y0 y1 y2)
        | (refine wpList_store_rowB rfl 76 _ _ rfl w1.heap.size #[.int .i64 r'.d.kind, .int .i64 r'.d.parent, .slice r'.ba r'.bn r'.bc] rfl rfl 76 _ (heap_alloc_new w1 _) (by kernel_rfl) rfl (by simp [Value.oneCell']) w1.heap.size w1 (ext_alloc w1 _) (Nat.le_refl _) ?_
           intro W3 hb3 X3
           have HB3 := Lib.hid (ext_trans HB1.out hb3)
           have HLr3 := Lib.hid (LentT_law.ext (LentT_law.mono HB.out.size HLr.out) hb3)
           have i0 : W3.cell? ⟨w1.heap.size, 0, none⟩ = some (.int .i64 r'.d.kind) := by rw [cell_of_row _ _ _ _ _ _ X3]; rfl
           have i1 : W3.cell? ⟨w1.heap.size, 1, none⟩ = some (.int .i64 r'.d.parent) := by rw [cell_of_row _ _ _ _ _ _ X3]; rfl
           have i2 : W3.cell? ⟨w1.heap.size, 2, none⟩ = some (.slice r'.ba r'.bn r'.bc) := by rw [cell_of_row _ _ _ _ _ _ X3]; rfl
           clear hb3 X3)
        | (at_builtin
           go_loud (
             have HO1 := Lib.hid ((Steady.ownsRow wr.heap.size _ _ _ _ _ _).ext HO.out HB3.out)
             refine wpList_append1 rfl W3 (.tmp 22) (.tmp 24) 26 76 rfl w.heap.size _ 3 40 Tryz.underlying26 info_Tile rfl (by omega) u3 k _ (tileC r') rfl HO1.out W3.heap.size rfl rfl rfl (Tile_one r') (by simp only [maxLen]; omega) (by omega) (ext_trans HB.out HB3.out).size ?_
             intro g cap w4 hown4 hg4 hat4
             have HO4 : Hid (w4.ownsRow w.heap.size 76 3 (.slice (some ⟨g, 0, none⟩) (k + 1) cap) (k + 1) ((rs' ++ [r']).flatMap tileC)) := by rw [Hid, List.flatMap_append]; simpa using hown4
             have HB4 : Hid (Below w.heap.size w w4) := (ext_trans HB.out HB3.out).grown hg4 (ext_trans HB.out HB3.out).size (fun j e => (HO1.out.lt j e).1)
             have HL4 : Hid (LentEs LentT w4 w.heap.size (rs.take (k + 1)) (rs' ++ [r'])) := by
               rw [Hid, HTK.out]
               exact ((HLR.out.ext LentT_law HB3.out).snoc HLr3.out).grown LentT_law (by decide) HO1.out hg4
             clear hown4 hg4 hat4 i0 i1 i2)))
      go_roundw
      case rel => exact ⟨k + 1, rs' ++ [r'], by omega, by go_num, HO4, HL4, HB4⟩
      case measure => simp [intOf]; omega
    · obtain rfl : k = n := by omega
      have HLR1 : Hid (LentEs LentT wr w.heap.size rs rs') := by
        have := HLR.out
        rw [List.take_of_length_le (by rw [HL.out]; omega)] at this
        exact this
      have HO1 : Hid (wr.ownsRow w.heap.size 76 3 u3 (k + 0) ((rs' ++ (markL markT).take 0).flatMap tileC)) := by rw [Hid]; simpa using HO.out
      clear HLR HO
      go_wp2
      go_loopw [3, 6] (fun v i wr => ∃ (j : Nat), j ≤ 12 ∧ i = .int .i64 j ∧ Hid (wr.ownsRow w.heap.size 76 3 v (k + j) ((rs' ++ (markL markT).take j).flatMap tileC)) ∧ Hid (LentEs LentT wr w.heap.size rs rs') ∧ Hid (Below w.heap.size w wr)) (fun _ i _ => 12 - (intOf i).toNat)
      case atStart => exact ⟨0, by omega, rfl, HO1, HLR1, HB⟩
      case round =>
        clear HO1 HLR1 HB
        obtain ⟨j, hj, rfl, HO, HLR, HB⟩ := hrel
        by_cases hlt : j < 12
        · go_wp2_with (first
            | (go_at_call 55; refine (markTile_any j _ (by omega)).mono ?_; rintro e w1 ⟨rfl, hb1⟩; have HB1 := Lib.hid hb1; clear hb1)
            | (at_builtin
               go_loud (
                 have HO1 := Lib.hid ((Steady.ownsRow wr.heap.size _ _ _ _ _ _).ext HO.out HB1.out)
                 refine wpList_append1 rfl w1 (.tmp 30) (.tmp 33) 26 76 rfl w.heap.size _ 3 40 Tryz.underlying26 info_Tile rfl (by omega) u3 (k + j) _ (tileC (markT j)) rfl HO1.out w1.heap.size rfl rfl rfl (Tile_one _) (by simp only [maxLen]; omega) (by omega) (ext_trans HB.out HB1.out).size ?_
                 intro g cap w4 hown4 hg4 hat4
                 have HO4 : Hid (w4.ownsRow w.heap.size 76 3 (.slice (some ⟨g, 0, none⟩) (k + j + 1) cap) (k + j + 1) ((rs' ++ (markL markT).take (j + 1)).flatMap tileC)) := by rw [Hid, markL_take markT j hlt, ← List.append_assoc, List.flatMap_append]; simpa using hown4
                 have HB4 : Hid (Below w.heap.size w w4) := (ext_trans HB.out HB1.out).grown hg4 (ext_trans HB.out HB1.out).size (fun j e => (HO1.out.lt j e).1)
                 have HL4 : Hid (LentEs LentT w4 w.heap.size rs rs') := (HLR.out.ext LentT_law HB1.out).grown LentT_law (by decide) HO1.out hg4
                 clear hown4 hg4 hat4)))
          go_roundw
          case rel => exact ⟨j + 1, by omega, by go_num, HO4, HL4, HB4⟩
          case measure => simp [intOf]; omega
        · obtain rfl : j = 12 := by omega
          have hown := HO.out
          have hform : ∃ g cap, u3 = .slice (some ⟨g, 0, none⟩) (k + 12) cap ∧ k + 12 ≤ cap ∧ cap ≤ maxLen := by
            rcases hown.2 with ⟨_, h0⟩ | ⟨g', cap', cur, hv, _, _, h1, h2, _⟩
            · omega
            · exact ⟨_, _, hv, h1, h2⟩
          obtain ⟨g, cap, rfl, hc1, hc2⟩ := hform
          clear hown
          unfold maxLen at hc2
          go_wp2
          go_ret
          refine ⟨_, rs', rfl, ⟨g, cap, by rw [HL.out]; rfl, ?_, HLR.out⟩, HB.out⟩
          have := HO.out
          rw [HL.out]
          rw [List.take_of_length_le (by rw [markL_len]; omega)] at this
          exact this
theorem keptTiles_any (base g cap : Nat) (a : Option Addr) (n c : Nat) (rs rs' : List TileR) (w : World) (h : LentTiles w base (.slice (some ⟨g, 0, none⟩) n cap) rs rs') (hs : TilesOK w a n rs) (hn : n ≤ 1000000) (hna : ∀ r ∈ rs, TileNA r) :
    Calls Tryz.prog 22 #[.slice (some ⟨g, 0, none⟩) n cap, .slice a n c] w fun e w' => e = .returned (.bool true) ∧ Below w.heap.size w w' := by
  obtain ⟨h1, _, hlen, hc1, hc2, hl⟩ := h.okS hs hn hna
  have HA := Lib.hid h1
  have HS := Lib.hid hs
  have HL := Lib.hid hl
  have HLen := Lib.hid hlen
  have HNA := Lib.hid hna
  clear h hs h1 hl hlen hna
  unfold maxLen at hc2
  have hne : ((n : Int) != (n : Int)) = false := by simp
  go_enter Tryz.func22, Tryz.ntmps22
  go_wp2
  go_loopw [6] (fun i wr => ∃ (k : Nat), k ≤ n + 12 ∧ i = .int .i64 k ∧ Hid (Below w.heap.size w wr)) (fun i _ => n + 12 - (intOf i).toNat)
  case atStart => exact ⟨0, by omega, rfl, Below.refl _ _⟩
  case round =>
    obtain ⟨k, hk, rfl, HB⟩ := hrel
    by_cases hlt : k < n + 12
    · obtain ⟨r, b1, o1, hr, hokr, hab, y0, y1, y2⟩ := (HA.out.ext HB.out).cells hlt
      injection hab with hab
      injection hab with hab1 hab2 _
      subst hab1
      subst hab2
      have HOr := Lib.hid hokr
      rw [Nat.zero_add] at y0 y1 y2
      have kx0 : ∀ n : ExtW wr, n.val.cell? ⟨g, k * 3, none⟩ = some (.int .i64 r.d.kind) := fun n => cell_ext n.ext y0
      have kx1 : ∀ n : ExtW wr, n.val.cell? ⟨g, k * 3 + 1, none⟩ = some (.int .i64 r.d.parent) := fun n => cell_ext n.ext y1
      have kx2 : ∀ n : ExtW wr, n.val.cell? ⟨g, k * 3 + 2, none⟩ = some (.slice r.ba r.bn r.bc) := fun n => cell_ext n.ext y2
      have HNE : Nonempty (ExtW wr) := ⟨⟨wr, Below.refl _ _⟩⟩
      by_cases hkn : k < n
      · rw [List.getElem?_append_left (by rw [HLen.out]; exact hkn)] at hr
        obtain ⟨s, b2, o2, hs, hoks, rfl, z0, z1, z2⟩ := (HS.out.ext HB.out).cells hkn
        have HLk := Lib.hid (LentT_law.ext (HL.out.2 k s r hs hr) HB.out)
        have HOs := Lib.hid hoks
        have HNs := Lib.hid (HNA.out s (List.mem_of_getElem? hs))
        have ky0 : ∀ n : ExtW wr, n.val.cell? ⟨b2, o2 + k * 3, none⟩ = some (.int .i64 s.d.kind) := fun n => cell_ext n.ext z0
        have ky1 : ∀ n : ExtW wr, n.val.cell? ⟨b2, o2 + k * 3 + 1, none⟩ = some (.int .i64 s.d.parent) := fun n => cell_ext n.ext z1
        have ky2 : ∀ n : ExtW wr, n.val.cell? ⟨b2, o2 + k * 3 + 2, none⟩ = some (.slice s.ba s.bn s.bc) := fun n => cell_ext n.ext z2
        have hk0 : (0 : Int) ≤ (k : Int) := by omega
        have hk1 : (k : Int) < (n : Int) := by omega
        have hk2 : (k : Int) < (n : Int) + 12 := by omega
        have d1 : decide ((k : Int) < (n : Int)) = true := by simpa using hkn
        have d2 : decide ((n : Int) ≤ (k : Int)) = false := by simp; omega
        have d3 : decide (k < n) = true := by simpa using hkn
        have d4 : decide (n ≤ k) = false := by simp; omega
        clear hr hs hoks hokr y0 y1 y2 z0 z1 z2 hkn
        go_wp2
        refine region_ext (by kernel_rfl) (by kernel_rfl) ?_
        repeat (go_big_quiet_step (first
          | (go_at_call 65; exact quiet_ext (keptTile_any r s base _ (LentT_law.ext HLk.out (ExtW.ext _)) (TileOK.ext HOs.out (ExtW.ext _)) HNs.out))))
        refine wpQuiet_nil ?_
        rintro _ ⟨mm, rfl⟩
        have HM := Lib.hid (ext_trans HB.out mm.ext)
        generalize mm.val = W8 at *
        clear kx0 kx1 kx2 ky0 ky1 ky2
        go_wp2
        go_roundw
        case rel => exact ⟨k + 1, by omega, by go_num, HM⟩
        case measure => simp [intOf]; omega
      · obtain ⟨j, rfl⟩ : ∃ j, k = n + j := ⟨k - n, by omega⟩
        have hj : j < 12 := by omega
        have hrm : r = markT j := by
          rw [List.getElem?_append_right (by rw [HLen.out]; omega), HLen.out, Nat.add_sub_cancel_left, markL_at markT j hj] at hr
          exact (Option.some.inj hr).symm
        have HRM := Lib.hid hrm
        have d1 : decide (n + j < n) = false := by simp
        have d2 : decide (n ≤ n + j) = true := by simp
        have d3 : decide ((n : Int) + (j : Int) < (n : Int)) = false := by simp; omega
        have d4 : decide ((n : Int) ≤ (n : Int) + (j : Int)) = true := by simp; omega
        have d5 : IntKind.i64.wrap ((n : Int) + (j : Int) - (n : Int)) = (j : Int) := by rw [IntKind.wrap_i64]; omega
        have hk0 : (0 : Int) ≤ (n : Int) + (j : Int) := by omega
        have hk2 : (n : Int) + (j : Int) < (n : Int) + 12 := by omega
        clear hr hrm hokr y0 y1 y2 hkn
        go_wp2
        refine region_ext (by kernel_rfl) (by kernel_rfl) ?_
        repeat (go_big_quiet_step (first
          | (go_at_call 55; exact quiet_ext (markTile_any j _ (by omega)))
          | (go_at_call 66; exact quiet_ext (sameTile_any r (markT j) _ (by rw [HRM.out]; exact SDTile_refl _) (TileOK.ext HOr.out (ExtW.ext _)) (markT_ok _ j hj) (markT_na j)))))
        refine wpQuiet_nil ?_
        rintro _ ⟨mm, rfl⟩
        have HM := Lib.hid (ext_trans HB.out mm.ext)
        generalize mm.val = W8 at *
        clear kx0 kx1 kx2
        go_wp2
        go_roundw
        case rel => exact ⟨n + j + 1, by omega, by go_num, HM⟩
        case measure => simp [intOf]; omega
    · go_wp2
      go_ret
      exact ⟨rfl, HB.out⟩
end

section
open Go.RowKit Go.Shelf
theorem lent_td {w : World} {base : Nat} {rs rs' : List TileR} (h : LentEs LentT w base rs rs') : tdOf rs' = tdOf rs := by
  apply List.ext_getElem?
  intro k
  simp only [tdOf, List.getElem?_map]
  by_cases hk : k < rs.length
  · have hk2 : k < rs'.length := by rw [h.1]; exact hk
    have := (h.2 k rs[k] rs'[k] (List.getElem?_eq_getElem hk) (List.getElem?_eq_getElem hk2)).1
    rw [List.getElem?_eq_getElem hk, List.getElem?_eq_getElem hk2]
    simp [this]
  · rw [List.getElem?_eq_none (l := rs') (by rw [h.1]; omega), List.getElem?_eq_none (l := rs) (by omega)]
theorem bn_le_tot (ls : List TileR) : ∀ r ∈ ls, r.d.blocks.length ≤ totL (tdOf ls) := by
  induction ls with
  | nil => intro r hr; cases hr
  | cons x l ih =>
    intro r hr
    simp only [tdOf, List.map_cons, totL, List.sum_cons]
    rcases List.mem_cons.1 hr with rfl | hr
    · omega
    · have := ih r hr
      simp only [tdOf, totL] at this
      omega
end
end Go.Proofs.YtblhmdhfhaencaaGreat
