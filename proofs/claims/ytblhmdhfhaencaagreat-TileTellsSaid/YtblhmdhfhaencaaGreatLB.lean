/-
  Tiles that are alike: SameTile, SameTiles.
-/
import Derived.Test.YtblhmdhfhaencaaGreatQF
import Derived.Test.YtblhmdhfhaencaaGreatTJ
import Derived.Test.YtblhmdhfhaencaaGreatMark
import Derived.Test.YtblhmdhfhaencaaGreatMarks
import Derived.Test.YtblhmdhfhaencaaGreatQR
import Derived.Test.YtblhmdhfhaencaaGreatLX
import Derived.Test.YtblhmdhfhaencaaGreatTH
import Derived.Deep.Onto
import Derived.Test.YtblhmdhfhaencaaGreatEH
namespace Go.Proofs.YtblhmdhfhaencaaGreat
set_option linter.unusedSimpArgs false
set_option linter.unusedVariables false
set_option linter.unusedSectionVars false
set_option maxRecDepth 100000
set_option maxHeartbeats 40000000
section
open Go.RowKit
def TileNA (t : TileR) : Prop := t.bn ≤ 1000000
abbrev TileOK (w : World) (t : TileR) : Prop := Ints w t.ba t.bn t.d.blocks ∧ t.bn ≤ t.bc ∧ I64 t.d.kind ∧ I64 t.d.parent
theorem TileOK.ext {w w' : World} {t : TileR} (h : TileOK w t) (hb : Below w.heap.size w w') : TileOK w' t := ⟨h.1.ext hb, h.2⟩
abbrev tileVR (t : TileR) : Value := .agg #[.int .i64 t.d.kind, .int .i64 t.d.parent, .slice t.ba t.bn t.bc]
def SDTile (r s : TileR) : Prop := r.d = s.d
theorem SDTile_refl (r : TileR) : SDTile r r := rfl
theorem sameTile_any (r s : TileR) (w : World) (hd : SDTile r s) (hr : TileOK w r) (hs : TileOK w s) (hna : TileNA s) :
    Calls Tryz.prog 66 #[tileVR r, tileVR s] w fun e w' => e = .returned (.bool true) ∧ Below w.heap.size w w' := by
  obtain ⟨dr, ra, rn, rc⟩ := r
  obtain rfl : dr = s.d := hd
  have HR := Lib.hid hr
  have HS := Lib.hid hs
  clear hr hs hna
  obtain ⟨W0, HW0, hR, hS, hW0⟩ := boxes2 w (.cells #[.int .i64 s.d.kind, .int .i64 s.d.parent, .slice ra rn rc] 76) (.cells #[.int .i64 s.d.kind, .int .i64 s.d.parent, .slice s.ba s.bn s.bc] 76)
  have x0 : ∀ w', Below W0.heap.size W0 w' → w'.cell? ⟨w.heap.size, 0, none⟩ = some (.int .i64 s.d.kind) := fun w' hb => by rw [cell_of_row _ _ _ _ _ _ (block_ext hb hR)]; rfl
  have x1 : ∀ w', Below W0.heap.size W0 w' → w'.cell? ⟨w.heap.size, 1, none⟩ = some (.int .i64 s.d.parent) := fun w' hb => by rw [cell_of_row _ _ _ _ _ _ (block_ext hb hR)]; rfl
  have x2 : ∀ w', Below W0.heap.size W0 w' → w'.cell? ⟨w.heap.size, 2, none⟩ = some (.slice ra rn rc) := fun w' hb => by rw [cell_of_row _ _ _ _ _ _ (block_ext hb hR)]; rfl
  have y0 : ∀ w', Below W0.heap.size W0 w' → w'.cell? ⟨w.heap.size + 1, 0, none⟩ = some (.int .i64 s.d.kind) := fun w' hb => by rw [cell_of_row _ _ _ _ _ _ (block_ext hb hS)]; rfl
  have y1 : ∀ w', Below W0.heap.size W0 w' → w'.cell? ⟨w.heap.size + 1, 1, none⟩ = some (.int .i64 s.d.parent) := fun w' hb => by rw [cell_of_row _ _ _ _ _ _ (block_ext hb hS)]; rfl
  have y2 : ∀ w', Below W0.heap.size W0 w' → w'.cell? ⟨w.heap.size + 1, 2, none⟩ = some (.slice s.ba s.bn s.bc) := fun w' hb => by rw [cell_of_row _ _ _ _ _ _ (block_ext hb hS)]; rfl
  have E0 : Below W0.heap.size W0 W0 := Below.refl _ _
  clear hR hS
  go_enter Tryz.func66, Tryz.ntmps66
  go_wp2_with (first
    | (go_at_call 44
       refine (sameInts_any ra s.ba rn s.bn rc s.bc s.d.blocks s.d.blocks W0 ((HR.out.1.ext HW0.out).ext E0) ((HS.out.1.ext HW0.out).ext E0)).mono ?_
       rw [decide_eq_true rfl]
       rintro e w1 ⟨rfl, q1, hq1⟩
       have E1 : Below W0.heap.size W0 w1 := by rw [hq1]; exact ext_drewN E0 q1
       clear hq1))
  go_ret
  exact ⟨rfl, ext_trans HW0.out E1⟩
theorem sameTiles_any (a b : Option Addr) (n c d : Nat) (rs ss : List TileR) (w : World) (hr : TilesOK w a n rs) (hs : TilesOK w b n ss) (h : SameEs SDTile rs ss) (hna : ∀ r ∈ ss, TileNA r) :
    Calls Tryz.prog 35 #[.slice a n c, .slice b n d] w fun e w' => e = .returned (.bool true) ∧ Below w.heap.size w w' := by
  have HR := Lib.hid hr
  have HS := Lib.hid hs
  have HH := Lib.hid h
  have HNA := Lib.hid hna
  have hn := hr.1.2.1
  clear hr hs h hna
  have hne : ((n : Int) != (n : Int)) = false := by simp
  go_enter Tryz.func35, Tryz.ntmps35
  go_wp2
  go_loopw [5] (fun i wr => ∃ (k : Nat), k ≤ n ∧ i = .int .i64 k ∧ Hid (Below w.heap.size w wr)) (fun i _ => n - (intOf i).toNat)
  case atStart => exact ⟨0, by omega, rfl, Below.refl _ _⟩
  case round =>
    obtain ⟨k, hk, rfl, HB⟩ := hrel
    by_cases hlt : k < n
    · obtain ⟨r, b1, o1, hr, hokr, rfl, y0, y1, y2⟩ := (HR.out.ext HB.out).cells hlt
      obtain ⟨s, b2, o2, hs, hoks, rfl, z0, z1, z2⟩ := (HS.out.ext HB.out).cells hlt
      have HD := Lib.hid (HH.out.2 k r s hr hs)
      have HNs := Lib.hid (HNA.out s (List.mem_of_getElem? hs))
      have HOr := Lib.hid hokr
      have HOs := Lib.hid hoks
      have hk0 : (0 : Int) ≤ (k : Int) := by omega
      have hk1 : (k : Int) < (n : Int) := by omega
      have kx0 : ∀ n : ExtW wr, n.val.cell? ⟨b1, o1 + k * 3, none⟩ = some (.int .i64 r.d.kind) := fun n => cell_ext n.ext y0
      have kx1 : ∀ n : ExtW wr, n.val.cell? ⟨b1, o1 + k * 3 + 1, none⟩ = some (.int .i64 r.d.parent) := fun n => cell_ext n.ext y1
      have kx2 : ∀ n : ExtW wr, n.val.cell? ⟨b1, o1 + k * 3 + 2, none⟩ = some (.slice r.ba r.bn r.bc) := fun n => cell_ext n.ext y2
      have ky0 : ∀ n : ExtW wr, n.val.cell? ⟨b2, o2 + k * 3, none⟩ = some (.int .i64 s.d.kind) := fun n => cell_ext n.ext z0
      have ky1 : ∀ n : ExtW wr, n.val.cell? ⟨b2, o2 + k * 3 + 1, none⟩ = some (.int .i64 s.d.parent) := fun n => cell_ext n.ext z1
      have ky2 : ∀ n : ExtW wr, n.val.cell? ⟨b2, o2 + k * 3 + 2, none⟩ = some (.slice s.ba s.bn s.bc) := fun n => cell_ext n.ext z2
      have HNE : Nonempty (ExtW wr) := ⟨⟨wr, Below.refl _ _⟩⟩
      clear hr hs hokr hoks y0 y1 y2 z0 z1 z2
      go_wp2
      refine region_ext (by kernel_rfl) (by kernel_rfl) ?_
      repeat (first
        | go_big_quiet_skip
        | go_big_quiet_step (first
          | (go_at_call 66; exact quiet_ext (sameTile_any r s _ HD.out (TileOK.ext HOr.out (ExtW.ext _)) (TileOK.ext HOs.out (ExtW.ext _)) HNs.out))))
      refine wpQuiet_nil ?_
      rintro _ ⟨mm, rfl⟩
      have HM := Lib.hid (ext_trans HB.out mm.ext)
      generalize mm.val = W8 at *
      clear kx0 kx1 kx2 ky0 ky1 ky2
      go_wp2
      go_roundw
      case rel => exact ⟨k + 1, by omega, by go_num, HM⟩
      case measure => simp [intOf]; omega
    · go_wp2
      go_ret
      exact ⟨rfl, HB.out⟩
end

section
open Go.RowKit Go.Shelf
attribute [local go_sem] Oper.semAt_some wide_fn wide_depth wide_fnR wide_depthR
theorem same_td {rs ss : List TileR} (h : tdOf rs = tdOf ss) : SameEs SDTile rs ss := by
  have hl : rs.length = ss.length := by have := congrArg List.length h; simpa [tdOf] using this
  refine ⟨hl, fun k r s hr hs => ?_⟩
  have h1 := congrArg (fun l => l[k]?) h
  simp only [tdOf, List.getElem?_map, hr, hs, Option.map_some, Option.some.injEq] at h1
  exact h1
theorem aw_totL : totL awL ≤ 1000000 := by decide +kernel
theorem i64_zero : I64 0 := by unfold I64; omega
theorem awake17_any (w : World) : Calls Tryz.prog 33 #[] w fun e w' => e = .returned (.bool true) ∧ Below w.heap.size w w' := by
  go_enter Tryz.func33, Tryz.ntmps33
  go_upto_region 2 with (
    (go_at_call 49
     obtain ⟨hl, hb0⟩ := aw_lrows w _ rfl
     refine (of17_any _ 3 3 _ _ hl (by omega) (by intro r hr; simp only [awRs, List.mem_cons, List.not_mem_nil, or_false] at hr; rcases hr with rfl | rfl | rfl <;> simp)).mono ?_
     rintro e w2 ⟨pa, pc, ba, bc, he, hown, _, hb⟩
     obtain rfl : e = .returned (funcV pa 1 pc ba 3 bc) := he
     have HBLK := Lib.hid (blks_own (L := [[1], [1, 2], []]) hown (by intro l hl; simp only [List.mem_cons, List.not_mem_nil, or_false] at hl; rcases hl with rfl | rfl | rfl; exact i64s [1]; exact i64s [1, 2]; exact i64s []))
     have HB2 := Lib.hid (ext_trans hb0 hb)
     clear hl hb0 hown hb))
  obtain ⟨W3, hW3⟩ : ∃ W3, W3 = w2.alloc (funcO pa 1 pc ba 3 bc) := ⟨_, rfl⟩
  rw [← hW3]
  have hf3 : W3.heap[w2.heap.size]? = some (funcO pa 1 pc ba 3 bc) := by rw [hW3]; exact heap_alloc_new _ _
  have hb3 : Below w2.heap.size w2 W3 := by rw [hW3]; exact ext_alloc _ _
  have HF3 := Lib.hid hf3
  have HB3 := Lib.hid (ext_trans HB2.out hb3)
  have HBLK3 := Lib.hid (HBLK.out.ext hb3)
  generalize w2.heap.size = F at *
  clear hW3 hf3 hb3 HBLK HB2
  go_upto_region 3 with (first
    | (refine wpList_load_row (o := ⟨some 10, .load 25 _, _, _, _, _⟩) rfl 25 _ rfl F rfl 25 _ (0, 0) _ HF3.out Tryz.underlying25 rfl size_func ?_)
    | (go_at_call 34
       refine (build_any pa 1 pc ba 3 bc ([[1], [1, 2], []].map blkOf) W3 HBLK3.out (.inl (by omega))).mono ?_
       rintro e w4 ⟨_, hy, hb4⟩
       obtain ⟨v, ls, qs, rfl, hbo, hti, htd⟩ := hy aw_fits
       have htd2 : tdOf ls = awL := htd.trans (aw_tiles17 hbo.1)
       obtain ⟨va, vc, hv⟩ := hti.own.form
       have hll : ls.length = 2 := by have := congrArg List.length htd2; simpa [tdOf, awL] using this
       rw [hll] at hv
       subst hv
       have HTI := Lib.hid hti
       have HTD := Lib.hid htd2
       have HF4 := Lib.hid (block_ext hb4 HF3.out)
       have HBLK4 := Lib.hid (HBLK3.out.ext hb4)
       have HB4 := Lib.hid (ext_trans HB3.out hb4)
       clear hy hb4 hbo hti htd htd2 hll))
  go_upto_region 4 with (fail)
  have hti := aw_tiles w4 _ rfl
  obtain ⟨W5, hW5⟩ : ∃ W5, W5 = ((w4.alloc (.cells #[.int .i64 0, .int .i64 2] 3)).alloc (.cells #[.int .i64 1] 3)).alloc (.cells #[.int .i64 1, .int .i64 (-1), .slice (some ⟨w4.heap.size, 0, none⟩) 2 2, .int .i64 2, .int .i64 0, .slice (some ⟨w4.heap.size + 1, 0, none⟩) 1 1] 76) := ⟨_, rfl⟩
  rw [← hW5] at hti ⊢
  have HWT := Lib.hid hti.1
  have HF5 := Lib.hid (block_ext hti.2 HF4.out)
  have HBLK5 := Lib.hid (HBLK4.out.ext hti.2)
  have HB5 := Lib.hid (ext_trans HB4.out hti.2)
  have HT5 : Hid (TilesOK W5 va 2 ls) := (HTI.out.ext hti.2).ok
  have HTOT : Hid (totL (tdOf ls) ≤ 1000000) := by rw [Hid, HTD.out]; exact aw_totL
  have HR : Hid (rightB awTs (tdOf ls) = true) := by rw [Hid, HTD.out]; exact aw_right
  have HAL : Hid ((allL (tdOf ls) 0).length = 3) := by rw [Hid, HTD.out]; exact aw_all
  clear hW5 hti HF4 HBLK4 HB4 HTI HF3 HBLK3 HB3
  generalize w4.heap.size = b9 at *
  go_wp2_with (first
    | (refine wpList_load_rowW (o := ⟨some 27, .load 25 _, _, _, _, _⟩) (by rfl) 25 _ rfl F rfl 25 _ (0, 0) _ HF6.out Tryz.underlying25 rfl size_func ?_)
    | (go_at_call 39
       refine (all_any va 2 vc ls 0 w7 HT7.out i64_zero HTOT.out).mono ?_
       rintro e w8 ⟨x, rfl, ho, hb8⟩
       obtain ⟨xa, xc, hx⟩ := ho.form
       rw [HAL.out] at hx
       subst hx
       have HB8 := Lib.hid (ext_trans HB7.out hb8)
       clear hb8 ho)
    | (go_at_call 42
       refine (tright_any pa 1 pc ba 3 bc ([[1], [1, 2], []].map blkOf) va 2 vc ls w6 HBLK6.out HT6.out HTOT.out).mono ?_
       rintro e w7 ⟨he, hb7⟩
       obtain rfl := he.trans (congrArg (fun z => Ending.returned (.bool z)) HR.out)
       have HT7 := Lib.hid (HT6.out.ext hb7)
       have HB7 := Lib.hid (ext_trans HB6.out hb7)
       clear hb7 he)
    | (go_at_call 35
       refine (sameTiles_any va (some ⟨b9 + 1 + 1, 0, none⟩) 2 vc 2 ls (awTiles b9) W5 HT5.out HWT.out (same_td (HTD.out.trans rfl)) (by intro r hr; simp only [awTiles, List.mem_cons, List.not_mem_nil, or_false] at hr; rcases hr with rfl | rfl <;> (show (_ : Nat) ≤ _; simp))).mono ?_
       rintro e w6 ⟨rfl, hb6⟩
       have HT6 := Lib.hid (HT5.out.ext hb6)
       have HF6 := Lib.hid (block_ext hb6 HF5.out)
       have HBLK6 := Lib.hid (HBLK5.out.ext hb6)
       have HB6 := Lib.hid (ext_trans HB5.out hb6)
       clear hb6))
  go_ret
  exact ⟨rfl, HB8.out⟩
end

section
open Go.RowKit
theorem lentInfoI : (Tryz.prog.info? 3).map (fun i => (i.zero, i.size, i.bytes)) = some (some (.int .i64 0), 1, 8) := by kernel_rfl
def marks : List Int := (List.range 12).map fun (i : Nat) => markV 1 (i : Int)
theorem marks_len : marks.length = 12 := by simp [marks]
theorem marks_at (k : Nat) (h : k < 12) : marks.getD k 0 = markV 1 (k : Int) := by simp [marks, List.getD, h]
def lentVals (xs : List Int) : List Value := xs.map (Value.int .i64)
theorem lentVals_len (xs : List Int) : (lentVals xs).length = xs.length := by simp [lentVals]
theorem lentVals_one (xs : List Int) : ∀ u ∈ lentVals xs, u.oneCell' = true := by
  intro u hu
  simp only [lentVals, List.mem_map] at hu
  obtain ⟨x, _, rfl⟩ := hu
  rfl
def Lent (w : World) (base : Nat) (v : Value) (xs : List Int) : Prop :=
  ∃ g cap, v = .slice (some ⟨g, 0, none⟩) xs.length cap ∧ w.ownsRow base 3 1 (.slice (some ⟨g, 0, none⟩) (xs.length + 12) cap) (xs.length + 12) (lentVals (xs ++ marks))
def LentPost (w : World) (xs : List Int) (e : Ending) (w' : World) : Prop := ∃ v, e = .returned v ∧ Lent w' w.heap.size v xs ∧ Below w.heap.size w w'
theorem Lent.ext {w w' : World} {base : Nat} {v : Value} {xs : List Int} (h : Lent w base v xs) (hb : Below w.heap.size w w') : Lent w' base v xs := by
  obtain ⟨g, cap, rfl, hown⟩ := h
  exact ⟨g, cap, rfl, (Steady.ownsRow w.heap.size _ _ _ _ _ _).ext hown hb⟩
theorem Lent.cells {w : World} {base : Nat} {v : Value} {xs : List Int} (h : Lent w base v xs) : ∃ g cap, v = .slice (some ⟨g, 0, none⟩) xs.length cap ∧ xs.length + 12 ≤ cap ∧ cap ≤ maxLen ∧
    (∀ k, k < xs.length → w.cell? ⟨g, k, none⟩ = some (.int .i64 (xs.getD k 0))) ∧ (∀ k, k < 12 → w.cell? ⟨g, xs.length + k, none⟩ = some (.int .i64 (markV 1 (k : Int)))) := by
  obtain ⟨g, cap, rfl, hown⟩ := h
  have hadd : ∀ k, (⟨g, 0, none⟩ : Addr).add k = ⟨g, k, none⟩ := fun k => by unfold Addr.add; split <;> simp_all
  have hc : xs.length + 12 ≤ cap ∧ cap ≤ maxLen := by
    rcases hown.2 with ⟨h0, _⟩ | ⟨g', cap', cur, hv, _, _, h1, h2, _⟩
    · cases h0
    · injection hv with _ _ hcc
      subst hcc
      exact ⟨h1, h2⟩
  refine ⟨g, cap, rfl, hc.1, hc.2, fun k hk => ?_, fun k hk => ?_⟩
  · have := hown.cells (g := g) rfl k (.int .i64 (xs.getD k 0)) (by rw [lentVals, List.map_append, List.getElem?_append_left (by simpa using hk)]; simp [List.getD, hk])
    rwa [hadd] at this
  · have := hown.cells (g := g) rfl (xs.length + k) (.int .i64 (marks.getD k 0)) (by
      have hk' : k < marks.length := by rw [marks_len]; exact hk
      simp [lentVals, List.getElem?_append_right, List.getD, hk'])
    rw [marks_at k hk, hadd] at this
    exact this
theorem Lent.ints {w : World} {base : Nat} {v : Value} {xs : List Int} (h : Lent w base v xs) (hl : xs.length ≤ 17592186044416) (hw : ∀ x ∈ xs, I64 x) : ∃ a c, v = .slice a xs.length c ∧ Ints w a xs.length xs := by
  obtain ⟨g, cap, rfl, _, _, h1, _⟩ := h.cells
  exact ⟨_, _, rfl, rfl, hl, fun k hk => ⟨g, 0, rfl, by simpa using h1 k hk, hw _ (by simp [List.getD, hk])⟩⟩
theorem lentInts_any (a : Option Addr) (n c : Nat) (xs : List Int) (w : World) (h : Ints w a n xs) (hn : n ≤ 1000000) :
    Calls Tryz.prog 52 #[.slice a n c] w (LentPost w xs) := by
  obtain ⟨i0, hi, hz0, hz1, hz2⟩ := info_parts (P := Tryz.prog) lentInfoI
  have HL := Lib.hid h.1
  have H := Lib.hid h
  clear h
  go_enter Tryz.func52, Tryz.ntmps52
  go_wp2_with (first
    | (at_make
       refine wpList_make_own _ rfl _ _ 22 rfl w.heap.size 3 i0 (.int .i64 0) 1 Tryz.underlying22 hi hz0 hz1 .i64 .i64 _ (n + 12) rfl rfl (by omega) (by rw [hz2]; omega) (by simp only [maxLen]; omega) (Nat.le_refl _) ?_
       intro w1 hown1 hg1
       have HO1 := Lib.hid hown1
       have HB1 : Hid (Below w.heap.size w w1) := (Below.refl _ _).grown hg1 (Nat.le_refl _) (by simp)
       clear hown1 hg1)
    | (at_builtin
       refine wpList_appendS _ rfl (.tmp 9) (.tmp 10) 22 3 rfl w.heap.size (.int .i64 0) 8 Tryz.underlying22 lentInfoI rfl _ 0 [] rfl HO1.out a n c rfl (lentVals xs) (by rw [lentVals_len, HL.out]) (by
         intro j u hu
         have hj : j < n := by
           have := (List.getElem?_eq_some_iff.1 hu).1
           rwa [lentVals_len, HL.out] at this
         obtain ⟨b, o, rfl, hc, _⟩ := (H.out.ext HB1.out).2.2 j hj
         refine ⟨_, rfl, ?_⟩
         have hadd : (⟨b, o, none⟩ : Addr).add j = ⟨b, o + j, none⟩ := by unfold Addr.add; split <;> simp_all
         rw [hadd, hc]
         have hj' : j < xs.length := by rw [HL.out]; exact hj
         simp [lentVals, hj'] at hu
         simp [List.getD, hj', hu]) (lentVals_one xs) (by simp only [maxLen]; omega) (by omega) HB1.out.size ?_
       intro v2 w2 hown2 hg2 hat2
       have HO2 := Lib.hid hown2
       have HB2 : Hid (Below w.heap.size w w2) := HB1.out.grown hg2 HB1.out.size (fun k e => (HO1.out.lt k e).1)
       clear hown2 hg2 hat2))
  have HO3 : Hid (w2.ownsRow w.heap.size 3 1 v2 (n + 0) (lentVals (xs ++ marks.take 0))) := by
    have := HO2.out
    rw [Hid]
    simpa using this
  clear HO2 HO1 HB1
  go_loopw [3, 4] (fun v i wr => ∃ (k : Nat), k ≤ 12 ∧ i = .int .i64 k ∧ Hid (wr.ownsRow w.heap.size 3 1 v (n + k) (lentVals (xs ++ marks.take k))) ∧ Hid (Below w.heap.size w wr)) (fun _ i _ => 12 - (intOf i).toNat)
  case atStart => exact ⟨0, by omega, rfl, HO3, HB2⟩
  case round =>
    clear HO3 HB2
    obtain ⟨k, hk, rfl, HO, HB⟩ := hrel
    by_cases hlt : k < 12
    · have HS : Hid (lentVals (xs ++ marks.take (k + 1)) = lentVals (xs ++ marks.take k) ++ [.int .i64 (markV 1 (k : Int))]) := by
        rw [Hid, takeS marks k 0 (by rw [marks_len]; exact hlt), marks_at k hlt, ← List.append_assoc, lentVals, List.map_append]
        rfl
      go_wp2_with (first
        | (go_at_call 112; refine (mark_any _ _ _ (by omega) (by omega)).mono ?_; rintro e w' ⟨rfl, rfl⟩)
        | (at_builtin
           refine wpList_append1 rfl wr (.tmp 16) (.tmp 19) 22 3 rfl w.heap.size _ 1 8 Tryz.underlying22 lentInfoI rfl (by omega) u3 (n + k) _ [.int .i64 (markV 1 (k : Int))] rfl HO.out wr.heap.size rfl rfl rfl (by simp [Value.oneCell']) (by simp only [maxLen]; omega) (by omega) HB.out.size ?_
           intro g cap w2 hown2 hg2 hat2
           have HO2 : Hid (w2.ownsRow w.heap.size 3 1 (.slice (some ⟨g, 0, none⟩) (n + k + 1) cap) (n + k + 1) (lentVals (xs ++ marks.take (k + 1)))) := by rw [Hid, HS.out]; exact hown2
           have HB2 : Hid (Below w.heap.size w w2) := HB.out.grown hg2 HB.out.size (fun j e => (HO.out.lt j e).1)
           clear hown2 hat2 hg2))
      go_roundw
      case rel => exact ⟨k + 1, by omega, by go_num, HO2, HB2⟩
      case measure => simp [intOf]; omega
    · obtain rfl : k = 12 := by omega
      have hown := HO.out
      have hform : ∃ g cap, u3 = .slice (some ⟨g, 0, none⟩) (n + 12) cap ∧ n + 12 ≤ cap ∧ cap ≤ maxLen := by
        rcases hown.2 with ⟨_, h0⟩ | ⟨g', cap', cur, hv, _, _, h1, h2, _⟩
        · omega
        · exact ⟨_, _, hv, h1, h2⟩
      obtain ⟨g, cap, rfl, hc1, hc2⟩ := hform
      clear hown
      unfold maxLen at hc2
      go_wp2
      go_ret
      refine ⟨_, rfl, ⟨g, cap, by rw [HL.out]; rfl, ?_⟩, HB.out⟩
      have := HO.out
      rw [HL.out]
      rw [List.take_of_length_le (by rw [marks_len]; omega)] at this
      exact this
theorem quiet_add_left {P : Program} {f : FuncId} {args : Array Value} {w : World} {a n : Nat} {v : Value}
    (h : Calls P f args (w.drewN (a + n)) fun e w' => e = .returned v ∧ w.drewN (a + n) = w') :
    Calls P f args (w.drewN (a + n)) fun e w'' => e = .returned v ∧ ∃ m, w'' = w.drewN (a + m) :=
  h.mono fun _ _ ⟨he, hm⟩ => ⟨he, n, hm.symm⟩
theorem keptInts_any (base : Nat) (v : Value) (a : Option Addr) (n c : Nat) (xs : List Int) (w : World) (hL : Lent w base v xs) (h : Ints w a n xs) (hn : n ≤ 1000000) :
    Calls Tryz.prog 63 #[v, .slice a n c] w fun e w' => e = .returned (.bool true) ∧ ∃ q, w' = w.drewN q := by
  obtain ⟨g, cap, rfl, hc1, hc2, hx, hm⟩ := hL.cells
  obtain ⟨hl, _, hc⟩ := h
  rw [hl] at hc1 hx hm ⊢
  have HX := Lib.hid hx
  have HM := Lib.hid hm
  have HC := Lib.hid hc
  clear hx hm hc hL hl
  unfold maxLen at hc2
  have b0 : ((n : Int) != (n : Int)) = false := by simp
  go_enter Tryz.func63, Tryz.ntmps63
  go_wp2
  go_loopw [6] (fun i wr => ∃ (k q : Nat), k ≤ n + 12 ∧ i = .int .i64 k ∧ wr = w.drewN q) (fun i _ => n + 12 - (intOf i).toNat)
  case atStart => exact ⟨0, 0, by omega, rfl, rfl⟩
  case round =>
    obtain ⟨k, q, hk, rfl, rfl⟩ := hrel
    by_cases hlt : k < n + 12
    · by_cases hkn : k < n
      · obtain ⟨b, o, rfl, hcell, _⟩ := HC.out k hkn
        have hcell' := HX.out k hkn
        have d1 : decide (k < n) = true := by simpa using hkn
        have d2 : decide (n ≤ k) = false := by simp; omega
        generalize xs.getD k 0 = x at *
        go_wp2
        go_quiet (fail)
        go_wp2
        go_roundw
        case rel => exact ⟨k + 1, _, by omega, by go_num, rfl⟩
        case measure => simp [intOf]; omega
      · obtain ⟨j, rfl⟩ : ∃ j, k = n + j := ⟨k - n, by omega⟩
        have hcell' := HM.out j (by omega)
        have hj : j < 12 := by omega
        have d1 : decide (n + j < n) = false := by simp
        have d2 : decide (n ≤ n + j) = true := by simp
        have d3 : decide ((n : Int) + (j : Int) < (n : Int)) = false := by simp; omega
        have d4 : decide ((n : Int) ≤ (n : Int) + (j : Int)) = true := by simp; omega
        have d5 : IntKind.i64.wrap ((n : Int) + (j : Int) - (n : Int)) = (j : Int) := by rw [IntKind.wrap_i64]; omega
        clear hkn
        go_wp2
        go_quiet ((go_at_call 112; exact quiet_add_left (mark_any 1 (j : Int) _ (by omega) (by omega))))
        go_wp2
        go_roundw
        case rel => exact ⟨n + j + 1, _, by omega, by go_num, rfl⟩
        case measure => simp [intOf]; omega
    · go_wp2
      go_ret
      exact ⟨rfl, _, rfl⟩
end

section
open Go.RowKit
theorem Lent.chg {S : Nat → Prop} {w w' : World} {base : Nat} {v : Value} {xs : List Int} (h : Lent w base v xs) (hc : Chg S w w') (hn : ∀ k, S k → k < base) : Lent w' base v xs := by
  obtain ⟨g, cap, rfl, hown⟩ := h
  exact ⟨g, cap, rfl, ownsRow_chg hown hc (fun k hk hs => by have := (hown.lt k hk).1; have := hn k hs; omega)⟩
theorem Lent.mono {w : World} {base base' : Nat} {v : Value} {xs : List Int} (h : Lent w base v xs) (hb : base' ≤ base) : Lent w base' v xs := by
  obtain ⟨g, cap, rfl, hown⟩ := h
  exact ⟨g, cap, rfl, hown.mono hb⟩
theorem Lent.form {w : World} {base : Nat} {v : Value} {xs : List Int} (h : Lent w base v xs) : ∃ g cap, v = .slice (some ⟨g, 0, none⟩) xs.length cap := by
  obtain ⟨g, cap, rfl, _⟩ := h
  exact ⟨g, cap, rfl⟩
theorem Lent.grown {w w' : World} {base base' : Nat} {v vr : Value} {e : TypeId} {size n : Nat} {xs : List Int} {ys : List Value} (he : 3 ≠ e) (h : Lent w base v xs) (ho : w.ownsRow base' e size vr n ys) (hg : w.grownBy w' vr.ownBlock) : Lent w' base v xs := by
  obtain ⟨g, cap, rfl, hown⟩ := h
  exact ⟨g, cap, rfl, hown.kept hg (Or.inr (fun e2 => rows_ne hown ho he g rfl e2.symm))⟩
structure LentLaw {α : Type} (tys : List TypeId) (LX : World → Nat → α → α → Prop) : Prop where
  chg : ∀ {S : Nat → Prop} {w w' : World} {base : Nat} {r r' : α}, LX w base r r' → Chg S w w' → (∀ k, S k → k < base) → LX w' base r r'
  mono : ∀ {w : World} {base base' : Nat} {r r' : α}, base' ≤ base → LX w base r r' → LX w base' r r'
  grown : ∀ {w w' : World} {base base' : Nat} {r r' : α} {e : TypeId} {size : Nat} {vr : Value} {n : Nat} {ys : List Value}, e ∉ tys → LX w base r r' → w.ownsRow base' e size vr n ys → w.grownBy w' vr.ownBlock → LX w' base r r'
theorem LentLaw.ext {α : Type} {tys : List TypeId} {LX : World → Nat → α → α → Prop} (L : LentLaw tys LX) {w w' : World} {base : Nat} {r r' : α} (h : LX w base r r') (hb : Below w.heap.size w w') : LX w' base r r' :=
  L.chg h (chg_below hb) fun k hk => hk.elim
section
variable {α : Type} (cs : α → List Value) (size : Nat) (ty : TypeId) (LX : World → Nat → α → α → Prop) (mk : Nat → α)
def LentEs (w : World) (base : Nat) (rs rs' : List α) : Prop := rs'.length = rs.length ∧ ∀ (k : Nat) r r', rs[k]? = some r → rs'[k]? = some r' → LX w base r r'
def markL : List α := (List.range 12).map mk
def LentL (w : World) (base : Nat) (v : Value) (rs rs' : List α) : Prop :=
  ∃ g cap, v = .slice (some ⟨g, 0, none⟩) rs.length cap ∧ w.ownsRow base ty size (.slice (some ⟨g, 0, none⟩) (rs.length + 12) cap) (rs.length + 12) ((rs' ++ markL mk).flatMap cs) ∧ LentEs LX w base rs rs'
theorem markL_len : (markL mk).length = 12 := by simp [markL]
theorem markL_at (k : Nat) (h : k < 12) : (markL mk)[k]? = some (mk k) := by simp [markL, h]
theorem markL_take (k : Nat) (h : k < 12) : (markL mk).take (k + 1) = (markL mk).take k ++ [mk k] := by
  rw [List.take_add_one, markL_at mk k h]
  rfl
end
section
variable {α : Type} {cs : α → List Value} {size : Nat} {ty : TypeId} {LX : World → Nat → α → α → Prop} {mk : Nat → α} {tys : List TypeId}
theorem LentEs.nil (w : World) (base : Nat) : LentEs LX w base [] [] := ⟨rfl, fun k r r' h => by simp at h⟩
theorem LentEs.snoc {w : World} {base : Nat} {rs rs' : List α} {r r' : α} (h : LentEs LX w base rs rs') (hr : LX w base r r') : LentEs LX w base (rs ++ [r]) (rs' ++ [r']) := by
  refine ⟨by simp [h.1], fun k x x' h1 h2 => ?_⟩
  by_cases hk : k < rs.length
  · rw [List.getElem?_append_left hk] at h1
    rw [List.getElem?_append_left (by rw [h.1]; exact hk)] at h2
    exact h.2 k x x' h1 h2
  · have hk1 := (List.getElem?_eq_some_iff.1 h1).1
    rw [List.length_append, List.length_singleton] at hk1
    obtain rfl : k = rs.length := by omega
    rw [List.getElem?_append_right (Nat.le_refl _), Nat.sub_self] at h1
    rw [← h.1, List.getElem?_append_right (Nat.le_refl _), Nat.sub_self] at h2
    simp only [List.getElem?_cons_zero, Option.some.injEq] at h1 h2
    subst h1
    subst h2
    exact hr
theorem LentEs.map {w w' : World} {base base' : Nat} {rs rs' : List α} (h : LentEs LX w base rs rs') (f : ∀ r r', LX w base r r' → LX w' base' r r') : LentEs LX w' base' rs rs' := ⟨h.1, fun k r r' h1 h2 => f _ _ (h.2 k r r' h1 h2)⟩
theorem LentEs.ext (L : LentLaw tys LX) {w w' : World} {base : Nat} {rs rs' : List α} (h : LentEs LX w base rs rs') (hb : Below w.heap.size w w') : LentEs LX w' base rs rs' := h.map fun _ _ h => L.ext h hb
theorem LentEs.grown (L : LentLaw tys LX) {w w' : World} {base base' : Nat} {rs rs' : List α} {e : TypeId} {size : Nat} {vr : Value} {n : Nat} {ys : List Value} (he : e ∉ tys) (h : LentEs LX w base rs rs') (ho : w.ownsRow base' e size vr n ys) (hg : w.grownBy w' vr.ownBlock) : LentEs LX w' base rs rs' := h.map fun _ _ h => L.grown he h ho hg
theorem LentEs.same {w : World} {base : Nat} {rs rs' : List α} {SD : α → α → Prop} (h : LentEs LX w base rs rs') (f : ∀ r r', LX w base r r' → SD r' r) : SameEs SD rs' rs := ⟨h.1, fun k r s hr hs => f _ _ (h.2 k s r hs hr)⟩
theorem LentL.chg (L : LentLaw tys LX) {S : Nat → Prop} {w w' : World} {base : Nat} {v : Value} {rs rs' : List α} (h : LentL cs size ty LX mk w base v rs rs') (hc : Chg S w w') (hn : ∀ k, S k → k < base) : LentL cs size ty LX mk w' base v rs rs' := by
  obtain ⟨g, cap, rfl, hown, hl⟩ := h
  exact ⟨g, cap, rfl, ownsRow_chg hown hc (fun k hk hs => by have := (hown.lt k hk).1; have := hn k hs; omega), hl.map fun _ _ h => L.chg h hc hn⟩
theorem LentL.ext (L : LentLaw tys LX) {w w' : World} {base : Nat} {v : Value} {rs rs' : List α} (h : LentL cs size ty LX mk w base v rs rs') (hb : Below w.heap.size w w') : LentL cs size ty LX mk w' base v rs rs' := h.chg L (chg_below hb) fun k hk => hk.elim
theorem LentL.mono (L : LentLaw tys LX) {w : World} {base base' : Nat} {v : Value} {rs rs' : List α} (h : LentL cs size ty LX mk w base v rs rs') (hb : base' ≤ base) : LentL cs size ty LX mk w base' v rs rs' := by
  obtain ⟨g, cap, rfl, hown, hl⟩ := h
  exact ⟨g, cap, rfl, hown.mono hb, hl.map fun _ _ h => L.mono hb h⟩
theorem LentL.grown (L : LentLaw tys LX) {w w' : World} {base base' : Nat} {v vr : Value} {rs rs' : List α} {e : TypeId} {size' n : Nat} {ys : List Value} (he : e ∉ ty :: tys) (h : LentL cs size ty LX mk w base v rs rs') (ho : w.ownsRow base' e size' vr n ys) (hg : w.grownBy w' vr.ownBlock) : LentL cs size ty LX mk w' base v rs rs' := by
  simp only [List.mem_cons, not_or] at he
  obtain ⟨g, cap, rfl, hown, hl⟩ := h
  exact ⟨g, cap, rfl, hown.kept hg (Or.inr (fun e2 => rows_ne hown ho (fun e3 => he.1 e3.symm) g rfl e2.symm)), hl.map fun _ _ h => L.grown he.2 h ho hg⟩
theorem LentL.form {w : World} {base : Nat} {v : Value} {rs rs' : List α} (h : LentL cs size ty LX mk w base v rs rs') : ∃ g cap, v = .slice (some ⟨g, 0, none⟩) rs.length cap := by
  obtain ⟨g, cap, rfl, _⟩ := h
  exact ⟨g, cap, rfl⟩
theorem LentL.recs (hcs : ∀ x, (cs x).length = size) (hs0 : 0 < size) {w : World} {base : Nat} {g n cap : Nat} {rs rs' : List α} (h : LentL cs size ty LX mk w base (.slice (some ⟨g, 0, none⟩) n cap) rs rs') (hn : n ≤ 1000000) :
    Recs size cs w (some ⟨g, 0, none⟩) (n + 12) (rs' ++ markL mk) ∧ rs.length = n ∧ rs'.length = n ∧ n + 12 ≤ cap ∧ cap ≤ maxLen ∧ LentEs LX w base rs rs' := by
  obtain ⟨g', cap', e, hown, hl⟩ := h
  injection e with e1 e2 e3
  injection e1 with e1
  injection e1 with e1 _ _
  subst e1
  subst e3
  have hrl : rs.length = n := e2.symm
  have hlen : rs'.length = n := by rw [hl.1, hrl]
  have hll : (rs' ++ markL mk).length = n + 12 := by rw [List.length_append, markL_len, hlen]
  have hc : n + 12 ≤ cap ∧ cap ≤ maxLen := by
    rcases hown.2 with ⟨_, h0⟩ | ⟨g', cap', cur, hv, _, _, h1, h2, _⟩
    · omega
    · injection hv with _ _ hcc
      subst hcc
      rw [hrl] at h1
      exact ⟨h1, h2⟩
  rw [hrl, ← hll] at hown
  obtain ⟨a2, c2, e, hr, _⟩ := recs_of_own hcs hown (by rw [hll]; omega)
  injection e with e1 _ _
  subst e1
  rw [hll] at hr
  exact ⟨hr, hrl, hlen, hc.1, hc.2, hl⟩
theorem Recs.takeN {w : World} {a : Option Addr} {n m : Nat} {rs : List α} (h : Recs size cs w a n rs) (hm : m ≤ n) : Recs size cs w a m (rs.take m) :=
  ⟨by rw [List.length_take, h.1]; omega, by have := h.2.1; omega, fun j x hx => by
    refine h.2.2 j x ?_
    have hj := (List.getElem?_eq_some_iff.1 hx).1
    rw [List.length_take] at hj
    rwa [List.getElem?_take, if_pos (by omega)] at hx⟩
theorem LentL.recsN (hcs : ∀ x, (cs x).length = size) (hs0 : 0 < size) {w : World} {base : Nat} {g n cap : Nat} {rs rs' : List α} (h : LentL cs size ty LX mk w base (.slice (some ⟨g, 0, none⟩) n cap) rs rs') (hn : n ≤ 1000000) : Recs size cs w (some ⟨g, 0, none⟩) n rs' := by
  obtain ⟨h1, _, h2, _⟩ := h.recs hcs hs0 hn
  have := h1.takeN (m := n) (by omega)
  rwa [List.take_append_of_le_length (by omega), List.take_of_length_le (by omega)] at this
theorem markL_all {OK : α → Prop} (h : ∀ k, k < 12 → OK (mk k)) : ∀ r ∈ markL mk, OK r := fun r hm => by
  obtain ⟨k, hk, e⟩ := List.mem_iff_getElem.1 hm
  rw [markL_len] at hk
  have : r = mk k := by rw [← e]; simp [markL]
  rw [this]
  exact h k hk
end
end

section
open Go.RowKit
def InsNA (r : InsR) : Prop := r.na ≤ 1000000
def SDIns (r s : InsR) : Prop := r.d = s.d
theorem SDIns_refl (r : InsR) : SDIns r r := rfl
theorem info_Ins : (Tryz.prog.info? 216).map (fun i => (i.zero, i.size, i.bytes)) = some (some (.agg #[.int .i64 0, .int .i64 0, .int .i64 0, .int .i64 0, .int .i64 0, .int .i64 0, .slice none 0 0, .int .i64 0]), 8, 80) := by kernel_rfl
theorem Ins_one (r : InsR) : ∀ u ∈ insC r, u.oneCell' = true := by
  intro u hu
  simp only [insC, List.mem_cons, List.not_mem_nil, or_false] at hu
  rcases hu with rfl | rfl | rfl | rfl | rfl | rfl | rfl | rfl <;> rfl
def LentR (w : World) (base : Nat) (r r' : InsR) : Prop := r'.d = r.d ∧ Lent w base (.slice r'.aa r'.na r'.ca) r.d.args
theorem LentR.sd {w : World} {base : Nat} {r r' : InsR} (h : LentR w base r r') : SDIns r' r := h.1
theorem LentR_law : LentLaw [3] LentR where
  chg := fun h hc hn => ⟨h.1, h.2.chg hc hn⟩
  mono := fun hb h => ⟨h.1, h.2.mono hb⟩
  grown := fun he h ho hg => ⟨h.1, h.2.grown (fun e => he (by simp [e])) ho hg⟩
theorem LentR.ok {w : World} {base : Nat} {r r' : InsR} (h : LentR w base r r') (hr : InsOK w r) (_ : InsNA r) : InsOK w r' := by
  obtain ⟨hd, hl⟩ := h
  obtain ⟨a, c, e, hi⟩ := hl.ints (by rw [hr.1.1]; exact hr.1.2.1) hr.1.mem
  obtain ⟨g, cap, e2, hc, _⟩ := hl.cells
  injection e with e1 e2' e3
  injection e2 with f1 f2 f3
  refine ⟨?_, by omega, ?_⟩
  · rw [hd, e1, e2']; exact hi
  · rw [hd]; exact hr.2.2
def markR (i : Nat) : InsR := ⟨⟨0, 0, 0, 0, markV 1 (i : Int), 0, [], 0⟩, none, 0, 0⟩
theorem markR_ok (w : World) (k : Nat) (hk : k < 12) : InsOK w (markR k) := by
  have hm : I64 (markV 1 (k : Int)) := by unfold I64 markV; omega
  have z : I64 0 := by unfold I64; omega
  exact ⟨⟨rfl, Nat.zero_le _, fun j hj => absurd hj (by simp [markR])⟩, Nat.le_refl _, z, z, z, z, hm, z, z⟩
theorem markR_na (k : Nat) : InsNA (markR k) := by simp [InsNA, markR]
theorem lentIns_any (r : InsR) (w : World) (h : InsOK w r) (hn : InsNA r) :
    Calls Tryz.prog 209 #[insVR r] w fun e w' => ∃ r', e = .returned (insVR r') ∧ LentR w' w.heap.size r r' ∧ Below w.heap.size w w' := by
  have H := Lib.hid h
  have HN := Lib.hid hn
  clear h hn
  go_enter Tryz.func209, Tryz.ntmps209
  go_wp2_with (first
    | (go_at_call 52
       refine (lentInts_any r.aa r.na r.ca r.d.args _ (H.out.1.ext (ext_trans (ext_alloc _ _) (ext_alloc _ _))) HN.out).mono ?_
       rintro e w1 ⟨v, rfl, hL, hb⟩
       obtain ⟨g0, cap0, rfl⟩ := hL.form
       obtain ⟨x1, x2, x3⟩ := box2 w (.cells #[.int .i64 r.d.op, .int .i64 r.d.dst, .int .i64 r.d.a, .int .i64 r.d.b, .int .i64 r.d.imm, .int .i64 r.d.callee, .slice r.aa r.na r.ca, .int .i64 r.d.many] 216) (.cells #[.int .i64 0, .int .i64 0, .int .i64 0, .int .i64 0, .int .i64 0, .int .i64 0, .slice none 0 0, .int .i64 0] 216) w1 hb
       have y6 : w1.cell? ⟨w.heap.size, 6, none⟩ = some (.slice r.aa r.na r.ca) := by rw [cell_of_row _ _ _ _ _ _ x1]; rfl
       have z6 : w1.frozen? ⟨w.heap.size, 6, none⟩ = false := frozen_of_row _ _ _ _ _ x1
       obtain ⟨W1, hW2⟩ : ∃ W, w1.setCell ⟨w.heap.size, 6, none⟩ (.slice (some ⟨g0, 0, none⟩) r.d.args.length cap0) = W := ⟨_, rfl⟩
       have c2 : Chg (fun k => k = w.heap.size) w1 W1 := by rw [← hW2]; exact chg_setCell _ _ _ _
       have HL1_0 := Lib.hid (hL.chg c2 (fun k hk => by simp; omega))
       have X1 : W1.heap[w.heap.size]? = some (.cells #[.int .i64 r.d.op, .int .i64 r.d.dst, .int .i64 r.d.a, .int .i64 r.d.b, .int .i64 r.d.imm, .int .i64 r.d.callee, .slice (some ⟨g0, 0, none⟩) r.d.args.length cap0, .int .i64 r.d.many] 216 (0, 0)) := by rw [← hW2, heap_setCell_same _ _ 6 _ _ _ x1]; rfl
       have HK1 := Lib.hid X1
       have HZ1 := Lib.hid (c2.row x2 (by omega))
       have HX1 := Lib.hid (x3.trans (c2.below (B := w.heap.size) x3.size (fun k hk => by omega)))
       have i1_0 : W1.cell? ⟨w.heap.size, 0, none⟩ = some (.int .i64 r.d.op) := by rw [cell_of_row _ _ _ _ _ _ X1]; rfl
       have i1_1 : W1.cell? ⟨w.heap.size, 1, none⟩ = some (.int .i64 r.d.dst) := by rw [cell_of_row _ _ _ _ _ _ X1]; rfl
       have i1_2 : W1.cell? ⟨w.heap.size, 2, none⟩ = some (.int .i64 r.d.a) := by rw [cell_of_row _ _ _ _ _ _ X1]; rfl
       have i1_3 : W1.cell? ⟨w.heap.size, 3, none⟩ = some (.int .i64 r.d.b) := by rw [cell_of_row _ _ _ _ _ _ X1]; rfl
       have i1_4 : W1.cell? ⟨w.heap.size, 4, none⟩ = some (.int .i64 r.d.imm) := by rw [cell_of_row _ _ _ _ _ _ X1]; rfl
       have i1_5 : W1.cell? ⟨w.heap.size, 5, none⟩ = some (.int .i64 r.d.callee) := by rw [cell_of_row _ _ _ _ _ _ X1]; rfl
       have i1_6 : W1.cell? ⟨w.heap.size, 6, none⟩ = some (.slice (some ⟨g0, 0, none⟩) r.d.args.length cap0) := by rw [cell_of_row _ _ _ _ _ _ X1]; rfl
       have i1_7 : W1.cell? ⟨w.heap.size, 7, none⟩ = some (.int .i64 r.d.many) := by rw [cell_of_row _ _ _ _ _ _ X1]; rfl
       clear hL x1 x2 x3 hb c2 X1)
    | (refine wpList_store_rowC rfl 216 _ _ rfl (w.heap.size + 1) #[.int .i64 r.d.op, .int .i64 r.d.dst, .int .i64 r.d.a, .int .i64 r.d.b, .int .i64 r.d.imm, .int .i64 r.d.callee, .slice (some ⟨g0, 0, none⟩) r.d.args.length cap0, .int .i64 r.d.many] rfl rfl 216 _ HZ1.out (by kernel_rfl) rfl (by simp [Value.oneCell']) ?_
       intro W9 c3 X3
       have HL9_0 := Lib.hid (HL1_0.out.chg c3 (fun k hk => by simp; omega))
       have HX9 := Lib.hid (HX1.out.trans (c3.below (B := w.heap.size) HX1.out.size (fun k hk => by omega)))
       have j0 : W9.cell? ⟨w.heap.size + 1, 0, none⟩ = some (.int .i64 r.d.op) := by rw [cell_of_row _ _ _ _ _ _ X3]; rfl
       have j1 : W9.cell? ⟨w.heap.size + 1, 1, none⟩ = some (.int .i64 r.d.dst) := by rw [cell_of_row _ _ _ _ _ _ X3]; rfl
       have j2 : W9.cell? ⟨w.heap.size + 1, 2, none⟩ = some (.int .i64 r.d.a) := by rw [cell_of_row _ _ _ _ _ _ X3]; rfl
       have j3 : W9.cell? ⟨w.heap.size + 1, 3, none⟩ = some (.int .i64 r.d.b) := by rw [cell_of_row _ _ _ _ _ _ X3]; rfl
       have j4 : W9.cell? ⟨w.heap.size + 1, 4, none⟩ = some (.int .i64 r.d.imm) := by rw [cell_of_row _ _ _ _ _ _ X3]; rfl
       have j5 : W9.cell? ⟨w.heap.size + 1, 5, none⟩ = some (.int .i64 r.d.callee) := by rw [cell_of_row _ _ _ _ _ _ X3]; rfl
       have j6 : W9.cell? ⟨w.heap.size + 1, 6, none⟩ = some (.slice (some ⟨g0, 0, none⟩) r.d.args.length cap0) := by rw [cell_of_row _ _ _ _ _ _ X3]; rfl
       have j7 : W9.cell? ⟨w.heap.size + 1, 7, none⟩ = some (.int .i64 r.d.many) := by rw [cell_of_row _ _ _ _ _ _ X3]; rfl
       clear c3 X3))
  refine bodyPost_ret (v := .agg #[.int .i64 r.d.op, .int .i64 r.d.dst, .int .i64 r.d.a, .int .i64 r.d.b, .int .i64 r.d.imm, .int .i64 r.d.callee, .slice (some ⟨g0, 0, none⟩) r.d.args.length cap0, .int .i64 r.d.many]) (by simp [results, Tryz.results209, go_sem, j0, j1, j2, j3, j4, j5, j6, j7]) rfl ⟨⟨r.d, some ⟨g0, 0, none⟩, r.d.args.length, cap0⟩, rfl, ?_, HX9.out⟩
  exact ⟨rfl, HL9_0.out.mono (by simp; omega)⟩
theorem sameIns_any (r s : InsR) (w : World) (hd : SDIns r s) (hr : InsOK w r) (hs : InsOK w s) (hna : InsNA s) :
    Calls Tryz.prog 183 #[insVR r, insVR s] w fun e w' => e = .returned (.bool true) ∧ Below w.heap.size w w' := by
  obtain ⟨dr, ra, rn, rc⟩ := r
  obtain rfl : dr = s.d := hd
  have HR := Lib.hid hr
  have HS := Lib.hid hs
  clear hr hs hna
  obtain ⟨W0, HW0, hR, hS, hW0⟩ := boxes2 w (.cells #[.int .i64 s.d.op, .int .i64 s.d.dst, .int .i64 s.d.a, .int .i64 s.d.b, .int .i64 s.d.imm, .int .i64 s.d.callee, .slice ra rn rc, .int .i64 s.d.many] 216) (.cells #[.int .i64 s.d.op, .int .i64 s.d.dst, .int .i64 s.d.a, .int .i64 s.d.b, .int .i64 s.d.imm, .int .i64 s.d.callee, .slice s.aa s.na s.ca, .int .i64 s.d.many] 216)
  have x0 : ∀ w', Below W0.heap.size W0 w' → w'.cell? ⟨w.heap.size, 0, none⟩ = some (.int .i64 s.d.op) := fun w' hb => by rw [cell_of_row _ _ _ _ _ _ (block_ext hb hR)]; rfl
  have x1 : ∀ w', Below W0.heap.size W0 w' → w'.cell? ⟨w.heap.size, 1, none⟩ = some (.int .i64 s.d.dst) := fun w' hb => by rw [cell_of_row _ _ _ _ _ _ (block_ext hb hR)]; rfl
  have x2 : ∀ w', Below W0.heap.size W0 w' → w'.cell? ⟨w.heap.size, 2, none⟩ = some (.int .i64 s.d.a) := fun w' hb => by rw [cell_of_row _ _ _ _ _ _ (block_ext hb hR)]; rfl
  have x3 : ∀ w', Below W0.heap.size W0 w' → w'.cell? ⟨w.heap.size, 3, none⟩ = some (.int .i64 s.d.b) := fun w' hb => by rw [cell_of_row _ _ _ _ _ _ (block_ext hb hR)]; rfl
  have x4 : ∀ w', Below W0.heap.size W0 w' → w'.cell? ⟨w.heap.size, 4, none⟩ = some (.int .i64 s.d.imm) := fun w' hb => by rw [cell_of_row _ _ _ _ _ _ (block_ext hb hR)]; rfl
  have x5 : ∀ w', Below W0.heap.size W0 w' → w'.cell? ⟨w.heap.size, 5, none⟩ = some (.int .i64 s.d.callee) := fun w' hb => by rw [cell_of_row _ _ _ _ _ _ (block_ext hb hR)]; rfl
  have x6 : ∀ w', Below W0.heap.size W0 w' → w'.cell? ⟨w.heap.size, 6, none⟩ = some (.slice ra rn rc) := fun w' hb => by rw [cell_of_row _ _ _ _ _ _ (block_ext hb hR)]; rfl
  have x7 : ∀ w', Below W0.heap.size W0 w' → w'.cell? ⟨w.heap.size, 7, none⟩ = some (.int .i64 s.d.many) := fun w' hb => by rw [cell_of_row _ _ _ _ _ _ (block_ext hb hR)]; rfl
  have y0 : ∀ w', Below W0.heap.size W0 w' → w'.cell? ⟨w.heap.size + 1, 0, none⟩ = some (.int .i64 s.d.op) := fun w' hb => by rw [cell_of_row _ _ _ _ _ _ (block_ext hb hS)]; rfl
  have y1 : ∀ w', Below W0.heap.size W0 w' → w'.cell? ⟨w.heap.size + 1, 1, none⟩ = some (.int .i64 s.d.dst) := fun w' hb => by rw [cell_of_row _ _ _ _ _ _ (block_ext hb hS)]; rfl
  have y2 : ∀ w', Below W0.heap.size W0 w' → w'.cell? ⟨w.heap.size + 1, 2, none⟩ = some (.int .i64 s.d.a) := fun w' hb => by rw [cell_of_row _ _ _ _ _ _ (block_ext hb hS)]; rfl
  have y3 : ∀ w', Below W0.heap.size W0 w' → w'.cell? ⟨w.heap.size + 1, 3, none⟩ = some (.int .i64 s.d.b) := fun w' hb => by rw [cell_of_row _ _ _ _ _ _ (block_ext hb hS)]; rfl
  have y4 : ∀ w', Below W0.heap.size W0 w' → w'.cell? ⟨w.heap.size + 1, 4, none⟩ = some (.int .i64 s.d.imm) := fun w' hb => by rw [cell_of_row _ _ _ _ _ _ (block_ext hb hS)]; rfl
  have y5 : ∀ w', Below W0.heap.size W0 w' → w'.cell? ⟨w.heap.size + 1, 5, none⟩ = some (.int .i64 s.d.callee) := fun w' hb => by rw [cell_of_row _ _ _ _ _ _ (block_ext hb hS)]; rfl
  have y6 : ∀ w', Below W0.heap.size W0 w' → w'.cell? ⟨w.heap.size + 1, 6, none⟩ = some (.slice s.aa s.na s.ca) := fun w' hb => by rw [cell_of_row _ _ _ _ _ _ (block_ext hb hS)]; rfl
  have y7 : ∀ w', Below W0.heap.size W0 w' → w'.cell? ⟨w.heap.size + 1, 7, none⟩ = some (.int .i64 s.d.many) := fun w' hb => by rw [cell_of_row _ _ _ _ _ _ (block_ext hb hS)]; rfl
  have E0 : Below W0.heap.size W0 W0 := Below.refl _ _
  clear hR hS
  go_enter Tryz.func183, Tryz.ntmps183
  go_wp2_with (first
    | (go_at_call 44
       refine (sameInts_any ra s.aa rn s.na rc s.ca s.d.args s.d.args W0 ((HR.out.1.ext HW0.out).ext E0) ((HS.out.1.ext HW0.out).ext E0)).mono ?_
       rw [decide_eq_true rfl]
       rintro e w1 ⟨rfl, q1, hq1⟩
       have E1 : Below W0.heap.size W0 w1 := by rw [hq1]; exact ext_drewN E0 q1
       clear hq1))
  go_ret
  exact ⟨rfl, ext_trans HW0.out E1⟩
theorem keptIns_any (r s : InsR) (base : Nat) (w : World) (h : LentR w base s r) (hs : InsOK w s) (hn : InsNA s) :
    Calls Tryz.prog 210 #[insVR r, insVR s] w fun e w' => e = .returned (.bool true) ∧ Below w.heap.size w w' := by
  have HR := Lib.hid (h.ok hs hn)
  have HS := Lib.hid hs
  have HH := Lib.hid h
  have HN := Lib.hid hn
  have HD := Lib.hid h.sd
  clear hs h hn
  obtain ⟨W0, HW0, hR, hS, hW0⟩ := boxes2 w (.cells #[.int .i64 r.d.op, .int .i64 r.d.dst, .int .i64 r.d.a, .int .i64 r.d.b, .int .i64 r.d.imm, .int .i64 r.d.callee, .slice r.aa r.na r.ca, .int .i64 r.d.many] 216) (.cells #[.int .i64 s.d.op, .int .i64 s.d.dst, .int .i64 s.d.a, .int .i64 s.d.b, .int .i64 s.d.imm, .int .i64 s.d.callee, .slice s.aa s.na s.ca, .int .i64 s.d.many] 216)
  have x0 : ∀ w', Below W0.heap.size W0 w' → w'.cell? ⟨w.heap.size, 0, none⟩ = some (.int .i64 r.d.op) := fun w' hb => by rw [cell_of_row _ _ _ _ _ _ (block_ext hb hR)]; rfl
  have x1 : ∀ w', Below W0.heap.size W0 w' → w'.cell? ⟨w.heap.size, 1, none⟩ = some (.int .i64 r.d.dst) := fun w' hb => by rw [cell_of_row _ _ _ _ _ _ (block_ext hb hR)]; rfl
  have x2 : ∀ w', Below W0.heap.size W0 w' → w'.cell? ⟨w.heap.size, 2, none⟩ = some (.int .i64 r.d.a) := fun w' hb => by rw [cell_of_row _ _ _ _ _ _ (block_ext hb hR)]; rfl
  have x3 : ∀ w', Below W0.heap.size W0 w' → w'.cell? ⟨w.heap.size, 3, none⟩ = some (.int .i64 r.d.b) := fun w' hb => by rw [cell_of_row _ _ _ _ _ _ (block_ext hb hR)]; rfl
  have x4 : ∀ w', Below W0.heap.size W0 w' → w'.cell? ⟨w.heap.size, 4, none⟩ = some (.int .i64 r.d.imm) := fun w' hb => by rw [cell_of_row _ _ _ _ _ _ (block_ext hb hR)]; rfl
  have x5 : ∀ w', Below W0.heap.size W0 w' → w'.cell? ⟨w.heap.size, 5, none⟩ = some (.int .i64 r.d.callee) := fun w' hb => by rw [cell_of_row _ _ _ _ _ _ (block_ext hb hR)]; rfl
  have x6 : ∀ w', Below W0.heap.size W0 w' → w'.cell? ⟨w.heap.size, 6, none⟩ = some (.slice r.aa r.na r.ca) := fun w' hb => by rw [cell_of_row _ _ _ _ _ _ (block_ext hb hR)]; rfl
  have x7 : ∀ w', Below W0.heap.size W0 w' → w'.cell? ⟨w.heap.size, 7, none⟩ = some (.int .i64 r.d.many) := fun w' hb => by rw [cell_of_row _ _ _ _ _ _ (block_ext hb hR)]; rfl
  have y0 : ∀ w', Below W0.heap.size W0 w' → w'.cell? ⟨w.heap.size + 1, 0, none⟩ = some (.int .i64 s.d.op) := fun w' hb => by rw [cell_of_row _ _ _ _ _ _ (block_ext hb hS)]; rfl
  have y1 : ∀ w', Below W0.heap.size W0 w' → w'.cell? ⟨w.heap.size + 1, 1, none⟩ = some (.int .i64 s.d.dst) := fun w' hb => by rw [cell_of_row _ _ _ _ _ _ (block_ext hb hS)]; rfl
  have y2 : ∀ w', Below W0.heap.size W0 w' → w'.cell? ⟨w.heap.size + 1, 2, none⟩ = some (.int .i64 s.d.a) := fun w' hb => by rw [cell_of_row _ _ _ _ _ _ (block_ext hb hS)]; rfl
  have y3 : ∀ w', Below W0.heap.size W0 w' → w'.cell? ⟨w.heap.size + 1, 3, none⟩ = some (.int .i64 s.d.b) := fun w' hb => by rw [cell_of_row _ _ _ _ _ _ (block_ext hb hS)]; rfl
  have y4 : ∀ w', Below W0.heap.size W0 w' → w'.cell? ⟨w.heap.size + 1, 4, none⟩ = some (.int .i64 s.d.imm) := fun w' hb => by rw [cell_of_row _ _ _ _ _ _ (block_ext hb hS)]; rfl
  have y5 : ∀ w', Below W0.heap.size W0 w' → w'.cell? ⟨w.heap.size + 1, 5, none⟩ = some (.int .i64 s.d.callee) := fun w' hb => by rw [cell_of_row _ _ _ _ _ _ (block_ext hb hS)]; rfl
  have y6 : ∀ w', Below W0.heap.size W0 w' → w'.cell? ⟨w.heap.size + 1, 6, none⟩ = some (.slice s.aa s.na s.ca) := fun w' hb => by rw [cell_of_row _ _ _ _ _ _ (block_ext hb hS)]; rfl
  have y7 : ∀ w', Below W0.heap.size W0 w' → w'.cell? ⟨w.heap.size + 1, 7, none⟩ = some (.int .i64 s.d.many) := fun w' hb => by rw [cell_of_row _ _ _ _ _ _ (block_ext hb hS)]; rfl
  have E0 : Below W0.heap.size W0 W0 := Below.refl _ _
  clear hR hS
  go_enter Tryz.func210, Tryz.ntmps210
  go_wp2_with (first
    | (go_at_call 63
       refine (keptInts_any base _ s.aa s.na s.ca s.d.args w1 (LentR_law.ext (LentR_law.ext HH.out HW0.out) E1).2 ((HS.out.ext HW0.out).ext E1).1 HN.out).mono ?_
       rintro e w2 ⟨rfl, q2, hq2⟩
       have E2 : Below W0.heap.size W0 w2 := by rw [hq2]; exact ext_drewN E1 q2
       clear hq2)
    | (go_at_call 183
       refine (sameIns_any r s W0 HD.out (HR.out.ext HW0.out) (HS.out.ext HW0.out) HN.out).mono ?_
       rintro e w1 ⟨rfl, E1⟩))
  go_ret
  exact ⟨rfl, ext_trans HW0.out E2⟩
theorem markIns_any (i : Nat) (w : World) (hi : i ≤ 100000) :
    Calls Tryz.prog 182 #[.int .i64 1, .int .i64 (i : Int)] w fun e w' => e = .returned (insVR (markR i)) ∧ Below w.heap.size w w' := by
  go_enter Tryz.func182, Tryz.ntmps182
  go_wp2_with (first
    | (go_at_call 112; refine (mark_any _ _ _ (by omega) (by omega)).mono ?_; rintro e w' ⟨rfl, rfl⟩)
    | (refine wpList_store_rowB rfl 216 _ _ rfl w.heap.size #[.int .i64 0, .int .i64 0, .int .i64 0, .int .i64 0, .int .i64 (markV 1 (i : Int)), .int .i64 0, .slice none 0 0, .int .i64 0] rfl rfl 216 _ (heap_alloc_new w _) (by kernel_rfl) rfl (by simp [Value.oneCell']) w.heap.size w (ext_alloc w _) (Nat.le_refl _) ?_
       intro W3 hb3 X3
       have HX := Lib.hid hb3
       have j0 : W3.cell? ⟨w.heap.size, 0, none⟩ = some (.int .i64 0) := by rw [cell_of_row _ _ _ _ _ _ X3]; rfl
       have j1 : W3.cell? ⟨w.heap.size, 1, none⟩ = some (.int .i64 0) := by rw [cell_of_row _ _ _ _ _ _ X3]; rfl
       have j2 : W3.cell? ⟨w.heap.size, 2, none⟩ = some (.int .i64 0) := by rw [cell_of_row _ _ _ _ _ _ X3]; rfl
       have j3 : W3.cell? ⟨w.heap.size, 3, none⟩ = some (.int .i64 0) := by rw [cell_of_row _ _ _ _ _ _ X3]; rfl
       have j4 : W3.cell? ⟨w.heap.size, 4, none⟩ = some (.int .i64 (markV 1 (i : Int))) := by rw [cell_of_row _ _ _ _ _ _ X3]; rfl
       have j5 : W3.cell? ⟨w.heap.size, 5, none⟩ = some (.int .i64 0) := by rw [cell_of_row _ _ _ _ _ _ X3]; rfl
       have j6 : W3.cell? ⟨w.heap.size, 6, none⟩ = some (.slice none 0 0) := by rw [cell_of_row _ _ _ _ _ _ X3]; rfl
       have j7 : W3.cell? ⟨w.heap.size, 7, none⟩ = some (.int .i64 0) := by rw [cell_of_row _ _ _ _ _ _ X3]; rfl
       clear hb3 X3))
  refine bodyPost_ret (v := insVR (markR i)) (by simp [results, Tryz.results182, go_sem, j0, j1, j2, j3, j4, j5, j6, j7, markR]) rfl ⟨rfl, HX.out⟩
abbrev LentRow (w : World) (base : Nat) (v : Value) (rs rs' : List InsR) : Prop := LentL insC 8 216 LentR markR w base v rs rs'
def LentRowPost (w : World) (rs : List InsR) (e : Ending) (w' : World) : Prop := ∃ v rs', e = .returned v ∧ LentRow w' w.heap.size v rs rs' ∧ Below w.heap.size w w'
theorem LentRow.okS {w : World} {base : Nat} {g n cap : Nat} {rs rs' : List InsR} {a : Option Addr} (h : LentRow w base (.slice (some ⟨g, 0, none⟩) n cap) rs rs') (hs : InsS w a n rs) (hn : n ≤ 1000000) (hna : ∀ r ∈ rs, InsNA r) :
    InsS w (some ⟨g, 0, none⟩) (n + 12) (rs' ++ markL markR) ∧ InsS w (some ⟨g, 0, none⟩) n rs' ∧ rs'.length = n ∧ n + 12 ≤ cap ∧ cap ≤ maxLen ∧ LentEs LentR w base rs rs' := by
  obtain ⟨h1, h2, h3, h4, h5, h6⟩ := h.recs insC_len (by omega) hn
  have ho : ∀ r ∈ rs', InsOK w r := fun r hm => by
    obtain ⟨k, hk, e⟩ := List.mem_iff_getElem.1 hm
    have hk2 : k < rs.length := by rw [← h6.1]; exact hk
    exact (h6.2 k rs[k] r (List.getElem?_eq_getElem hk2) (by rw [List.getElem?_eq_getElem hk, e])).ok (hs.2 _ (List.getElem_mem hk2)) (hna _ (List.getElem_mem hk2))
  refine ⟨⟨h1, fun r hm => ?_⟩, ⟨h.recsN insC_len (by omega) hn, ho⟩, h3, h4, h5, h6⟩
  rcases List.mem_append.1 hm with hm | hm
  · exact ho r hm
  · exact markL_all (OK := fun r => InsOK w r) (fun j hj => markR_ok w j hj) r hm
theorem lentRow_any (a : Option Addr) (n c : Nat) (rs : List InsR) (w : World) (h : InsS w a n rs) (hn : n ≤ 1000000) (hna : ∀ r ∈ rs, InsNA r) :
    Calls Tryz.prog 170 #[.slice a n c] w (LentRowPost w rs) := by
  obtain ⟨i0, hi, hz0, hz1, hz2⟩ := info_parts (P := Tryz.prog) info_Ins
  have HL := Lib.hid h.1.1
  have H := Lib.hid h
  have HNA := Lib.hid hna
  clear h hna
  go_enter Tryz.func170, Tryz.ntmps170
  go_wp2_with (first
    | (at_make
       refine wpList_make_own _ rfl _ _ 71 rfl w.heap.size 216 i0 _ 8 Tryz.underlying71 hi hz0 hz1 .i64 .i64 _ (n + 12) rfl rfl (by omega) (by rw [hz2]; omega) (by simp only [maxLen]; omega) (Nat.le_refl _) ?_
       intro w1 hown1 hg1
       have HO1 := Lib.hid hown1
       have HB1 : Hid (Below w.heap.size w w1) := (Below.refl _ _).grown hg1 (Nat.le_refl _) (by simp)
       clear hown1 hg1))
  go_loopw [3, 4, 5] (fun v i _ wr => ∃ (k : Nat) (rs' : List InsR), k ≤ n ∧ i = .int .i64 k ∧ Hid (wr.ownsRow w.heap.size 216 8 v k (rs'.flatMap insC)) ∧ Hid (LentEs LentR wr w.heap.size (rs.take k) rs') ∧ Hid (Below w.heap.size w wr)) (fun _ i _ _ => n - (intOf i).toNat)
  case atStart => exact ⟨0, [], by omega, rfl, HO1, LentEs.nil _ _, HB1⟩
  case round =>
    obtain ⟨k, rs', hk, rfl, HO, HLR, HB⟩ := hrel
    by_cases hlt : k < n
    · obtain ⟨r, b, o, hr, hok, rfl, y0, y1, y2, y3, y4, y5, y6, y7⟩ := (H.out.ext HB.out).cells hlt
      have HG := Lib.hid hr
      have HOK := Lib.hid hok
      have HTK : Hid (rs.take (k + 1) = rs.take k ++ [r]) := by rw [Hid, List.take_add_one, hr]; rfl
      have HNr := Lib.hid (HNA.out r (List.mem_of_getElem? hr))
      clear hr hok
      go_wp2_with (first
        | (go_at_call 209
           refine (lentIns_any r wr HOK.out HNr.out).mono ?_
           rintro e w1 ⟨r', rfl, hL, hb⟩
           have HLr := Lib.hid hL
           have HB1 := Lib.hid hb
           clear hL hb y0 y1 y2 y3 y4 y5 y6 y7)
        | (refine wpList_store_rowB rfl 216 _ _ rfl w1.heap.size #[.int .i64 r'.d.op, .int .i64 r'.d.dst, .int .i64 r'.d.a, .int .i64 r'.d.b, .int .i64 r'.d.imm, .int .i64 r'.d.callee, .slice r'.aa r'.na r'.ca, .int .i64 r'.d.many] rfl rfl 216 _ (heap_alloc_new w1 _) (by kernel_rfl) rfl (by simp [Value.oneCell']) w1.heap.size w1 (ext_alloc w1 _) (Nat.le_refl _) ?_
           intro W3 hb3 X3
           have HB3 := Lib.hid (ext_trans HB1.out hb3)
           have HLr3 := Lib.hid (LentR_law.ext (LentR_law.mono HB.out.size HLr.out) hb3)
           have i0 : W3.cell? ⟨w1.heap.size, 0, none⟩ = some (.int .i64 r'.d.op) := by rw [cell_of_row _ _ _ _ _ _ X3]; rfl
           have i1 : W3.cell? ⟨w1.heap.size, 1, none⟩ = some (.int .i64 r'.d.dst) := by rw [cell_of_row _ _ _ _ _ _ X3]; rfl
           have i2 : W3.cell? ⟨w1.heap.size, 2, none⟩ = some (.int .i64 r'.d.a) := by rw [cell_of_row _ _ _ _ _ _ X3]; rfl
           have i3 : W3.cell? ⟨w1.heap.size, 3, none⟩ = some (.int .i64 r'.d.b) := by rw [cell_of_row _ _ _ _ _ _ X3]; rfl
           have i4 : W3.cell? ⟨w1.heap.size, 4, none⟩ = some (.int .i64 r'.d.imm) := by rw [cell_of_row _ _ _ _ _ _ X3]; rfl
           have i5 : W3.cell? ⟨w1.heap.size, 5, none⟩ = some (.int .i64 r'.d.callee) := by rw [cell_of_row _ _ _ _ _ _ X3]; rfl
           have i6 : W3.cell? ⟨w1.heap.size, 6, none⟩ = some (.slice r'.aa r'.na r'.ca) := by rw [cell_of_row _ _ _ _ _ _ X3]; rfl
           have i7 : W3.cell? ⟨w1.heap.size, 7, none⟩ = some (.int .i64 r'.d.many) := by rw [cell_of_row _ _ _ _ _ _ X3]; rfl
           clear hb3 X3)
        | (at_builtin
           go_loud (
             have HO1 := Lib.hid ((Steady.ownsRow wr.heap.size _ _ _ _ _ _).ext HO.out HB3.out)
             refine wpList_append1 rfl W3 (.tmp 22) (.tmp 24) 71 216 rfl w.heap.size _ 8 80 Tryz.underlying71 info_Ins rfl (by omega) u3 k _ (insC r') rfl HO1.out W3.heap.size rfl rfl rfl (Ins_one r') (by simp only [maxLen]; omega) (by omega) (ext_trans HB.out HB3.out).size ?_
             intro g cap w4 hown4 hg4 hat4
             have HO4 : Hid (w4.ownsRow w.heap.size 216 8 (.slice (some ⟨g, 0, none⟩) (k + 1) cap) (k + 1) ((rs' ++ [r']).flatMap insC)) := by rw [Hid, List.flatMap_append]; simpa using hown4
             have HB4 : Hid (Below w.heap.size w w4) := (ext_trans HB.out HB3.out).grown hg4 (ext_trans HB.out HB3.out).size (fun j e => (HO1.out.lt j e).1)
             have HL4 : Hid (LentEs LentR w4 w.heap.size (rs.take (k + 1)) (rs' ++ [r'])) := by
               rw [Hid, HTK.out]
               exact ((HLR.out.ext LentR_law HB3.out).snoc HLr3.out).grown LentR_law (by decide) HO1.out hg4
             clear hown4 hg4 hat4 i0 i1 i2 i3 i4 i5 i6 i7)))
      go_roundw
      case rel => exact ⟨k + 1, rs' ++ [r'], by omega, by go_num, HO4, HL4, HB4⟩
      case measure => simp [intOf]; omega
    · obtain rfl : k = n := by omega
      have HLR1 : Hid (LentEs LentR wr w.heap.size rs rs') := by
        have := HLR.out
        rw [List.take_of_length_le (by rw [HL.out]; omega)] at this
        exact this
      have HO1 : Hid (wr.ownsRow w.heap.size 216 8 u3 (k + 0) ((rs' ++ (markL markR).take 0).flatMap insC)) := by rw [Hid]; simpa using HO.out
      clear HLR HO
      go_wp2
      go_loopw [3, 6] (fun v i wr => ∃ (j : Nat), j ≤ 12 ∧ i = .int .i64 j ∧ Hid (wr.ownsRow w.heap.size 216 8 v (k + j) ((rs' ++ (markL markR).take j).flatMap insC)) ∧ Hid (LentEs LentR wr w.heap.size rs rs') ∧ Hid (Below w.heap.size w wr)) (fun _ i _ => 12 - (intOf i).toNat)
      case atStart => exact ⟨0, by omega, rfl, HO1, HLR1, HB⟩
      case round =>
        clear HO1 HLR1 HB
        obtain ⟨j, hj, rfl, HO, HLR, HB⟩ := hrel
        by_cases hlt : j < 12
        · go_wp2_with (first
            | (go_at_call 182; refine (markIns_any j _ (by omega)).mono ?_; rintro e w1 ⟨rfl, hb1⟩; have HB1 := Lib.hid hb1; clear hb1)
            | (at_builtin
               go_loud (
                 have HO1 := Lib.hid ((Steady.ownsRow wr.heap.size _ _ _ _ _ _).ext HO.out HB1.out)
                 refine wpList_append1 rfl w1 (.tmp 30) (.tmp 33) 71 216 rfl w.heap.size _ 8 80 Tryz.underlying71 info_Ins rfl (by omega) u3 (k + j) _ (insC (markR j)) rfl HO1.out w1.heap.size rfl rfl rfl (Ins_one _) (by simp only [maxLen]; omega) (by omega) (ext_trans HB.out HB1.out).size ?_
                 intro g cap w4 hown4 hg4 hat4
                 have HO4 : Hid (w4.ownsRow w.heap.size 216 8 (.slice (some ⟨g, 0, none⟩) (k + j + 1) cap) (k + j + 1) ((rs' ++ (markL markR).take (j + 1)).flatMap insC)) := by rw [Hid, markL_take markR j hlt, ← List.append_assoc, List.flatMap_append]; simpa using hown4
                 have HB4 : Hid (Below w.heap.size w w4) := (ext_trans HB.out HB1.out).grown hg4 (ext_trans HB.out HB1.out).size (fun j e => (HO1.out.lt j e).1)
                 have HL4 : Hid (LentEs LentR w4 w.heap.size rs rs') := (HLR.out.ext LentR_law HB1.out).grown LentR_law (by decide) HO1.out hg4
                 clear hown4 hg4 hat4)))
          go_roundw
          case rel => exact ⟨j + 1, by omega, by go_num, HO4, HL4, HB4⟩
          case measure => simp [intOf]; omega
        · obtain rfl : j = 12 := by omega
          have hown := HO.out
          have hform : ∃ g cap, u3 = .slice (some ⟨g, 0, none⟩) (k + 12) cap ∧ k + 12 ≤ cap ∧ cap ≤ maxLen := by
            rcases hown.2 with ⟨_, h0⟩ | ⟨g', cap', cur, hv, _, _, h1, h2, _⟩
            · omega
            · exact ⟨_, _, hv, h1, h2⟩
          obtain ⟨g, cap, rfl, hc1, hc2⟩ := hform
          clear hown
          unfold maxLen at hc2
          go_wp2
          go_ret
          refine ⟨_, rs', rfl, ⟨g, cap, by rw [HL.out]; rfl, ?_, HLR.out⟩, HB.out⟩
          have := HO.out
          rw [HL.out]
          rw [List.take_of_length_le (by rw [markL_len]; omega)] at this
          exact this
theorem sameRow_any (a b : Option Addr) (n c d : Nat) (rs ss : List InsR) (w : World) (hr : InsS w a n rs) (hs : InsS w b n ss) (h : SameEs SDIns rs ss) (hna : ∀ r ∈ ss, InsNA r) :
    Calls Tryz.prog 172 #[.slice a n c, .slice b n d] w fun e w' => e = .returned (.bool true) ∧ Below w.heap.size w w' := by
  have HR := Lib.hid hr
  have HS := Lib.hid hs
  have HH := Lib.hid h
  have HNA := Lib.hid hna
  have hn := hr.1.2.1
  clear hr hs h hna
  have hne : ((n : Int) != (n : Int)) = false := by simp
  go_enter Tryz.func172, Tryz.ntmps172
  go_wp2
  go_loopw [5] (fun i wr => ∃ (k : Nat), k ≤ n ∧ i = .int .i64 k ∧ Hid (Below w.heap.size w wr)) (fun i _ => n - (intOf i).toNat)
  case atStart => exact ⟨0, by omega, rfl, Below.refl _ _⟩
  case round =>
    obtain ⟨k, hk, rfl, HB⟩ := hrel
    by_cases hlt : k < n
    · obtain ⟨r, b1, o1, hr, hokr, rfl, y0, y1, y2, y3, y4, y5, y6, y7⟩ := (HR.out.ext HB.out).cells hlt
      obtain ⟨s, b2, o2, hs, hoks, rfl, z0, z1, z2, z3, z4, z5, z6, z7⟩ := (HS.out.ext HB.out).cells hlt
      have HD := Lib.hid (HH.out.2 k r s hr hs)
      have HNs := Lib.hid (HNA.out s (List.mem_of_getElem? hs))
      have HOr := Lib.hid hokr
      have HOs := Lib.hid hoks
      have hk0 : (0 : Int) ≤ (k : Int) := by omega
      have hk1 : (k : Int) < (n : Int) := by omega
      have kx0 : ∀ n : ExtW wr, n.val.cell? ⟨b1, o1 + k * 8, none⟩ = some (.int .i64 r.d.op) := fun n => cell_ext n.ext y0
      have kx1 : ∀ n : ExtW wr, n.val.cell? ⟨b1, o1 + k * 8 + 1, none⟩ = some (.int .i64 r.d.dst) := fun n => cell_ext n.ext y1
      have kx2 : ∀ n : ExtW wr, n.val.cell? ⟨b1, o1 + k * 8 + 2, none⟩ = some (.int .i64 r.d.a) := fun n => cell_ext n.ext y2
      have kx3 : ∀ n : ExtW wr, n.val.cell? ⟨b1, o1 + k * 8 + 3, none⟩ = some (.int .i64 r.d.b) := fun n => cell_ext n.ext y3
      have kx4 : ∀ n : ExtW wr, n.val.cell? ⟨b1, o1 + k * 8 + 4, none⟩ = some (.int .i64 r.d.imm) := fun n => cell_ext n.ext y4
      have kx5 : ∀ n : ExtW wr, n.val.cell? ⟨b1, o1 + k * 8 + 5, none⟩ = some (.int .i64 r.d.callee) := fun n => cell_ext n.ext y5
      have kx6 : ∀ n : ExtW wr, n.val.cell? ⟨b1, o1 + k * 8 + 6, none⟩ = some (.slice r.aa r.na r.ca) := fun n => cell_ext n.ext y6
      have kx7 : ∀ n : ExtW wr, n.val.cell? ⟨b1, o1 + k * 8 + 7, none⟩ = some (.int .i64 r.d.many) := fun n => cell_ext n.ext y7
      have ky0 : ∀ n : ExtW wr, n.val.cell? ⟨b2, o2 + k * 8, none⟩ = some (.int .i64 s.d.op) := fun n => cell_ext n.ext z0
      have ky1 : ∀ n : ExtW wr, n.val.cell? ⟨b2, o2 + k * 8 + 1, none⟩ = some (.int .i64 s.d.dst) := fun n => cell_ext n.ext z1
      have ky2 : ∀ n : ExtW wr, n.val.cell? ⟨b2, o2 + k * 8 + 2, none⟩ = some (.int .i64 s.d.a) := fun n => cell_ext n.ext z2
      have ky3 : ∀ n : ExtW wr, n.val.cell? ⟨b2, o2 + k * 8 + 3, none⟩ = some (.int .i64 s.d.b) := fun n => cell_ext n.ext z3
      have ky4 : ∀ n : ExtW wr, n.val.cell? ⟨b2, o2 + k * 8 + 4, none⟩ = some (.int .i64 s.d.imm) := fun n => cell_ext n.ext z4
      have ky5 : ∀ n : ExtW wr, n.val.cell? ⟨b2, o2 + k * 8 + 5, none⟩ = some (.int .i64 s.d.callee) := fun n => cell_ext n.ext z5
      have ky6 : ∀ n : ExtW wr, n.val.cell? ⟨b2, o2 + k * 8 + 6, none⟩ = some (.slice s.aa s.na s.ca) := fun n => cell_ext n.ext z6
      have ky7 : ∀ n : ExtW wr, n.val.cell? ⟨b2, o2 + k * 8 + 7, none⟩ = some (.int .i64 s.d.many) := fun n => cell_ext n.ext z7
      have HNE : Nonempty (ExtW wr) := ⟨⟨wr, Below.refl _ _⟩⟩
      clear hr hs hokr hoks y0 y1 y2 y3 y4 y5 y6 y7 z0 z1 z2 z3 z4 z5 z6 z7
      go_wp2
      refine region_ext (by kernel_rfl) (by kernel_rfl) ?_
      repeat (first
        | go_big_quiet_skip
        | go_big_quiet_step (first
          | (go_at_call 183; exact quiet_ext (sameIns_any r s _ HD.out (InsOK.ext HOr.out (ExtW.ext _)) (InsOK.ext HOs.out (ExtW.ext _)) HNs.out))))
      refine wpQuiet_nil ?_
      rintro _ ⟨mm, rfl⟩
      have HM := Lib.hid (ext_trans HB.out mm.ext)
      generalize mm.val = W8 at *
      clear kx0 kx1 kx2 kx3 kx4 kx5 kx6 kx7 ky0 ky1 ky2 ky3 ky4 ky5 ky6 ky7
      go_wp2
      go_roundw
      case rel => exact ⟨k + 1, by omega, by go_num, HM⟩
      case measure => simp [intOf]; omega
    · go_wp2
      go_ret
      exact ⟨rfl, HB.out⟩
theorem keptRow_any (base g cap : Nat) (a : Option Addr) (n c : Nat) (rs rs' : List InsR) (w : World) (h : LentRow w base (.slice (some ⟨g, 0, none⟩) n cap) rs rs') (hs : InsS w a n rs) (hn : n ≤ 1000000) (hna : ∀ r ∈ rs, InsNA r) :
    Calls Tryz.prog 171 #[.slice (some ⟨g, 0, none⟩) n cap, .slice a n c] w fun e w' => e = .returned (.bool true) ∧ Below w.heap.size w w' := by
  obtain ⟨h1, _, hlen, hc1, hc2, hl⟩ := h.okS hs hn hna
  have HA := Lib.hid h1
  have HS := Lib.hid hs
  have HL := Lib.hid hl
  have HLen := Lib.hid hlen
  have HNA := Lib.hid hna
  clear h hs h1 hl hlen hna
  unfold maxLen at hc2
  have hne : ((n : Int) != (n : Int)) = false := by simp
  go_enter Tryz.func171, Tryz.ntmps171
  go_wp2
  go_loopw [6] (fun i wr => ∃ (k : Nat), k ≤ n + 12 ∧ i = .int .i64 k ∧ Hid (Below w.heap.size w wr)) (fun i _ => n + 12 - (intOf i).toNat)
  case atStart => exact ⟨0, by omega, rfl, Below.refl _ _⟩
  case round =>
    obtain ⟨k, hk, rfl, HB⟩ := hrel
    by_cases hlt : k < n + 12
    · obtain ⟨r, b1, o1, hr, hokr, hab, y0, y1, y2, y3, y4, y5, y6, y7⟩ := (HA.out.ext HB.out).cells hlt
      injection hab with hab
      injection hab with hab1 hab2 _
      subst hab1
      subst hab2
      have HOr := Lib.hid hokr
      rw [Nat.zero_add] at y0 y1 y2 y3 y4 y5 y6 y7
      have kx0 : ∀ n : ExtW wr, n.val.cell? ⟨g, k * 8, none⟩ = some (.int .i64 r.d.op) := fun n => cell_ext n.ext y0
      have kx1 : ∀ n : ExtW wr, n.val.cell? ⟨g, k * 8 + 1, none⟩ = some (.int .i64 r.d.dst) := fun n => cell_ext n.ext y1
      have kx2 : ∀ n : ExtW wr, n.val.cell? ⟨g, k * 8 + 2, none⟩ = some (.int .i64 r.d.a) := fun n => cell_ext n.ext y2
      have kx3 : ∀ n : ExtW wr, n.val.cell? ⟨g, k * 8 + 3, none⟩ = some (.int .i64 r.d.b) := fun n => cell_ext n.ext y3
      have kx4 : ∀ n : ExtW wr, n.val.cell? ⟨g, k * 8 + 4, none⟩ = some (.int .i64 r.d.imm) := fun n => cell_ext n.ext y4
      have kx5 : ∀ n : ExtW wr, n.val.cell? ⟨g, k * 8 + 5, none⟩ = some (.int .i64 r.d.callee) := fun n => cell_ext n.ext y5
      have kx6 : ∀ n : ExtW wr, n.val.cell? ⟨g, k * 8 + 6, none⟩ = some (.slice r.aa r.na r.ca) := fun n => cell_ext n.ext y6
      have kx7 : ∀ n : ExtW wr, n.val.cell? ⟨g, k * 8 + 7, none⟩ = some (.int .i64 r.d.many) := fun n => cell_ext n.ext y7
      have HNE : Nonempty (ExtW wr) := ⟨⟨wr, Below.refl _ _⟩⟩
      by_cases hkn : k < n
      · rw [List.getElem?_append_left (by rw [HLen.out]; exact hkn)] at hr
        obtain ⟨s, b2, o2, hs, hoks, rfl, z0, z1, z2, z3, z4, z5, z6, z7⟩ := (HS.out.ext HB.out).cells hkn
        have HLk := Lib.hid (LentR_law.ext (HL.out.2 k s r hs hr) HB.out)
        have HOs := Lib.hid hoks
        have HNs := Lib.hid (HNA.out s (List.mem_of_getElem? hs))
        have ky0 : ∀ n : ExtW wr, n.val.cell? ⟨b2, o2 + k * 8, none⟩ = some (.int .i64 s.d.op) := fun n => cell_ext n.ext z0
        have ky1 : ∀ n : ExtW wr, n.val.cell? ⟨b2, o2 + k * 8 + 1, none⟩ = some (.int .i64 s.d.dst) := fun n => cell_ext n.ext z1
        have ky2 : ∀ n : ExtW wr, n.val.cell? ⟨b2, o2 + k * 8 + 2, none⟩ = some (.int .i64 s.d.a) := fun n => cell_ext n.ext z2
        have ky3 : ∀ n : ExtW wr, n.val.cell? ⟨b2, o2 + k * 8 + 3, none⟩ = some (.int .i64 s.d.b) := fun n => cell_ext n.ext z3
        have ky4 : ∀ n : ExtW wr, n.val.cell? ⟨b2, o2 + k * 8 + 4, none⟩ = some (.int .i64 s.d.imm) := fun n => cell_ext n.ext z4
        have ky5 : ∀ n : ExtW wr, n.val.cell? ⟨b2, o2 + k * 8 + 5, none⟩ = some (.int .i64 s.d.callee) := fun n => cell_ext n.ext z5
        have ky6 : ∀ n : ExtW wr, n.val.cell? ⟨b2, o2 + k * 8 + 6, none⟩ = some (.slice s.aa s.na s.ca) := fun n => cell_ext n.ext z6
        have ky7 : ∀ n : ExtW wr, n.val.cell? ⟨b2, o2 + k * 8 + 7, none⟩ = some (.int .i64 s.d.many) := fun n => cell_ext n.ext z7
        have hk0 : (0 : Int) ≤ (k : Int) := by omega
        have hk1 : (k : Int) < (n : Int) := by omega
        have hk2 : (k : Int) < (n : Int) + 12 := by omega
        have d1 : decide ((k : Int) < (n : Int)) = true := by simpa using hkn
        have d2 : decide ((n : Int) ≤ (k : Int)) = false := by simp; omega
        have d3 : decide (k < n) = true := by simpa using hkn
        have d4 : decide (n ≤ k) = false := by simp; omega
        clear hr hs hoks hokr y0 y1 y2 y3 y4 y5 y6 y7 z0 z1 z2 z3 z4 z5 z6 z7 hkn
        go_wp2
        refine region_ext (by kernel_rfl) (by kernel_rfl) ?_
        repeat (go_big_quiet_step (first
          | (go_at_call 210; exact quiet_ext (keptIns_any r s base _ (LentR_law.ext HLk.out (ExtW.ext _)) (InsOK.ext HOs.out (ExtW.ext _)) HNs.out))))
        refine wpQuiet_nil ?_
        rintro _ ⟨mm, rfl⟩
        have HM := Lib.hid (ext_trans HB.out mm.ext)
        generalize mm.val = W8 at *
        clear kx0 kx1 kx2 kx3 kx4 kx5 kx6 kx7 ky0 ky1 ky2 ky3 ky4 ky5 ky6 ky7
        go_wp2
        go_roundw
        case rel => exact ⟨k + 1, by omega, by go_num, HM⟩
        case measure => simp [intOf]; omega
      · obtain ⟨j, rfl⟩ : ∃ j, k = n + j := ⟨k - n, by omega⟩
        have hj : j < 12 := by omega
        have hrm : r = markR j := by
          rw [List.getElem?_append_right (by rw [HLen.out]; omega), HLen.out, Nat.add_sub_cancel_left, markL_at markR j hj] at hr
          exact (Option.some.inj hr).symm
        have HRM := Lib.hid hrm
        have d1 : decide (n + j < n) = false := by simp
        have d2 : decide (n ≤ n + j) = true := by simp
        have d3 : decide ((n : Int) + (j : Int) < (n : Int)) = false := by simp; omega
        have d4 : decide ((n : Int) ≤ (n : Int) + (j : Int)) = true := by simp; omega
        have d5 : IntKind.i64.wrap ((n : Int) + (j : Int) - (n : Int)) = (j : Int) := by rw [IntKind.wrap_i64]; omega
        have hk0 : (0 : Int) ≤ (n : Int) + (j : Int) := by omega
        have hk2 : (n : Int) + (j : Int) < (n : Int) + 12 := by omega
        clear hr hrm hokr y0 y1 y2 y3 y4 y5 y6 y7 hkn
        go_wp2
        refine region_ext (by kernel_rfl) (by kernel_rfl) ?_
        repeat (go_big_quiet_step (first
          | (go_at_call 182; exact quiet_ext (markIns_any j _ (by omega)))
          | (go_at_call 183; exact quiet_ext (sameIns_any r (markR j) _ (by rw [HRM.out]; exact SDIns_refl _) (InsOK.ext HOr.out (ExtW.ext _)) (markR_ok _ j hj) (markR_na j)))))
        refine wpQuiet_nil ?_
        rintro _ ⟨mm, rfl⟩
        have HM := Lib.hid (ext_trans HB.out mm.ext)
        generalize mm.val = W8 at *
        clear kx0 kx1 kx2 kx3 kx4 kx5 kx6 kx7
        go_wp2
        go_roundw
        case rel => exact ⟨n + j + 1, by omega, by go_num, HM⟩
        case measure => simp [intOf]; omega
    · go_wp2
      go_ret
      exact ⟨rfl, HB.out⟩
end

section
open Go.RowKit
theorem part_kind (cs : Array Value) (o : Nat) (v : Value) (w : World) (h : cs[o]? = some v) : (part 67 cs o).run Tryz.prog w = .ok v w := by
  have hu : (underlying 67).run Tryz.prog w = .ok (.int .i64) w := run_underlying Tryz.underlying67 w
  simp [part, isAgg, hu, h]
theorem info_to : (Tryz.prog.info? 68).map (fun i => (i.zero, i.size, i.bytes)) = some (some (.agg #[.int .i64 0, .int .i64 0]), 2, 16) := by kernel_rfl
theorem part_to (cs : Array Value) (o : Nat) (u v : Value) (w : World) (h : cs.extract o (o + 2) = #[u, v]) : (part 68 cs o).run Tryz.prog w = .ok (.agg #[u, v]) w := by
  have hu : (underlying 68).run Tryz.prog w = .ok _ w := run_underlying Tryz.underlying68 w
  obtain ⟨i, hi, -, hs, -⟩ := info_parts info_to
  have hz : (sizeOf 68).run Tryz.prog w = .ok 2 w := by simp [sizeOf, typeInfo, hi, hs]
  simp [part, isAgg, hu, hz, h]
theorem equal_toD (w : World) (d : Nat) (x0 x1 y0 y1 : Int) : (Op.equalIn (d + 2) 68 (.agg #[.int .i64 x0, .int .i64 x1]) (.agg #[.int .i64 y0, .int .i64 y1])).run Tryz.prog w = .ok (x0 == y0 && x1 == y1) w := by
  obtain ⟨i, hi, -, -, -⟩ := info_parts lentInfoI
  have h1 : Tryz.prog.cellsOf 3 = 1 := by kernel_rfl
  have e0 := run_equalIn_int w d 3 .i64 .i64 x0 y0 Tryz.underlying3
  have e1 := run_equalIn_int w d 3 .i64 .i64 x1 y1 Tryz.underlying3
  rw [run_equalIn_array w (d + 1) _ _ Tryz.underlying68 hi, h1]
  simp only [List.range, List.range.loop, Op.eqItems, Sem.run_bind, Nat.zero_mul, Nat.one_mul]
  rw [part_int _ 0 (.int .i64 x0) w rfl]
  simp only [Result.andThen_ok]
  rw [part_int _ 0 (.int .i64 y0) w rfl]
  simp only [Result.andThen_ok]
  rw [e0]
  simp only [Result.andThen_ok]
  cases hq : (x0 == y0) with
  | false => simp
  | true =>
    simp only [Bool.not_true, Bool.false_eq_true, if_false, Sem.run_bind]
    rw [part_int _ 1 (.int .i64 x1) w rfl]
    simp only [Result.andThen_ok]
    rw [part_int _ 1 (.int .i64 y1) w rfl]
    simp only [Result.andThen_ok]
    rw [e1]
    simp only [Result.andThen_ok]
    cases hq : (x1 == y1) <;> simp
theorem fields_term : (Tryz.prog.fieldsOf 70).toList.map (fun f => (f.name, f.type, f.offset)) = [("Kind", 67, 0), ("A", 3, 1), ("To", 68, 2)] := by kernel_rfl
theorem under_term : Tryz.prog.underlying 70 = some (.struct (Tryz.prog.fieldsOf 70)) := by kernel_rfl
theorem stood_term : Tryz.prog.stoodInHeld 70 = false := by kernel_rfl
theorem eql_term (w : World) (x0 x1 x2 x3 : Int) : (binOp .eql 70 (.agg #[.int .i64 x0, .int .i64 x1, .int .i64 x2, .int .i64 x3]) (.agg #[.int .i64 x0, .int .i64 x1, .int .i64 x2, .int .i64 x3])).run Tryz.prog w = .ok (.bool true) w := by
  rw [run_eql_struct, run_equalIn_struct w 9999 _ _ _ under_term stood_term]
  rw [eqFields3 w 9999 _ _ _ _ _ _ _ _ _ _ _ _ fields_term (by decide) (by decide) (by decide) (.int .i64 x0) (.int .i64 x0) (.int .i64 x1) (.int .i64 x1) (.agg #[.int .i64 x2, .int .i64 x3]) (.agg #[.int .i64 x2, .int .i64 x3]) _ _ _ (part_kind _ _ _ w rfl) (part_kind _ _ _ w rfl) (part_int _ _ _ w rfl) (part_int _ _ _ w rfl) (part_to _ _ _ _ w rfl) (part_to _ _ _ _ w rfl) (run_equalIn_int w 9998 _ .i64 .i64 _ _ Tryz.underlying67) (run_equalIn_int w 9998 _ .i64 .i64 _ _ Tryz.underlying3) (equal_toD w 9997 _ _ _ _)]
  simp
def BlkNA (b : BlkR) : Prop := b.h.n ≤ 1000000 ∧ ∀ r ∈ b.rs, InsNA r
def SDBlk (r s : BlkR) : Prop := r.h.t = s.h.t ∧ r.h.n = s.h.n ∧ SameEs SDIns r.rs s.rs
theorem SDBlk_refl (r : BlkR) : SDBlk r r := ⟨rfl, rfl, rfl, fun k x y h1 h2 => by rw [h1] at h2; cases h2; rfl⟩
abbrev blkVR (b : BlkR) : Value := blkV b.h
theorem info_Block : (Tryz.prog.info? 73).map (fun i => (i.zero, i.size, i.bytes)) = some (some (.agg #[.slice none 0 0, .int .i64 0, .int .i64 0, .int .i64 0, .int .i64 0]), 5, 56) := by kernel_rfl
theorem Block_one (r : BlkR) : ∀ u ∈ blkC' r, u.oneCell' = true := by
  intro u hu
  simp only [blkC', blkC, List.mem_cons, List.not_mem_nil, or_false] at hu
  rcases hu with rfl | rfl | rfl | rfl | rfl <;> rfl
def LentB (w : World) (base : Nat) (r r' : BlkR) : Prop := r'.h.t = r.h.t ∧ r'.h.n = r.h.n ∧ LentRow w base (.slice r'.h.ia r'.h.n r'.h.c) r.rs r'.rs
theorem LentB.sd {w : World} {base : Nat} {r r' : BlkR} (h : LentB w base r r') : SDBlk r' r := by
  obtain ⟨h1, h2, _, _, _, _, h3⟩ := h
  exact ⟨h1, h2, h3.same fun _ _ h => h.sd⟩
theorem LentB_law : LentLaw [216, 3] LentB where
  chg := fun h hc hn => ⟨h.1, h.2.1, h.2.2.chg LentR_law hc hn⟩
  mono := fun hb h => ⟨h.1, h.2.1, h.2.2.mono LentR_law hb⟩
  grown := fun he h ho hg => ⟨h.1, h.2.1, h.2.2.grown LentR_law he ho hg⟩
theorem LentB.ok {w : World} {base : Nat} {r r' : BlkR} (h : LentB w base r r') (hr : BlkROK w r) (hna : BlkNA r) : BlkROK w r' := by
  obtain ⟨⟨ia, n, c, t⟩, rs⟩ := r'
  obtain ⟨h1, h2, h3⟩ := h
  obtain ⟨g, cap, e⟩ := h3.form
  injection e with e1 e2 e3
  obtain rfl : ia = some ⟨g, 0, none⟩ := e1
  obtain rfl : n = r.h.n := h2
  obtain rfl : t = r.h.t := h1
  exact ⟨hr.1, (h3.okS hr.2 hna.1 hna.2).2.1⟩
def markB (i : Nat) : BlkR := ⟨⟨none, 0, 0, ⟨0, markV 1 (i : Int), 0, 0⟩⟩, []⟩
theorem markB_ok (w : World) (k : Nat) (hk : k < 12) : BlkROK w (markB k) := by
  have hm : I64 (markV 1 (k : Int)) := by unfold I64 markV; omega
  have z : I64 0 := by unfold I64; omega
  exact ⟨⟨z, hm, z, z⟩, ⟨rfl, Nat.zero_le _, fun j r h => by simp [markB] at h⟩, fun r hr => by simp [markB] at hr⟩
theorem markB_na (k : Nat) : BlkNA (markB k) := ⟨by simp [markB], fun r hr => by simp [markB] at hr⟩
theorem lentBlock_any (r : BlkR) (w : World) (h : BlkROK w r) (hn : BlkNA r) :
    Calls Tryz.prog 113 #[blkVR r] w fun e w' => ∃ r', e = .returned (blkVR r') ∧ LentB w' w.heap.size r r' ∧ Below w.heap.size w w' := by
  have H := Lib.hid h
  have HN := Lib.hid hn
  clear h hn
  go_enter Tryz.func113, Tryz.ntmps113
  go_wp2_with (first
    | (go_at_call 170
       refine (lentRow_any r.h.ia r.h.n r.h.c r.rs _ (H.out.2.ext (ext_trans (ext_alloc _ _) (ext_alloc _ _))) HN.out.1 HN.out.2).mono ?_
       rintro e w1 ⟨v, rs0, rfl, hL, hb⟩
       obtain ⟨g0, cap0, rfl⟩ := hL.form
       obtain ⟨x1, x2, x3⟩ := box2 w (.cells #[.slice r.h.ia r.h.n r.h.c, .int .i64 r.h.t.kind, .int .i64 r.h.t.a, .int .i64 r.h.t.t0, .int .i64 r.h.t.t1] 73) (.cells #[.slice none 0 0, .int .i64 0, .int .i64 0, .int .i64 0, .int .i64 0] 73) w1 hb
       have y6 : w1.cell? ⟨w.heap.size, 0, none⟩ = some (.slice r.h.ia r.h.n r.h.c) := by rw [cell_of_row _ _ _ _ _ _ x1]; rfl
       have z6 : w1.frozen? ⟨w.heap.size, 0, none⟩ = false := frozen_of_row _ _ _ _ _ x1
       obtain ⟨W1, hW2⟩ : ∃ W, w1.setCell ⟨w.heap.size, 0, none⟩ (.slice (some ⟨g0, 0, none⟩) r.rs.length cap0) = W := ⟨_, rfl⟩
       have c2 : Chg (fun k => k = w.heap.size) w1 W1 := by rw [← hW2]; exact chg_setCell _ _ _ _
       have HL1_0 := Lib.hid (hL.chg LentR_law c2 (fun k hk => by simp; omega))
       have X1 : W1.heap[w.heap.size]? = some (.cells #[.slice (some ⟨g0, 0, none⟩) r.rs.length cap0, .int .i64 r.h.t.kind, .int .i64 r.h.t.a, .int .i64 r.h.t.t0, .int .i64 r.h.t.t1] 73 (0, 0)) := by rw [← hW2, heap_setCell_same _ _ 0 _ _ _ x1]; rfl
       have HK1 := Lib.hid X1
       have HZ1 := Lib.hid (c2.row x2 (by omega))
       have HX1 := Lib.hid (x3.trans (c2.below (B := w.heap.size) x3.size (fun k hk => by omega)))
       have i1_0 : W1.cell? ⟨w.heap.size, 0, none⟩ = some (.slice (some ⟨g0, 0, none⟩) r.rs.length cap0) := by rw [cell_of_row _ _ _ _ _ _ X1]; rfl
       have i1_1 : W1.cell? ⟨w.heap.size, 1, none⟩ = some (.int .i64 r.h.t.kind) := by rw [cell_of_row _ _ _ _ _ _ X1]; rfl
       have i1_2 : W1.cell? ⟨w.heap.size, 2, none⟩ = some (.int .i64 r.h.t.a) := by rw [cell_of_row _ _ _ _ _ _ X1]; rfl
       have i1_3 : W1.cell? ⟨w.heap.size, 3, none⟩ = some (.int .i64 r.h.t.t0) := by rw [cell_of_row _ _ _ _ _ _ X1]; rfl
       have i1_4 : W1.cell? ⟨w.heap.size, 4, none⟩ = some (.int .i64 r.h.t.t1) := by rw [cell_of_row _ _ _ _ _ _ X1]; rfl
       clear hL x1 x2 x3 hb c2 X1)
    | (refine wpList_store_rowC rfl 73 _ _ rfl (w.heap.size + 1) #[.slice (some ⟨g0, 0, none⟩) r.rs.length cap0, .int .i64 r.h.t.kind, .int .i64 r.h.t.a, .int .i64 r.h.t.t0, .int .i64 r.h.t.t1] rfl rfl 73 _ HZ1.out (by kernel_rfl) rfl (by simp [Value.oneCell']) ?_
       intro W9 c3 X3
       have HL9_0 := Lib.hid (HL1_0.out.chg LentR_law c3 (fun k hk => by simp; omega))
       have HX9 := Lib.hid (HX1.out.trans (c3.below (B := w.heap.size) HX1.out.size (fun k hk => by omega)))
       have j0 : W9.cell? ⟨w.heap.size + 1, 0, none⟩ = some (.slice (some ⟨g0, 0, none⟩) r.rs.length cap0) := by rw [cell_of_row _ _ _ _ _ _ X3]; rfl
       have j1 : W9.cell? ⟨w.heap.size + 1, 1, none⟩ = some (.int .i64 r.h.t.kind) := by rw [cell_of_row _ _ _ _ _ _ X3]; rfl
       have j2 : W9.cell? ⟨w.heap.size + 1, 2, none⟩ = some (.int .i64 r.h.t.a) := by rw [cell_of_row _ _ _ _ _ _ X3]; rfl
       have j3 : W9.cell? ⟨w.heap.size + 1, 3, none⟩ = some (.int .i64 r.h.t.t0) := by rw [cell_of_row _ _ _ _ _ _ X3]; rfl
       have j4 : W9.cell? ⟨w.heap.size + 1, 4, none⟩ = some (.int .i64 r.h.t.t1) := by rw [cell_of_row _ _ _ _ _ _ X3]; rfl
       clear c3 X3))
  refine bodyPost_ret (v := .agg #[.slice (some ⟨g0, 0, none⟩) r.rs.length cap0, .int .i64 r.h.t.kind, .int .i64 r.h.t.a, .int .i64 r.h.t.t0, .int .i64 r.h.t.t1]) (by simp [results, Tryz.results113, go_sem, j0, j1, j2, j3, j4]) rfl ⟨⟨⟨some ⟨g0, 0, none⟩, r.rs.length, cap0, r.h.t⟩, rs0⟩, rfl, ?_, HX9.out⟩
  exact ⟨rfl, H.out.2.1.1, HL9_0.out.mono LentR_law (by simp; omega)⟩
theorem sameBlock_any (r s : BlkR) (w : World) (hd : SDBlk r s) (hr : BlkROK w r) (hs : BlkROK w s) (hna : BlkNA s) :
    Calls Tryz.prog 120 #[blkVR r, blkVR s] w fun e w' => e = .returned (.bool true) ∧ Below w.heap.size w w' := by
  obtain ⟨⟨ria, rn, rc, rt⟩, rrs⟩ := r
  obtain ⟨h1, h2, h3⟩ := hd
  obtain rfl : rt = s.h.t := h1
  obtain rfl : rn = s.h.n := h2
  have HR := Lib.hid hr
  have HS := Lib.hid hs
  have HSD : Hid (SameEs SDIns rrs s.rs) := h3
  have HNA := Lib.hid hna.2
  clear hr hs hna h3
  obtain ⟨W0, HW0, hR, hS, hW0⟩ := boxes2 w (.cells #[.slice ria s.h.n rc, .int .i64 s.h.t.kind, .int .i64 s.h.t.a, .int .i64 s.h.t.t0, .int .i64 s.h.t.t1] 73) (.cells #[.slice s.h.ia s.h.n s.h.c, .int .i64 s.h.t.kind, .int .i64 s.h.t.a, .int .i64 s.h.t.t0, .int .i64 s.h.t.t1] 73)
  have x0 : ∀ w', Below W0.heap.size W0 w' → w'.cell? ⟨w.heap.size, 0, none⟩ = some (.slice ria s.h.n rc) := fun w' hb => by rw [cell_of_row _ _ _ _ _ _ (block_ext hb hR)]; rfl
  have x1 : ∀ w', Below W0.heap.size W0 w' → w'.cell? ⟨w.heap.size, 1, none⟩ = some (.int .i64 s.h.t.kind) := fun w' hb => by rw [cell_of_row _ _ _ _ _ _ (block_ext hb hR)]; rfl
  have x2 : ∀ w', Below W0.heap.size W0 w' → w'.cell? ⟨w.heap.size, 2, none⟩ = some (.int .i64 s.h.t.a) := fun w' hb => by rw [cell_of_row _ _ _ _ _ _ (block_ext hb hR)]; rfl
  have x3 : ∀ w', Below W0.heap.size W0 w' → w'.cell? ⟨w.heap.size, 3, none⟩ = some (.int .i64 s.h.t.t0) := fun w' hb => by rw [cell_of_row _ _ _ _ _ _ (block_ext hb hR)]; rfl
  have x4 : ∀ w', Below W0.heap.size W0 w' → w'.cell? ⟨w.heap.size, 4, none⟩ = some (.int .i64 s.h.t.t1) := fun w' hb => by rw [cell_of_row _ _ _ _ _ _ (block_ext hb hR)]; rfl
  have y0 : ∀ w', Below W0.heap.size W0 w' → w'.cell? ⟨w.heap.size + 1, 0, none⟩ = some (.slice s.h.ia s.h.n s.h.c) := fun w' hb => by rw [cell_of_row _ _ _ _ _ _ (block_ext hb hS)]; rfl
  have y1 : ∀ w', Below W0.heap.size W0 w' → w'.cell? ⟨w.heap.size + 1, 1, none⟩ = some (.int .i64 s.h.t.kind) := fun w' hb => by rw [cell_of_row _ _ _ _ _ _ (block_ext hb hS)]; rfl
  have y2 : ∀ w', Below W0.heap.size W0 w' → w'.cell? ⟨w.heap.size + 1, 2, none⟩ = some (.int .i64 s.h.t.a) := fun w' hb => by rw [cell_of_row _ _ _ _ _ _ (block_ext hb hS)]; rfl
  have y3 : ∀ w', Below W0.heap.size W0 w' → w'.cell? ⟨w.heap.size + 1, 3, none⟩ = some (.int .i64 s.h.t.t0) := fun w' hb => by rw [cell_of_row _ _ _ _ _ _ (block_ext hb hS)]; rfl
  have y4 : ∀ w', Below W0.heap.size W0 w' → w'.cell? ⟨w.heap.size + 1, 4, none⟩ = some (.int .i64 s.h.t.t1) := fun w' hb => by rw [cell_of_row _ _ _ _ _ _ (block_ext hb hS)]; rfl
  have E0 : Below W0.heap.size W0 W0 := Below.refl _ _
  have hq := eql_term
  clear hR hS
  go_enter Tryz.func120, Tryz.ntmps120
  go_wp2_with (first
    | (go_at_call 172
       refine (sameRow_any ria s.h.ia s.h.n rc s.h.c rrs s.rs W0 ((HR.out.2.ext HW0.out).ext E0) ((HS.out.2.ext HW0.out).ext E0) HSD.out HNA.out).mono ?_
       rintro e w1 ⟨rfl, hb1⟩
       have E1 : Below W0.heap.size W0 w1 := ext_trans E0 hb1))
  go_ret
  exact ⟨rfl, ext_trans HW0.out E1⟩
theorem keptBlock_any (r s : BlkR) (base : Nat) (w : World) (h : LentB w base s r) (hs : BlkROK w s) (hn : BlkNA s) :
    Calls Tryz.prog 119 #[blkVR r, blkVR s] w fun e w' => e = .returned (.bool true) ∧ Below w.heap.size w w' := by
  obtain ⟨⟨ria, rn, rc, rt⟩, rrs⟩ := r
  obtain ⟨g, cap, e⟩ := h.2.2.form
  injection e with e1 e2 e3
  obtain rfl : ria = some ⟨g, 0, none⟩ := e1
  obtain rfl : rc = cap := e3
  obtain rfl : rn = s.h.n := h.2.1
  clear e2
  have HR := Lib.hid (h.ok hs hn)
  have HS := Lib.hid hs
  have HH := Lib.hid h
  have HN := Lib.hid hn
  have HD := Lib.hid h.sd
  clear hs h hn
  obtain ⟨W0, HW0, hR, hS, hW0⟩ := boxes2 w (.cells #[.slice (some ⟨g, 0, none⟩) s.h.n rc, .int .i64 rt.kind, .int .i64 rt.a, .int .i64 rt.t0, .int .i64 rt.t1] 73) (.cells #[.slice s.h.ia s.h.n s.h.c, .int .i64 s.h.t.kind, .int .i64 s.h.t.a, .int .i64 s.h.t.t0, .int .i64 s.h.t.t1] 73)
  have x0 : ∀ w', Below W0.heap.size W0 w' → w'.cell? ⟨w.heap.size, 0, none⟩ = some (.slice (some ⟨g, 0, none⟩) s.h.n rc) := fun w' hb => by rw [cell_of_row _ _ _ _ _ _ (block_ext hb hR)]; rfl
  have x1 : ∀ w', Below W0.heap.size W0 w' → w'.cell? ⟨w.heap.size, 1, none⟩ = some (.int .i64 rt.kind) := fun w' hb => by rw [cell_of_row _ _ _ _ _ _ (block_ext hb hR)]; rfl
  have x2 : ∀ w', Below W0.heap.size W0 w' → w'.cell? ⟨w.heap.size, 2, none⟩ = some (.int .i64 rt.a) := fun w' hb => by rw [cell_of_row _ _ _ _ _ _ (block_ext hb hR)]; rfl
  have x3 : ∀ w', Below W0.heap.size W0 w' → w'.cell? ⟨w.heap.size, 3, none⟩ = some (.int .i64 rt.t0) := fun w' hb => by rw [cell_of_row _ _ _ _ _ _ (block_ext hb hR)]; rfl
  have x4 : ∀ w', Below W0.heap.size W0 w' → w'.cell? ⟨w.heap.size, 4, none⟩ = some (.int .i64 rt.t1) := fun w' hb => by rw [cell_of_row _ _ _ _ _ _ (block_ext hb hR)]; rfl
  have y0 : ∀ w', Below W0.heap.size W0 w' → w'.cell? ⟨w.heap.size + 1, 0, none⟩ = some (.slice s.h.ia s.h.n s.h.c) := fun w' hb => by rw [cell_of_row _ _ _ _ _ _ (block_ext hb hS)]; rfl
  have y1 : ∀ w', Below W0.heap.size W0 w' → w'.cell? ⟨w.heap.size + 1, 1, none⟩ = some (.int .i64 s.h.t.kind) := fun w' hb => by rw [cell_of_row _ _ _ _ _ _ (block_ext hb hS)]; rfl
  have y2 : ∀ w', Below W0.heap.size W0 w' → w'.cell? ⟨w.heap.size + 1, 2, none⟩ = some (.int .i64 s.h.t.a) := fun w' hb => by rw [cell_of_row _ _ _ _ _ _ (block_ext hb hS)]; rfl
  have y3 : ∀ w', Below W0.heap.size W0 w' → w'.cell? ⟨w.heap.size + 1, 3, none⟩ = some (.int .i64 s.h.t.t0) := fun w' hb => by rw [cell_of_row _ _ _ _ _ _ (block_ext hb hS)]; rfl
  have y4 : ∀ w', Below W0.heap.size W0 w' → w'.cell? ⟨w.heap.size + 1, 4, none⟩ = some (.int .i64 s.h.t.t1) := fun w' hb => by rw [cell_of_row _ _ _ _ _ _ (block_ext hb hS)]; rfl
  have E0 : Below W0.heap.size W0 W0 := Below.refl _ _
  clear hR hS
  go_enter Tryz.func119, Tryz.ntmps119
  go_wp2_with (first
    | (go_at_call 171
       refine (keptRow_any base _ _ s.h.ia s.h.n s.h.c s.rs rrs w1 (LentB_law.ext (LentB_law.ext HH.out HW0.out) E1).2.2 ((HS.out.ext HW0.out).ext E1).2 HN.out.1 HN.out.2).mono ?_
       rintro e w2 ⟨rfl, hb2⟩
       have E2 : Below W0.heap.size W0 w2 := ext_trans E1 hb2)
    | (go_at_call 120
       refine (sameBlock_any ⟨⟨some ⟨g, 0, none⟩, s.h.n, rc, rt⟩, rrs⟩ s W0 HD.out (HR.out.ext HW0.out) (HS.out.ext HW0.out) HN.out).mono ?_
       rintro e w1 ⟨rfl, E1⟩))
  go_ret
  exact ⟨rfl, ext_trans HW0.out E2⟩
theorem markBlock_any (i : Nat) (w : World) (hi : i ≤ 100000) :
    Calls Tryz.prog 114 #[.int .i64 1, .int .i64 (i : Int)] w fun e w' => e = .returned (blkVR (markB i)) ∧ Below w.heap.size w w' := by
  go_enter Tryz.func114, Tryz.ntmps114
  go_wp2_with (first
    | (go_at_call 112; refine (mark_any _ _ _ (by omega) (by omega)).mono ?_; rintro e w' ⟨rfl, rfl⟩)
    | (refine wpList_store_rowB rfl 73 _ _ rfl w.heap.size #[.slice none 0 0, .int .i64 0, .int .i64 (markV 1 (i : Int)), .int .i64 0, .int .i64 0] rfl rfl 73 _ (heap_alloc_new w _) (by kernel_rfl) rfl (by simp [Value.oneCell']) w.heap.size w (ext_alloc w _) (Nat.le_refl _) ?_
       intro W3 hb3 X3
       have HX := Lib.hid hb3
       have j0 : W3.cell? ⟨w.heap.size, 0, none⟩ = some (.slice none 0 0) := by rw [cell_of_row _ _ _ _ _ _ X3]; rfl
       have j1 : W3.cell? ⟨w.heap.size, 1, none⟩ = some (.int .i64 0) := by rw [cell_of_row _ _ _ _ _ _ X3]; rfl
       have j2 : W3.cell? ⟨w.heap.size, 2, none⟩ = some (.int .i64 (markV 1 (i : Int))) := by rw [cell_of_row _ _ _ _ _ _ X3]; rfl
       have j3 : W3.cell? ⟨w.heap.size, 3, none⟩ = some (.int .i64 0) := by rw [cell_of_row _ _ _ _ _ _ X3]; rfl
       have j4 : W3.cell? ⟨w.heap.size, 4, none⟩ = some (.int .i64 0) := by rw [cell_of_row _ _ _ _ _ _ X3]; rfl
       clear hb3 X3))
  refine bodyPost_ret (v := blkVR (markB i)) (by simp [results, Tryz.results114, go_sem, j0, j1, j2, j3, j4, markB]) rfl ⟨rfl, HX.out⟩
theorem BlksR.cells {w : World} {a : Option Addr} {n : Nat} {rs : List BlkR} (h : BlksR w a n rs) {k : Nat} (hk : k < n) : ∃ r b o, rs[k]? = some r ∧ BlkROK w r ∧ a = some ⟨b, o, none⟩ ∧ w.cell? ⟨b, o + k * 5, none⟩ = some (.slice r.h.ia r.h.n r.h.c) ∧ w.cell? ⟨b, o + k * 5 + 1, none⟩ = some (.int .i64 r.h.t.kind) ∧ w.cell? ⟨b, o + k * 5 + 2, none⟩ = some (.int .i64 r.h.t.a) ∧ w.cell? ⟨b, o + k * 5 + 3, none⟩ = some (.int .i64 r.h.t.t0) ∧ w.cell? ⟨b, o + k * 5 + 4, none⟩ = some (.int .i64 r.h.t.t1) := by
  have hk' : k < rs.length := by rw [h.1.1]; exact hk
  obtain ⟨b, o, e, hc⟩ := h.1.2.2 k rs[k] (List.getElem?_eq_getElem hk')
  exact ⟨rs[k], b, o, List.getElem?_eq_getElem hk', h.2 _ (List.getElem_mem hk'), e, hc 0 (by omega), hc 1 (by omega), hc 2 (by omega), hc 3 (by omega), hc 4 (by omega)⟩
abbrev LentBlocks (w : World) (base : Nat) (v : Value) (rs rs' : List BlkR) : Prop := LentL blkC' 5 73 LentB markB w base v rs rs'
def LentBlocksPost (w : World) (rs : List BlkR) (e : Ending) (w' : World) : Prop := ∃ v rs', e = .returned v ∧ LentBlocks w' w.heap.size v rs rs' ∧ Below w.heap.size w w'
theorem LentBlocks.okS {w : World} {base : Nat} {g n cap : Nat} {rs rs' : List BlkR} {a : Option Addr} (h : LentBlocks w base (.slice (some ⟨g, 0, none⟩) n cap) rs rs') (hs : BlksR w a n rs) (hn : n ≤ 1000000) (hna : ∀ r ∈ rs, BlkNA r) :
    BlksR w (some ⟨g, 0, none⟩) (n + 12) (rs' ++ markL markB) ∧ BlksR w (some ⟨g, 0, none⟩) n rs' ∧ rs'.length = n ∧ n + 12 ≤ cap ∧ cap ≤ maxLen ∧ LentEs LentB w base rs rs' := by
  obtain ⟨h1, h2, h3, h4, h5, h6⟩ := h.recs blkC'_len (by omega) hn
  have ho : ∀ r ∈ rs', BlkROK w r := fun r hm => by
    obtain ⟨k, hk, e⟩ := List.mem_iff_getElem.1 hm
    have hk2 : k < rs.length := by rw [← h6.1]; exact hk
    exact (h6.2 k rs[k] r (List.getElem?_eq_getElem hk2) (by rw [List.getElem?_eq_getElem hk, e])).ok (hs.2 _ (List.getElem_mem hk2)) (hna _ (List.getElem_mem hk2))
  refine ⟨⟨h1, fun r hm => ?_⟩, ⟨h.recsN blkC'_len (by omega) hn, ho⟩, h3, h4, h5, h6⟩
  rcases List.mem_append.1 hm with hm | hm
  · exact ho r hm
  · exact markL_all (OK := fun r => BlkROK w r) (fun j hj => markB_ok w j hj) r hm
theorem lentBlocks_any (a : Option Addr) (n c : Nat) (rs : List BlkR) (w : World) (h : BlksR w a n rs) (hn : n ≤ 1000000) (hna : ∀ r ∈ rs, BlkNA r) :
    Calls Tryz.prog 53 #[.slice a n c] w (LentBlocksPost w rs) := by
  obtain ⟨i0, hi, hz0, hz1, hz2⟩ := info_parts (P := Tryz.prog) info_Block
  have HL := Lib.hid h.1.1
  have H := Lib.hid h
  have HNA := Lib.hid hna
  clear h hna
  go_enter Tryz.func53, Tryz.ntmps53
  go_wp2_with (first
    | (at_make
       refine wpList_make_own _ rfl _ _ 23 rfl w.heap.size 73 i0 _ 5 Tryz.underlying23 hi hz0 hz1 .i64 .i64 _ (n + 12) rfl rfl (by omega) (by rw [hz2]; omega) (by simp only [maxLen]; omega) (Nat.le_refl _) ?_
       intro w1 hown1 hg1
       have HO1 := Lib.hid hown1
       have HB1 : Hid (Below w.heap.size w w1) := (Below.refl _ _).grown hg1 (Nat.le_refl _) (by simp)
       clear hown1 hg1))
  go_loopw [3, 4, 5] (fun v i _ wr => ∃ (k : Nat) (rs' : List BlkR), k ≤ n ∧ i = .int .i64 k ∧ Hid (wr.ownsRow w.heap.size 73 5 v k (rs'.flatMap blkC')) ∧ Hid (LentEs LentB wr w.heap.size (rs.take k) rs') ∧ Hid (Below w.heap.size w wr)) (fun _ i _ _ => n - (intOf i).toNat)
  case atStart => exact ⟨0, [], by omega, rfl, HO1, LentEs.nil _ _, HB1⟩
  case round =>
    obtain ⟨k, rs', hk, rfl, HO, HLR, HB⟩ := hrel
    by_cases hlt : k < n
    · obtain ⟨r, b, o, hr, hok, rfl, y0, y1, y2, y3, y4⟩ := (H.out.ext HB.out).cells hlt
      have HG := Lib.hid hr
      have HOK := Lib.hid hok
      have HTK : Hid (rs.take (k + 1) = rs.take k ++ [r]) := by rw [Hid, List.take_add_one, hr]; rfl
      have HNr := Lib.hid (HNA.out r (List.mem_of_getElem? hr))
      clear hr hok
      go_wp2_with (first
        | (go_at_call 113
           refine (lentBlock_any r wr HOK.out HNr.out).mono ?_
           rintro e w1 ⟨r', rfl, hL, hb⟩
           have HLr := Lib.hid hL
           have HB1 := Lib.hid hb
           clear hL hb y0 y1 y2 y3 y4)
        | (refine wpList_store_rowB rfl 73 _ _ rfl w1.heap.size #[.slice r'.h.ia r'.h.n r'.h.c, .int .i64 r'.h.t.kind, .int .i64 r'.h.t.a, .int .i64 r'.h.t.t0, .int .i64 r'.h.t.t1] rfl rfl 73 _ (heap_alloc_new w1 _) (by kernel_rfl) rfl (by simp [Value.oneCell']) w1.heap.size w1 (ext_alloc w1 _) (Nat.le_refl _) ?_
           intro W3 hb3 X3
           have HB3 := Lib.hid (ext_trans HB1.out hb3)
           have HLr3 := Lib.hid (LentB_law.ext (LentB_law.mono HB.out.size HLr.out) hb3)
           have i0 : W3.cell? ⟨w1.heap.size, 0, none⟩ = some (.slice r'.h.ia r'.h.n r'.h.c) := by rw [cell_of_row _ _ _ _ _ _ X3]; rfl
           have i1 : W3.cell? ⟨w1.heap.size, 1, none⟩ = some (.int .i64 r'.h.t.kind) := by rw [cell_of_row _ _ _ _ _ _ X3]; rfl
           have i2 : W3.cell? ⟨w1.heap.size, 2, none⟩ = some (.int .i64 r'.h.t.a) := by rw [cell_of_row _ _ _ _ _ _ X3]; rfl
           have i3 : W3.cell? ⟨w1.heap.size, 3, none⟩ = some (.int .i64 r'.h.t.t0) := by rw [cell_of_row _ _ _ _ _ _ X3]; rfl
           have i4 : W3.cell? ⟨w1.heap.size, 4, none⟩ = some (.int .i64 r'.h.t.t1) := by rw [cell_of_row _ _ _ _ _ _ X3]; rfl
           clear hb3 X3)
        | (at_builtin
           go_loud (
             have HO1 := Lib.hid ((Steady.ownsRow wr.heap.size _ _ _ _ _ _).ext HO.out HB3.out)
             refine wpList_append1 rfl W3 (.tmp 22) (.tmp 24) 23 73 rfl w.heap.size _ 5 56 Tryz.underlying23 info_Block rfl (by omega) u3 k _ (blkC' r') rfl HO1.out W3.heap.size rfl rfl rfl (Block_one r') (by simp only [maxLen]; omega) (by omega) (ext_trans HB.out HB3.out).size ?_
             intro g cap w4 hown4 hg4 hat4
             have HO4 : Hid (w4.ownsRow w.heap.size 73 5 (.slice (some ⟨g, 0, none⟩) (k + 1) cap) (k + 1) ((rs' ++ [r']).flatMap blkC')) := by rw [Hid, List.flatMap_append]; simpa using hown4
             have HB4 : Hid (Below w.heap.size w w4) := (ext_trans HB.out HB3.out).grown hg4 (ext_trans HB.out HB3.out).size (fun j e => (HO1.out.lt j e).1)
             have HL4 : Hid (LentEs LentB w4 w.heap.size (rs.take (k + 1)) (rs' ++ [r'])) := by
               rw [Hid, HTK.out]
               exact ((HLR.out.ext LentB_law HB3.out).snoc HLr3.out).grown LentB_law (by decide) HO1.out hg4
             clear hown4 hg4 hat4 i0 i1 i2 i3 i4)))
      go_roundw
      case rel => exact ⟨k + 1, rs' ++ [r'], by omega, by go_num, HO4, HL4, HB4⟩
      case measure => simp [intOf]; omega
    · obtain rfl : k = n := by omega
      have HLR1 : Hid (LentEs LentB wr w.heap.size rs rs') := by
        have := HLR.out
        rw [List.take_of_length_le (by rw [HL.out]; omega)] at this
        exact this
      have HO1 : Hid (wr.ownsRow w.heap.size 73 5 u3 (k + 0) ((rs' ++ (markL markB).take 0).flatMap blkC')) := by rw [Hid]; simpa using HO.out
      clear HLR HO
      go_wp2
      go_loopw [3, 6] (fun v i wr => ∃ (j : Nat), j ≤ 12 ∧ i = .int .i64 j ∧ Hid (wr.ownsRow w.heap.size 73 5 v (k + j) ((rs' ++ (markL markB).take j).flatMap blkC')) ∧ Hid (LentEs LentB wr w.heap.size rs rs') ∧ Hid (Below w.heap.size w wr)) (fun _ i _ => 12 - (intOf i).toNat)
      case atStart => exact ⟨0, by omega, rfl, HO1, HLR1, HB⟩
      case round =>
        clear HO1 HLR1 HB
        obtain ⟨j, hj, rfl, HO, HLR, HB⟩ := hrel
        by_cases hlt : j < 12
        · go_wp2_with (first
            | (go_at_call 114; refine (markBlock_any j _ (by omega)).mono ?_; rintro e w1 ⟨rfl, hb1⟩; have HB1 := Lib.hid hb1; clear hb1)
            | (at_builtin
               go_loud (
                 have HO1 := Lib.hid ((Steady.ownsRow wr.heap.size _ _ _ _ _ _).ext HO.out HB1.out)
                 refine wpList_append1 rfl w1 (.tmp 30) (.tmp 33) 23 73 rfl w.heap.size _ 5 56 Tryz.underlying23 info_Block rfl (by omega) u3 (k + j) _ (blkC' (markB j)) rfl HO1.out w1.heap.size rfl rfl rfl (Block_one _) (by simp only [maxLen]; omega) (by omega) (ext_trans HB.out HB1.out).size ?_
                 intro g cap w4 hown4 hg4 hat4
                 have HO4 : Hid (w4.ownsRow w.heap.size 73 5 (.slice (some ⟨g, 0, none⟩) (k + j + 1) cap) (k + j + 1) ((rs' ++ (markL markB).take (j + 1)).flatMap blkC')) := by rw [Hid, markL_take markB j hlt, ← List.append_assoc, List.flatMap_append]; simpa using hown4
                 have HB4 : Hid (Below w.heap.size w w4) := (ext_trans HB.out HB1.out).grown hg4 (ext_trans HB.out HB1.out).size (fun j e => (HO1.out.lt j e).1)
                 have HL4 : Hid (LentEs LentB w4 w.heap.size rs rs') := (HLR.out.ext LentB_law HB1.out).grown LentB_law (by decide) HO1.out hg4
                 clear hown4 hg4 hat4)))
          go_roundw
          case rel => exact ⟨j + 1, by omega, by go_num, HO4, HL4, HB4⟩
          case measure => simp [intOf]; omega
        · obtain rfl : j = 12 := by omega
          have hown := HO.out
          have hform : ∃ g cap, u3 = .slice (some ⟨g, 0, none⟩) (k + 12) cap ∧ k + 12 ≤ cap ∧ cap ≤ maxLen := by
            rcases hown.2 with ⟨_, h0⟩ | ⟨g', cap', cur, hv, _, _, h1, h2, _⟩
            · omega
            · exact ⟨_, _, hv, h1, h2⟩
          obtain ⟨g, cap, rfl, hc1, hc2⟩ := hform
          clear hown
          unfold maxLen at hc2
          go_wp2
          go_ret
          refine ⟨_, rs', rfl, ⟨g, cap, by rw [HL.out]; rfl, ?_, HLR.out⟩, HB.out⟩
          have := HO.out
          rw [HL.out]
          rw [List.take_of_length_le (by rw [markL_len]; omega)] at this
          exact this
theorem sameBlocks_any (a b : Option Addr) (n c d : Nat) (rs ss : List BlkR) (w : World) (hr : BlksR w a n rs) (hs : BlksR w b n ss) (h : SameEs SDBlk rs ss) (hna : ∀ r ∈ ss, BlkNA r) :
    Calls Tryz.prog 118 #[.slice a n c, .slice b n d] w fun e w' => e = .returned (.bool true) ∧ Below w.heap.size w w' := by
  have HR := Lib.hid hr
  have HS := Lib.hid hs
  have HH := Lib.hid h
  have HNA := Lib.hid hna
  have hn := hr.1.2.1
  clear hr hs h hna
  have hne : ((n : Int) != (n : Int)) = false := by simp
  go_enter Tryz.func118, Tryz.ntmps118
  go_wp2
  go_loopw [5] (fun i wr => ∃ (k : Nat), k ≤ n ∧ i = .int .i64 k ∧ Hid (Below w.heap.size w wr)) (fun i _ => n - (intOf i).toNat)
  case atStart => exact ⟨0, by omega, rfl, Below.refl _ _⟩
  case round =>
    obtain ⟨k, hk, rfl, HB⟩ := hrel
    by_cases hlt : k < n
    · obtain ⟨r, b1, o1, hr, hokr, rfl, y0, y1, y2, y3, y4⟩ := (HR.out.ext HB.out).cells hlt
      obtain ⟨s, b2, o2, hs, hoks, rfl, z0, z1, z2, z3, z4⟩ := (HS.out.ext HB.out).cells hlt
      have HD := Lib.hid (HH.out.2 k r s hr hs)
      have HNs := Lib.hid (HNA.out s (List.mem_of_getElem? hs))
      have HOr := Lib.hid hokr
      have HOs := Lib.hid hoks
      have hk0 : (0 : Int) ≤ (k : Int) := by omega
      have hk1 : (k : Int) < (n : Int) := by omega
      have kx0 : ∀ n : ExtW wr, n.val.cell? ⟨b1, o1 + k * 5, none⟩ = some (.slice r.h.ia r.h.n r.h.c) := fun n => cell_ext n.ext y0
      have kx1 : ∀ n : ExtW wr, n.val.cell? ⟨b1, o1 + k * 5 + 1, none⟩ = some (.int .i64 r.h.t.kind) := fun n => cell_ext n.ext y1
      have kx2 : ∀ n : ExtW wr, n.val.cell? ⟨b1, o1 + k * 5 + 2, none⟩ = some (.int .i64 r.h.t.a) := fun n => cell_ext n.ext y2
      have kx3 : ∀ n : ExtW wr, n.val.cell? ⟨b1, o1 + k * 5 + 3, none⟩ = some (.int .i64 r.h.t.t0) := fun n => cell_ext n.ext y3
      have kx4 : ∀ n : ExtW wr, n.val.cell? ⟨b1, o1 + k * 5 + 4, none⟩ = some (.int .i64 r.h.t.t1) := fun n => cell_ext n.ext y4
      have ky0 : ∀ n : ExtW wr, n.val.cell? ⟨b2, o2 + k * 5, none⟩ = some (.slice s.h.ia s.h.n s.h.c) := fun n => cell_ext n.ext z0
      have ky1 : ∀ n : ExtW wr, n.val.cell? ⟨b2, o2 + k * 5 + 1, none⟩ = some (.int .i64 s.h.t.kind) := fun n => cell_ext n.ext z1
      have ky2 : ∀ n : ExtW wr, n.val.cell? ⟨b2, o2 + k * 5 + 2, none⟩ = some (.int .i64 s.h.t.a) := fun n => cell_ext n.ext z2
      have ky3 : ∀ n : ExtW wr, n.val.cell? ⟨b2, o2 + k * 5 + 3, none⟩ = some (.int .i64 s.h.t.t0) := fun n => cell_ext n.ext z3
      have ky4 : ∀ n : ExtW wr, n.val.cell? ⟨b2, o2 + k * 5 + 4, none⟩ = some (.int .i64 s.h.t.t1) := fun n => cell_ext n.ext z4
      have HNE : Nonempty (ExtW wr) := ⟨⟨wr, Below.refl _ _⟩⟩
      clear hr hs hokr hoks y0 y1 y2 y3 y4 z0 z1 z2 z3 z4
      go_wp2
      refine region_ext (by kernel_rfl) (by kernel_rfl) ?_
      repeat (first
        | go_big_quiet_skip
        | go_big_quiet_step (first
          | (go_at_call 120; exact quiet_ext (sameBlock_any r s _ HD.out (BlkROK.ext HOr.out (ExtW.ext _)) (BlkROK.ext HOs.out (ExtW.ext _)) HNs.out))))
      refine wpQuiet_nil ?_
      rintro _ ⟨mm, rfl⟩
      have HM := Lib.hid (ext_trans HB.out mm.ext)
      generalize mm.val = W8 at *
      clear kx0 kx1 kx2 kx3 kx4 ky0 ky1 ky2 ky3 ky4
      go_wp2
      go_roundw
      case rel => exact ⟨k + 1, by omega, by go_num, HM⟩
      case measure => simp [intOf]; omega
    · go_wp2
      go_ret
      exact ⟨rfl, HB.out⟩
theorem keptBlocks_any (base g cap : Nat) (a : Option Addr) (n c : Nat) (rs rs' : List BlkR) (w : World) (h : LentBlocks w base (.slice (some ⟨g, 0, none⟩) n cap) rs rs') (hs : BlksR w a n rs) (hn : n ≤ 1000000) (hna : ∀ r ∈ rs, BlkNA r) :
    Calls Tryz.prog 64 #[.slice (some ⟨g, 0, none⟩) n cap, .slice a n c] w fun e w' => e = .returned (.bool true) ∧ Below w.heap.size w w' := by
  obtain ⟨h1, _, hlen, hc1, hc2, hl⟩ := h.okS hs hn hna
  have HA := Lib.hid h1
  have HS := Lib.hid hs
  have HL := Lib.hid hl
  have HLen := Lib.hid hlen
  have HNA := Lib.hid hna
  clear h hs h1 hl hlen hna
  unfold maxLen at hc2
  have hne : ((n : Int) != (n : Int)) = false := by simp
  go_enter Tryz.func64, Tryz.ntmps64
  go_wp2
  go_loopw [6] (fun i wr => ∃ (k : Nat), k ≤ n + 12 ∧ i = .int .i64 k ∧ Hid (Below w.heap.size w wr)) (fun i _ => n + 12 - (intOf i).toNat)
  case atStart => exact ⟨0, by omega, rfl, Below.refl _ _⟩
  case round =>
    obtain ⟨k, hk, rfl, HB⟩ := hrel
    by_cases hlt : k < n + 12
    · obtain ⟨r, b1, o1, hr, hokr, hab, y0, y1, y2, y3, y4⟩ := (HA.out.ext HB.out).cells hlt
      injection hab with hab
      injection hab with hab1 hab2 _
      subst hab1
      subst hab2
      have HOr := Lib.hid hokr
      rw [Nat.zero_add] at y0 y1 y2 y3 y4
      have kx0 : ∀ n : ExtW wr, n.val.cell? ⟨g, k * 5, none⟩ = some (.slice r.h.ia r.h.n r.h.c) := fun n => cell_ext n.ext y0
      have kx1 : ∀ n : ExtW wr, n.val.cell? ⟨g, k * 5 + 1, none⟩ = some (.int .i64 r.h.t.kind) := fun n => cell_ext n.ext y1
      have kx2 : ∀ n : ExtW wr, n.val.cell? ⟨g, k * 5 + 2, none⟩ = some (.int .i64 r.h.t.a) := fun n => cell_ext n.ext y2
      have kx3 : ∀ n : ExtW wr, n.val.cell? ⟨g, k * 5 + 3, none⟩ = some (.int .i64 r.h.t.t0) := fun n => cell_ext n.ext y3
      have kx4 : ∀ n : ExtW wr, n.val.cell? ⟨g, k * 5 + 4, none⟩ = some (.int .i64 r.h.t.t1) := fun n => cell_ext n.ext y4
      have HNE : Nonempty (ExtW wr) := ⟨⟨wr, Below.refl _ _⟩⟩
      by_cases hkn : k < n
      · rw [List.getElem?_append_left (by rw [HLen.out]; exact hkn)] at hr
        obtain ⟨s, b2, o2, hs, hoks, rfl, z0, z1, z2, z3, z4⟩ := (HS.out.ext HB.out).cells hkn
        have HLk := Lib.hid (LentB_law.ext (HL.out.2 k s r hs hr) HB.out)
        have HOs := Lib.hid hoks
        have HNs := Lib.hid (HNA.out s (List.mem_of_getElem? hs))
        have ky0 : ∀ n : ExtW wr, n.val.cell? ⟨b2, o2 + k * 5, none⟩ = some (.slice s.h.ia s.h.n s.h.c) := fun n => cell_ext n.ext z0
        have ky1 : ∀ n : ExtW wr, n.val.cell? ⟨b2, o2 + k * 5 + 1, none⟩ = some (.int .i64 s.h.t.kind) := fun n => cell_ext n.ext z1
        have ky2 : ∀ n : ExtW wr, n.val.cell? ⟨b2, o2 + k * 5 + 2, none⟩ = some (.int .i64 s.h.t.a) := fun n => cell_ext n.ext z2
        have ky3 : ∀ n : ExtW wr, n.val.cell? ⟨b2, o2 + k * 5 + 3, none⟩ = some (.int .i64 s.h.t.t0) := fun n => cell_ext n.ext z3
        have ky4 : ∀ n : ExtW wr, n.val.cell? ⟨b2, o2 + k * 5 + 4, none⟩ = some (.int .i64 s.h.t.t1) := fun n => cell_ext n.ext z4
        have hk0 : (0 : Int) ≤ (k : Int) := by omega
        have hk1 : (k : Int) < (n : Int) := by omega
        have hk2 : (k : Int) < (n : Int) + 12 := by omega
        have d1 : decide ((k : Int) < (n : Int)) = true := by simpa using hkn
        have d2 : decide ((n : Int) ≤ (k : Int)) = false := by simp; omega
        have d3 : decide (k < n) = true := by simpa using hkn
        have d4 : decide (n ≤ k) = false := by simp; omega
        clear hr hs hoks hokr y0 y1 y2 y3 y4 z0 z1 z2 z3 z4 hkn
        go_wp2
        refine region_ext (by kernel_rfl) (by kernel_rfl) ?_
        repeat (go_big_quiet_step (first
          | (go_at_call 119; exact quiet_ext (keptBlock_any r s base _ (LentB_law.ext HLk.out (ExtW.ext _)) (BlkROK.ext HOs.out (ExtW.ext _)) HNs.out))))
        refine wpQuiet_nil ?_
        rintro _ ⟨mm, rfl⟩
        have HM := Lib.hid (ext_trans HB.out mm.ext)
        generalize mm.val = W8 at *
        clear kx0 kx1 kx2 kx3 kx4 ky0 ky1 ky2 ky3 ky4
        go_wp2
        go_roundw
        case rel => exact ⟨k + 1, by omega, by go_num, HM⟩
        case measure => simp [intOf]; omega
      · obtain ⟨j, rfl⟩ : ∃ j, k = n + j := ⟨k - n, by omega⟩
        have hj : j < 12 := by omega
        have hrm : r = markB j := by
          rw [List.getElem?_append_right (by rw [HLen.out]; omega), HLen.out, Nat.add_sub_cancel_left, markL_at markB j hj] at hr
          exact (Option.some.inj hr).symm
        have HRM := Lib.hid hrm
        have d1 : decide (n + j < n) = false := by simp
        have d2 : decide (n ≤ n + j) = true := by simp
        have d3 : decide ((n : Int) + (j : Int) < (n : Int)) = false := by simp; omega
        have d4 : decide ((n : Int) ≤ (n : Int) + (j : Int)) = true := by simp; omega
        have d5 : IntKind.i64.wrap ((n : Int) + (j : Int) - (n : Int)) = (j : Int) := by rw [IntKind.wrap_i64]; omega
        have hk0 : (0 : Int) ≤ (n : Int) + (j : Int) := by omega
        have hk2 : (n : Int) + (j : Int) < (n : Int) + 12 := by omega
        clear hr hrm hokr y0 y1 y2 y3 y4 hkn
        go_wp2
        refine region_ext (by kernel_rfl) (by kernel_rfl) ?_
        repeat (go_big_quiet_step (first
          | (go_at_call 114; exact quiet_ext (markBlock_any j _ (by omega)))
          | (go_at_call 120; exact quiet_ext (sameBlock_any r (markB j) _ (by rw [HRM.out]; exact SDBlk_refl _) (BlkROK.ext HOr.out (ExtW.ext _)) (markB_ok _ j hj) (markB_na j)))))
        refine wpQuiet_nil ?_
        rintro _ ⟨mm, rfl⟩
        have HM := Lib.hid (ext_trans HB.out mm.ext)
        generalize mm.val = W8 at *
        clear kx0 kx1 kx2 kx3 kx4
        go_wp2
        go_roundw
        case rel => exact ⟨n + j + 1, by omega, by go_num, HM⟩
        case measure => simp [intOf]; omega
    · go_wp2
      go_ret
      exact ⟨rfl, HB.out⟩
end
end Go.Proofs.YtblhmdhfhaencaaGreat
