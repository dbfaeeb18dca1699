/-
 Tiles that are alike: SameTile, SameTiles.
-/
import Derived.Test.YtblhmdhfhaencaaQA
import Derived.Test.YtblhmdhfhaencaaTL
import Derived.Test.YtblhmdhfhaencaaVP
import Derived.Test.YtblhmdhfhaencaaVB
import Derived.Test.YtblhmdhfhaencaaQR
import Derived.Test.YtblhmdhfhaencaaTX
namespace Go.Proofs.Ytblhmdhfhaencaa
set_option linter.unusedSimpArgs false
set_option linter.unusedVariables false
set_option linter.unusedSectionVars false
set_option maxRecDepth 100000
set_option maxHeartbeats 40000000
section
open Go.RowKit

def TileNA (t : TileR) : Prop := t.bn ≤ 1000000
abbrev TileOK (w : World) (t : TileR) : Prop := Ints w t.ba t.bn t.d.blocks ∧ t.bn ≤ t.bc ∧ I64 t.d.kind ∧ I64 t.d.parent
theorem TileOK.ext {w w' : World} {t : TileR} (h : TileOK w t) (hb : Below w.heap.size w w') : TileOK w' t := ⟨h.1.ext hb, h.2⟩
abbrev tileVR (t : TileR) : Value := .agg #[.int .i64 t.d.kind, .int .i64 t.d.parent, .slice t.ba t.bn t.bc]
def SDTile (r s : TileR) : Prop := r.d = s.d
theorem SDTile_refl (r : TileR) : SDTile r r := rfl
theorem sameTile_any (r s : TileR) (w : World) (hd : SDTile r s) (hr : TileOK w r) (hs : TileOK w s) (hna : TileNA s) :
  Calls Try.prog 78 #[tileVR r, tileVR s] w fun e w' => e = .returned (.bool true) ∧ Below w.heap.size w w' := by
 obtain ⟨dr, ra, rn, rc⟩ := r
 obtain rfl : dr = s.d := hd
 have HR := Lib.hid hr
 have HS := Lib.hid hs
 clear hr hs hna
 obtain ⟨W0, HW0, hR, hS, hW0⟩ := boxes2 w (.cells #[.int .i64 s.d.kind, .int .i64 s.d.parent, .slice ra rn rc] 53) (.cells #[.int .i64 s.d.kind, .int .i64 s.d.parent, .slice s.ba s.bn s.bc] 53)
 have x0 : ∀ w', Below W0.heap.size W0 w' → w'.cell? ⟨w.heap.size, 0, none⟩ = some (.int .i64 s.d.kind) := fun w' hb => by rw [cell_of_row _ _ _ _ _ _ (block_ext hb hR)]; rfl
 have x1 : ∀ w', Below W0.heap.size W0 w' → w'.cell? ⟨w.heap.size, 1, none⟩ = some (.int .i64 s.d.parent) := fun w' hb => by rw [cell_of_row _ _ _ _ _ _ (block_ext hb hR)]; rfl
 have x2 : ∀ w', Below W0.heap.size W0 w' → w'.cell? ⟨w.heap.size, 2, none⟩ = some (.slice ra rn rc) := fun w' hb => by rw [cell_of_row _ _ _ _ _ _ (block_ext hb hR)]; rfl
 have y0 : ∀ w', Below W0.heap.size W0 w' → w'.cell? ⟨w.heap.size + 1, 0, none⟩ = some (.int .i64 s.d.kind) := fun w' hb => by rw [cell_of_row _ _ _ _ _ _ (block_ext hb hS)]; rfl
 have y1 : ∀ w', Below W0.heap.size W0 w' → w'.cell? ⟨w.heap.size + 1, 1, none⟩ = some (.int .i64 s.d.parent) := fun w' hb => by rw [cell_of_row _ _ _ _ _ _ (block_ext hb hS)]; rfl
 have y2 : ∀ w', Below W0.heap.size W0 w' → w'.cell? ⟨w.heap.size + 1, 2, none⟩ = some (.slice s.ba s.bn s.bc) := fun w' hb => by rw [cell_of_row _ _ _ _ _ _ (block_ext hb hS)]; rfl
 have E0 : Below W0.heap.size W0 W0 := Below.refl _ _
 clear hR hS
 go_enter Try.func78, Try.ntmps78
 go_wp2_with (first
  | (go_at_call 29
     refine (sameInts_any ra s.ba rn s.bn rc s.bc s.d.blocks s.d.blocks W0 ((HR.out.1.ext HW0.out).ext E0) ((HS.out.1.ext HW0.out).ext E0)).mono ?_
     rw [decide_eq_true rfl]
     rintro e w1 ⟨rfl, q1, hq1⟩
     have E1 : Below W0.heap.size W0 w1 := by rw [hq1]; exact ext_drewN E0 q1
     clear hq1))
 go_ret
 exact ⟨rfl, ext_trans HW0.out E1⟩
theorem sameTiles_any (a b : Option Addr) (n c d : Nat) (rs ss : List TileR) (w : World) (hr : TilesOK w a n rs) (hs : TilesOK w b n ss) (h : SameEs SDTile rs ss) (hna : ∀ r ∈ ss, TileNA r) :
  Calls Try.prog 46 #[.slice a n c, .slice b n d] w fun e w' => e = .returned (.bool true) ∧ Below w.heap.size w w' := by
 have HR := Lib.hid hr
 have HS := Lib.hid hs
 have HH := Lib.hid h
 have HNA := Lib.hid hna
 have hn := hr.1.2.1
 clear hr hs h hna
 have hne : ((n : Int) != (n : Int)) = false := by simp
 go_enter Try.func46, Try.ntmps46
 go_wp2
 go_loopw [5] (fun i wr => ∃ (k : Nat), k ≤ n ∧ i = .int .i64 k ∧ Hid (Below w.heap.size w wr)) (fun i _ => n - (intOf i).toNat)
 case atStart => exact ⟨0, by omega, rfl, Below.refl _ _⟩
 case round =>
  obtain ⟨k, hk, rfl, HB⟩ := hrel
  by_cases hlt : k < n
  · obtain ⟨r, b1, o1, hr, hokr, rfl, y0, y1, y2⟩ := (HR.out.ext HB.out).cells hlt
    obtain ⟨s, b2, o2, hs, hoks, rfl, z0, z1, z2⟩ := (HS.out.ext HB.out).cells hlt
    have HD := Lib.hid (HH.out.2 k r s hr hs)
    have HNs := Lib.hid (HNA.out s (List.mem_of_getElem? hs))
    have HOr := Lib.hid hokr
    have HOs := Lib.hid hoks
    have hk0 : (0 : Int) ≤ (k : Int) := by omega
    have hk1 : (k : Int) < (n : Int) := by omega
    have kx0 : ∀ n : ExtW wr, n.val.cell? ⟨b1, o1 + k * 3, none⟩ = some (.int .i64 r.d.kind) := fun n => cell_ext n.ext y0
    have kx1 : ∀ n : ExtW wr, n.val.cell? ⟨b1, o1 + k * 3 + 1, none⟩ = some (.int .i64 r.d.parent) := fun n => cell_ext n.ext y1
    have kx2 : ∀ n : ExtW wr, n.val.cell? ⟨b1, o1 + k * 3 + 2, none⟩ = some (.slice r.ba r.bn r.bc) := fun n => cell_ext n.ext y2
    have ky0 : ∀ n : ExtW wr, n.val.cell? ⟨b2, o2 + k * 3, none⟩ = some (.int .i64 s.d.kind) := fun n => cell_ext n.ext z0
    have ky1 : ∀ n : ExtW wr, n.val.cell? ⟨b2, o2 + k * 3 + 1, none⟩ = some (.int .i64 s.d.parent) := fun n => cell_ext n.ext z1
    have ky2 : ∀ n : ExtW wr, n.val.cell? ⟨b2, o2 + k * 3 + 2, none⟩ = some (.slice s.ba s.bn s.bc) := fun n => cell_ext n.ext z2
    have HNE : Nonempty (ExtW wr) := ⟨⟨wr, Below.refl _ _⟩⟩
    clear hr hs hokr hoks y0 y1 y2 z0 z1 z2
    go_wp2
    refine region_ext (by kernel_rfl) (by kernel_rfl) ?_
    repeat (first
     | go_big_quiet_skip
     | go_big_quiet_step (first
       | (go_at_call 78; exact quiet_ext (sameTile_any r s _ HD.out (TileOK.ext HOr.out (ExtW.ext _)) (TileOK.ext HOs.out (ExtW.ext _)) HNs.out))))
    refine wpQuiet_nil ?_
    rintro _ ⟨mm, rfl⟩
    have HM := Lib.hid (ext_trans HB.out mm.ext)
    generalize mm.val = W8 at *
    clear kx0 kx1 kx2 ky0 ky1 ky2
    go_wp2
    go_roundw
    case rel => exact ⟨k + 1, by omega, by go_num, HM⟩
    case measure => simp [intOf]; omega
  · go_wp2
    go_ret
    exact ⟨rfl, HB.out⟩
end

section
open Go.RowKit Go.Shelf
attribute [local go_sem] Oper.semAt_some wide_fn wide_depth wide_fnR wide_depthR

theorem same_td {rs ss : List TileR} (h : tdOf rs = tdOf ss) : SameEs SDTile rs ss := by
 have hl : rs.length = ss.length := by have := congrArg List.length h; simpa [tdOf] using this
 refine ⟨hl, fun k r s hr hs => ?_⟩
 have h1 := congrArg (fun l => l[k]?) h
 simp only [tdOf, List.getElem?_map, hr, hs, Option.map_some, Option.some.injEq] at h1
 exact h1
theorem aw_totL : totL awL ≤ 1000000 := by decide +kernel
theorem i64_zero : I64 0 := by unfold I64; omega
theorem awake17_any (w : World) : Calls Try.prog 20 #[] w fun e w' => e = .returned (.bool true) ∧ Below w.heap.size w w' := by
 go_enter Try.func20, Try.ntmps20
 go_upto_region 2 with (
  (go_at_call 45
   obtain ⟨hl, hb0⟩ := aw_lrows w _ rfl
   refine (of17_any _ 3 3 _ _ hl (by omega) (by intro r hr; simp only [awRs, List.mem_cons, List.not_mem_nil, or_false] at hr; rcases hr with rfl | rfl | rfl <;> simp)).mono ?_
   rintro e w2 ⟨pa, pc, ba, bc, he, hown, _, hb⟩
   obtain rfl : e = .returned (funcV pa 1 pc ba 3 bc) := he
   have HBLK := Lib.hid (blks_own (L := [[1], [1, 2], []]) hown (by intro l hl; simp only [List.mem_cons, List.not_mem_nil, or_false] at hl; rcases hl with rfl | rfl | rfl; exact i64s [1]; exact i64s [1, 2]; exact i64s []))
   have HB2 := Lib.hid (ext_trans hb0 hb)
   clear hl hb0 hown hb))
 obtain ⟨W3, hW3⟩ : ∃ W3, W3 = w2.alloc (funcO pa 1 pc ba 3 bc) := ⟨_, rfl⟩
 rw [← hW3]
 have hf3 : W3.heap[w2.heap.size]? = some (funcO pa 1 pc ba 3 bc) := by rw [hW3]; exact heap_alloc_new _ _
 have hb3 : Below w2.heap.size w2 W3 := by rw [hW3]; exact ext_alloc _ _
 have HF3 := Lib.hid hf3
 have HB3 := Lib.hid (ext_trans HB2.out hb3)
 have HBLK3 := Lib.hid (HBLK.out.ext hb3)
 generalize w2.heap.size = F at *
 clear hW3 hf3 hb3 HBLK HB2
 go_upto_region 3 with (first
  | (refine wpList_load_row (o := ⟨some 10, .load 25 _, _, _, _, _⟩) rfl 25 _ rfl F rfl 25 _ (0, 0) _ HF3.out Try.underlying25 rfl size_func ?_)
  | (go_at_call 25
     refine (build_any pa 1 pc ba 3 bc ([[1], [1, 2], []].map blkOf) W3 HBLK3.out (.inl (by omega))).mono ?_
     rintro e w4 ⟨_, hy, hb4⟩
     obtain ⟨v, ls, qs, rfl, hbo, hti, htd⟩ := hy aw_fits
     have htd2 : tdOf ls = awL := htd.trans (aw_tiles17 hbo.1)
     obtain ⟨va, vc, hv⟩ := hti.own.form
     have hll : ls.length = 2 := by have := congrArg List.length htd2; simpa [tdOf, awL] using this
     rw [hll] at hv
     subst hv
     have HTI := Lib.hid hti
     have HTD := Lib.hid htd2
     have HF4 := Lib.hid (block_ext hb4 HF3.out)
     have HBLK4 := Lib.hid (HBLK3.out.ext hb4)
     have HB4 := Lib.hid (ext_trans HB3.out hb4)
     clear hy hb4 hbo hti htd htd2 hll))
 go_upto_region 4 with (fail)
 have hti := aw_tiles w4 _ rfl
 obtain ⟨W5, hW5⟩ : ∃ W5, W5 = ((w4.alloc (.cells #[.int .i64 0, .int .i64 2] 3)).alloc (.cells #[.int .i64 1] 3)).alloc (.cells #[.int .i64 1, .int .i64 (-1), .slice (some ⟨w4.heap.size, 0, none⟩) 2 2, .int .i64 2, .int .i64 0, .slice (some ⟨w4.heap.size + 1, 0, none⟩) 1 1] 53) := ⟨_, rfl⟩
 rw [← hW5] at hti ⊢
 have HWT := Lib.hid hti.1
 have HF5 := Lib.hid (block_ext hti.2 HF4.out)
 have HBLK5 := Lib.hid (HBLK4.out.ext hti.2)
 have HB5 := Lib.hid (ext_trans HB4.out hti.2)
 have HT5 : Hid (TilesOK W5 va 2 ls) := (HTI.out.ext hti.2).ok
 have HTOT : Hid (totL (tdOf ls) ≤ 1000000) := by rw [Hid, HTD.out]; exact aw_totL
 have HR : Hid (rightB awTs (tdOf ls) = true) := by rw [Hid, HTD.out]; exact aw_right
 have HAL : Hid ((allL (tdOf ls) 0).length = 3) := by rw [Hid, HTD.out]; exact aw_all
 clear hW5 hti HF4 HBLK4 HB4 HTI HF3 HBLK3 HB3
 generalize w4.heap.size = b9 at *
 go_wp2_with (first
  | (refine wpList_load_rowW (o := ⟨some 27, .load 25 _, _, _, _, _⟩) (by rfl) 25 _ rfl F rfl 25 _ (0, 0) _ HF6.out Try.underlying25 rfl size_func ?_)
  | (go_at_call 22
     refine (all_any va 2 vc ls 0 w7 HT7.out i64_zero HTOT.out).mono ?_
     rintro e w8 ⟨x, rfl, ho, hb8⟩
     obtain ⟨xa, xc, hx⟩ := ho.form
     rw [HAL.out] at hx
     subst hx
     have HB8 := Lib.hid (ext_trans HB7.out hb8)
     clear hb8 ho)
  | (go_at_call 12
     refine (tright_any pa 1 pc ba 3 bc ([[1], [1, 2], []].map blkOf) va 2 vc ls w6 HBLK6.out HT6.out HTOT.out).mono ?_
     rintro e w7 ⟨he, hb7⟩
     obtain rfl := he.trans (congrArg (fun z => Ending.returned (.bool z)) HR.out)
     have HT7 := Lib.hid (HT6.out.ext hb7)
     have HB7 := Lib.hid (ext_trans HB6.out hb7)
     clear hb7 he)
  | (go_at_call 46
     refine (sameTiles_any va (some ⟨b9 + 1 + 1, 0, none⟩) 2 vc 2 ls (awTiles b9) W5 HT5.out HWT.out (same_td (HTD.out.trans rfl)) (by intro r hr; simp only [awTiles, List.mem_cons, List.not_mem_nil, or_false] at hr; rcases hr with rfl | rfl <;> (show (_ : Nat) ≤ _; simp))).mono ?_
     rintro e w6 ⟨rfl, hb6⟩
     have HT6 := Lib.hid (HT5.out.ext hb6)
     have HF6 := Lib.hid (block_ext hb6 HF5.out)
     have HBLK6 := Lib.hid (HBLK5.out.ext hb6)
     have HB6 := Lib.hid (ext_trans HB5.out hb6)
     clear hb6))
 go_ret
 exact ⟨rfl, HB8.out⟩
end
end Go.Proofs.Ytblhmdhfhaencaa
