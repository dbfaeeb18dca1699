/-
  Tile: how tiles lie in memory; parents.
-/
import Derived.Test.YtblhmdhfhaencaaGreatSortI
import Derived.Test.YtblhmdhfhaencaaGreatLentG
import Derived.Test.YtblhmdhfhaencaaGreatBR
import Derived.Test.YtblhmdhfhaencaaGreatVP
import Derived.Deep.LoopGhost
import Derived.BigRegion
import Derived.Test.YtblhmdhfhaencaaGreatFI2
import Derived.BigQuiet
import Derived.Great.BuildSlice
namespace Go.Proofs.YtblhmdhfhaencaaGreat
set_option linter.unusedSimpArgs false
set_option linter.unusedVariables false
set_option linter.unusedSectionVars false
set_option maxRecDepth 100000
set_option maxHeartbeats 40000000
section
open Go.RowKit
structure TileR where
  d : TileD
  ba : Option Addr
  bn : Nat
  bc : Nat
def tileC (t : TileR) : List Value := [.int .i64 t.d.kind, .int .i64 t.d.parent, .slice t.ba t.bn t.bc]
theorem tileC_len (t : TileR) : (tileC t).length = 3 := rfl
def TilesOK (w : World) (a : Option Addr) (n : Nat) (ls : List TileR) : Prop := Recs 3 tileC w a n ls ∧ ∀ t ∈ ls, Ints w t.ba t.bn t.d.blocks ∧ t.bn ≤ t.bc ∧ I64 t.d.kind ∧ I64 t.d.parent
theorem TilesOK.ext {w w' : World} {a : Option Addr} {n : Nat} {ls : List TileR} (h : TilesOK w a n ls) (hb : Below w.heap.size w w') : TilesOK w' a n ls := ⟨h.1.ext tileC_len hb, fun t ht => ⟨(h.2 t ht).1.ext hb, (h.2 t ht).2⟩⟩
def tdOf (ls : List TileR) : List TileD := ls.map (·.d)
theorem tdOf_len (ls : List TileR) : (tdOf ls).length = ls.length := by simp [tdOf]
theorem tdOf_at (ls : List TileR) (k : Nat) (t : TileR) (h : ls[k]? = some t) : (tdOf ls).getD k zTile = t.d := by simp [tdOf, List.getD_eq_getElem?_getD, h]
abbrev tileO (t : TileR) : Obj := .cells #[.int .i64 t.d.kind, .int .i64 t.d.parent, .slice t.ba t.bn t.bc] 76
theorem TilesOK.cells {w : World} {a : Option Addr} {n : Nat} {ls : List TileR} (h : TilesOK w a n ls) {k : Nat} (hk : k < n) : ∃ t b o, ls[k]? = some t ∧ (Ints w t.ba t.bn t.d.blocks ∧ t.bn ≤ t.bc ∧ I64 t.d.kind ∧ I64 t.d.parent) ∧ a = some ⟨b, o, none⟩ ∧
    w.cell? ⟨b, o + k * 3, none⟩ = some (.int .i64 t.d.kind) ∧ w.cell? ⟨b, o + k * 3 + 1, none⟩ = some (.int .i64 t.d.parent) ∧ w.cell? ⟨b, o + k * 3 + 2, none⟩ = some (.slice t.ba t.bn t.bc) := by
  have hk' : k < ls.length := by rw [h.1.1]; exact hk
  obtain ⟨b, o, e, hc⟩ := h.1.2.2 k ls[k] (List.getElem?_eq_getElem hk')
  exact ⟨ls[k], b, o, List.getElem?_eq_getElem hk', h.2 _ (List.getElem_mem hk'), e, hc 0 (by omega), hc 1 (by omega), hc 2 (by omega)⟩
theorem parents_any (a : Option Addr) (n c : Nat) (ls : List TileR) (w : World) (h : TilesOK w a n ls) :
    Calls Tryz.prog 92 #[.slice a n c] w fun e w' => e = .returned (.bool (parentsB (tdOf ls))) ∧ Below w.heap.size w w' := by
  have hn := h.1.2.1
  have HL := Lib.hid h.1.1
  have H := Lib.hid h
  clear h
  go_enter Tryz.func92, Tryz.ntmps92
  go_wp2
  go_loopw [7] (fun i wr => ∃ (k : Nat), k ≤ n ∧ i = .int .i64 k ∧ Hid (∀ j, j < k → -1 ≤ parL (tdOf ls) j ∧ parL (tdOf ls) j < j) ∧ Hid (Below w.heap.size w wr)) (fun i _ => n - (intOf i).toNat)
  case atStart => exact ⟨0, by omega, rfl, fun j hj => absurd hj (by omega), Below.refl _ _⟩
  case round =>
    obtain ⟨k, hk, rfl, HR, HB⟩ := hrel
    by_cases hlt : k < n
    · obtain ⟨t, b, o, hlk, hok, rfl, c0, c1, c2⟩ := (H.out.ext HB.out).cells hlt
      obtain ⟨_, _, _, hp1, hp2⟩ := hok
      have htd := tdOf_at ls k t hlk
      have HTD : Hid (parL (tdOf ls) k = t.d.parent) := by rw [Hid, parL, htd]
      clear hlk htd
      have hlt' : (k : Int) < (n : Int) := by omega
      by_cases hg1 : t.d.parent < -1
      · have HE : Hid (parentsB (tdOf ls) = false) := by
          rw [Hid, Bool.eq_false_iff]
          intro h
          have := (parentsB_iff _).1 h k (by rw [tdOf_len, HL.out]; exact hlt)
          rw [HTD.out] at this
          omega
        go_wp2
        go_ret
        exact ⟨by rw [HE.out]; rfl, HB.out.alloc HB.out.size _⟩
      · by_cases hg2 : t.d.parent < k
        · have HR2 : Hid (∀ j, j < k + 1 → -1 ≤ parL (tdOf ls) j ∧ parL (tdOf ls) j < j) := fun j hj => by
            by_cases e : j = k
            · subst e; rw [HTD.out]; omega
            · exact HR.out j (by omega)
          go_wp2
          go_roundw
          case rel => exact ⟨k + 1, by omega, by go_num, HR2, HB.out.alloc HB.out.size _⟩
          case measure => simp [intOf]; omega
        · have HE : Hid (parentsB (tdOf ls) = false) := by
            rw [Hid, Bool.eq_false_iff]
            intro h
            have := (parentsB_iff _).1 h k (by rw [tdOf_len, HL.out]; exact hlt)
            rw [HTD.out] at this
            omega
          go_wp2
          go_ret
          exact ⟨by rw [HE.out]; rfl, HB.out.alloc HB.out.size _⟩
    · obtain rfl : k = n := by omega
      have HE : Hid (parentsB (tdOf ls) = true) := (parentsB_iff _).2 fun j hj => HR.out j (by rw [tdOf_len, HL.out] at hj; exact hj)
      go_wp2
      go_ret
      exact ⟨by rw [HE.out]; rfl, HB.out⟩
end

section
open Go.RowKit
def TileNA (t : TileR) : Prop := t.bn ≤ 1000000
abbrev TileOK (w : World) (t : TileR) : Prop := Ints w t.ba t.bn t.d.blocks ∧ t.bn ≤ t.bc ∧ I64 t.d.kind ∧ I64 t.d.parent
theorem TileOK.ext {w w' : World} {t : TileR} (h : TileOK w t) (hb : Below w.heap.size w w') : TileOK w' t := ⟨h.1.ext hb, h.2⟩
abbrev tileVR (t : TileR) : Value := .agg #[.int .i64 t.d.kind, .int .i64 t.d.parent, .slice t.ba t.bn t.bc]
def SDTile (r s : TileR) : Prop := r.d = s.d
theorem sameTile_any (r s : TileR) (w : World) (hd : SDTile r s) (hr : TileOK w r) (hs : TileOK w s) (hna : TileNA s) :
    Calls Tryz.prog 66 #[tileVR r, tileVR s] w fun e w' => e = .returned (.bool true) ∧ Below w.heap.size w w' := by
  obtain ⟨dr, ra, rn, rc⟩ := r
  obtain rfl : dr = s.d := hd
  have HR := Lib.hid hr
  have HS := Lib.hid hs
  clear hr hs hna
  obtain ⟨W0, HW0, hR, hS, hW0⟩ := boxes2 w (.cells #[.int .i64 s.d.kind, .int .i64 s.d.parent, .slice ra rn rc] 76) (.cells #[.int .i64 s.d.kind, .int .i64 s.d.parent, .slice s.ba s.bn s.bc] 76)
  have x0 : ∀ w', Below W0.heap.size W0 w' → w'.cell? ⟨w.heap.size, 0, none⟩ = some (.int .i64 s.d.kind) := fun w' hb => by rw [cell_of_row _ _ _ _ _ _ (block_ext hb hR)]; rfl
  have x1 : ∀ w', Below W0.heap.size W0 w' → w'.cell? ⟨w.heap.size, 1, none⟩ = some (.int .i64 s.d.parent) := fun w' hb => by rw [cell_of_row _ _ _ _ _ _ (block_ext hb hR)]; rfl
  have x2 : ∀ w', Below W0.heap.size W0 w' → w'.cell? ⟨w.heap.size, 2, none⟩ = some (.slice ra rn rc) := fun w' hb => by rw [cell_of_row _ _ _ _ _ _ (block_ext hb hR)]; rfl
  have y0 : ∀ w', Below W0.heap.size W0 w' → w'.cell? ⟨w.heap.size + 1, 0, none⟩ = some (.int .i64 s.d.kind) := fun w' hb => by rw [cell_of_row _ _ _ _ _ _ (block_ext hb hS)]; rfl
  have y1 : ∀ w', Below W0.heap.size W0 w' → w'.cell? ⟨w.heap.size + 1, 1, none⟩ = some (.int .i64 s.d.parent) := fun w' hb => by rw [cell_of_row _ _ _ _ _ _ (block_ext hb hS)]; rfl
  have y2 : ∀ w', Below W0.heap.size W0 w' → w'.cell? ⟨w.heap.size + 1, 2, none⟩ = some (.slice s.ba s.bn s.bc) := fun w' hb => by rw [cell_of_row _ _ _ _ _ _ (block_ext hb hS)]; rfl
  have E0 : Below W0.heap.size W0 W0 := Below.refl _ _
  clear hR hS
  go_enter Tryz.func66, Tryz.ntmps66
  go_wp2_with (first
    | (go_at_call 44
       refine (sameInts_any ra s.ba rn s.bn rc s.bc s.d.blocks s.d.blocks W0 ((HR.out.1.ext HW0.out).ext E0) ((HS.out.1.ext HW0.out).ext E0)).mono ?_
       rw [decide_eq_true rfl]
       rintro e w1 ⟨rfl, q1, hq1⟩
       have E1 : Below W0.heap.size W0 w1 := by rw [hq1]; exact ext_drewN E0 q1
       clear hq1))
  go_ret
  exact ⟨rfl, ext_trans HW0.out E1⟩
theorem sameTiles_any (a b : Option Addr) (n c d : Nat) (rs ss : List TileR) (w : World) (hr : TilesOK w a n rs) (hs : TilesOK w b n ss) (h : SameEs SDTile rs ss) (hna : ∀ r ∈ ss, TileNA r) :
    Calls Tryz.prog 35 #[.slice a n c, .slice b n d] w fun e w' => e = .returned (.bool true) ∧ Below w.heap.size w w' := by
  have HR := Lib.hid hr
  have HS := Lib.hid hs
  have HH := Lib.hid h
  have HNA := Lib.hid hna
  have hn := hr.1.2.1
  clear hr hs h hna
  have hne : ((n : Int) != (n : Int)) = false := by simp
  go_enter Tryz.func35, Tryz.ntmps35
  go_wp2
  go_loopw [5] (fun i wr => ∃ (k : Nat), k ≤ n ∧ i = .int .i64 k ∧ Hid (Below w.heap.size w wr)) (fun i _ => n - (intOf i).toNat)
  case atStart => exact ⟨0, by omega, rfl, Below.refl _ _⟩
  case round =>
    obtain ⟨k, hk, rfl, HB⟩ := hrel
    by_cases hlt : k < n
    · obtain ⟨r, b1, o1, hr, hokr, rfl, y0, y1, y2⟩ := (HR.out.ext HB.out).cells hlt
      obtain ⟨s, b2, o2, hs, hoks, rfl, z0, z1, z2⟩ := (HS.out.ext HB.out).cells hlt
      have HD := Lib.hid (HH.out.2 k r s hr hs)
      have HNs := Lib.hid (HNA.out s (List.mem_of_getElem? hs))
      have HOr := Lib.hid hokr
      have HOs := Lib.hid hoks
      have hk0 : (0 : Int) ≤ (k : Int) := by omega
      have hk1 : (k : Int) < (n : Int) := by omega
      have kx0 : ∀ n : ExtW wr, n.val.cell? ⟨b1, o1 + k * 3, none⟩ = some (.int .i64 r.d.kind) := fun n => cell_ext n.ext y0
      have kx1 : ∀ n : ExtW wr, n.val.cell? ⟨b1, o1 + k * 3 + 1, none⟩ = some (.int .i64 r.d.parent) := fun n => cell_ext n.ext y1
      have kx2 : ∀ n : ExtW wr, n.val.cell? ⟨b1, o1 + k * 3 + 2, none⟩ = some (.slice r.ba r.bn r.bc) := fun n => cell_ext n.ext y2
      have ky0 : ∀ n : ExtW wr, n.val.cell? ⟨b2, o2 + k * 3, none⟩ = some (.int .i64 s.d.kind) := fun n => cell_ext n.ext z0
      have ky1 : ∀ n : ExtW wr, n.val.cell? ⟨b2, o2 + k * 3 + 1, none⟩ = some (.int .i64 s.d.parent) := fun n => cell_ext n.ext z1
      have ky2 : ∀ n : ExtW wr, n.val.cell? ⟨b2, o2 + k * 3 + 2, none⟩ = some (.slice s.ba s.bn s.bc) := fun n => cell_ext n.ext z2
      have HNE : Nonempty (ExtW wr) := ⟨⟨wr, Below.refl _ _⟩⟩
      clear hr hs hokr hoks y0 y1 y2 z0 z1 z2
      go_wp2
      refine region_ext (by kernel_rfl) (by kernel_rfl) ?_
      repeat (first
        | go_big_quiet_skip
        | go_big_quiet_step (first
          | (go_at_call 66; exact quiet_ext (sameTile_any r s _ HD.out (TileOK.ext HOr.out (ExtW.ext _)) (TileOK.ext HOs.out (ExtW.ext _)) HNs.out))))
      refine wpQuiet_nil ?_
      rintro _ ⟨mm, rfl⟩
      have HM := Lib.hid (ext_trans HB.out mm.ext)
      generalize mm.val = W8 at *
      clear kx0 kx1 kx2 ky0 ky1 ky2
      go_wp2
      go_roundw
      case rel => exact ⟨k + 1, by omega, by go_num, HM⟩
      case measure => simp [intOf]; omega
    · go_wp2
      go_ret
      exact ⟨rfl, HB.out⟩
end

section
open Go.RowKit Go.Shelf
def partC (p : PartD) : List Value := (setA p.s).toList ++ [.int .i64 p.kind, .int .i64 p.entry]
theorem partC_len (p : PartD) : (partC p).length = 202 := by simp [partC, setA_size]
theorem partC_one (p : PartD) : ∀ v ∈ partC p, v.oneCell' = true := by
  intro v hv
  rcases List.mem_append.1 hv with h | h
  · have := setA_all p.s
    rw [Array.all_eq_true_iff_forall_mem] at this
    exact this v (by simpa using h)
  · simp only [List.mem_cons, List.not_mem_nil, or_false] at h
    rcases h with rfl | rfl <;> rfl
abbrev partV (p : PartD) : Value := .agg (partC p).toArray
theorem toArr_toList (l : List Value) : l.toArray.toList = l := rfl
theorem size_part : (Tryz.prog.info? 128).map (·.size) = some 202 := by kernel_rfl
theorem size_partC (p : PartD) : (Tryz.prog.info? 128).map (·.size) = some (partC p).length := by rw [partC_len]; exact size_part
theorem size_partA (p : PartD) : (Tryz.prog.info? 128).map (·.size) = some (partC p).toArray.size := by rw [List.size_toArray]; exact size_partC p
def PartsIn (W : World) (base : Nat) (v : Value) (L : List PartD) : Prop := OwnR 128 202 partC W base v L
section
variable {W W' : World} {base g n c : Nat} {L : List PartD}
theorem PartsIn.len (h : PartsIn W base (.slice (some ⟨g, 0, none⟩) n c) L) : L.length = n := by
  obtain ⟨_, _, e⟩ := OwnR.form h
  injection e with _ e _
  exact e.symm
theorem PartsIn.ext {v : Value} (h : PartsIn W base v L) (hb : Below W.heap.size W W') : PartsIn W' base v L := OwnR.ext h hb
theorem PartsIn.drew {v : Value} (h : PartsIn W base v L) : PartsIn W.drew base v L := h.ext (ext_drewN (Below.refl _ _) 1)
theorem part_range (h : PartsIn W base (.slice (some ⟨g, 0, none⟩) n c) L) {k : Nat} (hk : k < n) : W.rangeAt g (k * 202) (partC (L.getD k zPart)) := OwnR.range partC_len h zPart (by rw [h.len]; exact hk)
theorem part_there (h : PartsIn W base (.slice (some ⟨g, 0, none⟩) n c) L) {k : Nat} (hk : k < n) (p : PartD) : W.there g (k * 202) (partC p).toArray.size := by
  rw [List.size_toArray, partC_len]
  exact OwnR.there partC_len h (by rw [h.len]; exact hk)
theorem part_set (h : PartsIn W base (.slice (some ⟨g, 0, none⟩) n c) L) {k : Nat} (hk : k < n) (p : PartD) : PartsIn (W.setCells g (k * 202) (partC p)) base (.slice (some ⟨g, 0, none⟩) n c) (L.set k p) := OwnR.setAt partC_len h (by rw [h.len]; exact hk) p
end
theorem swapRange_any (g n c a b m base : Nat) (fv : Value) (L : List PartD) (w : World) (h : PartsIn w base (.slice (some ⟨g, 0, none⟩) n c) L) (hn : n ≤ 1000000) (hab : a + m ≤ b) (hbm : b + m ≤ n) :
    Calls Tryz.prog 220 #[.slice (some ⟨g, 0, none⟩) n c, .int .i64 (a : Int), .int .i64 (b : Int), .int .i64 (m : Int), fv] w fun e w' => e = .returned (.tuple #[]) ∧
      ∃ L', PartsIn w' base (.slice (some ⟨g, 0, none⟩) n c) L' ∧ Sh zPart L L' a (b + m) ∧ (∀ k, L'.getD k zPart = swapR (fun k => L.getD k zPart) a b m k) ∧ Chg (fun k => k = g) w w' := by
  have H := Lib.hid h
  clear h
  go_enter Tryz.func220, Tryz.ntmps220
  go_wp2
  go_loopw [10] (fun s10 wr => ∃ (i : Nat) (L1 : List PartD), i ≤ m ∧ s10 = .int .i64 (i : Int) ∧ Hid (PartsIn wr base (.slice (some ⟨g, 0, none⟩) n c) L1 ∧ Sh zPart L L1 a (b + m) ∧ (∀ k, L1.getD k zPart = swapR (fun k => L.getD k zPart) a b i k) ∧ Chg (fun k => k = g) w wr)) (fun s10 _ => m - (intOf s10).toNat)
  case atStart => exact ⟨0, L, by omega, by go_num, H.out, Sh.refl _ _ _, fun k => by rw [swapR_zero], Chg.refl _ _⟩
  case round =>
    obtain ⟨i, L1, hi, rfl, HJ⟩ := hrel
    by_cases hlt : i < m
    · have hlt' : (i : Int) < (m : Int) := by omega
      have h1 := HJ.out.1.drew
      have hr1 := part_range h1 (k := a + i) (by omega)
      have hr2 := part_range h1 (k := b + i) (by omega)
      have ht1 := part_there h1 (k := a + i) (by omega) (L1.getD (b + i) zPart)
      have h2 := part_set h1 (k := a + i) (by omega) (L1.getD (b + i) zPart)
      have ht2 := part_there h2 (k := b + i) (by omega) (L1.getD (a + i) zPart)
      have h3 := part_set h2 (k := b + i) (by omega) (L1.getD (a + i) zPart)
      have hlen := HJ.out.1.len
      have HJ2 : Hid (PartsIn ((wr.drew.setCells g ((a + i) * 202) (partC (L1.getD (b + i) zPart))).setCells g ((b + i) * 202) (partC (L1.getD (a + i) zPart))) base (.slice (some ⟨g, 0, none⟩) n c) (swapL zPart L1 (a + i) (b + i)) ∧ Sh zPart L (swapL zPart L1 (a + i) (b + i)) a (b + m) ∧ (∀ k, (swapL zPart L1 (a + i) (b + i)).getD k zPart = swapR (fun k => L.getD k zPart) a b (i + 1) k) ∧ Chg (fun k => k = g) w ((wr.drew.setCells g ((a + i) * 202) (partC (L1.getD (b + i) zPart))).setCells g ((b + i) * 202) (partC (L1.getD (a + i) zPart)))) := by
        refine ⟨h3, HJ.out.2.1.trans (Sh.swap L1 (by omega) (by omega) (by omega)), fun k => ?_, chg_setCells (S := fun k => k = g) rfl _ _ _ (chg_setCells (S := fun k => k = g) rfl _ _ _ (HJ.out.2.2.2.drewN 1))⟩
        rw [swapL_at zPart L1 (by omega) (by omega), ← swapR_step _ _ _ _ (by omega), HJ.out.2.2.1, HJ.out.2.2.1, HJ.out.2.2.1]
      clear h1 h2 h3 HJ
      generalize L1.getD (a + i) zPart = x at *
      generalize L1.getD (b + i) zPart = y at *
      go_wp2
      obtain ⟨w8, hw8⟩ : ∃ w8, w8 = wr.drew.setCells g ((a + i) * 202) (partC y) := ⟨_, rfl⟩
      rw [← hw8] at HJ2 ht2
      obtain ⟨w9, hw9⟩ : ∃ w9, w9 = w8.setCells g ((b + i) * 202) (partC x) := ⟨_, rfl⟩
      rw [← hw9] at HJ2
      refine z_start (fun _ => True) (by kernel_rfl) ?_
      refine z_reads 0 13 (by kernel_rfl) trivial ?_
      simp only [List.take_succ_cons, List.take_zero, List.drop_succ_cons, List.drop_zero]
      repeat (go_big_quiet_step (fail))
      refine wpQuiet_nil ?_
      refine z_reads 14 5 (by kernel_rfl) trivial ?_
      simp only [List.take_succ_cons, List.take_zero, List.drop_succ_cons, List.drop_zero]
      repeat (go_big_quiet_step (fail))
      refine wpQuiet_nil ?_
      refine z_two 13 19 (by kernel_rfl) ?_ ?_
      · refine wpOp_atK rfl rfl ?_
        refine wp_load_mid 128 _ rfl g ((b + i) * 202) rfl (partC y) _ hr2 Tryz.underlying128 rfl (size_partC _) ?_
        refine ⟨Or.inr trivial, ?_⟩
        simp only [zJ,zG,zH,zI]
        refine z_one 19 (by kernel_rfl) ?_
        refine wpOp_atK rfl rfl ?_
        refine wp_load_mid 128 _ rfl g ((a + i) * 202) rfl (partC x) _ hr1 Tryz.underlying128 rfl (size_partC _) ?_
        refine ⟨Or.inr trivial, ?_⟩
        simp only [zJ,zG,zH,zI]
        refine z_reads 20 1 (by kernel_rfl) trivial ?_
        simp only [List.take_succ_cons, List.take_zero, List.drop_succ_cons, List.drop_zero]
        repeat (go_big_quiet_step (fail))
        refine wpQuiet_nil ?_
        refine z_one 21 (by kernel_rfl) ?_
        refine wpOp_atK rfl rfl ?_
        refine wp_store_mid 128 _ _ rfl g ((a + i) * 202) (partC y).toArray rfl rfl ht1 (size_partA _) (all_oneCell_toArray (partC_one _)) ?_
        simp only [put_none, toArr_toList]
        rw [← hw8]
        refine ⟨Or.inr trivial, ?_⟩
        refine z_reads 22 1 (by kernel_rfl) trivial ?_
        simp only [List.take_succ_cons, List.take_zero, List.drop_succ_cons, List.drop_zero]
        repeat (go_big_quiet_step (fail))
        refine wpQuiet_nil ?_
        refine z_one 23 (by kernel_rfl) ?_
        refine wpOp_atK rfl rfl ?_
        refine wp_store_mid 128 _ _ rfl g ((b + i) * 202) (partC x).toArray rfl rfl ht2 (size_partA _) (all_oneCell_toArray (partC_one _)) ?_
        simp only [put_none, toArr_toList]
        refine ⟨Or.inr trivial, ?_⟩
        rw [← hw9]
        refine z_done (by kernel_rfl) ?_
        clear hw9 hw8
        go_wp2
        go_roundw
        case rel => exact ⟨i + 1, _, by omega, by go_num, HJ2⟩
        case measure => simp [intOf]; omega
      · refine wpOp_atK rfl rfl ?_
        refine wp_load_mid 128 _ rfl g ((a + i) * 202) rfl (partC x) _ hr1 Tryz.underlying128 rfl (size_partC _) ?_
        refine ⟨Or.inr trivial, ?_⟩
        simp only [zJ,zG,zH,zI]
        refine z_one 13 (by kernel_rfl) ?_
        refine wpOp_atK rfl rfl ?_
        refine wp_load_mid 128 _ rfl g ((b + i) * 202) rfl (partC y) _ hr2 Tryz.underlying128 rfl (size_partC _) ?_
        refine ⟨Or.inr trivial, ?_⟩
        simp only [zJ,zG,zH,zI]
        refine z_reads 20 1 (by kernel_rfl) trivial ?_
        simp only [List.take_succ_cons, List.take_zero, List.drop_succ_cons, List.drop_zero]
        repeat (go_big_quiet_step (fail))
        refine wpQuiet_nil ?_
        refine z_one 21 (by kernel_rfl) ?_
        refine wpOp_atK rfl rfl ?_
        refine wp_store_mid 128 _ _ rfl g ((a + i) * 202) (partC y).toArray rfl rfl ht1 (size_partA _) (all_oneCell_toArray (partC_one _)) ?_
        simp only [put_none, toArr_toList]
        rw [← hw8]
        refine ⟨Or.inr trivial, ?_⟩
        refine z_reads 22 1 (by kernel_rfl) trivial ?_
        simp only [List.take_succ_cons, List.take_zero, List.drop_succ_cons, List.drop_zero]
        repeat (go_big_quiet_step (fail))
        refine wpQuiet_nil ?_
        refine z_one 23 (by kernel_rfl) ?_
        refine wpOp_atK rfl rfl ?_
        refine wp_store_mid 128 _ _ rfl g ((b + i) * 202) (partC x).toArray rfl rfl ht2 (size_partA _) (all_oneCell_toArray (partC_one _)) ?_
        simp only [put_none, toArr_toList]
        refine ⟨Or.inr trivial, ?_⟩
        rw [← hw9]
        refine z_done (by kernel_rfl) ?_
        clear hw9 hw8
        go_wp2
        go_roundw
        case rel => exact ⟨i + 1, _, by omega, by go_num, HJ2⟩
        case measure => simp [intOf]; omega
    · obtain rfl : i = m := by omega
      go_wp2
      go_end0
      exact ⟨rfl, L1, HJ.out.1, HJ.out.2.1, HJ.out.2.2.1, HJ.out.2.2.2⟩
theorem swapRange_anyZ (g n c a b m base : Nat) (za zb zm : Int) (fv : Value) (L : List PartD) (w : World) (h : PartsIn w base (.slice (some ⟨g, 0, none⟩) n c) L) (hn : n ≤ 1000000) (ha : za = (a : Int)) (hb : zb = (b : Int)) (hm : zm = (m : Int)) (hab : a + m ≤ b) (hbm : b + m ≤ n) :
    Calls Tryz.prog 220 #[.slice (some ⟨g, 0, none⟩) n c, .int .i64 za, .int .i64 zb, .int .i64 zm, fv] w fun e w' => e = .returned (.tuple #[]) ∧
      ∃ L', PartsIn w' base (.slice (some ⟨g, 0, none⟩) n c) L' ∧ Sh zPart L L' a (b + m) ∧ (∀ k, L'.getD k zPart = swapR (fun k => L.getD k zPart) a b m k) ∧ Chg (fun k => k = g) w w' := by
  subst ha hb hm
  exact swapRange_any g n c a b m base fv L w h hn hab hbm
end

section
section
variable {P : Program} {ops : Array Oper} {rest : List Oper} {o : Oper} {a : Act}
theorem wpList_load_rowW {w : World} {Q : Exit → Act → World → Prop} (hw : Region.wanted o (yielded ops a.tmps) = true) (ty : TypeId) (x : Operand) (ho : o.op = .load ty x)
    (g : Nat) (hx : a.eval x = .pointer (some ⟨g, 0, none⟩)) (t : TypeId) (cs : Array Value) (fr : Nat × Nat) (d : TypeDesc) (hg : w.heap[g]? = some (.cells cs t fr))
    (hu : P.underlying ty = some d) (hd : (match d with | .struct _ | .array _ _ => true | _ => false) = true) (hi : (P.info? ty).map (·.size) = some cs.size)
    (h : wpList P ops Q rest (a.put o.dst (.agg cs)) w) : wpList P ops Q (o :: rest) a w :=
  BigFrame.wpList_want hw fun _ hK => wp_load_row ty x ho g hx t cs fr d hg hu hd hi (hK _ _ h)
theorem wpQuiet_load_row {C : World → Prop} {Q : Act → Prop} (hw : Region.wanted o (yielded ops a.tmps) = true) (ty : TypeId) (x : Operand) (ho : o.op = .load ty x)
    (g : Nat) (hx : a.eval x = .pointer (some ⟨g, 0, none⟩)) (t : TypeId) (cs : Array Value) (fr : Nat × Nat) (d : TypeDesc) (hg : ∀ w, C w → w.heap[g]? = some (.cells cs t fr))
    (hu : P.underlying ty = some d) (hd : (match d with | .struct _ | .array _ _ => true | _ => false) = true) (hi : (P.info? ty).map (·.size) = some cs.size)
    (h : wpQuiet P ops C Q rest (a.put o.dst (.agg cs))) : wpQuiet P ops C Q (o :: rest) a :=
  BigFrame.wpQuiet_want hw fun _ hK => ⟨.agg cs, fun w hC => by
    unfold Oper.quietAt execOp
    simp only [ho, hx, Instr.loadAt, Instr.sureAddr, Sem.run_bind, Sem.run_pure, Result.andThen_ok, run_loadVar_row w g t ty cs fr d (hg w hC) hu hd hi]
    exact ⟨rfl, rfl⟩, hK _ h⟩
theorem wpOp_atW {l : List Oper} {Q : Exit → Act → World → Prop} {e : Nat} {K : Act → World → Prop} {w : World} (ho : l[e]? = some o) (hw : Region.wanted o (yielded l.toArray a.tmps) = true) (h : o.wp P a w K Q) : wpOp P l.toArray Q e K a w := by
  unfold wpOp
  simp only [List.getElem?_toArray, ho]
  rw [if_pos hw]
  exact .inl h
end
end

section
open Go.RowKit
theorem fold_at (off : Nat) (vs : List Value) (cells : Array Value) (k : Nat) :
    (vs.toArray.zipIdx.foldl (fun cs (x : Value × Nat) => cs.setIfInBounds (off + x.2) x.1) cells).size = cells.size ∧
    (vs.toArray.zipIdx.foldl (fun cs (x : Value × Nat) => cs.setIfInBounds (off + x.2) x.1) cells)[k]? = if off ≤ k ∧ k < off + vs.length ∧ k < cells.size then vs[k - off]? else cells[k]? := by
  have h := Great.foldl_set off vs 0 cells
  rw [← Array.foldl_toList]
  simp only [Array.toList_zipIdx]
  exact ⟨h.1, by have := h.2 k; simpa using this⟩
theorem partC_at (p : PartD) : (partC p).toArray = ((setA p.s).push (.int .i64 p.kind)).push (.int .i64 p.entry) := by
  rw [← Array.toList_inj]
  simp [partC]
theorem fill_part (s : Nat → Bool) (kd e : Int) (cells : Array Value) (hc : cells.size = 202) :
    Instr.fill (fun i => #[(0, 200), (200, 1), (201, 1)][i]?) cells [(0, .agg (setA s)), (1, .int .i64 kd), (2, .int .i64 e)] = some (partC ⟨s, kd, e⟩).toArray := by
  have s1 : (Value.agg (setA s)).cells = setA s := rfl
  unfold Instr.fill
  simp only [List.getElem?_toArray, List.getElem?_cons_zero, s1, setA_size, hc]
  rw [if_neg (by simp)]
  have h1 := fun k => fold_at 0 (setA s).toList cells k
  rw [show (setA s).toList.toArray = setA s by simp] at h1
  generalize (setA s).zipIdx.foldl (fun cs (x : Value × Nat) => cs.setIfInBounds (0 + x.2) x.1) cells = c1 at *
  have hs1 : c1.size = 202 := by rw [(h1 0).1, hc]
  have h1 := fun k => (h1 k).2
  unfold Instr.fill
  simp only [List.getElem?_toArray, List.getElem?_cons_succ, List.getElem?_cons_zero, Value.cells, List.size_toArray, List.length_cons, List.length_nil, hs1]
  rw [if_neg (by simp)]
  unfold Instr.fill
  simp only [List.getElem?_toArray, List.getElem?_cons_succ, List.getElem?_cons_zero, Value.cells, List.size_toArray, List.length_cons, List.length_nil]
  rw [if_neg (by simp [hs1])]
  unfold Instr.fill
  congr 1
  apply Array.ext_getElem?
  intro k
  rw [partC_at]
  have z1 : ∀ v : Value, #[v].zipIdx = #[(v, 0)] := fun v => rfl
  simp only [z1, List.foldl_toArray, List.foldl_toArray', List.size_toArray, List.length_cons, List.length_nil, List.foldl_cons, List.foldl_nil, Nat.add_zero, Array.getElem?_setIfInBounds, Array.size_setIfInBounds, hs1, Array.getElem?_push, Array.size_push, setA_size, h1, Array.length_toList, hc, Nat.zero_add, Array.getElem?_toList, Nat.sub_zero]
  by_cases k1 : k = 201
  · subst k1; simp
  · by_cases k2 : k = 200
    · subst k2; simp
    · by_cases k3 : k < 200
      · rw [if_neg (by omega), if_neg (by omega), if_pos (by omega), if_neg (by omega), if_neg (by omega)]
      · rw [if_neg (by omega), if_neg (by omega), if_neg (by omega), if_neg (by omega), if_neg (by omega)]
        rw [Array.getElem?_eq_none (by omega), Array.getElem?_eq_none (by rw [setA_size]; omega)]
theorem built_part (s : Nat → Bool) (kd e : Int) : Tryz.prog.built 128 [(0, .agg (setA s)), (1, .int .i64 kd), (2, .int .i64 e)] = some (partC ⟨s, kd, e⟩).toArray := by
  have h := fill_part s kd e Tryz.zeroCells128 (by kernel_rfl)
  refine Eq.trans ?_ h
  kernel_rfl
theorem run_build_part (s : Nat → Bool) (kd e : Int) (w : World) : (Instr.build 128 #[(0, .agg (setA s)), (1, .int .i64 kd), (2, .int .i64 e)]).run Tryz.prog w = .ok (partV ⟨s, kd, e⟩) w := run_build w _ _ _ (built_part s kd e)
theorem fill_one {s : Nat} (vs : List Value) (cells : Array Value) (h1 : vs.length = s) (h2 : cells.size = s) : Instr.fill (fun i => some (i * s, s)) cells [(0, .agg vs.toArray)] = some vs.toArray := by
  unfold Instr.fill
  have s1 : (Value.agg vs.toArray).cells = vs.toArray := rfl
  simp only [s1, List.size_toArray, h1, h2]
  rw [if_neg (by simp)]
  unfold Instr.fill
  congr 1
  apply Array.ext_getElem?
  intro k
  have h := (fold_at (0 * s) vs cells k).2
  rw [h]
  simp only [Nat.zero_mul, Nat.zero_le, Nat.zero_add, Nat.sub_zero, true_and, h1, h2, List.getElem?_toArray]
  by_cases hk : k < s
  · rw [if_pos ⟨hk, hk⟩]
  · rw [if_neg (by omega), Array.getElem?_eq_none (by omega), List.getElem?_eq_none (by omega)]
theorem op_rowPart {o : Oper} {a : Act} {w : World} {K : Act → World → Prop} {Q : Exit → Act → World → Prop} (x : Operand) (p : PartD) (ho : o.op = .buildSlice 120 1 #[(0, x)]) (hx : a.eval x = partV p)
    (h : K (a.put o.dst (.slice (some ⟨w.heap.size, 0, none⟩) 1 1)) (w.alloc (.cells (partC p).toArray 128))) : o.wp Tryz.prog a w K Q := by
  obtain ⟨ie, hie⟩ : ∃ i, Tryz.prog.info? 128 = some i := Option.isSome_iff_exists.1 (by kernel_rfl)
  have hs : ie.size = 202 := by have := size_part; rw [hie] at this; simpa using this
  obtain ⟨z, hz⟩ : ∃ z, ie.zero = some z := by
    have : (Tryz.prog.info? 128).map (fun i => i.zero.isSome) = some true := by kernel_rfl
    rw [hie] at this
    exact Option.isSome_iff_exists.1 (by simpa using this)
  refine wp_buildSlice _ 128 1 #[(0, x)] ho (partC p).toArray ie z Tryz.underlying120 hie hz (by rw [hs]; omega) (by rw [hs]; omega) ?_ h
  simp only [List.map_toArray, List.map_cons, List.map_nil, hx]
  rw [hs]
  exact fill_one (partC p) _ (partC_len p) (by simp)
theorem quiet_part {ops : Array Oper} {rest : List Oper} {o : Oper} {a : Act} {C : World → Prop} {Q : Act → Prop} (hw : Region.wanted o (yielded ops a.tmps) = true) (x y z : Operand) (s : Nat → Bool) (kd e : Int) (ho : o.op = .build 128 #[(0, x), (1, y), (2, z)])
    (hx : a.eval x = .agg (setA s)) (hy : a.eval y = .int .i64 kd) (hz : a.eval z = .int .i64 e) (h : wpQuiet Tryz.prog ops C Q rest (a.put o.dst (partV ⟨s, kd, e⟩))) : wpQuiet Tryz.prog ops C Q (o :: rest) a :=
  BigFrame.wpQuiet_want hw fun _ hK => ⟨partV ⟨s, kd, e⟩, fun w hC => by
    unfold Oper.quietAt execOp
    simp only [ho, List.map_toArray, List.map_cons, List.map_nil, hx, hy, hz, Sem.run_bind, run_build_part, Result.andThen_ok, Sem.run_pure]
    exact ⟨rfl, rfl⟩, hK _ h⟩
theorem wpList_load_midW {P : Program} {ops : Array Oper} {rest : List Oper} {o : Oper} {a : Act} {w : World} {Q : Exit → Act → World → Prop} (hw : Region.wanted o (yielded ops a.tmps) = true) (ty : TypeId) (x : Operand) (ho : o.op = .load ty x)
    (b q : Nat) (hx : a.eval x = .pointer (some ⟨b, q, none⟩)) (cs : List Value) (d : TypeDesc) (hc : w.rangeAt b q cs)
    (hu : P.underlying ty = some d) (hd : d.isRow = true) (hi : (P.info? ty).map (·.size) = some cs.length)
    (h : wpList P ops Q rest (a.put o.dst (.agg cs.toArray)) w) : wpList P ops Q (o :: rest) a w :=
  BigFrame.wpList_want hw fun _ hK => wp_load_mid ty x ho b q hx cs d hc hu hd hi (hK _ _ h)
theorem wpList_part {ops : Array Oper} {rest : List Oper} {o : Oper} {a : Act} {w : World} {Q : Exit → Act → World → Prop} (hgd : o.guard = none) (x y z : Operand) (s : Nat → Bool) (kd e : Int) (ho : o.op = .build 128 #[(0, x), (1, y), (2, z)])
    (hx : a.eval x = .agg (setA s)) (hy : a.eval y = .int .i64 kd) (hz : a.eval z = .int .i64 e) (h : wpList Tryz.prog ops Q rest (a.put o.dst (partV ⟨s, kd, e⟩)) w) : wpList Tryz.prog ops Q (o :: rest) a w :=
  wpList_plain hgd fun K hK => by
    unfold Oper.wp execOp
    simp only [ho, List.map_toArray, List.map_cons, List.map_nil, hx, hy, hz, Sem.run_bind, run_build_part, Result.andThen_ok, Sem.run_pure]
    exact hK _ _ h
theorem wpList_rowPart {ops : Array Oper} {rest : List Oper} {o : Oper} {a : Act} {w : World} {Q : Exit → Act → World → Prop} (hgd : o.guard = none) (x : Operand) (p : PartD) (ho : o.op = .buildSlice 120 1 #[(0, x)]) (hx : a.eval x = partV p)
    (h : wpList Tryz.prog ops Q rest (a.put o.dst (.slice (some ⟨w.heap.size, 0, none⟩) 1 1)) (w.alloc (.cells (partC p).toArray 128))) : wpList Tryz.prog ops Q (o :: rest) a w :=
  wpList_plain hgd fun _ hK => op_rowPart x p ho hx (hK _ _ h)
end

section
open Go.RowKit
attribute [local go_sem] Oper.semAt_some wide_fn wide_depth wide_fnR wide_depthR
def mkTile (k i : Nat) : List Value := [.int .i64 0, .int .i64 (markV (k : Int) (i : Int)), .slice none 0 0]
theorem mkTile_len (k i : Nat) : (mkTile k i).length = 3 := rfl
theorem szTile (k i : Nat) : (Tryz.prog.info? 76).map (·.size) = some (mkTile k i).length := by rw [mkTile_len]; kernel_rfl
theorem szATile (k i : Nat) : (Tryz.prog.info? 76).map (·.size) = some (mkTile k i).toArray.size := by rw [List.size_toArray]; exact szTile k i
abbrev mkVTile (k i : Nat) : Value := .agg (mkTile k i).toArray
theorem markTile_gen (k i : Nat) (w : World) (hk : k ≤ 100000000) (hi : i ≤ 100000000) :
    Calls Tryz.prog 55 #[.int .i64 (k : Int), .int .i64 (i : Int)] w fun e w' => e = .returned (mkVTile k i) ∧ Below w.heap.size w w' := by
  go_enter Tryz.func55, Tryz.ntmps55
  go_wp2_with (first
    | (go_at_call 112; refine (mark_any _ _ _ (by omega) (by omega)).mono ?_; rintro e w' ⟨rfl, rfl⟩)
    | (refine wpList_store_rowB rfl 76 _ _ rfl w.heap.size #[.int .i64 0, .int .i64 (markV (k : Int) (i : Int)), .slice none 0 0] rfl rfl 76 _ (heap_alloc_new w _) (by kernel_rfl) rfl (by simp [Value.oneCell']) w.heap.size w (ext_alloc w _) (Nat.le_refl _) ?_
       intro W3 hb3 X3
       have HX := Lib.hid hb3
       have j0 : W3.cell? ⟨w.heap.size, 0, none⟩ = some (.int .i64 0) := by rw [cell_of_row _ _ _ _ _ _ X3]; rfl
       have j1 : W3.cell? ⟨w.heap.size, 1, none⟩ = some (.int .i64 (markV (k : Int) (i : Int))) := by rw [cell_of_row _ _ _ _ _ _ X3]; rfl
       have j2 : W3.cell? ⟨w.heap.size, 2, none⟩ = some (.slice none 0 0) := by rw [cell_of_row _ _ _ _ _ _ X3]; rfl
       clear hb3 X3))
  refine bodyPost_ret (v := mkVTile k i) (by simp [results, Tryz.results55, go_sem, j0, j1, j2, mkTile]) rfl ⟨rfl, HX.out⟩
theorem sameTile_gen (k i : Nat) (w : World) (hk : k ≤ 100000000) (hi : i ≤ 100000000) :
    Calls Tryz.prog 66 #[mkVTile k i, mkVTile k i] w fun e w' => e = .returned (.bool true) ∧ Below w.heap.size w w' := by
  have h : TileOK w ⟨⟨0, markV (k : Int) (i : Int), []⟩, none, 0, 0⟩ := ⟨(OwnI.nil w 0).ints, Nat.le_refl _, by unfold I64; constructor <;> simp, by show I64 (markV (k : Int) (i : Int)); unfold I64 markV; omega⟩
  exact sameTile_any ⟨⟨0, markV (k : Int) (i : Int), []⟩, none, 0, 0⟩ ⟨⟨0, markV (k : Int) (i : Int), []⟩, none, 0, 0⟩ w rfl h h (by simp [TileNA])
theorem infoFTile : (Tryz.prog.info? 76).map (fun i => (i.zero, i.size, i.bytes)) = some (some (.agg #[.int .i64 0, .int .i64 0, .slice none 0 0]), 3, 40) := by kernel_rfl
theorem infoFsTile : (Tryz.prog.info? 26).map (fun i => (i.zero, i.size, i.bytes)) = some (some (.slice none 0 0), 1, 24) := by kernel_rfl
theorem wpList_rowTile {ops : Array Oper} {rest : List Oper} {o : Oper} {a : Act} {w : World} {Q : Exit → Act → World → Prop} (hgd : o.guard = none) (x : Operand) (k i : Nat) (ho : o.op = .buildSlice 26 1 #[(0, x)]) (hx : a.eval x = mkVTile k i)
    (h : wpList Tryz.prog ops Q rest (a.put o.dst (.slice (some ⟨w.heap.size, 0, none⟩) 1 1)) (w.alloc (.cells (mkTile k i).toArray 76))) : wpList Tryz.prog ops Q (o :: rest) a w :=
  wpList_plain hgd fun K hK => by
    obtain ⟨ie, hie⟩ : ∃ i, Tryz.prog.info? 76 = some i := Option.isSome_iff_exists.1 (by kernel_rfl)
    have hs : ie.size = 3 := by
      have : (Tryz.prog.info? 76).map (·.size) = some 3 := by kernel_rfl
      rw [hie] at this; simpa using this
    obtain ⟨z, hz⟩ : ∃ z, ie.zero = some z := by
      have : (Tryz.prog.info? 76).map (fun i => i.zero.isSome) = some true := by kernel_rfl
      rw [hie] at this
      exact Option.isSome_iff_exists.1 (by simpa using this)
    refine wp_buildSlice _ 76 1 #[(0, x)] ho (mkTile k i).toArray ie z Tryz.underlying26 hie hz (by rw [hs]; omega) (by rw [hs]; omega) ?_ (hK _ _ h)
    simp only [List.map_toArray, List.map_cons, List.map_nil, hx]
    rw [hs]
    exact fill_one (mkTile k i) _ (mkTile_len k i) (by simp)
theorem mkOneTile (k i : Nat) : ∀ u ∈ mkTile k i, u.oneCell' = true := by
  intro u hu
  simp only [mkTile, List.mem_cons, List.not_mem_nil, or_false] at hu
  rcases hu with rfl | rfl | rfl <;> rfl
theorem zOneTile (n : Nat) : ∀ u ∈ (madeCells #[.int .i64 0, .int .i64 0, .slice none 0 0] n).toList, u.oneCell' = true := by
  intro u hu
  simp only [madeCells, Array.toList_map, List.mem_map] at hu
  obtain ⟨j, _, rfl⟩ := hu
  have hm : j % 3 < 3 := Nat.mod_lt _ (by omega)
  have hc : j % 3 = 0 ∨ j % 3 = 1 ∨ j % 3 = 2 := by omega
  rcases hc with h | h | h <;> simp [h, Value.oneCell']
abbrev FATile := FA 76 26 3 mkTile
abbrev FBTile := FB 76 26 3 mkTile
abbrev FBiTile := FBi 76 26 3 mkTile
abbrev FDTile := FD 76 26 3 mkTile
abbrev FDiTile := FDi 76 26 3 mkTile
theorem flatTiles_any (a : Option Addr) (K c base : Nat) (rv : Nat → Value) (L : Nat → Nat) (w : World) (h : FIn 76 26 3 base K (.slice a K c) rv L w) (hK : K ≤ 1000000) (hL : ∀ j, j < K → L j ≤ 1000000) (hbase : base ≤ w.heap.size) :
    Calls Tryz.prog 156 #[.slice a K c] w fun e w' => e = .returned (.bool true) ∧ Chg (SB K rv) w w' := by
  have HS := Lib.hid h.sep
  have HL := Lib.hid hL
  have HF0 : Hid (FATile base K (.slice a K c) rv L w 0 0 w) := h.start
  clear h hL
  go_enter Tryz.func156, Tryz.ntmps156
  go_wp2
  go_loopw [3, 4] (fun kk ii wr => ∃ (k : Nat), k ≤ K ∧ kk = .int .i64 k ∧ Hid (FATile base K (.slice a K c) rv L w k 0 wr)) (fun kk _ _ => K - (intOf kk).toNat)
  case atStart => exact ⟨0, by omega, rfl, HF0⟩
  case round =>
    obtain ⟨k, hk, rfl, HF⟩ := hrel
    by_cases hlt : k < K
    · obtain ⟨O, cO, e0, hO⟩ := HF.out.outs hlt
      obtain ⟨ar, cr, e1, hc1, hc2⟩ := HF.out.row hlt
      simp only [Value.slice.injEq, true_and] at e0
      obtain ⟨rfl, rfl⟩ := e0
      rw [e1] at hO
      have hLk := HL.out k hlt
      have HE1 := Lib.hid e1
      clear e1
      unfold maxLen at hc2
      go_wp2
      go_loopw [4] (fun ii wr => ∃ (i : Nat), i ≤ L k ∧ ii = .int .i64 i ∧ Hid (FATile base K (.slice (some ⟨O, 0, none⟩) K c) rv L w k i wr)) (fun ii _ => L k - (intOf ii).toNat)
      case atStart => exact ⟨0, by omega, rfl, HF⟩
      case round =>
        clear HF hO
        obtain ⟨i, hi, rfl, HF⟩ := hrel
        obtain ⟨O', cO', e0, hO⟩ := HF.out.outs hlt
        simp only [Value.slice.injEq, true_and, Option.some.injEq, Addr.mk.injEq, and_true] at e0
        obtain ⟨rfl, rfl⟩ := e0
        rw [HE1.out] at hO
        obtain ⟨V, hV⟩ : ∃ V, V = wr := ⟨_, rfl⟩
        rw [← hV] at HF hO ⊢
        clear hV
        by_cases hlt2 : i < L k
        · obtain ⟨b, cap, e1, hcp1, hcp2, hth, hbl⟩ := HF.out.cellR hlt hlt2
          have HE2 := Lib.hid e1
          have HTH := Lib.hid hth
          rw [HE1.out] at e1
          simp only [Value.slice.injEq, true_and] at e1
          obtain ⟨rfl, rfl⟩ := e1
          have q0 : ∀ n' : ExtW V, n'.val.cell? ⟨O, k, none⟩ = some (.slice (some ⟨b, 0, none⟩) (L k) cr) := ExtW.cell hO
          have HNE : Nonempty (ExtW V) := ⟨⟨V, Below.refl _ _⟩⟩
          go_upto_region 7 with (fail)
          clear hO hth
          refine region_mix (fun w' => ∃ n' : ExtW V, w' = n'.val) [(0, 7, some (7, true)), (8, 1, some (9, false))] (by kernel_rfl) (by kernel_rfl) ⟨⟨_, ext_drewN (Below.refl _ _) 1⟩, rfl⟩ ?_
          simp only [wpMix, List.take_succ_cons, List.take_zero, List.drop_succ_cons, List.drop_zero]
          repeat (go_big_quiet_step (fail))
          refine wpQuiet_nil ?_
          refine wpOp_at rfl rfl ?_
          go_simp
          refine (markTile_gen k i V.drew (by omega) (by omega)).mono ?_
          rintro e w3 ⟨rfl, hb3⟩
          have hb3 := unDrew1 hb3
          refine ⟨⟨⟨w3, hb3⟩, rfl⟩, ?_⟩
          have HF3 := Lib.hid (HF.out.ext hb3)
          have hth3 : w3.there b (i * 3) (mkTile k i).toArray.size := by
            rw [List.size_toArray, mkTile_len]
            intro j hj
            obtain ⟨h1, h2⟩ := HTH.out j hj
            obtain ⟨u, hu⟩ := Option.isSome_iff_exists.1 h1
            exact ⟨by rw [cell_ext hb3 hu]; rfl, by rw [hb3.frozen (p := ⟨b, i * 3 + j, none⟩) hbl]; exact h2⟩
          have HTH3 := Lib.hid hth3
          clear hb3 hth3 HTH
          repeat (go_big_quiet_step (fail))
          refine wpQuiet_nil ?_
          refine wpOp_at rfl rfl ?_
          refine wp_store_mid 76 _ _ rfl b (i * 3) (mkTile k i).toArray rfl rfl HTH3.out (szATile k i) (all_oneCell_toArray (mkOneTile k i)) ?_
          refine NoPanic.normal ?_
          simp only [put_none]
          have HN := Lib.hid (HF3.out.storeR mkTile_len (by decide) HS.out hlt hlt2 HE2.out)
          obtain ⟨w4, hw4⟩ : ∃ x, x = w3.setCells b (i * 3) (mkTile k i) := ⟨_, rfl⟩
          rw [← hw4] at HN ⊢
          clear hw4 q0
          go_wp2
          go_roundw
          case rel => exact ⟨i + 1, by omega, by go_num, HN⟩
          case measure => simp [intOf]; omega
        · obtain rfl : i = L k := by omega
          go_wp2
          go_roundw
          case rel => exact ⟨k + 1, by omega, by go_num, HF.out.next⟩
          case measure => simp [intOf]; omega
    · obtain rfl : k = K := by omega
      obtain ⟨i0, hi, hz0, hz1, hz2⟩ := info_parts (P := Tryz.prog) infoFsTile
      go_wp2_with (first
        | (at_make
           refine wpList_make_full wr rfl _ _ 58 rfl base 26 i0 (.slice none 0 0) 1 Tryz.underlying58 hi hz0 hz1 .i64 .i64 _ _ k rfl rfl rfl rfl (by rw [hz2]; omega) (by simp only [maxLen]; omega) (by have := HF.out.chg.size; omega) ?_
           intro w3 hown3 hg3
           have HB0 := Lib.hid (HF.out.made hg3 (by
             have e : (madeCells (Value.slice none 0 0).cells (k * 1)).toList = List.replicate k (.slice none 0 0) := by
               have : (Value.slice none 0 0).cells = #[.slice none 0 0] := rfl
               rw [this, toList_madeCells_one, Nat.mul_one]
             rw [e] at hown3
             exact hown3))
           clear hown3 hg3))
      clear hi hz0 hz1 hz2
      generalize wr.heap.size = G at *
      clear HF HF0
      go_loopw [6, 7, 8] (fun kk gg ii wr => ∃ (j : Nat) (gv : Nat → Value), j ≤ k ∧ kk = .int .i64 j ∧ Hid (FBTile base k (.slice a k c) rv L w G j gv wr)) (fun kk _ _ _ => k - (intOf kk).toNat)
      case atStart => exact ⟨0, _, by omega, rfl, HB0⟩
      case round =>
        clear HB0
        obtain ⟨j, gv, hj, rfl, HF⟩ := hrel
        by_cases hlt2 : j < k
        · obtain ⟨O, cO, e0, hO, hG, hfz⟩ := HF.out.outs hlt2
          obtain ⟨ar, cr, e1, hc1, hc2⟩ := HF.out.row hlt2
          simp only [Value.slice.injEq, true_and] at e0
          obtain ⟨rfl, rfl⟩ := e0
          rw [e1] at hO
          have hLk := HL.out j hlt2
          have HI0 := Lib.hid (HF.out.start HS.out hlt2)
          rw [e1] at HI0
          have HE1 := Lib.hid e1
          clear e1
          unfold maxLen at hc2
          go_wp2
          go_loopw [7, 8] (fun gg ii wr => ∃ (i : Nat), i ≤ 64 ∧ ii = .int .i64 i ∧ Hid (FBiTile base k (.slice (some ⟨O, 0, none⟩) k c) rv L w G j i gv gg wr)) (fun _ ii _ => 64 - (intOf ii).toNat)
          case atStart => exact ⟨0, by omega, rfl, HI0⟩
          case round =>
            clear HI0 HF hO hG hfz
            obtain ⟨i, hi, rfl, HI⟩ := hrel
            obtain ⟨O', cO', e0, hO, hG, hfz⟩ := HI.out.fb.outs hlt2
            simp only [Value.slice.injEq, true_and, Option.some.injEq, Addr.mk.injEq, and_true] at e0
            obtain ⟨rfl, rfl⟩ := e0
            rw [HE1.out] at hO
            obtain ⟨V, hV⟩ : ∃ V, V = wr := ⟨_, rfl⟩
            rw [← hV] at HI hO hG hfz ⊢
            clear hV
            by_cases hlt3 : i < 64
            · have hcast : (L j : Int) + (i : Int) = ((L j + i : Nat) : Int) := by omega
              have HCA := Lib.hid hcast
              clear hcast
              go_wp2_with (first
                | (go_at_call 55
                   try rw [HCA.out]
                   refine (markTile_gen j (L j + i) V (by omega) (by omega)).mono ?_
                   rintro e w1 ⟨rfl, hb1⟩
                   have HI1 := Lib.hid (HI.out.ext hb1)
                   have hsz1 := hb1.size
                   clear hb1)
                | ((with_reducible show wpList _ _ _ (⟨some 67, _, _, _, _, _⟩ :: _) _ _); refine wpList_rowTile (o := ⟨some 67, .buildSlice _ _ _, _, _, _, _⟩) rfl _ j (L j + i) rfl rfl ?_)
                | (at_builtin
                   refine wpList_append1K rfl w1 (.tmp 57) (.tmp 67) 26 76 rfl base _ 3 40 Tryz.underlying26 infoFTile rfl (by omega) u7 (L j + i) _ (mkTile j (L j + i)) rfl HI1.out.row w1.heap.size rfl rfl (mkTile_len _ _) (mkOneTile _ _) (by simp only [maxLen]; omega) (by omega) (by have := HI1.out.fb.chg.size; omega) ?_
                   intro g cap w2 hown2 hg2 hat2 hkeep2
                   have HI2 : Hid (FBiTile base k (.slice (some ⟨O, 0, none⟩) k c) rv L w G j (i + 1) gv (.slice (some ⟨g, 0, none⟩) (L j + i + 1) cap) w2) := HI1.out.step (by decide) hlt2 hown2 hg2 rfl hat2 (by omega) hkeep2
                   clear hown2 hat2 hg2 hkeep2))
              go_roundw
              case rel => exact ⟨i + 1, by omega, by go_num, HI2⟩
              case measure => simp [intOf]; omega
            · obtain rfl : i = 64 := by omega
              obtain ⟨ag, cg, eg⟩ := row_slice HI.out.row
              subst eg
              go_wp2
              go_roundw
              case rel => exact ⟨j + 1, _, by omega, by go_num, HI.out.fin (by decide) hlt2⟩
              case measure => simp [intOf]; omega
        · obtain rfl : j = k := by omega
          clear hj hk hlt hlt2
          obtain ⟨V0, hV0⟩ : ∃ V, V = wr := ⟨_, rfl⟩
          rw [← hV0] at HF ⊢
          clear hV0
          go_wp2
          go_loopw [9, 10] (fun kk ii wz => ∃ (k : Nat), k ≤ j ∧ kk = .int .i64 k ∧ Hid (Below V0.heap.size V0 wz)) (fun kk _ _ => j - (intOf kk).toNat)
          case atStart => exact ⟨0, by omega, rfl, Below.refl _ _⟩
          case round =>
            obtain ⟨k, hk, rfl, HBk⟩ := hrel
            by_cases hlt : k < j
            · obtain ⟨O, cO, e0, hO, hG, hfz⟩ := (HF.out.ext HBk.out).outs hlt
              obtain ⟨ar, cr, e1, hc1, hc2⟩ := HF.out.row hlt
              simp only [Value.slice.injEq, true_and] at e0
              obtain ⟨rfl, rfl⟩ := e0
              rw [if_pos hlt] at hG
              rw [e1] at hO
              obtain ⟨ag, cg, eg⟩ := row_slice (HF.out.grow k hlt)
              rw [eg] at hG
              have HE1 := Lib.hid e1
              have HEG := Lib.hid eg
              clear e1 eg
              have hLk := HL.out k hlt
              unfold maxLen at hc2
              go_wp2
              go_loopw [10] (fun ii wz => ∃ (i : Nat), i ≤ L k + 64 ∧ ii = .int .i64 i ∧ Hid (Below V0.heap.size V0 wz)) (fun ii _ => L k + 64 - (intOf ii).toNat)
              case atStart => exact ⟨0, by omega, rfl, HBk⟩
              case round =>
                obtain ⟨i, hi, rfl, HBi⟩ := hrel
                clear hO hG hfz HBk
                obtain ⟨O', cO', e0, hO, hG, hfz⟩ := (HF.out.ext HBi.out).outs hlt
                simp only [Value.slice.injEq, true_and, Option.some.injEq, Addr.mk.injEq, and_true] at e0
                obtain ⟨rfl, rfl⟩ := e0
                rw [if_pos hlt, HEG.out] at hG
                rw [HE1.out] at hO
                by_cases hlt2 : i < L k + 64
                · have hgr := (HF.out.ext HBi.out).grow k hlt
                  rw [HEG.out] at hgr
                  obtain ⟨bg, rfl⟩ : ∃ g, ag = some ⟨g, 0, none⟩ := by
                    obtain ⟨g, c', e⟩ := own_form hgr (by omega)
                    injection e with e _ _
                    exact ⟨g, e⟩
                  have hrg := own_rng (Z := []) mkTile_len (by rw [List.append_nil]; exact hgr) (Nat.le_refl _) hlt2
                  have HRG := Lib.hid hrg
                  clear hgr hrg
                  obtain ⟨V, hV⟩ : ∃ V, V = wr := ⟨_, rfl⟩
                  rw [← hV] at hO hG HRG HBi ⊢
                  clear hV
                  have q0 : ∀ n' : ExtW V, n'.val.cell? ⟨O, k, none⟩ = some (.slice ar (L k) cr) := ExtW.cell hO
                  have q1 : ∀ n' : ExtW V, n'.val.cell? ⟨G, k, none⟩ = some (.slice (some ⟨bg, 0, none⟩) (L k + 64) cg) := ExtW.cell hG
                  have QG : Hid (∀ w', (∃ n' : ExtW V, w' = n'.val) → w'.rangeAt bg (i * 3) (mkTile k i)) := fun w' ⟨n', e⟩ => by rw [e]; exact fun j v hv => cell_ext n'.ext (HRG.out j v hv)
                  have HNE : Nonempty (ExtW V) := ⟨⟨V, Below.refl _ _⟩⟩
                  have HMK : Hid (∀ n' : ExtW V, Calls Tryz.prog 55 #[.int .i64 (k : Int), .int .i64 (i : Int)] n'.val fun e w'' => e = .returned (mkVTile k i) ∧ ∃ m : ExtW V, w'' = m.val) := fun n' => quiet_ext (markTile_gen k i n'.val (by omega) (by omega))
                  have HSM : Hid (∀ n' : ExtW V, Calls Tryz.prog 66 #[mkVTile k i, mkVTile k i] n'.val fun e w'' => e = .returned (.bool true) ∧ ∃ m : ExtW V, w'' = m.val) := fun n' => quiet_ext (sameTile_gen k i n'.val (by omega) (by omega))
                  clear hfz HRG
                  by_cases hlt3 : i < L k
                  · have hrr := (HF.out.ext HBi.out).rows k hlt
                    rw [HE1.out] at hrr
                    obtain ⟨br, rfl⟩ : ∃ g, ar = some ⟨g, 0, none⟩ := by
                      obtain ⟨g, c', e⟩ := own_form hrr (by omega)
                      injection e with e _ _
                      exact ⟨g, e⟩
                    have hrg := own_rng (Z := []) mkTile_len (by rw [List.append_nil]; exact hrr) (Nat.le_refl _) hlt3
                    have HRR := Lib.hid hrg
                    have QR : Hid (∀ w', (∃ n' : ExtW V, w' = n'.val) → w'.rangeAt br (i * 3) (mkTile k i)) := fun w' ⟨n', e⟩ => by rw [e]; exact fun j v hv => cell_ext n'.ext (HRR.out j v hv)
                    clear hrr hrg HRR
                    have d1 : decide (i < L k) = true := by simpa using hlt3
                    go_upto_region 24 with (fail)
                    clear hO hG
                    refine region_ext (by kernel_rfl) (by kernel_rfl) ?_
                    repeat (first
                      | go_big_quiet_skip
                      | ((with_reducible show wpQuiet _ _ _ _ (⟨some 94, _, _, _, _, _⟩ :: _) _); refine wpQuiet_load_mid (o := ⟨some 94, .load 76 _, _, _, _, _⟩) (by kernel_rfl) 76 _ rfl bg (i * 3) rfl (mkTile k i) _ QG.out Tryz.underlying76 rfl (szTile _ _) ?_; simp only [zJ,zG,zH,zI])
                      | ((with_reducible show wpQuiet _ _ _ _ (⟨some 115, _, _, _, _, _⟩ :: _) _); refine wpQuiet_load_mid (o := ⟨some 115, .load 76 _, _, _, _, _⟩) (by kernel_rfl) 76 _ rfl br (i * 3) rfl (mkTile k i) _ QR.out Tryz.underlying76 rfl (szTile _ _) ?_; simp only [zJ,zG,zH,zI])
                      | go_big_quiet_step (first | (go_at_call 55; exact HMK.out _) | (go_at_call 66; exact HSM.out _)))
                    refine wpQuiet_nil ?_
                    rintro _ ⟨n', rfl⟩
                    have HB8 := Lib.hid (ext_trans HBi.out n'.ext)
                    clear q0 q1 HMK HSM QG QR
                    go_wp2
                    go_roundw
                    case rel => exact ⟨i + 1, by omega, by go_num, HB8⟩
                    case measure => simp [intOf]; omega
                  · have d1 : decide (i < L k) = false := by simpa using hlt3
                    go_upto_region 24 with (fail)
                    clear hO hG
                    refine region_ext (by kernel_rfl) (by kernel_rfl) ?_
                    repeat (first
                      | go_big_quiet_skip
                      | ((with_reducible show wpQuiet _ _ _ _ (⟨some 94, _, _, _, _, _⟩ :: _) _); refine wpQuiet_load_mid (o := ⟨some 94, .load 76 _, _, _, _, _⟩) (by kernel_rfl) 76 _ rfl bg (i * 3) rfl (mkTile k i) _ QG.out Tryz.underlying76 rfl (szTile _ _) ?_; simp only [zJ,zG,zH,zI])
                      | go_big_quiet_step (first | (go_at_call 55; exact HMK.out _) | (go_at_call 66; exact HSM.out _)))
                    refine wpQuiet_nil ?_
                    rintro _ ⟨n', rfl⟩
                    have HB8 := Lib.hid (ext_trans HBi.out n'.ext)
                    clear q0 q1 HMK HSM QG
                    go_wp2
                    go_roundw
                    case rel => exact ⟨i + 1, by omega, by go_num, HB8⟩
                    case measure => simp [intOf]; omega
                · obtain rfl : i = L k + 64 := by omega
                  go_wp2
                  go_roundw
                  case rel => exact ⟨k + 1, by omega, by go_num, HBi⟩
                  case measure => simp [intOf]; omega
            · obtain rfl : k = j := by omega
              have HD0 := Lib.hid ((HF.out.ext HBk.out).toD)
              clear HF hk hlt HBk
              obtain ⟨i0, hi, hz0, hz1, hz2⟩ := info_parts (P := Tryz.prog) infoFTile
              go_wp2
              go_loopw [11, 12, 13] (fun kk mm ii wz => ∃ (j : Nat) (gl : Nat → Value), j ≤ k ∧ kk = .int .i64 j ∧ Hid (FDTile base k (.slice a k c) rv L w G j gl wz)) (fun kk _ _ _ => k - (intOf kk).toNat)
              case atStart => exact ⟨0, _, by omega, rfl, HD0⟩
              case round =>
                clear HD0
                obtain ⟨j, gl, hj, rfl, HD⟩ := hrel
                by_cases hlt : j < k
                · have hLk := HL.out j hlt
                  go_wp2_with (first
                    | (at_make
                       refine wpList_make_full wr rfl _ _ 26 rfl base 76 i0 (.agg #[.int .i64 0, .int .i64 0, .slice none 0 0]) 3 Tryz.underlying26 hi hz0 hz1 .i64 .i64 _ _ 64 rfl rfl rfl rfl (by rw [hz2]; omega) (by simp only [maxLen]; omega) (by have := HD.out.chg.size; omega) ?_
                       intro w3 hown3 hg3
                       have HM0 := Lib.hid (HD.out.made hg3 hown3 (zOneTile _) (by omega))
                       clear hown3 hg3))
                  generalize wr.heap.size = M at *
                  go_loopw [13] (fun ii wz => ∃ (i : Nat), i ≤ 64 ∧ ii = .int .i64 i ∧ Hid (FDiTile base k (.slice a k c) rv L w G j gl M wz)) (fun ii _ => 64 - (intOf ii).toNat)
                  case atStart => exact ⟨0, by omega, rfl, HM0⟩
                  case round =>
                    clear HM0 HD
                    obtain ⟨i, hi2, rfl, HM⟩ := hrel
                    obtain ⟨V, hV⟩ : ∃ V, V = wr := ⟨_, rfl⟩
                    rw [← hV] at HM ⊢
                    clear hV
                    by_cases hlt2 : i < 64
                    · have hcast : (j : Int) + (k : Int) = ((j + k : Nat) : Int) := by omega
                      have HCA := Lib.hid hcast
                      clear hcast
                      go_wp2_with (first
                        | (go_at_call 55
                           try rw [HCA.out]
                           refine (markTile_gen (j + k) i V (by omega) (by omega)).mono ?_
                           rintro e w1 ⟨rfl, hb1⟩
                           have HM1 := Lib.hid (HM.out.ext hb1)
                           have hth1 : w1.there M (i * 3) (mkTile (j + k) i).toArray.size := (by
                             obtain ⟨Y, hY, _⟩ := HM1.out.many
                             rw [List.size_toArray, mkTile_len]
                             exact own_there hY hlt2)
                           have HTH1 := Lib.hid hth1
                           clear hb1 hth1)
                        | ((with_reducible show wpList _ _ _ (⟨none, _, _, _, _, _⟩ :: _) _ _); refine wpList_store_mid rfl 76 _ _ rfl M (i * 3) (mkTile (j + k) i).toArray rfl rfl HTH1.out (szATile _ _) (all_oneCell_toArray (mkOneTile _ _)) ?_))
                      have HN := Lib.hid (HM1.out.setR (by decide) hlt2 (mkTile (j + k) i) (mkTile_len _ _) (mkOneTile _ _))
                      go_roundw
                      case rel => exact ⟨i + 1, by omega, by go_num, HN⟩
                      case measure => simp [intOf]; omega
                    · obtain ⟨O, cO, e0, hO, hG, hfz, _, _⟩ := HM.out.fd.outs hlt
                      obtain ⟨ar, cr, e1, hc1, hc2⟩ := HM.out.fd.row hlt
                      simp only [Value.slice.injEq, true_and] at e0
                      obtain ⟨rfl, rfl⟩ := e0
                      rw [e1] at hO
                      have hrow := HM.out.fd.rows j hlt
                      rw [e1] at hrow
                      have HROW := Lib.hid hrow
                      have HE1 := Lib.hid e1
                      clear e1 hrow
                      obtain ⟨Y, hY, hY1⟩ := HM.out.many
                      have HY := Lib.hid hY
                      have HY1 := Lib.hid hY1
                      clear hY hY1
                      unfold maxLen at hc2
                      go_wp2_with (first
                        | (at_builtin
                           refine wpList_appendK rfl V (.tmp 148) (.tmp 149) 26 76 rfl base (.agg #[.int .i64 0, .int .i64 0, .slice none 0 0]) 3 40 Tryz.underlying26 infoFTile rfl (by omega) (.slice ar (L j) cr) (L j) _ rfl HROW.out M 64 64 Y rfl HY.out HY1.out (by simp only [maxLen]; omega) (by omega) (by have := HM.out.fd.chg.size; omega) ?_
                           intro v2 w2 hown2 hg2 hat2 hkeep2
                           obtain ⟨a2, c2, e2⟩ := row_slice hown2
                           subst e2
                           have hG2 : w2.ownsRow base 26 1 (.slice (some ⟨G, 0, none⟩) k k) k ((List.range k).map gl) := HM.out.fd.gs.kept hg2 (.inr (fun e => rows_ne HM.out.fd.gs HROW.out (by decide) G rfl e.symm))
                           have hG3 := World.ownsRow.cellAt hG2 j (by omega)
                           have hG4 := World.ownsRow.frozenAt hG2 j
                           have hlen : ((List.range k).map gl).length = k := by simp
                           rw [List.getElem?_eq_getElem (by omega)] at hG3
                           obtain ⟨ug, hug⟩ : ∃ u, w2.cell? ⟨G, j, none⟩ = some u := ⟨_, hG3⟩
                           clear hG3
                           have HD2 : Hid (FDTile base k (.slice (some ⟨O, 0, none⟩) k c) rv L w G (j + 1) (fun i => if i = j then (.slice a2 (L j + 64) c2) else gl i) (w2.setCell ⟨G, j, none⟩ (.slice a2 (L j + 64) c2))) := by
                             have e := HE1.out
                             refine HM.out.fin (by decide) HS.out hlt hown2 (by rw [e]; exact hg2) (by rw [e]; exact hat2) (by rw [e]; exact hkeep2)
                           clear hown2 hg2 hat2 hkeep2 hG2 hlen))
                      go_roundw
                      case rel => exact ⟨j + 1, _, by omega, by go_num, HD2⟩
                      case measure => simp [intOf]; omega
                · obtain rfl : j = k := by omega
                  clear hj hlt hi hz0 hz1 hz2
                  obtain ⟨V0, hV0⟩ : ∃ V, V = wr := ⟨_, rfl⟩
                  rw [← hV0] at HD ⊢
                  clear hV0
                  go_wp2
                  go_loopw [14, 15] (fun kk ii wz => ∃ (k : Nat), k ≤ j ∧ kk = .int .i64 k ∧ Hid (Below V0.heap.size V0 wz)) (fun kk _ _ => j - (intOf kk).toNat)
                  case atStart => exact ⟨0, by omega, rfl, Below.refl _ _⟩
                  case round =>
                    obtain ⟨k, hk, rfl, HBk⟩ := hrel
                    by_cases hlt : k < j
                    · obtain ⟨O, cO, e0, hO, hG, hfz, _, _⟩ := (HD.out.ext HBk.out).outs hlt
                      obtain ⟨ar, cr, e1, hc1, hc2⟩ := HD.out.row hlt
                      simp only [Value.slice.injEq, true_and] at e0
                      obtain ⟨rfl, rfl⟩ := e0
                      rw [e1] at hO
                      obtain ⟨Z, hZ⟩ := HD.out.grow k hlt
                      have HZ := Lib.hid hZ
                      obtain ⟨ag, cg, eg⟩ := row_slice hZ
                      have HE1 := Lib.hid e1
                      have HEG := Lib.hid eg
                      clear e1 eg hZ
                      have hLk := HL.out k hlt
                      unfold maxLen at hc2
                      go_wp2
                      go_loopw [15] (fun ii wz => ∃ (i : Nat), i ≤ L k ∧ ii = .int .i64 i ∧ Hid (Below V0.heap.size V0 wz)) (fun ii _ => L k - (intOf ii).toNat)
                      case atStart => exact ⟨0, by omega, rfl, HBk⟩
                      case round =>
                        obtain ⟨i, hi2, rfl, HBi⟩ := hrel
                        clear hO hG hfz HBk
                        obtain ⟨O', cO', e0, hO, hG, hfz, _, _⟩ := (HD.out.ext HBi.out).outs hlt
                        simp only [Value.slice.injEq, true_and, Option.some.injEq, Addr.mk.injEq, and_true] at e0
                        obtain ⟨rfl, rfl⟩ := e0
                        rw [HE1.out] at hO
                        rw [HEG.out] at hG
                        by_cases hlt3 : i < L k
                        · have hgr := own_below HZ.out HBi.out
                          rw [HEG.out] at hgr
                          obtain ⟨bg, rfl⟩ : ∃ g, ag = some ⟨g, 0, none⟩ := by
                            obtain ⟨g, c', e⟩ := own_form hgr (by omega)
                            injection e with e _ _
                            exact ⟨g, e⟩
                          have hrg := own_rng mkTile_len hgr (by omega) hlt3
                          have hrr := (HD.out.ext HBi.out).rows k hlt
                          rw [HE1.out] at hrr
                          obtain ⟨br, rfl⟩ : ∃ g, ar = some ⟨g, 0, none⟩ := by
                            obtain ⟨g, c', e⟩ := own_form hrr (by omega)
                            injection e with e _ _
                            exact ⟨g, e⟩
                          have hrr2 := own_rng (Z := []) mkTile_len (by rw [List.append_nil]; exact hrr) (Nat.le_refl _) hlt3
                          have HRG := Lib.hid hrg
                          have HRR := Lib.hid hrr2
                          clear hgr hrg hrr hrr2
                          obtain ⟨V, hV⟩ : ∃ V, V = wr := ⟨_, rfl⟩
                          rw [← hV] at hO hG HRG HRR HBi ⊢
                          clear hV
                          have q0 : ∀ n' : ExtW V, n'.val.cell? ⟨O, k, none⟩ = some (.slice (some ⟨br, 0, none⟩) (L k) cr) := ExtW.cell hO
                          have q1 : ∀ n' : ExtW V, n'.val.cell? ⟨G, k, none⟩ = some (.slice (some ⟨bg, 0, none⟩) (L k + 64) cg) := ExtW.cell hG
                          have QG : Hid (∀ w', (∃ n' : ExtW V, w' = n'.val) → w'.rangeAt bg (i * 3) (mkTile k i)) := fun w' ⟨n', e⟩ => by rw [e]; exact fun j v hv => cell_ext n'.ext (HRG.out j v hv)
                          have QR : Hid (∀ w', (∃ n' : ExtW V, w' = n'.val) → w'.rangeAt br (i * 3) (mkTile k i)) := fun w' ⟨n', e⟩ => by rw [e]; exact fun j v hv => cell_ext n'.ext (HRR.out j v hv)
                          have HNE : Nonempty (ExtW V) := ⟨⟨V, Below.refl _ _⟩⟩
                          have HMK : Hid (∀ n' : ExtW V, Calls Tryz.prog 55 #[.int .i64 (k : Int), .int .i64 (i : Int)] n'.val fun e w'' => e = .returned (mkVTile k i) ∧ ∃ m : ExtW V, w'' = m.val) := fun n' => quiet_ext (markTile_gen k i n'.val (by omega) (by omega))
                          have HSM : Hid (∀ n' : ExtW V, Calls Tryz.prog 66 #[mkVTile k i, mkVTile k i] n'.val fun e w'' => e = .returned (.bool true) ∧ ∃ m : ExtW V, w'' = m.val) := fun n' => quiet_ext (sameTile_gen k i n'.val (by omega) (by omega))
                          clear hfz HRG HRR
                          go_upto_region 41 with (fail)
                          clear hO hG
                          refine region_ext (by kernel_rfl) (by kernel_rfl) ?_
                          repeat (first
                            | go_big_quiet_skip
                            | ((with_reducible show wpQuiet _ _ _ _ (⟨some 173, _, _, _, _, _⟩ :: _) _); refine wpQuiet_load_mid (o := ⟨some 173, .load 76 _, _, _, _, _⟩) (by kernel_rfl) 76 _ rfl br (i * 3) rfl (mkTile k i) _ QR.out Tryz.underlying76 rfl (szTile _ _) ?_; simp only [zJ,zG,zH,zI])
                            | ((with_reducible show wpQuiet _ _ _ _ (⟨some 186, _, _, _, _, _⟩ :: _) _); refine wpQuiet_load_mid (o := ⟨some 186, .load 76 _, _, _, _, _⟩) (by kernel_rfl) 76 _ rfl bg (i * 3) rfl (mkTile k i) _ QG.out Tryz.underlying76 rfl (szTile _ _) ?_; simp only [zJ,zG,zH,zI])
                            | go_big_quiet_step (first | (go_at_call 55; exact HMK.out _) | (go_at_call 66; exact HSM.out _)))
                          refine wpQuiet_nil ?_
                          rintro _ ⟨n', rfl⟩
                          have HB8 := Lib.hid (ext_trans HBi.out n'.ext)
                          clear q0 q1 HMK HSM QG QR
                          go_wp2
                          go_roundw
                          case rel => exact ⟨i + 1, by omega, by go_num, HB8⟩
                          case measure => simp [intOf]; omega
                        · obtain rfl : i = L k := by omega
                          go_wp2
                          go_roundw
                          case rel => exact ⟨k + 1, by omega, by go_num, HBi⟩
                          case measure => simp [intOf]; omega
                    · go_wp2
                      go_ret
                      exact ⟨rfl, HD.out.chg.grown (below_grown HBk.out) (fun k e => by cases e)⟩
end

section
open Go.RowKit
def cmpV (x y : Int) : Int := if x < y then -1 else if y < x then 1 else 0
def orV : List Int → Int
  | [] => 0
  | x :: l => if x = 0 then orV l else x
theorem orV_hit : ∀ (l : List Int) (k : Nat), k < l.length → (∀ j, j < k → l.getD j 0 = 0) → l.getD k 0 ≠ 0 → orV l = l.getD k 0
  | x :: l, 0, _, _, h => by simp only [orV, List.getD_cons_zero] at h ⊢; rw [if_neg h]
  | x :: l, k + 1, hk, h0, h => by
    have h1 : x = 0 := by have := h0 0 (by omega); simpa using this
    rw [orV, if_pos h1, List.getD_cons_succ]
    exact orV_hit l k (by simpa using hk) (fun j hj => by have := h0 (j + 1) (by omega); simpa using this) (by simpa using h)
theorem orV_none : ∀ (l : List Int), (∀ j, j < l.length → l.getD j 0 = 0) → orV l = 0
  | [], _ => rfl
  | x :: l, h => by
    have h1 : x = 0 := by have := h 0 (by simp); simpa using this
    rw [orV, if_pos h1]
    exact orV_none l fun j hj => by have := h (j + 1) (by simpa using hj); simpa using this
theorem isNaN_any (x : Int) (w : World) : Calls Tryz.prog 136 #[.int .i64 x] w fun e w' => e = .returned (.bool false) ∧ w = w' := by
  go_enter Tryz.func136, Tryz.ntmps136
  go_wp2
  go_ret
  exact ⟨rfl, rfl⟩
theorem compare_any (x y : Int) (w : World) : Calls Tryz.prog 85 #[.int .i64 x, .int .i64 y] w fun e w' => e = .returned (.int .i64 (cmpV x y)) ∧ w = w' := by
  by_cases h1 : x < y
  · have HE : Hid (cmpV x y = -1) := by rw [Hid, cmpV, if_pos h1]
    go_enter Tryz.func85, Tryz.ntmps85
    go_wp2_with (go_at_call 136; refine (isNaN_any _ _).mono ?_; rintro e w1 ⟨rfl, rfl⟩)
    go_ret
    exact ⟨by rw [HE.out]; rfl, rfl⟩
  · by_cases h2 : y < x
    · have HE : Hid (cmpV x y = 1) := by rw [Hid, cmpV, if_neg h1, if_pos h2]
      go_enter Tryz.func85, Tryz.ntmps85
      go_wp2_with (go_at_call 136; refine (isNaN_any _ _).mono ?_; rintro e w1 ⟨rfl, rfl⟩)
      go_ret
      exact ⟨by rw [HE.out]; rfl, rfl⟩
    · have HE : Hid (cmpV x y = 0) := by rw [Hid, cmpV, if_neg h1, if_neg h2]
      go_enter Tryz.func85, Tryz.ntmps85
      go_wp2_with (go_at_call 136; refine (isNaN_any _ _).mono ?_; rintro e w1 ⟨rfl, rfl⟩)
      go_ret
      exact ⟨by rw [HE.out]; rfl, rfl⟩
theorem cmpOr_any (a : Option Addr) (n c : Nat) (xs : List Int) (w : World) (h : Ints w a n xs) : Calls Tryz.prog 84 #[.slice a n c] w fun e w' => e = .returned (.int .i64 (orV xs)) ∧ w = w' := by
  obtain ⟨hl, hn, hc⟩ := h
  have HL := Lib.hid hl
  have HC := Lib.hid hc
  clear hl hc
  go_enter Tryz.func84, Tryz.ntmps84
  go_wp2
  go_loopw [5, 8] (fun _ i wr => ∃ (k : Nat), k ≤ n ∧ i = .int .i64 k ∧ wr = w ∧ Hid (∀ j, j < k → xs.getD j 0 = 0)) (fun _ i _ => n - (intOf i).toNat)
  case atStart => exact ⟨0, by omega, rfl, rfl, fun j hj => absurd hj (by omega)⟩
  case round =>
    obtain ⟨k, hk, rfl, rfl, HR⟩ := hrel
    by_cases hlt : k < n
    · have hlt' : (k : Int) < (n : Int) := by omega
      obtain ⟨b, o, rfl, hcell, _⟩ := HC.out k hlt
      by_cases he : xs.getD k 0 = 0
      · have HE : Hid (∀ j, j < k + 1 → xs.getD j 0 = 0) := fun j hj => by
          by_cases hjk : j = k
          · subst hjk; exact he
          · exact HR.out j (by omega)
        rw [he] at hcell
        clear he
        go_wp2
        go_roundw
        case rel => exact ⟨k + 1, by omega, by go_num, trivial, HE⟩
        case measure => simp [intOf]; omega
      · have HE : Hid (orV xs = xs.getD k 0) := orV_hit xs k (by rw [HL.out]; exact hlt) HR.out he
        have hne : (xs.getD k 0 != 0) = true := by simpa using he
        generalize xs.getD k 0 = y at *
        go_wp2
        go_ret
        exact ⟨by rw [HE.out]; rfl, rfl⟩
    · have hlt' : ¬ (k : Int) < (n : Int) := by omega
      have HE : Hid (orV xs = 0) := orV_none xs fun j hj => HR.out j (by rw [HL.out] at hj; omega)
      go_wp2
      go_ret
      exact ⟨by rw [HE.out]; rfl, rfl⟩
theorem or_cmp (a b x y : Int) : orV [cmpV a b, cmpV x y] < 0 ↔ a < b ∨ a = b ∧ x < y := by
  simp only [orV, cmpV]
  repeat' split
  all_goals omega
end

section
open Go.RowKit Go.Shelf
attribute [local go_sem] Oper.semAt_some wide_fn wide_depth wide_fnR wide_depthR
theorem ent1_any (f : Nat → Bool) (S : Nat) (x : Nat) (hx : x < 200) (W : World) (hS : W.heap[S]? = some (setO f)) :
    Calls Tryz.prog 169 (#[.int .i64 (x : Int)] ++ #[.pointer (some ⟨S, 0, none⟩)]) W fun e W' => e = .returned (.bool (!f x)) ∧ Below W.heap.size W W' := by
  show Calls Tryz.prog 169 #[.int .i64 (x : Int), .pointer (some ⟨S, 0, none⟩)] W _
  have hc := set_cell hS x hx
  generalize f x = b at *
  clear hS
  go_enter Tryz.func169, Tryz.ntmps169
  go_wp2
  go_ret
  exact ⟨rfl, Below.refl _ _⟩
theorem enter_ent1 (args : Array Value) (w : World) : (callFunc 169 args).run Tryz.prog w = .ok (.enter 169 args) w := enters_of Tryz.func169 (by kernel_rfl) rfl args w
def entB (ts : List TermD) (f : Nat → Bool) (b : Nat) : Bool := decide (b < ts.length) && (pv ts b).any fun x => !f x
theorem any_intsN (f : Nat → Bool) (l : List Nat) : ((intsN l).any fun z => !f z.toNat) = l.any fun q => !f q := by
  rw [intsN, List.any_map]
  rfl
def EJ (w : World) (d : WalkD) (f : Nat → Bool) (xs : List Int) (W : World) : Prop :=
  W.heap[w.heap.size]? = some (walkO d) ∧ W.heap[w.heap.size + 1]? = some (setO f) ∧ W.heap[w.heap.size + 1 + 1 + 1]? = some (.cells #[.pointer (some ⟨w.heap.size + 1, 0, none⟩)] 189 (0, 0)) ∧
    (∃ v, W.heap[w.heap.size + 1 + 1]? = some (.cells #[v] 22 (0, 0)) ∧ OwnI W (w.heap.size + 1 + 1 + 1 + 1) v xs) ∧ Below w.heap.size w W ∧ w.heap.size + 1 + 1 + 1 < W.heap.size
theorem EJ.steady {w : World} {d : WalkD} {f : Nat → Bool} {xs : List Int} {D : Nat} (hD : w.heap.size ≤ D) : Steady D (EJ w d f xs) := by
  unfold EJ
  exact (Steady.block _ _ rfl).and ((Steady.block _ _ rfl).and ((Steady.block _ _ rfl).and ((Steady.ex fun v => (Steady.block _ _ rfl).and (Steady.ownI _ _ _ _)).and ((Steady.below (Nat.le_refl _) hD).and (Steady.size _ _)))))
theorem EJ.ext {w W W' : World} {d : WalkD} {f : Nat → Bool} {xs : List Int} (h : EJ w d f xs W) (hb : Below W.heap.size W W') : EJ w d f xs W' := (EJ.steady (Nat.le_refl _)).ext h hb
theorem EJ.app {w W W' : World} {d : WalkD} {f : Nat → Bool} {xs : List Int} {v : Value} (hv : W.heap[w.heap.size + 1 + 1]? = some (.cells #[v] 22 (0, 0))) (ho : OwnI W (w.heap.size + 1 + 1 + 1 + 1) v xs) (h : EJ w d f xs W) (hg : W.grownBy W' v.ownBlock) (v' : Value) (x : Int) (hx : I64 x) (hn : xs.length ≤ 1000) (ho' : W'.ownsRow (w.heap.size + 1 + 1 + 1 + 1) 3 1 v' (xs.length + 1) (intVals xs ++ [.int .i64 x])) :
    EJ w d f (xs ++ [x]) (W'.setCell ⟨w.heap.size + 1 + 1, 0, none⟩ v') ∧ Keep W (W'.setCell ⟨w.heap.size + 1 + 1, 0, none⟩ v') := by
  obtain ⟨h1, h2, h3, _, h5, h6⟩ := h
  have low : ∀ q, q < w.heap.size + 1 + 1 + 1 + 1 → v.ownBlock ≠ some q := fun q hq e => by have := (ho.1.lt q e).1; omega
  have g := grown_setCell W' (w.heap.size + 1 + 1) 0 v'
  have hv2 := grown_row hg hv (low _ (by omega))
  refine ⟨⟨grown_row g (grown_row hg h1 (low _ (by omega))) (by simp; omega), grown_row g (grown_row hg h2 (low _ (by omega))) (by simp), grown_row g (grown_row hg h3 (low _ (by omega))) (by simp), ⟨v', ?_, ?_⟩, (h5.grown hg h5.size (fun r e => by have := (ho.1.lt r e).1; omega)).setCell (by simp; omega) _, by have := hg.size; simp; omega⟩,
    (Keep.grown hg (own_nobook ho.1)).trans (Keep.setCell _ _ _)⟩
  · have := heap_setCell_same W' (w.heap.size + 1 + 1) 0 _ _ v' hv2
    simpa using this
  · have e3 : (xs ++ [x]).length = xs.length + 1 := by simp
    have e4 : intVals (xs ++ [x]) = intVals xs ++ [.int .i64 x] := by simp [intVals]
    refine OwnI.kept (w := W') ⟨by rw [e3, e4]; exact ho', fun z hz => ?_, by rw [e3]; omega⟩ g ?_
    · rcases List.mem_append.1 hz with h | h
      · exact ho.2.1 z h
      · simp only [List.mem_singleton] at h
        subst h; exact hx
    · cases e : v'.ownBlock with
      | none => exact .inl rfl
      | some k =>
        have := (ho'.lt k e).1
        refine .inr ?_
        intro e2
        injection e2 with e2
        omega
theorem entries_any (d : WalkD) (ts : List TermD) (f : Nat → Bool) (w : World) (hok : WalkOK w d ts) (hg : goodB ts = true) :
    Calls Tryz.prog 106 #[walkV d, .agg (setA f)] w (IntsPost w (intsN (entriesS ts f))) := by
  refine (callsIn_wide (n := 0)).1 ?_
  refine callsIn_of_wp_marks Tryz.func106 rfl trivial ?_
  simp only [Tryz.ntmps106, List.size_toArray, List.length_cons, List.length_nil, Nat.reduceAdd, Nat.reduceSub, Array.replicate_succ, Array.replicate_zero, List.push_toArray, List.append_toArray, List.nil_append, List.cons_append]
  have HOK := Lib.hid hok
  have HPV := Lib.hid (WalkOK.nx_lt (w := w) (d := d) hg).2
  have hdl : ts.length = d.bn := hok.1
  have hdn : d.bn ≤ 200 := hok.2.1
  have HDL := Lib.hid hdl
  clear hok hg hdl
  gi_wp2_with (gi_at_call 88; refine (callsIn_wide.2 (each_any _ _)).mono ?_; rintro e w' ⟨rfl, rfl⟩)
  refine range_list (ps := #[7]) (gf := 139) (lb := #[.pointer (some ⟨w.heap.size + 1 + 1 + 1, 0, none⟩)]) (enc := encN) (l := listS f) rfl enter_each _ (each_iterI f (w.heap.size + 1 + 1 + 1) (w.heap.size + 1)) (fun _ => rfl)
    (fun dn r W => Hid (EJ w d f (intsN (dn.filter (entB ts f))) W)) (fun _ _ => False)
    (fun dn r => EJ.steady (by simp; omega)) (fun c => Steady.pure _ _) (fun dn r W h => ⟨by rw [cell_of_row _ _ _ _ _ _ h.out.2.2.1]; rfl, h.out.2.1⟩) ?start ?round ?done ?stop
  case start =>
    refine ⟨?_, ?_, ?_, ⟨_, ?_, OwnI.nil _ _⟩, ?_, by simp⟩
    · rw [Below.heap_alloc _ _ _ (by simp; omega), Below.heap_alloc _ _ _ (by simp; omega), Below.heap_alloc _ _ _ (by simp)]; exact heap_alloc_new _ _
    · rw [Below.heap_alloc _ _ _ (by simp), Below.heap_alloc _ _ _ (by simp)]; exact heap_at _ _ _ (by simp)
    · exact heap_at _ _ _ (by simp)
    · rw [Below.heap_alloc _ _ _ (by simp)]; exact heap_at _ _ _ (by simp)
    · exact (((ext_alloc _ _).alloc (by simp) _).alloc (by simp; omega) _).alloc (by simp; omega) _
  case round =>
    rintro lp dn x r W hd hJ
    unfold encN
    gi_wp2
    refine ⟨Keep.refl _, hJ, ?_⟩
    clear hJ lp W
    rintro lp W hJ
    obtain ⟨j1, j2, j3, ⟨v, j4, jo⟩, jb, js⟩ := hJ.out
    have hxl : x < 200 := listS_lt f x (by rw [hd]; simp)
    have hc3 : W.cell? ⟨w.heap.size, 3, none⟩ = some (.slice d.fa d.bn d.fc) := by rw [cell_of_row _ _ _ _ _ _ j1]; rfl
    by_cases hxb : x < d.bn
    · obtain ⟨b, o, ra, rc, rfa, hcr, hir⟩ := (HOK.out.ext jb).2.2.2.2.2 x (pv ts x) (by simp [fromRows, HDL.out, hxb])
      rw [rfa] at hc3
      have J2 := Lib.hid j2
      have HIR := Lib.hid hir
      have HPX : Hid (∀ z ∈ intsN (pv ts x), ∃ q : Nat, z = (q : Int) ∧ q < 200) := fun z hz => by
        simp only [intsN, List.mem_map] at hz
        obtain ⟨q, hq, rfl⟩ := hz
        exact ⟨q, rfl, HPV.out x q hq⟩
      have hxb' : (x : Int) < (d.bn : Int) := by omega
      clear j1 j2 j3 j4 jo jb js hir
      by_cases hent : entB ts f x = true
      · have HANY : Hid (((intsN (pv ts x)).any fun z => !f z.toNat) = true) := by
          rw [Hid, any_intsN]
          simp only [entB, Bool.and_eq_true] at hent
          exact hent.2
        have HFL : Hid (intsN ((dn ++ [x]).filter (entB ts f)) = intsN (dn.filter (entB ts f)) ++ [(x : Int)]) := by
          rw [Hid, List.filter_append, List.filter_cons, if_pos hent]
          simp [intsN]
        have hlen : (intsN (dn.filter (entB ts f))).length ≤ 1000 := by
          have h1 := listS_len f
          rw [hd] at h1
          have h2 := List.length_filter_le (entB ts f) dn
          simp [intsN] at h1 ⊢
          omega
        clear hent
        gi_wp2_with (first
          | (gi_at_call 168
             refine (CallsIn.inRound _ (callsIn_wide.2 (containsFunc_any 169 #[.pointer (some ⟨w.heap.size + 1, 0, none⟩)] enter_ent1 (fun z => !f z.toNat) _ _ _ (intsN (pv ts x)) W (fun z W' hz hb => ?_) HIR.out))).mono ?_
             · obtain ⟨q, rfl, hq⟩ := HPX.out z hz
               exact ent1_any f (w.heap.size + 1) q hq W' (block_ext hb J2.out)
             rintro e w2 ⟨rfl, hb2⟩
             rw [HANY.out]
             have HJ2 := Lib.hid (hJ.out.ext hb2)
             have HK2 := Lib.hid (Keep.ext hb2)
             clear hb2
             obtain ⟨v2, hv2, ho2⟩ := HJ2.out.2.2.2.1
             obtain ⟨av, cv, rfl⟩ := ho2.form
             have hcv : w2.cell? ⟨w.heap.size + 1 + 1, 0, none⟩ = some (.slice av (intsN (dn.filter (entB ts f))).length cv) := (by rw [cell_of_row _ _ _ _ _ _ hv2]; rfl)
             have HV2 := Lib.hid hv2
             have HO2 := Lib.hid ho2
             have hsz2 := HJ2.out.2.2.2.2.2
             clear hv2 ho2)
          | (gi_at_builtin
             refine listIn_of (by repeat (first | exact noOut_round | refine noOut_then ?_ | refine noOut_block ?_)) _ _ _ rfl ?_
             refine wpList_append1 rfl w2 (.tmp 22) (.tmp 24) 22 3 rfl (w.heap.size + 1 + 1 + 1 + 1) _ 1 8 Tryz.underlying22 infoI rfl (by omega) (.slice av (intsN (dn.filter (entB ts f))).length cv) (intsN (dn.filter (entB ts f))).length _ [.int .i64 (x : Int)] rfl HO2.out.1 w2.heap.size rfl rfl rfl (by simp [Value.oneCell']) (by simp only [maxLen]; omega) (by omega) (by omega) ?_
             intro g cap w3 hown3 hg3 hat3
             have HAPP := Lib.hid (HJ2.out.app HV2.out HO2.out hg3 _ (x : Int) (by unfold I64; omega) hlen hown3)
             have hv3 := grown_row hg3 HV2.out (fun e => by have := (HO2.out.1.lt _ e).1; omega)
             have hc3' : w3.cell? ⟨w.heap.size + 1 + 1, 0, none⟩ = some (.slice av (intsN (dn.filter (entB ts f))).length cv) := (by rw [cell_of_row _ _ _ _ _ _ hv3]; rfl)
             have hf3 : w3.frozen? ⟨w.heap.size + 1 + 1, 0, none⟩ = false := frozen_of_row _ _ _ _ _ hv3
             have hl3 : w.heap.size + 1 + 1 < w3.heap.size := lt_of_heap hv3
             clear hown3 hg3 hat3 hv3 hcv))
        go_wp2
        refine ⟨HK2.out.trans HAPP.out.2, ?_⟩
        have e9 := HFL.out
        rw [List.filter_append] at e9
        simp only [Hid, List.filter_append, e9]
        exact HAPP.out.1
      · have hent' : entB ts f x = false := by simpa using hent
        have HANY : Hid (((intsN (pv ts x)).any fun z => !f z.toNat) = false) := by
          rw [Hid, any_intsN]
          simp only [entB, Bool.and_eq_false_iff] at hent'
          rcases hent' with h | h
          · rw [HDL.out] at h; simp at h; omega
          · exact h
        have HFL : Hid (intsN ((dn ++ [x]).filter (entB ts f)) = intsN (dn.filter (entB ts f))) := by
          rw [Hid, List.filter_append, List.filter_cons, if_neg hent]
          simp
        clear hent hent'
        gi_wp2_with (
          (gi_at_call 168
           refine (CallsIn.inRound _ (callsIn_wide.2 (containsFunc_any 169 #[.pointer (some ⟨w.heap.size + 1, 0, none⟩)] enter_ent1 (fun z => !f z.toNat) _ _ _ (intsN (pv ts x)) W (fun z W' hz hb => ?_) HIR.out))).mono ?_
           · obtain ⟨q, rfl, hq⟩ := HPX.out z hz
             exact ent1_any f (w.heap.size + 1) q hq W' (block_ext hb J2.out)
           rintro e w2 ⟨rfl, hb2⟩
           rw [HANY.out]
           have HJ2 := Lib.hid (hJ.out.ext hb2)
           have HK2 := Lib.hid (Keep.ext hb2)
           clear hb2))
        refine ⟨HK2.out, ?_⟩
        have e9 := HFL.out
        rw [List.filter_append] at e9
        simp only [Hid, List.filter_append, e9]
        exact HJ2.out
    · have hxb' : ¬ (x : Int) < (d.bn : Int) := by omega
      have HFL : Hid (intsN ((dn ++ [x]).filter (entB ts f)) = intsN (dn.filter (entB ts f))) := by
        rw [Hid, List.filter_append, List.filter_cons, if_neg (by simp only [entB, Bool.and_eq_true, decide_eq_true_eq, HDL.out]; exact fun h => hxb h.1)]
        simp
      clear j1 j2 j3 j4 jo jb js hxb
      gi_wp2
      refine ⟨Keep.refl _, ?_⟩
      have e9 := HFL.out
      rw [List.filter_append] at e9
      simp only [Hid, List.filter_append, e9]
      exact hJ.out
  case done =>
    rintro D W hD hJ hK
    obtain ⟨v, hv, ho⟩ := hJ.out.2.2.2.1
    obtain ⟨av, cv, rfl⟩ := ho.form
    have HJ := hJ
    have HV := Lib.hid hv
    have hcv : W.cell? ⟨w.heap.size + 1 + 1, 0, none⟩ = some (.slice av (intsN ((listS f).filter (entB ts f))).length cv) := by rw [cell_of_row _ _ _ _ _ _ hv]; rfl
    have hfv : W.frozen? ⟨w.heap.size + 1 + 1, 0, none⟩ = false := frozen_of_row _ _ _ _ _ hv
    have hlv := lt_of_heap hv
    have HO := Lib.hid ho
    clear hv ho hJ
    gi_wp2
    have hDP : D ≠ w.heap.size + 1 + 1 := by simp at hD; omega
    have g := grown_setCell W (w.heap.size + 1 + 1) 0 (.slice av (intsN ((listS f).filter (entB ts f))).length cv)
    have hK2 := grown_row g hK (by simp; omega)
    have ho2 : OwnI (W.setCell ⟨w.heap.size + 1 + 1, 0, none⟩ (.slice av (intsN ((listS f).filter (entB ts f))).length cv)) (w.heap.size + 1 + 1 + 1 + 1) (.slice av (intsN ((listS f).filter (entB ts f))).length cv) (intsN ((listS f).filter (entB ts f))) := HO.out.kept g (by
      cases e : (Value.slice av (intsN ((listS f).filter (entB ts f))).length cv).ownBlock with
      | none => exact .inl rfl
      | some k =>
        have := (HO.out.1.lt k e).1
        refine .inr ?_
        intro e2
        injection e2 with e2
        omega)
    have hb2 : Below w.heap.size w (W.setCell ⟨w.heap.size + 1 + 1, 0, none⟩ (.slice av (intsN ((listS f).filter (entB ts f))).length cv)) := HJ.out.2.2.2.2.1.setCell (by simp; omega) _
    have hv2 : (W.setCell ⟨w.heap.size + 1 + 1, 0, none⟩ (.slice av (intsN ((listS f).filter (entB ts f))).length cv)).heap[w.heap.size + 1 + 1]? = some (.cells #[.slice av (intsN ((listS f).filter (entB ts f))).length cv] 22 (0, 0)) := by
      have := heap_setCell_same W (w.heap.size + 1 + 1) 0 _ _ (.slice av (intsN ((listS f).filter (entB ts f))).length cv) HV.out
      simpa using this
    generalize W.setCell ⟨w.heap.size + 1 + 1, 0, none⟩ (.slice av (intsN ((listS f).filter (entB ts f))).length cv) = W2 at *
    have ho3 := (Steady.ownI D (w.heap.size + 1 + 1 + 1 + 1) (.slice av (intsN ((listS f).filter (entB ts f))).length cv) (intsN ((listS f).filter (entB ts f)))).put (.deferred none) (l := D) ho2 (Nat.le_refl _) hK2 rfl
    have hb3 := (Steady.below (n₀ := w.heap.size) (B := w.heap.size) (w₀ := w) (Nat.le_refl _) (Nat.le_refl _)).put (.deferred none) (l := D) hb2 (by simp at hD; omega) hK2 rfl
    have hv3 : (W2.putObj D (.deferred none)).heap[w.heap.size + 1 + 1]? = some (.cells #[.slice av (intsN ((listS f).filter (entB ts f))).length cv] 22 (0, 0)) := (World.putObj_heap_other (by omega)).trans hv2
    have hc3 : (W2.putObj D (.deferred none)).cell? ⟨w.heap.size + 1 + 1, 0, none⟩ = some (.slice av (intsN ((listS f).filter (entB ts f))).length cv) := by rw [cell_of_row _ _ _ _ _ _ hv3]; rfl
    refine ⟨by simp, .inl ⟨_, _, rfl, run_takeDeferred hK2, ?_⟩⟩
    exact ⟨.slice av (intsN ((listS f).filter (entB ts f))).length cv, by simp [results, Tryz.results106, go_sem, hc3], _, rfl, ho3.mono (by omega), hb3⟩
  case stop => rintro D c W hD h; exact h.elim
end

section
open Go.RowKit Go.Shelf
attribute [local go_sem] Oper.semAt_some wide_fn wide_depth wide_fnR wide_depthR
theorem index_set (w : World) (f : Nat → Bool) (b : Nat) (hb : b < 200) : (Instr.index 124 (.agg (setA f)) (.int .i64 (b : Int))).run Tryz.prog w = .ok (.bool (f b)) w := by
  have hz : (Go.sizeOf 4).run Tryz.prog w = .ok 1 w := by kernel_rfl
  have hb2 : (0 : Int) ≤ (b : Int) ∧ (b : Int) < ((200 : Nat) : Int) := by omega
  have h1 := part_bool (setA f) b _ w (setA_at f b hb)
  simp only [Instr.index, asIntOf, Sem.run_bind, Sem.run_pure, Result.andThen_ok, run_underlying (w := w) Tryz.underlying124, if_pos hb2, hz]
  simpa using h1
theorem rings1_any (d : WalkD) (ts : List TermD) (f : Nat → Bool) (P S : Nat) (x : Nat) (hx : x < 200) (W : World) (hP : W.heap[P]? = some (walkO d)) (hS : W.heap[S]? = some (setO f)) (hok : WalkOK W d ts) (hg : goodB ts = true) (hcf : Canon f) (hf : x < d.bn) :
    Calls Tryz.prog 207 (#[.int .i64 (x : Int)] ++ #[.pointer (some ⟨P, 0, none⟩), .pointer (some ⟨S, 0, none⟩)]) W fun e W' => e = .returned (.bool (knotS ts x f x)) ∧ Below W.heap.size W W' := by
  show Calls Tryz.prog 207 #[.int .i64 (x : Int), .pointer (some ⟨P, 0, none⟩), .pointer (some ⟨S, 0, none⟩)] W _
  have HP := Lib.hid hP
  have HS := Lib.hid hS
  have HOK := Lib.hid hok
  have HG := Lib.hid hg
  have HF := Lib.hid hf
  have HCF := Lib.hid hcf
  clear hP hS hok hg hf hcf
  have hix := fun w => index_set w (knotS ts x f) x hx
  go_enter Tryz.func207, Tryz.ntmps207
  go_wp2_with (first
    | (refine wpList_load_row (o := ⟨some 5, .load 116 _, _, _, _, _⟩) rfl 116 _ rfl P rfl 116 _ (0, 0) _ HP.out Tryz.underlying116 rfl size_walk ?_)
    | (refine wpList_load_row (o := ⟨some 7, .load 124 _, _, _, _, _⟩) rfl 124 _ rfl S rfl 124 _ (0, 0) _ HS.out Tryz.underlying124 rfl (by rw [setA_size]; exact size_set) ?_)
    | (go_at_call 130
       refine (knot_any d ts x f W hx HOK.out HG.out HCF.out fun _ => HF.out).mono ?_
       rintro e w2 ⟨rfl, hb⟩
       have HB := Lib.hid hb
       clear hb))
  go_ret
  exact ⟨rfl, HB.out⟩
theorem enter_rings1 (args : Array Value) (w : World) : (callFunc 207 args).run Tryz.prog w = .ok (.enter 207 args) w := enters_of Tryz.func207 (by kernel_rfl) rfl args w
theorem rings_any (d : WalkD) (ts : List TermD) (f : Nat → Bool) (a : Option Addr) (n c : Nat) (bs : List Int) (w : World) (hI : Ints w a n bs) (hbs : ∀ x ∈ bs, 0 ≤ x ∧ x < d.bn) (hok : WalkOK w d ts) (hg : goodB ts = true) (hf : Canon f) :
    Calls Tryz.prog 164 #[walkV d, .slice a n c, .agg (setA f)] w fun e w' => e = .returned (.bool (ringsB ts bs f)) ∧ Below w.heap.size w w' := by
  have HI := Lib.hid hI
  have HBS := Lib.hid hbs
  have HOK := Lib.hid hok
  have HG := Lib.hid hg
  have HF := Lib.hid hf
  clear hI hbs hok hg hf
  go_enter Tryz.func164, Tryz.ntmps164
  go_wp2_with (
    (go_at_call 168
     refine (containsFunc_any 207 #[.pointer (some ⟨w.heap.size, 0, none⟩), .pointer (some ⟨w.heap.size + 1, 0, none⟩)] enter_rings1 (fun z => knotS ts z.toNat f z.toNat) a n c bs _ (fun z W hz hb => ?_) (HI.out.ext ((ext_alloc _ _).alloc (by simp) _))).mono ?_
     · have hz2 := HBS.out z hz
       have hbn := HOK.out.2.1
       obtain ⟨q, rfl⟩ : ∃ q : Nat, z = (q : Int) := ⟨z.toNat, by omega⟩
       refine rings1_any d ts f w.heap.size (w.heap.size + 1) q (by omega) W (block_ext hb ?_) (block_ext hb (heap_at _ _ _ (by simp))) (HOK.out.ext (ext_trans ((ext_alloc _ _).alloc (by simp) _) hb)) HG.out HF.out (by omega)
       rw [Below.heap_alloc _ _ _ (by simp)]; exact heap_alloc_new _ _
     rintro e w2 ⟨rfl, hb⟩
     have HB := Lib.hid hb
     clear hb))
  go_ret
  exact ⟨rfl, ext_trans ((ext_alloc _ _).alloc (by simp) _) HB.out⟩
def ToJ (w : World) (d : WalkD) (f : Nat → Bool) (W : World) : Prop :=
  W.heap[w.heap.size]? = some (walkO d) ∧ W.heap[w.heap.size + 1]? = some (setO f) ∧ W.heap[w.heap.size + 1 + 1]? = some (.cells #[.bool false] 4 (0, 0)) ∧ W.heap[w.heap.size + 1 + 1 + 1]? = some (.cells #[.pointer (some ⟨w.heap.size + 1, 0, none⟩)] 189 (0, 0)) ∧ Below w.heap.size w W
theorem ToJ.steady {w : World} {d : WalkD} {f : Nat → Bool} {D : Nat} (hD : w.heap.size ≤ D) : Steady D (ToJ w d f) := by
  unfold ToJ
  exact (Steady.block _ _ rfl).and ((Steady.block _ _ rfl).and ((Steady.block _ _ rfl).and ((Steady.block _ _ rfl).and (Steady.below (Nat.le_refl _) hD))))
theorem together_any (d : WalkD) (ts : List TermD) (f : Nat → Bool) (w : World) (hok : WalkOK w d ts) (hg : goodB ts = true) (hcf : Canon f) (hf : ∀ b l, listS f = b :: l → b < d.bn) :
    Calls Tryz.prog 163 #[walkV d, .agg (setA f)] w fun e w' => e = .returned (.bool (togetherB ts f)) ∧ Below w.heap.size w w' := by
  refine (callsIn_wide (n := 0)).1 ?_
  refine callsIn_of_wp_marks Tryz.func163 rfl trivial ?_
  simp only [Tryz.ntmps163, List.size_toArray, List.length_cons, List.length_nil, Nat.reduceAdd, Nat.reduceSub, Array.replicate_succ, Array.replicate_zero, List.push_toArray, List.append_toArray, List.nil_append, List.cons_append]
  have HOK := Lib.hid hok
  have HG := Lib.hid hg
  have HF := Lib.hid hf
  have HCF := Lib.hid hcf
  have hdn : d.bn ≤ 200 := hok.2.1
  clear hok hg hcf hf
  gi_wp2_with (gi_at_call 88; refine (callsIn_wide.2 (each_any _ _)).mono ?_; rintro e w' ⟨rfl, rfl⟩)
  refine range_list (ps := #[7]) (gf := 139) (lb := #[.pointer (some ⟨w.heap.size + 1 + 1 + 1, 0, none⟩)]) (enc := encN) (l := listS f) rfl enter_each _ (each_iterI f (w.heap.size + 1 + 1 + 1) (w.heap.size + 1)) (fun _ => rfl)
    (fun dn r W => Hid (dn = [] ∧ ToJ w d f W)) (fun c W => c = .ret ∧ W.heap[w.heap.size + 1 + 1]? = some (.cells #[.bool (togetherB ts f)] 4 (0, 0)) ∧ Below w.heap.size w W)
    (fun dn r => (Steady.pure _ _).and (ToJ.steady (by simp; omega))) (fun c => (Steady.pure _ _).and ((Steady.block _ _ rfl).and (Steady.below (Nat.le_refl _) (by simp; omega)))) (fun dn r W h => ⟨by rw [cell_of_row _ _ _ _ _ _ h.out.2.2.2.2.1]; rfl, h.out.2.2.1⟩) ?start ?round ?done ?stop
  case start =>
    refine ⟨rfl, ?_, ?_, ?_, ?_, ?_⟩
    · rw [Below.heap_alloc _ _ _ (by simp; omega), Below.heap_alloc _ _ _ (by simp; omega), Below.heap_alloc _ _ _ (by simp)]; exact heap_alloc_new _ _
    · rw [Below.heap_alloc _ _ _ (by simp), Below.heap_alloc _ _ _ (by simp)]; exact heap_at _ _ _ (by simp)
    · rw [Below.heap_alloc _ _ _ (by simp)]; exact heap_at _ _ _ (by simp)
    · exact heap_at _ _ _ (by simp)
    · exact (((ext_alloc _ _).alloc (by simp) _).alloc (by simp; omega) _).alloc (by simp; omega) _
  case round =>
    rintro lp dn x r W0 hd hJ
    unfold encN
    gi_wp2
    refine ⟨Keep.refl _, hJ, ?_⟩
    clear hJ lp W0
    rintro lp W0 hJ
    obtain ⟨rfl, j1, j2, j3, j4, jb⟩ := hJ.out
    have hxl : x < 200 := listS_lt f x (by rw [hd]; simp)
    have HXB : Hid (f x = true → x < d.bn) := fun _ => HF.out x r hd
    have HE : Hid (togetherB ts f = eqS (knotS ts x f) f) := by
      have : listS f = x :: r := hd
      simp only [Hid, togetherB, this]
    have HW := Lib.hid j1
    have HS := Lib.hid j2
    have HR := Lib.hid j3
    have HBW := Lib.hid jb
    clear hJ j1 j2 j3 j4 jb hd
    refine wpIn_block ?_
    refine wpIn_seq ?_
    refine round_free 6 [some 8, some 9, some 10, some 11, some 12, some 13] (by kernel_rfl) (by kernel_rfl) (by repeat (first | exact noOut_round | refine noOut_then ?_ | refine noOut_block ?_)) (by kernel_rfl) (specB [.val (walkV d), .val (.int .i64 (x : Int)), .val (.agg (setA f)), .val (.agg (setA (knotS ts x f))), .val (.agg (setA f)), .val (.bool (eqS (knotS ts x f) f))]) (specB_mono ?_) ?_ ?_
    · intro k hk
      simp only [List.mem_cons, List.not_mem_nil, or_false] at hk
      rcases hk with rfl | rfl | rfl | rfl | rfl | rfl
      · exact trivial
      · exact trivial
      · exact trivial
      · exact trivial
      · exact trivial
      · exact trivial
    · intro i hi ν lo hi' w1 K hB hD hK
      have hcase : i = 0 ∨ i = 1 ∨ i = 2 ∨ i = 3 ∨ i = 4 ∨ i = 5 := by omega
      clear hi
      rcases hcase with rfl | rfl | rfl | rfl | rfl | rfl
      · clear hD
        refine wpOp_atK rfl rfl ?_
        simp only [zA,zB,zC,zD,zE,zF,zJ,zK,zG,zH,zI] at hK ⊢
        refine wp_load_row 116 _ rfl w.heap.size rfl 116 _ (0, 0) _ (block_ext hB HW.out) Tryz.underlying116 rfl size_walk ?_
        exact hK _ _ (Below.refl _ _) rfl
      · clear hD
        refine wpOp_atK rfl rfl ?_
        simp only [zA,zB,zC,zD,zE,zF,zJ,zK,zG,zH,zI] at hK ⊢
        go_simp
        exact hK _ _ (Below.refl _ _) rfl
      · clear hD
        refine wpOp_atK rfl rfl ?_
        simp only [zA,zB,zC,zD,zE,zF,zJ,zK,zG,zH,zI] at hK ⊢
        refine wp_load_row 124 _ rfl (w.heap.size + 1) rfl 124 _ (0, 0) _ (block_ext hB HS.out) Tryz.underlying124 rfl (by rw [setA_size]; exact size_set) ?_
        exact hK _ _ (Below.refl _ _) rfl
      · have e0 := hD 0 (by kernel_rfl)
        replace e0 : ν 0 = (walkV d) := e0
        have e1 := hD 1 (by kernel_rfl)
        replace e1 : ν 1 = (.int .i64 (x : Int)) := e1
        have e2 := hD 2 (by kernel_rfl)
        replace e2 : ν 2 = (.agg (setA f)) := e2
        clear hD
        refine wpOp_atK rfl rfl ?_
        simp only [zA,zB,zC,zD,zE,zF,zJ,zK,zG,zH,zI, e0, e1, e2] at hK ⊢
        go_simp
        refine (knot_any d ts x f w1 (by omega) (HOK.out.ext (ext_trans HBW.out hB)) HG.out HCF.out HXB.out).mono ?_
        rintro e w3 ⟨rfl, hb3⟩
        exact hK _ _ hb3 rfl
      · clear hD
        refine wpOp_atK rfl rfl ?_
        simp only [zA,zB,zC,zD,zE,zF,zJ,zK,zG,zH,zI] at hK ⊢
        refine wp_load_row 124 _ rfl (w.heap.size + 1) rfl 124 _ (0, 0) _ (block_ext hB HS.out) Tryz.underlying124 rfl (by rw [setA_size]; exact size_set) ?_
        exact hK _ _ (Below.refl _ _) rfl
      · have e3 := hD 3 (by kernel_rfl)
        replace e3 : ν 3 = (.agg (setA (knotS ts x f))) := e3
        have e4 := hD 4 (by kernel_rfl)
        replace e4 : ν 4 = (.agg (setA f)) := e4
        clear hD
        refine wpOp_atK rfl rfl ?_
        simp only [zA,zB,zC,zD,zE,zF,zJ,zK,zG,zH,zI, e3, e4] at hK ⊢
        have heq := equal_set w1 (knotS ts x f) f
        go_simp
        exact hK _ _ (Below.refl _ _) rfl
    · intro ν lo hi w1 hB hS hI hD
      have e0 : ν 0 = (walkV d) := hS 0 (by omega)
      have e1 : ν 1 = (.int .i64 (x : Int)) := hS 1 (by omega)
      have e2 : ν 2 = (.agg (setA f)) := hS 2 (by omega)
      have e3 : ν 3 = (.agg (setA (knotS ts x f))) := hS 3 (by omega)
      have e4 : ν 4 = (.agg (setA f)) := hS 4 (by omega)
      have e5 : ν 5 = (.bool (eqS (knotS ts x f) f)) := hS 5 (by omega)
      clear hS
      simp only [List.drop_succ_cons, List.drop_zero, zA,zB,zC,zD,zE,zF,zJ,zK,zG,zH,zI, e0, e1, e2, e3, e4, e5]
      have HB1 := Lib.hid hB
      clear hI hD e0 e1 e2 e3 e4 e5
      have hr1 := block_ext HB1.out HR.out
      have hc1 : w1.cell? ⟨w.heap.size + 1 + 1, 0, none⟩ = some (.bool false) := by rw [cell_of_row _ _ _ _ _ _ hr1]; rfl
      have hf1 : w1.frozen? ⟨w.heap.size + 1 + 1, 0, none⟩ = false := frozen_of_row _ _ _ _ _ hr1
      have hl1 := lt_of_heap hr1
      have HR1 := Lib.hid hr1
      clear hr1 hB
      go_wp2
      refine wpIn_ret ?_
      have hst := heap_setCell_same w1 (w.heap.size + 1 + 1) 0 _ _ (.bool (eqS (knotS ts x f) f)) HR1.out
      exact ⟨(Keep.ext HB1.out).trans (Keep.setCell _ _ _), rfl, by rw [HE.out]; simpa using hst, (ext_trans HBW.out HB1.out).setCell (by simp; omega) _⟩
  case done =>
    rintro D W hD hJ hK
    obtain ⟨hl, j1, j2, j3, j4, jb⟩ := hJ.out
    have HE : Hid (togetherB ts f = true) := by simp only [Hid, togetherB, hl]
    have hc1 : W.cell? ⟨w.heap.size + 1 + 1, 0, none⟩ = some (.bool false) := by rw [cell_of_row _ _ _ _ _ _ j3]; rfl
    have hf1 : W.frozen? ⟨w.heap.size + 1 + 1, 0, none⟩ = false := frozen_of_row _ _ _ _ _ j3
    have hl1 := lt_of_heap j3
    have HB := Lib.hid jb
    have HJ3 := Lib.hid j3
    clear hJ j1 j2 j3 j4 jb hl
    gi_wp2
    have hDP : D ≠ w.heap.size + 1 + 1 := by simp at hD; omega
    have g := grown_setCell W (w.heap.size + 1 + 1) 0 (.bool true)
    have hK2 := grown_row g hK (by simp; omega)
    have hb2 : Below w.heap.size w (W.setCell ⟨w.heap.size + 1 + 1, 0, none⟩ (.bool true)) := HB.out.setCell (by simp; omega) _
    have hv2 : (W.setCell ⟨w.heap.size + 1 + 1, 0, none⟩ (.bool true)).heap[w.heap.size + 1 + 1]? = some (.cells #[.bool true] 4 (0, 0)) := by
      have := heap_setCell_same W (w.heap.size + 1 + 1) 0 _ _ (.bool true) HJ3.out
      simpa using this
    generalize W.setCell ⟨w.heap.size + 1 + 1, 0, none⟩ (.bool true) = W2 at *
    have hb3 := (Steady.below (n₀ := w.heap.size) (B := w.heap.size) (w₀ := w) (Nat.le_refl _) (Nat.le_refl _)).put (.deferred none) (l := D) hb2 (by simp at hD; omega) hK2 rfl
    have hv3 : (W2.putObj D (.deferred none)).heap[w.heap.size + 1 + 1]? = some (.cells #[.bool true] 4 (0, 0)) := (World.putObj_heap_other (by omega)).trans hv2
    have hc3 : (W2.putObj D (.deferred none)).cell? ⟨w.heap.size + 1 + 1, 0, none⟩ = some (.bool true) := by rw [cell_of_row _ _ _ _ _ _ hv3]; rfl
    refine ⟨by simp, .inl ⟨_, _, rfl, run_takeDeferred hK2, ?_⟩⟩
    exact ⟨.bool true, by simp [results, Tryz.results163, go_sem, hc3], by rw [HE.out], hb3⟩
  case stop =>
    rintro D c W hD ⟨rfl, hv, hb⟩ hK
    have hv2 : (W.putObj D (.deferred none)).heap[w.heap.size + 1 + 1]? = some (.cells #[.bool (togetherB ts f)] 4 (0, 0)) := (World.putObj_heap_other (by simp at hD; omega)).trans hv
    have hb2 := (Steady.below (n₀ := w.heap.size) (B := w.heap.size) (w₀ := w) (Nat.le_refl _) (Nat.le_refl _)).put (.deferred none) (l := D) hb (by simp at hD; omega) hK rfl
    have hc : (W.putObj D (.deferred none)).cell? ⟨w.heap.size + 1 + 1, 0, none⟩ = some (.bool (togetherB ts f)) := by rw [cell_of_row _ _ _ _ _ _ hv2]; rfl
    gi_wp2
    refine ⟨by simp, .inl ⟨_, _, rfl, run_takeDeferred hK, ?_⟩⟩
    exact ⟨.bool (togetherB ts f), by simp [results, Tryz.results163, go_sem, hc], rfl, hb2⟩
end
end Go.Proofs.YtblhmdhfhaencaaGreat
