/-
  SameEdges.
-/
import Derived.Test.YtblhmdhfhaencaaED
import Derived.Test.YtblhmdhfhaencaaEV
import Derived.Test.YtblhmdhfhaencaaEZ
import Derived.Deep.OwnRows
namespace Go.Proofs.Ytblhmdhfhaencaa
set_option linter.unusedSimpArgs false
set_option linter.unusedVariables false
open Go.RowKit

set_option maxHeartbeats 1000000 in
theorem sameEdges_any (a : Option Addr) (n c : Nat) (xs : List EdgeD) (b : Option Addr) (m d : Nat) (ys : List EdgeD) (w : World) (h : EdgS w a n xs) (h' : EdgS w b m ys) :
    Calls Try.prog 19 #[.slice a n c, .slice b m d] w fun e w' => e = .returned (.bool (decide (xs = ys))) ∧ Below w.heap.size w w' := by
  have HL := Lib.hid h.1
  have HL' := Lib.hid h'.1
  have hn := h.2.1
  have hm := h'.2.1
  have H := Lib.hid h
  have H' := Lib.hid h'
  clear h h'
  by_cases hnm : n = m
  · subst hnm
    go_enter Try.func19, Try.ntmps19
    go_wp2
    go_loopw [5] (fun i wr => ∃ k : Nat, i = .int .i64 k ∧ k ≤ n ∧ Hid (∀ j, j < k → xs[j]? = ys[j]?) ∧ Hid (Below w.heap.size w wr)) (fun i _ => n - (intOf i).toNat)
    case atStart => exact ⟨0, rfl, by omega, fun j hj => absurd hj (by omega), Below.refl _ _⟩
    case round =>
      obtain ⟨k, rfl, hk, HR, HB⟩ := hrel
      by_cases hlt : k < n
      · obtain ⟨r, b1, o1, hr, rfl, c0, c1, c2⟩ := edges_cells (H.out.ext csE_len HB.out) hlt
        obtain ⟨s, b2, o2, hs, rfl, d0, d1, d2⟩ := edges_cells (H'.out.ext csE_len HB.out) hlt
        have HGR := Lib.hid hr
        have HGS := Lib.hid hs
        have hk0 : (0 : Int) ≤ (k : Int) := by omega
        have hk1 : (k : Int) < (n : Int) := by omega
        have hq : ∀ w, (binOp .neq 39 (edgeV r) (edgeV s)).run Try.prog w = .ok (.bool (!sameE r s)) w := fun w => neq_edge w r s
        clear hr hs
        cases hy : sameE r s with
        | true =>
          have HE : Hid (∀ j, j < k + 1 → xs[j]? = ys[j]?) := fun j hj => by
            by_cases e : j = k
            · subst e
              rw [HGR.out, HGS.out, (sameE_iff r s).1 hy]
            · exact HR.out j (by omega)
          rw [hy] at hq
          simp only [Bool.not_true] at hq
          go_wp2
          go_quiet (fail)
          go_wp2
          go_roundw
          case rel => exact ⟨k + 1, by go_num, by omega, HE, ext_drewN HB.out _⟩
          case measure => simp [intOf]; omega
        | false =>
          have HE : Hid (decide (xs = ys) = false) := decide_eq_false fun e => by
            have h1 := HGR.out
            rw [e, HGS.out] at h1
            injection h1 with h1
            rw [(sameE_iff r s).2 h1] at hy
            cases hy
          rw [hy] at hq
          simp only [Bool.not_false] at hq
          go_wp2
          go_quiet (fail)
          go_wp2
          go_ret
          exact ⟨ret_bool HE.out.symm, ext_drewN HB.out _⟩
      · obtain rfl : k = n := by omega
        have HE : Hid (decide (xs = ys) = true) := decide_eq_true (List.ext_getElem? fun j => by
          by_cases hj : j < k
          · exact HR.out j hj
          · rw [List.getElem?_eq_none (by rw [HL.out]; omega), List.getElem?_eq_none (by rw [HL'.out]; omega)])
        go_wp2
        go_ret
        exact ⟨ret_bool HE.out.symm, HB.out⟩
  · have hd : ((n : Int) != (m : Int)) = true := by simp; omega
    have HE : Hid (decide (xs = ys) = false) := decide_eq_false fun e => by
      have h1 := HL.out
      rw [e, HL'.out] at h1
      omega
    go_enter Try.func19, Try.ntmps19
    go_wp2
    go_ret
    exact ⟨ret_bool HE.out.symm, Below.refl _ _⟩

open Go.RowKit
attribute [local go_sem] Oper.semAt_some wide_fn wide_depth wide_fnR wide_depthR

theorem tiles_nil (w : World) : TilesOK w none 0 [] := ⟨Recs.nil _ _ _, fun t ht => by cases ht⟩
def boolsA (n : Nat) (f : Nat → Bool) : Array Value := ((List.range n).map fun j => Value.bool (f j)).toArray
abbrev boolsO (n : Nat) (f : Nat → Bool) : Obj := .cells (boolsA n f) 4 (0, 0)
theorem boolsA_at (n : Nat) (f : Nat → Bool) (j : Nat) (h : j < n) : (boolsA n f)[j]? = some (.bool (f j)) := by simp [boolsA, h]
theorem boolsA_set (n : Nat) (f g : Nat → Bool) (q : Nat) (hg : ∀ j, g j = if j = q then true else f j) : (boolsA n f).setIfInBounds q (.bool true) = boolsA n g := by
  apply Array.ext_getElem?
  intro j
  rw [Array.getElem?_setIfInBounds]
  by_cases hj : j < n
  · by_cases e : q = j
    · subst e
      simp [boolsA, hj, hg]
    · have e' : ¬ j = q := fun h => e h.symm
      simp [boolsA, hj, hg, e, e']
  · by_cases e : q = j
    · subst e
      simp [boolsA, hj]
    · simp [boolsA, hj, e]
theorem boolsA_made (n : Nat) : madeCells #[.bool false] n = boolsA n (fun _ => false) := by
  apply Array.ext_getElem?
  intro j
  by_cases hj : j < n
  · simp [madeCells, boolsA, hj, Nat.mod_one]
  · rw [Array.getElem?_eq_none (by simp [madeCells]; omega), Array.getElem?_eq_none (by simp [boolsA]; omega)]
theorem infoBool : (Try.prog.info? 4).map (fun i => (i.zero, i.size, i.bytes)) = some (some (.bool false), 1, 1) := by kernel_rfl
set_option maxRecDepth 100000 in
set_option maxHeartbeats 4000000 in
theorem apart18_any (pa : Option Addr) (pn pc : Nat) (hpn : pn ≤ 17592186044416) (ba : Option Addr) (bn bc : Nat) (bs : List BlkH) (w : World) (h : BlksX w ba bn bs) :
    Calls Try.prog 4 #[funcV pa pn pc ba bn bc] w fun e w' => e = .returned (.bool true) ∧ Below w.heap.size w w' := by
  have HX := Lib.hid h
  clear h
  go_enter Try.func4, Try.ntmps4
  go_upto_region 1 with (fail)
  obtain ⟨W, hW⟩ : ∃ W, W = w.alloc (funcO pa pn pc ba bn bc) := ⟨_, rfl⟩
  rw [← hW]
  have hk0 : W.heap[w.heap.size]? = some (funcO pa pn pc ba bn bc) := by rw [hW]; exact heap_alloc_new _ _
  have hB : Below w.heap.size w W := by rw [hW]; exact ext_alloc _ _
  have HK := Lib.hid hk0
  have HB := Lib.hid hB
  clear hW hk0 hB
  go_upto_region 3 with (
    (go_at_call 7
     refine (awake18_any W).mono ?_
     rintro e w1 ⟨rfl, hb⟩
     have HK1 := Lib.hid (block_ext hb HK.out)
     have HB1 := Lib.hid (ext_trans HB.out hb)
     clear hb))
  clear HK HB
  go_upto_region 5 with (first
    | (refine wpList_load_row (o := ⟨some 16, .load 25 _, _, _, _, _⟩) rfl 25 _ rfl w.heap.size rfl 25 _ (0, 0) _ HK1.out Try.underlying25 rfl size_func ?_)
    | (go_at_call 8
       refine (great18_any pa pn pc hpn ba bn bc bs none 0 0 [] w1 (HX.out.ext HB1.out) (tiles_nil w1)).mono ?_
       rintro e w2 ⟨gb, rfl, hb, hgr⟩
       have HK2 := Lib.hid (block_ext hb HK1.out)
       have HB2 := Lib.hid (ext_trans HB1.out hb)
       have HGR := Lib.hid hgr
       clear hb hgr
       cases gb))
  all_goals first | (go_ret; exact ⟨rfl, HB2.out⟩) | skip
  clear HK1 HB1
  have hbn30 := (HGR.out (by trivial)).1
  clear HGR
  go_upto_region 6 with (first
    | (refine wpList_load_row (o := ⟨some 18, .load 25 _, _, _, _, _⟩) rfl 25 _ rfl w.heap.size rfl 25 _ (0, 0) _ HK2.out Try.underlying25 rfl size_func ?_)
    | (go_at_call 13
       refine (allE_any pa pn pc ba bn bc bs w2 (HX.out.1.ext HB2.out)).mono ?_
       intro e w3 hp
       obtain ⟨la, lc, rfl, ho, hs, hb⟩ := hp.form
       have HS3 := Lib.hid hs
       have HK3 := Lib.hid (block_ext hb HK2.out)
       have HB3 := Lib.hid (ext_trans HB2.out hb)
       clear hb ho hs hp))
  clear HK2 HB2
  have hlen : (allE (tsOf bs)).length ≤ 400 := allE_len
  cases hf : fitsB (tsOf bs) with
  | false =>
    have HF := Lib.hid hf
    have hE : allE (tsOf bs) = [] := by rw [allE, hf]; rfl
    rw [hE] at *
    clear hf
    go_wp2_with (first
      | (refine wpList_load_row (o := ⟨some 20, .load 25 _, _, _, _, _⟩) rfl 25 _ rfl w.heap.size rfl 25 _ (0, 0) _ HK3.out Try.underlying25 rfl size_func ?_)
      | (go_at_call 11
         refine (tfits_any pa pn pc ba bn bc bs w3 (HX.out.1.ext HB3.out)).mono ?_
         rintro e w4 ⟨rfl, hb⟩
         rw [HF.out]
         have HB4 := Lib.hid (ext_trans HB3.out hb)
         clear hb))
    go_ret
    exact ⟨rfl, HB4.out⟩
  | true =>
    have HF := Lib.hid hf
    have hbl : (tsOf bs).length = bn := by rw [tsOf_len]; exact HX.out.1.1.1
    have hbn : bn ≤ 30 := by
      have := ((goodB_iff _).1 (fits_good hf)).1.2
      omega
    clear hf
    go_upto_region 8 with (first
      | (refine wpList_load_row (o := ⟨some 20, .load 25 _, _, _, _, _⟩) rfl 25 _ rfl w.heap.size rfl 25 _ (0, 0) _ HK3.out Try.underlying25 rfl size_func ?_)
      | (go_at_call 11
         refine (tfits_any pa pn pc ba bn bc bs w3 (HX.out.1.ext HB3.out)).mono ?_
         rintro e w4 ⟨rfl, hb⟩
         rw [HF.out]
         have HS4 := Lib.hid (HS3.out.ext csE_len hb)
         have HK4 := Lib.hid (block_ext hb HK3.out)
         have HB4 := Lib.hid (ext_trans HB3.out hb)
         clear hb))
    clear HS3 HK3 HB3
    have hmk := run_make_row' (P := Try.prog) 44 4 (.bool false) 1 Try.underlying44 infoBool rfl .i64 .i64 (2 * bn) (by omega) (by omega) w4
    have hcast : ((2 * bn : Nat) : Int) = 2 * (bn : Int) := by omega
    rw [hcast, boolsA_made] at hmk
    have k1 : w4.cell? ⟨w.heap.size, 1, none⟩ = some (.slice ba bn bc) := by rw [cell_of_row _ _ _ _ _ _ HK4.out]; rfl
    go_upto_region 9 with (fail)
    clear hmk hcast k1
    obtain ⟨W5, hW5⟩ : ∃ W5, W5 = w4.alloc (.cells (boolsA (2 * bn) fun _ => false) 4) := ⟨_, rfl⟩
    rw [← hW5]
    have hb5 : Below w4.heap.size w4 W5 := by rw [hW5]; exact ext_alloc _ _
    have ht5 : W5.heap[w4.heap.size]? = some (boolsO (2 * bn) (takenF (tsOf bs) 0)) := by
      rw [hW5, heap_alloc_new]
      have : takenF (tsOf bs) 0 = fun _ => false := by funext q; simp [takenF]
      rw [this]
    have HT5 := Lib.hid ht5
    have HB5 := Lib.hid hb5
    have HTB : Hid (∃ T, T = w4.heap.size) := ⟨_, rfl⟩
    clear hW5 ht5 hb5
    go_wp2
    go_loopw [5] (fun i wr => ∃ k : Nat, i = .int .i64 k ∧ k ≤ (allE (tsOf bs)).length ∧ Hid (Below w4.heap.size w4 wr) ∧ Hid (wr.heap[w4.heap.size]? = some (boolsO (2 * bn) (takenF (tsOf bs) k)))) (fun i _ => (allE (tsOf bs)).length - (intOf i).toNat)
    case atStart => exact ⟨0, rfl, by omega, HB5, HT5⟩
    case round =>
      obtain ⟨k, rfl, hk, HBr, HTr⟩ := hrel
      have HSr := Lib.hid (HS4.out.ext csE_len HBr.out)
      have HKr := Lib.hid (block_ext HBr.out HK4.out)
      have HBw := Lib.hid (ext_trans HB4.out HBr.out)
      clear HT5 HB5
      by_cases hlt : k < (allE (tsOf bs)).length
      · obtain ⟨x, b, o, hx, rfl, c0, c1, c2⟩ := edges_cells HSr.out hlt
        have hbx := allE_mem (List.mem_of_getElem? hx)
        rw [hbl] at hbx
        obtain ⟨fr, arm, tt⟩ := x
        simp only at hbx c0 c1 c2
        obtain ⟨i, rfl⟩ : ∃ i : Nat, fr = i := ⟨fr.toNat, by omega⟩
        obtain ⟨j, rfl⟩ : ∃ j : Nat, tt = j := ⟨tt.toNat, by omega⟩
        have hsp := spot_cases hx
        have HXK := Lib.hid hx
        have hlt' : (k : Int) < ((allE (tsOf bs)).length : Int) := by omega
        have hk0 : (0 : Int) ≤ (k : Int) := by omega
        have HSPOT : Hid (∀ n' : ExtW wr, Calls Try.prog 17 #[funcV pa pn pc ba bn bc, edgeV (⟨(i : Int), arm, (j : Int)⟩ : EdgeD)] n'.val fun e w'' => e = .returned (.tuple #[.int .i64 (spotD (tsOf bs) (⟨(i : Int), arm, (j : Int)⟩ : EdgeD)).1, .bool (spotD (tsOf bs) (⟨(i : Int), arm, (j : Int)⟩ : EdgeD)).2.1, .int .i64 (spotD (tsOf bs) (⟨(i : Int), arm, (j : Int)⟩ : EdgeD)).2.2]) ∧ ∃ m : ExtW wr, w'' = m.val) := fun n' =>
          quiet_ext (spot_any pa pn pc ba bn bc bs (⟨(i : Int), arm, (j : Int)⟩ : EdgeD) n'.val (HX.out.1.ext (ext_trans HBw.out n'.ext)))
        have kf := HKr.out
        have q0 : ∀ n' : ExtW wr, n'.val.cell? ⟨w.heap.size, 0, none⟩ = some (.slice pa pn pc) := ExtW.cell (by rw [cell_of_row _ _ _ _ _ _ kf]; rfl)
        have q1 : ∀ n' : ExtW wr, n'.val.cell? ⟨w.heap.size, 1, none⟩ = some (.slice ba bn bc) := ExtW.cell (by rw [cell_of_row _ _ _ _ _ _ kf]; rfl)
        have q2 := ExtW.cell c0
        have q3 := ExtW.cell c1
        have q4 := ExtW.cell c2
        have HNE : Nonempty (ExtW wr) := ⟨⟨wr, Below.refl _ _⟩⟩
        clear kf hx
        generalize hsd : spotD (tsOf bs) (⟨(i : Int), arm, (j : Int)⟩ : EdgeD) = sd at *
        obtain ⟨s1, s2, s3⟩ := sd
        go_wp2
        refine region_ext (by kernel_rfl) (by kernel_rfl) ?_
        repeat (first
          | go_big_quiet_skip
          | go_big_quiet_step (first
            | (go_at_call 17; exact HSPOT.out _)))
        refine wpQuiet_nil ?_
        intro _ hw'
        obtain ⟨n', rfl⟩ := hw'
        obtain ⟨W6, hW6⟩ : ∃ W6, W6 = n'.val := ⟨_, rfl⟩
        have hb6 : Below wr.heap.size wr W6 := by rw [hW6]; exact n'.ext
        rw [← hW6]
        have HB6 := Lib.hid hb6
        have r0 : ∀ m : ExtW W6, m.val.cell? ⟨w.heap.size, 0, none⟩ = some (.slice pa pn pc) := fun m => q0 ⟨m.val, ext_trans hb6 m.ext⟩
        have r1 : ∀ m : ExtW W6, m.val.cell? ⟨w.heap.size, 1, none⟩ = some (.slice ba bn bc) := fun m => q1 ⟨m.val, ext_trans hb6 m.ext⟩
        have r2 : ∀ m : ExtW W6, m.val.cell? ⟨b, o + k * 3, none⟩ = some (.int .i64 (i : Int)) := fun m => q2 ⟨m.val, ext_trans hb6 m.ext⟩
        have r3 : ∀ m : ExtW W6, m.val.cell? ⟨b, o + k * 3 + 1, none⟩ = some (.int .i64 arm) := fun m => q3 ⟨m.val, ext_trans hb6 m.ext⟩
        have r4 : ∀ m : ExtW W6, m.val.cell? ⟨b, o + k * 3 + 2, none⟩ = some (.int .i64 (j : Int)) := fun m => q4 ⟨m.val, ext_trans hb6 m.ext⟩
        have HNE6 : Nonempty (ExtW W6) := ⟨⟨W6, Below.refl _ _⟩⟩
        clear hW6 n' hb6 HNE
        rcases hsp with ⟨hcb, hs⟩ | ⟨hcb, hs, huniq⟩ | ⟨hcb, hs, huniq⟩
        · simp only [Prod.mk.injEq] at hs
          obtain ⟨rfl, rfl, rfl⟩ := hs
          have hkey : keyD (tsOf bs) (⟨(i : Int), arm, (j : Int)⟩ : EdgeD) = none := by simp [keyD, hsd]
          have HCR : Hid (∀ m' : ExtW W6, Calls Try.prog 18 #[funcV pa pn pc ba bn bc, edgeV (⟨(i : Int), arm, (j : Int)⟩ : EdgeD)] m'.val fun e w'' => e = .returned (.bool true) ∧ ∃ m : ExtW W6, w'' = m.val) := fun m' => by
            have := critical_any pa pn pc ba bn bc bs (⟨(i : Int), arm, (j : Int)⟩ : EdgeD) m'.val (HX.out.1.ext (ext_trans HBw.out (ext_trans HB6.out m'.ext)))
            rw [hcb] at this
            exact quiet_ext this
          clear hcb
          go_wp2
          refine region_ext (by kernel_rfl) (by kernel_rfl) ?_
          repeat (first
            | go_big_quiet_skip
            | go_big_quiet_step (first
              | (go_at_call 18; exact HCR.out _)))
          refine wpQuiet_nil ?_
          intro _ hw'
          obtain ⟨m', rfl⟩ := hw'
          obtain ⟨W7, hW7⟩ : ∃ W7, W7 = m'.val := ⟨_, rfl⟩
          have hb7 : Below W6.heap.size W6 W7 := by rw [hW7]; exact m'.ext
          rw [← hW7]
          have HB7 := Lib.hid (ext_trans HB6.out hb7)
          clear hW7 m' hb7 HCR HSPOT q0 q1 q2 q3 q4 r0 r1 r2 r3 r4
          have HST := Lib.hid (fun q => takenF_step HXK.out q)
          have hTk : takenF (tsOf bs) (k + 1) = takenF (tsOf bs) k := by funext q; rw [HST.out q, hkey]; simp
          have HT2 : Hid (W7.heap[w4.heap.size]? = some (boolsO (2 * bn) (takenF (tsOf bs) (k + 1)))) := by rw [Hid, hTk]; exact block_ext HB7.out HTr.out
          clear hTk hkey HST hsd
          go_wp2
          go_roundw
          case rel => exact ⟨k + 1, by go_num, by omega, ext_trans HBr.out HB7.out, HT2⟩
          case measure => simp [intOf]; omega
        · simp only [Prod.mk.injEq] at hs
          obtain ⟨rfl, rfl, rfl⟩ := hs
          have hkey : keyD (tsOf bs) (⟨(i : Int), arm, (j : Int)⟩ : EdgeD) = some (2 * i + 1) := by simp [keyD, hsd]
          have HNO := Lib.hid (taken_no HXK.out hkey)
          have HCR : Hid (∀ m' : ExtW W6, Calls Try.prog 18 #[funcV pa pn pc ba bn bc, edgeV (⟨(i : Int), arm, (j : Int)⟩ : EdgeD)] m'.val fun e w'' => e = .returned (.bool false) ∧ ∃ m : ExtW W6, w'' = m.val) := fun m' => by
            have := critical_any pa pn pc ba bn bc bs (⟨(i : Int), arm, (j : Int)⟩ : EdgeD) m'.val (HX.out.1.ext (ext_trans HBw.out (ext_trans HB6.out m'.ext)))
            rw [hcb] at this
            exact quiet_ext this
          clear hcb
          go_wp2
          refine region_ext (by kernel_rfl) (by kernel_rfl) ?_
          repeat (first
            | go_big_quiet_skip
            | go_big_quiet_step (first
              | (go_at_call 18; exact HCR.out _)))
          refine wpQuiet_nil ?_
          intro _ hw'
          obtain ⟨m', rfl⟩ := hw'
          obtain ⟨W7, hW7⟩ : ∃ W7, W7 = m'.val := ⟨_, rfl⟩
          have hb7 : Below W6.heap.size W6 W7 := by rw [hW7]; exact m'.ext
          rw [← hW7]
          have HB7 := Lib.hid (ext_trans HB6.out hb7)
          clear hW7 m' hb7 HCR HSPOT q0 q1 q2 q3 q4 r0 r1 r2 r3 r4
          have HST := Lib.hid (fun q => takenF_step HXK.out q)
          have ht7 := block_ext HB7.out HTr.out
          have ct : W7.cell? ⟨w4.heap.size, 2 * i + 1, none⟩ = some (.bool false) := by rw [cell_of_row _ _ _ _ _ _ ht7, boolsA_at _ _ _ (by omega), HNO.out]
          have cf : W7.frozen? ⟨w4.heap.size, 2 * i + 1, none⟩ = false := frozen_of_row _ _ _ _ _ ht7
          have u0 := cell_ext HB7.out c0
          have u2 := cell_ext HB7.out c2
          have HKEY := Lib.hid hkey
          have HUQ := Lib.hid huniq
          have HT7 := Lib.hid ht7
          clear hkey hsd huniq ht7
          go_wp2
          have hst := heap_setCell_same W7 w4.heap.size (2 * i + 1) _ _ (.bool true) HT7.out
          rw [boolsA_set (2 * bn) (takenF (tsOf bs) k) (takenF (tsOf bs) (k + 1)) (2 * i + 1) (fun q => by
            rw [HST.out q, HKEY.out]
            by_cases e : q = 2 * i + 1
            · subst e; simp
            · have e' : ¬ (2 * i + 1) = q := fun h => e h.symm
              simp [e, e'])] at hst
          have hb8 := (ext_trans HBr.out HB7.out).setCell (p := ⟨w4.heap.size, 2 * i + 1, none⟩) (Nat.le_refl _) (.bool true)
          obtain ⟨W8, hW8⟩ : ∃ W8, W8 = W7.setCell ⟨w4.heap.size, 2 * i + 1, none⟩ (.bool true) := ⟨_, rfl⟩
          rw [← hW8] at hst hb8 ⊢
          have HT8 := Lib.hid hst
          have HB8 := Lib.hid hb8
          clear hst hb8 hW8 ct cf u0 u2 HT7 HST HKEY c0 c1 c2
          obtain ⟨wo, rfl⟩ : ∃ wo : World, wo = wr := ⟨_, rfl⟩
          go_loopw [10] (fun s10 wi => ∃ m : Nat, s10 = .int .i64 m ∧ m ≤ (allE (tsOf bs)).length ∧ Hid (wi = W8)) (fun s10 _ => (allE (tsOf bs)).length - (intOf s10).toNat)
          case atStart => exact ⟨0, rfl, by omega, rfl⟩
          case round =>
            obtain ⟨m, rfl, hm, HW8⟩ := hrel
            obtain rfl : wr = W8 := HW8.out
            by_cases hml : m < (allE (tsOf bs)).length
            · obtain ⟨y, b', o', hy, e1, d0, d1, d2⟩ := edges_cells (HS4.out.ext csE_len HB8.out) hml
              injection e1 with e1
              injection e1 with e1 e2
              subst e1 e2
              have hml' : (m : Int) < ((allE (tsOf bs)).length : Int) := by omega
              by_cases hmk : m = k
              · subst hmk
                have hd : ((m : Int) != (m : Int)) = false := by simp
                clear hy
                go_wp2
                go_roundw
                case rel => exact ⟨m + 1, by go_num, by omega, Lib.hid trivial⟩
                case measure => simp [intOf]; omega
              · have hd : ((m : Int) != (k : Int)) = true := by simp; omega
                have hd2 : (y.fr == (i : Int)) = false := by
                  rw [Bool.eq_false_iff]
                  intro h
                  exact hmk (HUQ.out m y hy (by simpa using h))
                clear hy
                go_wp2
                go_roundw
                case rel => exact ⟨m + 1, by go_num, by omega, Lib.hid trivial⟩
                case measure => simp [intOf]; omega
            · obtain rfl : m = (allE (tsOf bs)).length := by omega
              go_wp2
              go_roundw
              case rel => exact ⟨k + 1, by go_num, by omega, HB8, HT8⟩
              case measure => simp [intOf]; omega
        · simp only [Prod.mk.injEq] at hs
          obtain ⟨rfl, rfl, rfl⟩ := hs
          have hkey : keyD (tsOf bs) (⟨(i : Int), arm, (j : Int)⟩ : EdgeD) = some (2 * j) := by simp [keyD, hsd]
          have HNO := Lib.hid (taken_no HXK.out hkey)
          have HCR : Hid (∀ m' : ExtW W6, Calls Try.prog 18 #[funcV pa pn pc ba bn bc, edgeV (⟨(i : Int), arm, (j : Int)⟩ : EdgeD)] m'.val fun e w'' => e = .returned (.bool false) ∧ ∃ m : ExtW W6, w'' = m.val) := fun m' => by
            have := critical_any pa pn pc ba bn bc bs (⟨(i : Int), arm, (j : Int)⟩ : EdgeD) m'.val (HX.out.1.ext (ext_trans HBw.out (ext_trans HB6.out m'.ext)))
            rw [hcb] at this
            exact quiet_ext this
          clear hcb
          go_wp2
          refine region_ext (by kernel_rfl) (by kernel_rfl) ?_
          repeat (first
            | go_big_quiet_skip
            | go_big_quiet_step (first
              | (go_at_call 18; exact HCR.out _)))
          refine wpQuiet_nil ?_
          intro _ hw'
          obtain ⟨m', rfl⟩ := hw'
          obtain ⟨W7, hW7⟩ : ∃ W7, W7 = m'.val := ⟨_, rfl⟩
          have hb7 : Below W6.heap.size W6 W7 := by rw [hW7]; exact m'.ext
          rw [← hW7]
          have HB7 := Lib.hid (ext_trans HB6.out hb7)
          clear hW7 m' hb7 HCR HSPOT q0 q1 q2 q3 q4 r0 r1 r2 r3 r4
          have HST := Lib.hid (fun q => takenF_step HXK.out q)
          have ht7 := block_ext HB7.out HTr.out
          have ct : W7.cell? ⟨w4.heap.size, 2 * j, none⟩ = some (.bool false) := by rw [cell_of_row _ _ _ _ _ _ ht7, boolsA_at _ _ _ (by omega), HNO.out]
          have cf : W7.frozen? ⟨w4.heap.size, 2 * j, none⟩ = false := frozen_of_row _ _ _ _ _ ht7
          have u0 := cell_ext HB7.out c0
          have u2 := cell_ext HB7.out c2
          have HKEY := Lib.hid hkey
          have HUQ := Lib.hid huniq
          have HT7 := Lib.hid ht7
          clear hkey hsd huniq ht7
          go_wp2
          have hst := heap_setCell_same W7 w4.heap.size (2 * j) _ _ (.bool true) HT7.out
          rw [boolsA_set (2 * bn) (takenF (tsOf bs) k) (takenF (tsOf bs) (k + 1)) (2 * j) (fun q => by
            rw [HST.out q, HKEY.out]
            by_cases e : q = 2 * j
            · subst e; simp
            · have e' : ¬ (2 * j) = q := fun h => e h.symm
              simp [e, e'])] at hst
          have hb8 := (ext_trans HBr.out HB7.out).setCell (p := ⟨w4.heap.size, 2 * j, none⟩) (Nat.le_refl _) (.bool true)
          obtain ⟨W8, hW8⟩ : ∃ W8, W8 = W7.setCell ⟨w4.heap.size, 2 * j, none⟩ (.bool true) := ⟨_, rfl⟩
          rw [← hW8] at hst hb8 ⊢
          have HT8 := Lib.hid hst
          have HB8 := Lib.hid hb8
          clear hst hb8 hW8 ct cf u0 u2 HT7 HST HKEY c0 c1 c2
          obtain ⟨wo, rfl⟩ : ∃ wo : World, wo = wr := ⟨_, rfl⟩
          go_loopw [10] (fun s10 wi => ∃ m : Nat, s10 = .int .i64 m ∧ m ≤ (allE (tsOf bs)).length ∧ Hid (wi = W8)) (fun s10 _ => (allE (tsOf bs)).length - (intOf s10).toNat)
          case atStart => exact ⟨0, rfl, by omega, rfl⟩
          case round =>
            obtain ⟨m, rfl, hm, HW8⟩ := hrel
            obtain rfl : wr = W8 := HW8.out
            by_cases hml : m < (allE (tsOf bs)).length
            · obtain ⟨y, b', o', hy, e1, d0, d1, d2⟩ := edges_cells (HS4.out.ext csE_len HB8.out) hml
              injection e1 with e1
              injection e1 with e1 e2
              subst e1 e2
              have hml' : (m : Int) < ((allE (tsOf bs)).length : Int) := by omega
              by_cases hmk : m = k
              · subst hmk
                have hd : ((m : Int) != (m : Int)) = false := by simp
                clear hy
                go_wp2
                go_roundw
                case rel => exact ⟨m + 1, by go_num, by omega, Lib.hid trivial⟩
                case measure => simp [intOf]; omega
              · have hd : ((m : Int) != (k : Int)) = true := by simp; omega
                have hd2 : (y.to == (j : Int)) = false := by
                  rw [Bool.eq_false_iff]
                  intro h
                  exact hmk (HUQ.out m y hy (by simpa using h))
                clear hy
                go_wp2
                go_roundw
                case rel => exact ⟨m + 1, by go_num, by omega, Lib.hid trivial⟩
                case measure => simp [intOf]; omega
            · obtain rfl : m = (allE (tsOf bs)).length := by omega
              go_wp2
              go_roundw
              case rel => exact ⟨k + 1, by go_num, by omega, HB8, HT8⟩
              case measure => simp [intOf]; omega
      · obtain rfl : k = (allE (tsOf bs)).length := by omega
        have HNO : Hid (spotD (tsOf bs) ⟨(bn : Int), 0, 0⟩ = (0, false, 2)) := (spot_none (fun hm => by
          have := allE_mem hm
          rw [hbl] at this
          simp only at this
          omega)).1
        have kf := HKr.out
        have k1 : wr.cell? ⟨w.heap.size, 1, none⟩ = some (.slice ba bn bc) := by rw [cell_of_row _ _ _ _ _ _ kf]; rfl
        clear kf
        go_wp2_with (first
          | (go_at_call 19
             refine (sameEdges_any la _ lc (allE (tsOf bs)) ma _ mc (allE (tsOf bs)) w7 (HSr.out.ext csE_len HB76.out) HS7.out).mono ?_
             rintro e w8 ⟨he, hb8⟩
             rw [decide_eq_true (rfl : allE (tsOf bs) = allE (tsOf bs))] at he
             subst he
             have HB8 := Lib.hid (ext_trans HB7.out hb8)
             clear hb8)
          | (go_at_call 13
             refine (allE_any pa pn pc ba bn bc bs w6 (HX.out.1.ext HB6.out)).mono ?_
             intro e w7 hp
             obtain ⟨ma, mc, rfl, ho, hs, hb⟩ := hp.form
             have HS7 := Lib.hid hs
             have HB76 := Lib.hid (ext_trans HB66.out hb)
             have HB7 := Lib.hid (ext_trans HB6.out hb)
             clear hb ho hs hp)
          | (refine wpList_load_row (o := ⟨some 132, .load 25 _, _, _, _, _⟩) rfl 25 _ rfl w.heap.size rfl 25 _ (0, 0) _ HKr.out Try.underlying25 rfl size_func ?_)
          | (go_at_call 17
             refine (spot_any pa pn pc ba bn bc bs ⟨(bn : Int), 0, 0⟩ wr (HX.out.1.ext HBw.out)).mono ?_
             rintro e w6 ⟨he, hb6⟩
             rw [HNO.out] at he
             subst he
             have kf6 := block_ext hb6 HKr.out
             have k60 : w6.cell? ⟨w.heap.size, 0, none⟩ = some (.slice pa pn pc) := (by rw [cell_of_row _ _ _ _ _ _ kf6]; rfl)
             have k61 : w6.cell? ⟨w.heap.size, 1, none⟩ = some (.slice ba bn bc) := (by rw [cell_of_row _ _ _ _ _ _ kf6]; rfl)
             have HB66 := Lib.hid hb6
             have HB6 := Lib.hid (ext_trans HBw.out hb6)
             clear hb6 kf6))
        go_ret
        exact ⟨rfl, HB8.out⟩
end Go.Proofs.Ytblhmdhfhaencaa
