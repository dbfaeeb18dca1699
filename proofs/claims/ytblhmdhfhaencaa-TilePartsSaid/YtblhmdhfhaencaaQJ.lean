/-
 Building tiles: the smallest part in which a block is.
-/
import Derived.Test.YtblhmdhfhaencaaMarks
namespace Go.Proofs.Ytblhmdhfhaencaa
set_option linter.unusedSimpArgs false
set_option linter.unusedVariables false
set_option linter.unusedSectionVars false
set_option maxRecDepth 100000
set_option maxHeartbeats 40000000
section
open Go.RowKit Go.Shelf

theorem small_take (n : Nat) (L : List PartD) (k j : Nat) (hj : j < L.length) : smallestP n (L.take (j + 1)) k = smallStep k (smallestP n (L.take j) k) (L.getD j zPart) := by
 rw [smallestP, smallestP, takeS L j zPart hj, List.foldl_append]
 rfl
theorem part_cell {W : World} {B : Nat} {p : PartD} (h : W.heap[B]? = some (partO p)) {k : Nat} (hk : k < 200) : W.cell? ⟨B, k, none⟩ = some (.bool (p.s k)) := by
 rw [cell_of_row _ _ _ _ _ _ h, partC_at]
 rw [Array.getElem?_push, if_neg (by simp [setA_size]; omega), Array.getElem?_push, if_neg (by rw [setA_size]; omega)]
 exact setA_at _ _ hk
theorem smallest_any (P base : Nat) (a : Option Addr) (n c : Nat) (d : WalkD) (L : List PartD) (k : Nat) (w : World) (hB : w.heap[P]? = some (bldO d (.slice a n c))) (hL : PartsIn w base (.slice a n c) L) (hn : n ≤ 1000000) (hk : k < 200) (hd : d.bn ≤ 200) :
  Calls Try.prog 82 #[.pointer (some ⟨P, 0, none⟩), .int .i64 (k : Int)] w fun e w' => e = .returned (partV (smallestP d.bn L k)) ∧ Below w.heap.size w w' := by
 have hlen : L.length = n := by
  obtain ⟨_, _, e⟩ := OwnR.form hL
  injection e with _ e _
  exact e.symm
 have HBL := Lib.hid hB
 have HL := Lib.hid hL
 clear hB hL
 go_enter Try.func82, Try.ntmps82
 go_upto_region 1 with (fail)
 obtain ⟨W0, hW0⟩ : ∃ W, W = w.alloc (.cells Try.zeroCells99 99) := ⟨_, rfl⟩
 rw [← hW0]
 have hz0 : W0.heap[w.heap.size]? = some (.cells Try.zeroCells99 99 (0, 0)) := by rw [hW0]; exact heap_alloc_new _ _
 have hb0 : Below w.heap.size w W0 := by rw [hW0]; exact ext_alloc _ _
 have hg0 := bld_walk (block_ext hb0 HBL.out)
 have HZ0 := Lib.hid hz0
 have HB0 := Lib.hid hb0
 clear hW0 hz0 hb0
 go_upto_region 2 with (first
  | (refine wpList_load_mid (op := ⟨some 11, .load 70 _, _, _, _, _⟩) rfl 70 _ rfl P 0 rfl _ _ hg0 Try.underlying70 rfl size_walk ?_)
  | (refine wpList_part (o := ⟨some 13, .build 99 _, _, _, _, _⟩) rfl _ _ _ (wholeS d.bn) 1 0 rfl rfl rfl rfl ?_)
  | (refine wpList_store_row (o := ⟨none, .store 99 _ _, _, _, _, _⟩) rfl 99 _ _ rfl W1.heap.size (partC (wholeP d.bn)).toArray rfl rfl 99 Try.zeroCells99 (heap_alloc_new _ _) (size_partA _) (by rw [zero_part, List.size_toArray, partC_len]) (all_oneCell_toArray (partC_one _)) ?_)
  | (go_at_call 51
     refine (whole_any d hd W0).mono ?_
     rintro e W1 ⟨rfl, hb1⟩
     have HB1 := Lib.hid hb1
     clear hb1))
 obtain ⟨W2, hW2⟩ : ∃ W, W = (W1.alloc (.cells Try.zeroCells99 99)).setRow W1.heap.size (partC (wholeP d.bn)).toArray := ⟨_, rfl⟩
 rw [← hW2, put_none]
 have hz2 : W2.heap[W1.heap.size]? = some (partO (wholeP d.bn)) := by rw [hW2]; exact setRow_heap _ _ _ _ _ _ (heap_alloc_new _ _)
 have hb2 : Below w.heap.size w W2 := by
  have h1 := ext_trans HB0.out HB1.out
  rw [hW2]
  exact below_setRow (ext_trans h1 (ext_alloc _ _)) h1.size _
 have hbl : w.heap.size < W1.heap.size := by have := lt_of_heap HZ0.out; have := HB1.out.size; omega
 have hz3 : W2.heap[w.heap.size]? = some (.cells Try.zeroCells99 99 (0, 0)) := by
  rw [hW2, setRow_other _ _ _ _ (by omega)]
  exact block_ext (ext_trans HB1.out (ext_alloc _ _)) HZ0.out
 have hc2 : W2.cell? ⟨P, 4, none⟩ = some (.slice a n c) := by rw [cell_of_row _ _ _ _ _ _ (block_ext hb2 HBL.out)]; rfl
 have HZ2 := Lib.hid hz2
 have HZ3 := Lib.hid hz3
 have HB2 := Lib.hid hb2
 clear hW2 hz2 hz3 hb2 HB0 HB1 HZ0 hg0
 generalize W1.heap.size = bb at *
 go_wp2
 go_loopw [19] (fun s19 wr => ∃ j : Nat, j ≤ n ∧ s19 = .int .i64 (j : Int) ∧ Hid (wr.heap[bb]? = some (partO (smallestP d.bn (L.take j) k)) ∧ wr.heap[w.heap.size]? = some (.cells Try.zeroCells99 99 (0, 0)) ∧ Below w.heap.size w wr)) (fun s19 _ => n - (intOf s19).toNat)
 case atStart => exact ⟨0, by omega, rfl, HZ2.out, HZ3.out, HB2.out⟩
 case round =>
  obtain ⟨j, hj, rfl, HR⟩ := hrel
  clear HZ2 HZ3 HB2
  by_cases hlt : j < n
  · have hlt' : (j : Int) < (n : Int) := by omega
    have hLr : PartsIn wr base (.slice a n c) L := HL.out.ext HR.out.2.2
    have hform : ∃ g, a = some ⟨g, 0, none⟩ := by
     obtain ⟨g, c', e⟩ := own_form hLr.1 (by omega)
     injection e with e _ _
     exact ⟨g, e⟩
    obtain ⟨g, rfl⟩ := hform
    have hr := part_range hLr hlt
    have HTK := Lib.hid (small_take d.bn L k j (by omega))
    have hbw := lt_of_heap HR.out.1
    clear hLr
    obtain ⟨q, hq⟩ : ∃ q, q = L.getD j zPart := ⟨_, rfl⟩
    obtain ⟨best, hbest⟩ : ∃ q, q = smallestP d.bn (L.take j) k := ⟨_, rfl⟩
    rw [← hq] at hr HTK
    rw [← hbest] at HR HTK
    clear hq hbest
    go_upto_region 5 with (first
     | (refine wpList_load_mid rfl 99 _ rfl g (j * 202) rfl (partC q) _ hr Try.underlying99 rfl (size_partC _) ?_)
     | (refine wpList_store_row rfl 99 _ _ rfl wr.heap.size (partC q).toArray rfl rfl 99 Try.zeroCells99 (heap_alloc_new _ _) (size_partA _) (by rw [zero_part, List.size_toArray, partC_len]) (all_oneCell_toArray (partC_one _)) ?_))
    obtain ⟨W5, hW5⟩ : ∃ W, W = (wr.alloc (.cells Try.zeroCells99 99)).setRow wr.heap.size (partC q).toArray := ⟨_, rfl⟩
    rw [← hW5, put_none]
    have hq5 : W5.heap[wr.heap.size]? = some (partO q) := by rw [hW5]; exact setRow_heap _ _ _ _ _ _ (heap_alloc_new _ _)
    have hb5 : Below wr.heap.size wr W5 := by rw [hW5]; exact below_setRow (ext_alloc _ _) (Nat.le_refl _) _
    have HQ5 := Lib.hid hq5
    have HP5 := Lib.hid (block_ext hb5 HR.out.1)
    have HZ5 := Lib.hid (block_ext hb5 HR.out.2.1)
    have HB5 := Lib.hid (ext_trans HR.out.2.2 hb5)
    have h1 := part_set0 hq5
    have h2 := part_set0 HP5.out
    have hc5 := part_cell hq5 hk
    clear hW5 hb5 hq5 hr HR
    generalize wr.heap.size = gq at *
    obtain ⟨kb, hkb⟩ : ∃ b, b = q.s k := ⟨_, rfl⟩
    rw [← hkb] at hc5
    have HKB := Lib.hid hkb
    clear hkb
    cases kb with
    | false =>
      have HN : Hid (smallestP d.bn (L.take (j + 1)) k = best) := by rw [Hid, HTK.out, smallStep, ← HKB.out]; rfl
      clear h1 h2
      go_wp2
      go_roundw
      case rel => exact ⟨j + 1, by omega, by go_num, by rw [HN.out]; exact HP5.out, HZ5.out, HB5.out⟩
      case measure => simp [intOf]; omega
    | true =>
      obtain ⟨wb, hwb⟩ : ∃ b, b = withinB q.s best.s := ⟨_, rfl⟩
      have HWB := Lib.hid hwb
      clear hwb
      cases wb with
      | false =>
        have HN : Hid (smallestP d.bn (L.take (j + 1)) k = best) := by rw [Hid, HTK.out, smallStep, ← HKB.out, ← HWB.out]; rfl
        go_wp2_with (first
         | (refine wpList_load_midW (o := ⟨some 29, .load 78 _, _, _, _, _⟩) (by rfl) 78 _ rfl gq 0 rfl (setA q.s).toList _ h1 Try.underlying78 rfl (by rw [Array.length_toList, setA_size]; exact size_set) ?_)
         | (refine wpList_load_midW (o := ⟨some 31, .load 78 _, _, _, _, _⟩) (by rfl) 78 _ rfl bb 0 rfl (setA best.s).toList _ h2 Try.underlying78 rfl (by rw [Array.length_toList, setA_size]; exact size_set) ?_)
         | (go_at_call 87
            refine (within_any q.s best.s W5).mono ?_
            rintro e w6 ⟨rfl, hb6⟩
            rw [← HWB.out]
            have HP6 := Lib.hid (block_ext hb6 HP5.out)
            have HZ6 := Lib.hid (block_ext hb6 HZ5.out)
            have HB6 := Lib.hid (ext_trans HB5.out hb6)
            clear hb6))
        go_roundw
        case rel => exact ⟨j + 1, by omega, by go_num, by rw [HN.out]; exact HP6.out, HZ6.out, HB6.out⟩
        case measure => simp [intOf]; omega
      | true =>
        have HN : Hid (smallestP d.bn (L.take (j + 1)) k = q) := by rw [Hid, HTK.out, smallStep, ← HKB.out, ← HWB.out]; rfl
        go_wp2_with (first
         | (refine wpList_load_midW (o := ⟨some 29, .load 78 _, _, _, _, _⟩) (by rfl) 78 _ rfl gq 0 rfl (setA q.s).toList _ h1 Try.underlying78 rfl (by rw [Array.length_toList, setA_size]; exact size_set) ?_)
         | (refine wpList_load_midW (o := ⟨some 31, .load 78 _, _, _, _, _⟩) (by rfl) 78 _ rfl bb 0 rfl (setA best.s).toList _ h2 Try.underlying78 rfl (by rw [Array.length_toList, setA_size]; exact size_set) ?_)
         | (refine wpList_store_row (o := ⟨none, .store 99 _ _, _, _, _, _⟩) rfl 99 _ _ rfl bb (partC q).toArray rfl rfl 99 (partC best).toArray HP6.out (size_partA _) (by rw [List.size_toArray, List.size_toArray, partC_len, partC_len]) (all_oneCell_toArray (partC_one _)) ?_)
         | (refine wpList_load_row (o := ⟨some 34, .load 99 _, _, _, _, _⟩) rfl 99 _ rfl gq rfl 99 (partC q).toArray (0, 0) _ HQ6.out Try.underlying99 rfl (size_partA _) ?_)
         | (go_at_call 87
            refine (within_any q.s best.s W5).mono ?_
            rintro e w6 ⟨rfl, hb6⟩
            rw [← HWB.out]
            have HQ6 := Lib.hid (block_ext hb6 HQ5.out)
            have HP6 := Lib.hid (block_ext hb6 HP5.out)
            have HZ6 := Lib.hid (block_ext hb6 HZ5.out)
            have HB6 := Lib.hid (ext_trans HB5.out hb6)
            clear hb6))
        have hp9 := setRow_heap w6 bb _ (partC q).toArray _ _ HP6.out
        have hz9 := (setRow_other w6 bb w.heap.size (partC q).toArray (by omega)).trans HZ6.out
        have hb9 := below_setRow HB6.out (by omega) (g := bb) (partC q).toArray
        generalize w6.setRow bb (partC q).toArray = w9 at *
        go_roundw
        case rel => exact ⟨j + 1, by omega, by go_num, by rw [HN.out]; exact hp9, hz9, hb9⟩
        case measure => simp [intOf]; omega
  · obtain rfl : j = n := by omega
    have HT : Hid (L.take j = L) := List.take_of_length_le (by omega)
    have hp := HR.out.1
    rw [HT.out] at hp
    have HP := Lib.hid hp
    have HZ := Lib.hid HR.out.2.1
    have HB9 := Lib.hid HR.out.2.2
    clear hp HR
    obtain ⟨best, hbest⟩ : ∃ q, q = smallestP d.bn L k := ⟨_, rfl⟩
    rw [← hbest] at HP
    have HBE := Lib.hid hbest
    clear hbest
    go_wp2_with (first
     | (refine wpList_store_row (o := ⟨none, .store 99 _ _, _, _, _, _⟩) rfl 99 _ _ rfl w.heap.size (partC best).toArray rfl rfl 99 Try.zeroCells99 HZ.out (size_partA _) (by rw [zero_part, List.size_toArray, partC_len]) (all_oneCell_toArray (partC_one _)) ?_)
     | (refine wpList_load_row (o := ⟨some 36, .load 99 _, _, _, _, _⟩) rfl 99 _ rfl bb rfl 99 (partC best).toArray (0, 0) _ HP.out Try.underlying99 rfl (size_partA _) ?_))
    have hl := run_loadVar_row (P := Try.prog) _ w.heap.size 99 99 _ (0, 0) _ (setRow_heap wr w.heap.size _ (partC best).toArray _ _ HZ.out) Try.underlying99 rfl (size_partA _)
    refine bodyPost_ret (v := partV best) ?_ rfl ⟨by rw [HBE.out], below_setRow HB9.out (Nat.le_refl _) _⟩
    simp [results, Try.results82, asAddr, Act.put, hl]
end
end Go.Proofs.Ytblhmdhfhaencaa
