/-
  Tile: the blocks that hang together with one.
-/
import Derived.Test.YtblhmdhfhaencaaGreatTF
import Derived.Test.YtblhmdhfhaencaaGreatFreeL
namespace Go.Proofs.YtblhmdhfhaencaaGreat
set_option linter.unusedSimpArgs false
set_option linter.unusedVariables false
open Go.RowKit

theorem size_walk : (Tryz.prog.info? 116).map (·.size) = some 4 := by kernel_rfl
theorem WalkOK.nx_lt {w : World} {d : WalkD} {ts : List TermD} (h : goodB ts = true) : (∀ k y, y ∈ nx ts k → y < 200) ∧ (∀ k y, y ∈ pv ts k → y < 200) := by
  have hl := ((goodB_iff ts).1 h).1
  refine ⟨fun k y hy => ?_, fun k y hy => ?_⟩
  · have := good_nx h hy; omega
  · have hk := (mem_pv ts k y).1 hy
    by_cases hy2 : y < ts.length
    · omega
    · rw [nx_none ts y (by omega)] at hk; cases hk
theorem WalkOK.nx_to {w : World} {d : WalkD} {ts : List TermD} (h : goodB ts = true) (hok : WalkOK w d ts) (f : Nat → Bool) : (∀ k y, y ∈ nx ts k → y < 200 ∧ (f y = true → y < d.bn)) ∧ (∀ k y, y ∈ pv ts k → y < 200 ∧ (f y = true → y < d.bn)) := by
  have hl := ((goodB_iff ts).1 h).1
  rw [← hok.1]
  refine ⟨fun k y hy => ?_, fun k y hy => ?_⟩
  · have := good_nx h hy; exact ⟨by omega, fun _ => by omega⟩
  · have hk := (mem_pv ts k y).1 hy
    by_cases hy2 : y < ts.length
    · exact ⟨by omega, fun _ => hy2⟩
    · rw [nx_none ts y (by omega)] at hk; cases hk
set_option maxRecDepth 100000 in
set_option maxHeartbeats 4000000 in
theorem knot_any (d : WalkD) (ts : List TermD) (b : Nat) (f : Nat → Bool) (w : World) (hb : b < 200) (hok : WalkOK w d ts) (hg : goodB ts = true) (hcf : Canon f) (hf : f b = true → b < d.bn) :
    Calls Tryz.prog 130 #[walkV d, .int .i64 (b : Int), .agg (setA f)] w (SetPost w (knotS ts b f)) := by
  have HOK := Lib.hid hok
  have HF := Lib.hid hf
  have HCF := Lib.hid hcf
  have HX := Lib.hid (WalkOK.nx_to hg hok f)
  clear hok hg hcf hf
  go_enter Tryz.func130, Tryz.ntmps130
  go_upto_region 1 with (fail)
  obtain ⟨W, hW⟩ : ∃ W, W = ((w.alloc (walkO d)).alloc (setO f)).alloc (.cells Tryz.zeroCells124 124) := ⟨_, rfl⟩
  rw [← hW]
  have hk : W.heap[w.heap.size]? = some (walkO d) := by rw [hW, Below.heap_alloc _ _ _ (by simp; omega), Below.heap_alloc _ _ _ (by simp)]; exact heap_alloc_new _ _
  have hs : W.heap[w.heap.size + 1]? = some (setO f) := by rw [hW, Below.heap_alloc _ _ _ (by simp)]; exact heap_at _ _ _ (by simp)
  have hr : W.heap[w.heap.size + 1 + 1]? = some (setO fun _ => false) := by rw [hW, heap_at _ _ _ (by simp), zero_set]
  have hB : Below w.heap.size w W := by rw [hW]; exact ((ext_alloc _ _).alloc (by simp) _).alloc (by simp; omega) _
  have hWs : W.heap.size = w.heap.size + 1 + 1 + 1 := by rw [hW]; simp
  have HWs := Lib.hid hWs
  have HK := Lib.hid hk
  have HS := Lib.hid hs
  have HR := Lib.hid hr
  have HB := Lib.hid hB
  have HC2 : Hid (W.cell? ⟨w.heap.size, 2, none⟩ = some (.slice d.ta d.bn d.tc)) := by rw [Hid, cell_of_row _ _ _ _ _ _ hk]; rfl
  have HC3 : Hid (W.cell? ⟨w.heap.size, 3, none⟩ = some (.slice d.fa d.bn d.fc)) := by rw [Hid, cell_of_row _ _ _ _ _ _ hk]; rfl
  clear hW hWs hk hs hr hB
  go_cut [7, 8] (fun s7 s8 wr => ∃ p7 p8 : Nat, s7 = .pointer (some ⟨p7, 0, none⟩) ∧ s8 = .pointer (some ⟨p8, 0, none⟩) ∧ w.heap.size + 1 + 1 + 1 ≤ p7 ∧ w.heap.size + 1 + 1 + 1 ≤ p8 ∧ p7 ≠ p8 ∧ Hid (wr.heap[p7]? = some (setO (walkF (nx ts) f b))) ∧ Hid (wr.heap[p8]? = some (setO (walkF (pv ts) f b))) ∧ Hid (wr.heap[w.heap.size + 1 + 1]? = some (setO fun _ => false)) ∧ Hid (Below w.heap.size w wr))
  case first =>
    refine region_free 14 [some 10, some 11, some 12, some 13, some 14, some 15, some 16, some 17, some 18, some 19, some 20, some 21, some 7, some 8] (by kernel_rfl) (by kernel_rfl) (specB [.val (walkV d), .val (.int .i64 (b : Int)), .val (.agg (setA f)), .val (.pointer (some ⟨w.heap.size, 2, none⟩)), .val (.slice d.ta d.bn d.tc), .val (.agg (setA (walkF (nx ts) f b))), .val (walkV d), .val (.int .i64 (b : Int)), .val (.agg (setA f)), .val (.pointer (some ⟨w.heap.size, 3, none⟩)), .val (.slice d.fa d.bn d.fc), .val (.agg (setA (walkF (pv ts) f b))), .new (setO fun _ => false), .new (setO fun _ => false)]) (specB_mono ?_) ?_ ?_
    · intro k hk
      simp only [List.mem_cons, List.not_mem_nil, or_false] at hk
      rcases hk with rfl | rfl | rfl | rfl | rfl | rfl | rfl | rfl | rfl | rfl | rfl | rfl | rfl | rfl
      · exact trivial
      · exact trivial
      · exact trivial
      · exact trivial
      · exact trivial
      · exact trivial
      · exact trivial
      · exact trivial
      · exact trivial
      · exact trivial
      · exact trivial
      · exact trivial
      · exact trivial
      · exact trivial
    · intro i hi ν lo hi' w1 K hB hD hK
      have hcase : i = 0 ∨ i = 1 ∨ i = 2 ∨ i = 3 ∨ i = 4 ∨ i = 5 ∨ i = 6 ∨ i = 7 ∨ i = 8 ∨ i = 9 ∨ i = 10 ∨ i = 11 ∨ i = 12 ∨ i = 13 := by omega
      clear hi
      rcases hcase with rfl | rfl | rfl | rfl | rfl | rfl | rfl | rfl | rfl | rfl | rfl | rfl | rfl | rfl
      · clear hD
        refine wpOp_atK rfl rfl ?_
        simp only [frameOf, frameGo, List.getD_cons_zero, List.getD_cons_succ, put_some, put_none, List.setIfInBounds_toArray, List.set_cons_succ, List.set_cons_zero] at hK ⊢
        refine wp_load_row 116 _ rfl w.heap.size rfl 116 _ (0, 0) _ (block_ext hB HK.out) Tryz.underlying116 rfl size_walk ?_
        exact hK _ _ (Below.refl _ _) rfl
      · clear hD
        refine wpOp_atK rfl rfl ?_
        simp only [frameOf, frameGo, List.getD_cons_zero, List.getD_cons_succ, put_some, put_none, List.setIfInBounds_toArray, List.set_cons_succ, List.set_cons_zero] at hK ⊢
        go_simp
        exact hK _ _ (Below.refl _ _) rfl
      · clear hD
        refine wpOp_atK rfl rfl ?_
        simp only [frameOf, frameGo, List.getD_cons_zero, List.getD_cons_succ, put_some, put_none, List.setIfInBounds_toArray, List.set_cons_succ, List.set_cons_zero] at hK ⊢
        refine wp_load_row 124 _ rfl (w.heap.size + 1) rfl 124 _ (0, 0) _ (block_ext hB HS.out) Tryz.underlying124 rfl (by rw [setA_size]; exact size_set) ?_
        exact hK _ _ (Below.refl _ _) rfl
      · clear hD
        refine wpOp_atK rfl rfl ?_
        simp only [frameOf, frameGo, List.getD_cons_zero, List.getD_cons_succ, put_some, put_none, List.setIfInBounds_toArray, List.set_cons_succ, List.set_cons_zero] at hK ⊢
        go_simp
        exact hK _ _ (Below.refl _ _) rfl
      · have e3 := hD 3 (by kernel_rfl)
        replace e3 : ν 3 = (.pointer (some ⟨w.heap.size, 2, none⟩)) := e3
        clear hD
        refine wpOp_atK rfl rfl ?_
        simp only [frameOf, frameGo, List.getD_cons_zero, List.getD_cons_succ, put_some, put_none, List.setIfInBounds_toArray, List.set_cons_succ, List.set_cons_zero, e3] at hK ⊢
        have c0 := cell_ext hB HC2.out
        go_simp
        exact hK _ _ (Below.refl _ _) rfl
      · have e0 := hD 0 (by kernel_rfl)
        replace e0 : ν 0 = (walkV d) := e0
        have e1 := hD 1 (by kernel_rfl)
        replace e1 : ν 1 = (.int .i64 (b : Int)) := e1
        have e2 := hD 2 (by kernel_rfl)
        replace e2 : ν 2 = (.agg (setA f)) := e2
        have e4 := hD 4 (by kernel_rfl)
        replace e4 : ν 4 = (.slice d.ta d.bn d.tc) := e4
        clear hD
        refine wpOp_atK rfl rfl ?_
        simp only [frameOf, frameGo, List.getD_cons_zero, List.getD_cons_succ, put_some, put_none, List.setIfInBounds_toArray, List.set_cons_succ, List.set_cons_zero, e0, e1, e2, e4] at hK ⊢
        go_simp
        refine (walk_at d b f d.ta d.bn d.tc (toRows ts) (nx ts) w1 hb HOK.out.2.1 HCF.out HF.out (fun k hk => by simp [toRows, HOK.out.1, hk]) HX.out.1 ((HOK.out.2.2.1).ext (ext_trans HB.out hB))).mono ?_
        rintro e w2 ⟨rfl, hb2⟩
        exact hK _ _ hb2 rfl
      · clear hD
        refine wpOp_atK rfl rfl ?_
        simp only [frameOf, frameGo, List.getD_cons_zero, List.getD_cons_succ, put_some, put_none, List.setIfInBounds_toArray, List.set_cons_succ, List.set_cons_zero] at hK ⊢
        refine wp_load_row 116 _ rfl w.heap.size rfl 116 _ (0, 0) _ (block_ext hB HK.out) Tryz.underlying116 rfl size_walk ?_
        exact hK _ _ (Below.refl _ _) rfl
      · clear hD
        refine wpOp_atK rfl rfl ?_
        simp only [frameOf, frameGo, List.getD_cons_zero, List.getD_cons_succ, put_some, put_none, List.setIfInBounds_toArray, List.set_cons_succ, List.set_cons_zero] at hK ⊢
        go_simp
        exact hK _ _ (Below.refl _ _) rfl
      · clear hD
        refine wpOp_atK rfl rfl ?_
        simp only [frameOf, frameGo, List.getD_cons_zero, List.getD_cons_succ, put_some, put_none, List.setIfInBounds_toArray, List.set_cons_succ, List.set_cons_zero] at hK ⊢
        refine wp_load_row 124 _ rfl (w.heap.size + 1) rfl 124 _ (0, 0) _ (block_ext hB HS.out) Tryz.underlying124 rfl (by rw [setA_size]; exact size_set) ?_
        exact hK _ _ (Below.refl _ _) rfl
      · clear hD
        refine wpOp_atK rfl rfl ?_
        simp only [frameOf, frameGo, List.getD_cons_zero, List.getD_cons_succ, put_some, put_none, List.setIfInBounds_toArray, List.set_cons_succ, List.set_cons_zero] at hK ⊢
        go_simp
        exact hK _ _ (Below.refl _ _) rfl
      · have e9 := hD 9 (by kernel_rfl)
        replace e9 : ν 9 = (.pointer (some ⟨w.heap.size, 3, none⟩)) := e9
        clear hD
        refine wpOp_atK rfl rfl ?_
        simp only [frameOf, frameGo, List.getD_cons_zero, List.getD_cons_succ, put_some, put_none, List.setIfInBounds_toArray, List.set_cons_succ, List.set_cons_zero, e9] at hK ⊢
        have c0 := cell_ext hB HC3.out
        go_simp
        exact hK _ _ (Below.refl _ _) rfl
      · have e5 := hD 5 (by kernel_rfl)
        replace e5 : ν 5 = (.agg (setA (walkF (nx ts) f b))) := e5
        have e6 := hD 6 (by kernel_rfl)
        replace e6 : ν 6 = (walkV d) := e6
        have e7 := hD 7 (by kernel_rfl)
        replace e7 : ν 7 = (.int .i64 (b : Int)) := e7
        have e8 := hD 8 (by kernel_rfl)
        replace e8 : ν 8 = (.agg (setA f)) := e8
        have e10 := hD 10 (by kernel_rfl)
        replace e10 : ν 10 = (.slice d.fa d.bn d.fc) := e10
        clear hD
        refine wpOp_atK rfl rfl ?_
        simp only [frameOf, frameGo, List.getD_cons_zero, List.getD_cons_succ, put_some, put_none, List.setIfInBounds_toArray, List.set_cons_succ, List.set_cons_zero, e5, e6, e7, e8, e10] at hK ⊢
        go_simp
        refine (walk_at d b f d.fa d.bn d.fc (fromRows ts) (pv ts) w1 hb HOK.out.2.1 HCF.out HF.out (fun k hk => by simp [fromRows, HOK.out.1, hk]) HX.out.2 ((HOK.out.2.2.2).ext (ext_trans HB.out hB))).mono ?_
        rintro e w2 ⟨rfl, hb2⟩
        exact hK _ _ hb2 rfl
      · clear hD
        refine wpOp_atK rfl rfl ?_
        simp only [frameOf, frameGo, List.getD_cons_zero, List.getD_cons_succ, put_some, put_none, List.setIfInBounds_toArray, List.set_cons_succ, List.set_cons_zero] at hK ⊢
        go_simp
        refine hK _ _ (ext_alloc _ _) ⟨rfl, by simp, ?_⟩
        rw [heap_alloc_new, zero_set]
      · clear hD
        refine wpOp_atK rfl rfl ?_
        simp only [frameOf, frameGo, List.getD_cons_zero, List.getD_cons_succ, put_some, put_none, List.setIfInBounds_toArray, List.set_cons_succ, List.set_cons_zero] at hK ⊢
        go_simp
        refine hK _ _ (ext_alloc _ _) ⟨rfl, by simp, ?_⟩
        rw [heap_alloc_new, zero_set]
    · intro ν lo hi w1 hB hS hI hD
      have e0 : ν 0 = (walkV d) := hS 0 (by omega)
      have e1 : ν 1 = (.int .i64 (b : Int)) := hS 1 (by omega)
      have e2 : ν 2 = (.agg (setA f)) := hS 2 (by omega)
      have e3 : ν 3 = (.pointer (some ⟨w.heap.size, 2, none⟩)) := hS 3 (by omega)
      have e4 : ν 4 = (.slice d.ta d.bn d.tc) := hS 4 (by omega)
      have e5 : ν 5 = (.agg (setA (walkF (nx ts) f b))) := hS 5 (by omega)
      have e6 : ν 6 = (walkV d) := hS 6 (by omega)
      have e7 : ν 7 = (.int .i64 (b : Int)) := hS 7 (by omega)
      have e8 : ν 8 = (.agg (setA f)) := hS 8 (by omega)
      have e9 : ν 9 = (.pointer (some ⟨w.heap.size, 3, none⟩)) := hS 9 (by omega)
      have e10 : ν 10 = (.slice d.fa d.bn d.fc) := hS 10 (by omega)
      have e11 : ν 11 = (.agg (setA (walkF (pv ts) f b))) := hS 11 (by omega)
      obtain ⟨e12, l12, h12⟩ := hS 12 (by omega)
      obtain ⟨e13, l13, h13⟩ := hS 13 (by omega)
      clear hS
      simp only [List.drop_succ_cons, List.drop_zero, frameOf, frameGo, List.getD_cons_zero, List.getD_cons_succ, put_some, put_none, List.setIfInBounds_toArray, List.set_cons_succ, List.set_cons_zero, e0, e1, e2, e3, e4, e5, e6, e7, e8, e9, e10, e11, e12, e13]
      have i12 := hI 12 (by omega)
      have i13 := hI 13 (by omega)
      have hne : lo 12 ≠ lo 13 := by
        have := hD 12 13 (by omega) (by omega) (by omega)
        omega
      rw [HWs.out] at i12 i13
      have hr1 := block_ext hB HR.out
      have HBw : Hid (Below w.heap.size w w1) := ext_trans HB.out hB
      generalize lo 12 = p7 at *
      generalize lo 13 = p8 at *
      have h13' : (w1.setRow p7 (setA (walkF (nx ts) f b))).heap[p8]? = some (setO fun _ => false) := (setRow_other _ _ _ _ (by omega)).trans h13
      have H12 := Lib.hid h12
      have H13 := Lib.hid h13'
      have HR1 := Lib.hid hr1
      have HI12 := i12.1
      have HI13 := i13.1
      clear hI hD hB e0 e1 e2 e3 e4 e5 e6 e7 e8 e9 e10 e11 e12 e13 h12 h13 h13' hr1 i12 i13
      go_wp2_with (first
        | (refine wpList_store_row rfl 124 _ _ rfl p7 (setA (walkF (nx ts) f b)) rfl rfl 124 _ H12.out (by rw [setA_size]; exact size_set) rfl (setA_all _) ?_)
        | (refine wpList_store_row rfl 124 _ _ rfl p8 (setA (walkF (pv ts) f b)) rfl rfl 124 _ H13.out (by rw [setA_size]; exact size_set) rfl (setA_all _) ?_))
      go_meet
      exact ⟨p7, p8, rfl, rfl, HI12, HI13, hne, (setRow_other _ _ _ _ hne).trans (setRow_heap _ _ _ _ _ _ H12.out), setRow_heap _ _ _ _ _ _ H13.out, (setRow_other _ _ _ _ (by omega)).trans ((setRow_other _ _ _ _ (by omega)).trans HR1.out), below_setRow (below_setRow HBw.out (by omega) _) (by omega) _⟩
  case rest =>
    obtain ⟨p7, p8, rfl, rfl, hp7, hp8, hne, H7, H8, HR, HB⟩ := hcut
    clear HK HS HC2 HC3 HWs
    go_wp2
    go_loopw [9, 22] (fun _ i wx => ∃ (k : Nat), k ≤ 200 ∧ i = .int .i64 k ∧ Hid (wx.heap[w.heap.size + 1 + 1]? = some (setO fun j => decide (j < k) && knotS ts b f j)) ∧ Hid (wx.heap[p7]? = some (setO (walkF (nx ts) f b))) ∧ Hid (wx.heap[p8]? = some (setO (walkF (pv ts) f b))) ∧ Hid (Below w.heap.size w wx)) (fun _ i _ => 200 - (intOf i).toNat)
    case atStart => exact ⟨0, by omega, rfl, by have e : (fun j => decide (j < 0) && knotS ts b f j) = (fun _ => false) := (by funext j; simp); rw [Hid, e]; exact HR.out, H7, H8, HB⟩
    case round =>
      obtain ⟨k, hk, rfl, HR2, G7, G8, HB2⟩ := hrel
      clear HR H7 H8 HB
      by_cases hlt : k < 200
      · have c7 := set_cell G7.out k hlt
        have c8 := set_cell G8.out k hlt
        have cr := set_cell HR2.out k hlt
        have fr := set_free HR2.out k
        have hl := lt_of_heap HR2.out
        have e1 : (fun j => if j = k then (walkF (nx ts) f b k && walkF (pv ts) f b k) else (decide (j < k) && knotS ts b f j)) = (fun j => decide (j < k + 1) && knotS ts b f j) := by
          funext j
          by_cases e : j = k
          · subst e
            simp [knotS]
          · rw [if_neg e]
            congr 1
            rw [decide_eq_decide]
            omega
        have HS2 := Lib.hid (store_to HR2.out hlt e1)
        have HG7 := Lib.hid (grown_row (grown_setCell _ (w.heap.size + 1 + 1) k (.bool (walkF (nx ts) f b k && walkF (pv ts) f b k))) G7.out (by simp; omega))
        have HG8 := Lib.hid (grown_row (grown_setCell _ (w.heap.size + 1 + 1) k (.bool (walkF (nx ts) f b k && walkF (pv ts) f b k))) G8.out (by simp; omega))
        have hlt' : (k : Int) < 200 := by omega
        clear e1 G7 G8 HR2
        generalize (decide (k < k) && knotS ts b f k) = x0 at *
        cases hx1 : walkF (nx ts) f b k <;> simp only [hx1, Bool.true_and, Bool.false_and] at HS2 HG7 HG8 c7
        all_goals
          generalize walkF (pv ts) f b k = x2 at *
          clear hx1
          go_wp2
          go_roundw
          case rel => exact ⟨k + 1, by omega, by go_num, HS2, HG7, HG8, HB2.out.setCell (by simp; omega) _⟩
          case measure => simp [intOf]; omega
      · obtain rfl : k = 200 := by omega
        have HE : Hid ((fun j => decide (j < 200) && knotS ts b f j) = knotS ts b f) := by
          have hc : Canon f := HCF.out
          funext j
          cases e : knotS ts b f j with
          | false => simp
          | true => have := knot_canon hc b j e; simp [this]
        rw [HE.out] at HR2
        go_wp2_with (first
          | (refine wpList_load_row rfl 124 _ rfl (w.heap.size + 1 + 1) rfl 124 _ (0, 0) _ HR2.out Tryz.underlying124 rfl (by rw [setA_size]; exact size_set) ?_)
          | (refine wpList_store_row rfl 124 _ _ rfl (w.heap.size + 1 + 1) (setA (knotS ts b f)) rfl rfl 124 _ HR2.out (by rw [setA_size]; exact size_set) rfl (setA_all _) ?_))
        exact bodyPost_ret (v := .agg (setA (knotS ts b f))) (by simp [results, Tryz.results130, asAddr, Act.put, load_set (setRow_heap _ _ _ _ _ _ HR2.out)]) rfl ⟨rfl, below_setRow HB2.out (by omega) _⟩
end Go.Proofs.YtblhmdhfhaencaaGreat
