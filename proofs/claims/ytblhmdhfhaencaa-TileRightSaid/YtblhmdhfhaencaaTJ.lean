/-
  Tile: the blocks that hang together with one.
-/
import Derived.Test.YtblhmdhfhaencaaTF
import Derived.Test.YtblhmdhfhaencaaQA
import Derived.Test.YtblhmdhfhaencaaEP
import Derived.Laws.StructEq
import Derived.ChangeKeysEq
namespace Go.Proofs.Ytblhmdhfhaencaa
set_option linter.unusedSimpArgs false
set_option linter.unusedVariables false
set_option linter.unusedSectionVars false
section
open Go.RowKit

theorem size_walk : (Try.prog.info? 70).map (·.size) = some 4 := by kernel_rfl
theorem WalkOK.nx_lt {w : World} {d : WalkD} {ts : List TermD} (h : goodB ts = true) : (∀ k y, y ∈ nx ts k → y < 200) ∧ (∀ k y, y ∈ pv ts k → y < 200) := by
  have hl := ((goodB_iff ts).1 h).1
  refine ⟨fun k y hy => ?_, fun k y hy => ?_⟩
  · have := good_nx h hy; omega
  · have hk := (mem_pv ts k y).1 hy
    by_cases hy2 : y < ts.length
    · omega
    · rw [nx_none ts y (by omega)] at hk; cases hk
theorem WalkOK.nx_to {w : World} {d : WalkD} {ts : List TermD} (h : goodB ts = true) (hok : WalkOK w d ts) (f : Nat → Bool) : (∀ k y, y ∈ nx ts k → y < 200 ∧ (f y = true → y < d.bn)) ∧ (∀ k y, y ∈ pv ts k → y < 200 ∧ (f y = true → y < d.bn)) := by
  have hl := ((goodB_iff ts).1 h).1
  rw [← hok.1]
  refine ⟨fun k y hy => ?_, fun k y hy => ?_⟩
  · have := good_nx h hy; exact ⟨by omega, fun _ => by omega⟩
  · have hk := (mem_pv ts k y).1 hy
    by_cases hy2 : y < ts.length
    · exact ⟨by omega, fun _ => hy2⟩
    · rw [nx_none ts y (by omega)] at hk; cases hk
set_option maxRecDepth 100000 in
set_option maxHeartbeats 4000000 in
theorem knot_any (d : WalkD) (ts : List TermD) (b : Nat) (f : Nat → Bool) (w : World) (hb : b < 200) (hok : WalkOK w d ts) (hg : goodB ts = true) (hcf : Canon f) (hf : f b = true → b < d.bn) :
    Calls Try.prog 81 #[walkV d, .int .i64 (b : Int), .agg (setA f)] w (SetPost w (knotS ts b f)) := by
  have HOK := Lib.hid hok
  have HF := Lib.hid hf
  have HCF := Lib.hid hcf
  have HX := Lib.hid (WalkOK.nx_to hg hok f)
  clear hok hg hcf hf
  go_enter Try.func81, Try.ntmps81
  go_upto_region 1 with (fail)
  obtain ⟨W, hW⟩ : ∃ W, W = ((w.alloc (walkO d)).alloc (setO f)).alloc (.cells Try.zeroCells78 78) := ⟨_, rfl⟩
  rw [← hW]
  have hk : W.heap[w.heap.size]? = some (walkO d) := by rw [hW, Below.heap_alloc _ _ _ (by simp; omega), Below.heap_alloc _ _ _ (by simp)]; exact heap_alloc_new _ _
  have hs : W.heap[w.heap.size + 1]? = some (setO f) := by rw [hW, Below.heap_alloc _ _ _ (by simp)]; exact heap_at _ _ _ (by simp)
  have hr : W.heap[w.heap.size + 1 + 1]? = some (setO fun _ => false) := by rw [hW, heap_at _ _ _ (by simp), zero_set]
  have hB : Below w.heap.size w W := by rw [hW]; exact ((ext_alloc _ _).alloc (by simp) _).alloc (by simp; omega) _
  have hWs : W.heap.size = w.heap.size + 1 + 1 + 1 := by rw [hW]; simp
  have HWs := Lib.hid hWs
  have HK := Lib.hid hk
  have HS := Lib.hid hs
  have HR := Lib.hid hr
  have HB := Lib.hid hB
  have HC2 : Hid (W.cell? ⟨w.heap.size, 2, none⟩ = some (.slice d.ta d.bn d.tc)) := by rw [Hid, cell_of_row _ _ _ _ _ _ hk]; rfl
  have HC3 : Hid (W.cell? ⟨w.heap.size, 3, none⟩ = some (.slice d.fa d.bn d.fc)) := by rw [Hid, cell_of_row _ _ _ _ _ _ hk]; rfl
  clear hW hWs hk hs hr hB
  go_cut [7, 8] (fun s7 s8 wr => ∃ p7 p8 : Nat, s7 = .pointer (some ⟨p7, 0, none⟩) ∧ s8 = .pointer (some ⟨p8, 0, none⟩) ∧ w.heap.size + 1 + 1 + 1 ≤ p7 ∧ w.heap.size + 1 + 1 + 1 ≤ p8 ∧ p7 ≠ p8 ∧ Hid (wr.heap[p7]? = some (setO (walkF (nx ts) f b))) ∧ Hid (wr.heap[p8]? = some (setO (walkF (pv ts) f b))) ∧ Hid (wr.heap[w.heap.size + 1 + 1]? = some (setO fun _ => false)) ∧ Hid (Below w.heap.size w wr))
  case first =>
    refine region_free 14 [some 10, some 11, some 12, some 13, some 14, some 15, some 16, some 17, some 18, some 19, some 20, some 21, some 7, some 8] (by kernel_rfl) (by kernel_rfl) (specB [.val (walkV d), .val (.int .i64 (b : Int)), .val (.agg (setA f)), .val (.pointer (some ⟨w.heap.size, 2, none⟩)), .val (.slice d.ta d.bn d.tc), .val (.agg (setA (walkF (nx ts) f b))), .val (walkV d), .val (.int .i64 (b : Int)), .val (.agg (setA f)), .val (.pointer (some ⟨w.heap.size, 3, none⟩)), .val (.slice d.fa d.bn d.fc), .val (.agg (setA (walkF (pv ts) f b))), .new (setO fun _ => false), .new (setO fun _ => false)]) (specB_mono ?_) ?_ ?_
    · intro k hk
      simp only [List.mem_cons, List.not_mem_nil, or_false] at hk
      rcases hk with rfl | rfl | rfl | rfl | rfl | rfl | rfl | rfl | rfl | rfl | rfl | rfl | rfl | rfl
      · exact trivial
      · exact trivial
      · exact trivial
      · exact trivial
      · exact trivial
      · exact trivial
      · exact trivial
      · exact trivial
      · exact trivial
      · exact trivial
      · exact trivial
      · exact trivial
      · exact trivial
      · exact trivial
    · intro i hi ν lo hi' w1 K hB hD hK
      have hcase : i = 0 ∨ i = 1 ∨ i = 2 ∨ i = 3 ∨ i = 4 ∨ i = 5 ∨ i = 6 ∨ i = 7 ∨ i = 8 ∨ i = 9 ∨ i = 10 ∨ i = 11 ∨ i = 12 ∨ i = 13 := by omega
      clear hi
      rcases hcase with rfl | rfl | rfl | rfl | rfl | rfl | rfl | rfl | rfl | rfl | rfl | rfl | rfl | rfl
      · clear hD
        refine wpOp_atK rfl rfl ?_
        simp only [frameOf, frameGo, List.getD_cons_zero, List.getD_cons_succ, put_some, put_none, List.setIfInBounds_toArray, List.set_cons_succ, List.set_cons_zero] at hK ⊢
        refine wp_load_row 70 _ rfl w.heap.size rfl 70 _ (0, 0) _ (block_ext hB HK.out) Try.underlying70 rfl size_walk ?_
        exact hK _ _ (Below.refl _ _) rfl
      · clear hD
        refine wpOp_atK rfl rfl ?_
        simp only [frameOf, frameGo, List.getD_cons_zero, List.getD_cons_succ, put_some, put_none, List.setIfInBounds_toArray, List.set_cons_succ, List.set_cons_zero] at hK ⊢
        go_simp
        exact hK _ _ (Below.refl _ _) rfl
      · clear hD
        refine wpOp_atK rfl rfl ?_
        simp only [frameOf, frameGo, List.getD_cons_zero, List.getD_cons_succ, put_some, put_none, List.setIfInBounds_toArray, List.set_cons_succ, List.set_cons_zero] at hK ⊢
        refine wp_load_row 78 _ rfl (w.heap.size + 1) rfl 78 _ (0, 0) _ (block_ext hB HS.out) Try.underlying78 rfl (by rw [setA_size]; exact size_set) ?_
        exact hK _ _ (Below.refl _ _) rfl
      · clear hD
        refine wpOp_atK rfl rfl ?_
        simp only [frameOf, frameGo, List.getD_cons_zero, List.getD_cons_succ, put_some, put_none, List.setIfInBounds_toArray, List.set_cons_succ, List.set_cons_zero] at hK ⊢
        go_simp
        exact hK _ _ (Below.refl _ _) rfl
      · have e3 := hD 3 (by kernel_rfl)
        replace e3 : ν 3 = (.pointer (some ⟨w.heap.size, 2, none⟩)) := e3
        clear hD
        refine wpOp_atK rfl rfl ?_
        simp only [frameOf, frameGo, List.getD_cons_zero, List.getD_cons_succ, put_some, put_none, List.setIfInBounds_toArray, List.set_cons_succ, List.set_cons_zero, e3] at hK ⊢
        have c0 := cell_ext hB HC2.out
        go_simp
        exact hK _ _ (Below.refl _ _) rfl
      · have e0 := hD 0 (by kernel_rfl)
        replace e0 : ν 0 = (walkV d) := e0
        have e1 := hD 1 (by kernel_rfl)
        replace e1 : ν 1 = (.int .i64 (b : Int)) := e1
        have e2 := hD 2 (by kernel_rfl)
        replace e2 : ν 2 = (.agg (setA f)) := e2
        have e4 := hD 4 (by kernel_rfl)
        replace e4 : ν 4 = (.slice d.ta d.bn d.tc) := e4
        clear hD
        refine wpOp_atK rfl rfl ?_
        simp only [frameOf, frameGo, List.getD_cons_zero, List.getD_cons_succ, put_some, put_none, List.setIfInBounds_toArray, List.set_cons_succ, List.set_cons_zero, e0, e1, e2, e4] at hK ⊢
        go_simp
        refine (walk_at d b f d.ta d.bn d.tc (toRows ts) (nx ts) w1 hb HOK.out.2.1 HCF.out HF.out (fun k hk => by simp [toRows, HOK.out.1, hk]) HX.out.1 ((HOK.out.2.2.1).ext (ext_trans HB.out hB))).mono ?_
        rintro e w2 ⟨rfl, hb2⟩
        exact hK _ _ hb2 rfl
      · clear hD
        refine wpOp_atK rfl rfl ?_
        simp only [frameOf, frameGo, List.getD_cons_zero, List.getD_cons_succ, put_some, put_none, List.setIfInBounds_toArray, List.set_cons_succ, List.set_cons_zero] at hK ⊢
        refine wp_load_row 70 _ rfl w.heap.size rfl 70 _ (0, 0) _ (block_ext hB HK.out) Try.underlying70 rfl size_walk ?_
        exact hK _ _ (Below.refl _ _) rfl
      · clear hD
        refine wpOp_atK rfl rfl ?_
        simp only [frameOf, frameGo, List.getD_cons_zero, List.getD_cons_succ, put_some, put_none, List.setIfInBounds_toArray, List.set_cons_succ, List.set_cons_zero] at hK ⊢
        go_simp
        exact hK _ _ (Below.refl _ _) rfl
      · clear hD
        refine wpOp_atK rfl rfl ?_
        simp only [frameOf, frameGo, List.getD_cons_zero, List.getD_cons_succ, put_some, put_none, List.setIfInBounds_toArray, List.set_cons_succ, List.set_cons_zero] at hK ⊢
        refine wp_load_row 78 _ rfl (w.heap.size + 1) rfl 78 _ (0, 0) _ (block_ext hB HS.out) Try.underlying78 rfl (by rw [setA_size]; exact size_set) ?_
        exact hK _ _ (Below.refl _ _) rfl
      · clear hD
        refine wpOp_atK rfl rfl ?_
        simp only [frameOf, frameGo, List.getD_cons_zero, List.getD_cons_succ, put_some, put_none, List.setIfInBounds_toArray, List.set_cons_succ, List.set_cons_zero] at hK ⊢
        go_simp
        exact hK _ _ (Below.refl _ _) rfl
      · have e9 := hD 9 (by kernel_rfl)
        replace e9 : ν 9 = (.pointer (some ⟨w.heap.size, 3, none⟩)) := e9
        clear hD
        refine wpOp_atK rfl rfl ?_
        simp only [frameOf, frameGo, List.getD_cons_zero, List.getD_cons_succ, put_some, put_none, List.setIfInBounds_toArray, List.set_cons_succ, List.set_cons_zero, e9] at hK ⊢
        have c0 := cell_ext hB HC3.out
        go_simp
        exact hK _ _ (Below.refl _ _) rfl
      · have e5 := hD 5 (by kernel_rfl)
        replace e5 : ν 5 = (.agg (setA (walkF (nx ts) f b))) := e5
        have e6 := hD 6 (by kernel_rfl)
        replace e6 : ν 6 = (walkV d) := e6
        have e7 := hD 7 (by kernel_rfl)
        replace e7 : ν 7 = (.int .i64 (b : Int)) := e7
        have e8 := hD 8 (by kernel_rfl)
        replace e8 : ν 8 = (.agg (setA f)) := e8
        have e10 := hD 10 (by kernel_rfl)
        replace e10 : ν 10 = (.slice d.fa d.bn d.fc) := e10
        clear hD
        refine wpOp_atK rfl rfl ?_
        simp only [frameOf, frameGo, List.getD_cons_zero, List.getD_cons_succ, put_some, put_none, List.setIfInBounds_toArray, List.set_cons_succ, List.set_cons_zero, e5, e6, e7, e8, e10] at hK ⊢
        go_simp
        refine (walk_at d b f d.fa d.bn d.fc (fromRows ts) (pv ts) w1 hb HOK.out.2.1 HCF.out HF.out (fun k hk => by simp [fromRows, HOK.out.1, hk]) HX.out.2 ((HOK.out.2.2.2).ext (ext_trans HB.out hB))).mono ?_
        rintro e w2 ⟨rfl, hb2⟩
        exact hK _ _ hb2 rfl
      · clear hD
        refine wpOp_atK rfl rfl ?_
        simp only [frameOf, frameGo, List.getD_cons_zero, List.getD_cons_succ, put_some, put_none, List.setIfInBounds_toArray, List.set_cons_succ, List.set_cons_zero] at hK ⊢
        go_simp
        refine hK _ _ (ext_alloc _ _) ⟨rfl, by simp, ?_⟩
        rw [heap_alloc_new, zero_set]
      · clear hD
        refine wpOp_atK rfl rfl ?_
        simp only [frameOf, frameGo, List.getD_cons_zero, List.getD_cons_succ, put_some, put_none, List.setIfInBounds_toArray, List.set_cons_succ, List.set_cons_zero] at hK ⊢
        go_simp
        refine hK _ _ (ext_alloc _ _) ⟨rfl, by simp, ?_⟩
        rw [heap_alloc_new, zero_set]
    · intro ν lo hi w1 hB hS hI hD
      have e0 : ν 0 = (walkV d) := hS 0 (by omega)
      have e1 : ν 1 = (.int .i64 (b : Int)) := hS 1 (by omega)
      have e2 : ν 2 = (.agg (setA f)) := hS 2 (by omega)
      have e3 : ν 3 = (.pointer (some ⟨w.heap.size, 2, none⟩)) := hS 3 (by omega)
      have e4 : ν 4 = (.slice d.ta d.bn d.tc) := hS 4 (by omega)
      have e5 : ν 5 = (.agg (setA (walkF (nx ts) f b))) := hS 5 (by omega)
      have e6 : ν 6 = (walkV d) := hS 6 (by omega)
      have e7 : ν 7 = (.int .i64 (b : Int)) := hS 7 (by omega)
      have e8 : ν 8 = (.agg (setA f)) := hS 8 (by omega)
      have e9 : ν 9 = (.pointer (some ⟨w.heap.size, 3, none⟩)) := hS 9 (by omega)
      have e10 : ν 10 = (.slice d.fa d.bn d.fc) := hS 10 (by omega)
      have e11 : ν 11 = (.agg (setA (walkF (pv ts) f b))) := hS 11 (by omega)
      obtain ⟨e12, l12, h12⟩ := hS 12 (by omega)
      obtain ⟨e13, l13, h13⟩ := hS 13 (by omega)
      clear hS
      simp only [List.drop_succ_cons, List.drop_zero, frameOf, frameGo, List.getD_cons_zero, List.getD_cons_succ, put_some, put_none, List.setIfInBounds_toArray, List.set_cons_succ, List.set_cons_zero, e0, e1, e2, e3, e4, e5, e6, e7, e8, e9, e10, e11, e12, e13]
      have i12 := hI 12 (by omega)
      have i13 := hI 13 (by omega)
      have hne : lo 12 ≠ lo 13 := by
        have := hD 12 13 (by omega) (by omega) (by omega)
        omega
      rw [HWs.out] at i12 i13
      have hr1 := block_ext hB HR.out
      have HBw : Hid (Below w.heap.size w w1) := ext_trans HB.out hB
      generalize lo 12 = p7 at *
      generalize lo 13 = p8 at *
      have h13' : (w1.setRow p7 (setA (walkF (nx ts) f b))).heap[p8]? = some (setO fun _ => false) := (setRow_other _ _ _ _ (by omega)).trans h13
      have H12 := Lib.hid h12
      have H13 := Lib.hid h13'
      have HR1 := Lib.hid hr1
      have HI12 := i12.1
      have HI13 := i13.1
      clear hI hD hB e0 e1 e2 e3 e4 e5 e6 e7 e8 e9 e10 e11 e12 e13 h12 h13 h13' hr1 i12 i13
      go_wp2_with (first
        | (refine wpList_store_row rfl 78 _ _ rfl p7 (setA (walkF (nx ts) f b)) rfl rfl 78 _ H12.out (by rw [setA_size]; exact size_set) rfl (setA_all _) ?_)
        | (refine wpList_store_row rfl 78 _ _ rfl p8 (setA (walkF (pv ts) f b)) rfl rfl 78 _ H13.out (by rw [setA_size]; exact size_set) rfl (setA_all _) ?_))
      go_meet
      exact ⟨p7, p8, rfl, rfl, HI12, HI13, hne, (setRow_other _ _ _ _ hne).trans (setRow_heap _ _ _ _ _ _ H12.out), setRow_heap _ _ _ _ _ _ H13.out, (setRow_other _ _ _ _ (by omega)).trans ((setRow_other _ _ _ _ (by omega)).trans HR1.out), below_setRow (below_setRow HBw.out (by omega) _) (by omega) _⟩
  case rest =>
    obtain ⟨p7, p8, rfl, rfl, hp7, hp8, hne, H7, H8, HR, HB⟩ := hcut
    clear HK HS HC2 HC3 HWs
    go_wp2
    go_loopw [9, 22] (fun _ i wx => ∃ (k : Nat), k ≤ 200 ∧ i = .int .i64 k ∧ Hid (wx.heap[w.heap.size + 1 + 1]? = some (setO fun j => decide (j < k) && knotS ts b f j)) ∧ Hid (wx.heap[p7]? = some (setO (walkF (nx ts) f b))) ∧ Hid (wx.heap[p8]? = some (setO (walkF (pv ts) f b))) ∧ Hid (Below w.heap.size w wx)) (fun _ i _ => 200 - (intOf i).toNat)
    case atStart => exact ⟨0, by omega, rfl, by have e : (fun j => decide (j < 0) && knotS ts b f j) = (fun _ => false) := (by funext j; simp); rw [Hid, e]; exact HR.out, H7, H8, HB⟩
    case round =>
      obtain ⟨k, hk, rfl, HR2, G7, G8, HB2⟩ := hrel
      clear HR H7 H8 HB
      by_cases hlt : k < 200
      · have c7 := set_cell G7.out k hlt
        have c8 := set_cell G8.out k hlt
        have cr := set_cell HR2.out k hlt
        have fr := set_free HR2.out k
        have hl := lt_of_heap HR2.out
        have e1 : (fun j => if j = k then (walkF (nx ts) f b k && walkF (pv ts) f b k) else (decide (j < k) && knotS ts b f j)) = (fun j => decide (j < k + 1) && knotS ts b f j) := by
          funext j
          by_cases e : j = k
          · subst e
            simp [knotS]
          · rw [if_neg e]
            congr 1
            rw [decide_eq_decide]
            omega
        have HS2 := Lib.hid (store_to HR2.out hlt e1)
        have HG7 := Lib.hid (grown_row (grown_setCell _ (w.heap.size + 1 + 1) k (.bool (walkF (nx ts) f b k && walkF (pv ts) f b k))) G7.out (by simp; omega))
        have HG8 := Lib.hid (grown_row (grown_setCell _ (w.heap.size + 1 + 1) k (.bool (walkF (nx ts) f b k && walkF (pv ts) f b k))) G8.out (by simp; omega))
        have hlt' : (k : Int) < 200 := by omega
        clear e1 G7 G8 HR2
        generalize (decide (k < k) && knotS ts b f k) = x0 at *
        cases hx1 : walkF (nx ts) f b k <;> simp only [hx1, Bool.true_and, Bool.false_and] at HS2 HG7 HG8 c7
        all_goals
          generalize walkF (pv ts) f b k = x2 at *
          clear hx1
          go_wp2
          go_roundw
          case rel => exact ⟨k + 1, by omega, by go_num, HS2, HG7, HG8, HB2.out.setCell (by simp; omega) _⟩
          case measure => simp [intOf]; omega
      · obtain rfl : k = 200 := by omega
        have HE : Hid ((fun j => decide (j < 200) && knotS ts b f j) = knotS ts b f) := by
          have hc : Canon f := HCF.out
          funext j
          cases e : knotS ts b f j with
          | false => simp
          | true => have := knot_canon hc b j e; simp [this]
        rw [HE.out] at HR2
        go_wp2_with (first
          | (refine wpList_load_row rfl 78 _ rfl (w.heap.size + 1 + 1) rfl 78 _ (0, 0) _ HR2.out Try.underlying78 rfl (by rw [setA_size]; exact size_set) ?_)
          | (refine wpList_store_row rfl 78 _ _ rfl (w.heap.size + 1 + 1) (setA (knotS ts b f)) rfl rfl 78 _ HR2.out (by rw [setA_size]; exact size_set) rfl (setA_all _) ?_))
        exact bodyPost_ret (v := .agg (setA (knotS ts b f))) (by simp [results, Try.results81, asAddr, Act.put, load_set (setRow_heap _ _ _ _ _ _ HR2.out)]) rfl ⟨rfl, below_setRow HB2.out (by omega) _⟩
end

section
open Go.RowKit

/-! ### sets compared -/
theorem part_bool (cs : Array Value) (o : Nat) (v : Value) (w : World) (h : cs[o]? = some v) : (part 4 cs o).run Try.prog w = .ok v w := by
  have hu : (underlying 4).run Try.prog w = .ok .bool w := run_underlying Try.underlying4 w
  simp [part, isAgg, hu, h]
theorem eqItems_bool (w : World) (f g : Nat → Bool) (xs ys : Array Value) : ∀ (is : List Nat), (∀ i ∈ is, xs[i]? = some (.bool (f i)) ∧ ys[i]? = some (.bool (g i))) → (Op.eqItems 9999 4 1 xs ys is).run Try.prog w = .ok (is.all fun i => f i == g i) w
  | [], _ => by simp [Op.eqItems]
  | i :: is, h => by
    obtain ⟨h1, h2⟩ := h i (by simp)
    have ih := eqItems_bool w f g xs ys is (fun j hj => h j (by simp [hj]))
    simp only [Op.eqItems, Sem.run_bind, Nat.mul_one]
    rw [part_bool _ i _ w h1]
    simp only [Result.andThen_ok]
    rw [part_bool _ i _ w h2]
    simp only [Result.andThen_ok]
    rw [run_equalIn_bool' w 9998 4 (f i) (g i) Try.underlying4]
    simp only [Result.andThen_ok]
    cases hq : (f i == g i) with
    | false => simp [hq]
    | true => simp [hq, ih]
theorem equal_set (w : World) (f g : Nat → Bool) : (Op.equalIn 10000 78 (.agg (setA f)) (.agg (setA g))).run Try.prog w = .ok (eqS f g) w := by
  have hi : ∃ i, Try.prog.info? 4 = some i := Option.isSome_iff_exists.1 (by kernel_rfl)
  obtain ⟨i, hi⟩ := hi
  have h1 : Try.prog.cellsOf 4 = 1 := by kernel_rfl
  rw [run_equalIn_array w 9999 _ _ Try.underlying78 hi, h1]
  exact eqItems_bool w f g _ _ _ (fun i hi => ⟨setA_at f i (List.mem_range.1 hi), setA_at g i (List.mem_range.1 hi)⟩)
theorem eql_set (w : World) (f g : Nat → Bool) : (binOp .eql 78 (.agg (setA f)) (.agg (setA g))).run Try.prog w = .ok (.bool (eqS f g)) w := by
  rw [run_eql_struct, equal_set]
  rfl
theorem neq_set (w : World) (f g : Nat → Bool) : (binOp .neq 78 (.agg (setA f)) (.agg (setA g))).run Try.prog w = .ok (.bool (!eqS f g)) w := by
  rw [run_neq_struct, equal_set]
  rfl

/-! ### functions -/
/-- a block as it lies: the slice of its instructions, its end -/
structure BlkH where
  ia : Option Addr
  n : Nat
  c : Nat
  t : TermD
def blkC (b : BlkH) : List Value := [.slice b.ia b.n b.c, .int .i64 b.t.kind, .int .i64 b.t.a, .int .i64 b.t.t0, .int .i64 b.t.t1]
theorem blkC_len (b : BlkH) : (blkC b).length = 5 := rfl
def BlksOK (w : World) (a : Option Addr) (n : Nat) (bs : List BlkH) : Prop := Recs 5 blkC w a n bs ∧ ∀ b ∈ bs, TermOK b.t
theorem BlksOK.ext {w w' : World} {a : Option Addr} {n : Nat} {bs : List BlkH} (h : BlksOK w a n bs) (hb : Below w.heap.size w w') : BlksOK w' a n bs := ⟨h.1.ext blkC_len hb, h.2⟩
def tsOf (bs : List BlkH) : List TermD := bs.map (·.t)
theorem tsOf_len (bs : List BlkH) : (tsOf bs).length = bs.length := by simp [tsOf]
theorem tsOf_at (bs : List BlkH) (k : Nat) (b : BlkH) (h : bs[k]? = some b) : (tsOf bs).getD k zTerm = b.t := by
  simp [tsOf, List.getD_eq_getElem?_getD, h]
abbrev blkV (b : BlkH) : Value := .agg #[.slice b.ia b.n b.c, .int .i64 b.t.kind, .int .i64 b.t.a, .int .i64 b.t.t0, .int .i64 b.t.t1]
abbrev blkO (b : BlkH) : Obj := .cells #[.slice b.ia b.n b.c, .int .i64 b.t.kind, .int .i64 b.t.a, .int .i64 b.t.t0, .int .i64 b.t.t1] 115
theorem BlksOK.cells {w : World} {a : Option Addr} {n : Nat} {bs : List BlkH} (h : BlksOK w a n bs) {k : Nat} (hk : k < n) : ∃ x b o, bs[k]? = some x ∧ TermOK x.t ∧ a = some ⟨b, o, none⟩ ∧
    w.cell? ⟨b, o + k * 5, none⟩ = some (.slice x.ia x.n x.c) ∧ w.cell? ⟨b, o + k * 5 + 1, none⟩ = some (.int .i64 x.t.kind) ∧ w.cell? ⟨b, o + k * 5 + 2, none⟩ = some (.int .i64 x.t.a) ∧ w.cell? ⟨b, o + k * 5 + 3, none⟩ = some (.int .i64 x.t.t0) ∧ w.cell? ⟨b, o + k * 5 + 4, none⟩ = some (.int .i64 x.t.t1) := by
  have hk' : k < bs.length := by rw [h.1.1]; exact hk
  obtain ⟨b, o, e, hc⟩ := h.1.2.2 k bs[k] (List.getElem?_eq_getElem hk')
  exact ⟨bs[k], b, o, List.getElem?_eq_getElem hk', h.2 _ (List.getElem_mem hk'), e, hc 0 (by omega), hc 1 (by omega), hc 2 (by omega), hc 3 (by omega), hc 4 (by omega)⟩

/-! ### rows of the call's own, many at a time -/
def Sep (v v' : Value) : Prop := ∀ g, v.ownBlock = some g → v'.ownBlock ≠ some g
theorem Sep.symm {v v' : Value} (h : Sep v v') : Sep v' v := fun g h1 h2 => h g h2 h1
/-- n rows that are turned, k rows that stay: no block is shared with one that is turned -/
structure Fam (w : World) (B n k : Nat) (hF hT : Nat → Value) (xF xT : Nat → List Int) : Prop where
  F : ∀ y, y < n → OwnI w B (hF y) (xF y)
  T : ∀ j, j < k → OwnI w B (hT j) (xT j)
  FF : ∀ y y', y < n → y' < n → y ≠ y' → Sep (hF y) (hF y')
  FT : ∀ y j, y < n → j < k → Sep (hF y) (hT j)
section
variable {w w' : World} {B n k : Nat} {hF hT : Nat → Value} {xF xT : Nat → List Int}
theorem Fam.kept {row : Option Nat} (h : Fam w B n k hF hT xF xT) (hg : w.grownBy w' row) (hr : ∀ r, row = some r → r < B ∨ w.heap.size ≤ r) : Fam w' B n k hF hT xF xT := by
  have key : ∀ v xs, OwnI w B v xs → OwnI w' B v xs := fun v xs ho => by
    refine ho.kept hg ?_
    cases e : v.ownBlock with
    | none => exact .inl rfl
    | some g =>
      have := ho.1.lt g e
      refine .inr fun e2 => ?_
      have := hr g e2.symm
      omega
  exact ⟨fun y hy => key _ _ (h.F y hy), fun j hj => key _ _ (h.T j hj), h.FF, h.FT⟩
theorem Fam.ext (h : Fam w B n k hF hT xF xT) (hb : Below w.heap.size w w') : Fam w' B n k hF hT xF xT :=
  h.kept (row := none) ⟨hb.os, hb.tape, hb.output, hb.size, fun k hk _ => hb.block k hk⟩ (fun r e => by cases e)
/-- one more that stays -/
theorem Fam.add (h : Fam w B n k hF hT xF xT) (hb : Below w.heap.size w w') (hB : B ≤ w.heap.size) (v : Value) (xs : List Int) (ho : OwnI w' w.heap.size v xs) : Fam w' B n (k + 1) hF (updN hT k v) xF (updN xT k xs) := by
  have h' := h.ext hb
  have hlt : ∀ y, y < n → Sep (hF y) v := fun y hy g e1 e2 => by
    have h1 := (h.F y hy).1.lt g e1
    have h2 := ho.1.lt g e2
    omega
  refine ⟨h'.F, fun j hj => ?_, h.FF, fun y j hy hj => ?_⟩
  · by_cases e : j = k
    · simp only [updN, if_pos e]; exact ho.mono hB
    · simp only [updN, if_neg e]; exact h'.T j (by omega)
  · by_cases e : j = k
    · simp only [updN, if_pos e]; exact hlt y hy
    · simp only [updN, if_neg e]; exact h.FT y j hy (by omega)
/-- one is turned -/
theorem Fam.turn (h : Fam w B n k hF hT xF xT) (y : Nat) (hy : y < n) (hg : w.grownBy w' (hF y).ownBlock) (v : Value) (xs : List Int) (ho : OwnI w' B v xs) (hv : v.ownBlock = (hF y).ownBlock ∨ ∃ g, v.ownBlock = some g ∧ w.heap.size ≤ g) : Fam w' B n k (updN hF y v) hT (updN xF y xs) xT := by
  have keep : ∀ v' xs', OwnI w B v' xs' → Sep (hF y) v' → OwnI w' B v' xs' := fun v' xs' ho' hs => by
    refine ho'.kept hg ?_
    cases e : v'.ownBlock with
    | none => exact .inl rfl
    | some g => exact .inr fun e2 => hs g e2.symm e
  have sep : ∀ v' xs', OwnI w B v' xs' → Sep (hF y) v' → Sep v v' := fun v' xs' ho' hs g e1 e2 => by
    rcases hv with e | ⟨g', e, hge⟩
    · exact hs g (by rw [← e]; exact e1) e2
    · rw [e] at e1
      injection e1 with e1
      have := (ho'.1.lt g e2).2
      omega
  refine ⟨fun z hz => ?_, fun j hj => keep _ _ (h.T j hj) (h.FT y j hy hj), fun z z' hz hz' hne => ?_, fun z j hz hj => ?_⟩
  · by_cases e : z = y
    · simp only [updN, if_pos e]; exact ho
    · simp only [updN, if_neg e]; exact keep _ _ (h.F z hz) (h.FF y z hy hz (fun e2 => e e2.symm))
  · by_cases e : z = y
    · have e' : ¬ z' = y := fun e2 => hne (e.trans e2.symm)
      simp only [updN, if_pos e, if_neg e']
      exact sep _ _ (h.F z' hz') (h.FF y z' hy hz' (fun e2 => e' e2.symm))
    · by_cases e' : z' = y
      · simp only [updN, if_pos e', if_neg e]
        exact (sep _ _ (h.F z hz) (h.FF y z hy hz (fun e2 => e e2.symm))).symm
      · simp only [updN, if_neg e', if_neg e]; exact h.FF z z' hz hz' hne
  · by_cases e : z = y
    · simp only [updN, if_pos e]; exact sep _ _ (h.T j hj) (h.FT y j hy hj)
    · simp only [updN, if_neg e]; exact h.FT z j hz hj
end
/-- a row of headers -/
def hdrA (n : Nat) (h : Nat → Value) : Array Value := ((List.range n).map h).toArray
abbrev nilV : Value := .slice none 0 0
abbrev hdrO (n : Nat) (h : Nat → Value) : Obj := .cells (hdrA n h) 22 (0, 0)
theorem hdrA_at (n : Nat) (h : Nat → Value) (j : Nat) (hj : j < n) : (hdrA n h)[j]? = some (h j) := by simp [hdrA, hj]
theorem hdrA_size (n : Nat) (h : Nat → Value) : (hdrA n h).size = n := by simp [hdrA]
theorem hdrA_put (n : Nat) (h : Nat → Value) (j : Nat) (v : Value) : (hdrA n h).setIfInBounds j v = hdrA n (updN h j v) := by
  apply Array.ext_getElem?
  intro k
  rw [Array.getElem?_setIfInBounds]
  by_cases hk : k < n
  · rw [hdrA_at n h k hk, hdrA_at n _ k hk, hdrA_size]
    by_cases e : j = k
    · subst e; simp [updN, hk]
    · have e' : ¬ k = j := fun h => e h.symm
      simp [updN, e, e']
  · have h1 : (hdrA n h)[k]? = none := Array.getElem?_eq_none (by rw [hdrA_size]; omega)
    have h2 : (hdrA n (updN h j v))[k]? = none := Array.getElem?_eq_none (by rw [hdrA_size]; omega)
    rw [h1, h2]
    by_cases e : j = k
    · subst e; rw [if_pos rfl, hdrA_size, if_neg hk]
    · rw [if_neg e]
theorem hdr_cell {W : World} {g n : Nat} {h : Nat → Value} (hg : W.heap[g]? = some (hdrO n h)) (j : Nat) (hj : j < n) : W.cell? ⟨g, j, none⟩ = some (h j) := by rw [cell_of_row _ _ _ _ _ _ hg, hdrA_at _ _ _ hj]
theorem hdr_free {W : World} {g n : Nat} {h : Nat → Value} (hg : W.heap[g]? = some (hdrO n h)) (j : Nat) : W.frozen? ⟨g, j, none⟩ = false := frozen_of_row _ _ _ _ _ hg
theorem hdr_put {W : World} {g n : Nat} {h : Nat → Value} (hg : W.heap[g]? = some (hdrO n h)) (j : Nat) (v : Value) : (W.setCell ⟨g, j, none⟩ v).heap[g]? = some (hdrO n (updN h j v)) := by rw [heap_setCell_same _ _ _ _ _ _ hg, hdrA_put]
theorem updN_comm {α : Type} (f : Nat → α) (i : Nat) (v : α) : updN f i v i = v := by simp [updN]

/-! ### whence blocks are reached, as far as that has been gone through -/
def pvAt (ts : List TermD) (k i y : Nat) : List Nat := ((List.range k).flatMap fun q => ((nx ts q).filter (fun x => x == y)).map fun _ => q) ++ (((nx ts k).take i).filter (fun x => x == y)).map fun _ => k
theorem pvAt_zero (ts : List TermD) (y : Nat) : pvAt ts 0 0 y = [] := by simp [pvAt]
theorem pvAt_next (ts : List TermD) (k i y : Nat) (h : (nx ts k).length ≤ i) : pvAt ts k i y = pvAt ts (k + 1) 0 y := by
  simp only [pvAt, List.take_of_length_le h, List.range_succ, List.flatMap_append, List.flatMap_cons, List.flatMap_nil, List.append_nil, List.take_zero, List.filter_nil, List.map_nil]
theorem pvAt_end (ts : List TermD) (y : Nat) : pvAt ts ts.length 0 y = pv ts y := by simp [pvAt, pv]
theorem pvAt_step (ts : List TermD) (k i : Nat) (x : Nat) (h : (nx ts k)[i]? = some x) (y : Nat) : pvAt ts k (i + 1) y = if y = x then pvAt ts k i y ++ [k] else pvAt ts k i y := by
  have e : (nx ts k).take (i + 1) = (nx ts k).take i ++ [x] := by rw [List.take_add_one, h]; rfl
  simp only [pvAt, e, List.filter_append, List.map_append]
  by_cases hy : y = x
  · subst hy; simp
  · have : (x == y) = false := by simpa using fun e => hy e.symm
    simp [hy, this]
theorem pvAt_len (ts : List TermD) (k i y : Nat) : (pvAt ts k i y).length ≤ 2 * k + 2 := by
  have hn : ∀ q, (nx ts q).length ≤ 2 := fun q => by rw [nx, List.length_map]; exact toD_len _
  have h1 : ∀ k, ((List.range k).flatMap fun q => ((nx ts q).filter (fun x => x == y)).map fun _ => q).length ≤ 2 * k := by
    intro k
    induction k with
    | zero => simp
    | succ k ih =>
      rw [List.range_succ, List.flatMap_append, List.length_append]
      have h2 := List.length_filter_le (fun x => x == y) (nx ts k)
      have h3 := hn k
      simp
      simp at ih
      omega
  have h2 := List.length_filter_le (fun x => x == y) ((nx ts k).take i)
  have h3 : ((nx ts k).take i).length ≤ 2 := by rw [List.length_take]; have := hn k; omega
  have h4 := h1 k
  simp only [pvAt, List.length_append, List.length_map]
  omega
theorem pvAt_lt (ts : List TermD) (k i y : Nat) : ∀ q ∈ pvAt ts k i y, q ≤ k := by
  intro q hq
  simp only [pvAt, List.mem_append, List.mem_flatMap, List.mem_range, List.mem_map] at hq
  rcases hq with ⟨p, hp, _, _, rfl⟩ | ⟨_, _, rfl⟩
  · omega
  · omega
end

section
open Go.RowKit Go.Shelf
attribute [local go_sem] Oper.semAt_some wide_fn wide_depth wide_fnR wide_depthR

theorem ent1_any (f : Nat → Bool) (S : Nat) (x : Nat) (hx : x < 200) (W : World) (hS : W.heap[S]? = some (setO f)) :
    Calls Try.prog 91 (#[.int .i64 (x : Int)] ++ #[.pointer (some ⟨S, 0, none⟩)]) W fun e W' => e = .returned (.bool (!f x)) ∧ Below W.heap.size W W' := by
  show Calls Try.prog 91 #[.int .i64 (x : Int), .pointer (some ⟨S, 0, none⟩)] W _
  have hc := set_cell hS x hx
  generalize f x = b at *
  clear hS
  go_enter Try.func91, Try.ntmps91
  go_wp2
  go_ret
  exact ⟨rfl, Below.refl _ _⟩
theorem enter_ent1 (args : Array Value) (w : World) : (callFunc 91 args).run Try.prog w = .ok (.enter 91 args) w := enters_of Try.func91 (by kernel_rfl) rfl args w
/-- is a block of some one where they are entered? -/
def entB (ts : List TermD) (f : Nat → Bool) (b : Nat) : Bool := decide (b < ts.length) && (pv ts b).any fun x => !f x
theorem any_intsN (f : Nat → Bool) (l : List Nat) : ((intsN l).any fun z => !f z.toNat) = l.any fun q => !f q := by
  rw [intsN, List.any_map]
  rfl
theorem entriesS_eq (ts : List TermD) (f : Nat → Bool) : entriesS ts f = (listS f).filter (entB ts f) := rfl
/-- what lies where while entries are put together -/
def EJ (w : World) (d : WalkD) (f : Nat → Bool) (xs : List Int) (W : World) : Prop :=
  W.heap[w.heap.size]? = some (walkO d) ∧ W.heap[w.heap.size + 1]? = some (setO f) ∧ W.heap[w.heap.size + 1 + 1 + 1]? = some (.cells #[.pointer (some ⟨w.heap.size + 1, 0, none⟩)] 141 (0, 0)) ∧
    (∃ v, W.heap[w.heap.size + 1 + 1]? = some (.cells #[v] 22 (0, 0)) ∧ OwnI W (w.heap.size + 1 + 1 + 1 + 1) v xs) ∧ Below w.heap.size w W ∧ w.heap.size + 1 + 1 + 1 < W.heap.size
theorem EJ.steady {w : World} {d : WalkD} {f : Nat → Bool} {xs : List Int} {D : Nat} (hD : w.heap.size ≤ D) : Steady D (EJ w d f xs) := by
  unfold EJ
  exact (Steady.block _ _ rfl).and ((Steady.block _ _ rfl).and ((Steady.block _ _ rfl).and ((Steady.ex fun v => (Steady.block _ _ rfl).and (Steady.ownI _ _ _ _)).and ((Steady.below (Nat.le_refl _) hD).and (Steady.size _ _)))))
theorem EJ.ext {w W W' : World} {d : WalkD} {f : Nat → Bool} {xs : List Int} (h : EJ w d f xs W) (hb : Below W.heap.size W W') : EJ w d f xs W' := (EJ.steady (Nat.le_refl _)).ext h hb
/-- one more is put behind those that are told -/
theorem EJ.app {w W W' : World} {d : WalkD} {f : Nat → Bool} {xs : List Int} {v : Value} (hv : W.heap[w.heap.size + 1 + 1]? = some (.cells #[v] 22 (0, 0))) (ho : OwnI W (w.heap.size + 1 + 1 + 1 + 1) v xs) (h : EJ w d f xs W) (hg : W.grownBy W' v.ownBlock) (v' : Value) (x : Int) (hx : I64 x) (hn : xs.length ≤ 1000) (ho' : W'.ownsRow (w.heap.size + 1 + 1 + 1 + 1) 3 1 v' (xs.length + 1) (intVals xs ++ [.int .i64 x])) :
    EJ w d f (xs ++ [x]) (W'.setCell ⟨w.heap.size + 1 + 1, 0, none⟩ v') ∧ Keep W (W'.setCell ⟨w.heap.size + 1 + 1, 0, none⟩ v') := by
  obtain ⟨h1, h2, h3, _, h5, h6⟩ := h
  have low : ∀ q, q < w.heap.size + 1 + 1 + 1 + 1 → v.ownBlock ≠ some q := fun q hq e => by have := (ho.1.lt q e).1; omega
  have g := grown_setCell W' (w.heap.size + 1 + 1) 0 v'
  have hv2 := grown_row hg hv (low _ (by omega))
  refine ⟨⟨grown_row g (grown_row hg h1 (low _ (by omega))) (by simp; omega), grown_row g (grown_row hg h2 (low _ (by omega))) (by simp), grown_row g (grown_row hg h3 (low _ (by omega))) (by simp), ⟨v', ?_, ?_⟩, (h5.grown hg h5.size (fun r e => by have := (ho.1.lt r e).1; omega)).setCell (by simp; omega) _, by have := hg.size; simp; omega⟩,
    (Keep.grown hg (own_nobook ho.1)).trans (Keep.setCell _ _ _)⟩
  · have := heap_setCell_same W' (w.heap.size + 1 + 1) 0 _ _ v' hv2
    simpa using this
  · have e3 : (xs ++ [x]).length = xs.length + 1 := by simp
    have e4 : intVals (xs ++ [x]) = intVals xs ++ [.int .i64 x] := by simp [intVals]
    refine OwnI.kept (w := W') ⟨by rw [e3, e4]; exact ho', fun z hz => ?_, by rw [e3]; omega⟩ g ?_
    · rcases List.mem_append.1 hz with h | h
      · exact ho.2.1 z h
      · simp only [List.mem_singleton] at h
        subst h; exact hx
    · cases e : v'.ownBlock with
      | none => exact .inl rfl
      | some k =>
        have := (ho'.lt k e).1
        refine .inr ?_
        intro e2
        injection e2 with e2
        omega
set_option maxRecDepth 100000 in
set_option maxHeartbeats 4000000 in
theorem entries_any (d : WalkD) (ts : List TermD) (f : Nat → Bool) (w : World) (hok : WalkOK w d ts) (hg : goodB ts = true) :
    Calls Try.prog 60 #[walkV d, .agg (setA f)] w (IntsPost w (intsN (entriesS ts f))) := by
  refine (callsIn_wide (n := 0)).1 ?_
  refine callsIn_of_wp_marks Try.func60 rfl trivial ?_
  simp only [Try.ntmps60, List.size_toArray, List.length_cons, List.length_nil, Nat.reduceAdd, Nat.reduceSub, Array.replicate_succ, Array.replicate_zero, List.push_toArray, List.append_toArray, List.nil_append, List.cons_append]
  have HOK := Lib.hid hok
  have HPV := Lib.hid (WalkOK.nx_lt (w := w) (d := d) hg).2
  have hdl : ts.length = d.bn := hok.1
  have hdn : d.bn ≤ 200 := hok.2.1
  have HDL := Lib.hid hdl
  clear hok hg hdl
  gi_wp2_with (gi_at_call 59; refine (callsIn_wide.2 (each_any _ _)).mono ?_; rintro e w' ⟨rfl, rfl⟩)
  refine range_list (ps := #[7]) (gf := 89) (lb := #[.pointer (some ⟨w.heap.size + 1 + 1 + 1, 0, none⟩)]) (enc := encN) (l := listS f) rfl enter_each _ (each_iterI f (w.heap.size + 1 + 1 + 1) (w.heap.size + 1)) (fun _ => rfl)
    (fun dn r W => Hid (EJ w d f (intsN (dn.filter (entB ts f))) W)) (fun _ _ => False)
    (fun dn r => EJ.steady (by simp; omega)) (fun c => Steady.pure _ _) (fun dn r W h => ⟨by rw [cell_of_row _ _ _ _ _ _ h.out.2.2.1]; rfl, h.out.2.1⟩) ?start ?round ?done ?stop
  case start =>
    refine ⟨?_, ?_, ?_, ⟨_, ?_, OwnI.nil _ _⟩, ?_, by simp⟩
    · rw [Below.heap_alloc _ _ _ (by simp; omega), Below.heap_alloc _ _ _ (by simp; omega), Below.heap_alloc _ _ _ (by simp)]; exact heap_alloc_new _ _
    · rw [Below.heap_alloc _ _ _ (by simp), Below.heap_alloc _ _ _ (by simp)]; exact heap_at _ _ _ (by simp)
    · exact heap_at _ _ _ (by simp)
    · rw [Below.heap_alloc _ _ _ (by simp)]; exact heap_at _ _ _ (by simp)
    · exact (((ext_alloc _ _).alloc (by simp) _).alloc (by simp; omega) _).alloc (by simp; omega) _
  case round =>
    rintro lp dn x r W hd hJ
    unfold encN
    gi_wp2
    refine ⟨Keep.refl _, hJ, ?_⟩
    clear hJ lp W
    rintro lp W hJ
    obtain ⟨j1, j2, j3, ⟨v, j4, jo⟩, jb, js⟩ := hJ.out
    have hxl : x < 200 := listS_lt f x (by rw [hd]; simp)
    have hc3 : W.cell? ⟨w.heap.size, 3, none⟩ = some (.slice d.fa d.bn d.fc) := by rw [cell_of_row _ _ _ _ _ _ j1]; rfl
    by_cases hxb : x < d.bn
    · obtain ⟨b, o, ra, rc, rfa, hcr, hir⟩ := (HOK.out.ext jb).2.2.2.2.2 x (pv ts x) (by simp [fromRows, HDL.out, hxb])
      rw [rfa] at hc3
      have J2 := Lib.hid j2
      have HIR := Lib.hid hir
      have HPX : Hid (∀ z ∈ intsN (pv ts x), ∃ q : Nat, z = (q : Int) ∧ q < 200) := fun z hz => by
        simp only [intsN, List.mem_map] at hz
        obtain ⟨q, hq, rfl⟩ := hz
        exact ⟨q, rfl, HPV.out x q hq⟩
      have hxb' : (x : Int) < (d.bn : Int) := by omega
      clear j1 j2 j3 j4 jo jb js hir
      by_cases hent : entB ts f x = true
      · have HANY : Hid (((intsN (pv ts x)).any fun z => !f z.toNat) = true) := by
          rw [Hid, any_intsN]
          simp only [entB, Bool.and_eq_true] at hent
          exact hent.2
        have HFL : Hid (intsN ((dn ++ [x]).filter (entB ts f)) = intsN (dn.filter (entB ts f)) ++ [(x : Int)]) := by
          rw [Hid, List.filter_append, List.filter_cons, if_pos hent]
          simp [intsN]
        have hlen : (intsN (dn.filter (entB ts f))).length ≤ 1000 := by
          have h1 := listS_len f
          rw [hd] at h1
          have h2 := List.length_filter_le (entB ts f) dn
          simp [intsN] at h1 ⊢
          omega
        clear hent
        gi_wp2_with (first
          | (gi_at_call 90
             refine (CallsIn.inRound _ (callsIn_wide.2 (containsFunc_any 91 #[.pointer (some ⟨w.heap.size + 1, 0, none⟩)] enter_ent1 (fun z => !f z.toNat) _ _ _ (intsN (pv ts x)) W (fun z W' hz hb => ?_) HIR.out))).mono ?_
             · obtain ⟨q, rfl, hq⟩ := HPX.out z hz
               exact ent1_any f (w.heap.size + 1) q hq W' (block_ext hb J2.out)
             rintro e w2 ⟨rfl, hb2⟩
             rw [HANY.out]
             have HJ2 := Lib.hid (hJ.out.ext hb2)
             have HK2 := Lib.hid (Keep.ext hb2)
             clear hb2
             obtain ⟨v2, hv2, ho2⟩ := HJ2.out.2.2.2.1
             obtain ⟨av, cv, rfl⟩ := ho2.form
             have hcv : w2.cell? ⟨w.heap.size + 1 + 1, 0, none⟩ = some (.slice av (intsN (dn.filter (entB ts f))).length cv) := (by rw [cell_of_row _ _ _ _ _ _ hv2]; rfl)
             have HV2 := Lib.hid hv2
             have HO2 := Lib.hid ho2
             have hsz2 := HJ2.out.2.2.2.2.2
             clear hv2 ho2)
          | (gi_at_builtin
             refine listIn_of (by repeat (first | exact noOut_round | refine noOut_then ?_ | refine noOut_block ?_)) _ _ _ rfl ?_
             refine wpList_append1 rfl w2 (.tmp 22) (.tmp 24) 22 3 rfl (w.heap.size + 1 + 1 + 1 + 1) _ 1 8 Try.underlying22 infoI rfl (by omega) (.slice av (intsN (dn.filter (entB ts f))).length cv) (intsN (dn.filter (entB ts f))).length _ [.int .i64 (x : Int)] rfl HO2.out.1 w2.heap.size rfl rfl rfl (by simp [Value.oneCell']) (by simp only [maxLen]; omega) (by omega) (by omega) ?_
             intro g cap w3 hown3 hg3 hat3
             have HAPP := Lib.hid (HJ2.out.app HV2.out HO2.out hg3 _ (x : Int) (by unfold I64; omega) hlen hown3)
             have hv3 := grown_row hg3 HV2.out (fun e => by have := (HO2.out.1.lt _ e).1; omega)
             have hc3' : w3.cell? ⟨w.heap.size + 1 + 1, 0, none⟩ = some (.slice av (intsN (dn.filter (entB ts f))).length cv) := (by rw [cell_of_row _ _ _ _ _ _ hv3]; rfl)
             have hf3 : w3.frozen? ⟨w.heap.size + 1 + 1, 0, none⟩ = false := frozen_of_row _ _ _ _ _ hv3
             have hl3 : w.heap.size + 1 + 1 < w3.heap.size := lt_of_heap hv3
             clear hown3 hg3 hat3 hv3 hcv))
        go_wp2
        refine ⟨HK2.out.trans HAPP.out.2, ?_⟩
        have e9 := HFL.out
        rw [List.filter_append] at e9
        simp only [Hid, List.filter_append, e9]
        exact HAPP.out.1
      · have hent' : entB ts f x = false := by simpa using hent
        have HANY : Hid (((intsN (pv ts x)).any fun z => !f z.toNat) = false) := by
          rw [Hid, any_intsN]
          simp only [entB, Bool.and_eq_false_iff] at hent'
          rcases hent' with h | h
          · rw [HDL.out] at h; simp at h; omega
          · exact h
        have HFL : Hid (intsN ((dn ++ [x]).filter (entB ts f)) = intsN (dn.filter (entB ts f))) := by
          rw [Hid, List.filter_append, List.filter_cons, if_neg hent]
          simp
        clear hent hent'
        gi_wp2_with (
          (gi_at_call 90
           refine (CallsIn.inRound _ (callsIn_wide.2 (containsFunc_any 91 #[.pointer (some ⟨w.heap.size + 1, 0, none⟩)] enter_ent1 (fun z => !f z.toNat) _ _ _ (intsN (pv ts x)) W (fun z W' hz hb => ?_) HIR.out))).mono ?_
           · obtain ⟨q, rfl, hq⟩ := HPX.out z hz
             exact ent1_any f (w.heap.size + 1) q hq W' (block_ext hb J2.out)
           rintro e w2 ⟨rfl, hb2⟩
           rw [HANY.out]
           have HJ2 := Lib.hid (hJ.out.ext hb2)
           have HK2 := Lib.hid (Keep.ext hb2)
           clear hb2))
        refine ⟨HK2.out, ?_⟩
        have e9 := HFL.out
        rw [List.filter_append] at e9
        simp only [Hid, List.filter_append, e9]
        exact HJ2.out
    · have hxb' : ¬ (x : Int) < (d.bn : Int) := by omega
      have HFL : Hid (intsN ((dn ++ [x]).filter (entB ts f)) = intsN (dn.filter (entB ts f))) := by
        rw [Hid, List.filter_append, List.filter_cons, if_neg (by simp only [entB, Bool.and_eq_true, decide_eq_true_eq, HDL.out]; exact fun h => hxb h.1)]
        simp
      clear j1 j2 j3 j4 jo jb js hxb
      gi_wp2
      refine ⟨Keep.refl _, ?_⟩
      have e9 := HFL.out
      rw [List.filter_append] at e9
      simp only [Hid, List.filter_append, e9]
      exact hJ.out
  case done =>
    rintro D W hD hJ hK
    obtain ⟨v, hv, ho⟩ := hJ.out.2.2.2.1
    obtain ⟨av, cv, rfl⟩ := ho.form
    have HJ := hJ
    have HV := Lib.hid hv
    have hcv : W.cell? ⟨w.heap.size + 1 + 1, 0, none⟩ = some (.slice av (intsN ((listS f).filter (entB ts f))).length cv) := by rw [cell_of_row _ _ _ _ _ _ hv]; rfl
    have hfv : W.frozen? ⟨w.heap.size + 1 + 1, 0, none⟩ = false := frozen_of_row _ _ _ _ _ hv
    have hlv := lt_of_heap hv
    have HO := Lib.hid ho
    clear hv ho hJ
    gi_wp2
    have hDP : D ≠ w.heap.size + 1 + 1 := by simp at hD; omega
    have g := grown_setCell W (w.heap.size + 1 + 1) 0 (.slice av (intsN ((listS f).filter (entB ts f))).length cv)
    have hK2 := grown_row g hK (by simp; omega)
    have ho2 : OwnI (W.setCell ⟨w.heap.size + 1 + 1, 0, none⟩ (.slice av (intsN ((listS f).filter (entB ts f))).length cv)) (w.heap.size + 1 + 1 + 1 + 1) (.slice av (intsN ((listS f).filter (entB ts f))).length cv) (intsN ((listS f).filter (entB ts f))) := HO.out.kept g (by
      cases e : (Value.slice av (intsN ((listS f).filter (entB ts f))).length cv).ownBlock with
      | none => exact .inl rfl
      | some k =>
        have := (HO.out.1.lt k e).1
        refine .inr ?_
        intro e2
        injection e2 with e2
        omega)
    have hb2 : Below w.heap.size w (W.setCell ⟨w.heap.size + 1 + 1, 0, none⟩ (.slice av (intsN ((listS f).filter (entB ts f))).length cv)) := HJ.out.2.2.2.2.1.setCell (by simp; omega) _
    have hv2 : (W.setCell ⟨w.heap.size + 1 + 1, 0, none⟩ (.slice av (intsN ((listS f).filter (entB ts f))).length cv)).heap[w.heap.size + 1 + 1]? = some (.cells #[.slice av (intsN ((listS f).filter (entB ts f))).length cv] 22 (0, 0)) := by
      have := heap_setCell_same W (w.heap.size + 1 + 1) 0 _ _ (.slice av (intsN ((listS f).filter (entB ts f))).length cv) HV.out
      simpa using this
    generalize W.setCell ⟨w.heap.size + 1 + 1, 0, none⟩ (.slice av (intsN ((listS f).filter (entB ts f))).length cv) = W2 at *
    have ho3 := (Steady.ownI D (w.heap.size + 1 + 1 + 1 + 1) (.slice av (intsN ((listS f).filter (entB ts f))).length cv) (intsN ((listS f).filter (entB ts f)))).put (.deferred none) (l := D) ho2 (Nat.le_refl _) hK2 rfl
    have hb3 := (Steady.below (n₀ := w.heap.size) (B := w.heap.size) (w₀ := w) (Nat.le_refl _) (Nat.le_refl _)).put (.deferred none) (l := D) hb2 (by simp at hD; omega) hK2 rfl
    have hv3 : (W2.putObj D (.deferred none)).heap[w.heap.size + 1 + 1]? = some (.cells #[.slice av (intsN ((listS f).filter (entB ts f))).length cv] 22 (0, 0)) := (World.putObj_heap_other (by omega)).trans hv2
    have hc3 : (W2.putObj D (.deferred none)).cell? ⟨w.heap.size + 1 + 1, 0, none⟩ = some (.slice av (intsN ((listS f).filter (entB ts f))).length cv) := by rw [cell_of_row _ _ _ _ _ _ hv3]; rfl
    refine ⟨by simp, .inl ⟨_, _, rfl, run_takeDeferred hK2, ?_⟩⟩
    exact ⟨.slice av (intsN ((listS f).filter (entB ts f))).length cv, by simp [results, Try.results60, go_sem, hc3], _, rfl, ho3.mono (by omega), hb3⟩
  case stop => rintro D c W hD h; exact h.elim
end
end Go.Proofs.Ytblhmdhfhaencaa
