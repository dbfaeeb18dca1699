/-
  Facts in order: cert.order, cert.Ahead, check.order.
-/
import Derived.Test.YtfpbfdkjcmlimaaGreatRowG
import Derived.Sort.Grow
namespace Go.Proofs.YtfpbfdkjcmlimaaGreat
set_option linter.unusedSimpArgs false
set_option linter.unusedVariables false
set_option linter.unusedSectionVars false
set_option maxRecDepth 100000
set_option maxHeartbeats 40000000
section
open Go.RowKit
def Grew (w w' : World) : Prop := ∃ q os, w' = Go.Sort.grow (w.drewN q) os
theorem Grew.refl (w : World) : Grew w w := ⟨0, #[], by rw [Go.Sort.grow_empty]; rfl⟩
theorem Grew.trans {a b c : World} (h : Grew a b) (k : Grew b c) : Grew a c := by
  obtain ⟨q, os, rfl⟩ := h
  obtain ⟨q', os', rfl⟩ := k
  exact ⟨q + q', os ++ os', by simp [Go.Sort.grow, World.drewN, Array.append_assoc, Nat.add_assoc]⟩
theorem Grew.alloc (w : World) (o : Obj) : Grew w (w.alloc o) := ⟨0, #[o], by rw [Go.Sort.alloc_eq_grow]; rfl⟩
theorem Grew.drewN (w : World) (q : Nat) : Grew w (w.drewN q) := ⟨q, #[], by rw [Go.Sort.grow_empty]⟩
theorem Grew.drew (w : World) : Grew w w.drew := Grew.drewN w 1
theorem Grew.below {w w' : World} (h : Grew w w') : Below w.heap.size w w' := by
  obtain ⟨q, os, rfl⟩ := h
  refine ⟨rfl, rfl, rfl, by simp [Go.Sort.grow, World.drewN], fun k hk => ?_⟩
  show (w.heap ++ os)[k]? = _
  rw [Array.getElem?_append_left hk]
theorem Grew.block {w w' : World} {k : Nat} {o : Obj} (h : Grew w w') (hk : w.heap[k]? = some o) : w'.heap[k]? = some o := block_ext h.below hk
theorem sort1_any2 (x : Fct) (w : World) : Calls Tryz.prog 67 #[fctV x] w fun e w' => e = .returned (.int .i64 (bI x.2.1)) ∧ Grew w w' := by
  obtain ⟨v, s, n⟩ := x
  cases s with
  | false =>
    go_enter Tryz.func67, Tryz.ntmps67
    go_wp2
    go_ret
    exact ⟨rfl, Grew.alloc _ _⟩
  | true =>
    go_enter Tryz.func67, Tryz.ntmps67
    go_wp2
    go_ret
    exact ⟨rfl, Grew.alloc _ _⟩
abbrev fctO (v : Int) (s : Bool) (n : Int) : Obj := .cells #[.int .i64 v, .bool s, .int .i64 n] 36
theorem size_fct : (Tryz.prog.info? 36).map (·.size) = some 3 := by kernel_rfl
def CF (W w' : World) : Prop := Grew W w'
theorem certOrder_any (x y : Fct) (w : World) : Calls Tryz.prog 47 #[fctV x, fctV y] w fun e w' => e = .returned (.int .i64 (ordF x y)) ∧ Grew w w' := by
  obtain ⟨v, s, n⟩ := x
  obtain ⟨v', s', n'⟩ := y
  go_enter Tryz.func47, Tryz.ntmps47
  go_upto_region 2 with (fail)
  obtain ⟨W, hW⟩ : ∃ W, W = (w.alloc (fctO v s n)).alloc (fctO v' s' n') := ⟨_, rfl⟩
  have hr1 : W.heap[w.heap.size]? = some (fctO v s n) := by rw [hW]; exact block_ext (ext_alloc _ _) (heap_alloc_new _ _)
  have hr2 : W.heap[w.heap.size + 1]? = some (fctO v' s' n') := by
    rw [hW]
    have := heap_alloc_new (w.alloc (fctO v s n)) (fctO v' s' n')
    simpa using this
  have hB : Grew w W := by rw [hW]; exact (Grew.alloc _ _).trans (Grew.alloc _ _)
  rw [show (w.alloc (Obj.cells #[.int .i64 v, .bool s, .int .i64 n] 36)).alloc (Obj.cells #[.int .i64 v', .bool s', .int .i64 n'] 36) = W from hW.symm]
  have HR1 := Lib.hid hr1
  have HR2 := Lib.hid hr2
  have HB := Lib.hid hB
  clear hW hr1 hr2 hB
  have g1 : ∀ m : ClsW (CF W), m.val.cell? ⟨w.heap.size, 0, none⟩ = some (.int .i64 v) := fun m => by rw [cell_of_row _ _ _ _ _ _ (Grew.block m.prop HR1.out)]; rfl
  have g2 : ∀ m : ClsW (CF W), m.val.cell? ⟨w.heap.size + 1, 0, none⟩ = some (.int .i64 v') := fun m => by rw [cell_of_row _ _ _ _ _ _ (Grew.block m.prop HR2.out)]; rfl
  have g3 : ∀ m : ClsW (CF W), m.val.cell? ⟨w.heap.size, 2, none⟩ = some (.int .i64 n) := fun m => by rw [cell_of_row _ _ _ _ _ _ (Grew.block m.prop HR1.out)]; rfl
  have g4 : ∀ m : ClsW (CF W), m.val.cell? ⟨w.heap.size + 1, 2, none⟩ = some (.int .i64 n') := fun m => by rw [cell_of_row _ _ _ _ _ _ (Grew.block m.prop HR2.out)]; rfl
  have q1 : ∀ w', (∃ m : ClsW (CF W), w' = m.val) → w'.heap[w.heap.size]? = some (fctO v s n) := fun w' ⟨m, e⟩ => by rw [e]; exact Grew.block m.prop HR1.out
  have q2 : ∀ w', (∃ m : ClsW (CF W), w' = m.val) → w'.heap[w.heap.size + 1]? = some (fctO v' s' n') := fun w' ⟨m, e⟩ => by rw [e]; exact Grew.block m.prop HR2.out
  have hne : Nonempty (ClsW (CF W)) := ⟨⟨W, Grew.refl _⟩⟩
  refine region_mix (fun w' => ∃ m : ClsW (CF W), w' = m.val) [(0, 4, none), (5, 2, none), (8, 2, none), (12, 6, some (4, true)), (7, 0, some (7, true)), (10, 0, some (10, true)), (11, 0, some (11, true)), (18, 0, some (18, true)), (19, 0, some (19, true)), (20, 0, some (20, true)), (21, 1, none)] (by kernel_rfl) (by kernel_rfl) (cls_mk (Grew.drew _)) ?_
  simp only [wpMix, List.take_succ_cons, List.take_zero, List.drop_succ_cons, List.drop_zero]
  repeat (first
    | (refine wpQuiet_load_row (o := ⟨some 12, .load 36 _, _, _, _, _⟩) (by rfl) 36 _ rfl w.heap.size rfl 36 _ (0, 0) _ q1 Tryz.underlying36 rfl size_fct ?_; simp only [Act.put, List.setIfInBounds_toArray, List.set_cons_succ, List.set_cons_zero])
    | (refine wpQuiet_load_row (o := ⟨some 15, .load 36 _, _, _, _, _⟩) (by rfl) 36 _ rfl (w.heap.size + 1) rfl 36 _ (0, 0) _ q2 Tryz.underlying36 rfl size_fct ?_; simp only [Act.put, List.setIfInBounds_toArray, List.set_cons_succ, List.set_cons_zero])
    | refine wpQuiet_nil ?_
    | go_big_quiet_step (fail))
  refine wpOp_at rfl rfl ?_
  go_simp
  refine (compare_any v v' _).mono ?_
  rintro e w1 ⟨rfl, rfl⟩
  refine ⟨cls_mk (Grew.drew _), ?_⟩
  refine wpQuiet_nil ?_
  refine wpOp_at rfl rfl ?_
  go_simp
  refine (sort1_any2 (v, s, n) _).mono ?_
  rintro e w2 ⟨rfl, hb2⟩
  have hb2' := (Grew.drew W).trans hb2
  refine ⟨cls_mk hb2', ?_⟩
  refine wpQuiet_nil ?_
  refine wpOp_at rfl rfl ?_
  go_simp
  refine (sort1_any2 (v', s', n') _).mono ?_
  rintro e w3 ⟨rfl, hb3⟩
  have hb3' := hb2'.trans hb3
  refine ⟨cls_mk hb3', ?_⟩
  refine wpQuiet_nil ?_
  refine wpOp_at rfl rfl ?_
  go_simp
  refine (compare_any _ _ _).mono ?_
  rintro e w4 ⟨rfl, rfl⟩
  refine ⟨cls_mk hb3', ?_⟩
  refine wpQuiet_nil ?_
  refine wpOp_at rfl rfl ?_
  go_simp
  refine (compare_any _ _ _).mono ?_
  rintro e w5 ⟨rfl, rfl⟩
  refine ⟨cls_mk hb3', ?_⟩
  refine wpQuiet_nil ?_
  refine wpOp_at rfl rfl ?_
  go_simp
  refine ⟨cls_mk (hb3'.trans (Grew.alloc _ _)), ?_⟩
  refine wpQuiet_nil ?_
  refine wpOp_at rfl rfl ?_
  go_simp
  refine (cmpOr_any _ 3 3 [cmpV v v', cmpV (bI s) (bI s'), cmpV n n'] _ (ints_new3 w3 (v, v') (bI s, bI s') (n, n'))).mono ?_
  rintro e w6 ⟨rfl, rfl⟩
  refine ⟨cls_mk (hb3'.trans (Grew.alloc _ _)), ?_⟩
  repeat (go_big_quiet_step (fail))
  refine wpQuiet_nil ?_
  refine NoPanic.normal ?_
  go_wp2
  go_ret
  exact ⟨rfl, HB.out.trans (hb3'.trans (Grew.alloc _ _))⟩
def ltF (x y : Fct) : Bool := decide (ordF x y < 0)
def ckO (x y : Fct) : Int := if ltF x y then -1 else if ltF y x then 1 else 0
theorem aheadF_any (x y : Fct) (w : World) : Calls Tryz.prog 29 #[fctV x, fctV y] w fun e w' => e = .returned (.bool (ltF x y)) ∧ Grew w w' := by
  have hc := certOrder_any x y
  have HE : Hid (ltF x y = decide (ordF x y < 0)) := rfl
  obtain ⟨v, s, n⟩ := x
  obtain ⟨v', s', n'⟩ := y
  generalize ordF (v, s, n) (v', s', n') = r at *
  have HC := Lib.hid hc
  clear hc
  go_enter Tryz.func29, Tryz.ntmps29
  go_upto_region 1 with (fail)
  obtain ⟨W, hW⟩ : ∃ W, W = (w.alloc (fctO v s n)).alloc (fctO v' s' n') := ⟨_, rfl⟩
  have hr1 : W.heap[w.heap.size]? = some (fctO v s n) := by rw [hW]; exact block_ext (ext_alloc _ _) (heap_alloc_new _ _)
  have hr2 : W.heap[w.heap.size + 1]? = some (fctO v' s' n') := by
    rw [hW]
    have := heap_alloc_new (w.alloc (fctO v s n)) (fctO v' s' n')
    simpa using this
  have hB : Grew w W := by rw [hW]; exact (Grew.alloc _ _).trans (Grew.alloc _ _)
  rw [show (w.alloc (Obj.cells #[.int .i64 v, .bool s, .int .i64 n] 36)).alloc (Obj.cells #[.int .i64 v', .bool s', .int .i64 n'] 36) = W from hW.symm]
  have HR1 := Lib.hid hr1
  have HR2 := Lib.hid hr2
  have HB := Lib.hid hB
  clear hW hr1 hr2 hB
  go_wp2_with (first
    | ((with_reducible show wpList _ _ _ (⟨some 5, _, _, _, _, _⟩ :: _) _ _); refine wpList_load_row (o := ⟨some 5, .load 36 _, _, _, _, _⟩) rfl 36 _ rfl w.heap.size rfl 36 _ (0, 0) _ HR1.out Tryz.underlying36 rfl size_fct ?_)
    | ((with_reducible show wpList _ _ _ (⟨some 6, _, _, _, _, _⟩ :: _) _ _); refine wpList_load_row (o := ⟨some 6, .load 36 _, _, _, _, _⟩) rfl 36 _ rfl (w.heap.size + 1) rfl 36 _ (0, 0) _ HR2.out Tryz.underlying36 rfl size_fct ?_)
    | (go_at_call 47
       refine (HC.out W).mono ?_
       rintro e w3 ⟨rfl, hb⟩
       have HB3 := Lib.hid (HB.out.trans hb)
       clear hb))
  go_ret
  exact ⟨by rw [HE.out]; rfl, HB3.out⟩
theorem ckOrder_any (x y : Fct) (w : World) : Calls Tryz.prog 38 #[fctV x, fctV y] w fun e w' => e = .returned (.int .i64 (ckO x y)) ∧ Grew w w' := by
  have hc := aheadF_any x y
  have hc2 := aheadF_any y x
  have HE : Hid (ckO x y = if ltF x y then -1 else if ltF y x then 1 else 0) := rfl
  obtain ⟨v, s, n⟩ := x
  obtain ⟨v', s', n'⟩ := y
  have HC := Lib.hid hc
  have HC2 := Lib.hid hc2
  clear hc hc2
  go_enter Tryz.func38, Tryz.ntmps38
  go_upto_region 1 with (fail)
  obtain ⟨W, hW⟩ : ∃ W, W = (w.alloc (fctO v s n)).alloc (fctO v' s' n') := ⟨_, rfl⟩
  have hr1 : W.heap[w.heap.size]? = some (fctO v s n) := by rw [hW]; exact block_ext (ext_alloc _ _) (heap_alloc_new _ _)
  have hr2 : W.heap[w.heap.size + 1]? = some (fctO v' s' n') := by
    rw [hW]
    have := heap_alloc_new (w.alloc (fctO v s n)) (fctO v' s' n')
    simpa using this
  have hB : Grew w W := by rw [hW]; exact (Grew.alloc _ _).trans (Grew.alloc _ _)
  rw [show (w.alloc (Obj.cells #[.int .i64 v, .bool s, .int .i64 n] 36)).alloc (Obj.cells #[.int .i64 v', .bool s', .int .i64 n'] 36) = W from hW.symm]
  have HR1 := Lib.hid hr1
  have HR2 := Lib.hid hr2
  have HB := Lib.hid hB
  clear hW hr1 hr2 hB
  go_upto_if 5 with (first
    | ((with_reducible show wpList _ _ _ (⟨some 6, _, _, _, _, _⟩ :: _) _ _); refine wpList_load_row (o := ⟨some 6, .load 36 _, _, _, _, _⟩) rfl 36 _ rfl w.heap.size rfl 36 _ (0, 0) _ HR1.out Tryz.underlying36 rfl size_fct ?_)
    | ((with_reducible show wpList _ _ _ (⟨some 7, _, _, _, _, _⟩ :: _) _ _); refine wpList_load_row (o := ⟨some 7, .load 36 _, _, _, _, _⟩) rfl 36 _ rfl (w.heap.size + 1) rfl 36 _ (0, 0) _ HR2.out Tryz.underlying36 rfl size_fct ?_)
    | (go_at_call 29
       refine (HC.out W).mono ?_
       rintro e w3 ⟨rfl, hb⟩
       have HR13 := Lib.hid (hb.block HR1.out)
       have HR23 := Lib.hid (hb.block HR2.out)
       have HB3 := Lib.hid (HB.out.trans hb)
       clear hb))
  cases h1 : ltF (v, s, n) (v', s', n') with
  | true =>
    have HE2 : Hid (ckO (v, s, n) (v', s', n') = -1) := by rw [Hid, HE.out, h1]; rfl
    clear h1
    go_wp2
    go_ret
    exact ⟨by rw [HE2.out]; rfl, HB3.out⟩
  | false =>
    have H1 := Lib.hid h1
    clear h1
    go_upto_if 9 with (first
      | ((with_reducible show wpList _ _ _ (⟨some 10, _, _, _, _, _⟩ :: _) _ _); refine wpList_load_row (o := ⟨some 10, .load 36 _, _, _, _, _⟩) rfl 36 _ rfl (w.heap.size + 1) rfl 36 _ (0, 0) _ HR23.out Tryz.underlying36 rfl size_fct ?_)
      | ((with_reducible show wpList _ _ _ (⟨some 11, _, _, _, _, _⟩ :: _) _ _); refine wpList_load_row (o := ⟨some 11, .load 36 _, _, _, _, _⟩) rfl 36 _ rfl w.heap.size rfl 36 _ (0, 0) _ HR13.out Tryz.underlying36 rfl size_fct ?_)
      | (go_at_call 29
         refine (HC2.out w3).mono ?_
         rintro e w4 ⟨rfl, hb⟩
         have HB4 := Lib.hid (HB3.out.trans hb)
         clear hb))
    cases h2 : ltF (v', s', n') (v, s, n) with
    | true =>
      have HE2 : Hid (ckO (v, s, n) (v', s', n') = 1) := by rw [Hid, HE.out, H1.out, h2]; rfl
      clear h2
      go_wp2
      go_ret
      exact ⟨by rw [HE2.out]; rfl, HB4.out⟩
    | false =>
      have HE2 : Hid (ckO (v, s, n) (v', s', n') = 0) := by rw [Hid, HE.out, H1.out, h2]; rfl
      clear h2
      go_wp2
      go_ret
      exact ⟨by rw [HE2.out]; rfl, HB4.out⟩
theorem ord_lt (x y : Fct) : ordF x y < 0 ↔ x.1 < y.1 ∨ x.1 = y.1 ∧ (bI x.2.1 < bI y.2.1 ∨ bI x.2.1 = bI y.2.1 ∧ x.2.2 < y.2.2) := by
  simp only [ordF, orV, cmpV]
  repeat' split
  all_goals omega
theorem bI_inj {a b : Bool} (h : bI a = bI b) : a = b := by cases a <;> cases b <;> simp_all [bI]
theorem ltF_irrefl (x : Fct) : ltF x x = false := by
  have := ord_lt x x
  simp only [ltF, decide_eq_false_iff_not]
  omega
theorem ltF_trans {x y z : Fct} (h1 : ltF x y = true) (h2 : ltF y z = true) : ltF x z = true := by
  simp only [ltF, decide_eq_true_eq] at *
  rw [ord_lt] at *
  omega
theorem ltF_total {x y : Fct} (h1 : ltF x y = false) (h2 : ltF y x = false) : x = y := by
  simp only [ltF, decide_eq_false_iff_not] at *
  rw [ord_lt] at *
  obtain ⟨a, b, c⟩ := x
  obtain ⟨a', b', c'⟩ := y
  simp only at *
  have e1 : a = a' := by omega
  have e2 : bI b = bI b' := by omega
  have e3 : c = c' := by omega
  rw [e1, bI_inj e2, e3]
theorem ckO_neg (x y : Fct) : decide (ckO x y < 0) = ltF x y := by
  unfold ckO
  cases h : ltF x y
  · cases h2 : ltF y x <;> simp
  · simp
end
end Go.Proofs.YtfpbfdkjcmlimaaGreat
