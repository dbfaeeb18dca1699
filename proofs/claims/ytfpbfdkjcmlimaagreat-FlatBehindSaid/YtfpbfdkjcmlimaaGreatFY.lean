/-
  Flat: at; the examples (awake).
-/
import Derived.Test.YtfpbfdkjcmlimaaGreatFW
namespace Go.Proofs.YtfpbfdkjcmlimaaGreat
set_option linter.unusedSimpArgs false
set_option linter.unusedVariables false
set_option linter.unusedSectionVars false
set_option maxRecDepth 100000
set_option maxHeartbeats 40000000
section
open Go.RowKit
theorem at_any (v r : Int) (w : World) : Calls Tryz.prog 11 #[.int .i64 v, .int .i64 r] w fun e w' => e = .returned (factV (v, (false, r))) ∧ Below w.heap.size w w' := by
  go_enter Tryz.func11, Tryz.ntmps11
  go_wp2
  exact bodyPost_ret (v := factV (v, (false, r))) (by simp [results, Tryz.results11, go_sem]) rfl ⟨rfl, ext_alloc _ _⟩
def m0 : MachD := ⟨2, [], 0, []⟩
def i0 : InsR := ⟨⟨1, 5, 0, 0, 0, 0, [], 0⟩, none, 0, 0⟩
def i1 : InsR := ⟨⟨1, 0, 0, 0, 0, 0, [], 0⟩, none, 0, 0⟩
def i2 : InsR := ⟨⟨15, 0, 1, 0, 0, 0, [], 0⟩, none, 0, 0⟩
def s0 : BlkD := ⟨[i0], 4, 0, 0, 0⟩
def t0 : BlkD := ⟨[i1, i2], 4, 0, 0, 0⟩
theorem aw_events : eventsN m0 s0 t0 = 3 := by kernel_rfl
theorem aw_b1 : beforeB m0 s0 t0 2 (5, (false, 0)) = (2, (0, false, 0), 0) := by kernel_rfl
theorem aw_b2 : beforeB m0 s0 t0 1 (5, (false, 0)) = (1, (0, false, 0), 0) := by kernel_rfl
theorem aw_b3 : beforeB m0 s0 t0 1 (4, (false, 1)) = (3, (4, false, 1), 0) := by kernel_rfl
theorem i64_small (n : Int) (h1 : -100 ≤ n) (h2 : n ≤ 100) : I64 n := ⟨by omega, by omega⟩
theorem nilInts (w : World) : Ints w none 0 [] := ⟨rfl, by omega, fun k hk => absurd hk (by omega)⟩
theorem aw_mach (w : World) : MachOK w m0 none 0 0 none 0 0 := ⟨nilInts w, nilInts w, Nat.le_refl _, Nat.le_refl _, by omega, by omega, i64_small _ (by decide) (by decide), i64_small _ (by decide) (by decide)⟩
theorem aw_insok (w : World) (r : InsR) (h : r = i0 ∨ r = i1 ∨ r = i2) : InsOK w r := by
  rcases h with rfl | rfl | rfl
  all_goals exact ⟨nilInts w, Nat.le_refl _, i64_small _ (by decide) (by decide), i64_small _ (by decide) (by decide), i64_small _ (by decide) (by decide), i64_small _ (by decide) (by decide), i64_small _ (by decide) (by decide), i64_small _ (by decide) (by decide), i64_small _ (by decide) (by decide)⟩
theorem recs_lit {α : Type} {size : Nat} {cs : α → List Value} {ls : List α} (w : World) (p : Nat) (arr : Array Value) (t : TypeId) (fr : Nat × Nat) (h : w.heap[p]? = some (.cells arr t fr)) (hs : ∀ x, (cs x).length = size) (ha : arr = (ls.flatMap cs).toArray) (hl : ls.length ≤ 17592186044416) : Recs size cs w (some ⟨p, 0, none⟩) ls.length ls := by
  refine ⟨rfl, hl, fun k x hx => ⟨p, 0, rfl, fun j hj => ?_⟩⟩
  have h1 := flatMap_at cs size hs ls k j hj x hx
  rw [cell_of_row _ _ _ _ _ _ h, Nat.zero_add, ← h1, ha]
  simp
theorem aw_s (w : World) (p : Nat) (h : w.heap[p]? = some (.cells #[.int .i64 1, .int .i64 5, .int .i64 0, .int .i64 0, .int .i64 0, .int .i64 0, .slice none 0 0, .int .i64 0] 52 (0, 0))) : BlkOK w s0 (some ⟨p, 0, none⟩) 1 1 :=
  ⟨⟨recs_lit (ls := [i0]) w p _ _ _ h insC_len rfl (by simp), fun r hr => aw_insok w r (by simp [s0] at hr; exact Or.inl hr)⟩, by omega, Nat.le_refl _, i64_small _ (by decide) (by decide), i64_small _ (by decide) (by decide), i64_small _ (by decide) (by decide), i64_small _ (by decide) (by decide)⟩
theorem aw_t (w : World) (p : Nat) (h : w.heap[p]? = some (.cells #[.int .i64 1, .int .i64 0, .int .i64 0, .int .i64 0, .int .i64 0, .int .i64 0, .slice none 0 0, .int .i64 0, .int .i64 15, .int .i64 0, .int .i64 1, .int .i64 0, .int .i64 0, .int .i64 0, .slice none 0 0, .int .i64 0] 52 (0, 0))) : BlkOK w t0 (some ⟨p, 0, none⟩) 2 2 :=
  ⟨⟨recs_lit (ls := [i1, i2]) w p _ _ _ h insC_len rfl (by simp), fun r hr => aw_insok w r (by simp [t0] at hr; exact Or.inr hr)⟩, by omega, Nat.le_refl _, i64_small _ (by decide) (by decide), i64_small _ (by decide) (by decide), i64_small _ (by decide) (by decide), i64_small _ (by decide) (by decide)⟩
theorem box6 (w : World) (o1 o2 o3 o4 o5 o6 : Obj) : ∃ W0, Hid (Below w.heap.size w W0) ∧ W0.heap[w.heap.size]? = some o1 ∧ W0.heap[w.heap.size + 1]? = some o2 ∧ W0.heap[w.heap.size + 1 + 1]? = some o3 ∧ W0.heap[w.heap.size + 1 + 1 + 1]? = some o4 ∧ W0.heap[w.heap.size + 1 + 1 + 1 + 1]? = some o5 ∧ W0.heap[w.heap.size + 1 + 1 + 1 + 1 + 1]? = some o6 ∧ (((((w.alloc o1).alloc o2).alloc o3).alloc o4).alloc o5).alloc o6 = W0 := by
  obtain ⟨W, hb, b1, b2, b3, b4, b5, hW⟩ := box5 w o1 o2 o3 o4 o5
  have b6 := heap_alloc_new W o6
  rw [← hW] at b6
  simp only [World.size_alloc] at b6
  rw [hW] at b6
  exact ⟨W.alloc o6, ext_trans hb (ext_alloc _ _), block_ext (ext_alloc _ _) b1, block_ext (ext_alloc _ _) b2, block_ext (ext_alloc _ _) b3, block_ext (ext_alloc _ _) b4, block_ext (ext_alloc _ _) b5, b6, by rw [hW]⟩
theorem awake_any (w : World) : Calls Tryz.prog 4 #[] w fun e w' => e = .returned (.bool true) ∧ Below w.heap.size w w' := by
  go_enter Tryz.func4, Tryz.ntmps4
  go_wp2_with fail
  obtain ⟨W0, HW0, hM, h29, hSi, hS, hTi, hT, hW0⟩ := box6 w (.cells #[.int .i64 2, .slice none 0 0, .int .i64 0, .slice none 0 0] 24) (.cells #[.int .i64 4, .int .i64 0, .int .i64 0, .int .i64 0] 29) (.cells #[.int .i64 1, .int .i64 5, .int .i64 0, .int .i64 0, .int .i64 0, .int .i64 0, .slice none 0 0, .int .i64 0] 52) (.cells #[.slice (some ⟨w.heap.size + 1 + 1, 0, none⟩) 1 1, .int .i64 4, .int .i64 0, .int .i64 0, .int .i64 0] 31) (.cells #[.int .i64 1, .int .i64 0, .int .i64 0, .int .i64 0, .int .i64 0, .int .i64 0, .slice none 0 0, .int .i64 0, .int .i64 15, .int .i64 0, .int .i64 1, .int .i64 0, .int .i64 0, .int .i64 0, .slice none 0 0, .int .i64 0] 52) (.cells #[.slice (some ⟨w.heap.size + 1 + 1 + 1 + 1, 0, none⟩) 2 2, .int .i64 4, .int .i64 0, .int .i64 0, .int .i64 0] 31)
  rw [hW0]
  clear hW0 h29
  have xm0 : ∀ w', Below W0.heap.size W0 w' → w'.cell? ⟨w.heap.size, 0, none⟩ = some (.int .i64 2) := fun w' hb => by rw [cell_of_row _ _ _ _ _ _ (block_ext hb hM)]; rfl
  have xm1 : ∀ w', Below W0.heap.size W0 w' → w'.cell? ⟨w.heap.size, 1, none⟩ = some (.slice none 0 0) := fun w' hb => by rw [cell_of_row _ _ _ _ _ _ (block_ext hb hM)]; rfl
  have xm2 : ∀ w', Below W0.heap.size W0 w' → w'.cell? ⟨w.heap.size, 2, none⟩ = some (.int .i64 0) := fun w' hb => by rw [cell_of_row _ _ _ _ _ _ (block_ext hb hM)]; rfl
  have xm3 : ∀ w', Below W0.heap.size W0 w' → w'.cell? ⟨w.heap.size, 3, none⟩ = some (.slice none 0 0) := fun w' hb => by rw [cell_of_row _ _ _ _ _ _ (block_ext hb hM)]; rfl
  have xs0 : ∀ w', Below W0.heap.size W0 w' → w'.cell? ⟨w.heap.size + 1 + 1 + 1, 0, none⟩ = some (.slice (some ⟨w.heap.size + 1 + 1, 0, none⟩) 1 1) := fun w' hb => by rw [cell_of_row _ _ _ _ _ _ (block_ext hb hS)]; rfl
  have xs1 : ∀ w', Below W0.heap.size W0 w' → w'.cell? ⟨w.heap.size + 1 + 1 + 1, 1, none⟩ = some (.int .i64 4) := fun w' hb => by rw [cell_of_row _ _ _ _ _ _ (block_ext hb hS)]; rfl
  have xs2 : ∀ w', Below W0.heap.size W0 w' → w'.cell? ⟨w.heap.size + 1 + 1 + 1, 2, none⟩ = some (.int .i64 0) := fun w' hb => by rw [cell_of_row _ _ _ _ _ _ (block_ext hb hS)]; rfl
  have xs3 : ∀ w', Below W0.heap.size W0 w' → w'.cell? ⟨w.heap.size + 1 + 1 + 1, 3, none⟩ = some (.int .i64 0) := fun w' hb => by rw [cell_of_row _ _ _ _ _ _ (block_ext hb hS)]; rfl
  have xs4 : ∀ w', Below W0.heap.size W0 w' → w'.cell? ⟨w.heap.size + 1 + 1 + 1, 4, none⟩ = some (.int .i64 0) := fun w' hb => by rw [cell_of_row _ _ _ _ _ _ (block_ext hb hS)]; rfl
  have xt0 : ∀ w', Below W0.heap.size W0 w' → w'.cell? ⟨w.heap.size + 1 + 1 + 1 + 1 + 1, 0, none⟩ = some (.slice (some ⟨w.heap.size + 1 + 1 + 1 + 1, 0, none⟩) 2 2) := fun w' hb => by rw [cell_of_row _ _ _ _ _ _ (block_ext hb hT)]; rfl
  have xt1 : ∀ w', Below W0.heap.size W0 w' → w'.cell? ⟨w.heap.size + 1 + 1 + 1 + 1 + 1, 1, none⟩ = some (.int .i64 4) := fun w' hb => by rw [cell_of_row _ _ _ _ _ _ (block_ext hb hT)]; rfl
  have xt2 : ∀ w', Below W0.heap.size W0 w' → w'.cell? ⟨w.heap.size + 1 + 1 + 1 + 1 + 1, 2, none⟩ = some (.int .i64 0) := fun w' hb => by rw [cell_of_row _ _ _ _ _ _ (block_ext hb hT)]; rfl
  have xt3 : ∀ w', Below W0.heap.size W0 w' → w'.cell? ⟨w.heap.size + 1 + 1 + 1 + 1 + 1, 3, none⟩ = some (.int .i64 0) := fun w' hb => by rw [cell_of_row _ _ _ _ _ _ (block_ext hb hT)]; rfl
  have xt4 : ∀ w', Below W0.heap.size W0 w' → w'.cell? ⟨w.heap.size + 1 + 1 + 1 + 1 + 1, 4, none⟩ = some (.int .i64 0) := fun w' hb => by rw [cell_of_row _ _ _ _ _ _ (block_ext hb hT)]; rfl
  have HSi := Lib.hid hSi
  have HTi := Lib.hid hTi
  clear hM hS hT hSi hTi
  refine (eventsN_any m0 none none 0 0 0 0 s0 t0 (some ⟨w.heap.size + 1 + 1, 0, none⟩) (some ⟨w.heap.size + 1 + 1 + 1 + 1, 0, none⟩) 1 1 2 2 W0 (aw_mach _) (aw_s _ _ HSi.out) (aw_t _ _ HTi.out)).mono ?_
  rw [aw_events]
  rintro e w1 ⟨rfl, E1⟩
  go_wp2_with fail
  have km0 : ∀ q : ExtW w1, q.val.cell? ⟨w.heap.size, 0, none⟩ = some (.int .i64 2) := fun q => xm0 _ (ext_trans E1 q.ext)
  have km1 : ∀ q : ExtW w1, q.val.cell? ⟨w.heap.size, 1, none⟩ = some (.slice none 0 0) := fun q => xm1 _ (ext_trans E1 q.ext)
  have km2 : ∀ q : ExtW w1, q.val.cell? ⟨w.heap.size, 2, none⟩ = some (.int .i64 0) := fun q => xm2 _ (ext_trans E1 q.ext)
  have km3 : ∀ q : ExtW w1, q.val.cell? ⟨w.heap.size, 3, none⟩ = some (.slice none 0 0) := fun q => xm3 _ (ext_trans E1 q.ext)
  have ks0 : ∀ q : ExtW w1, q.val.cell? ⟨w.heap.size + 1 + 1 + 1, 0, none⟩ = some (.slice (some ⟨w.heap.size + 1 + 1, 0, none⟩) 1 1) := fun q => xs0 _ (ext_trans E1 q.ext)
  have ks1 : ∀ q : ExtW w1, q.val.cell? ⟨w.heap.size + 1 + 1 + 1, 1, none⟩ = some (.int .i64 4) := fun q => xs1 _ (ext_trans E1 q.ext)
  have ks2 : ∀ q : ExtW w1, q.val.cell? ⟨w.heap.size + 1 + 1 + 1, 2, none⟩ = some (.int .i64 0) := fun q => xs2 _ (ext_trans E1 q.ext)
  have ks3 : ∀ q : ExtW w1, q.val.cell? ⟨w.heap.size + 1 + 1 + 1, 3, none⟩ = some (.int .i64 0) := fun q => xs3 _ (ext_trans E1 q.ext)
  have ks4 : ∀ q : ExtW w1, q.val.cell? ⟨w.heap.size + 1 + 1 + 1, 4, none⟩ = some (.int .i64 0) := fun q => xs4 _ (ext_trans E1 q.ext)
  have kt0 : ∀ q : ExtW w1, q.val.cell? ⟨w.heap.size + 1 + 1 + 1 + 1 + 1, 0, none⟩ = some (.slice (some ⟨w.heap.size + 1 + 1 + 1 + 1, 0, none⟩) 2 2) := fun q => xt0 _ (ext_trans E1 q.ext)
  have kt1 : ∀ q : ExtW w1, q.val.cell? ⟨w.heap.size + 1 + 1 + 1 + 1 + 1, 1, none⟩ = some (.int .i64 4) := fun q => xt1 _ (ext_trans E1 q.ext)
  have kt2 : ∀ q : ExtW w1, q.val.cell? ⟨w.heap.size + 1 + 1 + 1 + 1 + 1, 2, none⟩ = some (.int .i64 0) := fun q => xt2 _ (ext_trans E1 q.ext)
  have kt3 : ∀ q : ExtW w1, q.val.cell? ⟨w.heap.size + 1 + 1 + 1 + 1 + 1, 3, none⟩ = some (.int .i64 0) := fun q => xt3 _ (ext_trans E1 q.ext)
  have kt4 : ∀ q : ExtW w1, q.val.cell? ⟨w.heap.size + 1 + 1 + 1 + 1 + 1, 4, none⟩ = some (.int .i64 0) := fun q => xt4 _ (ext_trans E1 q.ext)
  go_cut [6, 7, 8] (fun sa sb sc wx => sa = .int .i64 2 ∧ (∃ px, sb = .pointer (some ⟨px, 0, none⟩) ∧ wx.heap[px]? = some (factO (0, false, 0))) ∧ sc = .int .i64 0 ∧ Below W0.heap.size W0 wx)
  case first =>
    clear xm0 xm1 xm2 xm3 xs0 xs1 xs2 xs3 xs4 xt0 xt1 xt2 xt3 xt4
    refine z_start (fun w' => ∃ n : ExtW w1, w' = n.val) (by kernel_rfl) ?_
    obtain ⟨v0, F0, hv0⟩ : ∃ v0, Below w1.heap.size w1 v0 ∧ w1.drew = v0 := ⟨_, ext_drewN (Below.refl _ _) 1, rfl⟩
    rw [hv0]
    clear hv0
    refine z_reads 0 3 (by kernel_rfl) ⟨⟨_, F0⟩, rfl⟩ ?_
    simp only [List.take_succ_cons, List.take_zero, List.drop_succ_cons, List.drop_zero]
    repeat (go_big_quiet_step (fail))
    refine wpQuiet_nil ?_
    refine z_two 3 9 (by kernel_rfl) ?_ ?_
    · refine wpOp_at rfl rfl ?_
      go_simp
      refine (at_any 5 0 v0).mono ?_
      rintro e v1 ⟨rfl, hb⟩
      have F1 : Below w1.heap.size w1 v1 := ext_trans F0 hb
      refine ⟨Or.inr ⟨⟨_, F1⟩, rfl⟩, ?_⟩
      try simp only [Act.put, List.setIfInBounds_toArray, List.set_cons_succ, List.set_cons_zero]
      clear hb
      refine z_two 4 9 (by kernel_rfl) ?_ ?_
      · refine wpOp_at rfl rfl ?_
        go_simp
        refine (before_any2 m0 none none 0 0 0 0 s0 t0 (some ⟨w.heap.size + 1 + 1, 0, none⟩) (some ⟨w.heap.size + 1 + 1 + 1 + 1, 0, none⟩) 1 1 2 2 2 (5, (false, 0)) v1 (aw_mach _) (aw_s _ _ (block_ext (ext_trans E1 F1) HSi.out)) (aw_t _ _ (block_ext (ext_trans E1 F1) HTi.out)) ⟨i64_small _ (by decide) (by decide), i64_small _ (by decide) (by decide)⟩).mono ?_
        rw [aw_b1]
        rintro e v2 ⟨rfl, hb⟩
        have F2 : Below w1.heap.size w1 v2 := ext_trans F1 hb
        refine ⟨Or.inr ⟨⟨_, F2⟩, rfl⟩, ?_⟩
        try simp only [Act.put, List.setIfInBounds_toArray, List.set_cons_succ, List.set_cons_zero]
        clear hb
        refine z_reads 5 4 (by kernel_rfl) ⟨⟨_, F2⟩, rfl⟩ ?_
        simp only [List.take_succ_cons, List.take_zero, List.drop_succ_cons, List.drop_zero]
        repeat (go_big_quiet_step (fail))
        refine wpQuiet_nil ?_
        refine z_one 9 (by kernel_rfl) ?_
        refine wpOp_at rfl rfl ?_
        refine op_allocB 36 rfl _ zero_fact ?_
        intro px v3 hb hpx FX
        have F3 : Below w1.heap.size w1 v3 := ext_trans F2 hb
        have hpB : w1.heap.size ≤ px := by rw [hpx]; exact F2.size
        refine ⟨Or.inr ⟨⟨_, F3⟩, rfl⟩, ?_⟩
        try simp only [Act.put, List.setIfInBounds_toArray, List.set_cons_succ, List.set_cons_zero]
        clear hb hpx
        refine z_reads 10 1 (by kernel_rfl) ⟨⟨_, F3⟩, rfl⟩ ?_
        simp only [List.take_succ_cons, List.take_zero, List.drop_succ_cons, List.drop_zero]
        repeat (go_big_quiet_step (fail))
        refine wpQuiet_nil ?_
        refine z_one 11 (by kernel_rfl) ?_
        refine wpOp_at rfl rfl ?_
        refine op_store_rowB 36 _ _ rfl px #[.int .i64 0, .bool false, .int .i64 0] rfl rfl 36 _ FX (by kernel_rfl) rfl (by simp [Value.oneCell']) _ _ F3 hpB ?_
        intro v4 F4 FX2
        refine ⟨Or.inr ⟨⟨_, F4⟩, rfl⟩, ?_⟩
        try simp only [Act.put, List.setIfInBounds_toArray, List.set_cons_succ, List.set_cons_zero]
        refine z_reads 12 1 (by kernel_rfl) ⟨⟨_, F4⟩, rfl⟩ ?_
        simp only [List.take_succ_cons, List.take_zero, List.drop_succ_cons, List.drop_zero]
        repeat (go_big_quiet_step (fail))
        refine wpQuiet_nil ?_
        refine z_done (by kernel_rfl) ?_
        go_wp2_with fail
        go_meet
        exact ⟨rfl, ⟨px, rfl, FX2⟩, rfl, ext_trans E1 F4⟩
      · refine wpOp_at rfl rfl ?_
        refine op_allocB 36 rfl _ zero_fact ?_
        intro px v2 hb hpx FX
        have F2 : Below w1.heap.size w1 v2 := ext_trans F1 hb
        have hpB : w1.heap.size ≤ px := by rw [hpx]; exact F1.size
        refine ⟨Or.inr ⟨⟨_, F2⟩, rfl⟩, ?_⟩
        try simp only [Act.put, List.setIfInBounds_toArray, List.set_cons_succ, List.set_cons_zero]
        clear hb hpx
        refine z_one 4 (by kernel_rfl) ?_
        refine wpOp_at rfl rfl ?_
        go_simp
        refine (before_any2 m0 none none 0 0 0 0 s0 t0 (some ⟨w.heap.size + 1 + 1, 0, none⟩) (some ⟨w.heap.size + 1 + 1 + 1 + 1, 0, none⟩) 1 1 2 2 2 (5, (false, 0)) v2 (aw_mach _) (aw_s _ _ (block_ext (ext_trans E1 F2) HSi.out)) (aw_t _ _ (block_ext (ext_trans E1 F2) HTi.out)) ⟨i64_small _ (by decide) (by decide), i64_small _ (by decide) (by decide)⟩).mono ?_
        rw [aw_b1]
        rintro e v3 ⟨rfl, hb⟩
        have F3 : Below w1.heap.size w1 v3 := ext_trans F2 hb
        replace FX := block_ext hb FX
        refine ⟨Or.inr ⟨⟨_, F3⟩, rfl⟩, ?_⟩
        try simp only [Act.put, List.setIfInBounds_toArray, List.set_cons_succ, List.set_cons_zero]
        clear hb
        refine z_reads 5 4 (by kernel_rfl) ⟨⟨_, F3⟩, rfl⟩ ?_
        simp only [List.take_succ_cons, List.take_zero, List.drop_succ_cons, List.drop_zero]
        repeat (go_big_quiet_step (fail))
        refine wpQuiet_nil ?_
        refine z_reads 10 1 (by kernel_rfl) ⟨⟨_, F3⟩, rfl⟩ ?_
        simp only [List.take_succ_cons, List.take_zero, List.drop_succ_cons, List.drop_zero]
        repeat (go_big_quiet_step (fail))
        refine wpQuiet_nil ?_
        refine z_one 11 (by kernel_rfl) ?_
        refine wpOp_at rfl rfl ?_
        refine op_store_rowB 36 _ _ rfl px #[.int .i64 0, .bool false, .int .i64 0] rfl rfl 36 _ FX (by kernel_rfl) rfl (by simp [Value.oneCell']) _ _ F3 hpB ?_
        intro v4 F4 FX2
        refine ⟨Or.inr ⟨⟨_, F4⟩, rfl⟩, ?_⟩
        try simp only [Act.put, List.setIfInBounds_toArray, List.set_cons_succ, List.set_cons_zero]
        refine z_reads 12 1 (by kernel_rfl) ⟨⟨_, F4⟩, rfl⟩ ?_
        simp only [List.take_succ_cons, List.take_zero, List.drop_succ_cons, List.drop_zero]
        repeat (go_big_quiet_step (fail))
        refine wpQuiet_nil ?_
        refine z_done (by kernel_rfl) ?_
        go_wp2_with fail
        go_meet
        exact ⟨rfl, ⟨px, rfl, FX2⟩, rfl, ext_trans E1 F4⟩
    · refine wpOp_at rfl rfl ?_
      refine op_allocB 36 rfl _ zero_fact ?_
      intro px v1 hb hpx FX
      have F1 : Below w1.heap.size w1 v1 := ext_trans F0 hb
      have hpB : w1.heap.size ≤ px := by rw [hpx]; exact F0.size
      refine ⟨Or.inr ⟨⟨_, F1⟩, rfl⟩, ?_⟩
      try simp only [Act.put, List.setIfInBounds_toArray, List.set_cons_succ, List.set_cons_zero]
      clear hb hpx
      refine z_one 3 (by kernel_rfl) ?_
      refine wpOp_at rfl rfl ?_
      go_simp
      refine (at_any 5 0 v1).mono ?_
      rintro e v2 ⟨rfl, hb⟩
      have F2 : Below w1.heap.size w1 v2 := ext_trans F1 hb
      replace FX := block_ext hb FX
      refine ⟨Or.inr ⟨⟨_, F2⟩, rfl⟩, ?_⟩
      try simp only [Act.put, List.setIfInBounds_toArray, List.set_cons_succ, List.set_cons_zero]
      clear hb
      refine z_one 4 (by kernel_rfl) ?_
      refine wpOp_at rfl rfl ?_
      go_simp
      refine (before_any2 m0 none none 0 0 0 0 s0 t0 (some ⟨w.heap.size + 1 + 1, 0, none⟩) (some ⟨w.heap.size + 1 + 1 + 1 + 1, 0, none⟩) 1 1 2 2 2 (5, (false, 0)) v2 (aw_mach _) (aw_s _ _ (block_ext (ext_trans E1 F2) HSi.out)) (aw_t _ _ (block_ext (ext_trans E1 F2) HTi.out)) ⟨i64_small _ (by decide) (by decide), i64_small _ (by decide) (by decide)⟩).mono ?_
      rw [aw_b1]
      rintro e v3 ⟨rfl, hb⟩
      have F3 : Below w1.heap.size w1 v3 := ext_trans F2 hb
      replace FX := block_ext hb FX
      refine ⟨Or.inr ⟨⟨_, F3⟩, rfl⟩, ?_⟩
      try simp only [Act.put, List.setIfInBounds_toArray, List.set_cons_succ, List.set_cons_zero]
      clear hb
      refine z_reads 5 4 (by kernel_rfl) ⟨⟨_, F3⟩, rfl⟩ ?_
      simp only [List.take_succ_cons, List.take_zero, List.drop_succ_cons, List.drop_zero]
      repeat (go_big_quiet_step (fail))
      refine wpQuiet_nil ?_
      refine z_reads 10 1 (by kernel_rfl) ⟨⟨_, F3⟩, rfl⟩ ?_
      simp only [List.take_succ_cons, List.take_zero, List.drop_succ_cons, List.drop_zero]
      repeat (go_big_quiet_step (fail))
      refine wpQuiet_nil ?_
      refine z_one 11 (by kernel_rfl) ?_
      refine wpOp_at rfl rfl ?_
      refine op_store_rowB 36 _ _ rfl px #[.int .i64 0, .bool false, .int .i64 0] rfl rfl 36 _ FX (by kernel_rfl) rfl (by simp [Value.oneCell']) _ _ F3 hpB ?_
      intro v4 F4 FX2
      refine ⟨Or.inr ⟨⟨_, F4⟩, rfl⟩, ?_⟩
      try simp only [Act.put, List.setIfInBounds_toArray, List.set_cons_succ, List.set_cons_zero]
      refine z_reads 12 1 (by kernel_rfl) ⟨⟨_, F4⟩, rfl⟩ ?_
      simp only [List.take_succ_cons, List.take_zero, List.drop_succ_cons, List.drop_zero]
      repeat (go_big_quiet_step (fail))
      refine wpQuiet_nil ?_
      refine z_done (by kernel_rfl) ?_
      go_wp2_with fail
      go_meet
      exact ⟨rfl, ⟨px, rfl, FX2⟩, rfl, ext_trans E1 F4⟩
  case rest =>
    obtain ⟨rfl, ⟨p7, rfl, hp7⟩, rfl, E2⟩ := hcut
    obtain ⟨w2, rfl⟩ : ∃ w2, w2 = wc := ⟨_, rfl⟩
    have Hp7 := Lib.hid hp7
    clear hp7 km0 km1 km2 km3 ks0 ks1 ks2 ks3 ks4 kt0 kt1 kt2 kt3 kt4
    go_wp2_with fail
    have km0 : ∀ q : ExtW w2, q.val.cell? ⟨w.heap.size, 0, none⟩ = some (.int .i64 2) := fun q => xm0 _ (ext_trans E2 q.ext)
    have km1 : ∀ q : ExtW w2, q.val.cell? ⟨w.heap.size, 1, none⟩ = some (.slice none 0 0) := fun q => xm1 _ (ext_trans E2 q.ext)
    have km2 : ∀ q : ExtW w2, q.val.cell? ⟨w.heap.size, 2, none⟩ = some (.int .i64 0) := fun q => xm2 _ (ext_trans E2 q.ext)
    have km3 : ∀ q : ExtW w2, q.val.cell? ⟨w.heap.size, 3, none⟩ = some (.slice none 0 0) := fun q => xm3 _ (ext_trans E2 q.ext)
    have ks0 : ∀ q : ExtW w2, q.val.cell? ⟨w.heap.size + 1 + 1 + 1, 0, none⟩ = some (.slice (some ⟨w.heap.size + 1 + 1, 0, none⟩) 1 1) := fun q => xs0 _ (ext_trans E2 q.ext)
    have ks1 : ∀ q : ExtW w2, q.val.cell? ⟨w.heap.size + 1 + 1 + 1, 1, none⟩ = some (.int .i64 4) := fun q => xs1 _ (ext_trans E2 q.ext)
    have ks2 : ∀ q : ExtW w2, q.val.cell? ⟨w.heap.size + 1 + 1 + 1, 2, none⟩ = some (.int .i64 0) := fun q => xs2 _ (ext_trans E2 q.ext)
    have ks3 : ∀ q : ExtW w2, q.val.cell? ⟨w.heap.size + 1 + 1 + 1, 3, none⟩ = some (.int .i64 0) := fun q => xs3 _ (ext_trans E2 q.ext)
    have ks4 : ∀ q : ExtW w2, q.val.cell? ⟨w.heap.size + 1 + 1 + 1, 4, none⟩ = some (.int .i64 0) := fun q => xs4 _ (ext_trans E2 q.ext)
    have kt0 : ∀ q : ExtW w2, q.val.cell? ⟨w.heap.size + 1 + 1 + 1 + 1 + 1, 0, none⟩ = some (.slice (some ⟨w.heap.size + 1 + 1 + 1 + 1, 0, none⟩) 2 2) := fun q => xt0 _ (ext_trans E2 q.ext)
    have kt1 : ∀ q : ExtW w2, q.val.cell? ⟨w.heap.size + 1 + 1 + 1 + 1 + 1, 1, none⟩ = some (.int .i64 4) := fun q => xt1 _ (ext_trans E2 q.ext)
    have kt2 : ∀ q : ExtW w2, q.val.cell? ⟨w.heap.size + 1 + 1 + 1 + 1 + 1, 2, none⟩ = some (.int .i64 0) := fun q => xt2 _ (ext_trans E2 q.ext)
    have kt3 : ∀ q : ExtW w2, q.val.cell? ⟨w.heap.size + 1 + 1 + 1 + 1 + 1, 3, none⟩ = some (.int .i64 0) := fun q => xt3 _ (ext_trans E2 q.ext)
    have kt4 : ∀ q : ExtW w2, q.val.cell? ⟨w.heap.size + 1 + 1 + 1 + 1 + 1, 4, none⟩ = some (.int .i64 0) := fun q => xt4 _ (ext_trans E2 q.ext)
    go_cut [9, 10, 11] (fun sa sb sc wx => sa = .int .i64 1 ∧ (∃ px, sb = .pointer (some ⟨px, 0, none⟩) ∧ wx.heap[px]? = some (factO (0, false, 0))) ∧ sc = .int .i64 0 ∧ Below W0.heap.size W0 wx ∧ wx.heap[p7]? = some (factO (0, false, 0)))
    case first =>
      clear xm0 xm1 xm2 xm3 xs0 xs1 xs2 xs3 xs4 xt0 xt1 xt2 xt3 xt4
      refine z_start (fun w' => ∃ n : ExtW w2, w' = n.val) (by kernel_rfl) ?_
      obtain ⟨v0, F0, hv0⟩ : ∃ v0, Below w2.heap.size w2 v0 ∧ w2.drew = v0 := ⟨_, ext_drewN (Below.refl _ _) 1, rfl⟩
      rw [hv0]
      clear hv0
      refine z_reads 0 3 (by kernel_rfl) ⟨⟨_, F0⟩, rfl⟩ ?_
      simp only [List.take_succ_cons, List.take_zero, List.drop_succ_cons, List.drop_zero]
      repeat (go_big_quiet_step (fail))
      refine wpQuiet_nil ?_
      refine z_two 3 9 (by kernel_rfl) ?_ ?_
      · refine wpOp_at rfl rfl ?_
        go_simp
        refine (at_any 5 0 v0).mono ?_
        rintro e v1 ⟨rfl, hb⟩
        have F1 : Below w2.heap.size w2 v1 := ext_trans F0 hb
        refine ⟨Or.inr ⟨⟨_, F1⟩, rfl⟩, ?_⟩
        try simp only [Act.put, List.setIfInBounds_toArray, List.set_cons_succ, List.set_cons_zero]
        clear hb
        refine z_two 4 9 (by kernel_rfl) ?_ ?_
        · refine wpOp_at rfl rfl ?_
          go_simp
          refine (before_any2 m0 none none 0 0 0 0 s0 t0 (some ⟨w.heap.size + 1 + 1, 0, none⟩) (some ⟨w.heap.size + 1 + 1 + 1 + 1, 0, none⟩) 1 1 2 2 1 (5, (false, 0)) v1 (aw_mach _) (aw_s _ _ (block_ext (ext_trans E2 F1) HSi.out)) (aw_t _ _ (block_ext (ext_trans E2 F1) HTi.out)) ⟨i64_small _ (by decide) (by decide), i64_small _ (by decide) (by decide)⟩).mono ?_
          rw [aw_b2]
          rintro e v2 ⟨rfl, hb⟩
          have F2 : Below w2.heap.size w2 v2 := ext_trans F1 hb
          refine ⟨Or.inr ⟨⟨_, F2⟩, rfl⟩, ?_⟩
          try simp only [Act.put, List.setIfInBounds_toArray, List.set_cons_succ, List.set_cons_zero]
          clear hb
          refine z_reads 5 4 (by kernel_rfl) ⟨⟨_, F2⟩, rfl⟩ ?_
          simp only [List.take_succ_cons, List.take_zero, List.drop_succ_cons, List.drop_zero]
          repeat (go_big_quiet_step (fail))
          refine wpQuiet_nil ?_
          refine z_one 9 (by kernel_rfl) ?_
          refine wpOp_at rfl rfl ?_
          refine op_allocB 36 rfl _ zero_fact ?_
          intro px v3 hb hpx FX
          have F3 : Below w2.heap.size w2 v3 := ext_trans F2 hb
          have hpB : w2.heap.size ≤ px := by rw [hpx]; exact F2.size
          refine ⟨Or.inr ⟨⟨_, F3⟩, rfl⟩, ?_⟩
          try simp only [Act.put, List.setIfInBounds_toArray, List.set_cons_succ, List.set_cons_zero]
          clear hb hpx
          refine z_reads 10 1 (by kernel_rfl) ⟨⟨_, F3⟩, rfl⟩ ?_
          simp only [List.take_succ_cons, List.take_zero, List.drop_succ_cons, List.drop_zero]
          repeat (go_big_quiet_step (fail))
          refine wpQuiet_nil ?_
          refine z_one 11 (by kernel_rfl) ?_
          refine wpOp_at rfl rfl ?_
          refine op_store_rowB 36 _ _ rfl px #[.int .i64 0, .bool false, .int .i64 0] rfl rfl 36 _ FX (by kernel_rfl) rfl (by simp [Value.oneCell']) _ _ F3 hpB ?_
          intro v4 F4 FX2
          refine ⟨Or.inr ⟨⟨_, F4⟩, rfl⟩, ?_⟩
          try simp only [Act.put, List.setIfInBounds_toArray, List.set_cons_succ, List.set_cons_zero]
          refine z_reads 12 1 (by kernel_rfl) ⟨⟨_, F4⟩, rfl⟩ ?_
          simp only [List.take_succ_cons, List.take_zero, List.drop_succ_cons, List.drop_zero]
          repeat (go_big_quiet_step (fail))
          refine wpQuiet_nil ?_
          refine z_done (by kernel_rfl) ?_
          go_wp2_with fail
          go_meet
          exact ⟨rfl, ⟨px, rfl, FX2⟩, rfl, ext_trans E2 F4, block_ext F4 Hp7.out⟩
        · refine wpOp_at rfl rfl ?_
          refine op_allocB 36 rfl _ zero_fact ?_
          intro px v2 hb hpx FX
          have F2 : Below w2.heap.size w2 v2 := ext_trans F1 hb
          have hpB : w2.heap.size ≤ px := by rw [hpx]; exact F1.size
          refine ⟨Or.inr ⟨⟨_, F2⟩, rfl⟩, ?_⟩
          try simp only [Act.put, List.setIfInBounds_toArray, List.set_cons_succ, List.set_cons_zero]
          clear hb hpx
          refine z_one 4 (by kernel_rfl) ?_
          refine wpOp_at rfl rfl ?_
          go_simp
          refine (before_any2 m0 none none 0 0 0 0 s0 t0 (some ⟨w.heap.size + 1 + 1, 0, none⟩) (some ⟨w.heap.size + 1 + 1 + 1 + 1, 0, none⟩) 1 1 2 2 1 (5, (false, 0)) v2 (aw_mach _) (aw_s _ _ (block_ext (ext_trans E2 F2) HSi.out)) (aw_t _ _ (block_ext (ext_trans E2 F2) HTi.out)) ⟨i64_small _ (by decide) (by decide), i64_small _ (by decide) (by decide)⟩).mono ?_
          rw [aw_b2]
          rintro e v3 ⟨rfl, hb⟩
          have F3 : Below w2.heap.size w2 v3 := ext_trans F2 hb
          replace FX := block_ext hb FX
          refine ⟨Or.inr ⟨⟨_, F3⟩, rfl⟩, ?_⟩
          try simp only [Act.put, List.setIfInBounds_toArray, List.set_cons_succ, List.set_cons_zero]
          clear hb
          refine z_reads 5 4 (by kernel_rfl) ⟨⟨_, F3⟩, rfl⟩ ?_
          simp only [List.take_succ_cons, List.take_zero, List.drop_succ_cons, List.drop_zero]
          repeat (go_big_quiet_step (fail))
          refine wpQuiet_nil ?_
          refine z_reads 10 1 (by kernel_rfl) ⟨⟨_, F3⟩, rfl⟩ ?_
          simp only [List.take_succ_cons, List.take_zero, List.drop_succ_cons, List.drop_zero]
          repeat (go_big_quiet_step (fail))
          refine wpQuiet_nil ?_
          refine z_one 11 (by kernel_rfl) ?_
          refine wpOp_at rfl rfl ?_
          refine op_store_rowB 36 _ _ rfl px #[.int .i64 0, .bool false, .int .i64 0] rfl rfl 36 _ FX (by kernel_rfl) rfl (by simp [Value.oneCell']) _ _ F3 hpB ?_
          intro v4 F4 FX2
          refine ⟨Or.inr ⟨⟨_, F4⟩, rfl⟩, ?_⟩
          try simp only [Act.put, List.setIfInBounds_toArray, List.set_cons_succ, List.set_cons_zero]
          refine z_reads 12 1 (by kernel_rfl) ⟨⟨_, F4⟩, rfl⟩ ?_
          simp only [List.take_succ_cons, List.take_zero, List.drop_succ_cons, List.drop_zero]
          repeat (go_big_quiet_step (fail))
          refine wpQuiet_nil ?_
          refine z_done (by kernel_rfl) ?_
          go_wp2_with fail
          go_meet
          exact ⟨rfl, ⟨px, rfl, FX2⟩, rfl, ext_trans E2 F4, block_ext F4 Hp7.out⟩
      · refine wpOp_at rfl rfl ?_
        refine op_allocB 36 rfl _ zero_fact ?_
        intro px v1 hb hpx FX
        have F1 : Below w2.heap.size w2 v1 := ext_trans F0 hb
        have hpB : w2.heap.size ≤ px := by rw [hpx]; exact F0.size
        refine ⟨Or.inr ⟨⟨_, F1⟩, rfl⟩, ?_⟩
        try simp only [Act.put, List.setIfInBounds_toArray, List.set_cons_succ, List.set_cons_zero]
        clear hb hpx
        refine z_one 3 (by kernel_rfl) ?_
        refine wpOp_at rfl rfl ?_
        go_simp
        refine (at_any 5 0 v1).mono ?_
        rintro e v2 ⟨rfl, hb⟩
        have F2 : Below w2.heap.size w2 v2 := ext_trans F1 hb
        replace FX := block_ext hb FX
        refine ⟨Or.inr ⟨⟨_, F2⟩, rfl⟩, ?_⟩
        try simp only [Act.put, List.setIfInBounds_toArray, List.set_cons_succ, List.set_cons_zero]
        clear hb
        refine z_one 4 (by kernel_rfl) ?_
        refine wpOp_at rfl rfl ?_
        go_simp
        refine (before_any2 m0 none none 0 0 0 0 s0 t0 (some ⟨w.heap.size + 1 + 1, 0, none⟩) (some ⟨w.heap.size + 1 + 1 + 1 + 1, 0, none⟩) 1 1 2 2 1 (5, (false, 0)) v2 (aw_mach _) (aw_s _ _ (block_ext (ext_trans E2 F2) HSi.out)) (aw_t _ _ (block_ext (ext_trans E2 F2) HTi.out)) ⟨i64_small _ (by decide) (by decide), i64_small _ (by decide) (by decide)⟩).mono ?_
        rw [aw_b2]
        rintro e v3 ⟨rfl, hb⟩
        have F3 : Below w2.heap.size w2 v3 := ext_trans F2 hb
        replace FX := block_ext hb FX
        refine ⟨Or.inr ⟨⟨_, F3⟩, rfl⟩, ?_⟩
        try simp only [Act.put, List.setIfInBounds_toArray, List.set_cons_succ, List.set_cons_zero]
        clear hb
        refine z_reads 5 4 (by kernel_rfl) ⟨⟨_, F3⟩, rfl⟩ ?_
        simp only [List.take_succ_cons, List.take_zero, List.drop_succ_cons, List.drop_zero]
        repeat (go_big_quiet_step (fail))
        refine wpQuiet_nil ?_
        refine z_reads 10 1 (by kernel_rfl) ⟨⟨_, F3⟩, rfl⟩ ?_
        simp only [List.take_succ_cons, List.take_zero, List.drop_succ_cons, List.drop_zero]
        repeat (go_big_quiet_step (fail))
        refine wpQuiet_nil ?_
        refine z_one 11 (by kernel_rfl) ?_
        refine wpOp_at rfl rfl ?_
        refine op_store_rowB 36 _ _ rfl px #[.int .i64 0, .bool false, .int .i64 0] rfl rfl 36 _ FX (by kernel_rfl) rfl (by simp [Value.oneCell']) _ _ F3 hpB ?_
        intro v4 F4 FX2
        refine ⟨Or.inr ⟨⟨_, F4⟩, rfl⟩, ?_⟩
        try simp only [Act.put, List.setIfInBounds_toArray, List.set_cons_succ, List.set_cons_zero]
        refine z_reads 12 1 (by kernel_rfl) ⟨⟨_, F4⟩, rfl⟩ ?_
        simp only [List.take_succ_cons, List.take_zero, List.drop_succ_cons, List.drop_zero]
        repeat (go_big_quiet_step (fail))
        refine wpQuiet_nil ?_
        refine z_done (by kernel_rfl) ?_
        go_wp2_with fail
        go_meet
        exact ⟨rfl, ⟨px, rfl, FX2⟩, rfl, ext_trans E2 F4, block_ext F4 Hp7.out⟩
    case rest =>
      obtain ⟨rfl, ⟨p10, rfl, hp10⟩, rfl, E3, gp7⟩ := hcut
      obtain ⟨w3, rfl⟩ : ∃ w3, w3 = wc := ⟨_, rfl⟩
      have Hp10 := Lib.hid hp10
      clear hp10 km0 km1 km2 km3 ks0 ks1 ks2 ks3 ks4 kt0 kt1 kt2 kt3 kt4 Hp7
      have Hp7 := Lib.hid gp7
      clear gp7
      go_wp2_with fail
      have km0 : ∀ q : ExtW w3, q.val.cell? ⟨w.heap.size, 0, none⟩ = some (.int .i64 2) := fun q => xm0 _ (ext_trans E3 q.ext)
      have km1 : ∀ q : ExtW w3, q.val.cell? ⟨w.heap.size, 1, none⟩ = some (.slice none 0 0) := fun q => xm1 _ (ext_trans E3 q.ext)
      have km2 : ∀ q : ExtW w3, q.val.cell? ⟨w.heap.size, 2, none⟩ = some (.int .i64 0) := fun q => xm2 _ (ext_trans E3 q.ext)
      have km3 : ∀ q : ExtW w3, q.val.cell? ⟨w.heap.size, 3, none⟩ = some (.slice none 0 0) := fun q => xm3 _ (ext_trans E3 q.ext)
      have ks0 : ∀ q : ExtW w3, q.val.cell? ⟨w.heap.size + 1 + 1 + 1, 0, none⟩ = some (.slice (some ⟨w.heap.size + 1 + 1, 0, none⟩) 1 1) := fun q => xs0 _ (ext_trans E3 q.ext)
      have ks1 : ∀ q : ExtW w3, q.val.cell? ⟨w.heap.size + 1 + 1 + 1, 1, none⟩ = some (.int .i64 4) := fun q => xs1 _ (ext_trans E3 q.ext)
      have ks2 : ∀ q : ExtW w3, q.val.cell? ⟨w.heap.size + 1 + 1 + 1, 2, none⟩ = some (.int .i64 0) := fun q => xs2 _ (ext_trans E3 q.ext)
      have ks3 : ∀ q : ExtW w3, q.val.cell? ⟨w.heap.size + 1 + 1 + 1, 3, none⟩ = some (.int .i64 0) := fun q => xs3 _ (ext_trans E3 q.ext)
      have ks4 : ∀ q : ExtW w3, q.val.cell? ⟨w.heap.size + 1 + 1 + 1, 4, none⟩ = some (.int .i64 0) := fun q => xs4 _ (ext_trans E3 q.ext)
      have kt0 : ∀ q : ExtW w3, q.val.cell? ⟨w.heap.size + 1 + 1 + 1 + 1 + 1, 0, none⟩ = some (.slice (some ⟨w.heap.size + 1 + 1 + 1 + 1, 0, none⟩) 2 2) := fun q => xt0 _ (ext_trans E3 q.ext)
      have kt1 : ∀ q : ExtW w3, q.val.cell? ⟨w.heap.size + 1 + 1 + 1 + 1 + 1, 1, none⟩ = some (.int .i64 4) := fun q => xt1 _ (ext_trans E3 q.ext)
      have kt2 : ∀ q : ExtW w3, q.val.cell? ⟨w.heap.size + 1 + 1 + 1 + 1 + 1, 2, none⟩ = some (.int .i64 0) := fun q => xt2 _ (ext_trans E3 q.ext)
      have kt3 : ∀ q : ExtW w3, q.val.cell? ⟨w.heap.size + 1 + 1 + 1 + 1 + 1, 3, none⟩ = some (.int .i64 0) := fun q => xt3 _ (ext_trans E3 q.ext)
      have kt4 : ∀ q : ExtW w3, q.val.cell? ⟨w.heap.size + 1 + 1 + 1 + 1 + 1, 4, none⟩ = some (.int .i64 0) := fun q => xt4 _ (ext_trans E3 q.ext)
      go_cut [12, 13, 14] (fun sa sb sc wx => sa = .int .i64 3 ∧ (∃ px, sb = .pointer (some ⟨px, 0, none⟩) ∧ wx.heap[px]? = some (factO (4, false, 1))) ∧ sc = .int .i64 0 ∧ Below W0.heap.size W0 wx ∧ wx.heap[p7]? = some (factO (0, false, 0)) ∧ wx.heap[p10]? = some (factO (0, false, 0)))
      case first =>
        clear xm0 xm1 xm2 xm3 xs0 xs1 xs2 xs3 xs4 xt0 xt1 xt2 xt3 xt4
        refine z_start (fun w' => ∃ n : ExtW w3, w' = n.val) (by kernel_rfl) ?_
        obtain ⟨v0, F0, hv0⟩ : ∃ v0, Below w3.heap.size w3 v0 ∧ w3.drew = v0 := ⟨_, ext_drewN (Below.refl _ _) 1, rfl⟩
        rw [hv0]
        clear hv0
        refine z_reads 0 3 (by kernel_rfl) ⟨⟨_, F0⟩, rfl⟩ ?_
        simp only [List.take_succ_cons, List.take_zero, List.drop_succ_cons, List.drop_zero]
        repeat (go_big_quiet_step (fail))
        refine wpQuiet_nil ?_
        refine z_two 3 9 (by kernel_rfl) ?_ ?_
        · refine wpOp_at rfl rfl ?_
          go_simp
          refine (at_any 4 1 v0).mono ?_
          rintro e v1 ⟨rfl, hb⟩
          have F1 : Below w3.heap.size w3 v1 := ext_trans F0 hb
          refine ⟨Or.inr ⟨⟨_, F1⟩, rfl⟩, ?_⟩
          try simp only [Act.put, List.setIfInBounds_toArray, List.set_cons_succ, List.set_cons_zero]
          clear hb
          refine z_two 4 9 (by kernel_rfl) ?_ ?_
          · refine wpOp_at rfl rfl ?_
            go_simp
            refine (before_any2 m0 none none 0 0 0 0 s0 t0 (some ⟨w.heap.size + 1 + 1, 0, none⟩) (some ⟨w.heap.size + 1 + 1 + 1 + 1, 0, none⟩) 1 1 2 2 1 (4, (false, 1)) v1 (aw_mach _) (aw_s _ _ (block_ext (ext_trans E3 F1) HSi.out)) (aw_t _ _ (block_ext (ext_trans E3 F1) HTi.out)) ⟨i64_small _ (by decide) (by decide), i64_small _ (by decide) (by decide)⟩).mono ?_
            rw [aw_b3]
            rintro e v2 ⟨rfl, hb⟩
            have F2 : Below w3.heap.size w3 v2 := ext_trans F1 hb
            refine ⟨Or.inr ⟨⟨_, F2⟩, rfl⟩, ?_⟩
            try simp only [Act.put, List.setIfInBounds_toArray, List.set_cons_succ, List.set_cons_zero]
            clear hb
            refine z_reads 5 4 (by kernel_rfl) ⟨⟨_, F2⟩, rfl⟩ ?_
            simp only [List.take_succ_cons, List.take_zero, List.drop_succ_cons, List.drop_zero]
            repeat (go_big_quiet_step (fail))
            refine wpQuiet_nil ?_
            refine z_one 9 (by kernel_rfl) ?_
            refine wpOp_at rfl rfl ?_
            refine op_allocB 36 rfl _ zero_fact ?_
            intro px v3 hb hpx FX
            have F3 : Below w3.heap.size w3 v3 := ext_trans F2 hb
            have hpB : w3.heap.size ≤ px := by rw [hpx]; exact F2.size
            refine ⟨Or.inr ⟨⟨_, F3⟩, rfl⟩, ?_⟩
            try simp only [Act.put, List.setIfInBounds_toArray, List.set_cons_succ, List.set_cons_zero]
            clear hb hpx
            refine z_reads 10 1 (by kernel_rfl) ⟨⟨_, F3⟩, rfl⟩ ?_
            simp only [List.take_succ_cons, List.take_zero, List.drop_succ_cons, List.drop_zero]
            repeat (go_big_quiet_step (fail))
            refine wpQuiet_nil ?_
            refine z_one 11 (by kernel_rfl) ?_
            refine wpOp_at rfl rfl ?_
            refine op_store_rowB 36 _ _ rfl px #[.int .i64 4, .bool false, .int .i64 1] rfl rfl 36 _ FX (by kernel_rfl) rfl (by simp [Value.oneCell']) _ _ F3 hpB ?_
            intro v4 F4 FX2
            refine ⟨Or.inr ⟨⟨_, F4⟩, rfl⟩, ?_⟩
            try simp only [Act.put, List.setIfInBounds_toArray, List.set_cons_succ, List.set_cons_zero]
            refine z_reads 12 1 (by kernel_rfl) ⟨⟨_, F4⟩, rfl⟩ ?_
            simp only [List.take_succ_cons, List.take_zero, List.drop_succ_cons, List.drop_zero]
            repeat (go_big_quiet_step (fail))
            refine wpQuiet_nil ?_
            refine z_done (by kernel_rfl) ?_
            go_wp2_with fail
            go_meet
            exact ⟨rfl, ⟨px, rfl, FX2⟩, rfl, ext_trans E3 F4, block_ext F4 Hp7.out, block_ext F4 Hp10.out⟩
          · refine wpOp_at rfl rfl ?_
            refine op_allocB 36 rfl _ zero_fact ?_
            intro px v2 hb hpx FX
            have F2 : Below w3.heap.size w3 v2 := ext_trans F1 hb
            have hpB : w3.heap.size ≤ px := by rw [hpx]; exact F1.size
            refine ⟨Or.inr ⟨⟨_, F2⟩, rfl⟩, ?_⟩
            try simp only [Act.put, List.setIfInBounds_toArray, List.set_cons_succ, List.set_cons_zero]
            clear hb hpx
            refine z_one 4 (by kernel_rfl) ?_
            refine wpOp_at rfl rfl ?_
            go_simp
            refine (before_any2 m0 none none 0 0 0 0 s0 t0 (some ⟨w.heap.size + 1 + 1, 0, none⟩) (some ⟨w.heap.size + 1 + 1 + 1 + 1, 0, none⟩) 1 1 2 2 1 (4, (false, 1)) v2 (aw_mach _) (aw_s _ _ (block_ext (ext_trans E3 F2) HSi.out)) (aw_t _ _ (block_ext (ext_trans E3 F2) HTi.out)) ⟨i64_small _ (by decide) (by decide), i64_small _ (by decide) (by decide)⟩).mono ?_
            rw [aw_b3]
            rintro e v3 ⟨rfl, hb⟩
            have F3 : Below w3.heap.size w3 v3 := ext_trans F2 hb
            replace FX := block_ext hb FX
            refine ⟨Or.inr ⟨⟨_, F3⟩, rfl⟩, ?_⟩
            try simp only [Act.put, List.setIfInBounds_toArray, List.set_cons_succ, List.set_cons_zero]
            clear hb
            refine z_reads 5 4 (by kernel_rfl) ⟨⟨_, F3⟩, rfl⟩ ?_
            simp only [List.take_succ_cons, List.take_zero, List.drop_succ_cons, List.drop_zero]
            repeat (go_big_quiet_step (fail))
            refine wpQuiet_nil ?_
            refine z_reads 10 1 (by kernel_rfl) ⟨⟨_, F3⟩, rfl⟩ ?_
            simp only [List.take_succ_cons, List.take_zero, List.drop_succ_cons, List.drop_zero]
            repeat (go_big_quiet_step (fail))
            refine wpQuiet_nil ?_
            refine z_one 11 (by kernel_rfl) ?_
            refine wpOp_at rfl rfl ?_
            refine op_store_rowB 36 _ _ rfl px #[.int .i64 4, .bool false, .int .i64 1] rfl rfl 36 _ FX (by kernel_rfl) rfl (by simp [Value.oneCell']) _ _ F3 hpB ?_
            intro v4 F4 FX2
            refine ⟨Or.inr ⟨⟨_, F4⟩, rfl⟩, ?_⟩
            try simp only [Act.put, List.setIfInBounds_toArray, List.set_cons_succ, List.set_cons_zero]
            refine z_reads 12 1 (by kernel_rfl) ⟨⟨_, F4⟩, rfl⟩ ?_
            simp only [List.take_succ_cons, List.take_zero, List.drop_succ_cons, List.drop_zero]
            repeat (go_big_quiet_step (fail))
            refine wpQuiet_nil ?_
            refine z_done (by kernel_rfl) ?_
            go_wp2_with fail
            go_meet
            exact ⟨rfl, ⟨px, rfl, FX2⟩, rfl, ext_trans E3 F4, block_ext F4 Hp7.out, block_ext F4 Hp10.out⟩
        · refine wpOp_at rfl rfl ?_
          refine op_allocB 36 rfl _ zero_fact ?_
          intro px v1 hb hpx FX
          have F1 : Below w3.heap.size w3 v1 := ext_trans F0 hb
          have hpB : w3.heap.size ≤ px := by rw [hpx]; exact F0.size
          refine ⟨Or.inr ⟨⟨_, F1⟩, rfl⟩, ?_⟩
          try simp only [Act.put, List.setIfInBounds_toArray, List.set_cons_succ, List.set_cons_zero]
          clear hb hpx
          refine z_one 3 (by kernel_rfl) ?_
          refine wpOp_at rfl rfl ?_
          go_simp
          refine (at_any 4 1 v1).mono ?_
          rintro e v2 ⟨rfl, hb⟩
          have F2 : Below w3.heap.size w3 v2 := ext_trans F1 hb
          replace FX := block_ext hb FX
          refine ⟨Or.inr ⟨⟨_, F2⟩, rfl⟩, ?_⟩
          try simp only [Act.put, List.setIfInBounds_toArray, List.set_cons_succ, List.set_cons_zero]
          clear hb
          refine z_one 4 (by kernel_rfl) ?_
          refine wpOp_at rfl rfl ?_
          go_simp
          refine (before_any2 m0 none none 0 0 0 0 s0 t0 (some ⟨w.heap.size + 1 + 1, 0, none⟩) (some ⟨w.heap.size + 1 + 1 + 1 + 1, 0, none⟩) 1 1 2 2 1 (4, (false, 1)) v2 (aw_mach _) (aw_s _ _ (block_ext (ext_trans E3 F2) HSi.out)) (aw_t _ _ (block_ext (ext_trans E3 F2) HTi.out)) ⟨i64_small _ (by decide) (by decide), i64_small _ (by decide) (by decide)⟩).mono ?_
          rw [aw_b3]
          rintro e v3 ⟨rfl, hb⟩
          have F3 : Below w3.heap.size w3 v3 := ext_trans F2 hb
          replace FX := block_ext hb FX
          refine ⟨Or.inr ⟨⟨_, F3⟩, rfl⟩, ?_⟩
          try simp only [Act.put, List.setIfInBounds_toArray, List.set_cons_succ, List.set_cons_zero]
          clear hb
          refine z_reads 5 4 (by kernel_rfl) ⟨⟨_, F3⟩, rfl⟩ ?_
          simp only [List.take_succ_cons, List.take_zero, List.drop_succ_cons, List.drop_zero]
          repeat (go_big_quiet_step (fail))
          refine wpQuiet_nil ?_
          refine z_reads 10 1 (by kernel_rfl) ⟨⟨_, F3⟩, rfl⟩ ?_
          simp only [List.take_succ_cons, List.take_zero, List.drop_succ_cons, List.drop_zero]
          repeat (go_big_quiet_step (fail))
          refine wpQuiet_nil ?_
          refine z_one 11 (by kernel_rfl) ?_
          refine wpOp_at rfl rfl ?_
          refine op_store_rowB 36 _ _ rfl px #[.int .i64 4, .bool false, .int .i64 1] rfl rfl 36 _ FX (by kernel_rfl) rfl (by simp [Value.oneCell']) _ _ F3 hpB ?_
          intro v4 F4 FX2
          refine ⟨Or.inr ⟨⟨_, F4⟩, rfl⟩, ?_⟩
          try simp only [Act.put, List.setIfInBounds_toArray, List.set_cons_succ, List.set_cons_zero]
          refine z_reads 12 1 (by kernel_rfl) ⟨⟨_, F4⟩, rfl⟩ ?_
          simp only [List.take_succ_cons, List.take_zero, List.drop_succ_cons, List.drop_zero]
          repeat (go_big_quiet_step (fail))
          refine wpQuiet_nil ?_
          refine z_done (by kernel_rfl) ?_
          go_wp2_with fail
          go_meet
          exact ⟨rfl, ⟨px, rfl, FX2⟩, rfl, ext_trans E3 F4, block_ext F4 Hp7.out, block_ext F4 Hp10.out⟩
      case rest =>
        obtain ⟨rfl, ⟨p13, rfl, hp13⟩, rfl, E4, gp7, gp10⟩ := hcut
        obtain ⟨w4, rfl⟩ : ∃ w4, w4 = wc := ⟨_, rfl⟩
        have Hp13 := Lib.hid hp13
        clear hp13 km0 km1 km2 km3 ks0 ks1 ks2 ks3 ks4 kt0 kt1 kt2 kt3 kt4 Hp7 Hp10
        have Hp7 := Lib.hid gp7
        clear gp7
        have Hp10 := Lib.hid gp10
        clear gp10
        clear xm0 xm1 xm2 xm3 xs0 xs1 xs2 xs3 xs4 xt0 xt1 xt2 xt3 xt4
        have c70 : ∀ q : ExtW w4, q.val.cell? ⟨p7, 0, none⟩ = some (.int .i64 0) := fun q => by rw [cell_of_row _ _ _ _ _ _ (block_ext q.ext Hp7.out)]; rfl
        have c71 : ∀ q : ExtW w4, q.val.cell? ⟨p7, 1, none⟩ = some (.bool false) := fun q => by rw [cell_of_row _ _ _ _ _ _ (block_ext q.ext Hp7.out)]; rfl
        have c72 : ∀ q : ExtW w4, q.val.cell? ⟨p7, 2, none⟩ = some (.int .i64 0) := fun q => by rw [cell_of_row _ _ _ _ _ _ (block_ext q.ext Hp7.out)]; rfl
        have c130 : ∀ q : ExtW w4, q.val.cell? ⟨p13, 0, none⟩ = some (.int .i64 4) := fun q => by rw [cell_of_row _ _ _ _ _ _ (block_ext q.ext Hp13.out)]; rfl
        have c131 : ∀ q : ExtW w4, q.val.cell? ⟨p13, 1, none⟩ = some (.bool false) := fun q => by rw [cell_of_row _ _ _ _ _ _ (block_ext q.ext Hp13.out)]; rfl
        have c132 : ∀ q : ExtW w4, q.val.cell? ⟨p13, 2, none⟩ = some (.int .i64 1) := fun q => by rw [cell_of_row _ _ _ _ _ _ (block_ext q.ext Hp13.out)]; rfl
        have q1 : ∀ w, (binOp .eql 36 (.agg #[.int .i64 0, .bool false, .int .i64 0]) (.agg #[.int .i64 0, .bool false, .int .i64 0])).run Tryz.prog w = .ok (.bool true) w := fun w => eql_fact w (0, false, 0) (0, false, 0)
        have q2 : ∀ w, (binOp .eql 36 (.agg #[.int .i64 4, .bool false, .int .i64 1]) (.agg #[.int .i64 4, .bool false, .int .i64 1])).run Tryz.prog w = .ok (.bool true) w := fun w => eql_fact w (4, false, 1) (4, false, 1)
        go_wp2_with fail
        refine region_ext (by kernel_rfl) (by kernel_rfl) ?_
        repeat (go_big_quiet_step (first | (go_at_call 11; exact quiet_ext (at_any _ _ _))))
        refine wpQuiet_nil ?_
        rintro _ ⟨q, rfl⟩
        have HQ := Lib.hid (ext_trans (ext_trans HW0.out E4) q.ext)
        generalize q.val = w5 at *
        go_wp2
        go_ret
        exact ⟨rfl, HQ.out⟩
end
end Go.Proofs.YtfpbfdkjcmlimaaGreat
