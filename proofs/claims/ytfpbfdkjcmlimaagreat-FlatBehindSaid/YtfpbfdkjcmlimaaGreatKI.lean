/-
  (walker).inserted. (Printed by gen_inserted.py.)
-/
import Derived.Test.YtfpbfdkjcmlimaaGreatKH
import Derived.Test.YtfpbfdkjcmlimaaGreatKN
import Derived.Test.YtfpbfdkjcmlimaaGreatFT
namespace Go.Proofs.YtfpbfdkjcmlimaaGreat
set_option linter.unusedSimpArgs false
set_option linter.unusedVariables false
set_option linter.unusedSectionVars false
set_option maxRecDepth 100000
set_option maxHeartbeats 40000000
section
open Go.RowKit
theorem size_loc : (Tryz.prog.info? 34).map (·.size) = some 2 := by kernel_rfl
theorem size_ins : (Tryz.prog.info? 52).map (·.size) = some 8 := by kernel_rfl
def stepIn (p1 p2 : Bool × Int) (K : Fct → Bool) : Fct → Bool := fun x => if sameLoc x.2 p2 then K (x.1, p1) else K x
theorem sameLoc_iff (p q : Bool × Int) : sameLoc p q = true ↔ p = q := by
  obtain ⟨a, b⟩ := p
  obtain ⟨c, d⟩ := q
  simp [sameLoc]
open Classical in
noncomputable def atV (K : Fct → Bool) (p : Bool × Int) (fe : Int) : Int := if ∃ y : Fct, K y = true ∧ y.2 = p then fe else failV fe 14
def CQ (W : World) (l : List (Nat × Nat × Bool × Int)) (w' : World) : Prop := Below W.heap.size W w' ∧ ∀ t ∈ l, w'.cell? ⟨t.1, t.2.1, none⟩ = some (.bool t.2.2.1) ∧ w'.cell? ⟨t.1, t.2.1 + 1, none⟩ = some (.int .i64 t.2.2.2)
theorem CQ.ext {W w' w'' : World} {l : List (Nat × Nat × Bool × Int)} (h : CQ W l w') (hb : Below w'.heap.size w' w'') : CQ W l w'' := ⟨ext_trans h.1 hb, fun t ht => ⟨cell_ext hb (h.2 t ht).1, cell_ext hb (h.2 t ht).2⟩⟩
theorem CQ.cons {W w' : World} {l : List (Nat × Nat × Bool × Int)} {q u : Nat} {p : Bool × Int} (h : CQ W l w') (h0 : w'.cell? ⟨q, u, none⟩ = some (.bool p.1)) (h1 : w'.cell? ⟨q, u + 1, none⟩ = some (.int .i64 p.2)) : CQ W ((q, u, p) :: l) w' :=
  ⟨h.1, fun t ht => by
    rcases List.mem_cons.1 ht with rfl | ht
    · exact ⟨h0, h1⟩
    · exact h.2 t ht⟩
theorem CQ.tail {W w' : World} {t : Nat × Nat × Bool × Int} {l : List (Nat × Nat × Bool × Int)} (h : CQ W (t :: l) w') : CQ W l w' := ⟨h.1, fun t' ht => h.2 t' (List.mem_cons_of_mem _ ht)⟩
theorem CQ.setRow {W w' : World} {l : List (Nat × Nat × Bool × Int)} {p : Nat} {cs : Array Value} (h : CQ W l w') (hp : W.heap.size ≤ p) (hn : ∀ t ∈ l, t.1 ≠ p) : CQ W l (w'.setRow p cs) := by
  have hc : ∀ (b o : Nat), b ≠ p → (w'.setRow p cs).cell? ⟨b, o, none⟩ = w'.cell? ⟨b, o, none⟩ := fun b o hb => by
    unfold World.cell?
    simp only [setRow_other _ _ _ _ hb]
  exact ⟨below_setRow h.1 hp _, fun t ht => ⟨(hc _ _ (hn t ht)).trans (h.2 t ht).1, (hc _ _ (hn t ht)).trans (h.2 t ht).2⟩⟩
theorem z_three {P : Program} {l : List Oper} {S : World → Prop} {Q : Exit → Act → World → Prop} {fuel : Nat} {listed : Array Bool} {a : Act} {w : World} (e e' e'' : Nat) (hr : (Region.ready .any l.toArray listed == [e, e', e'']) = true)
    (h : wpOp P l.toArray (NoPanic Q) e (fun a' w' => (aloneB l e = true ∨ S w') ∧ wpAnyZ P l (NoPanic Q) S fuel (listed.setIfInBounds e true) a' w') a w)
    (h' : wpOp P l.toArray (NoPanic Q) e' (fun a' w' => (aloneB l e' = true ∨ S w') ∧ wpAnyZ P l (NoPanic Q) S fuel (listed.setIfInBounds e' true) a' w') a w)
    (h'' : wpOp P l.toArray (NoPanic Q) e'' (fun a' w' => (aloneB l e'' = true ∨ S w') ∧ wpAnyZ P l (NoPanic Q) S fuel (listed.setIfInBounds e'' true) a' w') a w) : wpAnyZ P l (NoPanic Q) S (fuel + 1) listed a w := by
  have hr := eq_of_beq hr
  refine ⟨fun h0 => ?_, fun i hi => ?_⟩
  · rw [hr] at h0; cases h0
  · rw [hr] at hi
    simp only [List.mem_cons, List.not_mem_nil, or_false] at hi
    rcases hi with rfl | rfl | rfl
    · exact h
    · exact h'
    · exact h''
theorem insertedW_any (m : MachD) (a1 a2 : Option Addr) (n1 c1 n2 c2 : Nat) (U : Univ) (hU : U.ok) (g b : Nat) (K : Fct → Bool) (fe : Int) (r : InsR) (p1 p2 : Bool × Int) (w : World) (hm : MachOK w m a1 n1 c1 a2 n2 c2) (hok : InsOK w r) (hkd : hasV r.d.op = 3 ∨ hasV r.d.op = 18 ∨ hasV r.d.op = 17) (hp1 : readsL m r.d = [p1]) (hp2 : writesL m r.d = [p2]) (hw : WS m a1 n1 c1 a2 n2 c2 U g b K fe w) (hP : p2 ∈ U.P) :
    Calls Tryz.prog 32 #[.pointer (some ⟨g, 0, none⟩), insVR r] w fun e w' => e = .returned (.tuple #[]) ∧ WS m a1 n1 c1 a2 n2 c2 U g b (stepIn p1 p2 K) (atV K p1 fe) w' ∧ Chg (WT g b) w w' := by
  have HM := Lib.hid hm
  have HOK := Lib.hid hok
  have HKD := Lib.hid hkd
  have HP1 := Lib.hid hp1
  have HP2 := Lib.hid hp2
  have hlt := hw.lt
  clear hm hok hp1 hp2 hkd
  obtain ⟨fe2, hfe2⟩ : ∃ x, x = atV K p1 fe := ⟨_, rfl⟩
  rw [← hfe2]
  have HFE := Lib.hid hfe2
  clear hfe2
  go_enter Tryz.func32, Tryz.ntmps32
  go_upto_region 1 with (fail)
  obtain ⟨W, hW⟩ : ∃ W, W = w.alloc (insO r.d r.aa r.na r.ca) := ⟨_, rfl⟩
  have hr1 : W.heap[w.heap.size]? = some (insO r.d r.aa r.na r.ca) := by rw [hW]; exact heap_alloc_new _ _
  have hB : Below w.heap.size w W := by rw [hW]; exact ext_alloc _ _
  have hsz : W.heap.size = w.heap.size + 1 := by rw [hW]; simp
  rw [← hW]
  have HI := Lib.hid hr1
  have HB := Lib.hid hB
  have HSZ := Lib.hid hsz
  have HW := Lib.hid (hw.ext hB)
  clear hW hr1 hB hsz hw
  have C1 := Lib.hid HW.out.cells.2.1
  have C2 := Lib.hid HW.out.cells.2.2.1
  have C3 := Lib.hid HW.out.cells.2.2.2.1
  have C4 := Lib.hid HW.out.cells.2.2.2.2.1
  have hqq := fun w b y b' y' => eql_loc w b b' y y'
  go_cut [4, 5] (fun s4 s5 wx => ∃ p4 p5, s4 = .pointer (some ⟨p4, 0, none⟩) ∧ s5 = .pointer (some ⟨p5, 0, none⟩) ∧ W.heap.size ≤ p4 ∧ W.heap.size ≤ p5 ∧ p4 ≠ p5 ∧ wx.heap[p4]? = some (locO p1) ∧ wx.heap[p5]? = some (locO p2) ∧ Below W.heap.size W wx)
  case first =>
    have k0 : ∀ n : ClsW (CQ W []), n.val.cell? ⟨g, 1, none⟩ = some (.int .i64 m.regs) := fun n => cell_ext n.prop.1 C1.out
    have k1 : ∀ n : ClsW (CQ W []), n.val.cell? ⟨g, 2, none⟩ = some (.slice a1 n1 c1) := fun n => cell_ext n.prop.1 C2.out
    have k2 : ∀ n : ClsW (CQ W []), n.val.cell? ⟨g, 3, none⟩ = some (.int .i64 m.ret) := fun n => cell_ext n.prop.1 C3.out
    have k3 : ∀ n : ClsW (CQ W []), n.val.cell? ⟨g, 4, none⟩ = some (.slice a2 n2 c2) := fun n => cell_ext n.prop.1 C4.out
    have k4 : ∀ w', (∃ n : ClsW (CQ W []), w' = n.val) → w'.heap[w.heap.size]? = some (insO r.d r.aa r.na r.ca) := fun w' ⟨n, e⟩ => by rw [e]; exact block_ext n.prop.1 HI.out
    have hne : Nonempty (ClsW (CQ W [])) := ⟨⟨W, Below.refl _ _, fun t ht => by cases ht⟩⟩
    refine z_start (fun w' => ∃ n : ClsW (CQ W []), w' = n.val) (by kernel_rfl) ?_
    obtain ⟨w0, Q0, hw0⟩ : ∃ w0, CQ W [] w0 ∧ W.drew = w0 := ⟨_, ⟨ext_drewN (Below.refl _ _) 1, fun t ht => by cases ht⟩, rfl⟩
    rw [hw0]
    clear hw0
    refine z_reads 0 5 (by kernel_rfl) ⟨⟨_, Q0⟩, rfl⟩ ?_
    simp only [List.take_succ_cons, List.take_zero, List.drop_succ_cons, List.drop_zero]
    repeat (first
      | (refine wpQuiet_load_row (o := ⟨some 13, .load 52 _, _, _, _, _⟩) (by rfl) 52 _ rfl w.heap.size rfl 52 _ (0, 0) _ k4 Tryz.underlying52 rfl size_ins ?_; simp only [Act.put, List.setIfInBounds_toArray, List.set_cons_succ, List.set_cons_zero])
      | go_big_quiet_step (fail))
    refine wpQuiet_nil ?_
    refine z_reads 8 5 (by kernel_rfl) ⟨⟨_, Q0⟩, rfl⟩ ?_
    simp only [List.take_succ_cons, List.take_zero, List.drop_succ_cons, List.drop_zero]
    repeat (first
      | (refine wpQuiet_load_row (o := ⟨some 21, .load 52 _, _, _, _, _⟩) (by rfl) 52 _ rfl w.heap.size rfl 52 _ (0, 0) _ k4 Tryz.underlying52 rfl size_ins ?_; simp only [Act.put, List.setIfInBounds_toArray, List.set_cons_succ, List.set_cons_zero])
      | go_big_quiet_step (fail))
    refine wpQuiet_nil ?_
    clear k0 k1 k2 k3 k4 hne
    refine z_three 5 16 17 (by kernel_rfl) ?_ ?_ ?_
    · refine wpOp_at rfl rfl ?_
      go_simp
      refine (reads_new m r.d a1 a2 r.aa n1 c1 n2 c2 r.na r.ca w0 ((HM.out.ext (ext_trans HB.out Q0.1)).1) HM.out.2.2.2.2.1 HM.out.2.2.1 HOK.out.2.2.2.2.1 HOK.out.2.2.2.2.2.1 HOK.out.2.2.2.2.2.2.2.2 HKD.out).mono ?_
      rintro e w1 ⟨la1, lc1, rfl, ⟨hl, hf⟩, hb⟩
      rw [HP1.out] at hl ⊢
      obtain ⟨p', q1, u1, e0, rfl, d0, d1⟩ := locs_cells hl (k := 0) (by simp)
      obtain rfl : p1 = p' := by simpa using e0
      simp only [Nat.zero_mul, Nat.add_zero, List.length_cons, List.length_nil, Nat.zero_add] at d0 d1 ⊢
      have f1 : w0.heap.size ≤ q1 := hf q1 u1 none rfl
      have g1 : q1 < w1.heap.size := World.block_lt_of_cell? _ _ d0
      have s1 := hb.size
      refine ⟨Or.inr ⟨⟨_, Q0.ext hb⟩, rfl⟩, ?_⟩
      try simp only [Act.put, List.setIfInBounds_toArray, List.set_cons_succ, List.set_cons_zero]
      have Q1 : CQ W [(q1, u1, p1)] w1 := CQ.cons (Q0.ext hb) d0 d1
      refine z_mono (S' := fun w' => ∃ n : ClsW (CQ W [(q1, u1, p1)]), w' = n.val) (fun w' ⟨n, e⟩ => ⟨⟨w', by rw [e]; exact CQ.tail n.prop⟩, rfl⟩) ?_
      have hne : Nonempty (ClsW (CQ W [(q1, u1, p1)])) := ⟨⟨_, Q1⟩⟩
      have r0 : ∀ n : ClsW (CQ W [(q1, u1, p1)]), n.val.cell? ⟨q1, u1, none⟩ = some (.bool p1.1) := fun n => (n.prop.2 _ (List.mem_cons_self ..)).1
      have r1 : ∀ n : ClsW (CQ W [(q1, u1, p1)]), n.val.cell? ⟨q1, u1 + 1, none⟩ = some (.int .i64 p1.2) := fun n => (n.prop.2 _ (List.mem_cons_self ..)).2
      clear hb hl hf d0 d1 e0
      refine z_reads 6 2 (by kernel_rfl) ⟨⟨_, Q1⟩, rfl⟩ ?_
      simp only [List.take_succ_cons, List.take_zero, List.drop_succ_cons, List.drop_zero]
      repeat (go_big_quiet_step (fail))
      refine wpQuiet_nil ?_
      refine z_three 13 16 17 (by kernel_rfl) ?_ ?_ ?_
      · refine wpOp_at rfl rfl ?_
        go_simp
        refine (writes_new m r.d a1 a2 r.aa n1 c1 n2 c2 r.na r.ca w1 HM.out.2.2.2.2.2.2.2 HOK.out.2.2.2.1 HKD.out).mono ?_
        rintro e w2 ⟨la2, lc2, rfl, ⟨hl, hf⟩, hb⟩
        rw [HP2.out] at hl ⊢
        obtain ⟨p', q2, u2, e0, rfl, d0, d1⟩ := locs_cells hl (k := 0) (by simp)
        obtain rfl : p2 = p' := by simpa using e0
        simp only [Nat.zero_mul, Nat.add_zero, List.length_cons, List.length_nil, Nat.zero_add] at d0 d1 ⊢
        have f2 : w1.heap.size ≤ q2 := hf q2 u2 none rfl
        have g2 : q2 < w2.heap.size := World.block_lt_of_cell? _ _ d0
        have s2 := hb.size
        refine ⟨Or.inr ⟨⟨_, Q1.ext hb⟩, rfl⟩, ?_⟩
        try simp only [Act.put, List.setIfInBounds_toArray, List.set_cons_succ, List.set_cons_zero]
        have Q2 : CQ W [(q2, u2, p2), (q1, u1, p1)] w2 := CQ.cons (Q1.ext hb) d0 d1
        refine z_mono (S' := fun w' => ∃ n : ClsW (CQ W [(q2, u2, p2), (q1, u1, p1)]), w' = n.val) (fun w' ⟨n, e⟩ => ⟨⟨w', by rw [e]; exact CQ.tail n.prop⟩, rfl⟩) ?_
        have hne : Nonempty (ClsW (CQ W [(q2, u2, p2), (q1, u1, p1)])) := ⟨⟨_, Q2⟩⟩
        have r0 : ∀ n : ClsW (CQ W [(q2, u2, p2), (q1, u1, p1)]), n.val.cell? ⟨q2, u2, none⟩ = some (.bool p2.1) := fun n => (n.prop.2 _ (List.mem_cons_self ..)).1
        have r1 : ∀ n : ClsW (CQ W [(q2, u2, p2), (q1, u1, p1)]), n.val.cell? ⟨q2, u2 + 1, none⟩ = some (.int .i64 p2.2) := fun n => (n.prop.2 _ (List.mem_cons_self ..)).2
        clear hb hl hf d0 d1 e0
        refine z_reads 14 2 (by kernel_rfl) ⟨⟨_, Q2⟩, rfl⟩ ?_
        simp only [List.take_succ_cons, List.take_zero, List.drop_succ_cons, List.drop_zero]
        repeat (go_big_quiet_step (fail))
        refine wpQuiet_nil ?_
        refine z_two 16 17 (by kernel_rfl) ?_ ?_
        · refine wpOp_at rfl rfl ?_
          go_simp
          obtain ⟨w3, hw⟩ : ∃ x, x = w2.alloc (locO (false, 0)) := ⟨_, rfl⟩
          rw [show w2.alloc (Obj.cells #[.bool false, .int .i64 0] 34) = w3 from hw.symm]
          have hb : Below w2.heap.size w2 w3 := by rw [hw]; exact ext_alloc _ _
          have z3 : Hid (w3.heap.size = w2.heap.size + 1) := by rw [Hid, hw]; simp
          have h4 : w3.heap[w2.heap.size]? = some (locO (false, 0)) := by rw [hw]; exact heap_alloc_new _ _
          clear hw
          refine ⟨Or.inr ⟨⟨_, Q2.ext hb⟩, rfl⟩, ?_⟩
          try simp only [Act.put, List.setIfInBounds_toArray, List.set_cons_succ, List.set_cons_zero]
          have Q3 := Q2.ext hb
          clear hb
          refine z_one 17 (by kernel_rfl) ?_
          refine wpOp_at rfl rfl ?_
          go_simp
          obtain ⟨w4, hw⟩ : ∃ x, x = w3.alloc (locO (false, 0)) := ⟨_, rfl⟩
          rw [show w3.alloc (Obj.cells #[.bool false, .int .i64 0] 34) = w4 from hw.symm]
          have hb : Below w3.heap.size w3 w4 := by rw [hw]; exact ext_alloc _ _
          have z4 : Hid (w4.heap.size = w3.heap.size + 1) := by rw [Hid, hw]; simp
          replace h4 := block_ext hb h4
          have h5 : w4.heap[w3.heap.size]? = some (locO (false, 0)) := by rw [hw]; exact heap_alloc_new _ _
          clear hw
          refine ⟨Or.inr ⟨⟨_, Q3.ext hb⟩, rfl⟩, ?_⟩
          try simp only [Act.put, List.setIfInBounds_toArray, List.set_cons_succ, List.set_cons_zero]
          have Q4 := Q3.ext hb
          clear hb
          have y3 := z3.out
          have y4 := z4.out
          have b0 := Q4.1.size
          have bb0 := Q0.1.size
          refine z_one 18 (by kernel_rfl) ?_
          refine wpOp_at rfl rfl ?_
          refine wp_store_row 34 _ _ rfl (w2.heap.size) #[.bool p1.1, .int .i64 p1.2] rfl rfl 34 _ h4 size_loc rfl (by simp [Value.oneCell']) ?_
          have h5' : (w4.setRow (w2.heap.size) #[.bool p1.1, .int .i64 p1.2]).heap[w3.heap.size]? = some (locO (false, 0)) := (setRow_other _ _ _ _ (by omega)).trans h5
          refine ⟨Or.inr ⟨⟨_, CQ.setRow Q4 (by omega) (by intro t ht; simp only [List.mem_cons, List.not_mem_nil, or_false] at ht; rcases ht with rfl | rfl <;> (simp only; omega))⟩, rfl⟩, ?_⟩
          try simp only [Act.put, List.setIfInBounds_toArray, List.set_cons_succ, List.set_cons_zero]
          refine z_one 19 (by kernel_rfl) ?_
          refine wpOp_at rfl rfl ?_
          refine wp_store_row 34 _ _ rfl (w3.heap.size) #[.bool p2.1, .int .i64 p2.2] rfl rfl 34 _ h5' size_loc rfl (by simp [Value.oneCell']) ?_
          refine ⟨Or.inl (by kernel_rfl), ?_⟩
          try simp only [Act.put, List.setIfInBounds_toArray, List.set_cons_succ, List.set_cons_zero]
          refine z_done (by kernel_rfl) ?_
          go_wp2_with fail
          go_meet
          exact ⟨w2.heap.size, w3.heap.size, rfl, rfl, by omega, by omega, by omega, (setRow_other _ _ _ _ (by omega)).trans (setRow_heap _ _ _ _ _ _ h4), setRow_heap _ _ _ _ _ _ h5', below_setRow (below_setRow Q4.1 (by omega) _) (by omega) _⟩
        · refine wpOp_at rfl rfl ?_
          go_simp
          obtain ⟨w3, hw⟩ : ∃ x, x = w2.alloc (locO (false, 0)) := ⟨_, rfl⟩
          rw [show w2.alloc (Obj.cells #[.bool false, .int .i64 0] 34) = w3 from hw.symm]
          have hb : Below w2.heap.size w2 w3 := by rw [hw]; exact ext_alloc _ _
          have z3 : Hid (w3.heap.size = w2.heap.size + 1) := by rw [Hid, hw]; simp
          have h5 : w3.heap[w2.heap.size]? = some (locO (false, 0)) := by rw [hw]; exact heap_alloc_new _ _
          clear hw
          refine ⟨Or.inr ⟨⟨_, Q2.ext hb⟩, rfl⟩, ?_⟩
          try simp only [Act.put, List.setIfInBounds_toArray, List.set_cons_succ, List.set_cons_zero]
          have Q3 := Q2.ext hb
          clear hb
          refine z_one 16 (by kernel_rfl) ?_
          refine wpOp_at rfl rfl ?_
          go_simp
          obtain ⟨w4, hw⟩ : ∃ x, x = w3.alloc (locO (false, 0)) := ⟨_, rfl⟩
          rw [show w3.alloc (Obj.cells #[.bool false, .int .i64 0] 34) = w4 from hw.symm]
          have hb : Below w3.heap.size w3 w4 := by rw [hw]; exact ext_alloc _ _
          have z4 : Hid (w4.heap.size = w3.heap.size + 1) := by rw [Hid, hw]; simp
          replace h5 := block_ext hb h5
          have h4 : w4.heap[w3.heap.size]? = some (locO (false, 0)) := by rw [hw]; exact heap_alloc_new _ _
          clear hw
          refine ⟨Or.inr ⟨⟨_, Q3.ext hb⟩, rfl⟩, ?_⟩
          try simp only [Act.put, List.setIfInBounds_toArray, List.set_cons_succ, List.set_cons_zero]
          have Q4 := Q3.ext hb
          clear hb
          have y3 := z3.out
          have y4 := z4.out
          have b0 := Q4.1.size
          have bb0 := Q0.1.size
          refine z_one 18 (by kernel_rfl) ?_
          refine wpOp_at rfl rfl ?_
          refine wp_store_row 34 _ _ rfl (w3.heap.size) #[.bool p1.1, .int .i64 p1.2] rfl rfl 34 _ h4 size_loc rfl (by simp [Value.oneCell']) ?_
          have h5' : (w4.setRow (w3.heap.size) #[.bool p1.1, .int .i64 p1.2]).heap[w2.heap.size]? = some (locO (false, 0)) := (setRow_other _ _ _ _ (by omega)).trans h5
          refine ⟨Or.inr ⟨⟨_, CQ.setRow Q4 (by omega) (by intro t ht; simp only [List.mem_cons, List.not_mem_nil, or_false] at ht; rcases ht with rfl | rfl <;> (simp only; omega))⟩, rfl⟩, ?_⟩
          try simp only [Act.put, List.setIfInBounds_toArray, List.set_cons_succ, List.set_cons_zero]
          refine z_one 19 (by kernel_rfl) ?_
          refine wpOp_at rfl rfl ?_
          refine wp_store_row 34 _ _ rfl (w2.heap.size) #[.bool p2.1, .int .i64 p2.2] rfl rfl 34 _ h5' size_loc rfl (by simp [Value.oneCell']) ?_
          refine ⟨Or.inl (by kernel_rfl), ?_⟩
          try simp only [Act.put, List.setIfInBounds_toArray, List.set_cons_succ, List.set_cons_zero]
          refine z_done (by kernel_rfl) ?_
          go_wp2_with fail
          go_meet
          exact ⟨w3.heap.size, w2.heap.size, rfl, rfl, by omega, by omega, by omega, (setRow_other _ _ _ _ (by omega)).trans (setRow_heap _ _ _ _ _ _ h4), setRow_heap _ _ _ _ _ _ h5', below_setRow (below_setRow Q4.1 (by omega) _) (by omega) _⟩
      · refine wpOp_at rfl rfl ?_
        go_simp
        obtain ⟨w2, hw⟩ : ∃ x, x = w1.alloc (locO (false, 0)) := ⟨_, rfl⟩
        rw [show w1.alloc (Obj.cells #[.bool false, .int .i64 0] 34) = w2 from hw.symm]
        have hb : Below w1.heap.size w1 w2 := by rw [hw]; exact ext_alloc _ _
        have z2 : Hid (w2.heap.size = w1.heap.size + 1) := by rw [Hid, hw]; simp
        have h4 : w2.heap[w1.heap.size]? = some (locO (false, 0)) := by rw [hw]; exact heap_alloc_new _ _
        clear hw
        refine ⟨Or.inr ⟨⟨_, Q1.ext hb⟩, rfl⟩, ?_⟩
        try simp only [Act.put, List.setIfInBounds_toArray, List.set_cons_succ, List.set_cons_zero]
        have Q2 := Q1.ext hb
        clear hb
        refine z_two 13 17 (by kernel_rfl) ?_ ?_
        · refine wpOp_at rfl rfl ?_
          go_simp
          refine (writes_new m r.d a1 a2 r.aa n1 c1 n2 c2 r.na r.ca w2 HM.out.2.2.2.2.2.2.2 HOK.out.2.2.2.1 HKD.out).mono ?_
          rintro e w3 ⟨la2, lc2, rfl, ⟨hl, hf⟩, hb⟩
          rw [HP2.out] at hl ⊢
          obtain ⟨p', q2, u2, e0, rfl, d0, d1⟩ := locs_cells hl (k := 0) (by simp)
          obtain rfl : p2 = p' := by simpa using e0
          simp only [Nat.zero_mul, Nat.add_zero, List.length_cons, List.length_nil, Nat.zero_add] at d0 d1 ⊢
          have f2 : w2.heap.size ≤ q2 := hf q2 u2 none rfl
          have g2 : q2 < w3.heap.size := World.block_lt_of_cell? _ _ d0
          have s3 := hb.size
          replace h4 := block_ext hb h4
          refine ⟨Or.inr ⟨⟨_, Q2.ext hb⟩, rfl⟩, ?_⟩
          try simp only [Act.put, List.setIfInBounds_toArray, List.set_cons_succ, List.set_cons_zero]
          have Q3 : CQ W [(q2, u2, p2), (q1, u1, p1)] w3 := CQ.cons (Q2.ext hb) d0 d1
          refine z_mono (S' := fun w' => ∃ n : ClsW (CQ W [(q2, u2, p2), (q1, u1, p1)]), w' = n.val) (fun w' ⟨n, e⟩ => ⟨⟨w', by rw [e]; exact CQ.tail n.prop⟩, rfl⟩) ?_
          have hne : Nonempty (ClsW (CQ W [(q2, u2, p2), (q1, u1, p1)])) := ⟨⟨_, Q3⟩⟩
          have r0 : ∀ n : ClsW (CQ W [(q2, u2, p2), (q1, u1, p1)]), n.val.cell? ⟨q2, u2, none⟩ = some (.bool p2.1) := fun n => (n.prop.2 _ (List.mem_cons_self ..)).1
          have r1 : ∀ n : ClsW (CQ W [(q2, u2, p2), (q1, u1, p1)]), n.val.cell? ⟨q2, u2 + 1, none⟩ = some (.int .i64 p2.2) := fun n => (n.prop.2 _ (List.mem_cons_self ..)).2
          clear hb hl hf d0 d1 e0
          refine z_reads 14 2 (by kernel_rfl) ⟨⟨_, Q3⟩, rfl⟩ ?_
          simp only [List.take_succ_cons, List.take_zero, List.drop_succ_cons, List.drop_zero]
          repeat (go_big_quiet_step (fail))
          refine wpQuiet_nil ?_
          refine z_one 17 (by kernel_rfl) ?_
          refine wpOp_at rfl rfl ?_
          go_simp
          obtain ⟨w4, hw⟩ : ∃ x, x = w3.alloc (locO (false, 0)) := ⟨_, rfl⟩
          rw [show w3.alloc (Obj.cells #[.bool false, .int .i64 0] 34) = w4 from hw.symm]
          have hb : Below w3.heap.size w3 w4 := by rw [hw]; exact ext_alloc _ _
          have z4 : Hid (w4.heap.size = w3.heap.size + 1) := by rw [Hid, hw]; simp
          replace h4 := block_ext hb h4
          have h5 : w4.heap[w3.heap.size]? = some (locO (false, 0)) := by rw [hw]; exact heap_alloc_new _ _
          clear hw
          refine ⟨Or.inr ⟨⟨_, Q3.ext hb⟩, rfl⟩, ?_⟩
          try simp only [Act.put, List.setIfInBounds_toArray, List.set_cons_succ, List.set_cons_zero]
          have Q4 := Q3.ext hb
          clear hb
          have y2 := z2.out
          have y4 := z4.out
          have b0 := Q4.1.size
          have bb0 := Q0.1.size
          refine z_one 18 (by kernel_rfl) ?_
          refine wpOp_at rfl rfl ?_
          refine wp_store_row 34 _ _ rfl (w1.heap.size) #[.bool p1.1, .int .i64 p1.2] rfl rfl 34 _ h4 size_loc rfl (by simp [Value.oneCell']) ?_
          have h5' : (w4.setRow (w1.heap.size) #[.bool p1.1, .int .i64 p1.2]).heap[w3.heap.size]? = some (locO (false, 0)) := (setRow_other _ _ _ _ (by omega)).trans h5
          refine ⟨Or.inr ⟨⟨_, CQ.setRow Q4 (by omega) (by intro t ht; simp only [List.mem_cons, List.not_mem_nil, or_false] at ht; rcases ht with rfl | rfl <;> (simp only; omega))⟩, rfl⟩, ?_⟩
          try simp only [Act.put, List.setIfInBounds_toArray, List.set_cons_succ, List.set_cons_zero]
          refine z_one 19 (by kernel_rfl) ?_
          refine wpOp_at rfl rfl ?_
          refine wp_store_row 34 _ _ rfl (w3.heap.size) #[.bool p2.1, .int .i64 p2.2] rfl rfl 34 _ h5' size_loc rfl (by simp [Value.oneCell']) ?_
          refine ⟨Or.inl (by kernel_rfl), ?_⟩
          try simp only [Act.put, List.setIfInBounds_toArray, List.set_cons_succ, List.set_cons_zero]
          refine z_done (by kernel_rfl) ?_
          go_wp2_with fail
          go_meet
          exact ⟨w1.heap.size, w3.heap.size, rfl, rfl, by omega, by omega, by omega, (setRow_other _ _ _ _ (by omega)).trans (setRow_heap _ _ _ _ _ _ h4), setRow_heap _ _ _ _ _ _ h5', below_setRow (below_setRow Q4.1 (by omega) _) (by omega) _⟩
        · refine wpOp_at rfl rfl ?_
          go_simp
          obtain ⟨w3, hw⟩ : ∃ x, x = w2.alloc (locO (false, 0)) := ⟨_, rfl⟩
          rw [show w2.alloc (Obj.cells #[.bool false, .int .i64 0] 34) = w3 from hw.symm]
          have hb : Below w2.heap.size w2 w3 := by rw [hw]; exact ext_alloc _ _
          have z3 : Hid (w3.heap.size = w2.heap.size + 1) := by rw [Hid, hw]; simp
          replace h4 := block_ext hb h4
          have h5 : w3.heap[w2.heap.size]? = some (locO (false, 0)) := by rw [hw]; exact heap_alloc_new _ _
          clear hw
          refine ⟨Or.inr ⟨⟨_, Q2.ext hb⟩, rfl⟩, ?_⟩
          try simp only [Act.put, List.setIfInBounds_toArray, List.set_cons_succ, List.set_cons_zero]
          have Q3 := Q2.ext hb
          clear hb
          refine z_one 13 (by kernel_rfl) ?_
          refine wpOp_at rfl rfl ?_
          go_simp
          refine (writes_new m r.d a1 a2 r.aa n1 c1 n2 c2 r.na r.ca w3 HM.out.2.2.2.2.2.2.2 HOK.out.2.2.2.1 HKD.out).mono ?_
          rintro e w4 ⟨la2, lc2, rfl, ⟨hl, hf⟩, hb⟩
          rw [HP2.out] at hl ⊢
          obtain ⟨p', q2, u2, e0, rfl, d0, d1⟩ := locs_cells hl (k := 0) (by simp)
          obtain rfl : p2 = p' := by simpa using e0
          simp only [Nat.zero_mul, Nat.add_zero, List.length_cons, List.length_nil, Nat.zero_add] at d0 d1 ⊢
          have f2 : w3.heap.size ≤ q2 := hf q2 u2 none rfl
          have g2 : q2 < w4.heap.size := World.block_lt_of_cell? _ _ d0
          have s4 := hb.size
          replace h4 := block_ext hb h4
          replace h5 := block_ext hb h5
          refine ⟨Or.inr ⟨⟨_, Q3.ext hb⟩, rfl⟩, ?_⟩
          try simp only [Act.put, List.setIfInBounds_toArray, List.set_cons_succ, List.set_cons_zero]
          have Q4 : CQ W [(q2, u2, p2), (q1, u1, p1)] w4 := CQ.cons (Q3.ext hb) d0 d1
          refine z_mono (S' := fun w' => ∃ n : ClsW (CQ W [(q2, u2, p2), (q1, u1, p1)]), w' = n.val) (fun w' ⟨n, e⟩ => ⟨⟨w', by rw [e]; exact CQ.tail n.prop⟩, rfl⟩) ?_
          have hne : Nonempty (ClsW (CQ W [(q2, u2, p2), (q1, u1, p1)])) := ⟨⟨_, Q4⟩⟩
          have r0 : ∀ n : ClsW (CQ W [(q2, u2, p2), (q1, u1, p1)]), n.val.cell? ⟨q2, u2, none⟩ = some (.bool p2.1) := fun n => (n.prop.2 _ (List.mem_cons_self ..)).1
          have r1 : ∀ n : ClsW (CQ W [(q2, u2, p2), (q1, u1, p1)]), n.val.cell? ⟨q2, u2 + 1, none⟩ = some (.int .i64 p2.2) := fun n => (n.prop.2 _ (List.mem_cons_self ..)).2
          clear hb hl hf d0 d1 e0
          refine z_reads 14 2 (by kernel_rfl) ⟨⟨_, Q4⟩, rfl⟩ ?_
          simp only [List.take_succ_cons, List.take_zero, List.drop_succ_cons, List.drop_zero]
          repeat (go_big_quiet_step (fail))
          refine wpQuiet_nil ?_
          have y2 := z2.out
          have y3 := z3.out
          have b0 := Q4.1.size
          have bb0 := Q0.1.size
          refine z_one 18 (by kernel_rfl) ?_
          refine wpOp_at rfl rfl ?_
          refine wp_store_row 34 _ _ rfl (w1.heap.size) #[.bool p1.1, .int .i64 p1.2] rfl rfl 34 _ h4 size_loc rfl (by simp [Value.oneCell']) ?_
          have h5' : (w4.setRow (w1.heap.size) #[.bool p1.1, .int .i64 p1.2]).heap[w2.heap.size]? = some (locO (false, 0)) := (setRow_other _ _ _ _ (by omega)).trans h5
          refine ⟨Or.inr ⟨⟨_, CQ.setRow Q4 (by omega) (by intro t ht; simp only [List.mem_cons, List.not_mem_nil, or_false] at ht; rcases ht with rfl | rfl <;> (simp only; omega))⟩, rfl⟩, ?_⟩
          try simp only [Act.put, List.setIfInBounds_toArray, List.set_cons_succ, List.set_cons_zero]
          refine z_one 19 (by kernel_rfl) ?_
          refine wpOp_at rfl rfl ?_
          refine wp_store_row 34 _ _ rfl (w2.heap.size) #[.bool p2.1, .int .i64 p2.2] rfl rfl 34 _ h5' size_loc rfl (by simp [Value.oneCell']) ?_
          refine ⟨Or.inl (by kernel_rfl), ?_⟩
          try simp only [Act.put, List.setIfInBounds_toArray, List.set_cons_succ, List.set_cons_zero]
          refine z_done (by kernel_rfl) ?_
          go_wp2_with fail
          go_meet
          exact ⟨w1.heap.size, w2.heap.size, rfl, rfl, by omega, by omega, by omega, (setRow_other _ _ _ _ (by omega)).trans (setRow_heap _ _ _ _ _ _ h4), setRow_heap _ _ _ _ _ _ h5', below_setRow (below_setRow Q4.1 (by omega) _) (by omega) _⟩
      · refine wpOp_at rfl rfl ?_
        go_simp
        obtain ⟨w2, hw⟩ : ∃ x, x = w1.alloc (locO (false, 0)) := ⟨_, rfl⟩
        rw [show w1.alloc (Obj.cells #[.bool false, .int .i64 0] 34) = w2 from hw.symm]
        have hb : Below w1.heap.size w1 w2 := by rw [hw]; exact ext_alloc _ _
        have z2 : Hid (w2.heap.size = w1.heap.size + 1) := by rw [Hid, hw]; simp
        have h5 : w2.heap[w1.heap.size]? = some (locO (false, 0)) := by rw [hw]; exact heap_alloc_new _ _
        clear hw
        refine ⟨Or.inr ⟨⟨_, Q1.ext hb⟩, rfl⟩, ?_⟩
        try simp only [Act.put, List.setIfInBounds_toArray, List.set_cons_succ, List.set_cons_zero]
        have Q2 := Q1.ext hb
        clear hb
        refine z_two 13 16 (by kernel_rfl) ?_ ?_
        · refine wpOp_at rfl rfl ?_
          go_simp
          refine (writes_new m r.d a1 a2 r.aa n1 c1 n2 c2 r.na r.ca w2 HM.out.2.2.2.2.2.2.2 HOK.out.2.2.2.1 HKD.out).mono ?_
          rintro e w3 ⟨la2, lc2, rfl, ⟨hl, hf⟩, hb⟩
          rw [HP2.out] at hl ⊢
          obtain ⟨p', q2, u2, e0, rfl, d0, d1⟩ := locs_cells hl (k := 0) (by simp)
          obtain rfl : p2 = p' := by simpa using e0
          simp only [Nat.zero_mul, Nat.add_zero, List.length_cons, List.length_nil, Nat.zero_add] at d0 d1 ⊢
          have f2 : w2.heap.size ≤ q2 := hf q2 u2 none rfl
          have g2 : q2 < w3.heap.size := World.block_lt_of_cell? _ _ d0
          have s3 := hb.size
          replace h5 := block_ext hb h5
          refine ⟨Or.inr ⟨⟨_, Q2.ext hb⟩, rfl⟩, ?_⟩
          try simp only [Act.put, List.setIfInBounds_toArray, List.set_cons_succ, List.set_cons_zero]
          have Q3 : CQ W [(q2, u2, p2), (q1, u1, p1)] w3 := CQ.cons (Q2.ext hb) d0 d1
          refine z_mono (S' := fun w' => ∃ n : ClsW (CQ W [(q2, u2, p2), (q1, u1, p1)]), w' = n.val) (fun w' ⟨n, e⟩ => ⟨⟨w', by rw [e]; exact CQ.tail n.prop⟩, rfl⟩) ?_
          have hne : Nonempty (ClsW (CQ W [(q2, u2, p2), (q1, u1, p1)])) := ⟨⟨_, Q3⟩⟩
          have r0 : ∀ n : ClsW (CQ W [(q2, u2, p2), (q1, u1, p1)]), n.val.cell? ⟨q2, u2, none⟩ = some (.bool p2.1) := fun n => (n.prop.2 _ (List.mem_cons_self ..)).1
          have r1 : ∀ n : ClsW (CQ W [(q2, u2, p2), (q1, u1, p1)]), n.val.cell? ⟨q2, u2 + 1, none⟩ = some (.int .i64 p2.2) := fun n => (n.prop.2 _ (List.mem_cons_self ..)).2
          clear hb hl hf d0 d1 e0
          refine z_reads 14 2 (by kernel_rfl) ⟨⟨_, Q3⟩, rfl⟩ ?_
          simp only [List.take_succ_cons, List.take_zero, List.drop_succ_cons, List.drop_zero]
          repeat (go_big_quiet_step (fail))
          refine wpQuiet_nil ?_
          refine z_one 16 (by kernel_rfl) ?_
          refine wpOp_at rfl rfl ?_
          go_simp
          obtain ⟨w4, hw⟩ : ∃ x, x = w3.alloc (locO (false, 0)) := ⟨_, rfl⟩
          rw [show w3.alloc (Obj.cells #[.bool false, .int .i64 0] 34) = w4 from hw.symm]
          have hb : Below w3.heap.size w3 w4 := by rw [hw]; exact ext_alloc _ _
          have z4 : Hid (w4.heap.size = w3.heap.size + 1) := by rw [Hid, hw]; simp
          replace h5 := block_ext hb h5
          have h4 : w4.heap[w3.heap.size]? = some (locO (false, 0)) := by rw [hw]; exact heap_alloc_new _ _
          clear hw
          refine ⟨Or.inr ⟨⟨_, Q3.ext hb⟩, rfl⟩, ?_⟩
          try simp only [Act.put, List.setIfInBounds_toArray, List.set_cons_succ, List.set_cons_zero]
          have Q4 := Q3.ext hb
          clear hb
          have y2 := z2.out
          have y4 := z4.out
          have b0 := Q4.1.size
          have bb0 := Q0.1.size
          refine z_one 18 (by kernel_rfl) ?_
          refine wpOp_at rfl rfl ?_
          refine wp_store_row 34 _ _ rfl (w3.heap.size) #[.bool p1.1, .int .i64 p1.2] rfl rfl 34 _ h4 size_loc rfl (by simp [Value.oneCell']) ?_
          have h5' : (w4.setRow (w3.heap.size) #[.bool p1.1, .int .i64 p1.2]).heap[w1.heap.size]? = some (locO (false, 0)) := (setRow_other _ _ _ _ (by omega)).trans h5
          refine ⟨Or.inr ⟨⟨_, CQ.setRow Q4 (by omega) (by intro t ht; simp only [List.mem_cons, List.not_mem_nil, or_false] at ht; rcases ht with rfl | rfl <;> (simp only; omega))⟩, rfl⟩, ?_⟩
          try simp only [Act.put, List.setIfInBounds_toArray, List.set_cons_succ, List.set_cons_zero]
          refine z_one 19 (by kernel_rfl) ?_
          refine wpOp_at rfl rfl ?_
          refine wp_store_row 34 _ _ rfl (w1.heap.size) #[.bool p2.1, .int .i64 p2.2] rfl rfl 34 _ h5' size_loc rfl (by simp [Value.oneCell']) ?_
          refine ⟨Or.inl (by kernel_rfl), ?_⟩
          try simp only [Act.put, List.setIfInBounds_toArray, List.set_cons_succ, List.set_cons_zero]
          refine z_done (by kernel_rfl) ?_
          go_wp2_with fail
          go_meet
          exact ⟨w3.heap.size, w1.heap.size, rfl, rfl, by omega, by omega, by omega, (setRow_other _ _ _ _ (by omega)).trans (setRow_heap _ _ _ _ _ _ h4), setRow_heap _ _ _ _ _ _ h5', below_setRow (below_setRow Q4.1 (by omega) _) (by omega) _⟩
        · refine wpOp_at rfl rfl ?_
          go_simp
          obtain ⟨w3, hw⟩ : ∃ x, x = w2.alloc (locO (false, 0)) := ⟨_, rfl⟩
          rw [show w2.alloc (Obj.cells #[.bool false, .int .i64 0] 34) = w3 from hw.symm]
          have hb : Below w2.heap.size w2 w3 := by rw [hw]; exact ext_alloc _ _
          have z3 : Hid (w3.heap.size = w2.heap.size + 1) := by rw [Hid, hw]; simp
          replace h5 := block_ext hb h5
          have h4 : w3.heap[w2.heap.size]? = some (locO (false, 0)) := by rw [hw]; exact heap_alloc_new _ _
          clear hw
          refine ⟨Or.inr ⟨⟨_, Q2.ext hb⟩, rfl⟩, ?_⟩
          try simp only [Act.put, List.setIfInBounds_toArray, List.set_cons_succ, List.set_cons_zero]
          have Q3 := Q2.ext hb
          clear hb
          refine z_one 13 (by kernel_rfl) ?_
          refine wpOp_at rfl rfl ?_
          go_simp
          refine (writes_new m r.d a1 a2 r.aa n1 c1 n2 c2 r.na r.ca w3 HM.out.2.2.2.2.2.2.2 HOK.out.2.2.2.1 HKD.out).mono ?_
          rintro e w4 ⟨la2, lc2, rfl, ⟨hl, hf⟩, hb⟩
          rw [HP2.out] at hl ⊢
          obtain ⟨p', q2, u2, e0, rfl, d0, d1⟩ := locs_cells hl (k := 0) (by simp)
          obtain rfl : p2 = p' := by simpa using e0
          simp only [Nat.zero_mul, Nat.add_zero, List.length_cons, List.length_nil, Nat.zero_add] at d0 d1 ⊢
          have f2 : w3.heap.size ≤ q2 := hf q2 u2 none rfl
          have g2 : q2 < w4.heap.size := World.block_lt_of_cell? _ _ d0
          have s4 := hb.size
          replace h4 := block_ext hb h4
          replace h5 := block_ext hb h5
          refine ⟨Or.inr ⟨⟨_, Q3.ext hb⟩, rfl⟩, ?_⟩
          try simp only [Act.put, List.setIfInBounds_toArray, List.set_cons_succ, List.set_cons_zero]
          have Q4 : CQ W [(q2, u2, p2), (q1, u1, p1)] w4 := CQ.cons (Q3.ext hb) d0 d1
          refine z_mono (S' := fun w' => ∃ n : ClsW (CQ W [(q2, u2, p2), (q1, u1, p1)]), w' = n.val) (fun w' ⟨n, e⟩ => ⟨⟨w', by rw [e]; exact CQ.tail n.prop⟩, rfl⟩) ?_
          have hne : Nonempty (ClsW (CQ W [(q2, u2, p2), (q1, u1, p1)])) := ⟨⟨_, Q4⟩⟩
          have r0 : ∀ n : ClsW (CQ W [(q2, u2, p2), (q1, u1, p1)]), n.val.cell? ⟨q2, u2, none⟩ = some (.bool p2.1) := fun n => (n.prop.2 _ (List.mem_cons_self ..)).1
          have r1 : ∀ n : ClsW (CQ W [(q2, u2, p2), (q1, u1, p1)]), n.val.cell? ⟨q2, u2 + 1, none⟩ = some (.int .i64 p2.2) := fun n => (n.prop.2 _ (List.mem_cons_self ..)).2
          clear hb hl hf d0 d1 e0
          refine z_reads 14 2 (by kernel_rfl) ⟨⟨_, Q4⟩, rfl⟩ ?_
          simp only [List.take_succ_cons, List.take_zero, List.drop_succ_cons, List.drop_zero]
          repeat (go_big_quiet_step (fail))
          refine wpQuiet_nil ?_
          have y2 := z2.out
          have y3 := z3.out
          have b0 := Q4.1.size
          have bb0 := Q0.1.size
          refine z_one 18 (by kernel_rfl) ?_
          refine wpOp_at rfl rfl ?_
          refine wp_store_row 34 _ _ rfl (w2.heap.size) #[.bool p1.1, .int .i64 p1.2] rfl rfl 34 _ h4 size_loc rfl (by simp [Value.oneCell']) ?_
          have h5' : (w4.setRow (w2.heap.size) #[.bool p1.1, .int .i64 p1.2]).heap[w1.heap.size]? = some (locO (false, 0)) := (setRow_other _ _ _ _ (by omega)).trans h5
          refine ⟨Or.inr ⟨⟨_, CQ.setRow Q4 (by omega) (by intro t ht; simp only [List.mem_cons, List.not_mem_nil, or_false] at ht; rcases ht with rfl | rfl <;> (simp only; omega))⟩, rfl⟩, ?_⟩
          try simp only [Act.put, List.setIfInBounds_toArray, List.set_cons_succ, List.set_cons_zero]
          refine z_one 19 (by kernel_rfl) ?_
          refine wpOp_at rfl rfl ?_
          refine wp_store_row 34 _ _ rfl (w1.heap.size) #[.bool p2.1, .int .i64 p2.2] rfl rfl 34 _ h5' size_loc rfl (by simp [Value.oneCell']) ?_
          refine ⟨Or.inl (by kernel_rfl), ?_⟩
          try simp only [Act.put, List.setIfInBounds_toArray, List.set_cons_succ, List.set_cons_zero]
          refine z_done (by kernel_rfl) ?_
          go_wp2_with fail
          go_meet
          exact ⟨w2.heap.size, w1.heap.size, rfl, rfl, by omega, by omega, by omega, (setRow_other _ _ _ _ (by omega)).trans (setRow_heap _ _ _ _ _ _ h4), setRow_heap _ _ _ _ _ _ h5', below_setRow (below_setRow Q4.1 (by omega) _) (by omega) _⟩
    · refine wpOp_at rfl rfl ?_
      go_simp
      obtain ⟨w1, hw⟩ : ∃ x, x = w0.alloc (locO (false, 0)) := ⟨_, rfl⟩
      rw [show w0.alloc (Obj.cells #[.bool false, .int .i64 0] 34) = w1 from hw.symm]
      have hb : Below w0.heap.size w0 w1 := by rw [hw]; exact ext_alloc _ _
      have z1 : Hid (w1.heap.size = w0.heap.size + 1) := by rw [Hid, hw]; simp
      have h4 : w1.heap[w0.heap.size]? = some (locO (false, 0)) := by rw [hw]; exact heap_alloc_new _ _
      clear hw
      refine ⟨Or.inr ⟨⟨_, Q0.ext hb⟩, rfl⟩, ?_⟩
      try simp only [Act.put, List.setIfInBounds_toArray, List.set_cons_succ, List.set_cons_zero]
      have Q1 := Q0.ext hb
      clear hb
      refine z_two 5 17 (by kernel_rfl) ?_ ?_
      · refine wpOp_at rfl rfl ?_
        go_simp
        refine (reads_new m r.d a1 a2 r.aa n1 c1 n2 c2 r.na r.ca w1 ((HM.out.ext (ext_trans HB.out Q1.1)).1) HM.out.2.2.2.2.1 HM.out.2.2.1 HOK.out.2.2.2.2.1 HOK.out.2.2.2.2.2.1 HOK.out.2.2.2.2.2.2.2.2 HKD.out).mono ?_
        rintro e w2 ⟨la1, lc1, rfl, ⟨hl, hf⟩, hb⟩
        rw [HP1.out] at hl ⊢
        obtain ⟨p', q1, u1, e0, rfl, d0, d1⟩ := locs_cells hl (k := 0) (by simp)
        obtain rfl : p1 = p' := by simpa using e0
        simp only [Nat.zero_mul, Nat.add_zero, List.length_cons, List.length_nil, Nat.zero_add] at d0 d1 ⊢
        have f1 : w1.heap.size ≤ q1 := hf q1 u1 none rfl
        have g1 : q1 < w2.heap.size := World.block_lt_of_cell? _ _ d0
        have s2 := hb.size
        replace h4 := block_ext hb h4
        refine ⟨Or.inr ⟨⟨_, Q1.ext hb⟩, rfl⟩, ?_⟩
        try simp only [Act.put, List.setIfInBounds_toArray, List.set_cons_succ, List.set_cons_zero]
        have Q2 : CQ W [(q1, u1, p1)] w2 := CQ.cons (Q1.ext hb) d0 d1
        refine z_mono (S' := fun w' => ∃ n : ClsW (CQ W [(q1, u1, p1)]), w' = n.val) (fun w' ⟨n, e⟩ => ⟨⟨w', by rw [e]; exact CQ.tail n.prop⟩, rfl⟩) ?_
        have hne : Nonempty (ClsW (CQ W [(q1, u1, p1)])) := ⟨⟨_, Q2⟩⟩
        have r0 : ∀ n : ClsW (CQ W [(q1, u1, p1)]), n.val.cell? ⟨q1, u1, none⟩ = some (.bool p1.1) := fun n => (n.prop.2 _ (List.mem_cons_self ..)).1
        have r1 : ∀ n : ClsW (CQ W [(q1, u1, p1)]), n.val.cell? ⟨q1, u1 + 1, none⟩ = some (.int .i64 p1.2) := fun n => (n.prop.2 _ (List.mem_cons_self ..)).2
        clear hb hl hf d0 d1 e0
        refine z_reads 6 2 (by kernel_rfl) ⟨⟨_, Q2⟩, rfl⟩ ?_
        simp only [List.take_succ_cons, List.take_zero, List.drop_succ_cons, List.drop_zero]
        repeat (go_big_quiet_step (fail))
        refine wpQuiet_nil ?_
        refine z_two 13 17 (by kernel_rfl) ?_ ?_
        · refine wpOp_at rfl rfl ?_
          go_simp
          refine (writes_new m r.d a1 a2 r.aa n1 c1 n2 c2 r.na r.ca w2 HM.out.2.2.2.2.2.2.2 HOK.out.2.2.2.1 HKD.out).mono ?_
          rintro e w3 ⟨la2, lc2, rfl, ⟨hl, hf⟩, hb⟩
          rw [HP2.out] at hl ⊢
          obtain ⟨p', q2, u2, e0, rfl, d0, d1⟩ := locs_cells hl (k := 0) (by simp)
          obtain rfl : p2 = p' := by simpa using e0
          simp only [Nat.zero_mul, Nat.add_zero, List.length_cons, List.length_nil, Nat.zero_add] at d0 d1 ⊢
          have f2 : w2.heap.size ≤ q2 := hf q2 u2 none rfl
          have g2 : q2 < w3.heap.size := World.block_lt_of_cell? _ _ d0
          have s3 := hb.size
          replace h4 := block_ext hb h4
          refine ⟨Or.inr ⟨⟨_, Q2.ext hb⟩, rfl⟩, ?_⟩
          try simp only [Act.put, List.setIfInBounds_toArray, List.set_cons_succ, List.set_cons_zero]
          have Q3 : CQ W [(q2, u2, p2), (q1, u1, p1)] w3 := CQ.cons (Q2.ext hb) d0 d1
          refine z_mono (S' := fun w' => ∃ n : ClsW (CQ W [(q2, u2, p2), (q1, u1, p1)]), w' = n.val) (fun w' ⟨n, e⟩ => ⟨⟨w', by rw [e]; exact CQ.tail n.prop⟩, rfl⟩) ?_
          have hne : Nonempty (ClsW (CQ W [(q2, u2, p2), (q1, u1, p1)])) := ⟨⟨_, Q3⟩⟩
          have r0 : ∀ n : ClsW (CQ W [(q2, u2, p2), (q1, u1, p1)]), n.val.cell? ⟨q2, u2, none⟩ = some (.bool p2.1) := fun n => (n.prop.2 _ (List.mem_cons_self ..)).1
          have r1 : ∀ n : ClsW (CQ W [(q2, u2, p2), (q1, u1, p1)]), n.val.cell? ⟨q2, u2 + 1, none⟩ = some (.int .i64 p2.2) := fun n => (n.prop.2 _ (List.mem_cons_self ..)).2
          clear hb hl hf d0 d1 e0
          refine z_reads 14 2 (by kernel_rfl) ⟨⟨_, Q3⟩, rfl⟩ ?_
          simp only [List.take_succ_cons, List.take_zero, List.drop_succ_cons, List.drop_zero]
          repeat (go_big_quiet_step (fail))
          refine wpQuiet_nil ?_
          refine z_one 17 (by kernel_rfl) ?_
          refine wpOp_at rfl rfl ?_
          go_simp
          obtain ⟨w4, hw⟩ : ∃ x, x = w3.alloc (locO (false, 0)) := ⟨_, rfl⟩
          rw [show w3.alloc (Obj.cells #[.bool false, .int .i64 0] 34) = w4 from hw.symm]
          have hb : Below w3.heap.size w3 w4 := by rw [hw]; exact ext_alloc _ _
          have z4 : Hid (w4.heap.size = w3.heap.size + 1) := by rw [Hid, hw]; simp
          replace h4 := block_ext hb h4
          have h5 : w4.heap[w3.heap.size]? = some (locO (false, 0)) := by rw [hw]; exact heap_alloc_new _ _
          clear hw
          refine ⟨Or.inr ⟨⟨_, Q3.ext hb⟩, rfl⟩, ?_⟩
          try simp only [Act.put, List.setIfInBounds_toArray, List.set_cons_succ, List.set_cons_zero]
          have Q4 := Q3.ext hb
          clear hb
          have y1 := z1.out
          have y4 := z4.out
          have b0 := Q4.1.size
          have bb0 := Q0.1.size
          refine z_one 18 (by kernel_rfl) ?_
          refine wpOp_at rfl rfl ?_
          refine wp_store_row 34 _ _ rfl (w0.heap.size) #[.bool p1.1, .int .i64 p1.2] rfl rfl 34 _ h4 size_loc rfl (by simp [Value.oneCell']) ?_
          have h5' : (w4.setRow (w0.heap.size) #[.bool p1.1, .int .i64 p1.2]).heap[w3.heap.size]? = some (locO (false, 0)) := (setRow_other _ _ _ _ (by omega)).trans h5
          refine ⟨Or.inr ⟨⟨_, CQ.setRow Q4 (by omega) (by intro t ht; simp only [List.mem_cons, List.not_mem_nil, or_false] at ht; rcases ht with rfl | rfl <;> (simp only; omega))⟩, rfl⟩, ?_⟩
          try simp only [Act.put, List.setIfInBounds_toArray, List.set_cons_succ, List.set_cons_zero]
          refine z_one 19 (by kernel_rfl) ?_
          refine wpOp_at rfl rfl ?_
          refine wp_store_row 34 _ _ rfl (w3.heap.size) #[.bool p2.1, .int .i64 p2.2] rfl rfl 34 _ h5' size_loc rfl (by simp [Value.oneCell']) ?_
          refine ⟨Or.inl (by kernel_rfl), ?_⟩
          try simp only [Act.put, List.setIfInBounds_toArray, List.set_cons_succ, List.set_cons_zero]
          refine z_done (by kernel_rfl) ?_
          go_wp2_with fail
          go_meet
          exact ⟨w0.heap.size, w3.heap.size, rfl, rfl, by omega, by omega, by omega, (setRow_other _ _ _ _ (by omega)).trans (setRow_heap _ _ _ _ _ _ h4), setRow_heap _ _ _ _ _ _ h5', below_setRow (below_setRow Q4.1 (by omega) _) (by omega) _⟩
        · refine wpOp_at rfl rfl ?_
          go_simp
          obtain ⟨w3, hw⟩ : ∃ x, x = w2.alloc (locO (false, 0)) := ⟨_, rfl⟩
          rw [show w2.alloc (Obj.cells #[.bool false, .int .i64 0] 34) = w3 from hw.symm]
          have hb : Below w2.heap.size w2 w3 := by rw [hw]; exact ext_alloc _ _
          have z3 : Hid (w3.heap.size = w2.heap.size + 1) := by rw [Hid, hw]; simp
          replace h4 := block_ext hb h4
          have h5 : w3.heap[w2.heap.size]? = some (locO (false, 0)) := by rw [hw]; exact heap_alloc_new _ _
          clear hw
          refine ⟨Or.inr ⟨⟨_, Q2.ext hb⟩, rfl⟩, ?_⟩
          try simp only [Act.put, List.setIfInBounds_toArray, List.set_cons_succ, List.set_cons_zero]
          have Q3 := Q2.ext hb
          clear hb
          refine z_one 13 (by kernel_rfl) ?_
          refine wpOp_at rfl rfl ?_
          go_simp
          refine (writes_new m r.d a1 a2 r.aa n1 c1 n2 c2 r.na r.ca w3 HM.out.2.2.2.2.2.2.2 HOK.out.2.2.2.1 HKD.out).mono ?_
          rintro e w4 ⟨la2, lc2, rfl, ⟨hl, hf⟩, hb⟩
          rw [HP2.out] at hl ⊢
          obtain ⟨p', q2, u2, e0, rfl, d0, d1⟩ := locs_cells hl (k := 0) (by simp)
          obtain rfl : p2 = p' := by simpa using e0
          simp only [Nat.zero_mul, Nat.add_zero, List.length_cons, List.length_nil, Nat.zero_add] at d0 d1 ⊢
          have f2 : w3.heap.size ≤ q2 := hf q2 u2 none rfl
          have g2 : q2 < w4.heap.size := World.block_lt_of_cell? _ _ d0
          have s4 := hb.size
          replace h4 := block_ext hb h4
          replace h5 := block_ext hb h5
          refine ⟨Or.inr ⟨⟨_, Q3.ext hb⟩, rfl⟩, ?_⟩
          try simp only [Act.put, List.setIfInBounds_toArray, List.set_cons_succ, List.set_cons_zero]
          have Q4 : CQ W [(q2, u2, p2), (q1, u1, p1)] w4 := CQ.cons (Q3.ext hb) d0 d1
          refine z_mono (S' := fun w' => ∃ n : ClsW (CQ W [(q2, u2, p2), (q1, u1, p1)]), w' = n.val) (fun w' ⟨n, e⟩ => ⟨⟨w', by rw [e]; exact CQ.tail n.prop⟩, rfl⟩) ?_
          have hne : Nonempty (ClsW (CQ W [(q2, u2, p2), (q1, u1, p1)])) := ⟨⟨_, Q4⟩⟩
          have r0 : ∀ n : ClsW (CQ W [(q2, u2, p2), (q1, u1, p1)]), n.val.cell? ⟨q2, u2, none⟩ = some (.bool p2.1) := fun n => (n.prop.2 _ (List.mem_cons_self ..)).1
          have r1 : ∀ n : ClsW (CQ W [(q2, u2, p2), (q1, u1, p1)]), n.val.cell? ⟨q2, u2 + 1, none⟩ = some (.int .i64 p2.2) := fun n => (n.prop.2 _ (List.mem_cons_self ..)).2
          clear hb hl hf d0 d1 e0
          refine z_reads 14 2 (by kernel_rfl) ⟨⟨_, Q4⟩, rfl⟩ ?_
          simp only [List.take_succ_cons, List.take_zero, List.drop_succ_cons, List.drop_zero]
          repeat (go_big_quiet_step (fail))
          refine wpQuiet_nil ?_
          have y1 := z1.out
          have y3 := z3.out
          have b0 := Q4.1.size
          have bb0 := Q0.1.size
          refine z_one 18 (by kernel_rfl) ?_
          refine wpOp_at rfl rfl ?_
          refine wp_store_row 34 _ _ rfl (w0.heap.size) #[.bool p1.1, .int .i64 p1.2] rfl rfl 34 _ h4 size_loc rfl (by simp [Value.oneCell']) ?_
          have h5' : (w4.setRow (w0.heap.size) #[.bool p1.1, .int .i64 p1.2]).heap[w2.heap.size]? = some (locO (false, 0)) := (setRow_other _ _ _ _ (by omega)).trans h5
          refine ⟨Or.inr ⟨⟨_, CQ.setRow Q4 (by omega) (by intro t ht; simp only [List.mem_cons, List.not_mem_nil, or_false] at ht; rcases ht with rfl | rfl <;> (simp only; omega))⟩, rfl⟩, ?_⟩
          try simp only [Act.put, List.setIfInBounds_toArray, List.set_cons_succ, List.set_cons_zero]
          refine z_one 19 (by kernel_rfl) ?_
          refine wpOp_at rfl rfl ?_
          refine wp_store_row 34 _ _ rfl (w2.heap.size) #[.bool p2.1, .int .i64 p2.2] rfl rfl 34 _ h5' size_loc rfl (by simp [Value.oneCell']) ?_
          refine ⟨Or.inl (by kernel_rfl), ?_⟩
          try simp only [Act.put, List.setIfInBounds_toArray, List.set_cons_succ, List.set_cons_zero]
          refine z_done (by kernel_rfl) ?_
          go_wp2_with fail
          go_meet
          exact ⟨w0.heap.size, w2.heap.size, rfl, rfl, by omega, by omega, by omega, (setRow_other _ _ _ _ (by omega)).trans (setRow_heap _ _ _ _ _ _ h4), setRow_heap _ _ _ _ _ _ h5', below_setRow (below_setRow Q4.1 (by omega) _) (by omega) _⟩
      · refine wpOp_at rfl rfl ?_
        go_simp
        obtain ⟨w2, hw⟩ : ∃ x, x = w1.alloc (locO (false, 0)) := ⟨_, rfl⟩
        rw [show w1.alloc (Obj.cells #[.bool false, .int .i64 0] 34) = w2 from hw.symm]
        have hb : Below w1.heap.size w1 w2 := by rw [hw]; exact ext_alloc _ _
        have z2 : Hid (w2.heap.size = w1.heap.size + 1) := by rw [Hid, hw]; simp
        replace h4 := block_ext hb h4
        have h5 : w2.heap[w1.heap.size]? = some (locO (false, 0)) := by rw [hw]; exact heap_alloc_new _ _
        clear hw
        refine ⟨Or.inr ⟨⟨_, Q1.ext hb⟩, rfl⟩, ?_⟩
        try simp only [Act.put, List.setIfInBounds_toArray, List.set_cons_succ, List.set_cons_zero]
        have Q2 := Q1.ext hb
        clear hb
        refine z_one 5 (by kernel_rfl) ?_
        refine wpOp_at rfl rfl ?_
        go_simp
        refine (reads_new m r.d a1 a2 r.aa n1 c1 n2 c2 r.na r.ca w2 ((HM.out.ext (ext_trans HB.out Q2.1)).1) HM.out.2.2.2.2.1 HM.out.2.2.1 HOK.out.2.2.2.2.1 HOK.out.2.2.2.2.2.1 HOK.out.2.2.2.2.2.2.2.2 HKD.out).mono ?_
        rintro e w3 ⟨la1, lc1, rfl, ⟨hl, hf⟩, hb⟩
        rw [HP1.out] at hl ⊢
        obtain ⟨p', q1, u1, e0, rfl, d0, d1⟩ := locs_cells hl (k := 0) (by simp)
        obtain rfl : p1 = p' := by simpa using e0
        simp only [Nat.zero_mul, Nat.add_zero, List.length_cons, List.length_nil, Nat.zero_add] at d0 d1 ⊢
        have f1 : w2.heap.size ≤ q1 := hf q1 u1 none rfl
        have g1 : q1 < w3.heap.size := World.block_lt_of_cell? _ _ d0
        have s3 := hb.size
        replace h4 := block_ext hb h4
        replace h5 := block_ext hb h5
        refine ⟨Or.inr ⟨⟨_, Q2.ext hb⟩, rfl⟩, ?_⟩
        try simp only [Act.put, List.setIfInBounds_toArray, List.set_cons_succ, List.set_cons_zero]
        have Q3 : CQ W [(q1, u1, p1)] w3 := CQ.cons (Q2.ext hb) d0 d1
        refine z_mono (S' := fun w' => ∃ n : ClsW (CQ W [(q1, u1, p1)]), w' = n.val) (fun w' ⟨n, e⟩ => ⟨⟨w', by rw [e]; exact CQ.tail n.prop⟩, rfl⟩) ?_
        have hne : Nonempty (ClsW (CQ W [(q1, u1, p1)])) := ⟨⟨_, Q3⟩⟩
        have r0 : ∀ n : ClsW (CQ W [(q1, u1, p1)]), n.val.cell? ⟨q1, u1, none⟩ = some (.bool p1.1) := fun n => (n.prop.2 _ (List.mem_cons_self ..)).1
        have r1 : ∀ n : ClsW (CQ W [(q1, u1, p1)]), n.val.cell? ⟨q1, u1 + 1, none⟩ = some (.int .i64 p1.2) := fun n => (n.prop.2 _ (List.mem_cons_self ..)).2
        clear hb hl hf d0 d1 e0
        refine z_reads 6 2 (by kernel_rfl) ⟨⟨_, Q3⟩, rfl⟩ ?_
        simp only [List.take_succ_cons, List.take_zero, List.drop_succ_cons, List.drop_zero]
        repeat (go_big_quiet_step (fail))
        refine wpQuiet_nil ?_
        refine z_one 13 (by kernel_rfl) ?_
        refine wpOp_at rfl rfl ?_
        go_simp
        refine (writes_new m r.d a1 a2 r.aa n1 c1 n2 c2 r.na r.ca w3 HM.out.2.2.2.2.2.2.2 HOK.out.2.2.2.1 HKD.out).mono ?_
        rintro e w4 ⟨la2, lc2, rfl, ⟨hl, hf⟩, hb⟩
        rw [HP2.out] at hl ⊢
        obtain ⟨p', q2, u2, e0, rfl, d0, d1⟩ := locs_cells hl (k := 0) (by simp)
        obtain rfl : p2 = p' := by simpa using e0
        simp only [Nat.zero_mul, Nat.add_zero, List.length_cons, List.length_nil, Nat.zero_add] at d0 d1 ⊢
        have f2 : w3.heap.size ≤ q2 := hf q2 u2 none rfl
        have g2 : q2 < w4.heap.size := World.block_lt_of_cell? _ _ d0
        have s4 := hb.size
        replace h4 := block_ext hb h4
        replace h5 := block_ext hb h5
        refine ⟨Or.inr ⟨⟨_, Q3.ext hb⟩, rfl⟩, ?_⟩
        try simp only [Act.put, List.setIfInBounds_toArray, List.set_cons_succ, List.set_cons_zero]
        have Q4 : CQ W [(q2, u2, p2), (q1, u1, p1)] w4 := CQ.cons (Q3.ext hb) d0 d1
        refine z_mono (S' := fun w' => ∃ n : ClsW (CQ W [(q2, u2, p2), (q1, u1, p1)]), w' = n.val) (fun w' ⟨n, e⟩ => ⟨⟨w', by rw [e]; exact CQ.tail n.prop⟩, rfl⟩) ?_
        have hne : Nonempty (ClsW (CQ W [(q2, u2, p2), (q1, u1, p1)])) := ⟨⟨_, Q4⟩⟩
        have r0 : ∀ n : ClsW (CQ W [(q2, u2, p2), (q1, u1, p1)]), n.val.cell? ⟨q2, u2, none⟩ = some (.bool p2.1) := fun n => (n.prop.2 _ (List.mem_cons_self ..)).1
        have r1 : ∀ n : ClsW (CQ W [(q2, u2, p2), (q1, u1, p1)]), n.val.cell? ⟨q2, u2 + 1, none⟩ = some (.int .i64 p2.2) := fun n => (n.prop.2 _ (List.mem_cons_self ..)).2
        clear hb hl hf d0 d1 e0
        refine z_reads 14 2 (by kernel_rfl) ⟨⟨_, Q4⟩, rfl⟩ ?_
        simp only [List.take_succ_cons, List.take_zero, List.drop_succ_cons, List.drop_zero]
        repeat (go_big_quiet_step (fail))
        refine wpQuiet_nil ?_
        have y1 := z1.out
        have y2 := z2.out
        have b0 := Q4.1.size
        have bb0 := Q0.1.size
        refine z_one 18 (by kernel_rfl) ?_
        refine wpOp_at rfl rfl ?_
        refine wp_store_row 34 _ _ rfl (w0.heap.size) #[.bool p1.1, .int .i64 p1.2] rfl rfl 34 _ h4 size_loc rfl (by simp [Value.oneCell']) ?_
        have h5' : (w4.setRow (w0.heap.size) #[.bool p1.1, .int .i64 p1.2]).heap[w1.heap.size]? = some (locO (false, 0)) := (setRow_other _ _ _ _ (by omega)).trans h5
        refine ⟨Or.inr ⟨⟨_, CQ.setRow Q4 (by omega) (by intro t ht; simp only [List.mem_cons, List.not_mem_nil, or_false] at ht; rcases ht with rfl | rfl <;> (simp only; omega))⟩, rfl⟩, ?_⟩
        try simp only [Act.put, List.setIfInBounds_toArray, List.set_cons_succ, List.set_cons_zero]
        refine z_one 19 (by kernel_rfl) ?_
        refine wpOp_at rfl rfl ?_
        refine wp_store_row 34 _ _ rfl (w1.heap.size) #[.bool p2.1, .int .i64 p2.2] rfl rfl 34 _ h5' size_loc rfl (by simp [Value.oneCell']) ?_
        refine ⟨Or.inl (by kernel_rfl), ?_⟩
        try simp only [Act.put, List.setIfInBounds_toArray, List.set_cons_succ, List.set_cons_zero]
        refine z_done (by kernel_rfl) ?_
        go_wp2_with fail
        go_meet
        exact ⟨w0.heap.size, w1.heap.size, rfl, rfl, by omega, by omega, by omega, (setRow_other _ _ _ _ (by omega)).trans (setRow_heap _ _ _ _ _ _ h4), setRow_heap _ _ _ _ _ _ h5', below_setRow (below_setRow Q4.1 (by omega) _) (by omega) _⟩
    · refine wpOp_at rfl rfl ?_
      go_simp
      obtain ⟨w1, hw⟩ : ∃ x, x = w0.alloc (locO (false, 0)) := ⟨_, rfl⟩
      rw [show w0.alloc (Obj.cells #[.bool false, .int .i64 0] 34) = w1 from hw.symm]
      have hb : Below w0.heap.size w0 w1 := by rw [hw]; exact ext_alloc _ _
      have z1 : Hid (w1.heap.size = w0.heap.size + 1) := by rw [Hid, hw]; simp
      have h5 : w1.heap[w0.heap.size]? = some (locO (false, 0)) := by rw [hw]; exact heap_alloc_new _ _
      clear hw
      refine ⟨Or.inr ⟨⟨_, Q0.ext hb⟩, rfl⟩, ?_⟩
      try simp only [Act.put, List.setIfInBounds_toArray, List.set_cons_succ, List.set_cons_zero]
      have Q1 := Q0.ext hb
      clear hb
      refine z_two 5 16 (by kernel_rfl) ?_ ?_
      · refine wpOp_at rfl rfl ?_
        go_simp
        refine (reads_new m r.d a1 a2 r.aa n1 c1 n2 c2 r.na r.ca w1 ((HM.out.ext (ext_trans HB.out Q1.1)).1) HM.out.2.2.2.2.1 HM.out.2.2.1 HOK.out.2.2.2.2.1 HOK.out.2.2.2.2.2.1 HOK.out.2.2.2.2.2.2.2.2 HKD.out).mono ?_
        rintro e w2 ⟨la1, lc1, rfl, ⟨hl, hf⟩, hb⟩
        rw [HP1.out] at hl ⊢
        obtain ⟨p', q1, u1, e0, rfl, d0, d1⟩ := locs_cells hl (k := 0) (by simp)
        obtain rfl : p1 = p' := by simpa using e0
        simp only [Nat.zero_mul, Nat.add_zero, List.length_cons, List.length_nil, Nat.zero_add] at d0 d1 ⊢
        have f1 : w1.heap.size ≤ q1 := hf q1 u1 none rfl
        have g1 : q1 < w2.heap.size := World.block_lt_of_cell? _ _ d0
        have s2 := hb.size
        replace h5 := block_ext hb h5
        refine ⟨Or.inr ⟨⟨_, Q1.ext hb⟩, rfl⟩, ?_⟩
        try simp only [Act.put, List.setIfInBounds_toArray, List.set_cons_succ, List.set_cons_zero]
        have Q2 : CQ W [(q1, u1, p1)] w2 := CQ.cons (Q1.ext hb) d0 d1
        refine z_mono (S' := fun w' => ∃ n : ClsW (CQ W [(q1, u1, p1)]), w' = n.val) (fun w' ⟨n, e⟩ => ⟨⟨w', by rw [e]; exact CQ.tail n.prop⟩, rfl⟩) ?_
        have hne : Nonempty (ClsW (CQ W [(q1, u1, p1)])) := ⟨⟨_, Q2⟩⟩
        have r0 : ∀ n : ClsW (CQ W [(q1, u1, p1)]), n.val.cell? ⟨q1, u1, none⟩ = some (.bool p1.1) := fun n => (n.prop.2 _ (List.mem_cons_self ..)).1
        have r1 : ∀ n : ClsW (CQ W [(q1, u1, p1)]), n.val.cell? ⟨q1, u1 + 1, none⟩ = some (.int .i64 p1.2) := fun n => (n.prop.2 _ (List.mem_cons_self ..)).2
        clear hb hl hf d0 d1 e0
        refine z_reads 6 2 (by kernel_rfl) ⟨⟨_, Q2⟩, rfl⟩ ?_
        simp only [List.take_succ_cons, List.take_zero, List.drop_succ_cons, List.drop_zero]
        repeat (go_big_quiet_step (fail))
        refine wpQuiet_nil ?_
        refine z_two 13 16 (by kernel_rfl) ?_ ?_
        · refine wpOp_at rfl rfl ?_
          go_simp
          refine (writes_new m r.d a1 a2 r.aa n1 c1 n2 c2 r.na r.ca w2 HM.out.2.2.2.2.2.2.2 HOK.out.2.2.2.1 HKD.out).mono ?_
          rintro e w3 ⟨la2, lc2, rfl, ⟨hl, hf⟩, hb⟩
          rw [HP2.out] at hl ⊢
          obtain ⟨p', q2, u2, e0, rfl, d0, d1⟩ := locs_cells hl (k := 0) (by simp)
          obtain rfl : p2 = p' := by simpa using e0
          simp only [Nat.zero_mul, Nat.add_zero, List.length_cons, List.length_nil, Nat.zero_add] at d0 d1 ⊢
          have f2 : w2.heap.size ≤ q2 := hf q2 u2 none rfl
          have g2 : q2 < w3.heap.size := World.block_lt_of_cell? _ _ d0
          have s3 := hb.size
          replace h5 := block_ext hb h5
          refine ⟨Or.inr ⟨⟨_, Q2.ext hb⟩, rfl⟩, ?_⟩
          try simp only [Act.put, List.setIfInBounds_toArray, List.set_cons_succ, List.set_cons_zero]
          have Q3 : CQ W [(q2, u2, p2), (q1, u1, p1)] w3 := CQ.cons (Q2.ext hb) d0 d1
          refine z_mono (S' := fun w' => ∃ n : ClsW (CQ W [(q2, u2, p2), (q1, u1, p1)]), w' = n.val) (fun w' ⟨n, e⟩ => ⟨⟨w', by rw [e]; exact CQ.tail n.prop⟩, rfl⟩) ?_
          have hne : Nonempty (ClsW (CQ W [(q2, u2, p2), (q1, u1, p1)])) := ⟨⟨_, Q3⟩⟩
          have r0 : ∀ n : ClsW (CQ W [(q2, u2, p2), (q1, u1, p1)]), n.val.cell? ⟨q2, u2, none⟩ = some (.bool p2.1) := fun n => (n.prop.2 _ (List.mem_cons_self ..)).1
          have r1 : ∀ n : ClsW (CQ W [(q2, u2, p2), (q1, u1, p1)]), n.val.cell? ⟨q2, u2 + 1, none⟩ = some (.int .i64 p2.2) := fun n => (n.prop.2 _ (List.mem_cons_self ..)).2
          clear hb hl hf d0 d1 e0
          refine z_reads 14 2 (by kernel_rfl) ⟨⟨_, Q3⟩, rfl⟩ ?_
          simp only [List.take_succ_cons, List.take_zero, List.drop_succ_cons, List.drop_zero]
          repeat (go_big_quiet_step (fail))
          refine wpQuiet_nil ?_
          refine z_one 16 (by kernel_rfl) ?_
          refine wpOp_at rfl rfl ?_
          go_simp
          obtain ⟨w4, hw⟩ : ∃ x, x = w3.alloc (locO (false, 0)) := ⟨_, rfl⟩
          rw [show w3.alloc (Obj.cells #[.bool false, .int .i64 0] 34) = w4 from hw.symm]
          have hb : Below w3.heap.size w3 w4 := by rw [hw]; exact ext_alloc _ _
          have z4 : Hid (w4.heap.size = w3.heap.size + 1) := by rw [Hid, hw]; simp
          replace h5 := block_ext hb h5
          have h4 : w4.heap[w3.heap.size]? = some (locO (false, 0)) := by rw [hw]; exact heap_alloc_new _ _
          clear hw
          refine ⟨Or.inr ⟨⟨_, Q3.ext hb⟩, rfl⟩, ?_⟩
          try simp only [Act.put, List.setIfInBounds_toArray, List.set_cons_succ, List.set_cons_zero]
          have Q4 := Q3.ext hb
          clear hb
          have y1 := z1.out
          have y4 := z4.out
          have b0 := Q4.1.size
          have bb0 := Q0.1.size
          refine z_one 18 (by kernel_rfl) ?_
          refine wpOp_at rfl rfl ?_
          refine wp_store_row 34 _ _ rfl (w3.heap.size) #[.bool p1.1, .int .i64 p1.2] rfl rfl 34 _ h4 size_loc rfl (by simp [Value.oneCell']) ?_
          have h5' : (w4.setRow (w3.heap.size) #[.bool p1.1, .int .i64 p1.2]).heap[w0.heap.size]? = some (locO (false, 0)) := (setRow_other _ _ _ _ (by omega)).trans h5
          refine ⟨Or.inr ⟨⟨_, CQ.setRow Q4 (by omega) (by intro t ht; simp only [List.mem_cons, List.not_mem_nil, or_false] at ht; rcases ht with rfl | rfl <;> (simp only; omega))⟩, rfl⟩, ?_⟩
          try simp only [Act.put, List.setIfInBounds_toArray, List.set_cons_succ, List.set_cons_zero]
          refine z_one 19 (by kernel_rfl) ?_
          refine wpOp_at rfl rfl ?_
          refine wp_store_row 34 _ _ rfl (w0.heap.size) #[.bool p2.1, .int .i64 p2.2] rfl rfl 34 _ h5' size_loc rfl (by simp [Value.oneCell']) ?_
          refine ⟨Or.inl (by kernel_rfl), ?_⟩
          try simp only [Act.put, List.setIfInBounds_toArray, List.set_cons_succ, List.set_cons_zero]
          refine z_done (by kernel_rfl) ?_
          go_wp2_with fail
          go_meet
          exact ⟨w3.heap.size, w0.heap.size, rfl, rfl, by omega, by omega, by omega, (setRow_other _ _ _ _ (by omega)).trans (setRow_heap _ _ _ _ _ _ h4), setRow_heap _ _ _ _ _ _ h5', below_setRow (below_setRow Q4.1 (by omega) _) (by omega) _⟩
        · refine wpOp_at rfl rfl ?_
          go_simp
          obtain ⟨w3, hw⟩ : ∃ x, x = w2.alloc (locO (false, 0)) := ⟨_, rfl⟩
          rw [show w2.alloc (Obj.cells #[.bool false, .int .i64 0] 34) = w3 from hw.symm]
          have hb : Below w2.heap.size w2 w3 := by rw [hw]; exact ext_alloc _ _
          have z3 : Hid (w3.heap.size = w2.heap.size + 1) := by rw [Hid, hw]; simp
          replace h5 := block_ext hb h5
          have h4 : w3.heap[w2.heap.size]? = some (locO (false, 0)) := by rw [hw]; exact heap_alloc_new _ _
          clear hw
          refine ⟨Or.inr ⟨⟨_, Q2.ext hb⟩, rfl⟩, ?_⟩
          try simp only [Act.put, List.setIfInBounds_toArray, List.set_cons_succ, List.set_cons_zero]
          have Q3 := Q2.ext hb
          clear hb
          refine z_one 13 (by kernel_rfl) ?_
          refine wpOp_at rfl rfl ?_
          go_simp
          refine (writes_new m r.d a1 a2 r.aa n1 c1 n2 c2 r.na r.ca w3 HM.out.2.2.2.2.2.2.2 HOK.out.2.2.2.1 HKD.out).mono ?_
          rintro e w4 ⟨la2, lc2, rfl, ⟨hl, hf⟩, hb⟩
          rw [HP2.out] at hl ⊢
          obtain ⟨p', q2, u2, e0, rfl, d0, d1⟩ := locs_cells hl (k := 0) (by simp)
          obtain rfl : p2 = p' := by simpa using e0
          simp only [Nat.zero_mul, Nat.add_zero, List.length_cons, List.length_nil, Nat.zero_add] at d0 d1 ⊢
          have f2 : w3.heap.size ≤ q2 := hf q2 u2 none rfl
          have g2 : q2 < w4.heap.size := World.block_lt_of_cell? _ _ d0
          have s4 := hb.size
          replace h4 := block_ext hb h4
          replace h5 := block_ext hb h5
          refine ⟨Or.inr ⟨⟨_, Q3.ext hb⟩, rfl⟩, ?_⟩
          try simp only [Act.put, List.setIfInBounds_toArray, List.set_cons_succ, List.set_cons_zero]
          have Q4 : CQ W [(q2, u2, p2), (q1, u1, p1)] w4 := CQ.cons (Q3.ext hb) d0 d1
          refine z_mono (S' := fun w' => ∃ n : ClsW (CQ W [(q2, u2, p2), (q1, u1, p1)]), w' = n.val) (fun w' ⟨n, e⟩ => ⟨⟨w', by rw [e]; exact CQ.tail n.prop⟩, rfl⟩) ?_
          have hne : Nonempty (ClsW (CQ W [(q2, u2, p2), (q1, u1, p1)])) := ⟨⟨_, Q4⟩⟩
          have r0 : ∀ n : ClsW (CQ W [(q2, u2, p2), (q1, u1, p1)]), n.val.cell? ⟨q2, u2, none⟩ = some (.bool p2.1) := fun n => (n.prop.2 _ (List.mem_cons_self ..)).1
          have r1 : ∀ n : ClsW (CQ W [(q2, u2, p2), (q1, u1, p1)]), n.val.cell? ⟨q2, u2 + 1, none⟩ = some (.int .i64 p2.2) := fun n => (n.prop.2 _ (List.mem_cons_self ..)).2
          clear hb hl hf d0 d1 e0
          refine z_reads 14 2 (by kernel_rfl) ⟨⟨_, Q4⟩, rfl⟩ ?_
          simp only [List.take_succ_cons, List.take_zero, List.drop_succ_cons, List.drop_zero]
          repeat (go_big_quiet_step (fail))
          refine wpQuiet_nil ?_
          have y1 := z1.out
          have y3 := z3.out
          have b0 := Q4.1.size
          have bb0 := Q0.1.size
          refine z_one 18 (by kernel_rfl) ?_
          refine wpOp_at rfl rfl ?_
          refine wp_store_row 34 _ _ rfl (w2.heap.size) #[.bool p1.1, .int .i64 p1.2] rfl rfl 34 _ h4 size_loc rfl (by simp [Value.oneCell']) ?_
          have h5' : (w4.setRow (w2.heap.size) #[.bool p1.1, .int .i64 p1.2]).heap[w0.heap.size]? = some (locO (false, 0)) := (setRow_other _ _ _ _ (by omega)).trans h5
          refine ⟨Or.inr ⟨⟨_, CQ.setRow Q4 (by omega) (by intro t ht; simp only [List.mem_cons, List.not_mem_nil, or_false] at ht; rcases ht with rfl | rfl <;> (simp only; omega))⟩, rfl⟩, ?_⟩
          try simp only [Act.put, List.setIfInBounds_toArray, List.set_cons_succ, List.set_cons_zero]
          refine z_one 19 (by kernel_rfl) ?_
          refine wpOp_at rfl rfl ?_
          refine wp_store_row 34 _ _ rfl (w0.heap.size) #[.bool p2.1, .int .i64 p2.2] rfl rfl 34 _ h5' size_loc rfl (by simp [Value.oneCell']) ?_
          refine ⟨Or.inl (by kernel_rfl), ?_⟩
          try simp only [Act.put, List.setIfInBounds_toArray, List.set_cons_succ, List.set_cons_zero]
          refine z_done (by kernel_rfl) ?_
          go_wp2_with fail
          go_meet
          exact ⟨w2.heap.size, w0.heap.size, rfl, rfl, by omega, by omega, by omega, (setRow_other _ _ _ _ (by omega)).trans (setRow_heap _ _ _ _ _ _ h4), setRow_heap _ _ _ _ _ _ h5', below_setRow (below_setRow Q4.1 (by omega) _) (by omega) _⟩
      · refine wpOp_at rfl rfl ?_
        go_simp
        obtain ⟨w2, hw⟩ : ∃ x, x = w1.alloc (locO (false, 0)) := ⟨_, rfl⟩
        rw [show w1.alloc (Obj.cells #[.bool false, .int .i64 0] 34) = w2 from hw.symm]
        have hb : Below w1.heap.size w1 w2 := by rw [hw]; exact ext_alloc _ _
        have z2 : Hid (w2.heap.size = w1.heap.size + 1) := by rw [Hid, hw]; simp
        replace h5 := block_ext hb h5
        have h4 : w2.heap[w1.heap.size]? = some (locO (false, 0)) := by rw [hw]; exact heap_alloc_new _ _
        clear hw
        refine ⟨Or.inr ⟨⟨_, Q1.ext hb⟩, rfl⟩, ?_⟩
        try simp only [Act.put, List.setIfInBounds_toArray, List.set_cons_succ, List.set_cons_zero]
        have Q2 := Q1.ext hb
        clear hb
        refine z_one 5 (by kernel_rfl) ?_
        refine wpOp_at rfl rfl ?_
        go_simp
        refine (reads_new m r.d a1 a2 r.aa n1 c1 n2 c2 r.na r.ca w2 ((HM.out.ext (ext_trans HB.out Q2.1)).1) HM.out.2.2.2.2.1 HM.out.2.2.1 HOK.out.2.2.2.2.1 HOK.out.2.2.2.2.2.1 HOK.out.2.2.2.2.2.2.2.2 HKD.out).mono ?_
        rintro e w3 ⟨la1, lc1, rfl, ⟨hl, hf⟩, hb⟩
        rw [HP1.out] at hl ⊢
        obtain ⟨p', q1, u1, e0, rfl, d0, d1⟩ := locs_cells hl (k := 0) (by simp)
        obtain rfl : p1 = p' := by simpa using e0
        simp only [Nat.zero_mul, Nat.add_zero, List.length_cons, List.length_nil, Nat.zero_add] at d0 d1 ⊢
        have f1 : w2.heap.size ≤ q1 := hf q1 u1 none rfl
        have g1 : q1 < w3.heap.size := World.block_lt_of_cell? _ _ d0
        have s3 := hb.size
        replace h4 := block_ext hb h4
        replace h5 := block_ext hb h5
        refine ⟨Or.inr ⟨⟨_, Q2.ext hb⟩, rfl⟩, ?_⟩
        try simp only [Act.put, List.setIfInBounds_toArray, List.set_cons_succ, List.set_cons_zero]
        have Q3 : CQ W [(q1, u1, p1)] w3 := CQ.cons (Q2.ext hb) d0 d1
        refine z_mono (S' := fun w' => ∃ n : ClsW (CQ W [(q1, u1, p1)]), w' = n.val) (fun w' ⟨n, e⟩ => ⟨⟨w', by rw [e]; exact CQ.tail n.prop⟩, rfl⟩) ?_
        have hne : Nonempty (ClsW (CQ W [(q1, u1, p1)])) := ⟨⟨_, Q3⟩⟩
        have r0 : ∀ n : ClsW (CQ W [(q1, u1, p1)]), n.val.cell? ⟨q1, u1, none⟩ = some (.bool p1.1) := fun n => (n.prop.2 _ (List.mem_cons_self ..)).1
        have r1 : ∀ n : ClsW (CQ W [(q1, u1, p1)]), n.val.cell? ⟨q1, u1 + 1, none⟩ = some (.int .i64 p1.2) := fun n => (n.prop.2 _ (List.mem_cons_self ..)).2
        clear hb hl hf d0 d1 e0
        refine z_reads 6 2 (by kernel_rfl) ⟨⟨_, Q3⟩, rfl⟩ ?_
        simp only [List.take_succ_cons, List.take_zero, List.drop_succ_cons, List.drop_zero]
        repeat (go_big_quiet_step (fail))
        refine wpQuiet_nil ?_
        refine z_one 13 (by kernel_rfl) ?_
        refine wpOp_at rfl rfl ?_
        go_simp
        refine (writes_new m r.d a1 a2 r.aa n1 c1 n2 c2 r.na r.ca w3 HM.out.2.2.2.2.2.2.2 HOK.out.2.2.2.1 HKD.out).mono ?_
        rintro e w4 ⟨la2, lc2, rfl, ⟨hl, hf⟩, hb⟩
        rw [HP2.out] at hl ⊢
        obtain ⟨p', q2, u2, e0, rfl, d0, d1⟩ := locs_cells hl (k := 0) (by simp)
        obtain rfl : p2 = p' := by simpa using e0
        simp only [Nat.zero_mul, Nat.add_zero, List.length_cons, List.length_nil, Nat.zero_add] at d0 d1 ⊢
        have f2 : w3.heap.size ≤ q2 := hf q2 u2 none rfl
        have g2 : q2 < w4.heap.size := World.block_lt_of_cell? _ _ d0
        have s4 := hb.size
        replace h4 := block_ext hb h4
        replace h5 := block_ext hb h5
        refine ⟨Or.inr ⟨⟨_, Q3.ext hb⟩, rfl⟩, ?_⟩
        try simp only [Act.put, List.setIfInBounds_toArray, List.set_cons_succ, List.set_cons_zero]
        have Q4 : CQ W [(q2, u2, p2), (q1, u1, p1)] w4 := CQ.cons (Q3.ext hb) d0 d1
        refine z_mono (S' := fun w' => ∃ n : ClsW (CQ W [(q2, u2, p2), (q1, u1, p1)]), w' = n.val) (fun w' ⟨n, e⟩ => ⟨⟨w', by rw [e]; exact CQ.tail n.prop⟩, rfl⟩) ?_
        have hne : Nonempty (ClsW (CQ W [(q2, u2, p2), (q1, u1, p1)])) := ⟨⟨_, Q4⟩⟩
        have r0 : ∀ n : ClsW (CQ W [(q2, u2, p2), (q1, u1, p1)]), n.val.cell? ⟨q2, u2, none⟩ = some (.bool p2.1) := fun n => (n.prop.2 _ (List.mem_cons_self ..)).1
        have r1 : ∀ n : ClsW (CQ W [(q2, u2, p2), (q1, u1, p1)]), n.val.cell? ⟨q2, u2 + 1, none⟩ = some (.int .i64 p2.2) := fun n => (n.prop.2 _ (List.mem_cons_self ..)).2
        clear hb hl hf d0 d1 e0
        refine z_reads 14 2 (by kernel_rfl) ⟨⟨_, Q4⟩, rfl⟩ ?_
        simp only [List.take_succ_cons, List.take_zero, List.drop_succ_cons, List.drop_zero]
        repeat (go_big_quiet_step (fail))
        refine wpQuiet_nil ?_
        have y1 := z1.out
        have y2 := z2.out
        have b0 := Q4.1.size
        have bb0 := Q0.1.size
        refine z_one 18 (by kernel_rfl) ?_
        refine wpOp_at rfl rfl ?_
        refine wp_store_row 34 _ _ rfl (w1.heap.size) #[.bool p1.1, .int .i64 p1.2] rfl rfl 34 _ h4 size_loc rfl (by simp [Value.oneCell']) ?_
        have h5' : (w4.setRow (w1.heap.size) #[.bool p1.1, .int .i64 p1.2]).heap[w0.heap.size]? = some (locO (false, 0)) := (setRow_other _ _ _ _ (by omega)).trans h5
        refine ⟨Or.inr ⟨⟨_, CQ.setRow Q4 (by omega) (by intro t ht; simp only [List.mem_cons, List.not_mem_nil, or_false] at ht; rcases ht with rfl | rfl <;> (simp only; omega))⟩, rfl⟩, ?_⟩
        try simp only [Act.put, List.setIfInBounds_toArray, List.set_cons_succ, List.set_cons_zero]
        refine z_one 19 (by kernel_rfl) ?_
        refine wpOp_at rfl rfl ?_
        refine wp_store_row 34 _ _ rfl (w0.heap.size) #[.bool p2.1, .int .i64 p2.2] rfl rfl 34 _ h5' size_loc rfl (by simp [Value.oneCell']) ?_
        refine ⟨Or.inl (by kernel_rfl), ?_⟩
        try simp only [Act.put, List.setIfInBounds_toArray, List.set_cons_succ, List.set_cons_zero]
        refine z_done (by kernel_rfl) ?_
        go_wp2_with fail
        go_meet
        exact ⟨w1.heap.size, w0.heap.size, rfl, rfl, by omega, by omega, by omega, (setRow_other _ _ _ _ (by omega)).trans (setRow_heap _ _ _ _ _ _ h4), setRow_heap _ _ _ _ _ _ h5', below_setRow (below_setRow Q4.1 (by omega) _) (by omega) _⟩
  case rest =>
    obtain ⟨p4, p5, rfl, rfl, hp4, hp5, hne45, h4, h5, hb1⟩ := hcut
    obtain ⟨w1, rfl⟩ : ∃ w1, w1 = wc := ⟨_, rfl⟩
    have HW1 := Lib.hid (HW.out.ext hb1)
    have H4 := Lib.hid h4
    have H5 := Lib.hid h5
    have HB1 := Lib.hid (ext_trans HB.out hb1)
    have hsz1 := hb1.size
    have HSL := Lib.hid hsz1
    have HLB := Lib.hid HW.out.lt
    clear hb1 h4 h5 hsz1 C1 C2 C3 C4 HI HM HOK HP1 HP2 HW
    go_upto_region 2 with (fail)
    have hne : Nonempty (ExtW w1) := ⟨⟨w1, Below.refl _ _⟩⟩
    have g0 : ∀ n : ExtW w1, n.val.cell? ⟨g, 0, none⟩ = some (.map (some b)) := fun n => ExtW.cell HW1.out.cells.1 n
    have g1 : ∀ n : ExtW w1, n.val.cell? ⟨p4, 0, none⟩ = some (.bool p1.1) := fun n => by rw [cell_of_row _ _ _ _ _ _ (block_ext n.ext H4.out)]; rfl
    have g2 : ∀ n : ExtW w1, n.val.cell? ⟨p4, 1, none⟩ = some (.int .i64 p1.2) := fun n => by rw [cell_of_row _ _ _ _ _ _ (block_ext n.ext H4.out)]; rfl
    refine region_mix (fun w' => ∃ n' : ExtW w1, w' = n'.val) [(0, 5, some (5, true)), (6, 1, none)] (by kernel_rfl) (by kernel_rfl) ⟨⟨_, ext_drewN (Below.refl _ _) 1⟩, rfl⟩ ?_
    simp only [wpMix, List.take_succ_cons, List.take_zero, List.drop_succ_cons, List.drop_zero]
    repeat (go_big_quiet_step (fail))
    refine wpQuiet_nil ?_
    refine wpOp_at rfl rfl ?_
    go_simp
    refine (atW_any m a1 a2 n1 c1 n2 c2 U hU g b K fe p1 w1.drew HW1.out).mono ?_
    rintro e w2 ⟨vl, Out, rfl, ho, hn, hm, hb2⟩
    have hb2 : Below w1.heap.size w1 w2 := unDrew1 hb2
    refine ⟨⟨⟨w2, hb2⟩, rfl⟩, ?_⟩
    obtain ⟨av, cv, rfl⟩ := ho.form
    have HO := Lib.hid (show OwnF w2 w1.heap.size (.slice av Out.length cv) Out from ho)
    have HMm : Hid (∀ y, y ∈ Out ↔ K y = true ∧ y.2 = p1) := fun y => (hm y).trans (and_congr_right fun _ => sameLoc_iff _ _)
    have HW2 := Lib.hid (HW1.out.ext hb2)
    have HB2 := Lib.hid (ext_trans HB1.out hb2)
    have H42 := Lib.hid (block_ext hb2 H4.out)
    have H52 := Lib.hid (block_ext hb2 H5.out)
    have HLen : Hid (Out.length ≤ 1000000000000) := by
      obtain ⟨L, hS, hm', hD⟩ := HW1.out.2
      exact Nat.le_trans (nodup_length_le hn fun x hx => (hm' x).2 ((hm x).1 hx).1) (KS.len hU hS hD)
    clear ho hm hn hb2 H4 H5 HB1
    try simp only [Act.put, List.setIfInBounds_toArray, List.set_cons_succ, List.set_cons_zero]
    repeat (go_big_quiet_step (fail))
    refine wpQuiet_nil ?_
    refine NoPanic.normal ?_
    clear g0 g1 g2 hne
    go_upto_if 33 with (fail)
    go_cut [] (fun wx => Hid (WS m a1 n1 c1 a2 n2 c2 U g b K fe2 wx) ∧ Hid (Chg (WT g b) w2 wx))
    case first =>
      by_cases h0 : Out.length = 0
      · have HE : Hid (fe2 = failV fe 14) := by
          rw [Hid, HFE.out, atV, if_neg]
          rintro ⟨y, hy⟩
          have := (HMm.out y).2 hy
          rw [List.eq_nil_of_length_eq_zero h0] at this
          cases this
        have h0' : ((Out.length : Int) == 0) = true := by simp [h0]
        clear h0
        go_wp2_with (
          (go_at_call 50
           refine (failW_any m a1 a2 n1 c1 n2 c2 U g b K fe 14 w2 HW2.out).mono ?_
           rintro e w3 ⟨rfl, hs3, hc3⟩
           have HS3 := Lib.hid hs3
           have HC3 := Lib.hid hc3
           clear hs3 hc3))
        go_meet
        exact ⟨by rw [Hid, HE.out]; exact HS3.out, HC3⟩
      · have HE : Hid (fe2 = fe) := by
          obtain ⟨y, hy⟩ : ∃ y, y ∈ Out := by
            cases Out with
            | nil => exact absurd rfl h0
            | cons y l => exact ⟨y, by simp⟩
          rw [Hid, HFE.out, atV, if_pos ⟨y, (HMm.out y).1 hy⟩]
        have h0' : ((Out.length : Int) == 0) = false := beq_eq_false_iff_ne.2 (by omega)
        clear h0
        go_wp2
        go_meet
        exact ⟨by rw [Hid, HE.out]; exact HW2.out, Chg.refl _ _⟩
    case rest =>
      obtain ⟨HW3, HC3⟩ := hcut
      obtain ⟨w3, rfl⟩ : ∃ w3, w3 = wc := ⟨_, rfl⟩
      clear HW2 HFE
      have hlt2 := HLB.out
      have NW : Hid (∀ q, W.heap.size ≤ q → ¬ WT g b q) := fun q hq h => by rcases h with h | h <;> omega
      clear hlt2
      have H43 : Hid (w3.heap[p4]? = some (locO p1)) := (HC3.out.block p4 (Array.getElem?_eq_some_iff.1 H42.out).1 (NW.out _ hp4)).trans H42.out
      have H53 : Hid (w3.heap[p5]? = some (locO p2)) := (HC3.out.block p5 (Array.getElem?_eq_some_iff.1 H52.out).1 (NW.out _ hp5)).trans H52.out
      have HOB : Hid (∀ q o, av = some ⟨q, o, none⟩ → W.heap.size ≤ q) := fun q o e => by
        have h1 := (HO.out.low (k := q) (by rw [e]; rfl)).1
        have h2 := HSL.out
        omega
      have HF3 : Hid (FctS w3 av Out.length Out) := recs_chg (HO.out.recs csF_len) HC3.out fun q o e => NW.out q (HOB.out q o e)
      have HCw : Hid (Chg (WT g b) w w3) := ((Chg.refl (WT g b) w).of_ext HB2.out).trans HC3.out
      have hl4 : p4 < w3.heap.size := (Array.getElem?_eq_some_iff.1 H43.out).1
      have hl5 : p5 < w3.heap.size := (Array.getElem?_eq_some_iff.1 H53.out).1
      clear HC3 H42 H52 HO HB2
      have g10 : w3.cell? ⟨p4, 0, none⟩ = some (.bool p1.1) := by rw [cell_of_row _ _ _ _ _ _ H43.out]; rfl
      have g11 : w3.cell? ⟨p4, 1, none⟩ = some (.int .i64 p1.2) := by rw [cell_of_row _ _ _ _ _ _ H43.out]; rfl
      have g20 : w3.cell? ⟨p5, 0, none⟩ = some (.bool p2.1) := by rw [cell_of_row _ _ _ _ _ _ H53.out]; rfl
      have g21 : w3.cell? ⟨p5, 1, none⟩ = some (.int .i64 p2.2) := by rw [cell_of_row _ _ _ _ _ _ H53.out]; rfl
      go_upto_if 38 with (fail)
      clear g10 g11 g20 g21
      cases hpp : sameLoc (p1.1, p1.2) (p2.1, p2.2) with
      | true =>
        have h12 : p1 = p2 := (sameLoc_iff _ _).1 hpp
        subst h12
        clear hpp
        go_wp2
        refine bodyPost_ret (results_none rfl _ _ _) rfl ?_
        refine ⟨rfl, HW3.out.congr fun x => ?_, HCw.out⟩
        unfold stepIn
        split
        · rename_i h
          rw [← (sameLoc_iff _ _).1 h]
        · rfl
      | false =>
        have h12 : p1 ≠ p2 := fun c => by rw [c, (sameLoc_iff (p2.1, p2.2) (p2.1, p2.2)).2 rfl] at hpp; cases hpp
        have H12 := Lib.hid h12
        clear hpp h12
        go_upto_region 6 with (fail)
        have hne : Nonempty (ExtW w3) := ⟨⟨w3, Below.refl _ _⟩⟩
        have g0 : ∀ n : ExtW w3, n.val.cell? ⟨g, 0, none⟩ = some (.map (some b)) := fun n => ExtW.cell HW3.out.cells.1 n
        have g1 : ∀ n : ExtW w3, n.val.cell? ⟨p5, 0, none⟩ = some (.bool p2.1) := fun n => by rw [cell_of_row _ _ _ _ _ _ (block_ext n.ext H53.out)]; rfl
        have g2 : ∀ n : ExtW w3, n.val.cell? ⟨p5, 1, none⟩ = some (.int .i64 p2.2) := fun n => by rw [cell_of_row _ _ _ _ _ _ (block_ext n.ext H53.out)]; rfl
        refine region_mix (fun w' => ∃ n' : ExtW w3, w' = n'.val) [(0, 9, some (9, true)), (10, 0, some (10, false))] (by kernel_rfl) (by kernel_rfl) ⟨⟨_, ext_drewN (Below.refl _ _) 1⟩, rfl⟩ ?_
        simp only [wpMix, List.take_succ_cons, List.take_zero, List.drop_succ_cons, List.drop_zero]
        repeat (go_big_quiet_step (fail))
        refine wpQuiet_nil ?_
        refine wpOp_at rfl rfl ?_
        go_simp
        refine (atW_any m a1 a2 n1 c1 n2 c2 U hU g b K fe2 p2 w3.drew HW3.out).mono ?_
        rintro e w4 ⟨vl4, Out4, rfl, ho4, hn4, hm4, hb4⟩
        have hb4 : Below w3.heap.size w3 w4 := unDrew1 hb4
        refine ⟨⟨⟨w4, hb4⟩, rfl⟩, ?_⟩
        obtain ⟨av4, cv4, rfl⟩ := ho4.form
        refine wpQuiet_nil ?_
        refine wpOp_at rfl rfl ?_
        go_simp
        refine (forgetW_any m a1 a2 n1 c1 n2 c2 U g b K fe2 av4 _ cv4 Out4 w4 (HW3.out.ext hb4) (ho4.recs csF_len)).mono ?_
        rintro e w5 ⟨rfl, hs5, hc5⟩
        have HK5 : Hid (WS m a1 n1 c1 a2 n2 c2 U g b (cutK K Out4) fe2 w5) := hs5
        have hc5' : Chg (WT g b) w4 w5 := hc5.mono fun k hk => .inr hk
        have HFR : Hid (∀ y : Fct, y ∈ Out4 ↔ K y = true ∧ y.2 = p2) := fun y => (hm4 y).trans (and_congr_right fun _ => sameLoc_iff _ _)
        have h55 := block_ext hb4 H53.out
        have H55 : Hid (w5.heap[p5]? = some (locO p2)) := (hc5'.block p5 (Array.getElem?_eq_some_iff.1 h55).1 (NW.out _ hp5)).trans h55
        have HF5 : Hid (FctS w5 av Out.length Out) := recs_chg (HF3.out.ext csF_len hb4) hc5' fun q o e => NW.out q (HOB.out q o e)
        have HCw5 : Hid (Chg (WT g b) w w5) := (HCw.out.of_ext hb4).trans hc5'
        have hl55 : p5 < w5.heap.size := (Array.getElem?_eq_some_iff.1 H55.out).1
        have HW3' := Lib.hid HW3.out.2
        clear ho4 hn4 hm4 hb4 hs5 hc5 hc5' h55 g0 g1 g2 hne HF3 HCw H43 H53 HW3
        refine NoPanic.normal ?_
        have hn := HLen.out
        go_wp2
        go_loopw [8, 52] (fun _ i wr => ∃ k, k ≤ Out.length ∧ i = .int .i64 (k : Nat) ∧ Hid (WS m a1 n1 c1 a2 n2 c2 U g b (addK (cutK K Out4) (Out.take k) fun f => (f.1, p2)) fe2 wr) ∧ Hid (Chg (WT g b) w5 wr)) (fun _ i _ => Out.length - (intOf i).toNat)
        case atStart => exact ⟨0, by omega, rfl, by rw [Hid, List.take_zero, addK_nil]; exact HK5.out, Chg.refl _ _⟩
        case round =>
          obtain ⟨k, hk, rfl, HKr, HCr⟩ := hrel
          by_cases hkl : k < Out.length
          · obtain ⟨x, q, o, hx, rfl, c0, c1, c2⟩ := fcts_cells (recs_chg HF5.out HCr.out fun q o e => NW.out q (HOB.out q o e)) hkl
            have HX := Lib.hid hx
            have hk1 : (k : Int) < (Out.length : Int) := by omega
            have HXM := Lib.hid ((HMm.out x).1 (List.mem_of_getElem? hx)).1
            have H5r : Hid (wr.heap[p5]? = some (locO p2)) := (HCr.out.block p5 hl55 (NW.out _ hp5)).trans H55.out
            clear hx
            obtain ⟨xv, xs, xn⟩ := x
            go_upto_region 10 with (fail)
            obtain ⟨w6, hw6⟩ : ∃ w6, w6 = wr.alloc (fctO xv xs xn) := ⟨_, rfl⟩
            rw [show wr.alloc (Obj.cells #[.int .i64 xv, .bool xs, .int .i64 xn] 36) = w6 from hw6.symm]
            have hb6 : Below wr.heap.size wr w6 := by rw [hw6]; exact ext_alloc _ _
            have hx6 : w6.heap[wr.heap.size]? = some (fctO xv xs xn) := by rw [hw6]; exact heap_alloc_new _ _
            clear hw6 c0 c1 c2
            have HK6 := Lib.hid (HKr.out.ext hb6)
            have HC6 := Lib.hid (HCr.out.of_ext hb6)
            have h56 := block_ext hb6 H5r.out
            have hne : Nonempty (ExtW w6) := ⟨⟨w6, Below.refl _ _⟩⟩
            have g0 : ∀ n : ExtW w6, n.val.cell? ⟨g, 0, none⟩ = some (.map (some b)) := fun n => ExtW.cell HK6.out.cells.1 n
            have g1 : ∀ n : ExtW w6, n.val.cell? ⟨wr.heap.size, 0, none⟩ = some (.int .i64 xv) := fun n => by rw [cell_of_row _ _ _ _ _ _ (block_ext n.ext hx6)]; rfl
            have g2 : ∀ n : ExtW w6, n.val.cell? ⟨p5, 0, none⟩ = some (.bool p2.1) := fun n => by rw [cell_of_row _ _ _ _ _ _ (block_ext n.ext h56)]; rfl
            have g3 : ∀ n : ExtW w6, n.val.cell? ⟨p5, 1, none⟩ = some (.int .i64 p2.2) := fun n => by rw [cell_of_row _ _ _ _ _ _ (block_ext n.ext h56)]; rfl
            clear hb6
            refine region_mix (fun w' => ∃ n' : ExtW w6, w' = n'.val) [(0, 8, some (8, false))] (by kernel_rfl) (by kernel_rfl) ⟨⟨_, ext_drewN (Below.refl _ _) 1⟩, rfl⟩ ?_
            simp only [wpMix, List.take_succ_cons, List.take_zero, List.drop_succ_cons, List.drop_zero]
            repeat (go_big_quiet_step (fail))
            refine wpQuiet_nil ?_
            refine wpOp_at rfl rfl ?_
            obtain ⟨_, L, hS, hm, hD⟩ := HK6.out
            refine op_putM _ _ _ rfl keyF mapT (show FSet w6.drew b L from hS) rfl (xv, p2.1, p2.2) rfl rfl ?_
            intro w7 L7 hs7 hm7 hg7 hz7
            have hg7 : w6.grownBy w7 (some b) := ⟨hg7.os, hg7.tape, hg7.output, hg7.size, hg7.block⟩
            have HK7 : Hid (WS m a1 n1 c1 a2 n2 c2 U g b (addK (cutK K Out4) (Out.take (k + 1)) fun f => (f.1, p2)) fe2 w7) := by
              have hxU : xv ∈ U.V := by
                obtain ⟨L0, _, hm0, hD0⟩ := HW3'.out
                exact (hD0 _ ((hm0 _).2 HXM.out)).1
              refine HK6.out.put hm hD hs7 hm7 ⟨hxU, hP⟩ hg7 fun y => ?_
              have e : Out.take (k + 1) = Out.take k ++ [(xv, xs, xn)] := by rw [List.take_add_one, HX.out]; rfl
              rw [e, addK_snoc]
            have HC7 : Hid (Chg (WT g b) w5 w7) := HC6.out.grown hg7 fun j e => by injection e with e; exact .inl (.inr e.symm)
            clear hS hm hD hs7 hm7 hg7 hz7 g0 g1 g2 g3 hx6 h56
            try simp only [Act.put, List.setIfInBounds_toArray, List.set_cons_succ, List.set_cons_zero]
            refine NoPanic.normal ?_
            go_wp2
            go_roundw
            case rel => exact ⟨k + 1, by omega, by go_num, HK7, HC7⟩
            case measure => simp [intOf]; omega
          · obtain rfl : k = Out.length := by omega
            go_wp2
            go_end0
            refine ⟨rfl, HKr.out.congr fun y => ?_, HCw5.out.trans HCr.out⟩
            rw [List.take_length, Bool.eq_iff_iff]
            unfold stepIn addK cutK
            simp only [Bool.or_eq_true, Bool.and_eq_true, Bool.not_eq_true', decide_eq_false_iff_not, List.any_eq_true, decide_eq_true_eq]
            constructor
            · intro h
              by_cases hy : y.2 = p2
              · rw [if_pos ((sameLoc_iff _ _).2 hy)] at h
                refine .inr ⟨(y.1, p1), (HMm.out _).2 ⟨h, rfl⟩, ?_⟩
                rw [← hy]
              · rw [if_neg (fun c => hy ((sameLoc_iff _ _).1 c))] at h
                exact .inl ⟨h, fun c => hy ((HFR.out y).1 c).2⟩
            · rintro (⟨h1, h2⟩ | ⟨f, hf, rfl⟩)
              · by_cases hy : y.2 = p2
                · exact absurd ((HFR.out y).2 ⟨h1, hy⟩) h2
                · rw [if_neg (fun c => hy ((sameLoc_iff _ _).1 c))]; exact h1
              · have h1 := (HMm.out f).1 hf
                rw [if_pos ((sameLoc_iff _ _).2 rfl), ← h1.2]
                exact h1.1
end
end Go.Proofs.YtfpbfdkjcmlimaaGreat
