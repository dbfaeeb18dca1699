/-
  Flat: mach.Right.
-/
import Derived.Test.YtfpbfdkjcmlimaaGreatFL
import Derived.Test.YtfpbfdkjcmlimaaGreatZed
import Derived.Deep.RegionHeld3
import Derived.Deep.DeepCutAuto
import Derived.Deep.Light
namespace Go.Proofs.YtfpbfdkjcmlimaaGreat
set_option linter.unusedSimpArgs false
set_option linter.unusedVariables false
set_option linter.unusedSectionVars false
set_option maxRecDepth 100000
set_option maxHeartbeats 40000000
section
open Go.RowKit
def rightB (m : MachD) : Bool :=
  decide (1 ≤ m.regs ∧ m.regs ≤ 64) && decide (m.args.length ≤ 8) && decide ((m.saved.length : Int) ≤ m.regs) && sortedB m.saved && ofB m.regs m.args && ofB m.regs (m.ret :: m.saved)
def MachOK (w : World) (m : MachD) (a1 : Option Addr) (n1 c1 : Nat) (a2 : Option Addr) (n2 c2 : Nat) : Prop :=
  Ints w a1 n1 m.args ∧ Ints w a2 n2 m.saved ∧ n1 ≤ c1 ∧ n2 ≤ c2 ∧ n1 ≤ 1000000 ∧ n2 ≤ 1000000 ∧ I64 m.regs ∧ I64 m.ret
theorem MachOK.ext {w w' : World} {m : MachD} {a1 a2 : Option Addr} {n1 c1 n2 c2 : Nat} (h : MachOK w m a1 n1 c1 a2 n2 c2) (hb : Below w.heap.size w w') : MachOK w' m a1 n1 c1 a2 n2 c2 := ⟨h.1.ext hb, h.2.1.ext hb, h.2.2⟩
theorem zero_set (w : World) : (zeroValue 103).run Tryz.prog w = .ok (.agg (setA fun _ => false)) w := by kernel_rfl
theorem info_int : (Tryz.prog.info? 3).map (fun i => (i.zero, i.size, i.bytes)) = some (some (.int .i64 0), 1, 8) := by kernel_rfl
theorem right_no {m : MachD} (h : ¬ (1 ≤ m.regs ∧ m.regs ≤ 64 ∧ m.args.length ≤ 8 ∧ (m.saved.length : Int) ≤ m.regs ∧ sortedB m.saved = true)) : rightB m = false := by
  cases hq : rightB m with
  | false => rfl
  | true =>
    simp only [rightB, Bool.and_eq_true, decide_eq_true_eq] at hq
    exact absurd ⟨hq.1.1.1.1.1.1, hq.1.1.1.1.1.2, hq.1.1.1.1.2, hq.1.1.1.2, hq.1.1.2⟩ h
theorem right_yes {m : MachD} (h : 1 ≤ m.regs ∧ m.regs ≤ 64 ∧ m.args.length ≤ 8 ∧ (m.saved.length : Int) ≤ m.regs ∧ sortedB m.saved = true) : rightB m = (ofB m.regs m.args && ofB m.regs (m.ret :: m.saved)) := by
  simp [rightB, h.1, h.2.1, h.2.2.1, h.2.2.2.1, h.2.2.2.2]
theorem right_odd (m : MachD) (a1 a2 : Option Addr) (n1 c1 n2 c2 : Nat) (w : World) (h : MachOK w m a1 n1 c1 a2 n2 c2) (hno : ¬ (1 ≤ m.regs ∧ m.regs ≤ 64 ∧ m.args.length ≤ 8 ∧ (m.saved.length : Int) ≤ m.regs ∧ sortedB m.saved = true)) :
    Calls Tryz.prog 25 #[machV m a1 n1 c1 a2 n2 c2] w fun e w' => e = .returned (.bool (rightB m)) ∧ Below w.heap.size w w' := by
  obtain ⟨h1, h2, h3, h4, h5, h6, ⟨h7, h8⟩, h9⟩ := h
  have HE := Lib.hid (right_no hno)
  rw [h1.1, h2.1] at hno
  have HN := Lib.hid hno
  have H2 := Lib.hid h2
  clear h1 h2 h9 hno
  have key : ∀ b, sortedB m.saved = b → (b = false ∨ ¬ (1 ≤ m.regs ∧ m.regs ≤ 64 ∧ n1 ≤ 8 ∧ (n2 : Int) ≤ m.regs)) := fun b hb => by
    cases b with
    | false => exact Or.inl rfl
    | true => exact Or.inr (fun hx => HN.out ⟨hx.1, hx.2.1, hx.2.2.1, hx.2.2.2, hb⟩)
  rcases key _ rfl with hs | hs
  · go_enter Tryz.func25, Tryz.ntmps25
    go_wp2_with (first
      | (go_at_call 45
         refine (isSorted_any a2 n2 c2 m.saved _ (H2.out.ext (ext_alloc _ _))).mono ?_
         rw [hs]
         rintro e w1 ⟨rfl, q, hq⟩
         subst hq))
    all_goals
      go_ret
      exact ⟨by rw [HE.out]; rfl, by first | exact ext_alloc _ _ | exact ext_drewN (ext_alloc _ _) _⟩
  · clear key
    go_enter Tryz.func25, Tryz.ntmps25
    go_wp2_with (first
      | (go_at_call 45
         exfalso
         apply hs
         refine ⟨?_, ?_, ?_, ?_⟩ <;> (go_light; omega)))
    all_goals
      go_ret
      exact ⟨by rw [HE.out]; rfl, ext_alloc _ _⟩
theorem right_main (m : MachD) (a1 a2 : Option Addr) (n1 c1 n2 c2 : Nat) (w : World) (h : MachOK w m a1 n1 c1 a2 n2 c2) (hyes : 1 ≤ m.regs ∧ m.regs ≤ 64 ∧ m.args.length ≤ 8 ∧ (m.saved.length : Int) ≤ m.regs ∧ sortedB m.saved = true) :
    Calls Tryz.prog 25 #[machV m a1 n1 c1 a2 n2 c2] w fun e w' => e = .returned (.bool (rightB m)) ∧ Below w.heap.size w w' := by
  obtain ⟨h1, h2, h3, h4, h5, h6, -, h9⟩ := h
  have HE := Lib.hid (right_yes hyes)
  rw [h1.1, h2.1] at hyes
  obtain ⟨g1, g2, g3, g4, g5⟩ := hyes
  have G5 := Lib.hid g5
  have H1 := Lib.hid h1
  have H2 := Lib.hid h2
  have HL1 := Lib.hid h1.1
  have HL2 := Lib.hid h2.1
  have H9 := Lib.hid h9
  clear h1 h2 h9 g5
  go_enter Tryz.func25, Tryz.ntmps25
  go_wp2_with (first
    | (go_at_call 45
       refine (isSorted_any a2 n2 c2 m.saved _ (H2.out.ext (ext_alloc _ _))).mono ?_
       rw [G5.out]
       rintro e w1 ⟨rfl, q, hq⟩
       subst hq)
    | (go_at_call 46
       refine (of_any5 m.regs (by omega) a1 n1 c1 m.args _ (by exact H1.out.ext (ext_drewN (ext_alloc _ _) _))).mono ?_
       rintro e w1 ⟨f, rfl, -, hb⟩
       have HB1 : Hid (Below (w.alloc (machO m a1 n1 c1 a2 n2 c2)).heap.size (w.alloc (machO m a1 n1 c1 a2 n2 c2)) w1) := unDrewN hb
       clear hb)
    | (refine wpList_store_rowB rfl 103 _ _ rfl w1.heap.size (setA f) rfl rfl 103 _ (heap_alloc_new w1 _) (by rw [setA_size]; exact size_set) (by rw [setA_size]; rfl) (setA_all _) _ _ (ext_trans HB1.out (ext_alloc _ _)) HB1.out.size ?_
       intro W0 hb0 _
       have HB0 := Lib.hid hb0
       clear hb0))
  have HW0 : Hid (Below w.heap.size w W0) := ext_trans (ext_alloc _ _) HB0.out
  have hM : ∀ w', Below W0.heap.size W0 w' → w'.heap[w.heap.size]? = some (machO m a1 n1 c1 a2 n2 c2) := fun w' hb => block_ext (ext_trans HB0.out hb) (heap_alloc_new w _)
  have hc0 : ∀ w', Below W0.heap.size W0 w' → w'.cell? ⟨w.heap.size, 0, none⟩ = some (.int .i64 m.regs) := fun w' hb => by rw [cell_of_row _ _ _ _ _ _ (hM w' hb)]; rfl
  have hc2 : ∀ w', Below W0.heap.size W0 w' → w'.cell? ⟨w.heap.size, 2, none⟩ = some (.int .i64 m.ret) := fun w' hb => by rw [cell_of_row _ _ _ _ _ _ (hM w' hb)]; rfl
  have hc3 : ∀ w', Below W0.heap.size W0 w' → w'.cell? ⟨w.heap.size, 3, none⟩ = some (.slice a2 n2 c2) := fun w' hb => by rw [cell_of_row _ _ _ _ _ _ (hM w' hb)]; rfl
  have k0 : ∀ n : ExtW W0, n.val.cell? ⟨w.heap.size, 0, none⟩ = some (.int .i64 m.regs) := fun n => hc0 _ n.ext
  have k2 : ∀ n : ExtW W0, n.val.cell? ⟨w.heap.size, 2, none⟩ = some (.int .i64 m.ret) := fun n => hc2 _ n.ext
  have k3 : ∀ n : ExtW W0, n.val.cell? ⟨w.heap.size, 3, none⟩ = some (.slice a2 n2 c2) := fun n => hc3 _ n.ext
  clear hM hc0 hc2 hc3
  have HI64 : Hid (∀ x ∈ m.ret :: m.saved, I64 x) := fun x hx => by
    rcases List.mem_cons.1 hx with rfl | hx
    · exact H9.out
    · exact H2.out.mem x hx
  go_cut [6] (fun s6 wx => s6 = .bool (ofB m.regs (m.ret :: m.saved)) ∧ Hid (Below w.heap.size w wx))
  case first =>
    refine z_start (fun w' => ∃ n : ExtW W0, w' = n.val) (by kernel_rfl) ?_
    obtain ⟨w0, E0, hw0⟩ : ∃ w0, Below W0.heap.size W0 w0 ∧ W0.drew = w0 := ⟨_, ext_drewN (Below.refl _ _) 1, rfl⟩
    rw [hw0]
    clear hw0
    refine z_reads 0 4 (by kernel_rfl) ⟨⟨_, E0⟩, rfl⟩ ?_
    simp only [List.take_succ_cons, List.take_zero, List.drop_succ_cons, List.drop_zero]
    repeat (go_big_quiet_step (fail))
    refine wpQuiet_nil ?_
    refine z_reads 5 2 (by kernel_rfl) ⟨⟨_, E0⟩, rfl⟩ ?_
    simp only [List.take_succ_cons, List.take_zero, List.drop_succ_cons, List.drop_zero]
    repeat (go_big_quiet_step (fail))
    refine wpQuiet_nil ?_
    refine z_two 4 12 (by kernel_rfl) ?_ ?_
    · refine wpOp_at rfl rfl ?_
      go_simp
      have E1 : Below W0.heap.size W0 (w0.alloc (.cells #[.int .i64 m.ret] 3)) := ext_trans E0 (ext_alloc _ _)
      have FB : (w0.alloc (.cells #[.int .i64 m.ret] 3)).ownsRow W0.heap.size 3 1 (.slice (some ⟨w0.heap.size, 0, none⟩) 1 1) 1 [.int .i64 m.ret] := World.ownsRow_lit _ #[.int .i64 m.ret] 1 E0.size (by unfold maxLen; omega) rfl
      refine ⟨Or.inr ⟨⟨_, E1⟩, rfl⟩, ?_⟩
      try simp only [Act.put, List.setIfInBounds_toArray, List.set_cons_succ, List.set_cons_zero]
      generalize w0.heap.size = gB at *
      generalize w0.alloc (.cells #[.int .i64 m.ret] 3) = w1 at *
      refine z_two 7 12 (by kernel_rfl) ?_ ?_
      · refine wpOp_at rfl rfl ?_
        refine op_appendR _ (.tmp 48) (.tmp 50) 22 3 rfl W0.heap.size _ 1 8 Tryz.underlying22 info_int rfl (by omega) _ 1 [.int .i64 m.ret] rfl FB a2 n2 c2 rfl (m.saved.map (Value.int .i64)) (by rw [List.length_map, HL2.out, Nat.mul_one]) ((H2.out.ext HW0.out).ext E1).news (by simp [Value.oneCell']) (by unfold maxLen; omega) (by omega) E1.size ?_
        intro v' w2 ho hg hv hk
        obtain ⟨g2, k2, hv'⟩ := own_form ho (by omega)
        subst hv'
        have FA := intsOwn (xs := m.ret :: m.saved) ho HI64.out (by omega)
        have E2 : Below W0.heap.size W0 w2 := hk _ E1
        refine ⟨Or.inr ⟨⟨_, E2⟩, rfl⟩, ?_⟩
        try simp only [Act.put, List.setIfInBounds_toArray, List.set_cons_succ, List.set_cons_zero]
        clear ho hg hv hk FB
        refine z_two 8 12 (by kernel_rfl) ?_ ?_
        · refine wpOp_at rfl rfl ?_
          go_simp
          refine (of_any5 m.regs (by omega) _ _ _ (m.ret :: m.saved) _ FA).mono ?_
          rintro e w3 ⟨f3, rfl, -, hb⟩
          have E3 : Below W0.heap.size W0 w3 := ext_trans E2 hb
          refine ⟨Or.inr ⟨⟨_, E3⟩, rfl⟩, ?_⟩
          try simp only [Act.put, List.setIfInBounds_toArray, List.set_cons_succ, List.set_cons_zero]
          clear hb FA
          refine z_reads 9 3 (by kernel_rfl) ⟨⟨_, E3⟩, rfl⟩ ?_
          simp only [List.take_succ_cons, List.take_zero, List.drop_succ_cons, List.drop_zero]
          repeat (go_big_quiet_step (fail))
          refine wpQuiet_nil ?_
          refine z_one 12 (by kernel_rfl) ?_
          refine wpOp_at rfl rfl ?_
          refine op_allocB 103 rfl _ zero_set ?_
          intro px w4 hb hpx FX
          have E4 : Below W0.heap.size W0 w4 := ext_trans E3 hb
          have hpB : W0.heap.size ≤ px := by rw [hpx]; exact E3.size
          refine ⟨Or.inr ⟨⟨_, E4⟩, rfl⟩, ?_⟩
          try simp only [Act.put, List.setIfInBounds_toArray, List.set_cons_succ, List.set_cons_zero]
          clear hb hpx
          refine z_one 13 (by kernel_rfl) ?_
          refine wpOp_at rfl rfl ?_
          refine op_store_rowB 103 _ _ rfl px (setA f3) rfl rfl 103 _ FX (by rw [setA_size]; exact size_set) (by rw [setA_size]; rfl) (setA_all _) _ _ E4 hpB ?_
          intro w5 E5 _
          refine ⟨Or.inr ⟨⟨_, E5⟩, rfl⟩, ?_⟩
          try simp only [Act.put, List.setIfInBounds_toArray, List.set_cons_succ, List.set_cons_zero]
          refine z_reads 14 1 (by kernel_rfl) ⟨⟨_, E5⟩, rfl⟩ ?_
          simp only [List.take_succ_cons, List.take_zero, List.drop_succ_cons, List.drop_zero]
          repeat (go_big_quiet_step (fail))
          refine wpQuiet_nil ?_
          refine z_done (by kernel_rfl) ?_
          go_wp2_with fail
          go_meet
          exact ⟨rfl, ext_trans HW0.out E5⟩
        · refine wpOp_at rfl rfl ?_
          refine op_allocB 103 rfl _ zero_set ?_
          intro px w3 hb hpx FX
          have E3 : Below W0.heap.size W0 w3 := ext_trans E2 hb
          have hpB : W0.heap.size ≤ px := by rw [hpx]; exact E2.size
          replace FA := FA.ext hb
          refine ⟨Or.inr ⟨⟨_, E3⟩, rfl⟩, ?_⟩
          try simp only [Act.put, List.setIfInBounds_toArray, List.set_cons_succ, List.set_cons_zero]
          clear hb hpx
          refine z_one 8 (by kernel_rfl) ?_
          refine wpOp_at rfl rfl ?_
          go_simp
          refine (of_any5 m.regs (by omega) _ _ _ (m.ret :: m.saved) _ FA).mono ?_
          rintro e w4 ⟨f3, rfl, -, hb⟩
          have E4 : Below W0.heap.size W0 w4 := ext_trans E3 hb
          replace FX := block_ext hb FX
          refine ⟨Or.inr ⟨⟨_, E4⟩, rfl⟩, ?_⟩
          try simp only [Act.put, List.setIfInBounds_toArray, List.set_cons_succ, List.set_cons_zero]
          clear hb FA
          refine z_reads 9 3 (by kernel_rfl) ⟨⟨_, E4⟩, rfl⟩ ?_
          simp only [List.take_succ_cons, List.take_zero, List.drop_succ_cons, List.drop_zero]
          repeat (go_big_quiet_step (fail))
          refine wpQuiet_nil ?_
          refine z_one 13 (by kernel_rfl) ?_
          refine wpOp_at rfl rfl ?_
          refine op_store_rowB 103 _ _ rfl px (setA f3) rfl rfl 103 _ FX (by rw [setA_size]; exact size_set) (by rw [setA_size]; rfl) (setA_all _) _ _ E4 hpB ?_
          intro w5 E5 _
          refine ⟨Or.inr ⟨⟨_, E5⟩, rfl⟩, ?_⟩
          try simp only [Act.put, List.setIfInBounds_toArray, List.set_cons_succ, List.set_cons_zero]
          refine z_reads 14 1 (by kernel_rfl) ⟨⟨_, E5⟩, rfl⟩ ?_
          simp only [List.take_succ_cons, List.take_zero, List.drop_succ_cons, List.drop_zero]
          repeat (go_big_quiet_step (fail))
          refine wpQuiet_nil ?_
          refine z_done (by kernel_rfl) ?_
          go_wp2_with fail
          go_meet
          exact ⟨rfl, ext_trans HW0.out E5⟩
      · refine wpOp_at rfl rfl ?_
        refine op_allocB 103 rfl _ zero_set ?_
        intro px w2 hb hpx FX
        have E2 : Below W0.heap.size W0 w2 := ext_trans E1 hb
        have hpB : W0.heap.size ≤ px := by rw [hpx]; exact E1.size
        have hne : px ≠ gB := by have := (FB.lt gB rfl).2; omega
        replace FB := ownsRow_chg FB ((Chg.refl (fun _ => False) _).of_ext hb) (fun _ _ h => h)
        refine ⟨Or.inr ⟨⟨_, E2⟩, rfl⟩, ?_⟩
        try simp only [Act.put, List.setIfInBounds_toArray, List.set_cons_succ, List.set_cons_zero]
        clear hb hpx
        refine z_one 7 (by kernel_rfl) ?_
        refine wpOp_at rfl rfl ?_
        refine op_appendR _ (.tmp 48) (.tmp 50) 22 3 rfl W0.heap.size _ 1 8 Tryz.underlying22 info_int rfl (by omega) _ 1 [.int .i64 m.ret] rfl FB a2 n2 c2 rfl (m.saved.map (Value.int .i64)) (by rw [List.length_map, HL2.out, Nat.mul_one]) ((H2.out.ext HW0.out).ext E2).news (by simp [Value.oneCell']) (by unfold maxLen; omega) (by omega) E2.size ?_
        intro v' w3 ho hg hv hk
        obtain ⟨g2, k2, hv'⟩ := own_form ho (by omega)
        subst hv'
        have FA := intsOwn (xs := m.ret :: m.saved) ho HI64.out (by omega)
        have E3 : Below W0.heap.size W0 w3 := hk _ E2
        replace FX := (hg.block px (Array.getElem?_eq_some_iff.1 FX).1 (fun e => hne (Option.some.inj e))).trans FX
        refine ⟨Or.inr ⟨⟨_, E3⟩, rfl⟩, ?_⟩
        try simp only [Act.put, List.setIfInBounds_toArray, List.set_cons_succ, List.set_cons_zero]
        clear ho hg hv hk FB
        refine z_one 8 (by kernel_rfl) ?_
        refine wpOp_at rfl rfl ?_
        go_simp
        refine (of_any5 m.regs (by omega) _ _ _ (m.ret :: m.saved) _ FA).mono ?_
        rintro e w4 ⟨f3, rfl, -, hb⟩
        have E4 : Below W0.heap.size W0 w4 := ext_trans E3 hb
        replace FX := block_ext hb FX
        refine ⟨Or.inr ⟨⟨_, E4⟩, rfl⟩, ?_⟩
        try simp only [Act.put, List.setIfInBounds_toArray, List.set_cons_succ, List.set_cons_zero]
        clear hb FA
        refine z_reads 9 3 (by kernel_rfl) ⟨⟨_, E4⟩, rfl⟩ ?_
        simp only [List.take_succ_cons, List.take_zero, List.drop_succ_cons, List.drop_zero]
        repeat (go_big_quiet_step (fail))
        refine wpQuiet_nil ?_
        refine z_one 13 (by kernel_rfl) ?_
        refine wpOp_at rfl rfl ?_
        refine op_store_rowB 103 _ _ rfl px (setA f3) rfl rfl 103 _ FX (by rw [setA_size]; exact size_set) (by rw [setA_size]; rfl) (setA_all _) _ _ E4 hpB ?_
        intro w5 E5 _
        refine ⟨Or.inr ⟨⟨_, E5⟩, rfl⟩, ?_⟩
        try simp only [Act.put, List.setIfInBounds_toArray, List.set_cons_succ, List.set_cons_zero]
        refine z_reads 14 1 (by kernel_rfl) ⟨⟨_, E5⟩, rfl⟩ ?_
        simp only [List.take_succ_cons, List.take_zero, List.drop_succ_cons, List.drop_zero]
        repeat (go_big_quiet_step (fail))
        refine wpQuiet_nil ?_
        refine z_done (by kernel_rfl) ?_
        go_wp2_with fail
        go_meet
        exact ⟨rfl, ext_trans HW0.out E5⟩
    · refine wpOp_at rfl rfl ?_
      refine op_allocB 103 rfl _ zero_set ?_
      intro px w1 hb hpx FX
      have E1 : Below W0.heap.size W0 w1 := ext_trans E0 hb
      have hpB : W0.heap.size ≤ px := by rw [hpx]; exact E0.size
      refine ⟨Or.inr ⟨⟨_, E1⟩, rfl⟩, ?_⟩
      try simp only [Act.put, List.setIfInBounds_toArray, List.set_cons_succ, List.set_cons_zero]
      clear hb hpx
      refine z_one 4 (by kernel_rfl) ?_
      refine wpOp_at rfl rfl ?_
      go_simp
      have E2 : Below W0.heap.size W0 (w1.alloc (.cells #[.int .i64 m.ret] 3)) := ext_trans E1 (ext_alloc _ _)
      have FB : (w1.alloc (.cells #[.int .i64 m.ret] 3)).ownsRow W0.heap.size 3 1 (.slice (some ⟨w1.heap.size, 0, none⟩) 1 1) 1 [.int .i64 m.ret] := World.ownsRow_lit _ #[.int .i64 m.ret] 1 E1.size (by unfold maxLen; omega) rfl
      have hne : px ≠ w1.heap.size := by have := (Array.getElem?_eq_some_iff.1 FX).1; omega
      replace FX := block_ext (ext_alloc w1 (.cells #[.int .i64 m.ret] 3)) FX
      refine ⟨Or.inr ⟨⟨_, E2⟩, rfl⟩, ?_⟩
      try simp only [Act.put, List.setIfInBounds_toArray, List.set_cons_succ, List.set_cons_zero]
      generalize w1.heap.size = gB at *
      generalize w1.alloc (.cells #[.int .i64 m.ret] 3) = w2 at *
      refine z_one 7 (by kernel_rfl) ?_
      refine wpOp_at rfl rfl ?_
      refine op_appendR _ (.tmp 48) (.tmp 50) 22 3 rfl W0.heap.size _ 1 8 Tryz.underlying22 info_int rfl (by omega) _ 1 [.int .i64 m.ret] rfl FB a2 n2 c2 rfl (m.saved.map (Value.int .i64)) (by rw [List.length_map, HL2.out, Nat.mul_one]) ((H2.out.ext HW0.out).ext E2).news (by simp [Value.oneCell']) (by unfold maxLen; omega) (by omega) E2.size ?_
      intro v' w3 ho hg hv hk
      obtain ⟨g2, k2, hv'⟩ := own_form ho (by omega)
      subst hv'
      have FA := intsOwn (xs := m.ret :: m.saved) ho HI64.out (by omega)
      have E3 : Below W0.heap.size W0 w3 := hk _ E2
      replace FX := (hg.block px (Array.getElem?_eq_some_iff.1 FX).1 (fun e => hne (Option.some.inj e))).trans FX
      refine ⟨Or.inr ⟨⟨_, E3⟩, rfl⟩, ?_⟩
      try simp only [Act.put, List.setIfInBounds_toArray, List.set_cons_succ, List.set_cons_zero]
      clear ho hg hv hk FB
      refine z_one 8 (by kernel_rfl) ?_
      refine wpOp_at rfl rfl ?_
      go_simp
      refine (of_any5 m.regs (by omega) _ _ _ (m.ret :: m.saved) _ FA).mono ?_
      rintro e w4 ⟨f3, rfl, -, hb⟩
      have E4 : Below W0.heap.size W0 w4 := ext_trans E3 hb
      replace FX := block_ext hb FX
      refine ⟨Or.inr ⟨⟨_, E4⟩, rfl⟩, ?_⟩
      try simp only [Act.put, List.setIfInBounds_toArray, List.set_cons_succ, List.set_cons_zero]
      clear hb FA
      refine z_reads 9 3 (by kernel_rfl) ⟨⟨_, E4⟩, rfl⟩ ?_
      simp only [List.take_succ_cons, List.take_zero, List.drop_succ_cons, List.drop_zero]
      repeat (go_big_quiet_step (fail))
      refine wpQuiet_nil ?_
      refine z_one 13 (by kernel_rfl) ?_
      refine wpOp_at rfl rfl ?_
      refine op_store_rowB 103 _ _ rfl px (setA f3) rfl rfl 103 _ FX (by rw [setA_size]; exact size_set) (by rw [setA_size]; rfl) (setA_all _) _ _ E4 hpB ?_
      intro w5 E5 _
      refine ⟨Or.inr ⟨⟨_, E5⟩, rfl⟩, ?_⟩
      try simp only [Act.put, List.setIfInBounds_toArray, List.set_cons_succ, List.set_cons_zero]
      refine z_reads 14 1 (by kernel_rfl) ⟨⟨_, E5⟩, rfl⟩ ?_
      simp only [List.take_succ_cons, List.take_zero, List.drop_succ_cons, List.drop_zero]
      repeat (go_big_quiet_step (fail))
      refine wpQuiet_nil ?_
      refine z_done (by kernel_rfl) ?_
      go_wp2_with fail
      go_meet
      exact ⟨rfl, ext_trans HW0.out E5⟩
  case rest =>
    obtain ⟨rfl, HC⟩ := hcut
    clear k0 k2 k3
    go_wp2
    all_goals
      go_ret
      exact ⟨ret_bool (by rw [HE.out]; go_light; simp [*]), HC.out⟩
theorem right_any (m : MachD) (a1 a2 : Option Addr) (n1 c1 n2 c2 : Nat) (w : World) (h : MachOK w m a1 n1 c1 a2 n2 c2) :
    Calls Tryz.prog 25 #[machV m a1 n1 c1 a2 n2 c2] w fun e w' => e = .returned (.bool (rightB m)) ∧ Below w.heap.size w w' := by
  by_cases hyes : 1 ≤ m.regs ∧ m.regs ≤ 64 ∧ m.args.length ≤ 8 ∧ (m.saved.length : Int) ≤ m.regs ∧ sortedB m.saved = true
  · exact right_main m a1 a2 n1 c1 n2 c2 w h hyes
  · exact right_odd m a1 a2 n1 c1 n2 c2 w h hyes
end
end Go.Proofs.YtfpbfdkjcmlimaaGreat
