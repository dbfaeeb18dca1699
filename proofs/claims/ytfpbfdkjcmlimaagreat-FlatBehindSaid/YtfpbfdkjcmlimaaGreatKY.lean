/-
  FlatBehind, walked.
-/
import Derived.Test.YtfpbfdkjcmlimaaGreatKX
namespace Go.Proofs.YtfpbfdkjcmlimaaGreat
set_option linter.unusedSimpArgs false
set_option linter.unusedVariables false
set_option linter.unusedSectionVars false
set_option maxRecDepth 100000
set_option maxHeartbeats 40000000
section
open Go.RowKit
theorem through_law {m : MachD} {s t : BlkD} {ls os : List Fct} (x : Fct) (hos : ∀ y, y ∈ os ↔ (walkKF m s t (K0 ls, 0)).1 y = true) : knowsB os x = told (beforeV m (evGo m s.ins t.ins) x) (K0 ls) := by
  rw [← known_told, ← walkKF_known]
  unfold knowsB
  cases h : (walkKF m s t (K0 ls, 0)).1 x with
  | true => rw [decide_eq_true_eq]; exact (hos x).2 h
  | false =>
    rw [decide_eq_false_iff_not]
    intro hm
    rw [(hos x).1 hm] at h
    cases h
theorem before_end {m : MachD} {s t : BlkD} {x : Fct} (h : doesB m s t = true) : beforeB m s t (eventsN m s t) x = ((beforeV m (evGo m s.ins t.ins) x).1, (beforeV m (evGo m s.ins t.ins) x).2, 0) := by
  unfold beforeB eventsN
  rw [if_pos h, if_pos h, if_neg (by omega), Int.toNat_natCast, List.take_length]
theorem before_none {m : MachD} {s t : BlkD} {x : Fct} (h : doesB m s t = false) : beforeB m s t (eventsN m s t) x = (0, (0, false, 0), 13) := by
  unfold beforeB
  rw [if_neg (by rw [h]; simp)]
theorem writes_len (m : MachD) : ∀ l : List InsR, (l.flatMap fun r => writesL m r.d).length ≤ l.length
  | [] => by simp
  | r :: l => by
    have h1 := writes_le m r.d
    have h2 := writes_len m l
    rw [List.flatMap_cons, List.length_append, List.length_cons]
    omega
theorem univ_ok (m : MachD) (s t : BlkD) (ls : List Fct) (h1 : ls.length ≤ 300) (h2 : s.ins.length ≤ 300) (h3 : t.ins.length ≤ 300) : (univOf m s t ls).ok := by
  have h4 := writes_len m t.ins
  refine ⟨?_, ?_⟩
  · simp only [univOf, List.length_append, List.length_map]; omega
  · simp only [univOf, List.length_append, List.length_map]; omega
def OutP (m : MachD) (s t : BlkD) (ls : List Fct) (x : Fct) (v : Value) (fe : Int) (w' : World) : Prop := ∃ a n c os, v = .slice a n c ∧ FctS w' a n os ∧
  ((doesB m s t = false ∧ fe = 13) ∨ (doesB m s t = true ∧ fe = 2) ∨ (doesB m s t = true ∧ FE fe ∧ knowsB os x = told (beforeV m (evGo m s.ins t.ins) x) (K0 ls)))
theorem out_of {m : MachD} {s t : BlkD} {ls : List Fct} {x : Fct} {w : World} {e : Ending} {w' : World} (h : ThroughPost m s t ls w e w') : ∃ v fe, e = .returned (.tuple #[v, .int .i64 fe]) ∧ Below w.heap.size w w' ∧ OutP m s t ls x v fe w' := by
  obtain ⟨v, fe, rfl, hb, h⟩ := h
  refine ⟨v, fe, rfl, hb, ?_⟩
  rcases h with ⟨h1, h2, rfl⟩ | ⟨h1, _, h2, rfl⟩ | ⟨h1, _, h2, d, ho, _, hm⟩
  · exact ⟨none, 0, 0, [], rfl, Recs.nil _ _ _, .inl ⟨h1, h2⟩⟩
  · exact ⟨none, 0, 0, [], rfl, Recs.nil _ _ _, .inr (.inl ⟨h1, h2⟩)⟩
  · obtain ⟨a, c, rfl⟩ := ho.form
    refine ⟨a, _, c, sortF d, rfl, ho.recs csF_len, .inr (.inr ⟨h1, ?_, through_law x fun y => ?_⟩)⟩
    · rw [h2]; exact walkKF_fe m s t (K0 ls)
    · rw [(sortF_perm d).mem_iff, hm]
theorem box4e (w : World) (o1 o2 o3 o4 : Obj) : ∃ W0, Hid (Below w.heap.size w W0) ∧ W0.heap[w.heap.size]? = some o1 ∧ W0.heap[w.heap.size + 1]? = some o2 ∧ W0.heap[w.heap.size + 1 + 1]? = some o3 ∧ W0.heap[w.heap.size + 1 + 1 + 1]? = some o4 ∧ (((w.alloc o1).alloc o2).alloc o3).alloc o4 = W0 := by
  obtain ⟨b1, b2, b3, b4⟩ := box4 w o1 o2 o3 o4
  exact ⟨_, ext_trans (ext_trans (ext_trans (ext_alloc _ _) (ext_alloc _ _)) (ext_alloc _ _)) (ext_alloc _ _), b1, b2, b3, b4, rfl⟩
theorem behind_any (m : MachD) (a1 a2 : Option Addr) (n1 c1 n2 c2 : Nat) (s t : BlkD) (sa ta : Option Addr) (ns cs nt ct : Nat) (fa : Option Addr) (nf cf : Nat) (ls : List Fct) (x : Fct) (w : World) (hm : MachAny w m a1 n1 c1 a2 n2 c2) (hs : BlkAny w s sa ns cs) (ht : BlkAny w t ta nt ct) (hf : FctS w fa nf ls) (hx : FactOK x) :
    Calls Tryz.prog 3 #[machV m a1 n1 c1 a2 n2 c2, blkV s sa ns cs, blkV t ta nt ct, .slice fa nf cf, factV x] w fun e w' => e = .returned (.bool true) ∧ Below w.heap.size w w' := by
  have HM := Lib.hid hm
  have HS := Lib.hid hs
  have HT := Lib.hid ht
  have HF := Lib.hid hf
  have HX := Lib.hid hx
  have l1 := hm.1.2.1
  have l2 := hm.2.1.2.1
  have l3 := hf.2.1
  have HLs := Lib.hid hs.1.1.1
  have HLt := Lib.hid ht.1.1.1
  have HLf := Lib.hid hf.1
  clear hm hs ht hf hx
  obtain ⟨W0, HW0, hM, hS, hT, hF, hW0⟩ := box4e w (machO m a1 n1 c1 a2 n2 c2) (blkO s sa ns cs) (blkO t ta nt ct) (factO x)
  have HR0 := Lib.hid hM
  have HR1 := Lib.hid hS
  have HR2 := Lib.hid hT
  have HR3 := Lib.hid hF
  have HW := Lib.hid hW0
  clear hM hS hT hF hW0
  go_enter Tryz.func3, Tryz.ntmps3
  go_upto_region 3 with (go_at_call 4; rw [HW.out]; refine (awake_any W0).mono ?_; rintro e w1 ⟨rfl, hb1⟩; have E1 := Lib.hid hb1; clear hb1)
  go_cut [29] (fun s29 wx => ∃ v : Int, s29 = .bool (decide (300 < (n1 : Int) + (n2 : Int) + v + (nf : Int))) ∧ 0 ≤ v ∧ (v ≤ 300 → BigOK 300 ⟨s, sa, ns, cs⟩ ∧ BigOK 300 ⟨t, ta, nt, ct⟩) ∧ Below W0.heap.size W0 wx)
  case first =>
    have km : ∀ w', (∃ n : ExtW w1, w' = n.val) → w'.heap[w.heap.size]? = some (machO m a1 n1 c1 a2 n2 c2) := fun w' ⟨q, e⟩ => by rw [e]; exact block_ext (ext_trans E1.out q.ext) HR0.out
    have ks : ∀ w', (∃ n : ExtW w1, w' = n.val) → w'.heap[w.heap.size + 1]? = some (blkO s sa ns cs) := fun w' ⟨q, e⟩ => by rw [e]; exact block_ext (ext_trans E1.out q.ext) HR1.out
    have kt : ∀ w', (∃ n : ExtW w1, w' = n.val) → w'.heap[w.heap.size + 1 + 1]? = some (blkO t ta nt ct) := fun w' ⟨q, e⟩ => by rw [e]; exact block_ext (ext_trans E1.out q.ext) HR2.out
    refine z_start (fun w' => ∃ n : ExtW w1, w' = n.val) (by kernel_rfl) ?_
    obtain ⟨v0, F0, hv0⟩ : ∃ v0, Below w1.heap.size w1 v0 ∧ w1.drew = v0 := ⟨_, ext_drewN (Below.refl _ _) 1, rfl⟩
    rw [hv0]
    clear hv0
    refine z_reads 0 1 (by kernel_rfl) ⟨⟨_, F0⟩, rfl⟩ ?_
    simp only [List.take_succ_cons, List.take_zero, List.drop_succ_cons, List.drop_zero]
    (refine wpQuiet_load_row (o := ⟨some 19, .load 24 _, _, _, _, _⟩) (by rfl) 24 _ rfl w.heap.size rfl 24 _ (0, 0) _ km Tryz.underlying24 rfl size_mach ?_; simp only [Act.put, List.setIfInBounds_toArray, List.set_cons_succ, List.set_cons_zero])
    refine wpQuiet_nil ?_
    refine z_reads 2 2 (by kernel_rfl) ⟨⟨_, F0⟩, rfl⟩ ?_
    simp only [List.take_succ_cons, List.take_zero, List.drop_succ_cons, List.drop_zero]
    (refine wpQuiet_load_row (o := ⟨some 21, .load 31 _, _, _, _, _⟩) (by rfl) 31 _ rfl (w.heap.size + 1) rfl 31 _ (0, 0) _ ks Tryz.underlying31 rfl size_blk ?_; simp only [Act.put, List.setIfInBounds_toArray, List.set_cons_succ, List.set_cons_zero])
    (refine wpQuiet_load_row (o := ⟨some 22, .load 31 _, _, _, _, _⟩) (by rfl) 31 _ rfl (w.heap.size + 1 + 1) rfl 31 _ (0, 0) _ kt Tryz.underlying31 rfl size_blk ?_; simp only [Act.put, List.setIfInBounds_toArray, List.set_cons_succ, List.set_cons_zero])
    refine wpQuiet_nil ?_
    refine z_reads 7 2 (by kernel_rfl) ⟨⟨_, F0⟩, rfl⟩ ?_
    simp only [List.take_succ_cons, List.take_zero, List.drop_succ_cons, List.drop_zero]
    repeat (go_big_quiet_step (fail))
    refine wpQuiet_nil ?_
    clear km ks kt
    refine z_two 1 4 (by kernel_rfl) ?_ ?_
    · refine wpOp_at rfl rfl ?_
      go_simp
      refine (machineOf_any m a1 a2 n1 c1 n2 c2 v0 l1 l2).mono ?_
      rintro e v1 ⟨rfl, hb⟩
      have F1 : Below w1.heap.size w1 v1 := ext_trans F0 hb
      refine ⟨Or.inr ⟨⟨_, F1⟩, rfl⟩, ?_⟩
      try simp only [Act.put, List.setIfInBounds_toArray, List.set_cons_succ, List.set_cons_zero]
      clear hb
      refine z_one 4 (by kernel_rfl) ?_
      refine wpOp_at rfl rfl ?_
      go_simp
      have F2 : Below w1.heap.size w1 (v1.alloc (.cells #[.slice sa ns cs, .int .i64 s.kind, .int .i64 s.a, .int .i64 s.to0, .int .i64 s.to1, .slice ta nt ct, .int .i64 t.kind, .int .i64 t.a, .int .i64 t.to0, .int .i64 t.to1] 31)) := ext_trans F1 (ext_alloc _ _)
      have FB := heap_alloc_new v1 (.cells #[.slice sa ns cs, .int .i64 s.kind, .int .i64 s.a, .int .i64 s.to0, .int .i64 s.to1, .slice ta nt ct, .int .i64 t.kind, .int .i64 t.a, .int .i64 t.to0, .int .i64 t.to1] 31)
      refine ⟨Or.inr ⟨⟨_, F2⟩, rfl⟩, ?_⟩
      try simp only [Act.put, List.setIfInBounds_toArray, List.set_cons_succ, List.set_cons_zero]
      generalize v1.heap.size = gB at *
      generalize v1.alloc (.cells #[.slice sa ns cs, .int .i64 s.kind, .int .i64 s.a, .int .i64 s.to0, .int .i64 s.to1, .slice ta nt ct, .int .i64 t.kind, .int .i64 t.a, .int .i64 t.to0, .int .i64 t.to1] 31) = v2 at *
      refine z_one 5 (by kernel_rfl) ?_
      have hbs : BlkS v2 (some ⟨gB, 0, none⟩) 2 [⟨s, sa, ns, cs⟩, ⟨t, ta, nt, ct⟩] := ⟨recs_lit (ls := [⟨s, sa, ns, cs⟩, ⟨t, ta, nt, ct⟩]) _ gB _ _ _ FB blkC_len rfl (by simp), fun b hb => by
        have hE := ext_trans (ext_trans HW0.out E1.out) F2
        rcases List.mem_cons.1 hb with rfl | hb
        · exact HS.out.1.ext hE
        · rw [List.mem_singleton] at hb; subst hb; exact HT.out.1.ext hE⟩
      refine wpOp_at rfl rfl ?_
      go_simp
      refine (blocksOf_any2 (some ⟨gB, 0, none⟩) 2 2 [⟨s, sa, ns, cs⟩, ⟨t, ta, nt, ct⟩] 300 (by omega) (by omega) v2 hbs).mono ?_
      rintro e v3 ⟨v, rfl, hv0, hv1, hv2, rfl⟩
      refine ⟨Or.inr ⟨⟨_, F2⟩, rfl⟩, ?_⟩
      try simp only [Act.put, List.setIfInBounds_toArray, List.set_cons_succ, List.set_cons_zero]
      have hsum : IntKind.i64.wrap ((n1 : Int) + (n2 : Int) + v) = (n1 : Int) + (n2 : Int) + v := IntWalk.i64_in _ (by omega)
      have hsum2 : IntKind.i64.wrap ((n1 : Int) + (n2 : Int) + v + (nf : Int)) = (n1 : Int) + (n2 : Int) + v + (nf : Int) := IntWalk.i64_in _ (by omega)
      refine z_reads 6 1 (by kernel_rfl) ⟨⟨_, F2⟩, rfl⟩ ?_
      simp only [List.take_succ_cons, List.take_zero, List.drop_succ_cons, List.drop_zero]
      repeat (go_big_quiet_step (fail))
      refine wpQuiet_nil ?_
      refine z_reads 9 2 (by kernel_rfl) ⟨⟨_, F2⟩, rfl⟩ ?_
      simp only [List.take_succ_cons, List.take_zero, List.drop_succ_cons, List.drop_zero]
      repeat (go_big_quiet_step (fail))
      refine wpQuiet_nil ?_
      refine z_done (by kernel_rfl) ?_
      go_wp2_with fail
      go_meet
      exact ⟨v, rfl, hv0, fun h => ⟨hv2 h ⟨s, sa, ns, cs⟩ (by simp), hv2 h ⟨t, ta, nt, ct⟩ (by simp)⟩, ext_trans E1.out F2⟩
    · refine wpOp_at rfl rfl ?_
      go_simp
      have F1 : Below w1.heap.size w1 (v0.alloc (.cells #[.slice sa ns cs, .int .i64 s.kind, .int .i64 s.a, .int .i64 s.to0, .int .i64 s.to1, .slice ta nt ct, .int .i64 t.kind, .int .i64 t.a, .int .i64 t.to0, .int .i64 t.to1] 31)) := ext_trans F0 (ext_alloc _ _)
      have FB := heap_alloc_new v0 (.cells #[.slice sa ns cs, .int .i64 s.kind, .int .i64 s.a, .int .i64 s.to0, .int .i64 s.to1, .slice ta nt ct, .int .i64 t.kind, .int .i64 t.a, .int .i64 t.to0, .int .i64 t.to1] 31)
      refine ⟨Or.inr ⟨⟨_, F1⟩, rfl⟩, ?_⟩
      try simp only [Act.put, List.setIfInBounds_toArray, List.set_cons_succ, List.set_cons_zero]
      generalize v0.heap.size = gB at *
      generalize v0.alloc (.cells #[.slice sa ns cs, .int .i64 s.kind, .int .i64 s.a, .int .i64 s.to0, .int .i64 s.to1, .slice ta nt ct, .int .i64 t.kind, .int .i64 t.a, .int .i64 t.to0, .int .i64 t.to1] 31) = v1 at *
      refine z_one 1 (by kernel_rfl) ?_
      refine wpOp_at rfl rfl ?_
      go_simp
      refine (machineOf_any m a1 a2 n1 c1 n2 c2 v1 l1 l2).mono ?_
      rintro e v2 ⟨rfl, hb⟩
      have F2 : Below w1.heap.size w1 v2 := ext_trans F1 hb
      replace FB := block_ext hb FB
      refine ⟨Or.inr ⟨⟨_, F2⟩, rfl⟩, ?_⟩
      try simp only [Act.put, List.setIfInBounds_toArray, List.set_cons_succ, List.set_cons_zero]
      clear hb
      refine z_one 5 (by kernel_rfl) ?_
      have hbs : BlkS v2 (some ⟨gB, 0, none⟩) 2 [⟨s, sa, ns, cs⟩, ⟨t, ta, nt, ct⟩] := ⟨recs_lit (ls := [⟨s, sa, ns, cs⟩, ⟨t, ta, nt, ct⟩]) _ gB _ _ _ FB blkC_len rfl (by simp), fun b hb => by
        have hE := ext_trans (ext_trans HW0.out E1.out) F2
        rcases List.mem_cons.1 hb with rfl | hb
        · exact HS.out.1.ext hE
        · rw [List.mem_singleton] at hb; subst hb; exact HT.out.1.ext hE⟩
      refine wpOp_at rfl rfl ?_
      go_simp
      refine (blocksOf_any2 (some ⟨gB, 0, none⟩) 2 2 [⟨s, sa, ns, cs⟩, ⟨t, ta, nt, ct⟩] 300 (by omega) (by omega) v2 hbs).mono ?_
      rintro e v3 ⟨v, rfl, hv0, hv1, hv2, rfl⟩
      refine ⟨Or.inr ⟨⟨_, F2⟩, rfl⟩, ?_⟩
      try simp only [Act.put, List.setIfInBounds_toArray, List.set_cons_succ, List.set_cons_zero]
      have hsum : IntKind.i64.wrap ((n1 : Int) + (n2 : Int) + v) = (n1 : Int) + (n2 : Int) + v := IntWalk.i64_in _ (by omega)
      have hsum2 : IntKind.i64.wrap ((n1 : Int) + (n2 : Int) + v + (nf : Int)) = (n1 : Int) + (n2 : Int) + v + (nf : Int) := IntWalk.i64_in _ (by omega)
      refine z_reads 6 1 (by kernel_rfl) ⟨⟨_, F2⟩, rfl⟩ ?_
      simp only [List.take_succ_cons, List.take_zero, List.drop_succ_cons, List.drop_zero]
      repeat (go_big_quiet_step (fail))
      refine wpQuiet_nil ?_
      refine z_reads 9 2 (by kernel_rfl) ⟨⟨_, F2⟩, rfl⟩ ?_
      simp only [List.take_succ_cons, List.take_zero, List.drop_succ_cons, List.drop_zero]
      repeat (go_big_quiet_step (fail))
      refine wpQuiet_nil ?_
      refine z_done (by kernel_rfl) ?_
      go_wp2_with fail
      go_meet
      exact ⟨v, rfl, hv0, fun h => ⟨hv2 h ⟨s, sa, ns, cs⟩ (by simp), hv2 h ⟨t, ta, nt, ct⟩ (by simp)⟩, ext_trans E1.out F2⟩
  case rest =>
    obtain ⟨v, rfl, hv0, hv, E2⟩ := hcut
    obtain ⟨w2, rfl⟩ : ∃ w2, w2 = wc := ⟨_, rfl⟩
    cases hbig : decide (300 < (n1 : Int) + (n2 : Int) + v + (nf : Int)) with
    | true =>
      go_wp2
      go_ret
      exact ⟨rfl, ext_trans HW0.out E2⟩
    | false =>
      have hbig2 : ¬ 300 < (n1 : Int) + (n2 : Int) + v + (nf : Int) := by simpa using hbig
      obtain ⟨⟨hs1, hs2⟩, ht1, ht2⟩ := hv (by omega)
      have hns : ns ≤ 300 := by have : (ns : Int) ≤ 300 := hs1; omega
      have hnt : nt ≤ 300 := by have : (nt : Int) ≤ 300 := ht1; omega
      have HNs : Hid (∀ r ∈ s.ins, r.na ≤ 1000000) := fun r hr => by have := hs2 r hr; omega
      have HMk := Lib.hid ((HM.out.ok (by omega) (by omega)).ext (ext_trans HW0.out E2))
      have HSk := Lib.hid ((HS.out.ok hns).ext (ext_trans HW0.out E2))
      have HTk := Lib.hid ((HT.out.ok hnt).ext (ext_trans HW0.out E2))
      have HFk := Lib.hid (HF.out.ext csF_len (ext_trans HW0.out E2))
      have HUk := Lib.hid (univ_ok m s t ls (by rw [HLf.out]; omega) (by rw [HLs.out]; exact hns) (by rw [HLt.out]; exact hnt))
      have HE2 := Lib.hid E2
      clear hs1 hs2 ht1 ht2 hv hbig2 hns hnt E2
      have R0 := Lib.hid (block_ext HE2.out HR0.out)
      have R1 := Lib.hid (block_ext HE2.out HR1.out)
      have R2 := Lib.hid (block_ext HE2.out HR2.out)
      have R3 := Lib.hid (block_ext HE2.out HR3.out)
      clear HR0 HR1 HR2 HR3
      go_upto_region 6 with (first
        | ((with_reducible show wpList _ _ _ (⟨some 31, _, _, _, _, _⟩ :: _) _ _); refine wpList_load_row (o := ⟨some 31, .load 24 _, _, _, _, _⟩) rfl 24 _ rfl w.heap.size rfl 24 _ (0, 0) _ R0.out Tryz.underlying24 rfl size_mach ?_)
        | ((with_reducible show wpList _ _ _ (⟨some 32, _, _, _, _, _⟩ :: _) _ _); refine wpList_load_row (o := ⟨some 32, .load 31 _, _, _, _, _⟩) rfl 31 _ rfl (w.heap.size + 1) rfl 31 _ (0, 0) _ R1.out Tryz.underlying31 rfl size_blk ?_)
        | ((with_reducible show wpList _ _ _ (⟨some 33, _, _, _, _, _⟩ :: _) _ _); refine wpList_load_row (o := ⟨some 33, .load 31 _, _, _, _, _⟩) rfl 31 _ rfl (w.heap.size + 1 + 1) rfl 31 _ (0, 0) _ R2.out Tryz.underlying31 rfl size_blk ?_)
        | (go_at_call 7
           refine (through_any m a1 a2 n1 c1 n2 c2 s t sa ta ns cs nt ct fa nf cf ls w2 HMk.out HSk.out HTk.out HNs.out HFk.out HUk.out).mono ?_
           rintro e w3 hpost
           obtain ⟨ov, fe, rfl, hb3, oa, on, oc, os, rfl, hos, hout⟩ := out_of (x := x) hpost
           have HB3 := Lib.hid hb3
           have HOS := Lib.hid hos
           have HOUT := Lib.hid hout
           clear hb3 hos hout hpost))
      have HE3 := Lib.hid (ext_trans HE2.out HB3.out)
      have R03 := Lib.hid (block_ext HB3.out R0.out)
      have R13 := Lib.hid (block_ext HB3.out R1.out)
      have R23 := Lib.hid (block_ext HB3.out R2.out)
      have R33 := Lib.hid (block_ext HB3.out R3.out)
      have HM3 := Lib.hid (HMk.out.ext HB3.out)
      have HS3 := Lib.hid (HSk.out.ext HB3.out)
      have HT3 := Lib.hid (HTk.out.ext HB3.out)
      have HF3 := Lib.hid (HFk.out.ext csF_len HB3.out)
      clear R0 R1 R2 R3 HMk HSk HTk HFk HB3
      go_upto_region 7 with (first
        | ((with_reducible show wpList _ _ _ (⟨some 38, _, _, _, _, _⟩ :: _) _ _); refine wpList_load_row (o := ⟨some 38, .load 24 _, _, _, _, _⟩) rfl 24 _ rfl w.heap.size rfl 24 _ (0, 0) _ R03.out Tryz.underlying24 rfl size_mach ?_)
        | ((with_reducible show wpList _ _ _ (⟨some 39, _, _, _, _, _⟩ :: _) _ _); refine wpList_load_row (o := ⟨some 39, .load 31 _, _, _, _, _⟩) rfl 31 _ rfl (w.heap.size + 1) rfl 31 _ (0, 0) _ R13.out Tryz.underlying31 rfl size_blk ?_)
        | ((with_reducible show wpList _ _ _ (⟨some 40, _, _, _, _, _⟩ :: _) _ _); refine wpList_load_row (o := ⟨some 40, .load 31 _, _, _, _, _⟩) rfl 31 _ rfl (w.heap.size + 1 + 1) rfl 31 _ (0, 0) _ R23.out Tryz.underlying31 rfl size_blk ?_)
        | (go_at_call 8
           refine (eventsN_any m a1 a2 n1 c1 n2 c2 s t sa ta ns cs nt ct w3 HM3.out HS3.out HT3.out).mono ?_
           rintro e w4 ⟨rfl, hb4⟩
           have HB4 := Lib.hid hb4
           clear hb4))
      have HE4 := Lib.hid (ext_trans HE3.out HB4.out)
      have R04 := Lib.hid (block_ext HB4.out R03.out)
      have R14 := Lib.hid (block_ext HB4.out R13.out)
      have R24 := Lib.hid (block_ext HB4.out R23.out)
      have R34 := Lib.hid (block_ext HB4.out R33.out)
      have HM4 := Lib.hid (HM3.out.ext HB4.out)
      have HS4 := Lib.hid (HS3.out.ext HB4.out)
      have HT4 := Lib.hid (HT3.out.ext HB4.out)
      have HF4 := Lib.hid (HF3.out.ext csF_len HB4.out)
      have HOS4 := Lib.hid (HOS.out.ext csF_len HB4.out)
      clear R03 R13 R23 R33 HM3 HS3 HT3 HF3 HOS HB4
      obtain ⟨k, y, ge, hbv⟩ : ∃ k y ge, beforeB m s t (eventsN m s t) x = (k, y, ge) := ⟨_, _, _, rfl⟩
      have HBV := Lib.hid hbv
      clear hbv
      go_upto_region 8 with (first
        | ((with_reducible show wpList _ _ _ (⟨some 43, _, _, _, _, _⟩ :: _) _ _); refine wpList_load_row (o := ⟨some 43, .load 24 _, _, _, _, _⟩) rfl 24 _ rfl w.heap.size rfl 24 _ (0, 0) _ R04.out Tryz.underlying24 rfl size_mach ?_)
        | ((with_reducible show wpList _ _ _ (⟨some 44, _, _, _, _, _⟩ :: _) _ _); refine wpList_load_row (o := ⟨some 44, .load 31 _, _, _, _, _⟩) rfl 31 _ rfl (w.heap.size + 1) rfl 31 _ (0, 0) _ R14.out Tryz.underlying31 rfl size_blk ?_)
        | ((with_reducible show wpList _ _ _ (⟨some 45, _, _, _, _, _⟩ :: _) _ _); refine wpList_load_row (o := ⟨some 45, .load 31 _, _, _, _, _⟩) rfl 31 _ rfl (w.heap.size + 1 + 1) rfl 31 _ (0, 0) _ R24.out Tryz.underlying31 rfl size_blk ?_)
        | ((with_reducible show wpList _ _ _ (⟨some 47, _, _, _, _, _⟩ :: _) _ _); refine wpList_load_row (o := ⟨some 47, .load 36 _, _, _, _, _⟩) rfl 36 _ rfl (w.heap.size + 1 + 1 + 1) rfl 36 _ (0, 0) _ R34.out Tryz.underlying36 rfl size_fct ?_)
        | (go_at_call 9
           refine (before_any2 m a1 a2 n1 c1 n2 c2 s t sa ta ns cs nt ct (eventsN m s t) x w4 HM4.out HS4.out HT4.out HX.out).mono ?_
           rw [HBV.out]
           rintro e w5 ⟨rfl, hb5⟩
           have HB5 := Lib.hid hb5
           clear hb5))
      obtain ⟨W5, hW5⟩ : ∃ W5, W5 = w5.alloc (Obj.cells #[.int .i64 y.1, .bool y.2.1, .int .i64 y.2.2] 36) := ⟨_, rfl⟩
      have hY : W5.heap[w5.heap.size]? = some (factO y) := by rw [hW5]; exact heap_alloc_new _ _
      have hb5 : Below w4.heap.size w4 W5 := by rw [hW5]; exact ext_trans HB5.out (ext_alloc _ _)
      rw [← hW5]
      have HY := Lib.hid hY
      have HE5 := Lib.hid (ext_trans HW0.out (ext_trans HE4.out hb5))
      have R35 := Lib.hid (block_ext hb5 R34.out)
      have HF5 := Lib.hid (HF4.out.ext csF_len hb5)
      have HOS5 := Lib.hid (HOS4.out.ext csF_len hb5)
      clear hW5 hY hb5 R04 R14 R24 R34 HM4 HS4 HT4 HF4 HOS4 HB5
      rcases HOUT.out with ⟨hd, rfl⟩ | ⟨hd, rfl⟩ | ⟨hd, hfe, hk⟩
      · have h1 := HBV.out
        rw [before_none hd] at h1
        injection h1 with e1 h1
        injection h1 with e2 e3
        subst e1 e2 e3
        clear HOUT hd
        go_wp2
        go_ret
        exact ⟨rfl, HE5.out⟩
      · have h1 := HBV.out
        rw [before_end hd] at h1
        injection h1 with _ h1
        injection h1 with _ e3
        subst e3
        clear HOUT hd
        go_wp2
        go_ret
        exact ⟨rfl, HE5.out⟩
      · have h1 := HBV.out
        rw [before_end hd] at h1
        injection h1 with e1 h1
        injection h1 with e2 e3
        subst e3
        have hfe13 : (fe == 13) = false := by rcases hfe with rfl | rfl | rfl <;> rfl
        have hfe2 : (fe == 2) = false := by rcases hfe with rfl | rfl | rfl <;> rfl
        unfold told at hk
        rw [e1, e2] at hk
        clear HOUT hd hfe e1 e2 HBV
        have x0 : W5.cell? ⟨w.heap.size + 1 + 1 + 1, 0, none⟩ = some (.int .i64 x.1) := by rw [cell_of_row _ _ _ _ _ _ R35.out]; rfl
        have x1 : W5.cell? ⟨w.heap.size + 1 + 1 + 1, 1, none⟩ = some (.bool x.2.1) := by rw [cell_of_row _ _ _ _ _ _ R35.out]; rfl
        have x2 : W5.cell? ⟨w.heap.size + 1 + 1 + 1, 2, none⟩ = some (.int .i64 x.2.2) := by rw [cell_of_row _ _ _ _ _ _ R35.out]; rfl
        by_cases h3 : k = 3
        · subst h3
          rw [if_pos rfl] at hk
          have HK : Hid (knowsB os x = knowsB ls y) := hk
          clear hk
          go_wp2_with (first
            | (go_at_call 10
               refine (knows_any fa nf cf ls y w6 HF6.out).mono ?_
               rintro e w7 ⟨rfl, hb7⟩
               have HB7 := Lib.hid hb7
               clear hb7)
            | (go_at_call 10
               refine (knows_any oa on oc os x W5 HOS5.out).mono ?_
               rw [HK.out]
               rintro e w6 ⟨rfl, hb6⟩
               have HB6 := Lib.hid hb6
               have HF6 := Lib.hid (HF5.out.ext csF_len hb6)
               have hy6 := block_ext hb6 HY.out
               have y0 : w6.cell? ⟨w5.heap.size, 0, none⟩ = some (.int .i64 y.1) := (by rw [cell_of_row _ _ _ _ _ _ hy6]; rfl)
               have y1 : w6.cell? ⟨w5.heap.size, 1, none⟩ = some (.bool y.2.1) := (by rw [cell_of_row _ _ _ _ _ _ hy6]; rfl)
               have y2 : w6.cell? ⟨w5.heap.size, 2, none⟩ = some (.int .i64 y.2.2) := (by rw [cell_of_row _ _ _ _ _ _ hy6]; rfl)
               clear hb6 hy6))
          go_ret
          exact ⟨ret_bool (by simp), ext_trans HE5.out (ext_trans HB6.out HB7.out)⟩
        · rw [if_neg h3] at hk
          have b3 : (k == 3) = false := by simpa using h3
          by_cases h1 : k = 1
          · subst h1
            have HK : Hid (knowsB os x = true) := by rw [Hid, hk]; rfl
            clear hk h3
            go_wp2_with (first
            | (go_at_call 10
               refine (knows_any oa on oc os x W5 HOS5.out).mono ?_
               rw [HK.out]
               rintro e w6 ⟨rfl, hb6⟩
               have HB6 := Lib.hid hb6
               have HF6 := Lib.hid (HF5.out.ext csF_len hb6)
               have hy6 := block_ext hb6 HY.out
               have y0 : w6.cell? ⟨w5.heap.size, 0, none⟩ = some (.int .i64 y.1) := (by rw [cell_of_row _ _ _ _ _ _ hy6]; rfl)
               have y1 : w6.cell? ⟨w5.heap.size, 1, none⟩ = some (.bool y.2.1) := (by rw [cell_of_row _ _ _ _ _ _ hy6]; rfl)
               have y2 : w6.cell? ⟨w5.heap.size, 2, none⟩ = some (.int .i64 y.2.2) := (by rw [cell_of_row _ _ _ _ _ _ hy6]; rfl)
               clear hb6 hy6))
            go_ret
            exact ⟨ret_bool (by simp), ext_trans HE5.out HB6.out⟩
          · have b1 : (k == 1) = false := by simpa using h1
            have HK : Hid (knowsB os x = false) := by rw [Hid, hk]; simpa using h1
            clear hk h3 h1
            go_wp2_with (first
            | (go_at_call 10
               refine (knows_any oa on oc os x W5 HOS5.out).mono ?_
               rw [HK.out]
               rintro e w6 ⟨rfl, hb6⟩
               have HB6 := Lib.hid hb6
               have HF6 := Lib.hid (HF5.out.ext csF_len hb6)
               have hy6 := block_ext hb6 HY.out
               have y0 : w6.cell? ⟨w5.heap.size, 0, none⟩ = some (.int .i64 y.1) := (by rw [cell_of_row _ _ _ _ _ _ hy6]; rfl)
               have y1 : w6.cell? ⟨w5.heap.size, 1, none⟩ = some (.bool y.2.1) := (by rw [cell_of_row _ _ _ _ _ _ hy6]; rfl)
               have y2 : w6.cell? ⟨w5.heap.size, 2, none⟩ = some (.int .i64 y.2.2) := (by rw [cell_of_row _ _ _ _ _ _ hy6]; rfl)
               clear hb6 hy6))
            go_ret
            exact ⟨ret_bool (by simp), ext_trans HE5.out HB6.out⟩
end
end Go.Proofs.YtfpbfdkjcmlimaaGreat
