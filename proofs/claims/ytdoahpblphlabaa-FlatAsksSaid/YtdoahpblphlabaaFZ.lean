/-
  Flat: FlatFirst, walked.
-/
import Derived.Test.YtdoahpblphlabaaFY
namespace Go.Proofs.Ytdoahpblphlabaa
set_option linter.unusedSimpArgs false
set_option linter.unusedVariables false
open Go.RowKit

theorem beforeGo_or (m : MachD) : ∀ (es : List EvD) (x : Int × Bool × Int), (beforeGo m es x).1 = 3 ∨ (beforeGo m es x).2 = (0, false, 0)
  | [], x => Or.inl rfl
  | e :: es, x => by
    rw [beforeGo]
    by_cases h : (aheadV m e x).1 = 3
    · rw [if_pos h]; exact beforeGo_or m es _
    · rw [if_neg h]; exact Or.inr rfl
theorem evGo_pos (m : MachD) (s t : BlkD) (h : doesB m s t = true) : 0 < (evGo m s.ins t.ins).length := by
  have key : ∀ sl tl, Even sl tl → 0 < (evGo m sl tl).length := by
    intro sl
    induction sl with
    | nil => intro tl _; rw [evGo_end]; simp
    | cons i sl ih =>
      intro tl he
      cases hc : isCopy i with
      | true => rw [evGo_copy m i sl tl hc]; simp
      | false =>
        obtain ⟨u, tl', hd, _⟩ := he.next hc
        rw [evGo_done m i u sl tl tl' hc hd]; simp; omega
  exact key _ _ (even_of_does h)
theorem before0 {m : MachD} {s t : BlkD} {x : Int × Bool × Int} (h : doesB m s t = true) : beforeB m s t 0 x = (3, x, 0) := by
  unfold beforeB
  rw [if_pos h, if_neg (by omega)]
  rfl
theorem beforeX {m : MachD} {s t : BlkD} {x : Int × Bool × Int} (h : doesB m s t = true) (n : Int) (hn : n < 0 ∨ ((evGo m s.ins t.ins).length : Int) < n) : beforeB m s t n x = (0, (0, false, 0), 2) := by
  unfold beforeB
  rw [if_pos h, if_pos hn]
theorem beforeN {m : MachD} {s t : BlkD} {x : Int × Bool × Int} (h : doesB m s t = true) (n : Int) (hn : 0 ≤ n ∧ n ≤ ((evGo m s.ins t.ins).length : Int)) : ∃ k y, beforeB m s t n x = (k, y, 0) ∧ (k = 3 ∨ y = (0, false, 0)) := by
  unfold beforeB
  rw [if_pos h, if_neg (by omega)]
  exact ⟨_, _, rfl, beforeGo_or m _ x⟩
theorem beforeF {m : MachD} {s t : BlkD} {x : Int × Bool × Int} (h : doesB m s t = false) (n : Int) : beforeB m s t n x = (0, (0, false, 0), 13) := by
  unfold beforeB
  rw [if_neg (by rw [h]; simp)]
theorem box4e (w : World) (o1 o2 o3 o4 : Obj) : ∃ W0, Hid (Below w.heap.size w W0) ∧ W0.heap[w.heap.size]? = some o1 ∧ W0.heap[w.heap.size + 1]? = some o2 ∧ W0.heap[w.heap.size + 1 + 1]? = some o3 ∧ W0.heap[w.heap.size + 1 + 1 + 1]? = some o4 ∧ (((w.alloc o1).alloc o2).alloc o3).alloc o4 = W0 := by
  obtain ⟨b1, b2, b3, b4⟩ := box4 w o1 o2 o3 o4
  exact ⟨_, ext_trans (ext_trans (ext_trans (ext_alloc _ _) (ext_alloc _ _)) (ext_alloc _ _)) (ext_alloc _ _), b1, b2, b3, b4, rfl⟩
/-- machines, blocks of whatever size -/
def MachAny (w : World) (m : MachD) (a1 : Option Addr) (n1 c1 : Nat) (a2 : Option Addr) (n2 c2 : Nat) : Prop := Ints w a1 n1 m.args ∧ Ints w a2 n2 m.saved ∧ n1 ≤ c1 ∧ n2 ≤ c2 ∧ I64 m.regs ∧ I64 m.ret
def BlkAny (w : World) (s : BlkD) (ia : Option Addr) (n c : Nat) : Prop := InsS w ia n s.ins ∧ n ≤ c ∧ I64 s.kind ∧ I64 s.a ∧ I64 s.to0 ∧ I64 s.to1
theorem MachAny.ok {w : World} {m : MachD} {a1 a2 : Option Addr} {n1 c1 n2 c2 : Nat} (h : MachAny w m a1 n1 c1 a2 n2 c2) (h1 : n1 ≤ 300) (h2 : n2 ≤ 300) : MachOK w m a1 n1 c1 a2 n2 c2 := ⟨h.1, h.2.1, h.2.2.1, h.2.2.2.1, by omega, by omega, h.2.2.2.2⟩
theorem BlkAny.ok {w : World} {s : BlkD} {ia : Option Addr} {n c : Nat} (h : BlkAny w s ia n c) (h1 : n ≤ 300) : BlkOK w s ia n c := ⟨h.1, by omega, h.2⟩
set_option maxRecDepth 100000 in
set_option maxHeartbeats 8000000 in
theorem first_any (m : MachD) (a1 a2 : Option Addr) (n1 c1 n2 c2 : Nat) (s t : BlkD) (sa ta : Option Addr) (ns cs nt ct : Nat) (n : Int) (x : Int × Bool × Int) (w : World) (hm : MachAny w m a1 n1 c1 a2 n2 c2) (hs : BlkAny w s sa ns cs) (ht : BlkAny w t ta nt ct) (hn : I64 n) (hx : FactOK x) :
    Calls Try.prog 4 #[machV m a1 n1 c1 a2 n2 c2, blkV s sa ns cs, blkV t ta nt ct, .int .i64 n, factV x] w fun e w' => e = .returned (.bool true) ∧ Below w.heap.size w w' := by
  have HM := Lib.hid hm
  have HS := Lib.hid hs
  have HT := Lib.hid ht
  have HX := Lib.hid hx
  have HN := Lib.hid hn
  have l1 := hm.1.2.1
  have l2 := hm.2.1.2.1
  have HLs := Lib.hid hs.1.1.1
  have HLt := Lib.hid ht.1.1.1
  clear hm hs ht hn hx
  obtain ⟨W0, HW0, hM, hS, hT, hF, hW0⟩ := box4e w (machO m a1 n1 c1 a2 n2 c2) (blkO s sa ns cs) (blkO t ta nt ct) (factO x)
  have xm0 : ∀ w', Below W0.heap.size W0 w' → w'.cell? ⟨w.heap.size, 0, none⟩ = some (.int .i64 m.regs) := fun w' hb => by rw [cell_of_row _ _ _ _ _ _ (block_ext hb hM)]; rfl
  have xm1 : ∀ w', Below W0.heap.size W0 w' → w'.cell? ⟨w.heap.size, 1, none⟩ = some (.slice a1 n1 c1) := fun w' hb => by rw [cell_of_row _ _ _ _ _ _ (block_ext hb hM)]; rfl
  have xm2 : ∀ w', Below W0.heap.size W0 w' → w'.cell? ⟨w.heap.size, 2, none⟩ = some (.int .i64 m.ret) := fun w' hb => by rw [cell_of_row _ _ _ _ _ _ (block_ext hb hM)]; rfl
  have xm3 : ∀ w', Below W0.heap.size W0 w' → w'.cell? ⟨w.heap.size, 3, none⟩ = some (.slice a2 n2 c2) := fun w' hb => by rw [cell_of_row _ _ _ _ _ _ (block_ext hb hM)]; rfl
  have xs0 : ∀ w', Below W0.heap.size W0 w' → w'.cell? ⟨w.heap.size + 1, 0, none⟩ = some (.slice sa ns cs) := fun w' hb => by rw [cell_of_row _ _ _ _ _ _ (block_ext hb hS)]; rfl
  have xs1 : ∀ w', Below W0.heap.size W0 w' → w'.cell? ⟨w.heap.size + 1, 1, none⟩ = some (.int .i64 s.kind) := fun w' hb => by rw [cell_of_row _ _ _ _ _ _ (block_ext hb hS)]; rfl
  have xs2 : ∀ w', Below W0.heap.size W0 w' → w'.cell? ⟨w.heap.size + 1, 2, none⟩ = some (.int .i64 s.a) := fun w' hb => by rw [cell_of_row _ _ _ _ _ _ (block_ext hb hS)]; rfl
  have xs3 : ∀ w', Below W0.heap.size W0 w' → w'.cell? ⟨w.heap.size + 1, 3, none⟩ = some (.int .i64 s.to0) := fun w' hb => by rw [cell_of_row _ _ _ _ _ _ (block_ext hb hS)]; rfl
  have xs4 : ∀ w', Below W0.heap.size W0 w' → w'.cell? ⟨w.heap.size + 1, 4, none⟩ = some (.int .i64 s.to1) := fun w' hb => by rw [cell_of_row _ _ _ _ _ _ (block_ext hb hS)]; rfl
  have xt0 : ∀ w', Below W0.heap.size W0 w' → w'.cell? ⟨w.heap.size + 1 + 1, 0, none⟩ = some (.slice ta nt ct) := fun w' hb => by rw [cell_of_row _ _ _ _ _ _ (block_ext hb hT)]; rfl
  have xt1 : ∀ w', Below W0.heap.size W0 w' → w'.cell? ⟨w.heap.size + 1 + 1, 1, none⟩ = some (.int .i64 t.kind) := fun w' hb => by rw [cell_of_row _ _ _ _ _ _ (block_ext hb hT)]; rfl
  have xt2 : ∀ w', Below W0.heap.size W0 w' → w'.cell? ⟨w.heap.size + 1 + 1, 2, none⟩ = some (.int .i64 t.a) := fun w' hb => by rw [cell_of_row _ _ _ _ _ _ (block_ext hb hT)]; rfl
  have xt3 : ∀ w', Below W0.heap.size W0 w' → w'.cell? ⟨w.heap.size + 1 + 1, 3, none⟩ = some (.int .i64 t.to0) := fun w' hb => by rw [cell_of_row _ _ _ _ _ _ (block_ext hb hT)]; rfl
  have xt4 : ∀ w', Below W0.heap.size W0 w' → w'.cell? ⟨w.heap.size + 1 + 1, 4, none⟩ = some (.int .i64 t.to1) := fun w' hb => by rw [cell_of_row _ _ _ _ _ _ (block_ext hb hT)]; rfl
  have xf0 : ∀ w', Below W0.heap.size W0 w' → w'.cell? ⟨w.heap.size + 1 + 1 + 1, 0, none⟩ = some (.int .i64 x.1) := fun w' hb => by rw [cell_of_row _ _ _ _ _ _ (block_ext hb hF)]; rfl
  have xf1 : ∀ w', Below W0.heap.size W0 w' → w'.cell? ⟨w.heap.size + 1 + 1 + 1, 1, none⟩ = some (.bool x.2.1) := fun w' hb => by rw [cell_of_row _ _ _ _ _ _ (block_ext hb hF)]; rfl
  have xf2 : ∀ w', Below W0.heap.size W0 w' → w'.cell? ⟨w.heap.size + 1 + 1 + 1, 2, none⟩ = some (.int .i64 x.2.2) := fun w' hb => by rw [cell_of_row _ _ _ _ _ _ (block_ext hb hF)]; rfl
  clear hM hS hT hF
  have HW := Lib.hid hW0
  clear hW0
  go_enter Try.func4, Try.ntmps4
  go_wp2_with (go_at_call 7; rw [HW.out]; refine (awake_any W0).mono ?_; rintro e w1 ⟨rfl, E1⟩)
  have km0 : ∀ q : ExtW w1, q.val.cell? ⟨w.heap.size, 0, none⟩ = some (.int .i64 m.regs) := fun q => xm0 _ (ext_trans E1 q.ext)
  have km1 : ∀ q : ExtW w1, q.val.cell? ⟨w.heap.size, 1, none⟩ = some (.slice a1 n1 c1) := fun q => xm1 _ (ext_trans E1 q.ext)
  have km2 : ∀ q : ExtW w1, q.val.cell? ⟨w.heap.size, 2, none⟩ = some (.int .i64 m.ret) := fun q => xm2 _ (ext_trans E1 q.ext)
  have km3 : ∀ q : ExtW w1, q.val.cell? ⟨w.heap.size, 3, none⟩ = some (.slice a2 n2 c2) := fun q => xm3 _ (ext_trans E1 q.ext)
  have ks0 : ∀ q : ExtW w1, q.val.cell? ⟨w.heap.size + 1, 0, none⟩ = some (.slice sa ns cs) := fun q => xs0 _ (ext_trans E1 q.ext)
  have ks1 : ∀ q : ExtW w1, q.val.cell? ⟨w.heap.size + 1, 1, none⟩ = some (.int .i64 s.kind) := fun q => xs1 _ (ext_trans E1 q.ext)
  have ks2 : ∀ q : ExtW w1, q.val.cell? ⟨w.heap.size + 1, 2, none⟩ = some (.int .i64 s.a) := fun q => xs2 _ (ext_trans E1 q.ext)
  have ks3 : ∀ q : ExtW w1, q.val.cell? ⟨w.heap.size + 1, 3, none⟩ = some (.int .i64 s.to0) := fun q => xs3 _ (ext_trans E1 q.ext)
  have ks4 : ∀ q : ExtW w1, q.val.cell? ⟨w.heap.size + 1, 4, none⟩ = some (.int .i64 s.to1) := fun q => xs4 _ (ext_trans E1 q.ext)
  have kt0 : ∀ q : ExtW w1, q.val.cell? ⟨w.heap.size + 1 + 1, 0, none⟩ = some (.slice ta nt ct) := fun q => xt0 _ (ext_trans E1 q.ext)
  have kt1 : ∀ q : ExtW w1, q.val.cell? ⟨w.heap.size + 1 + 1, 1, none⟩ = some (.int .i64 t.kind) := fun q => xt1 _ (ext_trans E1 q.ext)
  have kt2 : ∀ q : ExtW w1, q.val.cell? ⟨w.heap.size + 1 + 1, 2, none⟩ = some (.int .i64 t.a) := fun q => xt2 _ (ext_trans E1 q.ext)
  have kt3 : ∀ q : ExtW w1, q.val.cell? ⟨w.heap.size + 1 + 1, 3, none⟩ = some (.int .i64 t.to0) := fun q => xt3 _ (ext_trans E1 q.ext)
  have kt4 : ∀ q : ExtW w1, q.val.cell? ⟨w.heap.size + 1 + 1, 4, none⟩ = some (.int .i64 t.to1) := fun q => xt4 _ (ext_trans E1 q.ext)
  have kf0 : ∀ q : ExtW w1, q.val.cell? ⟨w.heap.size + 1 + 1 + 1, 0, none⟩ = some (.int .i64 x.1) := fun q => xf0 _ (ext_trans E1 q.ext)
  have kf1 : ∀ q : ExtW w1, q.val.cell? ⟨w.heap.size + 1 + 1 + 1, 1, none⟩ = some (.bool x.2.1) := fun q => xf1 _ (ext_trans E1 q.ext)
  have kf2 : ∀ q : ExtW w1, q.val.cell? ⟨w.heap.size + 1 + 1 + 1, 2, none⟩ = some (.int .i64 x.2.2) := fun q => xf2 _ (ext_trans E1 q.ext)
  go_cut [37] (fun s37 wx => ∃ v : Int, s37 = .bool (decide (300 < (n1 : Int) + (n2 : Int) + v)) ∧ 0 ≤ v ∧ (v ≤ 300 → ns ≤ 300 ∧ nt ≤ 300) ∧ Below W0.heap.size W0 wx)
  case first =>
    clear xm0 xm1 xm2 xm3 xs0 xs1 xs2 xs3 xs4 xt0 xt1 xt2 xt3 xt4 xf0 xf1 xf2
    refine z_start (fun w' => ∃ n : ExtW w1, w' = n.val) (by kernel_rfl) ?_
    obtain ⟨v0, F0, hv0⟩ : ∃ v0, Below w1.heap.size w1 v0 ∧ w1.drew = v0 := ⟨_, ext_drewN (Below.refl _ _) 1, rfl⟩
    rw [hv0]
    clear hv0
    refine z_reads 0 1 (by kernel_rfl) ⟨⟨_, F0⟩, rfl⟩ ?_
    simp only [List.take_succ_cons, List.take_zero, List.drop_succ_cons, List.drop_zero]
    repeat (go_big_quiet_step (fail))
    refine wpQuiet_nil ?_
    refine z_reads 2 2 (by kernel_rfl) ⟨⟨_, F0⟩, rfl⟩ ?_
    simp only [List.take_succ_cons, List.take_zero, List.drop_succ_cons, List.drop_zero]
    repeat (go_big_quiet_step (fail))
    refine wpQuiet_nil ?_
    refine z_two 1 4 (by kernel_rfl) ?_ ?_
    · refine wpOp_at rfl rfl ?_
      go_simp
      refine (machineOf_any m a1 a2 n1 c1 n2 c2 v0 l1 l2).mono ?_
      rintro e v1 ⟨rfl, hb⟩
      have F1 : Below w1.heap.size w1 v1 := ext_trans F0 hb
      refine ⟨Or.inr ⟨⟨_, F1⟩, rfl⟩, ?_⟩
      try simp only [Act.put, List.setIfInBounds_toArray, List.set_cons_succ, List.set_cons_zero]
      clear hb
      refine z_one 4 (by kernel_rfl) ?_
      refine wpOp_at rfl rfl ?_
      go_simp
      have F2 : Below w1.heap.size w1 (v1.alloc (.cells #[.slice sa ns cs, .int .i64 s.kind, .int .i64 s.a, .int .i64 s.to0, .int .i64 s.to1, .slice ta nt ct, .int .i64 t.kind, .int .i64 t.a, .int .i64 t.to0, .int .i64 t.to1] 31)) := ext_trans F1 (ext_alloc _ _)
      have FB := heap_alloc_new v1 (.cells #[.slice sa ns cs, .int .i64 s.kind, .int .i64 s.a, .int .i64 s.to0, .int .i64 s.to1, .slice ta nt ct, .int .i64 t.kind, .int .i64 t.a, .int .i64 t.to0, .int .i64 t.to1] 31)
      refine ⟨Or.inr ⟨⟨_, F2⟩, rfl⟩, ?_⟩
      try simp only [Act.put, List.setIfInBounds_toArray, List.set_cons_succ, List.set_cons_zero]
      generalize v1.heap.size = gB at *
      generalize v1.alloc (.cells #[.slice sa ns cs, .int .i64 s.kind, .int .i64 s.a, .int .i64 s.to0, .int .i64 s.to1, .slice ta nt ct, .int .i64 t.kind, .int .i64 t.a, .int .i64 t.to0, .int .i64 t.to1] 31) = v2 at *
      refine z_one 5 (by kernel_rfl) ?_
      have hbs : BlkS v2 (some ⟨gB, 0, none⟩) 2 [⟨s, sa, ns, cs⟩, ⟨t, ta, nt, ct⟩] := ⟨recs_lit (ls := [⟨s, sa, ns, cs⟩, ⟨t, ta, nt, ct⟩]) _ gB _ _ _ FB blkC_len rfl (by simp), fun b hb => by
        have hE := ext_trans (ext_trans HW0.out E1) F2
        rcases List.mem_cons.1 hb with rfl | hb
        · exact HS.out.1.ext hE
        · rw [List.mem_singleton] at hb; subst hb; exact HT.out.1.ext hE⟩
      refine wpOp_at rfl rfl ?_
      go_simp
      refine (blocksOf_any (some ⟨gB, 0, none⟩) 2 2 [⟨s, sa, ns, cs⟩, ⟨t, ta, nt, ct⟩] 300 (by omega) (by omega) v2 hbs).mono ?_
      rintro e v3 ⟨v, rfl, hv0, hv1, hv2, rfl⟩
      refine ⟨Or.inr ⟨⟨_, F2⟩, rfl⟩, ?_⟩
      try simp only [Act.put, List.setIfInBounds_toArray, List.set_cons_succ, List.set_cons_zero]
      have hsum : IntKind.i64.wrap ((n1 : Int) + (n2 : Int) + v) = (n1 : Int) + (n2 : Int) + v := IntWalk.i64_in _ (by omega)
      refine z_reads 6 2 (by kernel_rfl) ⟨⟨_, F2⟩, rfl⟩ ?_
      simp only [List.take_succ_cons, List.take_zero, List.drop_succ_cons, List.drop_zero]
      repeat (go_big_quiet_step (fail))
      refine wpQuiet_nil ?_
      refine z_done (by kernel_rfl) ?_
      go_wp2_with fail
      go_meet
      exact ⟨v, rfl, hv0, fun h => ⟨by have := hv2 h ⟨s, sa, ns, cs⟩ (by simp); simp at this; omega, by have := hv2 h ⟨t, ta, nt, ct⟩ (by simp); simp at this; omega⟩, ext_trans E1 F2⟩
    · refine wpOp_at rfl rfl ?_
      go_simp
      have F1 : Below w1.heap.size w1 (v0.alloc (.cells #[.slice sa ns cs, .int .i64 s.kind, .int .i64 s.a, .int .i64 s.to0, .int .i64 s.to1, .slice ta nt ct, .int .i64 t.kind, .int .i64 t.a, .int .i64 t.to0, .int .i64 t.to1] 31)) := ext_trans F0 (ext_alloc _ _)
      have FB := heap_alloc_new v0 (.cells #[.slice sa ns cs, .int .i64 s.kind, .int .i64 s.a, .int .i64 s.to0, .int .i64 s.to1, .slice ta nt ct, .int .i64 t.kind, .int .i64 t.a, .int .i64 t.to0, .int .i64 t.to1] 31)
      refine ⟨Or.inr ⟨⟨_, F1⟩, rfl⟩, ?_⟩
      try simp only [Act.put, List.setIfInBounds_toArray, List.set_cons_succ, List.set_cons_zero]
      generalize v0.heap.size = gB at *
      generalize v0.alloc (.cells #[.slice sa ns cs, .int .i64 s.kind, .int .i64 s.a, .int .i64 s.to0, .int .i64 s.to1, .slice ta nt ct, .int .i64 t.kind, .int .i64 t.a, .int .i64 t.to0, .int .i64 t.to1] 31) = v1 at *
      refine z_one 1 (by kernel_rfl) ?_
      refine wpOp_at rfl rfl ?_
      go_simp
      refine (machineOf_any m a1 a2 n1 c1 n2 c2 v1 l1 l2).mono ?_
      rintro e v2 ⟨rfl, hb⟩
      have F2 : Below w1.heap.size w1 v2 := ext_trans F1 hb
      replace FB := block_ext hb FB
      refine ⟨Or.inr ⟨⟨_, F2⟩, rfl⟩, ?_⟩
      try simp only [Act.put, List.setIfInBounds_toArray, List.set_cons_succ, List.set_cons_zero]
      clear hb
      refine z_one 5 (by kernel_rfl) ?_
      have hbs : BlkS v2 (some ⟨gB, 0, none⟩) 2 [⟨s, sa, ns, cs⟩, ⟨t, ta, nt, ct⟩] := ⟨recs_lit (ls := [⟨s, sa, ns, cs⟩, ⟨t, ta, nt, ct⟩]) _ gB _ _ _ FB blkC_len rfl (by simp), fun b hb => by
        have hE := ext_trans (ext_trans HW0.out E1) F2
        rcases List.mem_cons.1 hb with rfl | hb
        · exact HS.out.1.ext hE
        · rw [List.mem_singleton] at hb; subst hb; exact HT.out.1.ext hE⟩
      refine wpOp_at rfl rfl ?_
      go_simp
      refine (blocksOf_any (some ⟨gB, 0, none⟩) 2 2 [⟨s, sa, ns, cs⟩, ⟨t, ta, nt, ct⟩] 300 (by omega) (by omega) v2 hbs).mono ?_
      rintro e v3 ⟨v, rfl, hv0, hv1, hv2, rfl⟩
      refine ⟨Or.inr ⟨⟨_, F2⟩, rfl⟩, ?_⟩
      try simp only [Act.put, List.setIfInBounds_toArray, List.set_cons_succ, List.set_cons_zero]
      have hsum : IntKind.i64.wrap ((n1 : Int) + (n2 : Int) + v) = (n1 : Int) + (n2 : Int) + v := IntWalk.i64_in _ (by omega)
      refine z_reads 6 2 (by kernel_rfl) ⟨⟨_, F2⟩, rfl⟩ ?_
      simp only [List.take_succ_cons, List.take_zero, List.drop_succ_cons, List.drop_zero]
      repeat (go_big_quiet_step (fail))
      refine wpQuiet_nil ?_
      refine z_done (by kernel_rfl) ?_
      go_wp2_with fail
      go_meet
      exact ⟨v, rfl, hv0, fun h => ⟨by have := hv2 h ⟨s, sa, ns, cs⟩ (by simp); simp at this; omega, by have := hv2 h ⟨t, ta, nt, ct⟩ (by simp); simp at this; omega⟩, ext_trans E1 F2⟩
  case rest =>
    obtain ⟨v, rfl, hv0, hv, E2⟩ := hcut
    obtain ⟨w2, rfl⟩ : ∃ w2, w2 = wc := ⟨_, rfl⟩
    clear km0 km1 km2 km3 ks0 ks1 ks2 ks3 ks4 kt0 kt1 kt2 kt3 kt4 kf0 kf1 kf2
    by_cases hbig : 300 < (n1 : Int) + (n2 : Int) + v
    · have hbd : decide (300 < (n1 : Int) + (n2 : Int) + v) = true := by simpa using hbig
      go_wp2
      go_ret
      exact ⟨rfl, ext_trans HW0.out E2⟩
    · have hbd : decide (300 < (n1 : Int) + (n2 : Int) + v) = false := by simpa using hbig
      rw [hbd]
      obtain ⟨hns, hnt⟩ := hv (by omega)
      have HM1 := Lib.hid (HM.out.ok (by omega) (by omega))
      have HS1 := Lib.hid (HS.out.ok hns)
      have HT1 := Lib.hid (HT.out.ok hnt)
      have hel := evGo_len m s.ins t.ins
      rw [HLs.out, HLt.out] at hel
      clear hv hbig hbd hv0
      cases hd : doesB m s t with
      | false =>
        have HEn : Hid (eventsN m s t = 0) := by rw [Hid, eventsN, hd]; rfl
        have HB0 := Lib.hid (beforeF (x := x) hd 0)
        go_wp2_with fail
        refine (eventsN_any m a1 a2 n1 c1 n2 c2 s t sa ta ns cs nt ct w2 ((HM1.out.ext HW0.out).ext E2) ((HS1.out.ext HW0.out).ext E2) ((HT1.out.ext HW0.out).ext E2)).mono ?_
        rw [HEn.out]
        rintro e w3 ⟨rfl, hb⟩
        have E3 : Below W0.heap.size W0 w3 := ext_trans E2 hb
        clear hb
        go_wp2_with fail
        refine (before_any2 m a1 a2 n1 c1 n2 c2 s t sa ta ns cs nt ct 0 x w3 ((HM1.out.ext HW0.out).ext E3) ((HS1.out.ext HW0.out).ext E3) ((HT1.out.ext HW0.out).ext E3) HX.out).mono ?_
        rw [HB0.out]
        rintro e w4 ⟨rfl, hb⟩
        have E4 : ∀ o, Below W0.heap.size W0 (w4.alloc o) := fun o => ext_trans (ext_trans E3 hb) (ext_alloc _ _)
        clear hb
        go_wp2_with fail
        refine (does_any m a1 a2 n1 c1 n2 c2 s t sa ta ns cs nt ct _ ((HM1.out.ext HW0.out).ext (E4 _)) ((HS1.out.ext HW0.out).ext (E4 _)) ((HT1.out.ext HW0.out).ext (E4 _))).mono ?_
        rw [hd]
        rintro e w5 ⟨rfl, hb⟩
        have HB5 := Lib.hid (ext_trans (ext_trans HW0.out (E4 _)) hb)
        clear hb
        go_wp2
        go_ret
        exact ⟨rfl, HB5.out⟩
      | true =>
        have hpos := evGo_pos m s t hd
        have HB0 := Lib.hid (before0 (x := x) hd)
        have HBm := Lib.hid (beforeX (x := x) hd (-1) (Or.inl (by omega)))
        have HBx := Lib.hid (beforeX (x := x) hd ((evGo m s.ins t.ins).length + 1) (Or.inr (by omega)))
        have HPi : Hid (pickI n (evGo m s.ins t.ins).length = n % (evGo m s.ins t.ins).length) := by rw [Hid, pickI, if_neg (by omega)]
        have hk0 := Int.emod_nonneg n (show ((evGo m s.ins t.ins).length : Int) ≠ 0 by omega)
        have hk1 := Int.emod_lt_of_pos n (show 0 < ((evGo m s.ins t.ins).length : Int) by omega)
        obtain ⟨kb, yb, hbk, hob⟩ := beforeN (x := x) hd (n % (evGo m s.ins t.ins).length) ⟨by omega, by omega⟩
        obtain ⟨kc, yc, hck, hoc⟩ := beforeN (x := x) hd (n % (evGo m s.ins t.ins).length + 1) ⟨by omega, by omega⟩
        have HEn : Hid (eventsN m s t = (evGo m s.ins t.ins).length) := by rw [Hid, eventsN, hd]; rfl
        generalize (evGo m s.ins t.ins).length = L at *
        generalize hkk : n % (L : Int) = k at *
        have HBk := Lib.hid hbk
        have HCk := Lib.hid hck
        have HOb := Lib.hid hob
        have HOc := Lib.hid hoc
        clear hkk hbk hck hob hoc
        go_wp2_with fail
        refine (eventsN_any m a1 a2 n1 c1 n2 c2 s t sa ta ns cs nt ct w2 ((HM1.out.ext HW0.out).ext E2) ((HS1.out.ext HW0.out).ext E2) ((HT1.out.ext HW0.out).ext E2)).mono ?_
        rw [HEn.out]
        rintro e w3 ⟨rfl, hb⟩
        have E3 : Below W0.heap.size W0 w3 := ext_trans E2 hb
        clear hb
        go_wp2_with fail
        refine (before_any2 m a1 a2 n1 c1 n2 c2 s t sa ta ns cs nt ct 0 x w3 ((HM1.out.ext HW0.out).ext E3) ((HS1.out.ext HW0.out).ext E3) ((HT1.out.ext HW0.out).ext E3) HX.out).mono ?_
        rw [HB0.out]
        rintro e w4 ⟨rfl, hb⟩
        have E4 : ∀ o, Below W0.heap.size W0 (w4.alloc o) := fun o => ext_trans (ext_trans E3 hb) (ext_alloc _ _)
        have hY := heap_alloc_new w4 (factO x)
        have y0 : ∀ w', Below (w4.alloc (factO x)).heap.size (w4.alloc (factO x)) w' → w'.cell? ⟨w4.heap.size, 0, none⟩ = some (.int .i64 x.1) := fun w' hb => by rw [cell_of_row _ _ _ _ _ _ (block_ext hb hY)]; rfl
        have y1 : ∀ w', Below (w4.alloc (factO x)).heap.size (w4.alloc (factO x)) w' → w'.cell? ⟨w4.heap.size, 1, none⟩ = some (.bool x.2.1) := fun w' hb => by rw [cell_of_row _ _ _ _ _ _ (block_ext hb hY)]; rfl
        have y2 : ∀ w', Below (w4.alloc (factO x)).heap.size (w4.alloc (factO x)) w' → w'.cell? ⟨w4.heap.size, 2, none⟩ = some (.int .i64 x.2.2) := fun w' hb => by rw [cell_of_row _ _ _ _ _ _ (block_ext hb hY)]; rfl
        clear hb hY
        go_wp2_with fail
        refine (does_any m a1 a2 n1 c1 n2 c2 s t sa ta ns cs nt ct _ ((HM1.out.ext HW0.out).ext (E4 _)) ((HS1.out.ext HW0.out).ext (E4 _)) ((HT1.out.ext HW0.out).ext (E4 _))).mono ?_
        rw [hd]
        rintro e w5 ⟨rfl, hb⟩
        have E5 : Below W0.heap.size W0 w5 := ext_trans (E4 _) hb
        have D5 : Below (w4.alloc (factO x)).heap.size (w4.alloc (factO x)) w5 := hb
        clear hb E4
        go_wp2_with fail
        refine (before_any2 m a1 a2 n1 c1 n2 c2 s t sa ta ns cs nt ct ((L : Int) + 1) x w5 ((HM1.out.ext HW0.out).ext E5) ((HS1.out.ext HW0.out).ext E5) ((HT1.out.ext HW0.out).ext E5) HX.out).mono ?_
        rw [HBx.out]
        rintro e w6 ⟨rfl, hb⟩
        have E6 : ∀ o, Below W0.heap.size W0 (w6.alloc o) := fun o => ext_trans (ext_trans E5 hb) (ext_alloc _ _)
        have D6 : ∀ o, Below (w4.alloc (factO x)).heap.size (w4.alloc (factO x)) (w6.alloc o) := fun o => ext_trans (ext_trans D5 hb) (ext_alloc _ _)
        clear hb
        go_wp2_with fail
        refine (before_any2 m a1 a2 n1 c1 n2 c2 s t sa ta ns cs nt ct (-1) x _ ((HM1.out.ext HW0.out).ext (E6 _)) ((HS1.out.ext HW0.out).ext (E6 _)) ((HT1.out.ext HW0.out).ext (E6 _)) HX.out).mono ?_
        rw [HBm.out]
        rintro e w7 ⟨rfl, hb⟩
        have E7 : ∀ o, Below W0.heap.size W0 (w7.alloc o) := fun o => ext_trans (ext_trans (E6 _) hb) (ext_alloc _ _)
        have D7 : ∀ o, Below (w4.alloc (factO x)).heap.size (w4.alloc (factO x)) (w7.alloc o) := fun o => ext_trans (ext_trans (D6 _) hb) (ext_alloc _ _)
        clear hb
        clear E5 D5 E6 D6
        go_wp2_with fail
        refine (pick_any n (L : Int) _ HN.out ⟨by omega, by omega⟩).mono ?_
        rw [HPi.out]
        rintro e wp ⟨rfl, rfl⟩
        go_wp2_with fail
        refine (before_any2 m a1 a2 n1 c1 n2 c2 s t sa ta ns cs nt ct k x _ ((HM1.out.ext HW0.out).ext (E7 _)) ((HS1.out.ext HW0.out).ext (E7 _)) ((HT1.out.ext HW0.out).ext (E7 _)) HX.out).mono ?_
        rw [HBk.out]
        rintro e w8 ⟨rfl, hb⟩
        have E8 : ∀ o, Below W0.heap.size W0 (w8.alloc o) := fun o => ext_trans (ext_trans (E7 _) hb) (ext_alloc _ _)
        have D8 : ∀ o, Below (w4.alloc (factO x)).heap.size (w4.alloc (factO x)) (w8.alloc o) := fun o => ext_trans (ext_trans (D7 _) hb) (ext_alloc _ _)
        have hZ := heap_alloc_new w8 (factO yb)
        have z0 : ∀ w', Below (w8.alloc (factO yb)).heap.size (w8.alloc (factO yb)) w' → w'.cell? ⟨w8.heap.size, 0, none⟩ = some (.int .i64 yb.1) := fun w' hb => by rw [cell_of_row _ _ _ _ _ _ (block_ext hb hZ)]; rfl
        have z1 : ∀ w', Below (w8.alloc (factO yb)).heap.size (w8.alloc (factO yb)) w' → w'.cell? ⟨w8.heap.size, 1, none⟩ = some (.bool yb.2.1) := fun w' hb => by rw [cell_of_row _ _ _ _ _ _ (block_ext hb hZ)]; rfl
        have z2 : ∀ w', Below (w8.alloc (factO yb)).heap.size (w8.alloc (factO yb)) w' → w'.cell? ⟨w8.heap.size, 2, none⟩ = some (.int .i64 yb.2.2) := fun w' hb => by rw [cell_of_row _ _ _ _ _ _ (block_ext hb hZ)]; rfl
        clear hZ
        clear hb
        clear E7 D7
        go_wp2_with fail
        refine (before_any2 m a1 a2 n1 c1 n2 c2 s t sa ta ns cs nt ct (k + 1) x _ ((HM1.out.ext HW0.out).ext (E8 _)) ((HS1.out.ext HW0.out).ext (E8 _)) ((HT1.out.ext HW0.out).ext (E8 _)) HX.out).mono ?_
        rw [HCk.out]
        rintro e w9 ⟨rfl, hb⟩
        have E9 : ∀ o, Below W0.heap.size W0 (w9.alloc o) := fun o => ext_trans (ext_trans (E8 _) hb) (ext_alloc _ _)
        have D9 : ∀ o, Below (w4.alloc (factO x)).heap.size (w4.alloc (factO x)) (w9.alloc o) := fun o => ext_trans (ext_trans (D8 _) hb) (ext_alloc _ _)
        have G9 : ∀ o, Below (w8.alloc (factO yb)).heap.size (w8.alloc (factO yb)) (w9.alloc o) := fun o => ext_trans hb (ext_alloc _ _)
        clear hb
        clear E8 D8
        have qn : ∀ w, (binOp .neq 35 (.agg #[.int .i64 x.1, .bool x.2.1, .int .i64 x.2.2]) (.agg #[.int .i64 x.1, .bool x.2.1, .int .i64 x.2.2])).run Try.prog w = .ok (.bool false) w := fun w => by rw [neq_fact w x x]; simp [sameFact]
        have qb : ∀ w, (binOp .eql 35 (.agg #[.int .i64 yb.1, .bool yb.2.1, .int .i64 yb.2.2]) (.agg #[.int .i64 0, .bool false, .int .i64 0])).run Try.prog w = .ok (.bool (sameFact yb (0, false, 0))) w := fun w => eql_fact w yb (0, false, 0)
        have qc : ∀ w, (binOp .eql 35 (.agg #[.int .i64 yc.1, .bool yc.2.1, .int .i64 yc.2.2]) (.agg #[.int .i64 0, .bool false, .int .i64 0])).run Try.prog w = .ok (.bool (sameFact yc (0, false, 0))) w := fun w => eql_fact w yc (0, false, 0)
        have hL0 : (0 : Int) < (L : Int) := by omega
        have Y0 : (w9.alloc (.cells #[.int .i64 yc.1, .bool yc.2.1, .int .i64 yc.2.2] 35)).cell? ⟨w4.heap.size, 0, none⟩ = some (.int .i64 x.1) := y0 _ (D9 _)
        have Y1 : (w9.alloc (.cells #[.int .i64 yc.1, .bool yc.2.1, .int .i64 yc.2.2] 35)).cell? ⟨w4.heap.size, 1, none⟩ = some (.bool x.2.1) := y1 _ (D9 _)
        have Y2 : (w9.alloc (.cells #[.int .i64 yc.1, .bool yc.2.1, .int .i64 yc.2.2] 35)).cell? ⟨w4.heap.size, 2, none⟩ = some (.int .i64 x.2.2) := y2 _ (D9 _)
        have Z0 : (w9.alloc (.cells #[.int .i64 yc.1, .bool yc.2.1, .int .i64 yc.2.2] 35)).cell? ⟨w8.heap.size, 0, none⟩ = some (.int .i64 yb.1) := z0 _ (G9 _)
        have Z1 : (w9.alloc (.cells #[.int .i64 yc.1, .bool yc.2.1, .int .i64 yc.2.2] 35)).cell? ⟨w8.heap.size, 1, none⟩ = some (.bool yb.2.1) := z1 _ (G9 _)
        have Z2 : (w9.alloc (.cells #[.int .i64 yc.1, .bool yc.2.1, .int .i64 yc.2.2] 35)).cell? ⟨w8.heap.size, 2, none⟩ = some (.int .i64 yb.2.2) := z2 _ (G9 _)
        have X0 : (w9.alloc (.cells #[.int .i64 yc.1, .bool yc.2.1, .int .i64 yc.2.2] 35)).cell? ⟨w.heap.size + 1 + 1 + 1, 0, none⟩ = some (.int .i64 x.1) := xf0 _ (E9 _)
        have X1 : (w9.alloc (.cells #[.int .i64 yc.1, .bool yc.2.1, .int .i64 yc.2.2] 35)).cell? ⟨w.heap.size + 1 + 1 + 1, 1, none⟩ = some (.bool x.2.1) := xf1 _ (E9 _)
        have X2 : (w9.alloc (.cells #[.int .i64 yc.1, .bool yc.2.1, .int .i64 yc.2.2] 35)).cell? ⟨w.heap.size + 1 + 1 + 1, 2, none⟩ = some (.int .i64 x.2.2) := xf2 _ (E9 _)
        have HE9 := Lib.hid (ext_trans HW0.out (E9 (.cells #[.int .i64 yc.1, .bool yc.2.1, .int .i64 yc.2.2] 35)))
        clear E9 D9 G9 y0 y1 y2 z0 z1 z2 xm0 xm1 xm2 xm3 xs0 xs1 xs2 xs3 xs4 xt0 xt1 xt2 xt3 xt4 xf0 xf1 xf2
        go_wp2
        all_goals
          go_ret
          refine ⟨ret_bool ?_, HE9.out⟩
          go_light
          have h1 := HOb.out
          have h2 := HOc.out
          clear qn qb qc Y0 Y1 Y2 Z0 Z1 Z2 X0 X1 X2
          rcases h1 with h1 | h1 <;> rcases h2 with h2 | h2 <;> simp_all [sameFact]
end Go.Proofs.Ytdoahpblphlabaa
