/-
  Flat: check.Does.
-/
import Derived.Test.YtfpbfdkjcmlimaaGreatFM
import Derived.Deep.Onto
import Derived.ChangeKeysEq
import Derived.Laws.StructEq
namespace Go.Proofs.YtfpbfdkjcmlimaaGreat
set_option linter.unusedSimpArgs false
set_option linter.unusedVariables false
set_option linter.unusedSectionVars false
set_option maxRecDepth 100000
set_option maxHeartbeats 40000000
section
open Go.RowKit
def isCopy (r : InsR) : Bool := r.d.op == 14
def isInserted (r : InsR) : Bool := insB r.d.op
def isMany (n : Nat) (r : InsR) : Bool := decide ((n : Int) < r.d.many)
theorem does1_any (r : InsR) (w : World) : Calls Tryz.prog 19 (#[insVR r] ++ #[]) w fun e w' => e = .returned (.bool (isCopy r)) ∧ Below w.heap.size w w' := by
  show Calls Tryz.prog 19 #[insVR r] w _
  go_enter Tryz.func19, Tryz.ntmps19
  go_wp2
  go_ret
  exact ⟨rfl, ext_alloc _ _⟩
theorem call_does1 (args : Array Value) (w : World) : (callFunc 19 args).run Tryz.prog w = .ok (.enter 19 args) w := by kernel_rfl
theorem does2_any (r : InsR) (w : World) : Calls Tryz.prog 20 (#[insVR r] ++ #[]) w fun e w' => e = .returned (.bool (isInserted r)) ∧ Below w.heap.size w w' := by
  show Calls Tryz.prog 20 #[insVR r] w _
  go_enter Tryz.func20, Tryz.ntmps20
  go_wp2_with (go_at_call 21; refine (inserted_any _ _).mono ?_; rintro e w' ⟨rfl, rfl⟩)
  go_ret
  exact ⟨rfl, ext_alloc _ _⟩
theorem call_does2 (args : Array Value) (w : World) : (callFunc 20 args).run Tryz.prog w = .ok (.enter 20 args) w := by kernel_rfl
theorem does3_any (r : InsR) (w : World) (M : Nat) (a1 : Option Addr) (n1 c1 : Nat) (hn : n1 ≤ 1000000) (hM : w.cell? ⟨M, 1, none⟩ = some (.slice a1 n1 c1)) :
    Calls Tryz.prog 24 (#[insVR r] ++ #[.pointer (some ⟨M, 0, none⟩)]) w fun e w' => e = .returned (.bool (isMany n1 r)) ∧ Below w.heap.size w w' := by
  show Calls Tryz.prog 24 #[insVR r, .pointer (some ⟨M, 0, none⟩)] w _
  have hlt : M < w.heap.size := World.block_lt_of_cell? w _ hM
  go_enter Tryz.func24, Tryz.ntmps24
  go_wp2
  go_ret
  exact ⟨rfl, ext_alloc _ _⟩
theorem call_does3 (args : Array Value) (w : World) : (callFunc 24 args).run Tryz.prog w = .ok (.enter 24 args) w := by kernel_rfl
theorem part_int (cs : Array Value) (o : Nat) (v : Value) (w : World) (h : cs[o]? = some v) : (part 3 cs o).run Tryz.prog w = .ok v w := by
  have hu : (underlying 3).run Tryz.prog w = .ok (.int .i64) w := run_underlying Tryz.underlying3 w
  simp [part, isAgg, hu, h]
theorem equal_to (w : World) (x0 x1 y0 y1 : Int) : (Op.equalIn 10000 27 (.agg #[.int .i64 x0, .int .i64 x1]) (.agg #[.int .i64 y0, .int .i64 y1])).run Tryz.prog w = .ok (x0 == y0 && x1 == y1) w := by
  obtain ⟨i, hi, -, -, -⟩ := info_parts info_int
  have h1 : Tryz.prog.cellsOf 3 = 1 := by kernel_rfl
  have e0 := run_equalIn_int w 9998 3 .i64 .i64 x0 y0 Tryz.underlying3
  have e1 := run_equalIn_int w 9998 3 .i64 .i64 x1 y1 Tryz.underlying3
  rw [run_equalIn_array w 9999 _ _ Tryz.underlying27 hi, h1]
  simp only [List.range, List.range.loop, Op.eqItems, Sem.run_bind, Nat.zero_mul, Nat.one_mul]
  rw [part_int _ 0 (.int .i64 x0) w rfl]
  simp only [Result.andThen_ok]
  rw [part_int _ 0 (.int .i64 y0) w rfl]
  simp only [Result.andThen_ok]
  rw [e0]
  simp only [Result.andThen_ok]
  cases hq : (x0 == y0) with
  | false => simp
  | true =>
    simp only [Bool.not_true, Bool.false_eq_true, if_false, Sem.run_bind]
    rw [part_int _ 1 (.int .i64 x1) w rfl]
    simp only [Result.andThen_ok]
    rw [part_int _ 1 (.int .i64 y1) w rfl]
    simp only [Result.andThen_ok]
    rw [e1]
    simp only [Result.andThen_ok]
    cases hq : (x1 == y1) <;> simp
theorem neq_to (w : World) (x0 x1 y0 y1 : Int) : (binOp .neq 27 (.agg #[.int .i64 x0, .int .i64 x1]) (.agg #[.int .i64 y0, .int .i64 y1])).run Tryz.prog w = .ok (.bool (!(x0 == y0 && x1 == y1))) w := by
  rw [run_neq_struct, equal_to]
  rfl
def manyB (n : Nat) (l : List InsR) : Bool := l.any (isMany n)
structure BlkD where
  ins : List InsR
  kind : Int
  a : Int
  to0 : Int
  to1 : Int
abbrev blkV (s : BlkD) (ia : Option Addr) (n c : Nat) : Value := .agg #[.slice ia n c, .int .i64 s.kind, .int .i64 s.a, .int .i64 s.to0, .int .i64 s.to1]
abbrev blkO (s : BlkD) (ia : Option Addr) (n c : Nat) : Obj := .cells #[.slice ia n c, .int .i64 s.kind, .int .i64 s.a, .int .i64 s.to0, .int .i64 s.to1] 31
def BlkOK (w : World) (s : BlkD) (ia : Option Addr) (n c : Nat) : Prop := InsS w ia n s.ins ∧ n ≤ 1000000 ∧ n ≤ c ∧ I64 s.kind ∧ I64 s.a ∧ I64 s.to0 ∧ I64 s.to1
theorem BlkOK.ext {w w' : World} {s : BlkD} {ia : Option Addr} {n c : Nat} (h : BlkOK w s ia n c) (hb : Below w.heap.size w w') : BlkOK w' s ia n c := ⟨h.1.ext hb, h.2⟩
def sameTo (s t : BlkD) : Bool := s.to0 == t.to0 && s.to1 == t.to1
def bareS (s : BlkD) : List InsR := s.ins.filter fun x => !isCopy x
def bareT (t : BlkD) : List InsR := t.ins.filter fun x => !isInserted x
def tellsV (m : MachD) (s : BlkD) : Int := if s.a = 0 then -1 else m.ret
def doesB (m : MachD) (s t : BlkD) : Bool :=
  rightB m && eqFB alikeR (bareS s) (bareT t) && !manyB m.args.length (bareT t) && (s.kind == t.kind) && sameTo s t && (s.kind != 3 || t.a == tellsV m s)
theorem box3 (w : World) (o1 o2 o3 : Obj) : ((((w.alloc o1).alloc o2).alloc o3).heap[w.heap.size]? = some o1) ∧ ((((w.alloc o1).alloc o2).alloc o3).heap[w.heap.size + 1]? = some o2) ∧ ((((w.alloc o1).alloc o2).alloc o3).heap[w.heap.size + 1 + 1]? = some o3) := by
  have h1 := heap_alloc_new w o1
  have h2 := heap_alloc_new (w.alloc o1) o2
  have h3 := heap_alloc_new ((w.alloc o1).alloc o2) o3
  simp only [World.size_alloc] at h2 h3
  exact ⟨block_ext (ext_alloc _ _) (block_ext (ext_alloc _ _) h1), block_ext (ext_alloc _ _) h2, h3⟩
theorem insS_of_row {w : World} {B : Nat} {v : Value} {rs : List InsR} (h : InsRow w B v rs) (hl : rs.length ≤ 1000000) (hok : ∀ r ∈ rs, InsOK w r) : ∃ a c, v = .slice a rs.length c ∧ InsS w a rs.length rs := by
  obtain ⟨a, c, e, hr, _⟩ := recs_of_own insC_len h (by omega)
  exact ⟨a, c, e, hr, hok⟩
theorem does_any (m : MachD) (a1 a2 : Option Addr) (n1 c1 n2 c2 : Nat) (s t : BlkD) (sa ta : Option Addr) (ns cs nt ct : Nat) (w : World) (hm : MachOK w m a1 n1 c1 a2 n2 c2) (hs : BlkOK w s sa ns cs) (ht : BlkOK w t ta nt ct) :
    Calls Tryz.prog 12 #[machV m a1 n1 c1 a2 n2 c2, blkV s sa ns cs, blkV t ta nt ct] w fun e w' => e = .returned (.bool (doesB m s t)) ∧ Below w.heap.size w w' := by
  have HM := Lib.hid hm
  have HS := Lib.hid hs
  have HT := Lib.hid ht
  have q1 := hm.2.2.2.2.1
  have q2 := hs.2.1
  have q3 := ht.2.1
  have HLm := Lib.hid hm.1.1
  have HLs := Lib.hid hs.1.1.1
  have HLt := Lib.hid ht.1.1.1
  clear hm hs ht
  go_enter Tryz.func12, Tryz.ntmps12
  go_wp2
  obtain ⟨W0, HW0, hM, hS, hT, hW0⟩ : ∃ W0, Hid (Below w.heap.size w W0) ∧ W0.heap[w.heap.size]? = some (machO m a1 n1 c1 a2 n2 c2) ∧ W0.heap[w.heap.size + 1]? = some (blkO s sa ns cs) ∧ W0.heap[w.heap.size + 1 + 1]? = some (blkO t ta nt ct) ∧ ((w.alloc (machO m a1 n1 c1 a2 n2 c2)).alloc (blkO s sa ns cs)).alloc (blkO t ta nt ct) = W0 :=
    ⟨_, ext_trans (ext_trans (ext_alloc _ _) (ext_alloc _ _)) (ext_alloc _ _), (box3 w _ _ _).1, (box3 w _ _ _).2.1, (box3 w _ _ _).2.2, rfl⟩
  rw [hW0]
  clear hW0
  generalize w.heap.size = pM at hM hS hT ⊢
  generalize pM + 1 = pS at *
  generalize pS + 1 = pT at *
  have m0 : ∀ w', Below W0.heap.size W0 w' → w'.cell? ⟨pM, 0, none⟩ = some (.int .i64 m.regs) := fun w' hb => by rw [cell_of_row _ _ _ _ _ _ (block_ext hb hM)]; rfl
  have m1 : ∀ w', Below W0.heap.size W0 w' → w'.cell? ⟨pM, 1, none⟩ = some (.slice a1 n1 c1) := fun w' hb => by rw [cell_of_row _ _ _ _ _ _ (block_ext hb hM)]; rfl
  have m2 : ∀ w', Below W0.heap.size W0 w' → w'.cell? ⟨pM, 2, none⟩ = some (.int .i64 m.ret) := fun w' hb => by rw [cell_of_row _ _ _ _ _ _ (block_ext hb hM)]; rfl
  have m3 : ∀ w', Below W0.heap.size W0 w' → w'.cell? ⟨pM, 3, none⟩ = some (.slice a2 n2 c2) := fun w' hb => by rw [cell_of_row _ _ _ _ _ _ (block_ext hb hM)]; rfl
  have s0 : ∀ w', Below W0.heap.size W0 w' → w'.cell? ⟨pS, 0, none⟩ = some (.slice sa ns cs) := fun w' hb => by rw [cell_of_row _ _ _ _ _ _ (block_ext hb hS)]; rfl
  have s1 : ∀ w', Below W0.heap.size W0 w' → w'.cell? ⟨pS, 1, none⟩ = some (.int .i64 s.kind) := fun w' hb => by rw [cell_of_row _ _ _ _ _ _ (block_ext hb hS)]; rfl
  have s2 : ∀ w', Below W0.heap.size W0 w' → w'.cell? ⟨pS, 2, none⟩ = some (.int .i64 s.a) := fun w' hb => by rw [cell_of_row _ _ _ _ _ _ (block_ext hb hS)]; rfl
  have s3 : ∀ w', Below W0.heap.size W0 w' → w'.cell? ⟨pS, 3, none⟩ = some (.int .i64 s.to0) := fun w' hb => by rw [cell_of_row _ _ _ _ _ _ (block_ext hb hS)]; rfl
  have s4 : ∀ w', Below W0.heap.size W0 w' → w'.cell? ⟨pS, 4, none⟩ = some (.int .i64 s.to1) := fun w' hb => by rw [cell_of_row _ _ _ _ _ _ (block_ext hb hS)]; rfl
  have t0 : ∀ w', Below W0.heap.size W0 w' → w'.cell? ⟨pT, 0, none⟩ = some (.slice ta nt ct) := fun w' hb => by rw [cell_of_row _ _ _ _ _ _ (block_ext hb hT)]; rfl
  have t1 : ∀ w', Below W0.heap.size W0 w' → w'.cell? ⟨pT, 1, none⟩ = some (.int .i64 t.kind) := fun w' hb => by rw [cell_of_row _ _ _ _ _ _ (block_ext hb hT)]; rfl
  have t2 : ∀ w', Below W0.heap.size W0 w' → w'.cell? ⟨pT, 2, none⟩ = some (.int .i64 t.a) := fun w' hb => by rw [cell_of_row _ _ _ _ _ _ (block_ext hb hT)]; rfl
  have t3 : ∀ w', Below W0.heap.size W0 w' → w'.cell? ⟨pT, 3, none⟩ = some (.int .i64 t.to0) := fun w' hb => by rw [cell_of_row _ _ _ _ _ _ (block_ext hb hT)]; rfl
  have t4 : ∀ w', Below W0.heap.size W0 w' → w'.cell? ⟨pT, 4, none⟩ = some (.int .i64 t.to1) := fun w' hb => by rw [cell_of_row _ _ _ _ _ _ (block_ext hb hT)]; rfl
  have ks : ∀ n : ExtW W0, n.val.cell? ⟨pS, 0, none⟩ = some (.slice sa ns cs) := fun n => s0 _ n.ext
  have kt : ∀ n : ExtW W0, n.val.cell? ⟨pT, 0, none⟩ = some (.slice ta nt ct) := fun n => t0 _ n.ext
  clear hM hS hT s0 t0
  go_cut [9, 10] (fun s9 s10 wx => ∃ us ut, s9 = us ∧ s10 = ut ∧ Hid (InsRow wx W0.heap.size us (bareS s)) ∧ Hid (InsRow wx W0.heap.size ut (bareT t)) ∧ Below W0.heap.size W0 wx)
  case first =>
    clear m0 m1 m2 m3 s1 s2 s3 s4 t1 t2 t3 t4
    refine z_start (fun w' => ∃ n : ExtW W0, w' = n.val) (by kernel_rfl) ?_
    obtain ⟨w0, E0, hw0⟩ : ∃ w0, Below W0.heap.size W0 w0 ∧ W0.drew = w0 := ⟨_, ext_drewN (Below.refl _ _) 1, rfl⟩
    rw [hw0]
    clear hw0
    refine z_reads 0 2 (by kernel_rfl) ⟨⟨_, E0⟩, rfl⟩ ?_
    simp only [List.take_succ_cons, List.take_zero, List.drop_succ_cons, List.drop_zero]
    repeat (go_big_quiet_step (fail))
    refine wpQuiet_nil ?_
    refine z_reads 3 1 (by kernel_rfl) ⟨⟨_, E0⟩, rfl⟩ ?_
    simp only [List.take_succ_cons, List.take_zero, List.drop_succ_cons, List.drop_zero]
    repeat (go_big_quiet_step (fail))
    refine wpQuiet_nil ?_
    refine z_reads 5 2 (by kernel_rfl) ⟨⟨_, E0⟩, rfl⟩ ?_
    simp only [List.take_succ_cons, List.take_zero, List.drop_succ_cons, List.drop_zero]
    repeat (go_big_quiet_step (fail))
    refine wpQuiet_nil ?_
    refine z_reads 8 1 (by kernel_rfl) ⟨⟨_, E0⟩, rfl⟩ ?_
    simp only [List.take_succ_cons, List.take_zero, List.drop_succ_cons, List.drop_zero]
    repeat (go_big_quiet_step (fail))
    refine wpQuiet_nil ?_
    refine z_one 2 (by kernel_rfl) ?_
    refine wpOp_at rfl rfl ?_
    go_simp
    refine (cloneIns_any sa ns cs s.ins w0 ((HS.out.ext HW0.out).ext E0).1 (by omega)).mono ?_
    rintro e w1 ⟨vs, rfl, Rs, hb⟩
    have E1 : Below W0.heap.size W0 w1 := ext_trans E0 hb
    replace Rs := Rs.mono E0.size
    refine ⟨Or.inr ⟨⟨_, E1⟩, rfl⟩, ?_⟩
    try simp only [Act.put, List.setIfInBounds_toArray, List.set_cons_succ, List.set_cons_zero]
    clear hb
    refine z_one 4 (by kernel_rfl) ?_
    refine wpOp_at rfl rfl ?_
    go_simp
    refine (deleteIns_any W0.heap.size 19 #[] call_does1 isCopy vs s.ins w1 Rs (by rw [HLs.out]; exact q2) (fun r hr => (((HS.out.ext HW0.out).ext E1).1).2 r hr) E1.size (fun r W _ _ => does1_any r W)).mono ?_
    rintro e w2 ⟨us, rfl, os, Qs, hc⟩
    have E2 : Below W0.heap.size W0 w2 := E1.trans (hc.below E1.size (fun k hk => (Rs.lt k hk).1))
    refine ⟨Or.inr ⟨⟨_, E2⟩, rfl⟩, ?_⟩
    try simp only [Act.put, List.setIfInBounds_toArray, List.set_cons_succ, List.set_cons_zero]
    clear hc
    refine z_one 7 (by kernel_rfl) ?_
    refine wpOp_at rfl rfl ?_
    go_simp
    refine (cloneIns_any ta nt ct t.ins w2 ((HT.out.ext HW0.out).ext E2).1 (by omega)).mono ?_
    rintro e w3 ⟨vt, rfl, Rt, hb⟩
    have E3 : Below W0.heap.size W0 w3 := ext_trans E2 hb
    have sep : SepF us vt := fun g h1 h2 => by have := (Qs.lt g h1).2; have := (Rt.lt g h2).1; omega
    replace Qs := ownsRow_chg Qs ((Chg.refl (fun _ => False) _).of_ext hb) (fun _ _ h => h)
    replace Rt := Rt.mono E2.size
    refine ⟨Or.inr ⟨⟨_, E3⟩, rfl⟩, ?_⟩
    try simp only [Act.put, List.setIfInBounds_toArray, List.set_cons_succ, List.set_cons_zero]
    clear hb
    refine z_one 9 (by kernel_rfl) ?_
    refine wpOp_at rfl rfl ?_
    go_simp
    refine (deleteIns_any W0.heap.size 20 #[] call_does2 isInserted vt t.ins w3 Rt (by rw [HLt.out]; exact q3) (fun r hr => (((HT.out.ext HW0.out).ext E3).1).2 r hr) E3.size (fun r W _ _ => does2_any r W)).mono ?_
    rintro e w4 ⟨ut, rfl, ot, Qt, hc⟩
    have E4 : Below W0.heap.size W0 w4 := E3.trans (hc.below E3.size (fun k hk => (Rt.lt k hk).1))
    replace Qs := ownsRow_chg Qs hc (fun g hg h => sep g hg h)
    refine ⟨Or.inr ⟨⟨_, E4⟩, rfl⟩, ?_⟩
    try simp only [Act.put, List.setIfInBounds_toArray, List.set_cons_succ, List.set_cons_zero]
    clear hc
    refine z_reads 10 2 (by kernel_rfl) ⟨⟨_, E4⟩, rfl⟩ ?_
    simp only [List.take_succ_cons, List.take_zero, List.drop_succ_cons, List.drop_zero]
    repeat (go_big_quiet_step (fail))
    refine wpQuiet_nil ?_
    refine z_done (by kernel_rfl) ?_
    go_wp2_with fail
    go_meet
    exact ⟨us, ut, rfl, rfl, Qs, Qt, E4⟩
  case rest =>
    obtain ⟨us, ut, rfl, rfl, HQs, HQt, E⟩ := hcut
    clear ks kt
    have hlS : (bareS s).length ≤ 1000000 := by have := List.length_filter_le (fun x => !isCopy x) s.ins; rw [HLs.out] at this; unfold bareS; omega
    have hlT : (bareT t).length ≤ 1000000 := by have := List.length_filter_le (fun x => !isInserted x) t.ins; rw [HLt.out] at this; unfold bareT; omega
    obtain ⟨as_, ks, e1, hSs⟩ := insS_of_row HQs.out hlS (fun r hr => (((HS.out.ext HW0.out).ext E).1).2 r (List.mem_filter.1 hr).1)
    obtain ⟨at_, kt, e2, hSt⟩ := insS_of_row HQt.out hlT (fun r hr => (((HT.out.ext HW0.out).ext E).1).2 r (List.mem_filter.1 hr).1)
    subst e1
    subst e2
    have HSs := Lib.hid hSs
    have HSt := Lib.hid hSt
    clear hSs hSt HQs HQt hlS hlT
    generalize hbs : bareS s = bs at *
    generalize hbt : bareT t = bt at *
    have HE : Hid (doesB m s t = (rightB m && eqFB alikeR bs bt && !manyB n1 bt && (s.kind == t.kind) && sameTo s t && (s.kind != 3 || t.a == tellsV m s))) := by rw [Hid, doesB, hbs, hbt, HLm.out]
    clear hbs hbt
    have hnq : ∀ w, (binOp .neq 27 (.agg #[.int .i64 s.to0, .int .i64 s.to1]) (.agg #[.int .i64 t.to0, .int .i64 t.to1])).run Tryz.prog w = .ok (.bool (!sameTo s t)) w := fun w => neq_to w s.to0 s.to1 t.to0 t.to1
    go_wp2_with (first
      | (go_at_call 25
         refine (right_any m a1 a2 n1 c1 n2 c2 _ ((HM.out.ext HW0.out).ext E)).mono ?_
         rintro e x1 ⟨rfl, hb⟩
         have E1 : Below W0.heap.size W0 x1 := ext_trans E hb
         have HX1 := Lib.hid hb
         clear hb)
      | (go_at_call 26
         refine (equalIns_any as_ at_ _ ks _ kt bs bt _ (HSs.out.ext HX1.out) (HSt.out.ext HX1.out)).mono ?_
         rintro e x2 ⟨rfl, hb⟩
         have E2 : Below W0.heap.size W0 x2 := ext_trans E1 hb
         have HX2 := Lib.hid (ext_trans HX1.out hb)
         clear hb)
      | (go_at_call 28
         refine (containsIns_any 24 #[.pointer (some ⟨pM, 0, none⟩)] call_does3 (isMany n1) at_ _ kt bt _ (fun r W _ hb => does3_any r W pM a1 n1 c1 q1 (m1 W (ext_trans E2 hb))) (HSt.out.ext HX2.out)).mono ?_
         rw [show bt.any (isMany n1) = manyB n1 bt from rfl]
         rintro e x3 ⟨rfl, hb⟩
         have E3 : Below W0.heap.size W0 x3 := ext_trans E2 hb
         clear hb))
    all_goals
      go_ret
      refine ⟨ret_bool ?_, by first | exact ext_trans HW0.out E3 | exact ext_trans HW0.out E2 | exact ext_trans HW0.out E1⟩
      rw [HE.out]
      clear m0 m1 m2 m3 s1 s2 s3 s4 t1 t2 t3 t4 hnq HE
      go_light
      simp_all [tellsV]
end
end Go.Proofs.YtfpbfdkjcmlimaaGreat
