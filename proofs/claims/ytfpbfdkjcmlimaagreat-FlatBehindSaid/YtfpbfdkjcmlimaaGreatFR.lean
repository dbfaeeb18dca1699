/-
  Flat: what a fact asks for ahead of an event.
-/
import Derived.Test.YtfpbfdkjcmlimaaGreatFQ
import Derived.RegionTactic
namespace Go.Proofs.YtfpbfdkjcmlimaaGreat
set_option linter.unusedSimpArgs false
set_option linter.unusedVariables false
set_option linter.unusedSectionVars false
set_option maxRecDepth 100000
set_option maxHeartbeats 40000000
section
open Go.RowKit
inductive EvD where
  | copied (dst a : Int)
  | inserted (f t : Bool × Int)
  | done (s t : InsR) (lost : Bool)
  | ended
def evV : EvD → Value
  | .copied dst a => .iface 91 (.agg #[.int .i64 dst, .int .i64 a])
  | .inserted f t => .iface 89 (.agg #[.bool f.1, .int .i64 f.2, .bool t.1, .int .i64 t.2])
  | .done s t lost => .iface 93 (.agg (doneC s t lost))
  | .ended => .iface 95 (.agg #[])
def EvOK (w : World) : EvD → Prop
  | .copied dst a => I64 dst ∧ I64 a
  | .inserted f t => I64 f.2 ∧ I64 t.2
  | .done s t _ => InsOK w s ∧ InsOK w t
  | .ended => True
theorem EvOK.ext {w w' : World} {e : EvD} (h : EvOK w e) (hb : Below w.heap.size w w') : EvOK w' e := by
  cases e with
  | done s t l => exact ⟨h.1.ext hb, h.2.ext hb⟩
  | _ => exact h
def aheadV (m : MachD) (e : EvD) (x : Int × Bool × Int) : Int × (Int × Bool × Int) :=
  match e with
  | .copied dst a => (3, if x.1 = dst then (a, x.2) else x)
  | .inserted f t => (3, if sameLoc x.2 t then (x.1, f) else x)
  | .done s t lost => (askV m s.d t.d lost x, x)
  | .ended => (3, x)
def FactOK (x : Int × Bool × Int) : Prop := I64 x.1 ∧ I64 x.2.2
def AskPost (w : World) (r : Int × (Int × Bool × Int)) (e : Ending) (w' : World) : Prop := e = .returned (.tuple #[.int .i64 r.1, factV r.2]) ∧ Below w.heap.size w w'
theorem ta_cc (v : Value) (w : World) : (Instr.typeAssert (.iface 91 v) 20 91 true).run Tryz.prog w = .ok (.tuple #[v, .bool true]) w := by kernel_rfl
theorem ta_ic (v : Value) (w : World) : (Instr.typeAssert (.iface 89 v) 20 91 true).run Tryz.prog w = .ok (.tuple #[.agg #[.int .i64 0, .int .i64 0], .bool false]) w := by kernel_rfl
theorem ta_ii (v : Value) (w : World) : (Instr.typeAssert (.iface 89 v) 20 89 true).run Tryz.prog w = .ok (.tuple #[v, .bool true]) w := by kernel_rfl
theorem ta_dc (v : Value) (w : World) : (Instr.typeAssert (.iface 93 v) 20 91 true).run Tryz.prog w = .ok (.tuple #[.agg #[.int .i64 0, .int .i64 0], .bool false]) w := by kernel_rfl
theorem ta_di (v : Value) (w : World) : (Instr.typeAssert (.iface 93 v) 20 89 true).run Tryz.prog w = .ok (.tuple #[.agg #[.bool false, .int .i64 0, .bool false, .int .i64 0], .bool false]) w := by kernel_rfl
theorem ta_dd (v : Value) (w : World) : (Instr.typeAssert (.iface 93 v) 20 93 true).run Tryz.prog w = .ok (.tuple #[v, .bool true]) w := by kernel_rfl
theorem ta_ec (v : Value) (w : World) : (Instr.typeAssert (.iface 95 v) 20 91 true).run Tryz.prog w = .ok (.tuple #[.agg #[.int .i64 0, .int .i64 0], .bool false]) w := by kernel_rfl
theorem ta_ei (v : Value) (w : World) : (Instr.typeAssert (.iface 95 v) 20 89 true).run Tryz.prog w = .ok (.tuple #[.agg #[.bool false, .int .i64 0, .bool false, .int .i64 0], .bool false]) w := by kernel_rfl
theorem ta_ed (v : Value) (w : World) : (Instr.typeAssert (.iface 95 v) 20 93 true).run Tryz.prog w = .ok (.tuple #[.agg #[.int .i64 0, .int .i64 0, .int .i64 0, .int .i64 0, .int .i64 0, .int .i64 0, .slice none 0 0, .int .i64 0, .int .i64 0, .int .i64 0, .int .i64 0, .int .i64 0, .int .i64 0, .int .i64 0, .slice none 0 0, .int .i64 0, .bool false], .bool false]) w := by kernel_rfl
theorem ahead_ended (m : MachD) (a1 a2 : Option Addr) (n1 c1 n2 c2 : Nat) (x : Int × Bool × Int) (w : World) :
    Calls Tryz.prog 43 #[machV m a1 n1 c1 a2 n2 c2, evV (.ended), factV x] w (AskPost w (3, x)) := by
  unfold evV
  have q0 := ta_ec
  have q1 := ta_ei
  have q2 := ta_ed
  go_enter Tryz.func43, Tryz.ntmps43
  go_wp2
  go_region
  all_goals
    go_wp2
    refine bodyPost_ret (v := .tuple #[.int .i64 3, factV (3, x).2]) ?_ rfl ⟨rfl, ?_⟩
    · simp [results, Tryz.results43, go_sem]
    · exact ext_drewN (ext_trans (ext_trans (ext_alloc _ _) (ext_alloc _ _)) (ext_alloc _ _)) 1
theorem ahead_copied0 (m : MachD) (a1 a2 : Option Addr) (n1 c1 n2 c2 : Nat) (x : Int × Bool × Int) (dst a : Int) (w : World) (h : ¬ x.1 = dst) :
    Calls Tryz.prog 43 #[machV m a1 n1 c1 a2 n2 c2, evV (.copied dst a), factV x] w (AskPost w (3, x)) := by
  unfold evV
  have q0 := ta_cc
  have hb : (x.1 == dst) = false := by simpa using h
  clear h
  go_enter Tryz.func43, Tryz.ntmps43
  go_wp2
  go_region
  all_goals
    go_wp2
    refine bodyPost_ret (v := .tuple #[.int .i64 3, factV (3, x).2]) ?_ rfl ⟨rfl, ?_⟩
    · simp [results, Tryz.results43, go_sem]
    · exact ext_drewN (ext_trans (ext_trans (ext_trans (ext_alloc _ _) (ext_alloc _ _)) (ext_alloc _ _)) (ext_alloc _ _)) 1
theorem ahead_copied1 (m : MachD) (a1 a2 : Option Addr) (n1 c1 n2 c2 : Nat) (x : Int × Bool × Int) (dst a : Int) (w : World) (h : x.1 = dst) :
    Calls Tryz.prog 43 #[machV m a1 n1 c1 a2 n2 c2, evV (.copied dst a), factV x] w (AskPost w (3, (a, x.2))) := by
  unfold evV
  have q0 := ta_cc
  have hb : (x.1 == dst) = true := by simpa using h
  clear h
  go_enter Tryz.func43, Tryz.ntmps43
  go_wp2
  go_region
  all_goals
    go_wp2
    refine bodyPost_ret (v := .tuple #[.int .i64 3, factV (3, (a, x.2)).2]) ?_ rfl ⟨rfl, ?_⟩
    · simp [results, Tryz.results43, go_sem]
    · exact ext_drewN (ext_trans (ext_trans (ext_trans (ext_alloc _ _) (ext_alloc _ _)) (ext_alloc _ _)) (ext_alloc _ _)) 1
theorem ahead_inserted0 (m : MachD) (a1 a2 : Option Addr) (n1 c1 n2 c2 : Nat) (x : Int × Bool × Int) (f t : Bool × Int) (w : World) (h : sameLoc x.2 t = false) :
    Calls Tryz.prog 43 #[machV m a1 n1 c1 a2 n2 c2, evV (.inserted f t), factV x] w (AskPost w (3, x)) := by
  unfold evV
  have q0 := ta_ic
  have q1 := ta_ii
  have hb : ∀ w, (binOp .eql 34 (.agg #[.bool x.2.1, .int .i64 x.2.2]) (.agg #[.bool t.1, .int .i64 t.2])).run Tryz.prog w = .ok (.bool false) w := fun w => by rw [eql_loc]; rw [show sameLoc (x.2.1, x.2.2) (t.1, t.2) = false from h]
  clear h
  go_enter Tryz.func43, Tryz.ntmps43
  go_wp2
  go_region
  all_goals
    go_wp2
    refine bodyPost_ret (v := .tuple #[.int .i64 3, factV (3, x).2]) ?_ rfl ⟨rfl, ?_⟩
    · simp [results, Tryz.results43, go_sem]
    · exact ext_drewN (ext_trans (ext_trans (ext_trans (ext_alloc _ _) (ext_alloc _ _)) (ext_alloc _ _)) (ext_alloc _ _)) 1
theorem ahead_inserted1 (m : MachD) (a1 a2 : Option Addr) (n1 c1 n2 c2 : Nat) (x : Int × Bool × Int) (f t : Bool × Int) (w : World) (h : sameLoc x.2 t = true) :
    Calls Tryz.prog 43 #[machV m a1 n1 c1 a2 n2 c2, evV (.inserted f t), factV x] w (AskPost w (3, (x.1, f))) := by
  unfold evV
  have q0 := ta_ic
  have q1 := ta_ii
  have hb : ∀ w, (binOp .eql 34 (.agg #[.bool x.2.1, .int .i64 x.2.2]) (.agg #[.bool t.1, .int .i64 t.2])).run Tryz.prog w = .ok (.bool true) w := fun w => by rw [eql_loc]; rw [show sameLoc (x.2.1, x.2.2) (t.1, t.2) = true from h]
  clear h
  go_enter Tryz.func43, Tryz.ntmps43
  go_wp2
  go_region
  all_goals
    go_wp2
    refine bodyPost_ret (v := .tuple #[.int .i64 3, factV (3, (x.1, f)).2]) ?_ rfl ⟨rfl, ?_⟩
    · simp [results, Tryz.results43, go_sem]
    · exact ext_drewN (ext_trans (ext_trans (ext_trans (ext_alloc _ _) (ext_alloc _ _)) (ext_alloc _ _)) (ext_alloc _ _)) 1
theorem chg_block {S : Nat → Prop} {a w : World} (h : Chg S a w) {k : Nat} {o : Obj} (hk : a.heap[k]? = some o) (hs : ¬ S k) : w.heap[k]? = some o := (h.block k (Array.getElem?_eq_some_iff.1 hk).1 hs).trans hk
theorem chg_set3 {p i j l : Nat} {a w : World} {u v z : Value} (h : Chg (fun k => k = p) a w) : Chg (fun k => k = p) a (((w.setCell ⟨p, i, none⟩ u).setCell ⟨p, j, none⟩ v).setCell ⟨p, l, none⟩ z) :=
  ((h.setCell (Or.inl rfl) _).setCell (Or.inl rfl) _).setCell (Or.inl rfl) _
theorem box4 (w : World) (o1 o2 o3 o4 : Obj) : (((((w.alloc o1).alloc o2).alloc o3).alloc o4).heap[w.heap.size]? = some o1) ∧ (((((w.alloc o1).alloc o2).alloc o3).alloc o4).heap[w.heap.size + 1]? = some o2) ∧ (((((w.alloc o1).alloc o2).alloc o3).alloc o4).heap[w.heap.size + 1 + 1]? = some o3) ∧ (((((w.alloc o1).alloc o2).alloc o3).alloc o4).heap[w.heap.size + 1 + 1 + 1]? = some o4) := by
  obtain ⟨h1, h2, h3⟩ := box3 w o1 o2 o3
  have h4 := heap_alloc_new (((w.alloc o1).alloc o2).alloc o3) o4
  simp only [World.size_alloc] at h4
  exact ⟨block_ext (ext_alloc _ _) h1, block_ext (ext_alloc _ _) h2, block_ext (ext_alloc _ _) h3, h4⟩
theorem ahead_done (m : MachD) (a1 a2 : Option Addr) (n1 c1 n2 c2 : Nat) (x : Int × Bool × Int) (s t : InsR) (lost : Bool) (w : World) (hm : MachOK w m a1 n1 c1 a2 n2 c2) (hs : InsOK w s) (ht : InsOK w t) (hx : FactOK x) :
    Calls Tryz.prog 43 #[machV m a1 n1 c1 a2 n2 c2, evV (.done s t lost), factV x] w (AskPost w (askV m s.d t.d lost x, x)) := by
  unfold evV
  have HM := Lib.hid hm
  have HS := Lib.hid hs
  have HT := Lib.hid ht
  have HX := Lib.hid hx
  clear hm hs ht hx
  have q0 := ta_dc
  have q1 := ta_di
  have q2 := ta_dd
  go_enter Tryz.func43, Tryz.ntmps43
  go_wp2
  clear q0 q1 q2
  obtain ⟨W0, HW0, hM, hF, h7, hD, hW0⟩ : ∃ W0, Hid (Below w.heap.size w W0) ∧ W0.heap[w.heap.size]? = some (machO m a1 n1 c1 a2 n2 c2) ∧ W0.heap[w.heap.size + 1]? = some (.cells #[.int .i64 x.1, .bool x.2.1, .int .i64 x.2.2] 36 (0, 0)) ∧ W0.heap[w.heap.size + 1 + 1]? = some (.cells #[.int .i64 0, .bool false, .int .i64 0] 36 (0, 0)) ∧ W0.heap[w.heap.size + 1 + 1 + 1]? = some (.cells (doneC s t lost) 93 (0, 0)) ∧
      (((w.alloc (machO m a1 n1 c1 a2 n2 c2)).alloc (.cells #[.int .i64 x.1, .bool x.2.1, .int .i64 x.2.2] 36)).alloc (.cells #[.int .i64 0, .bool false, .int .i64 0] 36)).alloc (.cells (doneC s t lost) 93) = W0 :=
    ⟨_, ext_trans (ext_trans (ext_trans (ext_alloc _ _) (ext_alloc _ _)) (ext_alloc _ _)) (ext_alloc _ _), (box4 w _ _ _ _).1, (box4 w _ _ _ _).2.1, (box4 w _ _ _ _).2.2.1, (box4 w _ _ _ _).2.2.2, rfl⟩
  rw [hW0]
  clear hW0
  have hw7 : w.heap.size ≤ w.heap.size + 1 + 1 := by omega
  generalize hpM : w.heap.size = pM at hM hF h7 hD hw7 ⊢
  generalize hpF : pM + 1 = pF at *
  generalize hp7 : pF + 1 = p7 at *
  generalize hpD : p7 + 1 = pD at *
  have hc : ∀ {w' : World}, Chg (fun k => k = p7) W0 w' → ∀ {k : Nat} {o : Obj}, W0.heap[k]? = some o → ¬ k = p7 → w'.heap[k]? = some o := fun hb _ _ hk hs => chg_block hb hk hs
  have z0 : ∀ w', Below W0.heap.size W0 w' → w'.cell? ⟨p7, 0, none⟩ = some (.int .i64 0) := fun w' hb => by rw [cell_of_row _ _ _ _ _ _ (block_ext hb h7)]; rfl
  have m0 : ∀ w', Chg (fun k => k = p7) W0 w' → w'.cell? ⟨pM, 0, none⟩ = some (.int .i64 m.regs) := fun w' hb => by rw [cell_of_row _ _ _ _ _ _ (hc hb hM (by omega))]; rfl
  have m1 : ∀ w', Chg (fun k => k = p7) W0 w' → w'.cell? ⟨pM, 1, none⟩ = some (.slice a1 n1 c1) := fun w' hb => by rw [cell_of_row _ _ _ _ _ _ (hc hb hM (by omega))]; rfl
  have m2 : ∀ w', Chg (fun k => k = p7) W0 w' → w'.cell? ⟨pM, 2, none⟩ = some (.int .i64 m.ret) := fun w' hb => by rw [cell_of_row _ _ _ _ _ _ (hc hb hM (by omega))]; rfl
  have m3 : ∀ w', Chg (fun k => k = p7) W0 w' → w'.cell? ⟨pM, 3, none⟩ = some (.slice a2 n2 c2) := fun w' hb => by rw [cell_of_row _ _ _ _ _ _ (hc hb hM (by omega))]; rfl
  have f0 : ∀ w', Chg (fun k => k = p7) W0 w' → w'.cell? ⟨pF, 0, none⟩ = some (.int .i64 x.1) := fun w' hb => by rw [cell_of_row _ _ _ _ _ _ (hc hb hF (by omega))]; rfl
  have f1 : ∀ w', Chg (fun k => k = p7) W0 w' → w'.cell? ⟨pF, 1, none⟩ = some (.bool x.2.1) := fun w' hb => by rw [cell_of_row _ _ _ _ _ _ (hc hb hF (by omega))]; rfl
  have f2 : ∀ w', Chg (fun k => k = p7) W0 w' → w'.cell? ⟨pF, 2, none⟩ = some (.int .i64 x.2.2) := fun w' hb => by rw [cell_of_row _ _ _ _ _ _ (hc hb hF (by omega))]; rfl
  have d0 : ∀ w', Chg (fun k => k = p7) W0 w' → w'.cell? ⟨pD, 0, none⟩ = some (.int .i64 s.d.op) := fun w' hb => by rw [cell_of_row _ _ _ _ _ _ (hc hb hD (by omega))]; rfl
  have d1 : ∀ w', Chg (fun k => k = p7) W0 w' → w'.cell? ⟨pD, 1, none⟩ = some (.int .i64 s.d.dst) := fun w' hb => by rw [cell_of_row _ _ _ _ _ _ (hc hb hD (by omega))]; rfl
  have d2 : ∀ w', Chg (fun k => k = p7) W0 w' → w'.cell? ⟨pD, 2, none⟩ = some (.int .i64 s.d.a) := fun w' hb => by rw [cell_of_row _ _ _ _ _ _ (hc hb hD (by omega))]; rfl
  have d3 : ∀ w', Chg (fun k => k = p7) W0 w' → w'.cell? ⟨pD, 3, none⟩ = some (.int .i64 s.d.b) := fun w' hb => by rw [cell_of_row _ _ _ _ _ _ (hc hb hD (by omega))]; rfl
  have d4 : ∀ w', Chg (fun k => k = p7) W0 w' → w'.cell? ⟨pD, 4, none⟩ = some (.int .i64 s.d.imm) := fun w' hb => by rw [cell_of_row _ _ _ _ _ _ (hc hb hD (by omega))]; rfl
  have d5 : ∀ w', Chg (fun k => k = p7) W0 w' → w'.cell? ⟨pD, 5, none⟩ = some (.int .i64 s.d.callee) := fun w' hb => by rw [cell_of_row _ _ _ _ _ _ (hc hb hD (by omega))]; rfl
  have d6 : ∀ w', Chg (fun k => k = p7) W0 w' → w'.cell? ⟨pD, 6, none⟩ = some (.slice s.aa s.na s.ca) := fun w' hb => by rw [cell_of_row _ _ _ _ _ _ (hc hb hD (by omega))]; rfl
  have d7 : ∀ w', Chg (fun k => k = p7) W0 w' → w'.cell? ⟨pD, 7, none⟩ = some (.int .i64 s.d.many) := fun w' hb => by rw [cell_of_row _ _ _ _ _ _ (hc hb hD (by omega))]; rfl
  have d8 : ∀ w', Chg (fun k => k = p7) W0 w' → w'.cell? ⟨pD, 8, none⟩ = some (.int .i64 t.d.op) := fun w' hb => by rw [cell_of_row _ _ _ _ _ _ (hc hb hD (by omega))]; rfl
  have d9 : ∀ w', Chg (fun k => k = p7) W0 w' → w'.cell? ⟨pD, 9, none⟩ = some (.int .i64 t.d.dst) := fun w' hb => by rw [cell_of_row _ _ _ _ _ _ (hc hb hD (by omega))]; rfl
  have d10 : ∀ w', Chg (fun k => k = p7) W0 w' → w'.cell? ⟨pD, 10, none⟩ = some (.int .i64 t.d.a) := fun w' hb => by rw [cell_of_row _ _ _ _ _ _ (hc hb hD (by omega))]; rfl
  have d11 : ∀ w', Chg (fun k => k = p7) W0 w' → w'.cell? ⟨pD, 11, none⟩ = some (.int .i64 t.d.b) := fun w' hb => by rw [cell_of_row _ _ _ _ _ _ (hc hb hD (by omega))]; rfl
  have d12 : ∀ w', Chg (fun k => k = p7) W0 w' → w'.cell? ⟨pD, 12, none⟩ = some (.int .i64 t.d.imm) := fun w' hb => by rw [cell_of_row _ _ _ _ _ _ (hc hb hD (by omega))]; rfl
  have d13 : ∀ w', Chg (fun k => k = p7) W0 w' → w'.cell? ⟨pD, 13, none⟩ = some (.int .i64 t.d.callee) := fun w' hb => by rw [cell_of_row _ _ _ _ _ _ (hc hb hD (by omega))]; rfl
  have d14 : ∀ w', Chg (fun k => k = p7) W0 w' → w'.cell? ⟨pD, 14, none⟩ = some (.slice t.aa t.na t.ca) := fun w' hb => by rw [cell_of_row _ _ _ _ _ _ (hc hb hD (by omega))]; rfl
  have d15 : ∀ w', Chg (fun k => k = p7) W0 w' → w'.cell? ⟨pD, 15, none⟩ = some (.int .i64 t.d.many) := fun w' hb => by rw [cell_of_row _ _ _ _ _ _ (hc hb hD (by omega))]; rfl
  have d16 : ∀ w', Chg (fun k => k = p7) W0 w' → w'.cell? ⟨pD, 16, none⟩ = some (.bool lost) := fun w' hb => by rw [cell_of_row _ _ _ _ _ _ (hc hb hD (by omega))]; rfl
  have HPM := Lib.hid hpM
  have HW7 := Lib.hid hw7
  have hlt7 : p7 < W0.heap.size := (Array.getElem?_eq_some_iff.1 h7).1
  clear hM hF hD hc hpM hpF hp7 hpD hw7 z0
  go_region_held3 (fun w' => Chg (fun k => k = p7) W0 w')
    (first
      | exact (Chg.refl _ _).drewN 1
      | exact Chg.of_ext (by assumption) hb1
      | exact chg_set3 (by assumption)
      | assumption)
    (first
      | (go_at_call 65
         have hbx : Below w.heap.size w W0.drew := ext_drewN HW0.out 1
         refine (ask_any m a1 a2 n1 c1 n2 c2 s t lost x _ (HM.out.ext hbx) (HS.out.ext hbx) (HT.out.ext hbx) HX.out).mono ?_
         rintro e w1 ⟨rfl, hb1⟩
         have y := block_ext (ext_trans (ext_drewN (Below.refl _ _) 1) hb1) h7
         have y0 : w1.cell? ⟨p7, 0, none⟩ = some (.int .i64 0) := by rw [cell_of_row _ _ _ _ _ _ y]; rfl
         have y1 : w1.cell? ⟨p7, 1, none⟩ = some (.bool false) := by rw [cell_of_row _ _ _ _ _ _ y]; rfl
         have y2 : w1.cell? ⟨p7, 2, none⟩ = some (.int .i64 0) := by rw [cell_of_row _ _ _ _ _ _ y]; rfl
         have y3 : w1.frozen? ⟨p7, 0, none⟩ = false := frozen_of_row _ _ _ _ _ y
         have y4 : w1.frozen? ⟨p7, 1, none⟩ = false := frozen_of_row _ _ _ _ _ y
         have y5 : w1.frozen? ⟨p7, 2, none⟩ = false := frozen_of_row _ _ _ _ _ y))
  clear d0 d1 d2 d3 d4 d5 d6 d7 d8 d9 d10 d11 d12 d13 d14 d15 d16 m0 m1 m2 m3 f0 f1 f2
  go_wp2
  refine bodyPost_ret (v := .tuple #[.int .i64 (askV m s.d t.d lost x), factV x]) ?_ rfl ⟨rfl, ?_⟩
  · simp [results, Tryz.results43, go_sem, y0, y1, y2]
  · have hb : Below w.heap.size w w1 := ext_trans (ext_drewN HW0.out 1) hb1
    have h7w : w.heap.size ≤ p7 := by rw [HPM.out]; exact HW7.out
    exact ((hb.setCell h7w _).setCell h7w _).setCell h7w _
theorem ahead_any (m : MachD) (a1 a2 : Option Addr) (n1 c1 n2 c2 : Nat) (ev : EvD) (x : Int × Bool × Int) (w : World) (hm : MachOK w m a1 n1 c1 a2 n2 c2) (he : EvOK w ev) (hx : FactOK x) :
    Calls Tryz.prog 43 #[machV m a1 n1 c1 a2 n2 c2, evV ev, factV x] w (AskPost w (aheadV m ev x)) := by
  cases ev with
  | copied dst a =>
    unfold aheadV
    by_cases h : x.1 = dst
    · simp only [if_pos h]
      exact ahead_copied1 m a1 a2 n1 c1 n2 c2 x dst a w h
    · simp only [if_neg h]
      exact ahead_copied0 m a1 a2 n1 c1 n2 c2 x dst a w h
  | inserted f t =>
    unfold aheadV
    cases h : sameLoc x.2 t with
    | true =>
      simp only [h, if_true]
      exact ahead_inserted1 m a1 a2 n1 c1 n2 c2 x f t w h
    | false =>
      simp only [h, Bool.false_eq_true, if_false]
      exact ahead_inserted0 m a1 a2 n1 c1 n2 c2 x f t w h
  | done s t lost => exact ahead_done m a1 a2 n1 c1 n2 c2 x s t lost w hm he.1 he.2 hx
  | ended => exact ahead_ended m a1 a2 n1 c1 n2 c2 x w
end
end Go.Proofs.YtfpbfdkjcmlimaaGreat
