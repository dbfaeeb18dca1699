/-
  Flat: the reference's ask (30).
-/
import Derived.Test.YtdoahpblphlabaaHD
namespace Go.Proofs.Ytdoahpblphlabaa
set_option linter.unusedSimpArgs false
set_option linter.unusedVariables false
open Go.RowKit

theorem boxes4 (w : World) (o1 o2 o3 o4 : Obj) : ∃ W0, Hid (Below w.heap.size w W0) ∧ W0.heap[w.heap.size]? = some o1 ∧ W0.heap[w.heap.size + 1]? = some o2 ∧ W0.heap[w.heap.size + 1 + 1]? = some o3 ∧ W0.heap[w.heap.size + 1 + 1 + 1]? = some o4 ∧ (((w.alloc o1).alloc o2).alloc o3).alloc o4 = W0 := by
  obtain ⟨b1, b2, b3, b4⟩ := box4 w o1 o2 o3 o4
  exact ⟨_, ext_trans (ext_trans (ext_trans (ext_alloc _ _) (ext_alloc _ _)) (ext_alloc _ _)) (ext_alloc _ _), b1, b2, b3, b4, rfl⟩
abbrev ev30V (e : Ev30) : Value := .agg #[.int .i64 e.what, (.int .i64 e.s.d.op), (.int .i64 e.s.d.dst), (.int .i64 e.s.d.a), (.int .i64 e.s.d.b), (.int .i64 e.s.d.imm), (.int .i64 e.s.d.callee), (.slice e.s.aa e.s.na e.s.ca), (.int .i64 e.s.d.many), (.int .i64 e.t.d.op), (.int .i64 e.t.d.dst), (.int .i64 e.t.d.a), (.int .i64 e.t.d.b), (.int .i64 e.t.d.imm), (.int .i64 e.t.d.callee), (.slice e.t.aa e.t.na e.t.ca), (.int .i64 e.t.d.many)]
abbrev ev30O (e : Ev30) : Obj := .cells #[.int .i64 e.what, (.int .i64 e.s.d.op), (.int .i64 e.s.d.dst), (.int .i64 e.s.d.a), (.int .i64 e.s.d.b), (.int .i64 e.s.d.imm), (.int .i64 e.s.d.callee), (.slice e.s.aa e.s.na e.s.ca), (.int .i64 e.s.d.many), (.int .i64 e.t.d.op), (.int .i64 e.t.d.dst), (.int .i64 e.t.d.a), (.int .i64 e.t.d.b), (.int .i64 e.t.d.imm), (.int .i64 e.t.d.callee), (.slice e.t.aa e.t.na e.t.ca), (.int .i64 e.t.d.many)] 94
theorem and_false_way {a b : Bool} (h : false = (a && b)) : a = false ∨ (a = true ∧ b = false) := by cases a <;> cases b <;> simp_all
theorem and_true_way {a b : Bool} (h : true = (a && b)) : a = true ∧ b = true := by cases a <;> cases b <;> simp_all
def own30 (s : InsD) (x : Int × Bool × Int) : Bool := decide (0 < def03V s) && (x.1 == def03V s)
def first30 (l : List (Bool × Int)) (p : Bool × Int) : Bool := match l with | [] => false | y :: _ => sameLoc p y
def lost30 (m : MachD) (s : InsD) (p : Bool × Int) : Bool := (s.op == 13) && !p.1 && memI (lost5L m) p.2
def w30 (m : MachD) (t : InsD) : List (Bool × Int) := writes06L m t (has06V t.op)
def ask30V (m : MachD) (e : Ev30) (x : Int × Bool × Int) : Int × (Int × Bool × Int) :=
  if e.what = 1 then (if x.1 = e.s.d.dst then (3, (e.s.d.a, x.2)) else (3, x))
  else if e.what = 2 then (if first30 (w30 m e.t.d) x.2 then (3, (x.1, headL (reads06L e.t.d))) else (3, x))
  else if e.what = 3 then (if own30 e.s.d x && first30 (w30 m e.t.d) x.2 then (1, (0, false, 0)) else if own30 e.s.d x || holdsB (w30 m e.t.d) x.2 || lost30 m e.s.d x.2 then (2, (0, false, 0)) else (3, x))
  else (3, x)
set_option maxRecDepth 100000 in
set_option maxHeartbeats 4000000 in
theorem ask30_end (m : MachD) (a1 a2 : Option Addr) (n1 c1 n2 c2 : Nat) (s t : InsR) (x : Int × Bool × Int) (w : World) :
    Calls Try.prog 52 #[machV m a1 n1 c1 a2 n2 c2, ev30V (Ev30.mk 4 s t), factV x] w (AskPost w (3, x)) := by
  obtain ⟨W0, HW0, hM, hE, hF, hR, hW0⟩ := boxes4 w (machO m a1 n1 c1 a2 n2 c2) (ev30O (Ev30.mk 4 s t)) (factO x) (factO (0, false, 0))
  have m0 : ∀ w', Below W0.heap.size W0 w' → w'.cell? ⟨w.heap.size, 0, none⟩ = some (.int .i64 m.regs) := fun w' hb => by rw [cell_of_row _ _ _ _ _ _ (block_ext hb hM)]; rfl
  have m1 : ∀ w', Below W0.heap.size W0 w' → w'.cell? ⟨w.heap.size, 1, none⟩ = some (.slice a1 n1 c1) := fun w' hb => by rw [cell_of_row _ _ _ _ _ _ (block_ext hb hM)]; rfl
  have m2 : ∀ w', Below W0.heap.size W0 w' → w'.cell? ⟨w.heap.size, 2, none⟩ = some (.int .i64 m.ret) := fun w' hb => by rw [cell_of_row _ _ _ _ _ _ (block_ext hb hM)]; rfl
  have m3 : ∀ w', Below W0.heap.size W0 w' → w'.cell? ⟨w.heap.size, 3, none⟩ = some (.slice a2 n2 c2) := fun w' hb => by rw [cell_of_row _ _ _ _ _ _ (block_ext hb hM)]; rfl
  have e0 : ∀ w', Below W0.heap.size W0 w' → w'.cell? ⟨w.heap.size + 1, 0, none⟩ = some (.int .i64 4) := fun w' hb => by rw [cell_of_row _ _ _ _ _ _ (block_ext hb hE)]; rfl
  have e1 : ∀ w', Below W0.heap.size W0 w' → w'.cell? ⟨w.heap.size + 1, 1, none⟩ = some (.int .i64 s.d.op) := fun w' hb => by rw [cell_of_row _ _ _ _ _ _ (block_ext hb hE)]; rfl
  have e2 : ∀ w', Below W0.heap.size W0 w' → w'.cell? ⟨w.heap.size + 1, 2, none⟩ = some (.int .i64 s.d.dst) := fun w' hb => by rw [cell_of_row _ _ _ _ _ _ (block_ext hb hE)]; rfl
  have e3 : ∀ w', Below W0.heap.size W0 w' → w'.cell? ⟨w.heap.size + 1, 3, none⟩ = some (.int .i64 s.d.a) := fun w' hb => by rw [cell_of_row _ _ _ _ _ _ (block_ext hb hE)]; rfl
  have e4 : ∀ w', Below W0.heap.size W0 w' → w'.cell? ⟨w.heap.size + 1, 4, none⟩ = some (.int .i64 s.d.b) := fun w' hb => by rw [cell_of_row _ _ _ _ _ _ (block_ext hb hE)]; rfl
  have e5 : ∀ w', Below W0.heap.size W0 w' → w'.cell? ⟨w.heap.size + 1, 5, none⟩ = some (.int .i64 s.d.imm) := fun w' hb => by rw [cell_of_row _ _ _ _ _ _ (block_ext hb hE)]; rfl
  have e6 : ∀ w', Below W0.heap.size W0 w' → w'.cell? ⟨w.heap.size + 1, 6, none⟩ = some (.int .i64 s.d.callee) := fun w' hb => by rw [cell_of_row _ _ _ _ _ _ (block_ext hb hE)]; rfl
  have e7 : ∀ w', Below W0.heap.size W0 w' → w'.cell? ⟨w.heap.size + 1, 7, none⟩ = some (.slice s.aa s.na s.ca) := fun w' hb => by rw [cell_of_row _ _ _ _ _ _ (block_ext hb hE)]; rfl
  have e8 : ∀ w', Below W0.heap.size W0 w' → w'.cell? ⟨w.heap.size + 1, 8, none⟩ = some (.int .i64 s.d.many) := fun w' hb => by rw [cell_of_row _ _ _ _ _ _ (block_ext hb hE)]; rfl
  have e9 : ∀ w', Below W0.heap.size W0 w' → w'.cell? ⟨w.heap.size + 1, 9, none⟩ = some (.int .i64 t.d.op) := fun w' hb => by rw [cell_of_row _ _ _ _ _ _ (block_ext hb hE)]; rfl
  have e10 : ∀ w', Below W0.heap.size W0 w' → w'.cell? ⟨w.heap.size + 1, 10, none⟩ = some (.int .i64 t.d.dst) := fun w' hb => by rw [cell_of_row _ _ _ _ _ _ (block_ext hb hE)]; rfl
  have e11 : ∀ w', Below W0.heap.size W0 w' → w'.cell? ⟨w.heap.size + 1, 11, none⟩ = some (.int .i64 t.d.a) := fun w' hb => by rw [cell_of_row _ _ _ _ _ _ (block_ext hb hE)]; rfl
  have e12 : ∀ w', Below W0.heap.size W0 w' → w'.cell? ⟨w.heap.size + 1, 12, none⟩ = some (.int .i64 t.d.b) := fun w' hb => by rw [cell_of_row _ _ _ _ _ _ (block_ext hb hE)]; rfl
  have e13 : ∀ w', Below W0.heap.size W0 w' → w'.cell? ⟨w.heap.size + 1, 13, none⟩ = some (.int .i64 t.d.imm) := fun w' hb => by rw [cell_of_row _ _ _ _ _ _ (block_ext hb hE)]; rfl
  have e14 : ∀ w', Below W0.heap.size W0 w' → w'.cell? ⟨w.heap.size + 1, 14, none⟩ = some (.int .i64 t.d.callee) := fun w' hb => by rw [cell_of_row _ _ _ _ _ _ (block_ext hb hE)]; rfl
  have e15 : ∀ w', Below W0.heap.size W0 w' → w'.cell? ⟨w.heap.size + 1, 15, none⟩ = some (.slice t.aa t.na t.ca) := fun w' hb => by rw [cell_of_row _ _ _ _ _ _ (block_ext hb hE)]; rfl
  have e16 : ∀ w', Below W0.heap.size W0 w' → w'.cell? ⟨w.heap.size + 1, 16, none⟩ = some (.int .i64 t.d.many) := fun w' hb => by rw [cell_of_row _ _ _ _ _ _ (block_ext hb hE)]; rfl
  have f0 : ∀ w', Below W0.heap.size W0 w' → w'.cell? ⟨w.heap.size + 1 + 1, 0, none⟩ = some (.int .i64 x.1) := fun w' hb => by rw [cell_of_row _ _ _ _ _ _ (block_ext hb hF)]; rfl
  have f1 : ∀ w', Below W0.heap.size W0 w' → w'.cell? ⟨w.heap.size + 1 + 1, 1, none⟩ = some (.bool x.2.1) := fun w' hb => by rw [cell_of_row _ _ _ _ _ _ (block_ext hb hF)]; rfl
  have f2 : ∀ w', Below W0.heap.size W0 w' → w'.cell? ⟨w.heap.size + 1 + 1, 2, none⟩ = some (.int .i64 x.2.2) := fun w' hb => by rw [cell_of_row _ _ _ _ _ _ (block_ext hb hF)]; rfl
  have r0 : ∀ w', Below W0.heap.size W0 w' → w'.cell? ⟨w.heap.size + 1 + 1 + 1, 0, none⟩ = some (.int .i64 0) := fun w' hb => by rw [cell_of_row _ _ _ _ _ _ (block_ext hb hR)]; rfl
  have r1 : ∀ w', Below W0.heap.size W0 w' → w'.cell? ⟨w.heap.size + 1 + 1 + 1, 1, none⟩ = some (.bool false) := fun w' hb => by rw [cell_of_row _ _ _ _ _ _ (block_ext hb hR)]; rfl
  have r2 : ∀ w', Below W0.heap.size W0 w' → w'.cell? ⟨w.heap.size + 1 + 1 + 1, 2, none⟩ = some (.int .i64 0) := fun w' hb => by rw [cell_of_row _ _ _ _ _ _ (block_ext hb hR)]; rfl
  have zr : ∀ w' j, Below W0.heap.size W0 w' → w'.frozen? ⟨w.heap.size + 1 + 1 + 1, j, none⟩ = false := fun w' j hb => frozen_of_row _ _ _ _ _ (block_ext hb hR)
  have hRlt : w.heap.size + 1 + 1 + 1 < W0.heap.size := (Array.getElem?_eq_some_iff.1 hR).1
  have HR := Lib.hid hR
  have E0 : Below W0.heap.size W0 W0 := Below.refl _ _
  have rr0 := r0 W0 E0
  have rr1 := r1 W0 E0
  have rr2 := r2 W0 E0
  have zr0 := zr W0 0 E0
  have zr1 := zr W0 1 E0
  have zr2 := zr W0 2 E0
  clear hM hE hF hR
  go_enter Try.func52, Try.ntmps52
  go_wp2
  go_region
  all_goals
    go_wp2
    refine bodyPost_ret (v := .tuple #[.int .i64 3, .agg #[.int .i64 x.1, .bool x.2.1, .int .i64 x.2.2]]) ?_ rfl ⟨rfl, ?_⟩
    · simp [results, Try.results52, go_sem, rr0, rr1, rr2]
    · exact ext_drewN (below3 HW0.out (by omega)) 1
set_option maxRecDepth 100000 in
set_option maxHeartbeats 4000000 in
theorem ask30_copy_no (m : MachD) (a1 a2 : Option Addr) (n1 c1 n2 c2 : Nat) (s t : InsR) (x : Int × Bool × Int) (w : World) (h : (x.1 == s.d.dst) = false) :
    Calls Try.prog 52 #[machV m a1 n1 c1 a2 n2 c2, ev30V (Ev30.mk 1 s t), factV x] w (AskPost w (3, x)) := by
  obtain ⟨W0, HW0, hM, hE, hF, hR, hW0⟩ := boxes4 w (machO m a1 n1 c1 a2 n2 c2) (ev30O (Ev30.mk 1 s t)) (factO x) (factO (0, false, 0))
  have m0 : ∀ w', Below W0.heap.size W0 w' → w'.cell? ⟨w.heap.size, 0, none⟩ = some (.int .i64 m.regs) := fun w' hb => by rw [cell_of_row _ _ _ _ _ _ (block_ext hb hM)]; rfl
  have m1 : ∀ w', Below W0.heap.size W0 w' → w'.cell? ⟨w.heap.size, 1, none⟩ = some (.slice a1 n1 c1) := fun w' hb => by rw [cell_of_row _ _ _ _ _ _ (block_ext hb hM)]; rfl
  have m2 : ∀ w', Below W0.heap.size W0 w' → w'.cell? ⟨w.heap.size, 2, none⟩ = some (.int .i64 m.ret) := fun w' hb => by rw [cell_of_row _ _ _ _ _ _ (block_ext hb hM)]; rfl
  have m3 : ∀ w', Below W0.heap.size W0 w' → w'.cell? ⟨w.heap.size, 3, none⟩ = some (.slice a2 n2 c2) := fun w' hb => by rw [cell_of_row _ _ _ _ _ _ (block_ext hb hM)]; rfl
  have e0 : ∀ w', Below W0.heap.size W0 w' → w'.cell? ⟨w.heap.size + 1, 0, none⟩ = some (.int .i64 1) := fun w' hb => by rw [cell_of_row _ _ _ _ _ _ (block_ext hb hE)]; rfl
  have e1 : ∀ w', Below W0.heap.size W0 w' → w'.cell? ⟨w.heap.size + 1, 1, none⟩ = some (.int .i64 s.d.op) := fun w' hb => by rw [cell_of_row _ _ _ _ _ _ (block_ext hb hE)]; rfl
  have e2 : ∀ w', Below W0.heap.size W0 w' → w'.cell? ⟨w.heap.size + 1, 2, none⟩ = some (.int .i64 s.d.dst) := fun w' hb => by rw [cell_of_row _ _ _ _ _ _ (block_ext hb hE)]; rfl
  have e3 : ∀ w', Below W0.heap.size W0 w' → w'.cell? ⟨w.heap.size + 1, 3, none⟩ = some (.int .i64 s.d.a) := fun w' hb => by rw [cell_of_row _ _ _ _ _ _ (block_ext hb hE)]; rfl
  have e4 : ∀ w', Below W0.heap.size W0 w' → w'.cell? ⟨w.heap.size + 1, 4, none⟩ = some (.int .i64 s.d.b) := fun w' hb => by rw [cell_of_row _ _ _ _ _ _ (block_ext hb hE)]; rfl
  have e5 : ∀ w', Below W0.heap.size W0 w' → w'.cell? ⟨w.heap.size + 1, 5, none⟩ = some (.int .i64 s.d.imm) := fun w' hb => by rw [cell_of_row _ _ _ _ _ _ (block_ext hb hE)]; rfl
  have e6 : ∀ w', Below W0.heap.size W0 w' → w'.cell? ⟨w.heap.size + 1, 6, none⟩ = some (.int .i64 s.d.callee) := fun w' hb => by rw [cell_of_row _ _ _ _ _ _ (block_ext hb hE)]; rfl
  have e7 : ∀ w', Below W0.heap.size W0 w' → w'.cell? ⟨w.heap.size + 1, 7, none⟩ = some (.slice s.aa s.na s.ca) := fun w' hb => by rw [cell_of_row _ _ _ _ _ _ (block_ext hb hE)]; rfl
  have e8 : ∀ w', Below W0.heap.size W0 w' → w'.cell? ⟨w.heap.size + 1, 8, none⟩ = some (.int .i64 s.d.many) := fun w' hb => by rw [cell_of_row _ _ _ _ _ _ (block_ext hb hE)]; rfl
  have e9 : ∀ w', Below W0.heap.size W0 w' → w'.cell? ⟨w.heap.size + 1, 9, none⟩ = some (.int .i64 t.d.op) := fun w' hb => by rw [cell_of_row _ _ _ _ _ _ (block_ext hb hE)]; rfl
  have e10 : ∀ w', Below W0.heap.size W0 w' → w'.cell? ⟨w.heap.size + 1, 10, none⟩ = some (.int .i64 t.d.dst) := fun w' hb => by rw [cell_of_row _ _ _ _ _ _ (block_ext hb hE)]; rfl
  have e11 : ∀ w', Below W0.heap.size W0 w' → w'.cell? ⟨w.heap.size + 1, 11, none⟩ = some (.int .i64 t.d.a) := fun w' hb => by rw [cell_of_row _ _ _ _ _ _ (block_ext hb hE)]; rfl
  have e12 : ∀ w', Below W0.heap.size W0 w' → w'.cell? ⟨w.heap.size + 1, 12, none⟩ = some (.int .i64 t.d.b) := fun w' hb => by rw [cell_of_row _ _ _ _ _ _ (block_ext hb hE)]; rfl
  have e13 : ∀ w', Below W0.heap.size W0 w' → w'.cell? ⟨w.heap.size + 1, 13, none⟩ = some (.int .i64 t.d.imm) := fun w' hb => by rw [cell_of_row _ _ _ _ _ _ (block_ext hb hE)]; rfl
  have e14 : ∀ w', Below W0.heap.size W0 w' → w'.cell? ⟨w.heap.size + 1, 14, none⟩ = some (.int .i64 t.d.callee) := fun w' hb => by rw [cell_of_row _ _ _ _ _ _ (block_ext hb hE)]; rfl
  have e15 : ∀ w', Below W0.heap.size W0 w' → w'.cell? ⟨w.heap.size + 1, 15, none⟩ = some (.slice t.aa t.na t.ca) := fun w' hb => by rw [cell_of_row _ _ _ _ _ _ (block_ext hb hE)]; rfl
  have e16 : ∀ w', Below W0.heap.size W0 w' → w'.cell? ⟨w.heap.size + 1, 16, none⟩ = some (.int .i64 t.d.many) := fun w' hb => by rw [cell_of_row _ _ _ _ _ _ (block_ext hb hE)]; rfl
  have f0 : ∀ w', Below W0.heap.size W0 w' → w'.cell? ⟨w.heap.size + 1 + 1, 0, none⟩ = some (.int .i64 x.1) := fun w' hb => by rw [cell_of_row _ _ _ _ _ _ (block_ext hb hF)]; rfl
  have f1 : ∀ w', Below W0.heap.size W0 w' → w'.cell? ⟨w.heap.size + 1 + 1, 1, none⟩ = some (.bool x.2.1) := fun w' hb => by rw [cell_of_row _ _ _ _ _ _ (block_ext hb hF)]; rfl
  have f2 : ∀ w', Below W0.heap.size W0 w' → w'.cell? ⟨w.heap.size + 1 + 1, 2, none⟩ = some (.int .i64 x.2.2) := fun w' hb => by rw [cell_of_row _ _ _ _ _ _ (block_ext hb hF)]; rfl
  have r0 : ∀ w', Below W0.heap.size W0 w' → w'.cell? ⟨w.heap.size + 1 + 1 + 1, 0, none⟩ = some (.int .i64 0) := fun w' hb => by rw [cell_of_row _ _ _ _ _ _ (block_ext hb hR)]; rfl
  have r1 : ∀ w', Below W0.heap.size W0 w' → w'.cell? ⟨w.heap.size + 1 + 1 + 1, 1, none⟩ = some (.bool false) := fun w' hb => by rw [cell_of_row _ _ _ _ _ _ (block_ext hb hR)]; rfl
  have r2 : ∀ w', Below W0.heap.size W0 w' → w'.cell? ⟨w.heap.size + 1 + 1 + 1, 2, none⟩ = some (.int .i64 0) := fun w' hb => by rw [cell_of_row _ _ _ _ _ _ (block_ext hb hR)]; rfl
  have zr : ∀ w' j, Below W0.heap.size W0 w' → w'.frozen? ⟨w.heap.size + 1 + 1 + 1, j, none⟩ = false := fun w' j hb => frozen_of_row _ _ _ _ _ (block_ext hb hR)
  have hRlt : w.heap.size + 1 + 1 + 1 < W0.heap.size := (Array.getElem?_eq_some_iff.1 hR).1
  have HR := Lib.hid hR
  have E0 : Below W0.heap.size W0 W0 := Below.refl _ _
  have rr0 := r0 W0 E0
  have rr1 := r1 W0 E0
  have rr2 := r2 W0 E0
  have zr0 := zr W0 0 E0
  have zr1 := zr W0 1 E0
  have zr2 := zr W0 2 E0
  clear hM hE hF hR
  go_enter Try.func52, Try.ntmps52
  go_wp2
  go_region
  all_goals
    go_wp2
    refine bodyPost_ret (v := .tuple #[.int .i64 3, .agg #[.int .i64 x.1, .bool x.2.1, .int .i64 x.2.2]]) ?_ rfl ⟨rfl, ?_⟩
    · simp [results, Try.results52, go_sem, rr0, rr1, rr2]
    · exact ext_drewN (below3 HW0.out (by omega)) 1
set_option maxRecDepth 100000 in
set_option maxHeartbeats 4000000 in
theorem ask30_copy_yes (m : MachD) (a1 a2 : Option Addr) (n1 c1 n2 c2 : Nat) (s t : InsR) (x : Int × Bool × Int) (w : World) (h : (x.1 == s.d.dst) = true) :
    Calls Try.prog 52 #[machV m a1 n1 c1 a2 n2 c2, ev30V (Ev30.mk 1 s t), factV x] w (AskPost w (3, (s.d.a, x.2))) := by
  obtain ⟨W0, HW0, hM, hE, hF, hR, hW0⟩ := boxes4 w (machO m a1 n1 c1 a2 n2 c2) (ev30O (Ev30.mk 1 s t)) (factO x) (factO (0, false, 0))
  have m0 : ∀ w', Below W0.heap.size W0 w' → w'.cell? ⟨w.heap.size, 0, none⟩ = some (.int .i64 m.regs) := fun w' hb => by rw [cell_of_row _ _ _ _ _ _ (block_ext hb hM)]; rfl
  have m1 : ∀ w', Below W0.heap.size W0 w' → w'.cell? ⟨w.heap.size, 1, none⟩ = some (.slice a1 n1 c1) := fun w' hb => by rw [cell_of_row _ _ _ _ _ _ (block_ext hb hM)]; rfl
  have m2 : ∀ w', Below W0.heap.size W0 w' → w'.cell? ⟨w.heap.size, 2, none⟩ = some (.int .i64 m.ret) := fun w' hb => by rw [cell_of_row _ _ _ _ _ _ (block_ext hb hM)]; rfl
  have m3 : ∀ w', Below W0.heap.size W0 w' → w'.cell? ⟨w.heap.size, 3, none⟩ = some (.slice a2 n2 c2) := fun w' hb => by rw [cell_of_row _ _ _ _ _ _ (block_ext hb hM)]; rfl
  have e0 : ∀ w', Below W0.heap.size W0 w' → w'.cell? ⟨w.heap.size + 1, 0, none⟩ = some (.int .i64 1) := fun w' hb => by rw [cell_of_row _ _ _ _ _ _ (block_ext hb hE)]; rfl
  have e1 : ∀ w', Below W0.heap.size W0 w' → w'.cell? ⟨w.heap.size + 1, 1, none⟩ = some (.int .i64 s.d.op) := fun w' hb => by rw [cell_of_row _ _ _ _ _ _ (block_ext hb hE)]; rfl
  have e2 : ∀ w', Below W0.heap.size W0 w' → w'.cell? ⟨w.heap.size + 1, 2, none⟩ = some (.int .i64 s.d.dst) := fun w' hb => by rw [cell_of_row _ _ _ _ _ _ (block_ext hb hE)]; rfl
  have e3 : ∀ w', Below W0.heap.size W0 w' → w'.cell? ⟨w.heap.size + 1, 3, none⟩ = some (.int .i64 s.d.a) := fun w' hb => by rw [cell_of_row _ _ _ _ _ _ (block_ext hb hE)]; rfl
  have e4 : ∀ w', Below W0.heap.size W0 w' → w'.cell? ⟨w.heap.size + 1, 4, none⟩ = some (.int .i64 s.d.b) := fun w' hb => by rw [cell_of_row _ _ _ _ _ _ (block_ext hb hE)]; rfl
  have e5 : ∀ w', Below W0.heap.size W0 w' → w'.cell? ⟨w.heap.size + 1, 5, none⟩ = some (.int .i64 s.d.imm) := fun w' hb => by rw [cell_of_row _ _ _ _ _ _ (block_ext hb hE)]; rfl
  have e6 : ∀ w', Below W0.heap.size W0 w' → w'.cell? ⟨w.heap.size + 1, 6, none⟩ = some (.int .i64 s.d.callee) := fun w' hb => by rw [cell_of_row _ _ _ _ _ _ (block_ext hb hE)]; rfl
  have e7 : ∀ w', Below W0.heap.size W0 w' → w'.cell? ⟨w.heap.size + 1, 7, none⟩ = some (.slice s.aa s.na s.ca) := fun w' hb => by rw [cell_of_row _ _ _ _ _ _ (block_ext hb hE)]; rfl
  have e8 : ∀ w', Below W0.heap.size W0 w' → w'.cell? ⟨w.heap.size + 1, 8, none⟩ = some (.int .i64 s.d.many) := fun w' hb => by rw [cell_of_row _ _ _ _ _ _ (block_ext hb hE)]; rfl
  have e9 : ∀ w', Below W0.heap.size W0 w' → w'.cell? ⟨w.heap.size + 1, 9, none⟩ = some (.int .i64 t.d.op) := fun w' hb => by rw [cell_of_row _ _ _ _ _ _ (block_ext hb hE)]; rfl
  have e10 : ∀ w', Below W0.heap.size W0 w' → w'.cell? ⟨w.heap.size + 1, 10, none⟩ = some (.int .i64 t.d.dst) := fun w' hb => by rw [cell_of_row _ _ _ _ _ _ (block_ext hb hE)]; rfl
  have e11 : ∀ w', Below W0.heap.size W0 w' → w'.cell? ⟨w.heap.size + 1, 11, none⟩ = some (.int .i64 t.d.a) := fun w' hb => by rw [cell_of_row _ _ _ _ _ _ (block_ext hb hE)]; rfl
  have e12 : ∀ w', Below W0.heap.size W0 w' → w'.cell? ⟨w.heap.size + 1, 12, none⟩ = some (.int .i64 t.d.b) := fun w' hb => by rw [cell_of_row _ _ _ _ _ _ (block_ext hb hE)]; rfl
  have e13 : ∀ w', Below W0.heap.size W0 w' → w'.cell? ⟨w.heap.size + 1, 13, none⟩ = some (.int .i64 t.d.imm) := fun w' hb => by rw [cell_of_row _ _ _ _ _ _ (block_ext hb hE)]; rfl
  have e14 : ∀ w', Below W0.heap.size W0 w' → w'.cell? ⟨w.heap.size + 1, 14, none⟩ = some (.int .i64 t.d.callee) := fun w' hb => by rw [cell_of_row _ _ _ _ _ _ (block_ext hb hE)]; rfl
  have e15 : ∀ w', Below W0.heap.size W0 w' → w'.cell? ⟨w.heap.size + 1, 15, none⟩ = some (.slice t.aa t.na t.ca) := fun w' hb => by rw [cell_of_row _ _ _ _ _ _ (block_ext hb hE)]; rfl
  have e16 : ∀ w', Below W0.heap.size W0 w' → w'.cell? ⟨w.heap.size + 1, 16, none⟩ = some (.int .i64 t.d.many) := fun w' hb => by rw [cell_of_row _ _ _ _ _ _ (block_ext hb hE)]; rfl
  have f0 : ∀ w', Below W0.heap.size W0 w' → w'.cell? ⟨w.heap.size + 1 + 1, 0, none⟩ = some (.int .i64 x.1) := fun w' hb => by rw [cell_of_row _ _ _ _ _ _ (block_ext hb hF)]; rfl
  have f1 : ∀ w', Below W0.heap.size W0 w' → w'.cell? ⟨w.heap.size + 1 + 1, 1, none⟩ = some (.bool x.2.1) := fun w' hb => by rw [cell_of_row _ _ _ _ _ _ (block_ext hb hF)]; rfl
  have f2 : ∀ w', Below W0.heap.size W0 w' → w'.cell? ⟨w.heap.size + 1 + 1, 2, none⟩ = some (.int .i64 x.2.2) := fun w' hb => by rw [cell_of_row _ _ _ _ _ _ (block_ext hb hF)]; rfl
  have r0 : ∀ w', Below W0.heap.size W0 w' → w'.cell? ⟨w.heap.size + 1 + 1 + 1, 0, none⟩ = some (.int .i64 0) := fun w' hb => by rw [cell_of_row _ _ _ _ _ _ (block_ext hb hR)]; rfl
  have r1 : ∀ w', Below W0.heap.size W0 w' → w'.cell? ⟨w.heap.size + 1 + 1 + 1, 1, none⟩ = some (.bool false) := fun w' hb => by rw [cell_of_row _ _ _ _ _ _ (block_ext hb hR)]; rfl
  have r2 : ∀ w', Below W0.heap.size W0 w' → w'.cell? ⟨w.heap.size + 1 + 1 + 1, 2, none⟩ = some (.int .i64 0) := fun w' hb => by rw [cell_of_row _ _ _ _ _ _ (block_ext hb hR)]; rfl
  have zr : ∀ w' j, Below W0.heap.size W0 w' → w'.frozen? ⟨w.heap.size + 1 + 1 + 1, j, none⟩ = false := fun w' j hb => frozen_of_row _ _ _ _ _ (block_ext hb hR)
  have hRlt : w.heap.size + 1 + 1 + 1 < W0.heap.size := (Array.getElem?_eq_some_iff.1 hR).1
  have HR := Lib.hid hR
  have E0 : Below W0.heap.size W0 W0 := Below.refl _ _
  have rr0 := r0 W0 E0
  have rr1 := r1 W0 E0
  have rr2 := r2 W0 E0
  have zr0 := zr W0 0 E0
  have zr1 := zr W0 1 E0
  have zr2 := zr W0 2 E0
  clear hM hE hF hR
  go_enter Try.func52, Try.ntmps52
  go_wp2
  go_region
  all_goals
    go_wp2
    refine bodyPost_ret (v := .tuple #[.int .i64 3, .agg #[.int .i64 s.d.a, .bool x.2.1, .int .i64 x.2.2]]) ?_ rfl ⟨rfl, ?_⟩
    · simp [results, Try.results52, go_sem, rr0, rr1, rr2]
    · exact ext_drewN (below3 HW0.out (by omega)) 1
theorem w30_ins (m : MachD) (t : InsD) (h : insB t.op = true) : ∃ p, w30 m t = [p] := by
  simp only [insB, decide_eq_true_eq] at h
  unfold w30 writes06L
  rcases h with h | h | h <;> rw [h]
  · exact ⟨_, rfl⟩
  · exact ⟨_, rfl⟩
  · exact ⟨_, rfl⟩
theorem r06_ins (t : InsD) : ∃ p, reads06L t = [p] := by
  unfold reads06L
  split
  · exact ⟨_, rfl⟩
  · exact ⟨_, rfl⟩
set_option maxRecDepth 100000 in
set_option maxHeartbeats 4000000 in
theorem ask30_ins_no (m : MachD) (a1 a2 : Option Addr) (n1 c1 n2 c2 : Nat) (s t : InsR) (x : Int × Bool × Int) (w : World) (hi : insB t.d.op = true) (h : first30 (w30 m t.d) x.2 = false) :
    Calls Try.prog 52 #[machV m a1 n1 c1 a2 n2 c2, ev30V (Ev30.mk 2 s t), factV x] w (AskPost w (3, x)) := by
  obtain ⟨W0, HW0, hM, hE, hF, hR, hW0⟩ := boxes4 w (machO m a1 n1 c1 a2 n2 c2) (ev30O (Ev30.mk 2 s t)) (factO x) (factO (0, false, 0))
  have m0 : ∀ w', Below W0.heap.size W0 w' → w'.cell? ⟨w.heap.size, 0, none⟩ = some (.int .i64 m.regs) := fun w' hb => by rw [cell_of_row _ _ _ _ _ _ (block_ext hb hM)]; rfl
  have m1 : ∀ w', Below W0.heap.size W0 w' → w'.cell? ⟨w.heap.size, 1, none⟩ = some (.slice a1 n1 c1) := fun w' hb => by rw [cell_of_row _ _ _ _ _ _ (block_ext hb hM)]; rfl
  have m2 : ∀ w', Below W0.heap.size W0 w' → w'.cell? ⟨w.heap.size, 2, none⟩ = some (.int .i64 m.ret) := fun w' hb => by rw [cell_of_row _ _ _ _ _ _ (block_ext hb hM)]; rfl
  have m3 : ∀ w', Below W0.heap.size W0 w' → w'.cell? ⟨w.heap.size, 3, none⟩ = some (.slice a2 n2 c2) := fun w' hb => by rw [cell_of_row _ _ _ _ _ _ (block_ext hb hM)]; rfl
  have e0 : ∀ w', Below W0.heap.size W0 w' → w'.cell? ⟨w.heap.size + 1, 0, none⟩ = some (.int .i64 2) := fun w' hb => by rw [cell_of_row _ _ _ _ _ _ (block_ext hb hE)]; rfl
  have e1 : ∀ w', Below W0.heap.size W0 w' → w'.cell? ⟨w.heap.size + 1, 1, none⟩ = some (.int .i64 s.d.op) := fun w' hb => by rw [cell_of_row _ _ _ _ _ _ (block_ext hb hE)]; rfl
  have e2 : ∀ w', Below W0.heap.size W0 w' → w'.cell? ⟨w.heap.size + 1, 2, none⟩ = some (.int .i64 s.d.dst) := fun w' hb => by rw [cell_of_row _ _ _ _ _ _ (block_ext hb hE)]; rfl
  have e3 : ∀ w', Below W0.heap.size W0 w' → w'.cell? ⟨w.heap.size + 1, 3, none⟩ = some (.int .i64 s.d.a) := fun w' hb => by rw [cell_of_row _ _ _ _ _ _ (block_ext hb hE)]; rfl
  have e4 : ∀ w', Below W0.heap.size W0 w' → w'.cell? ⟨w.heap.size + 1, 4, none⟩ = some (.int .i64 s.d.b) := fun w' hb => by rw [cell_of_row _ _ _ _ _ _ (block_ext hb hE)]; rfl
  have e5 : ∀ w', Below W0.heap.size W0 w' → w'.cell? ⟨w.heap.size + 1, 5, none⟩ = some (.int .i64 s.d.imm) := fun w' hb => by rw [cell_of_row _ _ _ _ _ _ (block_ext hb hE)]; rfl
  have e6 : ∀ w', Below W0.heap.size W0 w' → w'.cell? ⟨w.heap.size + 1, 6, none⟩ = some (.int .i64 s.d.callee) := fun w' hb => by rw [cell_of_row _ _ _ _ _ _ (block_ext hb hE)]; rfl
  have e7 : ∀ w', Below W0.heap.size W0 w' → w'.cell? ⟨w.heap.size + 1, 7, none⟩ = some (.slice s.aa s.na s.ca) := fun w' hb => by rw [cell_of_row _ _ _ _ _ _ (block_ext hb hE)]; rfl
  have e8 : ∀ w', Below W0.heap.size W0 w' → w'.cell? ⟨w.heap.size + 1, 8, none⟩ = some (.int .i64 s.d.many) := fun w' hb => by rw [cell_of_row _ _ _ _ _ _ (block_ext hb hE)]; rfl
  have e9 : ∀ w', Below W0.heap.size W0 w' → w'.cell? ⟨w.heap.size + 1, 9, none⟩ = some (.int .i64 t.d.op) := fun w' hb => by rw [cell_of_row _ _ _ _ _ _ (block_ext hb hE)]; rfl
  have e10 : ∀ w', Below W0.heap.size W0 w' → w'.cell? ⟨w.heap.size + 1, 10, none⟩ = some (.int .i64 t.d.dst) := fun w' hb => by rw [cell_of_row _ _ _ _ _ _ (block_ext hb hE)]; rfl
  have e11 : ∀ w', Below W0.heap.size W0 w' → w'.cell? ⟨w.heap.size + 1, 11, none⟩ = some (.int .i64 t.d.a) := fun w' hb => by rw [cell_of_row _ _ _ _ _ _ (block_ext hb hE)]; rfl
  have e12 : ∀ w', Below W0.heap.size W0 w' → w'.cell? ⟨w.heap.size + 1, 12, none⟩ = some (.int .i64 t.d.b) := fun w' hb => by rw [cell_of_row _ _ _ _ _ _ (block_ext hb hE)]; rfl
  have e13 : ∀ w', Below W0.heap.size W0 w' → w'.cell? ⟨w.heap.size + 1, 13, none⟩ = some (.int .i64 t.d.imm) := fun w' hb => by rw [cell_of_row _ _ _ _ _ _ (block_ext hb hE)]; rfl
  have e14 : ∀ w', Below W0.heap.size W0 w' → w'.cell? ⟨w.heap.size + 1, 14, none⟩ = some (.int .i64 t.d.callee) := fun w' hb => by rw [cell_of_row _ _ _ _ _ _ (block_ext hb hE)]; rfl
  have e15 : ∀ w', Below W0.heap.size W0 w' → w'.cell? ⟨w.heap.size + 1, 15, none⟩ = some (.slice t.aa t.na t.ca) := fun w' hb => by rw [cell_of_row _ _ _ _ _ _ (block_ext hb hE)]; rfl
  have e16 : ∀ w', Below W0.heap.size W0 w' → w'.cell? ⟨w.heap.size + 1, 16, none⟩ = some (.int .i64 t.d.many) := fun w' hb => by rw [cell_of_row _ _ _ _ _ _ (block_ext hb hE)]; rfl
  have f0 : ∀ w', Below W0.heap.size W0 w' → w'.cell? ⟨w.heap.size + 1 + 1, 0, none⟩ = some (.int .i64 x.1) := fun w' hb => by rw [cell_of_row _ _ _ _ _ _ (block_ext hb hF)]; rfl
  have f1 : ∀ w', Below W0.heap.size W0 w' → w'.cell? ⟨w.heap.size + 1 + 1, 1, none⟩ = some (.bool x.2.1) := fun w' hb => by rw [cell_of_row _ _ _ _ _ _ (block_ext hb hF)]; rfl
  have f2 : ∀ w', Below W0.heap.size W0 w' → w'.cell? ⟨w.heap.size + 1 + 1, 2, none⟩ = some (.int .i64 x.2.2) := fun w' hb => by rw [cell_of_row _ _ _ _ _ _ (block_ext hb hF)]; rfl
  have r0 : ∀ w', Below W0.heap.size W0 w' → w'.cell? ⟨w.heap.size + 1 + 1 + 1, 0, none⟩ = some (.int .i64 0) := fun w' hb => by rw [cell_of_row _ _ _ _ _ _ (block_ext hb hR)]; rfl
  have r1 : ∀ w', Below W0.heap.size W0 w' → w'.cell? ⟨w.heap.size + 1 + 1 + 1, 1, none⟩ = some (.bool false) := fun w' hb => by rw [cell_of_row _ _ _ _ _ _ (block_ext hb hR)]; rfl
  have r2 : ∀ w', Below W0.heap.size W0 w' → w'.cell? ⟨w.heap.size + 1 + 1 + 1, 2, none⟩ = some (.int .i64 0) := fun w' hb => by rw [cell_of_row _ _ _ _ _ _ (block_ext hb hR)]; rfl
  have zr : ∀ w' j, Below W0.heap.size W0 w' → w'.frozen? ⟨w.heap.size + 1 + 1 + 1, j, none⟩ = false := fun w' j hb => frozen_of_row _ _ _ _ _ (block_ext hb hR)
  have hRlt : w.heap.size + 1 + 1 + 1 < W0.heap.size := (Array.getElem?_eq_some_iff.1 hR).1
  have HR := Lib.hid hR
  have E0 : Below W0.heap.size W0 W0 := Below.refl _ _
  have rr0 := r0 W0 E0
  have rr1 := r1 W0 E0
  have rr2 := r2 W0 E0
  have zr0 := zr W0 0 E0
  have zr1 := zr W0 1 E0
  have zr2 := zr W0 2 E0
  clear hM hE hF hR
  have km0 := fun n : ExtW W0 => m0 _ n.ext
  have km1 := fun n : ExtW W0 => m1 _ n.ext
  have km2 := fun n : ExtW W0 => m2 _ n.ext
  have km3 := fun n : ExtW W0 => m3 _ n.ext
  have ke0 := fun n : ExtW W0 => e0 _ n.ext
  have ke1 := fun n : ExtW W0 => e1 _ n.ext
  have ke2 := fun n : ExtW W0 => e2 _ n.ext
  have ke3 := fun n : ExtW W0 => e3 _ n.ext
  have ke4 := fun n : ExtW W0 => e4 _ n.ext
  have ke5 := fun n : ExtW W0 => e5 _ n.ext
  have ke6 := fun n : ExtW W0 => e6 _ n.ext
  have ke7 := fun n : ExtW W0 => e7 _ n.ext
  have ke8 := fun n : ExtW W0 => e8 _ n.ext
  have ke9 := fun n : ExtW W0 => e9 _ n.ext
  have ke10 := fun n : ExtW W0 => e10 _ n.ext
  have ke11 := fun n : ExtW W0 => e11 _ n.ext
  have ke12 := fun n : ExtW W0 => e12 _ n.ext
  have ke13 := fun n : ExtW W0 => e13 _ n.ext
  have ke14 := fun n : ExtW W0 => e14 _ n.ext
  have ke15 := fun n : ExtW W0 => e15 _ n.ext
  have ke16 := fun n : ExtW W0 => e16 _ n.ext
  have kf0 := fun n : ExtW W0 => f0 _ n.ext
  have kf1 := fun n : ExtW W0 => f1 _ n.ext
  have kf2 := fun n : ExtW W0 => f2 _ n.ext
  obtain ⟨p2, hp2⟩ := w30_ins m t.d hi
  have HP2 := Lib.hid hp2
  have hq : ∀ w, (binOp .eql 33 (.agg #[.bool x.2.1, .int .i64 x.2.2]) (.agg #[.bool p2.1, .int .i64 p2.2])).run Try.prog w = .ok (.bool false) w := fun w => by
    rw [eql_loc w x.2.1 p2.1 x.2.2 p2.2]
    rw [hp2] at h
    rw [show sameLoc (x.2.1, x.2.2) (p2.1, p2.2) = false from h]
  clear hp2 h
  go_enter Try.func52, Try.ntmps52
  go_wp2
  refine z_start (fun w' => ∃ n : ExtW W0, w' = n.val) (by kernel_rfl) ?_
  obtain ⟨w0, F0, hw0⟩ : ∃ w0, Below W0.heap.size W0 w0 ∧ W0.drew = w0 := ⟨_, ext_drewN (Below.refl _ _) 1, rfl⟩
  rw [hw0]
  clear hw0
  refine z_reads 0 5 (by kernel_rfl) ⟨⟨_, F0⟩, rfl⟩ ?_
  simp only [List.take_succ_cons, List.take_zero, List.drop_succ_cons, List.drop_zero]
  repeat (go_big_quiet_step (fail))
  refine wpQuiet_nil ?_
  refine z_one 5 (by kernel_rfl) ?_
  refine wpOp_at rfl rfl ?_
  go_simp
  refine (writes06_any m t.d a1 a2 t.aa n1 c1 n2 c2 t.na t.ca w0).mono ?_
  rw [show writes06L m t.d (has06V t.d.op) = [p2] from HP2.out]
  rintro e w1 ⟨la2, lc2, rfl, hl2, hb2⟩
  have F1 : Below W0.heap.size W0 w1 := ext_trans F0 hb2
  obtain ⟨p2', q2, u2, e2, rfl, c20, c21⟩ := locs_cells hl2 (k := 0) (by simp)
  obtain rfl : p2 = p2' := by simpa using e2
  simp only [Nat.zero_mul, Nat.add_zero, List.length_cons, List.length_nil, Nat.zero_add] at c20 c21 ⊢
  refine ⟨Or.inr ⟨⟨_, F1⟩, rfl⟩, ?_⟩
  try simp only [Act.put, List.setIfInBounds_toArray, List.set_cons_succ, List.set_cons_zero]
  refine z_later F1 ?_
  have kc20 : ∀ n : ExtW w1, n.val.cell? ⟨q2, u2, none⟩ = some (.bool p2.1) := fun n => cell_ext n.ext c20
  have kc21 : ∀ n : ExtW w1, n.val.cell? ⟨q2, u2 + 1, none⟩ = some (.int .i64 p2.2) := fun n => cell_ext n.ext c21
  clear e2 hl2 c20 c21 hb2
  refine z_reads 6 3 (by kernel_rfl) ⟨⟨_, Below.refl _ _⟩, rfl⟩ ?_
  simp only [List.take_succ_cons, List.take_zero, List.drop_succ_cons, List.drop_zero]
  repeat (go_big_quiet_step (fail))
  refine wpQuiet_nil ?_
  refine z_done (by kernel_rfl) ?_
  clear kc20 kc21 rr0 rr1 rr2 zr0 zr1 zr2
  have rr0 := r0 w1 F1
  have rr1 := r1 w1 F1
  have rr2 := r2 w1 F1
  have zr0 := zr w1 0 F1
  have zr1 := zr w1 1 F1
  have zr2 := zr w1 2 F1
  have hRlt1 : w.heap.size + 1 + 1 + 1 < w1.heap.size := by have := F1.size; omega
  go_wp2
  go_region
  all_goals
    go_wp2
    refine bodyPost_ret (v := .tuple #[.int .i64 3, .agg #[.int .i64 x.1, .bool x.2.1, .int .i64 x.2.2]]) ?_ rfl ⟨rfl, ?_⟩
    · simp [results, Try.results52, go_sem, rr0, rr1, rr2]
    · exact ext_drewN (below3 (ext_trans HW0.out F1) (by omega)) 1
set_option maxRecDepth 100000 in
set_option maxHeartbeats 4000000 in
theorem ask30_ins_yes (m : MachD) (a1 a2 : Option Addr) (n1 c1 n2 c2 : Nat) (s t : InsR) (x : Int × Bool × Int) (w : World) (hi : insB t.d.op = true) (h : first30 (w30 m t.d) x.2 = true) :
    Calls Try.prog 52 #[machV m a1 n1 c1 a2 n2 c2, ev30V (Ev30.mk 2 s t), factV x] w (AskPost w (3, (x.1, headL (reads06L t.d)))) := by
  obtain ⟨W0, HW0, hM, hE, hF, hR, hW0⟩ := boxes4 w (machO m a1 n1 c1 a2 n2 c2) (ev30O (Ev30.mk 2 s t)) (factO x) (factO (0, false, 0))
  have m0 : ∀ w', Below W0.heap.size W0 w' → w'.cell? ⟨w.heap.size, 0, none⟩ = some (.int .i64 m.regs) := fun w' hb => by rw [cell_of_row _ _ _ _ _ _ (block_ext hb hM)]; rfl
  have m1 : ∀ w', Below W0.heap.size W0 w' → w'.cell? ⟨w.heap.size, 1, none⟩ = some (.slice a1 n1 c1) := fun w' hb => by rw [cell_of_row _ _ _ _ _ _ (block_ext hb hM)]; rfl
  have m2 : ∀ w', Below W0.heap.size W0 w' → w'.cell? ⟨w.heap.size, 2, none⟩ = some (.int .i64 m.ret) := fun w' hb => by rw [cell_of_row _ _ _ _ _ _ (block_ext hb hM)]; rfl
  have m3 : ∀ w', Below W0.heap.size W0 w' → w'.cell? ⟨w.heap.size, 3, none⟩ = some (.slice a2 n2 c2) := fun w' hb => by rw [cell_of_row _ _ _ _ _ _ (block_ext hb hM)]; rfl
  have e0 : ∀ w', Below W0.heap.size W0 w' → w'.cell? ⟨w.heap.size + 1, 0, none⟩ = some (.int .i64 2) := fun w' hb => by rw [cell_of_row _ _ _ _ _ _ (block_ext hb hE)]; rfl
  have e1 : ∀ w', Below W0.heap.size W0 w' → w'.cell? ⟨w.heap.size + 1, 1, none⟩ = some (.int .i64 s.d.op) := fun w' hb => by rw [cell_of_row _ _ _ _ _ _ (block_ext hb hE)]; rfl
  have e2 : ∀ w', Below W0.heap.size W0 w' → w'.cell? ⟨w.heap.size + 1, 2, none⟩ = some (.int .i64 s.d.dst) := fun w' hb => by rw [cell_of_row _ _ _ _ _ _ (block_ext hb hE)]; rfl
  have e3 : ∀ w', Below W0.heap.size W0 w' → w'.cell? ⟨w.heap.size + 1, 3, none⟩ = some (.int .i64 s.d.a) := fun w' hb => by rw [cell_of_row _ _ _ _ _ _ (block_ext hb hE)]; rfl
  have e4 : ∀ w', Below W0.heap.size W0 w' → w'.cell? ⟨w.heap.size + 1, 4, none⟩ = some (.int .i64 s.d.b) := fun w' hb => by rw [cell_of_row _ _ _ _ _ _ (block_ext hb hE)]; rfl
  have e5 : ∀ w', Below W0.heap.size W0 w' → w'.cell? ⟨w.heap.size + 1, 5, none⟩ = some (.int .i64 s.d.imm) := fun w' hb => by rw [cell_of_row _ _ _ _ _ _ (block_ext hb hE)]; rfl
  have e6 : ∀ w', Below W0.heap.size W0 w' → w'.cell? ⟨w.heap.size + 1, 6, none⟩ = some (.int .i64 s.d.callee) := fun w' hb => by rw [cell_of_row _ _ _ _ _ _ (block_ext hb hE)]; rfl
  have e7 : ∀ w', Below W0.heap.size W0 w' → w'.cell? ⟨w.heap.size + 1, 7, none⟩ = some (.slice s.aa s.na s.ca) := fun w' hb => by rw [cell_of_row _ _ _ _ _ _ (block_ext hb hE)]; rfl
  have e8 : ∀ w', Below W0.heap.size W0 w' → w'.cell? ⟨w.heap.size + 1, 8, none⟩ = some (.int .i64 s.d.many) := fun w' hb => by rw [cell_of_row _ _ _ _ _ _ (block_ext hb hE)]; rfl
  have e9 : ∀ w', Below W0.heap.size W0 w' → w'.cell? ⟨w.heap.size + 1, 9, none⟩ = some (.int .i64 t.d.op) := fun w' hb => by rw [cell_of_row _ _ _ _ _ _ (block_ext hb hE)]; rfl
  have e10 : ∀ w', Below W0.heap.size W0 w' → w'.cell? ⟨w.heap.size + 1, 10, none⟩ = some (.int .i64 t.d.dst) := fun w' hb => by rw [cell_of_row _ _ _ _ _ _ (block_ext hb hE)]; rfl
  have e11 : ∀ w', Below W0.heap.size W0 w' → w'.cell? ⟨w.heap.size + 1, 11, none⟩ = some (.int .i64 t.d.a) := fun w' hb => by rw [cell_of_row _ _ _ _ _ _ (block_ext hb hE)]; rfl
  have e12 : ∀ w', Below W0.heap.size W0 w' → w'.cell? ⟨w.heap.size + 1, 12, none⟩ = some (.int .i64 t.d.b) := fun w' hb => by rw [cell_of_row _ _ _ _ _ _ (block_ext hb hE)]; rfl
  have e13 : ∀ w', Below W0.heap.size W0 w' → w'.cell? ⟨w.heap.size + 1, 13, none⟩ = some (.int .i64 t.d.imm) := fun w' hb => by rw [cell_of_row _ _ _ _ _ _ (block_ext hb hE)]; rfl
  have e14 : ∀ w', Below W0.heap.size W0 w' → w'.cell? ⟨w.heap.size + 1, 14, none⟩ = some (.int .i64 t.d.callee) := fun w' hb => by rw [cell_of_row _ _ _ _ _ _ (block_ext hb hE)]; rfl
  have e15 : ∀ w', Below W0.heap.size W0 w' → w'.cell? ⟨w.heap.size + 1, 15, none⟩ = some (.slice t.aa t.na t.ca) := fun w' hb => by rw [cell_of_row _ _ _ _ _ _ (block_ext hb hE)]; rfl
  have e16 : ∀ w', Below W0.heap.size W0 w' → w'.cell? ⟨w.heap.size + 1, 16, none⟩ = some (.int .i64 t.d.many) := fun w' hb => by rw [cell_of_row _ _ _ _ _ _ (block_ext hb hE)]; rfl
  have f0 : ∀ w', Below W0.heap.size W0 w' → w'.cell? ⟨w.heap.size + 1 + 1, 0, none⟩ = some (.int .i64 x.1) := fun w' hb => by rw [cell_of_row _ _ _ _ _ _ (block_ext hb hF)]; rfl
  have f1 : ∀ w', Below W0.heap.size W0 w' → w'.cell? ⟨w.heap.size + 1 + 1, 1, none⟩ = some (.bool x.2.1) := fun w' hb => by rw [cell_of_row _ _ _ _ _ _ (block_ext hb hF)]; rfl
  have f2 : ∀ w', Below W0.heap.size W0 w' → w'.cell? ⟨w.heap.size + 1 + 1, 2, none⟩ = some (.int .i64 x.2.2) := fun w' hb => by rw [cell_of_row _ _ _ _ _ _ (block_ext hb hF)]; rfl
  have r0 : ∀ w', Below W0.heap.size W0 w' → w'.cell? ⟨w.heap.size + 1 + 1 + 1, 0, none⟩ = some (.int .i64 0) := fun w' hb => by rw [cell_of_row _ _ _ _ _ _ (block_ext hb hR)]; rfl
  have r1 : ∀ w', Below W0.heap.size W0 w' → w'.cell? ⟨w.heap.size + 1 + 1 + 1, 1, none⟩ = some (.bool false) := fun w' hb => by rw [cell_of_row _ _ _ _ _ _ (block_ext hb hR)]; rfl
  have r2 : ∀ w', Below W0.heap.size W0 w' → w'.cell? ⟨w.heap.size + 1 + 1 + 1, 2, none⟩ = some (.int .i64 0) := fun w' hb => by rw [cell_of_row _ _ _ _ _ _ (block_ext hb hR)]; rfl
  have zr : ∀ w' j, Below W0.heap.size W0 w' → w'.frozen? ⟨w.heap.size + 1 + 1 + 1, j, none⟩ = false := fun w' j hb => frozen_of_row _ _ _ _ _ (block_ext hb hR)
  have hRlt : w.heap.size + 1 + 1 + 1 < W0.heap.size := (Array.getElem?_eq_some_iff.1 hR).1
  have HR := Lib.hid hR
  have E0 : Below W0.heap.size W0 W0 := Below.refl _ _
  have rr0 := r0 W0 E0
  have rr1 := r1 W0 E0
  have rr2 := r2 W0 E0
  have zr0 := zr W0 0 E0
  have zr1 := zr W0 1 E0
  have zr2 := zr W0 2 E0
  clear hM hE hF hR
  have km0 := fun n : ExtW W0 => m0 _ n.ext
  have km1 := fun n : ExtW W0 => m1 _ n.ext
  have km2 := fun n : ExtW W0 => m2 _ n.ext
  have km3 := fun n : ExtW W0 => m3 _ n.ext
  have ke0 := fun n : ExtW W0 => e0 _ n.ext
  have ke1 := fun n : ExtW W0 => e1 _ n.ext
  have ke2 := fun n : ExtW W0 => e2 _ n.ext
  have ke3 := fun n : ExtW W0 => e3 _ n.ext
  have ke4 := fun n : ExtW W0 => e4 _ n.ext
  have ke5 := fun n : ExtW W0 => e5 _ n.ext
  have ke6 := fun n : ExtW W0 => e6 _ n.ext
  have ke7 := fun n : ExtW W0 => e7 _ n.ext
  have ke8 := fun n : ExtW W0 => e8 _ n.ext
  have ke9 := fun n : ExtW W0 => e9 _ n.ext
  have ke10 := fun n : ExtW W0 => e10 _ n.ext
  have ke11 := fun n : ExtW W0 => e11 _ n.ext
  have ke12 := fun n : ExtW W0 => e12 _ n.ext
  have ke13 := fun n : ExtW W0 => e13 _ n.ext
  have ke14 := fun n : ExtW W0 => e14 _ n.ext
  have ke15 := fun n : ExtW W0 => e15 _ n.ext
  have ke16 := fun n : ExtW W0 => e16 _ n.ext
  have kf0 := fun n : ExtW W0 => f0 _ n.ext
  have kf1 := fun n : ExtW W0 => f1 _ n.ext
  have kf2 := fun n : ExtW W0 => f2 _ n.ext
  obtain ⟨p2, hp2⟩ := w30_ins m t.d hi
  have HP2 := Lib.hid hp2
  have hq : ∀ w, (binOp .eql 33 (.agg #[.bool x.2.1, .int .i64 x.2.2]) (.agg #[.bool p2.1, .int .i64 p2.2])).run Try.prog w = .ok (.bool true) w := fun w => by
    rw [eql_loc w x.2.1 p2.1 x.2.2 p2.2]
    rw [hp2] at h
    rw [show sameLoc (x.2.1, x.2.2) (p2.1, p2.2) = true from h]
  clear hp2 h
  go_enter Try.func52, Try.ntmps52
  go_wp2
  refine z_start (fun w' => ∃ n : ExtW W0, w' = n.val) (by kernel_rfl) ?_
  obtain ⟨w0, F0, hw0⟩ : ∃ w0, Below W0.heap.size W0 w0 ∧ W0.drew = w0 := ⟨_, ext_drewN (Below.refl _ _) 1, rfl⟩
  rw [hw0]
  clear hw0
  refine z_reads 0 5 (by kernel_rfl) ⟨⟨_, F0⟩, rfl⟩ ?_
  simp only [List.take_succ_cons, List.take_zero, List.drop_succ_cons, List.drop_zero]
  repeat (go_big_quiet_step (fail))
  refine wpQuiet_nil ?_
  refine z_one 5 (by kernel_rfl) ?_
  refine wpOp_at rfl rfl ?_
  go_simp
  refine (writes06_any m t.d a1 a2 t.aa n1 c1 n2 c2 t.na t.ca w0).mono ?_
  rw [show writes06L m t.d (has06V t.d.op) = [p2] from HP2.out]
  rintro e w1 ⟨la2, lc2, rfl, hl2, hb2⟩
  have F1 : Below W0.heap.size W0 w1 := ext_trans F0 hb2
  obtain ⟨p2', q2, u2, e2, rfl, c20, c21⟩ := locs_cells hl2 (k := 0) (by simp)
  obtain rfl : p2 = p2' := by simpa using e2
  simp only [Nat.zero_mul, Nat.add_zero, List.length_cons, List.length_nil, Nat.zero_add] at c20 c21 ⊢
  refine ⟨Or.inr ⟨⟨_, F1⟩, rfl⟩, ?_⟩
  try simp only [Act.put, List.setIfInBounds_toArray, List.set_cons_succ, List.set_cons_zero]
  refine z_later F1 ?_
  have kc20 : ∀ n : ExtW w1, n.val.cell? ⟨q2, u2, none⟩ = some (.bool p2.1) := fun n => cell_ext n.ext c20
  have kc21 : ∀ n : ExtW w1, n.val.cell? ⟨q2, u2 + 1, none⟩ = some (.int .i64 p2.2) := fun n => cell_ext n.ext c21
  clear e2 hl2 c20 c21 hb2
  refine z_reads 6 3 (by kernel_rfl) ⟨⟨_, Below.refl _ _⟩, rfl⟩ ?_
  simp only [List.take_succ_cons, List.take_zero, List.drop_succ_cons, List.drop_zero]
  repeat (go_big_quiet_step (fail))
  refine wpQuiet_nil ?_
  refine z_done (by kernel_rfl) ?_
  clear kc20 kc21 rr0 rr1 rr2 zr0 zr1 zr2
  have rr0 := r0 w1 F1
  have rr1 := r1 w1 F1
  have rr2 := r2 w1 F1
  have zr0 := zr w1 0 F1
  have zr1 := zr w1 1 F1
  have zr2 := zr w1 2 F1
  have hRlt1 : w.heap.size + 1 + 1 + 1 < w1.heap.size := by have := F1.size; omega
  go_wp2
  obtain ⟨p1, hp1⟩ := r06_ins t.d
  have HP1 := Lib.hid hp1
  clear hp1
  have jm0 := fun n : ExtW w1 => m0 _ (ext_trans F1 n.ext)
  have jm1 := fun n : ExtW w1 => m1 _ (ext_trans F1 n.ext)
  have jm2 := fun n : ExtW w1 => m2 _ (ext_trans F1 n.ext)
  have jm3 := fun n : ExtW w1 => m3 _ (ext_trans F1 n.ext)
  have je0 := fun n : ExtW w1 => e0 _ (ext_trans F1 n.ext)
  have je1 := fun n : ExtW w1 => e1 _ (ext_trans F1 n.ext)
  have je2 := fun n : ExtW w1 => e2 _ (ext_trans F1 n.ext)
  have je3 := fun n : ExtW w1 => e3 _ (ext_trans F1 n.ext)
  have je4 := fun n : ExtW w1 => e4 _ (ext_trans F1 n.ext)
  have je5 := fun n : ExtW w1 => e5 _ (ext_trans F1 n.ext)
  have je6 := fun n : ExtW w1 => e6 _ (ext_trans F1 n.ext)
  have je7 := fun n : ExtW w1 => e7 _ (ext_trans F1 n.ext)
  have je8 := fun n : ExtW w1 => e8 _ (ext_trans F1 n.ext)
  have je9 := fun n : ExtW w1 => e9 _ (ext_trans F1 n.ext)
  have je10 := fun n : ExtW w1 => e10 _ (ext_trans F1 n.ext)
  have je11 := fun n : ExtW w1 => e11 _ (ext_trans F1 n.ext)
  have je12 := fun n : ExtW w1 => e12 _ (ext_trans F1 n.ext)
  have je13 := fun n : ExtW w1 => e13 _ (ext_trans F1 n.ext)
  have je14 := fun n : ExtW w1 => e14 _ (ext_trans F1 n.ext)
  have je15 := fun n : ExtW w1 => e15 _ (ext_trans F1 n.ext)
  have je16 := fun n : ExtW w1 => e16 _ (ext_trans F1 n.ext)
  have jf0 := fun n : ExtW w1 => f0 _ (ext_trans F1 n.ext)
  have jf1 := fun n : ExtW w1 => f1 _ (ext_trans F1 n.ext)
  have jf2 := fun n : ExtW w1 => f2 _ (ext_trans F1 n.ext)
  refine z_start (fun w' => ∃ n : ExtW w1, w' = n.val) (by kernel_rfl) ?_
  obtain ⟨w2, G0, hw2⟩ : ∃ w2, Below w1.heap.size w1 w2 ∧ w1.drew = w2 := ⟨_, ext_drewN (Below.refl _ _) 1, rfl⟩
  rw [hw2]
  clear hw2
  refine z_reads 0 5 (by kernel_rfl) ⟨⟨_, G0⟩, rfl⟩ ?_
  simp only [List.take_succ_cons, List.take_zero, List.drop_succ_cons, List.drop_zero]
  repeat (go_big_quiet_step (fail))
  refine wpQuiet_nil ?_
  refine z_one 5 (by kernel_rfl) ?_
  refine wpOp_at rfl rfl ?_
  go_simp
  refine (reads06_any m t.d a1 a2 t.aa n1 c1 n2 c2 t.na t.ca w2 hi).mono ?_
  rw [HP1.out]
  rintro e w3 ⟨la3, lc3, rfl, hl3, hb3⟩
  have G1 : Below w1.heap.size w1 w3 := ext_trans G0 hb3
  obtain ⟨p1', q3, u3, e3, rfl, c30, c31⟩ := locs_cells hl3 (k := 0) (by simp)
  obtain rfl : p1 = p1' := by simpa using e3
  simp only [Nat.zero_mul, Nat.add_zero, List.length_cons, List.length_nil, Nat.zero_add] at c30 c31 ⊢
  refine ⟨Or.inr ⟨⟨_, G1⟩, rfl⟩, ?_⟩
  try simp only [Act.put, List.setIfInBounds_toArray, List.set_cons_succ, List.set_cons_zero]
  refine z_later G1 ?_
  have kc30 : ∀ n : ExtW w3, n.val.cell? ⟨q3, u3, none⟩ = some (.bool p1.1) := fun n => cell_ext n.ext c30
  have kc31 : ∀ n : ExtW w3, n.val.cell? ⟨q3, u3 + 1, none⟩ = some (.int .i64 p1.2) := fun n => cell_ext n.ext c31
  clear e3 hl3 c30 c31 hb3
  refine z_reads 6 4 (by kernel_rfl) ⟨⟨_, Below.refl _ _⟩, rfl⟩ ?_
  simp only [List.take_succ_cons, List.take_zero, List.drop_succ_cons, List.drop_zero]
  repeat (go_big_quiet_step (fail))
  refine wpQuiet_nil ?_
  refine z_one 10 (by kernel_rfl) ?_
  refine wpOp_at rfl rfl ?_
  have F3 : Below W0.heap.size W0 w3 := ext_trans F1 G1
  refine op_store_rowB 35 _ _ rfl (w.heap.size + 1 + 1 + 1) #[.int .i64 x.1, .bool p1.1, .int .i64 p1.2] rfl rfl 35 _ (block_ext F3 HR.out) (by kernel_rfl) rfl (by simp [Value.oneCell']) _ _ (ext_trans HW0.out F3) (by omega) ?_
  intro w4 hb4 X4
  have s0 : w4.cell? ⟨w.heap.size + 1 + 1 + 1, 0, none⟩ = some (.int .i64 x.1) := by rw [cell_of_row _ _ _ _ _ _ X4]; rfl
  have s1 : w4.cell? ⟨w.heap.size + 1 + 1 + 1, 1, none⟩ = some (.bool p1.1) := by rw [cell_of_row _ _ _ _ _ _ X4]; rfl
  have s2 : w4.cell? ⟨w.heap.size + 1 + 1 + 1, 2, none⟩ = some (.int .i64 p1.2) := by rw [cell_of_row _ _ _ _ _ _ X4]; rfl
  refine ⟨Or.inl (by kernel_rfl), ?_⟩
  try simp only [Act.put, List.setIfInBounds_toArray, List.set_cons_succ, List.set_cons_zero]
  refine z_done (by kernel_rfl) ?_
  go_wp2_with fail
  refine bodyPost_ret (v := .tuple #[.int .i64 3, .agg #[.int .i64 x.1, .bool p1.1, .int .i64 p1.2]]) ?_ rfl ⟨by rw [HP1.out]; rfl, hb4⟩
  simp [results, Try.results52, go_sem, s0, s1, s2]
set_option maxRecDepth 100000 in
set_option maxHeartbeats 4000000 in
theorem ask30_done (m : MachD) (a1 a2 : Option Addr) (n1 c1 n2 c2 : Nat) (s t : InsR) (x : Int × Bool × Int) (w : World) (hm : MachOK w m a1 n1 c1 a2 n2 c2) (hs : InsOK w s) :
    Calls Try.prog 52 #[machV m a1 n1 c1 a2 n2 c2, ev30V (Ev30.mk 3 s t), factV x] w (AskPost w (ask30V m (Ev30.mk 3 s t) x)) := by
  have HM := Lib.hid hm
  have HS := Lib.hid hs
  clear hm hs
  obtain ⟨W0, HW0, hM, hE, hF, hR, hW0⟩ := boxes4 w (machO m a1 n1 c1 a2 n2 c2) (ev30O (Ev30.mk 3 s t)) (factO x) (factO (0, false, 0))
  have m0 : ∀ w', Below W0.heap.size W0 w' → w'.cell? ⟨w.heap.size, 0, none⟩ = some (.int .i64 m.regs) := fun w' hb => by rw [cell_of_row _ _ _ _ _ _ (block_ext hb hM)]; rfl
  have m1 : ∀ w', Below W0.heap.size W0 w' → w'.cell? ⟨w.heap.size, 1, none⟩ = some (.slice a1 n1 c1) := fun w' hb => by rw [cell_of_row _ _ _ _ _ _ (block_ext hb hM)]; rfl
  have m2 : ∀ w', Below W0.heap.size W0 w' → w'.cell? ⟨w.heap.size, 2, none⟩ = some (.int .i64 m.ret) := fun w' hb => by rw [cell_of_row _ _ _ _ _ _ (block_ext hb hM)]; rfl
  have m3 : ∀ w', Below W0.heap.size W0 w' → w'.cell? ⟨w.heap.size, 3, none⟩ = some (.slice a2 n2 c2) := fun w' hb => by rw [cell_of_row _ _ _ _ _ _ (block_ext hb hM)]; rfl
  have e0 : ∀ w', Below W0.heap.size W0 w' → w'.cell? ⟨w.heap.size + 1, 0, none⟩ = some (.int .i64 3) := fun w' hb => by rw [cell_of_row _ _ _ _ _ _ (block_ext hb hE)]; rfl
  have e1 : ∀ w', Below W0.heap.size W0 w' → w'.cell? ⟨w.heap.size + 1, 1, none⟩ = some (.int .i64 s.d.op) := fun w' hb => by rw [cell_of_row _ _ _ _ _ _ (block_ext hb hE)]; rfl
  have e2 : ∀ w', Below W0.heap.size W0 w' → w'.cell? ⟨w.heap.size + 1, 2, none⟩ = some (.int .i64 s.d.dst) := fun w' hb => by rw [cell_of_row _ _ _ _ _ _ (block_ext hb hE)]; rfl
  have e3 : ∀ w', Below W0.heap.size W0 w' → w'.cell? ⟨w.heap.size + 1, 3, none⟩ = some (.int .i64 s.d.a) := fun w' hb => by rw [cell_of_row _ _ _ _ _ _ (block_ext hb hE)]; rfl
  have e4 : ∀ w', Below W0.heap.size W0 w' → w'.cell? ⟨w.heap.size + 1, 4, none⟩ = some (.int .i64 s.d.b) := fun w' hb => by rw [cell_of_row _ _ _ _ _ _ (block_ext hb hE)]; rfl
  have e5 : ∀ w', Below W0.heap.size W0 w' → w'.cell? ⟨w.heap.size + 1, 5, none⟩ = some (.int .i64 s.d.imm) := fun w' hb => by rw [cell_of_row _ _ _ _ _ _ (block_ext hb hE)]; rfl
  have e6 : ∀ w', Below W0.heap.size W0 w' → w'.cell? ⟨w.heap.size + 1, 6, none⟩ = some (.int .i64 s.d.callee) := fun w' hb => by rw [cell_of_row _ _ _ _ _ _ (block_ext hb hE)]; rfl
  have e7 : ∀ w', Below W0.heap.size W0 w' → w'.cell? ⟨w.heap.size + 1, 7, none⟩ = some (.slice s.aa s.na s.ca) := fun w' hb => by rw [cell_of_row _ _ _ _ _ _ (block_ext hb hE)]; rfl
  have e8 : ∀ w', Below W0.heap.size W0 w' → w'.cell? ⟨w.heap.size + 1, 8, none⟩ = some (.int .i64 s.d.many) := fun w' hb => by rw [cell_of_row _ _ _ _ _ _ (block_ext hb hE)]; rfl
  have e9 : ∀ w', Below W0.heap.size W0 w' → w'.cell? ⟨w.heap.size + 1, 9, none⟩ = some (.int .i64 t.d.op) := fun w' hb => by rw [cell_of_row _ _ _ _ _ _ (block_ext hb hE)]; rfl
  have e10 : ∀ w', Below W0.heap.size W0 w' → w'.cell? ⟨w.heap.size + 1, 10, none⟩ = some (.int .i64 t.d.dst) := fun w' hb => by rw [cell_of_row _ _ _ _ _ _ (block_ext hb hE)]; rfl
  have e11 : ∀ w', Below W0.heap.size W0 w' → w'.cell? ⟨w.heap.size + 1, 11, none⟩ = some (.int .i64 t.d.a) := fun w' hb => by rw [cell_of_row _ _ _ _ _ _ (block_ext hb hE)]; rfl
  have e12 : ∀ w', Below W0.heap.size W0 w' → w'.cell? ⟨w.heap.size + 1, 12, none⟩ = some (.int .i64 t.d.b) := fun w' hb => by rw [cell_of_row _ _ _ _ _ _ (block_ext hb hE)]; rfl
  have e13 : ∀ w', Below W0.heap.size W0 w' → w'.cell? ⟨w.heap.size + 1, 13, none⟩ = some (.int .i64 t.d.imm) := fun w' hb => by rw [cell_of_row _ _ _ _ _ _ (block_ext hb hE)]; rfl
  have e14 : ∀ w', Below W0.heap.size W0 w' → w'.cell? ⟨w.heap.size + 1, 14, none⟩ = some (.int .i64 t.d.callee) := fun w' hb => by rw [cell_of_row _ _ _ _ _ _ (block_ext hb hE)]; rfl
  have e15 : ∀ w', Below W0.heap.size W0 w' → w'.cell? ⟨w.heap.size + 1, 15, none⟩ = some (.slice t.aa t.na t.ca) := fun w' hb => by rw [cell_of_row _ _ _ _ _ _ (block_ext hb hE)]; rfl
  have e16 : ∀ w', Below W0.heap.size W0 w' → w'.cell? ⟨w.heap.size + 1, 16, none⟩ = some (.int .i64 t.d.many) := fun w' hb => by rw [cell_of_row _ _ _ _ _ _ (block_ext hb hE)]; rfl
  have f0 : ∀ w', Below W0.heap.size W0 w' → w'.cell? ⟨w.heap.size + 1 + 1, 0, none⟩ = some (.int .i64 x.1) := fun w' hb => by rw [cell_of_row _ _ _ _ _ _ (block_ext hb hF)]; rfl
  have f1 : ∀ w', Below W0.heap.size W0 w' → w'.cell? ⟨w.heap.size + 1 + 1, 1, none⟩ = some (.bool x.2.1) := fun w' hb => by rw [cell_of_row _ _ _ _ _ _ (block_ext hb hF)]; rfl
  have f2 : ∀ w', Below W0.heap.size W0 w' → w'.cell? ⟨w.heap.size + 1 + 1, 2, none⟩ = some (.int .i64 x.2.2) := fun w' hb => by rw [cell_of_row _ _ _ _ _ _ (block_ext hb hF)]; rfl
  have r0 : ∀ w', Below W0.heap.size W0 w' → w'.cell? ⟨w.heap.size + 1 + 1 + 1, 0, none⟩ = some (.int .i64 0) := fun w' hb => by rw [cell_of_row _ _ _ _ _ _ (block_ext hb hR)]; rfl
  have r1 : ∀ w', Below W0.heap.size W0 w' → w'.cell? ⟨w.heap.size + 1 + 1 + 1, 1, none⟩ = some (.bool false) := fun w' hb => by rw [cell_of_row _ _ _ _ _ _ (block_ext hb hR)]; rfl
  have r2 : ∀ w', Below W0.heap.size W0 w' → w'.cell? ⟨w.heap.size + 1 + 1 + 1, 2, none⟩ = some (.int .i64 0) := fun w' hb => by rw [cell_of_row _ _ _ _ _ _ (block_ext hb hR)]; rfl
  have zr : ∀ w' j, Below W0.heap.size W0 w' → w'.frozen? ⟨w.heap.size + 1 + 1 + 1, j, none⟩ = false := fun w' j hb => frozen_of_row _ _ _ _ _ (block_ext hb hR)
  have hRlt : w.heap.size + 1 + 1 + 1 < W0.heap.size := (Array.getElem?_eq_some_iff.1 hR).1
  have HR := Lib.hid hR
  have E0 : Below W0.heap.size W0 W0 := Below.refl _ _
  clear hM hE hF hR
  have HAsk : Hid (ask30V m (Ev30.mk 3 s t) x = if own30 s.d x && first30 (w30 m t.d) x.2 then (1, (0, false, 0)) else if own30 s.d x || holdsB (w30 m t.d) x.2 || lost30 m s.d x.2 then (2, (0, false, 0)) else (3, x)) := rfl
  have HOwn : Hid (own30 s.d x = (decide (0 < def03V s.d) && (x.1 == def03V s.d))) := rfl
  go_enter Try.func52, Try.ntmps52
  go_wp2_with (first
    | (go_at_call 68
       refine (defines03_any s.d s.aa s.na s.ca _ ((HS.out.ext HW0.out).1)).mono ?_
       rintro e w1 ⟨rfl, E1⟩)
    | (go_at_call 66
       refine (writes06_any m t.d a1 a2 t.aa n1 c1 n2 c2 t.na t.ca _).mono ?_
       rintro e w2 ⟨la, lc, rfl, hl2, hb2⟩
       have E2 : Below W0.heap.size W0 w2 := ext_trans E1 hb2
       have HL := Lib.hid hl2
       clear hl2 hb2))
  rw [show writes06L m t.d (has06V t.d.op) = w30 m t.d from rfl] at *
  generalize w30 m t.d = ws at *
  generalize def03V s.d = dv at *
  have hwlen : ws.length ≤ 17592186044416 := HL.out.2.1
  go_cut [10] (fun s10 wx => s10 = .bool (lost30 m s.d x.2) ∧ Hid (Below W0.heap.size W0 wx) ∧ Hid (Below w2.heap.size w2 wx))
  case first =>
    have HLo : Hid (lost30 m s.d x.2 = ((s.d.op == 13) && !x.2.1 && memI (lost5L m) x.2.2)) := rfl
    have k0 := e1 w2 E2
    have k1 := f1 w2 E2
    obtain ⟨xv, xs, xn⟩ := x
    cases h13 : (s.d.op == 13) with
    | false =>
      rw [h13] at HLo
      clear m0 m1 m2 m3 e0 e1 e2 e3 e4 e5 e6 e7 e8 e9 e10 e11 e12 e13 e14 e15 e16 f0 f1 f2 r0 r1 r2
      go_quiet (fail)
      go_wp2_with fail
      go_meet
      exact ⟨by rw [HLo.out]; rfl, ext_drewN E2 _, ext_drewN (Below.refl _ _) _⟩
    | true =>
      rw [h13] at HLo
      cases xs with
      | true =>
        clear m0 m1 m2 m3 e0 e1 e2 e3 e4 e5 e6 e7 e8 e9 e10 e11 e12 e13 e14 e15 e16 f0 f1 f2 r0 r1 r2
        go_quiet (fail)
        go_wp2_with fail
        go_meet
        exact ⟨by rw [HLo.out]; rfl, ext_drewN E2 _, ext_drewN (Below.refl _ _) _⟩
      | false =>
        clear k0 k1
        have F2 : Below w2.heap.size w2 w2 := Below.refl _ _
        have ge1 := fun w' (hb : Below w2.heap.size w2 w') => e1 w' (ext_trans E2 hb)
        have gf1 := fun w' (hb : Below w2.heap.size w2 w') => f1 w' (ext_trans E2 hb)
        have gf2 := fun w' (hb : Below w2.heap.size w2 w') => f2 w' (ext_trans E2 hb)
        have gm0 := fun w' (hb : Below w2.heap.size w2 w') => m0 w' (ext_trans E2 hb)
        have gm1 := fun w' (hb : Below w2.heap.size w2 w') => m1 w' (ext_trans E2 hb)
        have gm2 := fun w' (hb : Below w2.heap.size w2 w') => m2 w' (ext_trans E2 hb)
        have gm3 := fun w' (hb : Below w2.heap.size w2 w') => m3 w' (ext_trans E2 hb)
        clear m0 m1 m2 m3 e0 e1 e2 e3 e4 e5 e6 e7 e8 e9 e10 e11 e12 e13 e14 e15 e16 f0 f1 f2 r0 r1 r2
        go_region_held3 (fun w' => Below w2.heap.size w2 w')
          (first
            | exact ext_drewN (Below.refl _ _) 1
            | exact ext_trans (by assumption) hb4
            | assumption)
          (first
            | (go_at_call 70
               refine (lost05_any m a1 a2 n1 c1 n2 c2 _ (((HM.out.ext HW0.out).ext E2).ext (by assumption))).mono ?_
               rintro e w4 ⟨ga, gc, rfl, _, hg4, hb4⟩)
            | (go_at_call 69
               refine (has30_any ga _ gc (lost5L m) xn _ hg4).mono ?_
               rintro e w5 ⟨rfl, rfl⟩))
        go_wp2_with fail
        go_meet
        exact ⟨by rw [HLo.out]; rfl, ext_trans E2 (by assumption), by assumption⟩
  case rest =>
    obtain ⟨rfl, HE3, HF3⟩ := hcut
    obtain ⟨w3, rfl⟩ : ∃ w3, w3 = wc := ⟨_, rfl⟩
    have E3 : Below W0.heap.size W0 w3 := HE3.out
    have HL3 := Lib.hid (HL.out.ext locC_len HF3.out)
    generalize lost30 m s.d x.2 = lo at *
    generalize hown : own30 s.d x = own at *
    go_upto_region 12 with fail
    go_cut [94] (fun s94 wx => s94 = .bool (own && first30 ws x.2) ∧ Hid (Below w3.heap.size w3 wx))
    case first =>
      have k0 := f0 w3 E3
      have k1 := f1 w3 E3
      have k2 := f2 w3 E3
      clear m0 m1 m2 m3 e0 e1 e2 e3 e4 e5 e6 e7 e8 e9 e10 e11 e12 e13 e14 e15 e16 f0 f1 f2 r0 r1 r2
      cases own with
      | false =>
        have hw := and_false_way HOwn.out
        rcases hw with d0 | ⟨d0, d1⟩
        all_goals
          go_quiet (fail)
          go_wp2_with fail
          go_meet
          exact ⟨rfl, ext_drewN (Below.refl _ _) _⟩
      | true =>
        have hw := and_true_way HOwn.out
        obtain ⟨d0, d1⟩ := hw
        cases ws with
        | nil =>
          have h00 : decide ((0 : Int) < ((([] : List (Bool × Int)).length : Nat) : Int)) = false := rfl
          go_quiet (fail)
          go_wp2_with fail
          go_meet
          exact ⟨rfl, ext_drewN (Below.refl _ _) _⟩
        | cons l0 ws =>
          obtain ⟨r, b, o, hr, rfl, c0, c1⟩ := locs_cells HL3.out (k := 0) (by simp)
          obtain rfl : l0 = r := by simpa using hr
          simp only [Nat.zero_mul, Nat.add_zero] at c0 c1
          have hl0 : (0 : Int) < (((l0 :: ws).length : Nat) : Int) := by simp
          have hd0 : decide ((0 : Int) < (((l0 :: ws).length : Nat) : Int)) = true := by simp
          have hl1 : 0 < (l0 :: ws).length := by simp
          have HFI : Hid (first30 (l0 :: ws) x.2 = sameLoc (x.2.1, x.2.2) (l0.1, l0.2)) := rfl
          have hq0 : ∀ w, (binOp .eql 33 (.agg #[.bool x.2.1, .int .i64 x.2.2]) (.agg #[.bool l0.1, .int .i64 l0.2])).run Try.prog w = .ok (.bool (sameLoc (x.2.1, x.2.2) (l0.1, l0.2))) w := fun w => eql_loc w x.2.1 l0.1 x.2.2 l0.2
          generalize (l0 :: ws).length = L at *
          go_quiet (fail)
          go_wp2_with fail
          go_meet
          exact ⟨by rw [HFI.out]; rfl, ext_drewN (Below.refl _ _) _⟩
    case rest =>
      obtain ⟨rfl, HX⟩ := hcut
      obtain ⟨w4, rfl⟩ : ∃ w4, w4 = wc := ⟨_, rfl⟩
      have E4 : Below W0.heap.size W0 w4 := ext_trans E3 HX.out
      have HL4 := Lib.hid (HL3.out.ext locC_len HX.out)
      generalize hq1 : (own && first30 ws x.2) = q1 at *
      cases q1 with
      | true =>
        have rr0 := r0 w4 E4
        have rr1 := r1 w4 E4
        have rr2 := r2 w4 E4
        have zr0 := zr w4 0 E4
        have zr1 := zr w4 1 E4
        have zr2 := zr w4 2 E4
        have hRlt1 : w.heap.size + 1 + 1 + 1 < w4.heap.size := by have := (ext_trans E0 E4).size; omega
        go_wp2
        refine bodyPost_ret (v := .tuple #[.int .i64 1, .agg #[.int .i64 0, .bool false, .int .i64 0]]) ?_ rfl ⟨by rw [HAsk.out]; rfl, ?_⟩
        · simp [results, Try.results52, go_sem, rr0, rr1, rr2]
        · exact below3 (ext_trans HW0.out E4) (by omega)
      | false =>
        cases own with
        | true =>
          have hw := and_true_way HOwn.out
          obtain ⟨d0, d1⟩ := hw
          have rr0 := r0 w4 E4
          have rr1 := r1 w4 E4
          have rr2 := r2 w4 E4
          have zr0 := zr w4 0 E4
          have zr1 := zr w4 1 E4
          have zr2 := zr w4 2 E4
          have hRlt1 : w.heap.size + 1 + 1 + 1 < w4.heap.size := by have := (ext_trans E0 E4).size; omega
          go_wp2
          refine bodyPost_ret (v := .tuple #[.int .i64 2, .agg #[.int .i64 0, .bool false, .int .i64 0]]) ?_ rfl ⟨by rw [HAsk.out]; rfl, ?_⟩
          · simp [results, Try.results52, go_sem, rr0, rr1, rr2]
          · exact below3 (ext_trans HW0.out E4) (by omega)
        | false =>
          have hw := and_false_way HOwn.out
          go_upto_region 14 with fail
          go_cut [112] (fun s112 wx => s112 = .bool (holdsB ws x.2 || lo) ∧ Hid (Below w4.heap.size w4 wx))
          case first =>
            have k0 := f0 w4 E4
            have k1 := f1 w4 E4
            have k2 := f2 w4 E4
            clear m0 m1 m2 m3 e0 e1 e2 e3 e4 e5 e6 e7 e8 e9 e10 e11 e12 e13 e14 e15 e16 f0 f1 f2 r0 r1 r2
            generalize hho : holdsB ws x.2 = ho at *
            rcases hw with d0 | ⟨d0, d1⟩
            all_goals
              cases ho
              all_goals
                go_wp2_with (go_at_call 71; refine (holds_any la _ lc ws x.2 _ HL4.out).mono ?_; rw [hho]; rintro e w5 ⟨rfl, hb5⟩)
                go_meet
                exact ⟨rfl, hb5⟩
          case rest =>
            obtain ⟨rfl, HY⟩ := hcut
            obtain ⟨w5, rfl⟩ : ∃ w5, w5 = wc := ⟨_, rfl⟩
            have E5 : Below W0.heap.size W0 w5 := ext_trans E4 HY.out
            have HA2 : Hid (ask30V m (Ev30.mk 3 s t) x = if (holdsB ws x.2 || lo) = true then (2, (0, false, 0)) else (3, x)) := by rw [Hid, HAsk.out]; simp
            generalize (holdsB ws x.2 || lo) = q2 at *
            have rr0 := r0 w5 E5
            have rr1 := r1 w5 E5
            have rr2 := r2 w5 E5
            have zr0 := zr w5 0 E5
            have zr1 := zr w5 1 E5
            have zr2 := zr w5 2 E5
            have hRlt1 : w.heap.size + 1 + 1 + 1 < w5.heap.size := by have := (ext_trans E0 E5).size; omega
            have k0 := f0 w5 E5
            have k1 := f1 w5 E5
            have k2 := f2 w5 E5
            cases q2 with
            | true =>
              go_wp2
              refine bodyPost_ret (v := .tuple #[.int .i64 2, .agg #[.int .i64 0, .bool false, .int .i64 0]]) ?_ rfl ⟨by rw [HA2.out]; rfl, ?_⟩
              · simp [results, Try.results52, go_sem, rr0, rr1, rr2]
              · exact below3 (ext_trans HW0.out E5) (by omega)
            | false =>
              go_wp2
              go_region
              all_goals
                go_wp2
                refine bodyPost_ret (v := .tuple #[.int .i64 3, .agg #[.int .i64 x.1, .bool x.2.1, .int .i64 x.2.2]]) ?_ rfl ⟨by rw [HA2.out]; rfl, ?_⟩
                · simp [results, Try.results52, go_sem, rr0, rr1, rr2]
                · exact ext_drewN (below3 (ext_trans HW0.out E5) (by omega)) 1
end Go.Proofs.Ytdoahpblphlabaa
