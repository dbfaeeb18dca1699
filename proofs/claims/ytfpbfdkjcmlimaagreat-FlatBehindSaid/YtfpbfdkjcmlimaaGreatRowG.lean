/-
  Facts as keys of maps; slices of facts; a set of facts as a map.
-/
import Derived.Test.YtfpbfdkjcmlimaaGreatSetM
import Derived.Test.YtfpbfdkjcmlimaaGreatFP
import Derived.Test.YtfpbfdkjcmlimaaGreatOwnR
import Derived.Test.YtfpbfdkjcmlimaaGreatMix
import Derived.BigQuiet
namespace Go.Proofs.YtfpbfdkjcmlimaaGreat
set_option linter.unusedSimpArgs false
set_option linter.unusedVariables false
set_option linter.unusedSectionVars false
set_option maxRecDepth 100000
set_option maxHeartbeats 40000000
section
open Go.RowKit
abbrev Fct := Int × Bool × Int
def decF (v : Value) : Fct := match v with
  | .agg ⟨[.int _ v, .bool s, .int _ n]⟩ => (v, s, n)
  | _ => (0, false, 0)
theorem dec_fct (x : Fct) : decF (fctV x) = x := rfl
theorem sameFact_iff (x y : Fct) : sameFact x y = true ↔ x = y := by
  obtain ⟨a, b, c⟩ := x
  obtain ⟨a', b', c'⟩ := y
  simp [sameFact]
theorem checkKey_int (em : Bool) (n : Nat) (x : Int) (w : World) : (Instr.checkKey em (n + 1) 3 (.int .i64 x)).run Tryz.prog w = .ok () w := by
  simp [Instr.checkKey, run_underlying Tryz.underlying3]
theorem checkKey_bool (em : Bool) (n : Nat) (x : Bool) (w : World) : (Instr.checkKey em (n + 1) 4 (.bool x)).run Tryz.prog w = .ok () w := by
  simp [Instr.checkKey, run_underlying Tryz.underlying4]
theorem checkKey_two (em : Bool) (n : Nat) (t : TypeId) (cs : Array Value) (w : World) (hu : Tryz.prog.underlying t = some (.struct (Tryz.prog.fieldsOf t))) (n0 n1 : String) (t0 t1 : TypeId) (o0 o1 : Nat)
    (hf : (Tryz.prog.fieldsOf t).toList.map (fun f => (f.name, f.type, f.offset)) = [(n0, t0, o0), (n1, t1, o1)]) (h0 : n0 ≠ "_") (h1 : n1 ≠ "_") (x0 x1 : Value)
    (p0 : (part t0 cs o0).run Tryz.prog w = .ok x0 w) (p1 : (part t1 cs o1).run Tryz.prog w = .ok x1 w) (k0 : (Instr.checkKey em n t0 x0).run Tryz.prog w = .ok () w) (k1 : (Instr.checkKey em n t1 x1).run Tryz.prog w = .ok () w) :
    (Instr.checkKey em (n + 1) t (.agg cs)).run Tryz.prog w = .ok () w := by
  generalize hF : Tryz.prog.fieldsOf t = F at hf hu
  obtain ⟨L⟩ := F
  simp only at hf
  match L, hf with
  | [f, g], hf =>
    simp only [List.map_cons, List.map_nil, List.cons.injEq, Prod.mk.injEq, and_true] at hf
    obtain ⟨⟨rfl, rfl, rfl⟩, ⟨rfl, rfl, rfl⟩⟩ := hf
    simp [Instr.checkKey, run_underlying hu, h0, h1, p0, p1, k0, k1, Result.andThen]
theorem keyF : KeyT Tryz.prog 36 fctV decF where
  under := ⟨_, under_fact, fun x e l i => rfl⟩
  check em x w := by
    refine checkKey_two em 9999 _ _ w under_fact _ _ _ _ _ _ fields_fact (by decide) (by decide) (.int .i64 x.1) (.agg #[.bool x.2.1, .int .i64 x.2.2]) (part_int _ _ _ w rfl) (part_loc _ _ _ _ w rfl) (checkKey_int _ _ _ w) ?_
    exact checkKey_two em 9998 _ _ w under_loc _ _ _ _ _ _ fields_loc (by decide) (by decide) (.bool x.2.1) (.int .i64 x.2.2) (part_bool _ _ _ w rfl) (part_int _ _ _ w rfl) (checkKey_bool _ _ _ w) (checkKey_int _ _ _ w)
  eql x y w := ⟨sameFact x y, equal_fact w x y, sameFact_iff x y⟩
  bits x := by
    obtain ⟨a, b, c⟩ := x
    have h : ∀ n (v : Value), (∃ k a, v = .int k a) ∨ (∃ b, v = .bool b) → Instr.sameBits n v v = true := fun n v h => by
      rcases h with ⟨k, a, rfl⟩ | ⟨b, rfl⟩ <;> cases n <;> simp [Instr.sameBits]
    show ((3 == 3) && _) = true
    simp only [List.zip_cons_cons, List.zip_nil_right, List.all_cons, List.all_nil]
    rw [h _ _ (.inl ⟨_, _, rfl⟩), h _ _ (.inr ⟨_, rfl⟩), h _ _ (.inl ⟨_, _, rfl⟩)]
    rfl
  dec := dec_fct
theorem mapT : Tryz.prog.underlying 59 = some (.map 36 3) := Tryz.underlying59
abbrev oneV : Value := .int .i64 1
abbrev FSet (w : World) (b : Nat) (L : List Fct) : Prop := SetM fctV decF oneV w b L
abbrev FIter (w : World) (b r : Nat) (L R : List Fct) : Prop := SetI fctV decF oneV w b r L R
def csF (x : Fct) : List Value := [.int .i64 x.1, .bool x.2.1, .int .i64 x.2.2]
theorem csF_len (x : Fct) : (csF x).length = 3 := rfl
abbrev OwnF (w : World) (base : Nat) (v : Value) (l : List Fct) : Prop := OwnR 36 3 csF w base v l
abbrev FctS (w : World) (a : Option Addr) (n : Nat) (l : List Fct) : Prop := Recs 3 csF w a n l
theorem infoF : (Tryz.prog.info? 36).map (fun i => (i.zero, i.size, i.bytes)) = some (some (.agg #[.int .i64 0, .bool false, .int .i64 0]), 3, 24) := by kernel_rfl
theorem csF_one (l : List Fct) : ∀ u ∈ l.flatMap csF, u.oneCell' = true := by
  intro u hu
  simp only [List.mem_flatMap, csF] at hu
  obtain ⟨x, _, hx⟩ := hu
  simp only [List.mem_cons, List.not_mem_nil, or_false] at hx
  rcases hx with rfl | rfl | rfl <;> rfl
end

section
section
variable {P : Program} {ops : Array Oper} {rest : List Oper} {o : Oper} {a : Act}
theorem wpList_load_rowW {w : World} {Q : Exit → Act → World → Prop} (hw : Region.wanted o (yielded ops a.tmps) = true) (ty : TypeId) (x : Operand) (ho : o.op = .load ty x)
    (g : Nat) (hx : a.eval x = .pointer (some ⟨g, 0, none⟩)) (t : TypeId) (cs : Array Value) (fr : Nat × Nat) (d : TypeDesc) (hg : w.heap[g]? = some (.cells cs t fr))
    (hu : P.underlying ty = some d) (hd : (match d with | .struct _ | .array _ _ => true | _ => false) = true) (hi : (P.info? ty).map (·.size) = some cs.size)
    (h : wpList P ops Q rest (a.put o.dst (.agg cs)) w) : wpList P ops Q (o :: rest) a w :=
  BigFrame.wpList_want hw fun _ hK => wp_load_row ty x ho g hx t cs fr d hg hu hd hi (hK _ _ h)
theorem wpQuiet_load_row {C : World → Prop} {Q : Act → Prop} (hw : Region.wanted o (yielded ops a.tmps) = true) (ty : TypeId) (x : Operand) (ho : o.op = .load ty x)
    (g : Nat) (hx : a.eval x = .pointer (some ⟨g, 0, none⟩)) (t : TypeId) (cs : Array Value) (fr : Nat × Nat) (d : TypeDesc) (hg : ∀ w, C w → w.heap[g]? = some (.cells cs t fr))
    (hu : P.underlying ty = some d) (hd : (match d with | .struct _ | .array _ _ => true | _ => false) = true) (hi : (P.info? ty).map (·.size) = some cs.size)
    (h : wpQuiet P ops C Q rest (a.put o.dst (.agg cs))) : wpQuiet P ops C Q (o :: rest) a :=
  BigFrame.wpQuiet_want hw fun _ hK => ⟨.agg cs, fun w hC => by
    unfold Oper.quietAt execOp
    simp only [ho, hx, Instr.loadAt, Instr.sureAddr, Sem.run_bind, Sem.run_pure, Result.andThen_ok, run_loadVar_row w g t ty cs fr d (hg w hC) hu hd hi]
    exact ⟨rfl, rfl⟩, hK _ h⟩
end
end
end Go.Proofs.YtfpbfdkjcmlimaaGreat
