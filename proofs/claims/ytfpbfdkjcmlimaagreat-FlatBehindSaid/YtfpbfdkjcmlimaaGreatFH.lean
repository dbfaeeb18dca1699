/-
  Flat: ir.none, the closure of IsIns.
-/
import Derived.Test.YtfpbfdkjcmlimaaGreatFF
import Derived.Outline
import Derived.Deep.Light
namespace Go.Proofs.YtfpbfdkjcmlimaaGreat
set_option linter.unusedSimpArgs false
set_option linter.unusedVariables false
set_option linter.unusedSectionVars false
set_option maxRecDepth 100000
set_option maxHeartbeats 40000000
section
open Go.RowKit
theorem none1_any (x : Int) (w : World) : Calls Tryz.prog 98 #[.int .i64 x] w fun e w' => e = .returned (.bool (x != 0)) ∧ w = w' := by
  go_enter Tryz.func98, Tryz.ntmps98
  go_wp2
  go_ret
  exact ⟨rfl, rfl⟩
theorem call_none1 (args : Array Value) (w : World) : (callFunc 98 args).run Tryz.prog w = .ok (.enter 98 args) w := by kernel_rfl
def noneB (xs : List Int) : Bool := !xs.any (fun x => x != 0)
theorem none_any (a : Option Addr) (n c : Nat) (xs : List Int) (w : World) (h : Ints w a n xs) :
    Calls Tryz.prog 83 #[.slice a n c] w fun e w' => e = .returned (.bool (noneB xs)) ∧ w = w' := by
  have H := Lib.hid h
  clear h
  go_enter Tryz.func83, Tryz.ntmps83
  go_wp2_with (go_at_call 85; refine (containsFunc_any _ call_none1 (fun x => x != 0) none1_any a n c xs w H.out).mono ?_; rintro e w' ⟨rfl, rfl⟩)
  go_ret
  exact ⟨rfl, rfl⟩
theorem odd1_any (x : Int) (w : World) : Calls Tryz.prog 81 #[.int .i64 x] w fun e w' => e = .returned (.bool (!varB x)) ∧ w = w' := by
  go_enter Tryz.func81, Tryz.ntmps81
  go_wp2_with (go_at_call 82; refine (variable_any _ _).mono ?_; rintro e w' ⟨rfl, rfl⟩)
  go_ret
  exact ⟨rfl, rfl⟩
theorem call_odd1 (args : Array Value) (w : World) : (callFunc 81 args).run Tryz.prog w = .ok (.enter 81 args) w := by kernel_rfl
end

section
open Go.RowKit
def isInsB (i : InsD) : Bool :=
  let s := shapeD i.op
  if !s.2 || i.many != 0 then false
  else if s.1.2.2.2.2 then noneB [i.a, i.b, i.imm] && decide (0 ≤ i.callee ∧ i.callee ≤ 99) && fitsB (i.dst != 0) i.dst && decide (i.args.length ≤ 8) && !i.args.any (fun x => !varB x)
  else if (!s.1.2.2.2.1 && i.imm != 0) || decide (i.imm < -1099511627776) || decide (i.imm > 1099511627776) then false
  else i.callee == 0 && i.args.length == 0 && fitsB s.1.1 i.dst && fitsB s.1.2.1 i.a && fitsB s.1.2.2.1 i.b
theorem three_ints (X : World) (H : Nat) (hH : X.heap.size = H) (x y z : Int) (hx : I64 x) (hy : I64 y) (hz : I64 z) (t : TypeId) : Ints (X.alloc (.cells #[.int .i64 x, .int .i64 y, .int .i64 z] t)) (some ⟨H, 0, none⟩) 3 [x, y, z] := by
  subst hH
  refine ⟨rfl, by omega, fun k hk => ?_⟩
  match k, hk with
  | 0, _ => exact ⟨X.heap.size, 0, rfl, by rw [cell_of_row _ _ _ _ _ _ (heap_alloc_new X _)]; rfl, hx⟩
  | 1, _ => exact ⟨X.heap.size, 0, rfl, by rw [cell_of_row _ _ _ _ _ _ (heap_alloc_new X _)]; rfl, hy⟩
  | 2, _ => exact ⟨X.heap.size, 0, rfl, by rw [cell_of_row _ _ _ _ _ _ (heap_alloc_new X _)]; rfl, hz⟩
theorem u64_small (x : Int) (h1 : -9223372036854775808 ≤ x) (h2 : x ≤ 9223372036854775807) : IntKind.u64.wrap x ≤ 99 ↔ (0 ≤ x ∧ x ≤ 99) := by
  have e : IntKind.u64.wrap x = x % 18446744073709551616 := rfl
  rw [e]
  omega
theorem isIns_at {i : InsD} {x : (Bool × Bool × Bool × Bool × Bool) × Bool} (h : shapeD i.op = x) : isInsB i = (if !x.2 || i.many != 0 then false
  else if x.1.2.2.2.2 then noneB [i.a, i.b, i.imm] && decide (0 ≤ i.callee ∧ i.callee ≤ 99) && fitsB (i.dst != 0) i.dst && decide (i.args.length ≤ 8) && !i.args.any (fun x => !varB x)
  else if (!x.1.2.2.2.1 && i.imm != 0) || decide (i.imm < -1099511627776) || decide (i.imm > 1099511627776) then false
  else i.callee == 0 && i.args.length == 0 && fitsB x.1.1 i.dst && fitsB x.1.2.1 i.a && fitsB x.1.2.2.1 i.b) := by rw [isInsB, h]
theorem isIns_call (i : InsD) (aa : Option Addr) (na ca : Nat) (w : World) (h : Ints w aa na i.args) (h1 : I64 i.a) (h2 : I64 i.b) (h3 : I64 i.imm) (h4 : I64 i.callee) (ho : shapeD i.op = ((false, false, false, false, true), true)) :
    Calls Tryz.prog 73 #[insV i aa na ca] w fun e w' => e = .returned (.bool (isInsB i)) ∧ Below w.heap.size w w' := by
  have HS := Lib.hid ho
  have H := Lib.hid h
  have HLA := Lib.hid h.1
  have H1 := Lib.hid h1
  have H2 := Lib.hid h2
  have H3 := Lib.hid h3
  have hna := h.2.1
  obtain ⟨h4, h5⟩ := h4
  clear h h1 h2 h3 ho
  go_enter Tryz.func73, Tryz.ntmps73
  go_wp2_with (first
    | (go_at_call 80
       refine (shaped_any _ _).mono ?_
       rw [HS.out, shapeV]
       rintro e w1 ⟨rfl, hb1⟩
       have hx := hb1.block w.heap.size (by simp)
       rw [heap_alloc_new w _] at hx
       have c1 : w1.cell? ⟨w.heap.size, 1, none⟩ = some (.int .i64 i.dst) := by rw [cell_of_row _ _ _ _ _ _ hx]; rfl
       have c2 : w1.cell? ⟨w.heap.size, 2, none⟩ = some (.int .i64 i.a) := by rw [cell_of_row _ _ _ _ _ _ hx]; rfl
       have c3 : w1.cell? ⟨w.heap.size, 3, none⟩ = some (.int .i64 i.b) := by rw [cell_of_row _ _ _ _ _ _ hx]; rfl
       have c4 : w1.cell? ⟨w.heap.size, 4, none⟩ = some (.int .i64 i.imm) := by rw [cell_of_row _ _ _ _ _ _ hx]; rfl
       have c5 : w1.cell? ⟨w.heap.size, 5, none⟩ = some (.int .i64 i.callee) := by rw [cell_of_row _ _ _ _ _ _ hx]; rfl
       have c6 : w1.cell? ⟨w.heap.size, 6, none⟩ = some (.slice aa na ca) := by rw [cell_of_row _ _ _ _ _ _ hx]; rfl
       have c7 : w1.cell? ⟨w.heap.size, 7, none⟩ = some (.int .i64 i.many) := by rw [cell_of_row _ _ _ _ _ _ hx]; rfl
       have HB1 := Lib.hid (ext_trans (ext_alloc w _) hb1)
       have hl1 : w.heap.size < w1.heap.size := by have := hb1.size; simp at this; omega
       clear hx hb1)
    | (go_at_call 83
       refine (none_any _ 3 3 [i.a, i.b, i.imm] _ (three_ints _ _ (by simp) _ _ _ H1.out H2.out H3.out _)).mono ?_
       rintro e w2 ⟨rfl, rfl⟩)
    | (go_at_call 84
       refine (fits_any _ _ _).mono ?_
       rintro e w2 ⟨rfl, rfl⟩)
    | (go_at_call 85
       refine (containsFunc_any _ call_odd1 (fun x => !varB x) odd1_any aa na ca i.args _ (H.out.ext (ext_trans HB1.out (ext_trans (ext_alloc _ _) (ext_alloc _ _))))).mono ?_
       rintro e w2 ⟨rfl, rfl⟩))
  all_goals
    go_ret
    refine ⟨ret_bool ?_, ?_⟩
    · go_light
      rw [isIns_at HS.out, HLA.out]
      simp only [← u64_small i.callee h4 h5]
      simp [*]
      try omega
    · first
      | exact ext_trans HB1.out (ext_trans (ext_alloc _ _) (ext_alloc _ _))
      | exact ext_trans HB1.out (ext_alloc _ _)
      | exact HB1.out
theorem isIns_rest (i : InsD) (aa : Option Addr) (na ca : Nat) (w : World) (h : Ints w aa na i.args) (h1 : I64 i.a) (h2 : I64 i.b) (h3 : I64 i.imm) (h4 : I64 i.callee) (d a b m is : Bool) (ho : shapeD i.op = ((d, a, b, m, false), is)) :
    Calls Tryz.prog 73 #[insV i aa na ca] w fun e w' => e = .returned (.bool (isInsB i)) ∧ Below w.heap.size w w' := by
  have HS := Lib.hid ho
  have H := Lib.hid h
  have HLA := Lib.hid h.1
  have H1 := Lib.hid h1
  have H2 := Lib.hid h2
  have H3 := Lib.hid h3
  have hna := h.2.1
  obtain ⟨h4, h5⟩ := h4
  clear h h1 h2 h3 ho
  go_enter Tryz.func73, Tryz.ntmps73
  go_wp2_with (first
    | (go_at_call 80
       refine (shaped_any _ _).mono ?_
       rw [HS.out, shapeV]
       rintro e w1 ⟨rfl, hb1⟩
       have hx := hb1.block w.heap.size (by simp)
       rw [heap_alloc_new w _] at hx
       have c1 : w1.cell? ⟨w.heap.size, 1, none⟩ = some (.int .i64 i.dst) := by rw [cell_of_row _ _ _ _ _ _ hx]; rfl
       have c2 : w1.cell? ⟨w.heap.size, 2, none⟩ = some (.int .i64 i.a) := by rw [cell_of_row _ _ _ _ _ _ hx]; rfl
       have c3 : w1.cell? ⟨w.heap.size, 3, none⟩ = some (.int .i64 i.b) := by rw [cell_of_row _ _ _ _ _ _ hx]; rfl
       have c4 : w1.cell? ⟨w.heap.size, 4, none⟩ = some (.int .i64 i.imm) := by rw [cell_of_row _ _ _ _ _ _ hx]; rfl
       have c5 : w1.cell? ⟨w.heap.size, 5, none⟩ = some (.int .i64 i.callee) := by rw [cell_of_row _ _ _ _ _ _ hx]; rfl
       have c6 : w1.cell? ⟨w.heap.size, 6, none⟩ = some (.slice aa na ca) := by rw [cell_of_row _ _ _ _ _ _ hx]; rfl
       have c7 : w1.cell? ⟨w.heap.size, 7, none⟩ = some (.int .i64 i.many) := by rw [cell_of_row _ _ _ _ _ _ hx]; rfl
       have HB1 := Lib.hid (ext_trans (ext_alloc w _) hb1)
       have hl1 : w.heap.size < w1.heap.size := by have := hb1.size; simp at this; omega
       clear hx hb1)
    | (go_at_call 83
       refine (none_any _ 3 3 [i.a, i.b, i.imm] _ (three_ints _ _ (by simp) _ _ _ H1.out H2.out H3.out _)).mono ?_
       rintro e w2 ⟨rfl, rfl⟩)
    | (go_at_call 84
       refine (fits_any _ _ _).mono ?_
       rintro e w2 ⟨rfl, rfl⟩)
    | (go_at_call 85
       refine (containsFunc_any _ call_odd1 (fun x => !varB x) odd1_any aa na ca i.args _ (H.out.ext (ext_trans HB1.out (ext_trans (ext_alloc _ _) (ext_alloc _ _))))).mono ?_
       rintro e w2 ⟨rfl, rfl⟩))
  all_goals
    go_ret
    refine ⟨ret_bool ?_, ?_⟩
    · go_light
      rw [isIns_at HS.out, HLA.out]
      simp only [← u64_small i.callee h4 h5]
      simp [*]
      try omega
    · first
      | exact ext_trans HB1.out (ext_trans (ext_alloc _ _) (ext_alloc _ _))
      | exact ext_trans HB1.out (ext_alloc _ _)
      | exact HB1.out
theorem isIns_any (i : InsD) (aa : Option Addr) (na ca : Nat) (w : World) (h : Ints w aa na i.args) (h1 : I64 i.a) (h2 : I64 i.b) (h3 : I64 i.imm) (h4 : I64 i.callee) :
    Calls Tryz.prog 73 #[insV i aa na ca] w fun e w' => e = .returned (.bool (isInsB i)) ∧ Below w.heap.size w w' := by
  match ho : shapeD i.op with
  | ((d, a, b, m, false), is) => exact isIns_rest i aa na ca w h h1 h2 h3 h4 d a b m is ho
  | ((d, a, b, m, true), is) =>
    refine isIns_call i aa na ca w h h1 h2 h3 h4 ?_
    unfold shapeD at ho ⊢
    split
    · rfl
    · rename_i h0
      rw [if_neg h0] at ho
      exfalso
      revert ho
      repeat' split
      all_goals simp
end
end Go.Proofs.YtfpbfdkjcmlimaaGreat
