/-
  Flat: places and facts compared; slices.Index, Contains of places.
-/
import Derived.Test.YtdoahpblphlabaaFO
import Derived.Test.YtdoahpblphlabaaIdx
namespace Go.Proofs.Ytdoahpblphlabaa
set_option linter.unusedSimpArgs false
set_option linter.unusedVariables false
open Go.RowKit

theorem fields_loc : (Try.prog.fieldsOf 33).toList.map (fun f => (f.name, f.type, f.offset)) = [("Slot", 4, 0), ("N", 3, 1)] := by kernel_rfl
theorem under_loc : Try.prog.underlying 33 = some (.struct (Try.prog.fieldsOf 33)) := by kernel_rfl
theorem stood_loc : Try.prog.stoodInHeld 33 = false := by kernel_rfl
theorem under_fact : Try.prog.underlying 35 = some (.struct (Try.prog.fieldsOf 35)) := by kernel_rfl
theorem stood_fact : Try.prog.stoodInHeld 35 = false := by kernel_rfl
theorem fields_fact : (Try.prog.fieldsOf 35).toList.map (fun f => (f.name, f.type, f.offset)) = [("Var", 3, 0), ("At", 33, 1)] := by kernel_rfl
/-- two fields, compared -/
theorem eqFields2 (w : World) (d : Nat) (xs ys : Array Value) (fs : List Field) (n0 n1 : String) (t0 t1 : TypeId) (o0 o1 : Nat) (hf : fs.map (fun f => (f.name, f.type, f.offset)) = [(n0, t0, o0), (n1, t1, o1)]) (h0 : n0 ≠ "_") (h1 : n1 ≠ "_")
    (x0 y0 x1 y1 : Value) (b0 b1 : Bool) (px0 : (part t0 xs o0).run Try.prog w = .ok x0 w) (py0 : (part t0 ys o0).run Try.prog w = .ok y0 w) (px1 : (part t1 xs o1).run Try.prog w = .ok x1 w) (py1 : (part t1 ys o1).run Try.prog w = .ok y1 w)
    (e0 : (Op.equalIn d t0 x0 y0).run Try.prog w = .ok b0 w) (e1 : (Op.equalIn d t1 x1 y1).run Try.prog w = .ok b1 w) : (Op.eqFields d xs ys fs).run Try.prog w = .ok (b0 && b1) w := by
  match fs, hf with
  | [f, g], hf =>
    simp only [List.map_cons, List.map_nil, List.cons.injEq, Prod.mk.injEq, and_true] at hf
    obtain ⟨⟨rfl, rfl, rfl⟩, ⟨rfl, rfl, rfl⟩⟩ := hf
    simp only [Op.eqFields, Sem.run_bind, Sem.run_ite, h0, h1, ne_eq, not_false_eq_true, if_true, px0, py0, e0, Result.andThen_ok]
    cases b0 with
    | false => simp
    | true => cases b1 <;> simp [px1, py1, e1]
theorem equal_loc (w : World) (d : Nat) (b b' : Bool) (x y : Int) : (Op.equalIn (d + 2) 33 (.agg #[.bool b, .int .i64 x]) (.agg #[.bool b', .int .i64 y])).run Try.prog w = .ok (b == b' && x == y) w := by
  rw [run_equalIn_struct w (d + 1) _ _ _ under_loc stood_loc]
  exact eqFields2 w (d + 1) _ _ _ _ _ _ _ _ _ fields_loc (by decide) (by decide) (.bool b) (.bool b') (.int .i64 x) (.int .i64 y) _ _ (part_bool _ _ _ w rfl) (part_bool _ _ _ w rfl) (part_int _ _ _ w rfl) (part_int _ _ _ w rfl) (run_equalIn_bool' w d _ b b' Try.underlying4) (run_equalIn_int w d _ .i64 .i64 x y Try.underlying3)
theorem part_loc (cs : Array Value) (o : Nat) (u v : Value) (w : World) (h : cs.extract o (o + 2) = #[u, v]) : (part 33 cs o).run Try.prog w = .ok (.agg #[u, v]) w := by
  have hu : (underlying 33).run Try.prog w = .ok (.struct (Try.prog.fieldsOf 33)) w := run_underlying under_loc w
  obtain ⟨i, hi, -, hs, -⟩ := info_parts info_loc
  have hz : (sizeOf 33).run Try.prog w = .ok 2 w := by simp [sizeOf, typeInfo, hi, hs]
  simp [part, isAgg, hu, hz, h]
/-- a fact: a variable, a place -/
abbrev factV (x : Int × Bool × Int) : Value := .agg #[.int .i64 x.1, .bool x.2.1, .int .i64 x.2.2]
def sameFact (x y : Int × Bool × Int) : Bool := x.1 == y.1 && (x.2.1 == y.2.1 && x.2.2 == y.2.2)
theorem equal_fact (w : World) (x y : Int × Bool × Int) : (Op.equalIn 10000 35 (factV x) (factV y)).run Try.prog w = .ok (sameFact x y) w := by
  rw [run_equalIn_struct w 9999 _ _ _ under_fact stood_fact]
  exact eqFields2 w 9999 _ _ _ _ _ _ _ _ _ fields_fact (by decide) (by decide) (.int .i64 x.1) (.int .i64 y.1) (.agg #[.bool x.2.1, .int .i64 x.2.2]) (.agg #[.bool y.2.1, .int .i64 y.2.2]) _ _ (part_int _ _ _ w rfl) (part_int _ _ _ w rfl) (part_loc _ _ _ _ w rfl) (part_loc _ _ _ _ w rfl) (run_equalIn_int w 9998 _ .i64 .i64 _ _ Try.underlying3) (equal_loc w 9997 _ _ _ _)
def sameLoc (x y : Bool × Int) : Bool := x.1 == y.1 && x.2 == y.2
theorem eql_loc (w : World) (b b' : Bool) (x y : Int) : (binOp .eql 33 (.agg #[.bool b, .int .i64 x]) (.agg #[.bool b', .int .i64 y])).run Try.prog w = .ok (.bool (sameLoc (b, x) (b', y))) w := by
  rw [run_eql_struct, equal_loc w 9998]
  rfl
theorem neq_fact (w : World) (x y : Int × Bool × Int) : (binOp .neq 35 (factV x) (factV y)).run Try.prog w = .ok (.bool (!sameFact x y)) w := by
  rw [run_neq_struct, equal_fact w]
  rfl
theorem eql_fact (w : World) (x y : Int × Bool × Int) : (binOp .eql 35 (factV x) (factV y)).run Try.prog w = .ok (.bool (sameFact x y)) w := by
  rw [run_eql_struct, equal_fact w]
  rfl

theorem locs_cells {w : World} {a : Option Addr} {n : Nat} {ls : List (Bool × Int)} (h : Locs w a n ls) {k : Nat} (hk : k < n) : ∃ r b o, ls[k]? = some r ∧ a = some ⟨b, o, none⟩ ∧ w.cell? ⟨b, o + k * 2, none⟩ = some (.bool r.1) ∧ w.cell? ⟨b, o + k * 2 + 1, none⟩ = some (.int .i64 r.2) := by
  have hk' : k < ls.length := by rw [h.1]; exact hk
  obtain ⟨r, hr⟩ : ∃ r, ls[k]? = some r := ⟨ls[k], List.getElem?_eq_getElem hk'⟩
  obtain ⟨b, o, e, hc⟩ := h.2.2 k r hr
  exact ⟨r, b, o, hr, e, hc 0 (by omega), hc 1 (by omega)⟩
set_option maxHeartbeats 1000000 in
theorem indexLoc_any (a : Option Addr) (n c : Nat) (ls : List (Bool × Int)) (x : Bool × Int) (w : World) (h : Locs w a n ls) :
    Calls Try.prog 83 #[.slice a n c, .agg #[.bool x.1, .int .i64 x.2]] w fun e w' => e = .returned (.int .i64 (idxF (sameLoc x) ls)) ∧ Below w.heap.size w w' := by
  have HL := Lib.hid h.1
  have hn := h.2.1
  have H := Lib.hid h
  clear h
  have hq := fun w b y => eql_loc w x.1 b x.2 y
  go_enter Try.func83, Try.ntmps83
  go_wp2
  go_loopw [5, 8] (fun _ i wr => ∃ (k : Nat), k ≤ n ∧ i = .int .i64 k ∧ Hid (∀ j y, j < k → ls[j]? = some y → sameLoc x y = false) ∧ Hid (Below (w.alloc (.cells #[.bool x.1, .int .i64 x.2] 33)).heap.size (w.alloc (.cells #[.bool x.1, .int .i64 x.2] 33)) wr)) (fun _ i _ => n - (intOf i).toNat)
  case atStart => exact ⟨0, by omega, rfl, fun j y hj => absurd hj (by omega), Below.refl _ _⟩
  case round =>
    obtain ⟨k, hk, rfl, HR, HB⟩ := hrel
    have HBw : Hid (Below w.heap.size w wr) := ext_trans (ext_alloc _ _) HB.out
    have hx := block_ext HB.out (heap_alloc_new w _)
    have x0 : wr.cell? ⟨w.heap.size, 0, none⟩ = some (.bool x.1) := by rw [cell_of_row _ _ _ _ _ _ hx]; rfl
    have x1 : wr.cell? ⟨w.heap.size, 1, none⟩ = some (.int .i64 x.2) := by rw [cell_of_row _ _ _ _ _ _ hx]; rfl
    clear hx
    by_cases hlt : k < n
    · obtain ⟨r, b, o, hr, rfl, c0, c1⟩ := locs_cells (H.out.ext locC_len HBw.out) hlt
      have HG := Lib.hid hr
      clear hr
      have hk0 : (0 : Int) ≤ (k : Int) := by omega
      have hk1 : (k : Int) < (n : Int) := by omega
      have hq2 : ∀ w, (binOp .eql 33 (.agg #[.bool x.1, .int .i64 x.2]) (.agg #[.bool r.1, .int .i64 r.2])).run Try.prog w = .ok (.bool (sameLoc x r)) w := fun w => hq w r.1 r.2
      by_cases hy : sameLoc x r = true
      · have HE : Hid (idxF (sameLoc x) ls = k) := idxF_found _ ls k r HG.out hy HR.out
        go_wp2
        go_quiet (fail)
        go_wp2
        go_ret
        exact ⟨by rw [HE.out]; rfl, ext_drewN HBw.out _⟩
      · have hy' : sameLoc x r = false := by simpa using hy
        have HE : Hid (∀ j z, j < k + 1 → ls[j]? = some z → sameLoc x z = false) := fun j z hj hz => by
          by_cases e : j = k
          · subst e
            rw [HG.out] at hz
            injection hz with hz
            subst hz
            exact hy'
          · exact HR.out j z (by omega) hz
        go_wp2
        go_quiet (fail)
        go_wp2
        go_roundw
        case rel => exact ⟨k + 1, by omega, by go_num, HE, ext_drewN HB.out _⟩
        case measure => simp [intOf]; omega
    · obtain rfl : k = n := by omega
      have HE : Hid (idxF (sameLoc x) ls = -1) := idxF_none _ ls (fun z hz => by
        obtain ⟨j, hj, e⟩ := List.mem_iff_getElem.1 hz
        exact HR.out j z (by rw [HL.out] at hj; exact hj) (by rw [List.getElem?_eq_getElem hj, e]))
      go_wp2
      go_ret
      exact ⟨by rw [HE.out]; rfl, HBw.out⟩
def hasLoc (ls : List (Bool × Int)) (x : Bool × Int) : Bool := ls.any (sameLoc x)
theorem containsLoc_any (a : Option Addr) (n c : Nat) (ls : List (Bool × Int)) (x : Bool × Int) (w : World) (h : Locs w a n ls) :
    Calls Try.prog 74 #[.slice a n c, .agg #[.bool x.1, .int .i64 x.2]] w fun e w' => e = .returned (.bool (hasLoc ls x)) ∧ Below w.heap.size w w' := by
  have HA := Lib.hid (idxF_any (sameLoc x) ls)
  have hg := idxF_ge (sameLoc x) ls
  have H := Lib.hid h
  clear h
  go_enter Try.func74, Try.ntmps74
  go_wp2_with (go_at_call 83; refine (indexLoc_any a n c ls x _ (H.out.ext locC_len (ext_alloc _ _))).mono ?_; rintro e w' ⟨rfl, hb'⟩; have HB' := Lib.hid (ext_trans (ext_alloc _ _) hb'); clear hb')
  go_ret
  exact ⟨ret_bool (by rw [hasLoc, ← HA.out]), HB'.out⟩
end Go.Proofs.Ytdoahpblphlabaa
