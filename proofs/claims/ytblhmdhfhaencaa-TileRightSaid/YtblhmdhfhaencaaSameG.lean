/-
  Records of many cells in a slice of the call's own: loaded and stored whole, in the middle of the row. No program in sight.
-/
import Derived.Test.YtblhmdhfhaencaaFlatBase
import Derived.Test.YtblhmdhfhaencaaMix
import Derived.BigQuiet
import Derived.Deep.MidRow
import Derived.Test.YtblhmdhfhaencaaEP
import Derived.Test.YtblhmdhfhaencaaPick
import Derived.Test.YtblhmdhfhaencaaSeq
import Derived.Deep.Onto
namespace Go.Proofs.Ytblhmdhfhaencaa
set_option linter.unusedSimpArgs false
set_option linter.unusedVariables false
set_option linter.unusedSectionVars false
section
open Go.RowKit

section
variable {P : Program} {ops : Array Oper} {rest : List Oper} {o : Oper} {a : Act}
theorem wpQuiet_load_mid {C : World → Prop} {Q : Act → Prop} (hw : Region.wanted o (yielded ops a.tmps) = true) (ty : TypeId) (x : Operand) (ho : o.op = .load ty x)
    (b q : Nat) (hx : a.eval x = .pointer (some ⟨b, q, none⟩)) (cs : List Value) (d : TypeDesc) (hc : ∀ w, C w → w.rangeAt b q cs)
    (hu : P.underlying ty = some d) (hd : d.isRow = true) (hi : (P.info? ty).map (·.size) = some cs.length)
    (h : wpQuiet P ops C Q rest (a.put o.dst (.agg cs.toArray))) : wpQuiet P ops C Q (o :: rest) a :=
  BigFrame.wpQuiet_want hw fun _ hK => ⟨.agg cs.toArray, fun w hC => by
    unfold Oper.quietAt execOp
    simp only [ho, hx, Instr.loadAt, Instr.sureAddr, Sem.run_bind, Sem.run_pure, Result.andThen_ok, run_loadVar_mid w b q ty cs d (hc w hC) hu hd hi]
    exact ⟨rfl, rfl⟩, hK _ h⟩
end
theorem own_cells {base : Nat} {e : TypeId} {size g n c : Nat} : ∀ (vs : List Value) (o : Nat) (xs : List Value) (w : World), w.ownsRow base e size (.slice (some ⟨g, 0, none⟩) n c) n xs → o + vs.length ≤ xs.length →
    (w.setCells g o vs).ownsRow base e size (.slice (some ⟨g, 0, none⟩) n c) n (xs.take o ++ vs ++ xs.drop (o + vs.length))
  | [], o, xs, w, h, _ => by simpa [World.setCells] using h
  | v :: r, o, xs, w, h, ho => by
    simp only [List.length_cons] at ho
    have h1 := own_cells r (o + 1) _ _ (h.stored o v).1 (by simp; omega)
    rw [World.setCells]
    have e : (xs.set o v).take (o + 1) ++ r ++ (xs.set o v).drop (o + 1 + r.length) = xs.take o ++ (v :: r) ++ xs.drop (o + (v :: r).length) := by
      rw [List.drop_set_of_lt (by omega), List.take_add_one, List.take_set_of_le (by omega), List.getElem?_set_self (by omega)]
      simp [Nat.add_assoc, Nat.add_comm 1]
    rw [e] at h1
    exact h1
theorem flat_set {α : Type} (cs : α → List Value) (size : Nat) (hs : ∀ x, (cs x).length = size) (x : α) : ∀ (l : List α) (k : Nat), k < l.length → (l.flatMap cs).take (k * size) ++ cs x ++ (l.flatMap cs).drop (k * size + size) = (l.set k x).flatMap cs
  | y :: l, 0, _ => by
    simp only [List.flatMap_cons, Nat.zero_mul, List.take_zero, List.nil_append, List.set_cons_zero, Nat.zero_add]
    rw [← hs y, List.drop_left]
  | y :: l, k + 1, h => by
    have ih := flat_set cs size hs x l k (by simpa using h)
    rw [List.flatMap_cons, List.set_cons_succ, List.flatMap_cons, ← ih, Nat.add_mul, Nat.one_mul]
    have e1 : k * size + size = (cs y).length + k * size := by rw [hs]; omega
    have e2 : k * size + size + size = (cs y).length + (k * size + size) := by rw [hs]; omega
    rw [e2, List.drop_append, e1, List.take_append]
    simp only [List.append_assoc]
    rw [List.take_of_length_le (by omega), List.drop_of_length_le (l := cs y) (by omega), List.nil_append]
    congr 2
    · congr 1; omega
    · congr 1
      congr 1; omega
section
variable {α : Type} {e : TypeId} {size : Nat} {cs : α → List Value} {w w' : World} {base : Nat} {ls : List α} {g n c : Nat}
/-- an element loaded -/
theorem OwnR.range (hs : ∀ x, (cs x).length = size) (h : OwnR e size cs w base (.slice (some ⟨g, 0, none⟩) n c) ls) (z : α) {k : Nat} (hk : k < ls.length) : w.rangeAt g (k * size) (cs (ls.getD k z)) := by
  obtain rfl : n = ls.length := by obtain ⟨a, c', e⟩ := h.form; injection e
  have hr := h.recs hs
  obtain ⟨b, o, ea, hc⟩ := hr.at_ (k := k) (by rw [hr.1]; exact hk) z
  injection ea with ea
  injection ea with ea eo
  subst ea eo
  intro j v hv
  have hj : j < size := by rw [← hs (ls.getD k z)]; exact (List.getElem?_eq_some_iff.1 hv).1
  rw [← hv, ← hc j hj, Nat.zero_add]
/-- an element stored -/
theorem OwnR.setAt (hs : ∀ x, (cs x).length = size) (h : OwnR e size cs w base (.slice (some ⟨g, 0, none⟩) n c) ls) {k : Nat} (hk : k < ls.length) (x : α) : OwnR e size cs (w.setCells g (k * size) (cs x)) base (.slice (some ⟨g, 0, none⟩) n c) (ls.set k x) := by
  obtain rfl : n = ls.length := by obtain ⟨a, c', e⟩ := h.form; injection e
  have hl := flatMap_len cs size hs ls
  have hkk : k * size + size ≤ ls.length * size := by
    have : (k + 1) * size ≤ ls.length * size := Nat.mul_le_mul_right _ hk
    rw [Nat.add_mul, Nat.one_mul] at this
    exact this
  have h1 := own_cells (cs x) (k * size) _ _ h.1 (by rw [hs, hl]; exact hkk)
  rw [hs, flat_set cs size hs x ls k hk] at h1
  refine ⟨?_, by simpa using h.2⟩
  rw [List.length_set]
  exact h1
theorem OwnR.there (hs : ∀ x, (cs x).length = size) (h : OwnR e size cs w base (.slice (some ⟨g, 0, none⟩) n c) ls) {k : Nat} (hk : k < ls.length) : w.there g (k * size) size := by
  have hl := flatMap_len cs size hs ls
  have hkk : k * size + size ≤ ls.length * size := by
    have : (k + 1) * size ≤ ls.length * size := Nat.mul_le_mul_right _ hk
    rw [Nat.add_mul, Nat.one_mul] at this
    exact this
  rcases h.1.2 with ⟨h0, _⟩ | ⟨g', cap, cur, hv, hb, hh, hnc, hcm, hcs, ht⟩
  · cases h0
  · simp only [Value.slice.injEq, Option.some.injEq, Addr.mk.injEq, and_true, true_and] at hv
    obtain ⟨rfl, rfl, rfl⟩ := hv
    intro j hj
    have : ls.length * size ≤ c * size := Nat.mul_le_mul_right _ hnc
    refine ⟨?_, frozen_of_row _ _ _ _ _ hh⟩
    rw [cell_of_row _ _ _ _ _ _ hh]
    rw [Array.getElem?_eq_getElem (by omega)]
    rfl
end
theorem chg_setCells {S : Nat → Prop} {a : World} {g : Nat} (hs : S g) : ∀ (vs : List Value) (o : Nat) (w : World), Chg S a w → Chg S a (w.setCells g o vs)
  | [], _, _, h => h
  | v :: r, o, w, h => chg_setCells hs r (o + 1) _ (h.setCell (Or.inl hs) v)
end

section
open Go.RowKit

def setA (f : Nat → Bool) : Array Value := ((List.range 200).map fun j => Value.bool (f j)).toArray
theorem setA_size (f : Nat → Bool) : (setA f).size = 200 := by simp [setA]
theorem setA_at (f : Nat → Bool) (j : Nat) (h : j < 200) : (setA f)[j]? = some (.bool (f j)) := by simp [setA, h]
theorem setA_ext {f g : Nat → Bool} (h : ∀ k, k < 200 → f k = g k) : setA f = setA g := by
  unfold setA
  congr 1
  exact List.map_congr_left fun k hk => by rw [h k (List.mem_range.1 hk)]
theorem setA_put (f : Nat → Bool) (j : Nat) (h : j < 200) (b : Bool) : (setA f).setIfInBounds j (.bool b) = setA (fun k => if k = j then b else f k) := by
  apply Array.ext_getElem?
  intro k
  by_cases hk : k < 200
  · rw [Array.getElem?_setIfInBounds, setA_at f k hk, setA_at _ k hk]
    by_cases e : j = k
    · subst e; simp [setA_size, h]
    · rw [if_neg e, if_neg (fun x => e x.symm)]
  · rw [Array.getElem?_eq_none (by simp [setA_size]; omega), Array.getElem?_eq_none (by simp [setA_size]; omega)]
theorem setA_all (f : Nat → Bool) : (setA f).all (·.oneCell') = true := by
  rw [Array.all_eq_true_iff_forall_mem]
  intro v hv
  simp [setA] at hv
  obtain ⟨j, _, rfl⟩ := hv
  rfl
theorem setA_inj {f g : Nat → Bool} (h : setA f = setA g) (k : Nat) (hk : k < 200) : f k = g k := by
  have h1 := setA_at f k hk
  rw [h, setA_at g k hk] at h1
  simpa using h1.symm
end

section
open Go.RowKit

theorem none1_any (x : Int) (w : World) : Calls Try.prog 114 (#[.int .i64 x] ++ #[]) w fun e w' => e = .returned (.bool (x != 0)) ∧ Below w.heap.size w w' := by
  show Calls Try.prog 114 #[.int .i64 x] w _
  go_enter Try.func114, Try.ntmps114
  go_wp2
  go_ret
  exact ⟨rfl, Below.refl _ _⟩
theorem call_none1 (args : Array Value) (w : World) : (callFunc 114 args).run Try.prog w = .ok (.enter 114 args) w := by kernel_rfl
def noneB (xs : List Int) : Bool := !xs.any (fun x => x != 0)
theorem none_any (a : Option Addr) (n c : Nat) (xs : List Int) (w : World) (h : Ints w a n xs) :
    Calls Try.prog 92 #[.slice a n c] w fun e w' => e = .returned (.bool (noneB xs)) ∧ Below w.heap.size w w' := by
  have H := Lib.hid h
  clear h
  go_enter Try.func92, Try.ntmps92
  go_wp2_with (go_at_call 90; refine (containsFunc_any _ #[] call_none1 (fun x => x != 0) a n c xs w (fun x W _ _ => none1_any x W) H.out).mono ?_; rintro e w' ⟨rfl, hb'⟩; have HB' := Lib.hid hb'; clear hb')
  go_ret
  exact ⟨rfl, HB'.out⟩
theorem variable_any (n : Int) (w : World) : Calls Try.prog 93 #[.int .i64 n] w fun e w' => e = .returned (.bool (varB n)) ∧ w = w' := by
  by_cases h1 : 1 ≤ n
  · have d1 : decide (1 ≤ n) = true := by simpa using h1
    have HE : Hid (varB n = decide (n ≤ 200)) := by rw [Hid, varB, decide_eq_decide]; omega
    go_enter Try.func93, Try.ntmps93
    go_wp2
    go_ret
    exact ⟨by rw [HE.out]; rfl, rfl⟩
  · have d1 : decide (1 ≤ n) = false := by simpa using h1
    have HE : Hid (varB n = false) := by rw [Hid, varB, decide_eq_false_iff_not]; omega
    go_enter Try.func93, Try.ntmps93
    go_wp2
    go_ret
    exact ⟨by rw [HE.out]; rfl, rfl⟩
def fitsV (b : Bool) (n : Int) : Bool := if b then varB n else decide (n = 0)
theorem fits_any (b : Bool) (n : Int) (w : World) : Calls Try.prog 94 #[.bool b, .int .i64 n] w fun e w' => e = .returned (.bool (fitsV b n)) ∧ w = w' := by
  cases b with
  | true =>
    go_enter Try.func94, Try.ntmps94
    go_wp2_with (go_at_call 93; refine (variable_any _ _).mono ?_; rintro e w' ⟨rfl, rfl⟩)
    go_ret
    exact ⟨rfl, rfl⟩
  | false =>
    have HE : Hid (fitsV false n = (n == 0)) := by
      rw [Hid, fitsV, if_neg (by simp)]
      by_cases h : n = 0 <;> simp [h]
    go_enter Try.func94, Try.ntmps94
    go_wp2
    go_ret
    exact ⟨by rw [HE.out]; rfl, rfl⟩
abbrev termV (t : TermD) : Value := .agg #[.int .i64 t.kind, .int .i64 t.a, .int .i64 t.t0, .int .i64 t.t1]
abbrev termO (t : TermD) : Obj := .cells #[.int .i64 t.kind, .int .i64 t.a, .int .i64 t.t0, .int .i64 t.t1] 112
def TermOK (t : TermD) : Prop := I64 t.kind ∧ I64 t.a ∧ I64 t.t0 ∧ I64 t.t1
theorem ints_lit {W : World} {g o : Nat} {cells : Array Value} {t : TypeId} (hg : W.heap[g]? = some (.cells cells t (0, 0))) (xs : List Int) (hx : ∀ x ∈ xs, I64 x) (hn : xs.length ≤ 1000) (hc : ∀ k, k < xs.length → cells[o + k]? = some (.int .i64 (xs.getD k 0))) : Ints W (some ⟨g, o, none⟩) xs.length xs :=
  ⟨rfl, by omega, fun k hk => ⟨g, o, rfl, by rw [cell_of_row _ _ _ _ _ _ hg]; exact hc k hk, hx _ (by rw [List.getD_eq_getElem?_getD, List.getElem?_eq_getElem hk]; exact List.getElem_mem _)⟩⟩
theorem heap_at (W : World) (o : Obj) (H : Nat) (hH : W.heap.size = H) : (W.alloc o).heap[H]? = some o := by subst hH; exact heap_alloc_new _ _
def TermPost (t : TermD) (w : World) (e : Ending) (w' : World) : Prop := e = .returned (.bool (termB t)) ∧ Below w.heap.size w w'
set_option maxHeartbeats 1000000 in
theorem isTerm_any (t : TermD) (w : World) (h : TermOK t) : Calls Try.prog 66 #[termV t] w (TermPost t w) := by
  obtain ⟨⟨h1, h2⟩, ⟨h3, h4⟩, ⟨h5, h6⟩, h7, h8⟩ := h
  obtain ⟨k, a, x, y⟩ := t
  simp only at h1 h2 h3 h4 h5 h6 h7 h8
  have HX := Lib.hid (show ∀ z ∈ [a, x, y], I64 z by simp [I64]; omega)
  have box : ∀ (W : World), Below w.heap.size w W → ∀ W', Below W.heap.size W W' → Below w.heap.size w W' := fun W h1 W' h2 => ext_trans h1 h2
  have HBX := Lib.hid box
  clear box
  by_cases k1 : k = 1
  · subst k1
    have HE : Hid (termB ⟨1, a, x, y⟩ = noneB [a, y]) := by
      rw [Hid, Bool.eq_iff_iff]; simp [termB, noneB]
    go_enter Try.func66, Try.ntmps66
    go_wp2_with (go_at_call 92; refine (none_any _ _ _ [a, y] _ (ints_lit (heap_at _ _ _ (by simp)) [a, y] (fun z hz => HX.out z (by simp at hz ⊢; omega)) (by simp) (fun k hk => by match k, hk with | 0, _ => rfl | 1, _ => rfl))).mono ?_; rintro e w' ⟨rfl, hb'⟩; have HB' := Lib.hid hb'; clear hb')
    go_ret
    exact ⟨by rw [HE.out]; rfl, HBX.out _ ((ext_alloc _ _).alloc (by simp) _) _ HB'.out⟩
  · by_cases k2 : k = 2
    · subst k2
      have HE : Hid (termB ⟨2, a, x, y⟩ = varB a) := by
        rw [Hid, Bool.eq_iff_iff]; simp [termB]
      go_enter Try.func66, Try.ntmps66
      go_wp2_with (go_at_call 93; refine (variable_any _ _).mono ?_; rintro e w' ⟨rfl, rfl⟩)
      go_ret
      exact ⟨by rw [HE.out]; rfl, ext_alloc _ _⟩
    · by_cases k3 : k = 3
      · subst k3
        by_cases hf : fitsV (a != 0) a = true
        · have HE : Hid (termB ⟨3, a, x, y⟩ = noneB [x, y]) := by
            rw [Hid, Bool.eq_iff_iff]
            unfold fitsV at hf
            by_cases ha : a = 0
            · simp [termB, noneB, ha]
            · simp [ha] at hf
              simp [termB, noneB, hf]
          have HF := Lib.hid hf
          clear hf
          go_enter Try.func66, Try.ntmps66
          go_wp2_with (first
            | (go_at_call 92; refine (none_any _ _ _ [x, y] _ (ints_lit (heap_alloc_new _ _) [x, y] (fun z hz => HX.out z (by simp at hz ⊢; omega)) (by simp) (fun k hk => by match k, hk with | 0, _ => rfl | 1, _ => rfl))).mono ?_; rintro e w' ⟨rfl, hb'⟩; have HB' := Lib.hid hb'; clear hb')
            | (go_at_call 94; refine (fits_any _ _ _).mono ?_; rintro e w' ⟨rfl, rfl⟩; rw [HF.out]))
          go_ret
          exact ⟨by rw [HE.out]; rfl, HBX.out _ (ext_alloc _ _) _ HB'.out⟩
        · have HE : Hid (termB ⟨3, a, x, y⟩ = false) := by
            rw [Hid, Bool.eq_false_iff]
            unfold fitsV at hf
            by_cases ha : a = 0
            · simp [ha] at hf
            · simp [ha] at hf
              simp [termB, hf, ha]
          have hf' : fitsV (a != 0) a = false := by simpa using hf
          have HF := Lib.hid hf'
          clear hf hf'
          go_enter Try.func66, Try.ntmps66
          go_wp2_with (go_at_call 94; refine (fits_any _ _ _).mono ?_; rintro e w' ⟨rfl, rfl⟩; rw [HF.out])
          go_ret
          exact ⟨by rw [HE.out]; rfl, ext_alloc _ _⟩
      · have b1 : (k == 1) = false := by simpa using k1
        have b2 : (k == 2) = false := by simpa using k2
        have b3 : (k == 3) = false := by simpa using k3
        by_cases k4 : k = 4
        · subst k4
          have HE : Hid (termB ⟨4, a, x, y⟩ = noneB [a, x, y]) := by
            rw [Hid, Bool.eq_iff_iff]; simp [termB, noneB]
          clear b1 b2 b3 k1 k2 k3
          go_enter Try.func66, Try.ntmps66
          go_wp2_with (go_at_call 92; refine (none_any _ _ _ [a, x, y] _ (ints_lit (heap_at _ _ _ (by simp)) [a, x, y] (fun z hz => HX.out z hz) (by simp) (fun k hk => by match k, hk with | 0, _ => rfl | 1, _ => rfl | 2, _ => rfl))).mono ?_; rintro e w' ⟨rfl, hb'⟩; have HB' := Lib.hid hb'; clear hb')
          go_ret
          exact ⟨by rw [HE.out]; rfl, HBX.out _ ((ext_alloc _ _).alloc (by simp) _) _ HB'.out⟩
        · have HE : Hid (termB ⟨k, a, x, y⟩ = false) := by
            rw [Hid, Bool.eq_false_iff]; simp [termB, k1, k2, k3, k4]
          have b4 : (k == 4) = false := by simpa using k4
          clear k1 k2 k3 k4
          go_enter Try.func66, Try.ntmps66
          go_wp2
          go_ret
          exact ⟨by rw [HE.out]; rfl, ext_alloc _ _⟩
end

section
open Go.RowKit

theorem box2 (w : World) (o1 o2 : Obj) (W : World) (h : Below ((w.alloc o1).alloc o2).heap.size ((w.alloc o1).alloc o2) W) : W.heap[w.heap.size]? = some o1 ∧ W.heap[w.heap.size + 1]? = some o2 ∧ Below w.heap.size w W := by
  refine ⟨?_, ?_, ext_trans (ext_trans (ext_alloc w o1) (ext_alloc _ o2)) h⟩
  · rw [h.block _ (by simp; omega), Below.heap_alloc _ _ _ (by simp)]
    exact heap_alloc_new w o1
  · rw [h.block _ (by simp)]
    have := heap_alloc_new (w.alloc o1) o2
    simpa using this
theorem boxes2 (w : World) (o1 o2 : Obj) : ∃ W0, Hid (Below w.heap.size w W0) ∧ W0.heap[w.heap.size]? = some o1 ∧ W0.heap[w.heap.size + 1]? = some o2 ∧ (w.alloc o1).alloc o2 = W0 := by
  obtain ⟨x1, x2, x3⟩ := box2 w o1 o2 _ (Below.refl _ _)
  exact ⟨_, x3, x1, x2, rfl⟩
theorem chg_setRow (w : World) (g : Nat) (cs : Array Value) : Chg (fun k => k = g) w (w.setRow g cs) :=
  ⟨rfl, rfl, rfl, by rw [size_setRow]; exact Nat.le_refl _, fun k _ hn => setRow_other w g k cs hn⟩
theorem chg_setCell (w : World) (b o : Nat) (u : Value) : Chg (fun k => k = b) w (w.setCell ⟨b, o, none⟩ u) := (Chg.refl (fun k => k = b) w).setCell (p := ⟨b, o, none⟩) (Or.inl rfl) u
theorem Chg.row {S : Nat → Prop} {w w' : World} (h : Chg S w w') {k : Nat} {o : Obj} (hk : w.heap[k]? = some o) (hn : ¬ S k) : w'.heap[k]? = some o := (h.block k (Array.getElem?_eq_some_iff.1 hk).1 hn).trans hk
theorem chg_below {w w' : World} (h : Below w.heap.size w w') : Chg (fun _ => False) w w' := ⟨h.os, h.tape, h.output, h.size, fun k hk _ => h.block k hk⟩
section
variable {P : Program} {Q : Exit → Act → World → Prop}
theorem wpList_store_rowC {ops : Array Oper} {rest : List Oper} {o : Oper} {a : Act} {w : World} (hgd : o.guard = none) (ty : TypeId) (x y : Operand) (ho : o.op = .store ty x y)
    (g : Nat) (cells : Array Value) (hx : a.eval x = .pointer (some ⟨g, 0, none⟩)) (hy : a.eval y = .agg cells)
    (t : TypeId) (old : Array Value) (hg : w.heap[g]? = some (.cells old t (0, 0))) (hi : (P.info? ty).map (·.size) = some cells.size)
    (hold : old.size = cells.size) (h1 : cells.all (·.oneCell') = true)
    (h : ∀ W', Chg (fun k => k = g) w W' → W'.heap[g]? = some (.cells cells t (0, 0)) → wpList P ops Q rest (a.put o.dst undef) W') : wpList P ops Q (o :: rest) a w :=
  wpList_store_row hgd ty x y ho g cells hx hy t old hg hi hold h1 (h _ (chg_setRow _ _ _) (setRow_heap _ _ _ _ _ _ hg))
end

/-- alike, one by one -/
def SameEs {α : Type} (SD : α → α → Prop) (rs ss : List α) : Prop := rs.length = ss.length ∧ ∀ (k : Nat) r s, rs[k]? = some r → ss[k]? = some s → SD r s
end
end Go.Proofs.Ytblhmdhfhaencaa
