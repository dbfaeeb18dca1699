/-
  Sets of blocks as they lie in memory: arrays of 200 truths. No program in sight.
-/
import Derived.Test.YtblhmdhfhaencaaGreatBR
import Derived.Test.YtblhmdhfhaencaaGreatFI2
import Derived.Test.YtblhmdhfhaencaaGreatRows
import Derived.ChangeKeysEq
import Derived.WalkSpells
import Derived.Test.YtblhmdhfhaencaaGreatLentG
import Derived.Scope
import Derived.Deep.DeepCutAuto
import Derived.Deep.LoopGhost
import Derived.Laws.StructEq
import Derived.Shelf.Sort.Plain
import Derived.Shelf.Slices.Reverse
import Derived.Ground.Names2Prog
import Derived.Shelf.Slices.Clone
import Derived.Shelf.Slices.CompactI
import Derived.Shelf.Slices.In.SortNone
import Derived.Shelf.SlicesE.Reverse
import Derived.Test.YtblhmdhfhaencaaGreatProg
namespace Go.Proofs.YtblhmdhfhaencaaGreat
set_option linter.unusedSimpArgs false
set_option linter.unusedVariables false
set_option linter.unusedSectionVars false
set_option maxRecDepth 100000
set_option maxHeartbeats 40000000
section
open Go.RowKit
def setA (f : Nat → Bool) : Array Value := ((List.range 200).map fun j => Value.bool (f j)).toArray
theorem setA_size (f : Nat → Bool) : (setA f).size = 200 := by simp [setA]
theorem setA_at (f : Nat → Bool) (j : Nat) (h : j < 200) : (setA f)[j]? = some (.bool (f j)) := by simp [setA, h]
theorem setA_put (f : Nat → Bool) (j : Nat) (h : j < 200) (b : Bool) : (setA f).setIfInBounds j (.bool b) = setA (fun k => if k = j then b else f k) := by
  apply Array.ext_getElem?
  intro k
  by_cases hk : k < 200
  · rw [Array.getElem?_setIfInBounds, setA_at f k hk, setA_at _ k hk];by_cases e : j = k
    · subst e; simp [setA_size, h]
    · rw [if_neg e, if_neg (fun x => e x.symm)]
  · rw [Array.getElem?_eq_none (by simp [setA_size]; omega), Array.getElem?_eq_none (by simp [setA_size]; omega)]
theorem setA_all (f : Nat → Bool) : (setA f).all (·.oneCell') = true := by
  rw [Array.all_eq_true_iff_forall_mem]
  intro v hv
  simp [setA] at hv
  obtain ⟨j, _, rfl⟩ := hv
  rfl
end

section
open Go.RowKit
theorem none1_any (x : Int) (w : World) : Calls Tryz.prog 211 (#[.int .i64 x] ++ #[]) w fun e w' => e = .returned (.bool (x != 0)) ∧ Below w.heap.size w w' := by
  show Calls Tryz.prog 211 #[.int .i64 x] w _
  go_enter Tryz.func211, Tryz.ntmps211
  go_wp2
  go_ret
  exact ⟨rfl, Below.refl _ _⟩
theorem call_none1 (args : Array Value) (w : World) : (callFunc 211 args).run Tryz.prog w = .ok (.enter 211 args) w := by kernel_rfl
def noneB (xs : List Int) : Bool := !xs.any (fun x => x != 0)
theorem none_any (a : Option Addr) (n c : Nat) (xs : List Int) (w : World) (h : Ints w a n xs) :
    Calls Tryz.prog 174 #[.slice a n c] w fun e w' => e = .returned (.bool (noneB xs)) ∧ Below w.heap.size w w' := by
  have H := Lib.hid h
  clear h
  go_enter Tryz.func174, Tryz.ntmps174
  go_wp2_with (go_at_call 168; refine (containsFunc_any _ #[] call_none1 (fun x => x != 0) a n c xs w (fun x W _ _ => none1_any x W) H.out).mono ?_; rintro e w' ⟨rfl, hb'⟩; have HB' := Lib.hid hb'; clear hb')
  go_ret
  exact ⟨rfl, HB'.out⟩
theorem variable_any (n : Int) (w : World) : Calls Tryz.prog 175 #[.int .i64 n] w fun e w' => e = .returned (.bool (varB n)) ∧ w = w' := by
  by_cases h1 : 1 ≤ n
  · have d1 : decide (1 ≤ n) = true := by simpa using h1
    have HE : Hid (varB n = decide (n ≤ 200)) := by rw [Hid, varB, decide_eq_decide]; omega
    go_enter Tryz.func175, Tryz.ntmps175
    go_wp2
    go_ret
    exact ⟨by rw [HE.out]; rfl, rfl⟩
  · have d1 : decide (1 ≤ n) = false := by simpa using h1
    have HE : Hid (varB n = false) := by rw [Hid, varB, decide_eq_false_iff_not]; omega
    go_enter Tryz.func175, Tryz.ntmps175
    go_wp2
    go_ret
    exact ⟨by rw [HE.out]; rfl, rfl⟩
def fitsV (b : Bool) (n : Int) : Bool := if b then varB n else decide (n = 0)
theorem fits_any (b : Bool) (n : Int) (w : World) : Calls Tryz.prog 176 #[.bool b, .int .i64 n] w fun e w' => e = .returned (.bool (fitsV b n)) ∧ w = w' := by
  cases b with
  | true =>
    go_enter Tryz.func176, Tryz.ntmps176
    go_wp2_with (go_at_call 175; refine (variable_any _ _).mono ?_; rintro e w' ⟨rfl, rfl⟩)
    go_ret
    exact ⟨rfl, rfl⟩
  | false =>
    have HE : Hid (fitsV false n = (n == 0)) := by
      rw [Hid, fitsV, if_neg (by simp)];by_cases h : n = 0 <;> simp [h]
    go_enter Tryz.func176, Tryz.ntmps176
    go_wp2
    go_ret
    exact ⟨by rw [HE.out]; rfl, rfl⟩
abbrev termV (t : TermD) : Value := .agg #[.int .i64 t.kind, .int .i64 t.a, .int .i64 t.t0, .int .i64 t.t1]
abbrev termO (t : TermD) : Obj := .cells #[.int .i64 t.kind, .int .i64 t.a, .int .i64 t.t0, .int .i64 t.t1] 70
def TermOK (t : TermD) : Prop := I64 t.kind ∧ I64 t.a ∧ I64 t.t0 ∧ I64 t.t1
theorem ints_lit {W : World} {g o : Nat} {cells : Array Value} {t : TypeId} (hg : W.heap[g]? = some (.cells cells t (0, 0))) (xs : List Int) (hx : ∀ x ∈ xs, I64 x) (hn : xs.length ≤ 1000) (hc : ∀ k, k < xs.length → cells[o + k]? = some (.int .i64 (xs.getD k 0))) : Ints W (some ⟨g, o, none⟩) xs.length xs :=
  ⟨rfl, by omega, fun k hk => ⟨g, o, rfl, by rw [cell_of_row _ _ _ _ _ _ hg]; exact hc k hk, hx _ (by rw [List.getD_eq_getElem?_getD, List.getElem?_eq_getElem hk]; exact List.getElem_mem _)⟩⟩
theorem heap_at (W : World) (o : Obj) (H : Nat) (hH : W.heap.size = H) : (W.alloc o).heap[H]? = some o := by subst hH; exact heap_alloc_new _ _
def TermPost (t : TermD) (w : World) (e : Ending) (w' : World) : Prop := e = .returned (.bool (termB t)) ∧ Below w.heap.size w w'
theorem isTerm_any (t : TermD) (w : World) (h : TermOK t) : Calls Tryz.prog 128 #[termV t] w (TermPost t w) := by
  obtain ⟨⟨h1, h2⟩, ⟨h3, h4⟩, ⟨h5, h6⟩, h7, h8⟩ := h
  obtain ⟨k, a, x, y⟩ := t
  simp only at h1 h2 h3 h4 h5 h6 h7 h8
  have HX := Lib.hid (show ∀ z ∈ [a, x, y], I64 z by simp [I64]; omega)
  have box : ∀ (W : World), Below w.heap.size w W → ∀ W', Below W.heap.size W W' → Below w.heap.size w W' := fun W h1 W' h2 => ext_trans h1 h2
  have HBX := Lib.hid box
  clear box
  by_cases k1 : k = 1
  · subst k1;have HE : Hid (termB ⟨1, a, x, y⟩ = noneB [a, y]) := by
      rw [Hid, Bool.eq_iff_iff]; simp [termB, noneB]
    go_enter Tryz.func128, Tryz.ntmps128
    go_wp2_with (go_at_call 174; refine (none_any _ _ _ [a, y] _ (ints_lit (heap_at _ _ _ (by simp)) [a, y] (fun z hz => HX.out z (by simp at hz ⊢; omega)) (by simp) (fun k hk => by match k, hk with | 0, _ => rfl | 1, _ => rfl))).mono ?_; rintro e w' ⟨rfl, hb'⟩; have HB' := Lib.hid hb'; clear hb')
    go_ret
    exact ⟨by rw [HE.out]; rfl, HBX.out _ ((ext_alloc _ _).alloc (by simp) _) _ HB'.out⟩
  · by_cases k2 : k = 2
    · subst k2;have HE : Hid (termB ⟨2, a, x, y⟩ = varB a) := by
        rw [Hid, Bool.eq_iff_iff]; simp [termB]
      go_enter Tryz.func128, Tryz.ntmps128
      go_wp2_with (go_at_call 175; refine (variable_any _ _).mono ?_; rintro e w' ⟨rfl, rfl⟩)
      go_ret
      exact ⟨by rw [HE.out]; rfl, ext_alloc _ _⟩
    · by_cases k3 : k = 3
      · subst k3;by_cases hf : fitsV (a != 0) a = true
        · have HE : Hid (termB ⟨3, a, x, y⟩ = noneB [x, y]) := by
            rw [Hid, Bool.eq_iff_iff];unfold fitsV at hf;by_cases ha : a = 0
            · simp [termB, noneB, ha]
            · simp [ha] at hf;simp [termB, noneB, hf]
          have HF := Lib.hid hf;clear hf
          go_enter Tryz.func128, Tryz.ntmps128
          go_wp2_with (first
            | (go_at_call 174; refine (none_any _ _ _ [x, y] _ (ints_lit (heap_alloc_new _ _) [x, y] (fun z hz => HX.out z (by simp at hz ⊢; omega)) (by simp) (fun k hk => by match k, hk with | 0, _ => rfl | 1, _ => rfl))).mono ?_; rintro e w' ⟨rfl, hb'⟩; have HB' := Lib.hid hb'; clear hb')
            | (go_at_call 176; refine (fits_any _ _ _).mono ?_; rintro e w' ⟨rfl, rfl⟩; rw [HF.out]))
          go_ret
          exact ⟨by rw [HE.out]; rfl, HBX.out _ (ext_alloc _ _) _ HB'.out⟩
        · have HE : Hid (termB ⟨3, a, x, y⟩ = false) := by
            rw [Hid, Bool.eq_false_iff];unfold fitsV at hf;by_cases ha : a = 0
            · simp [ha] at hf
            · simp [ha] at hf;simp [termB, hf, ha]
          have hf' : fitsV (a != 0) a = false := by simpa using hf
          have HF := Lib.hid hf';clear hf hf'
          go_enter Tryz.func128, Tryz.ntmps128
          go_wp2_with (go_at_call 176; refine (fits_any _ _ _).mono ?_; rintro e w' ⟨rfl, rfl⟩; rw [HF.out])
          go_ret
          exact ⟨by rw [HE.out]; rfl, ext_alloc _ _⟩
      · have b1 : (k == 1) = false := by simpa using k1
        have b2 : (k == 2) = false := by simpa using k2
        have b3 : (k == 3) = false := by simpa using k3
        by_cases k4 : k = 4
        · subst k4;have HE : Hid (termB ⟨4, a, x, y⟩ = noneB [a, x, y]) := by
            rw [Hid, Bool.eq_iff_iff]; simp [termB, noneB]
          clear b1 b2 b3 k1 k2 k3
          go_enter Tryz.func128, Tryz.ntmps128
          go_wp2_with (go_at_call 174; refine (none_any _ _ _ [a, x, y] _ (ints_lit (heap_at _ _ _ (by simp)) [a, x, y] (fun z hz => HX.out z hz) (by simp) (fun k hk => by match k, hk with | 0, _ => rfl | 1, _ => rfl | 2, _ => rfl))).mono ?_; rintro e w' ⟨rfl, hb'⟩; have HB' := Lib.hid hb'; clear hb')
          go_ret
          exact ⟨by rw [HE.out]; rfl, HBX.out _ ((ext_alloc _ _).alloc (by simp) _) _ HB'.out⟩
        · have HE : Hid (termB ⟨k, a, x, y⟩ = false) := by
            rw [Hid, Bool.eq_false_iff]; simp [termB, k1, k2, k3, k4]
          have b4 : (k == 4) = false := by simpa using k4
          clear k1 k2 k3 k4
          go_enter Tryz.func128, Tryz.ntmps128
          go_wp2
          go_ret
          exact ⟨by rw [HE.out]; rfl, ext_alloc _ _⟩
end

section
open Go.RowKit
theorem infoI : (Tryz.prog.info? 3).map (fun i => (i.zero, i.size, i.bytes)) = some (some (.int .i64 0), 1, 8) := by kernel_rfl
def intVals (xs : List Int) : List Value := xs.map (Value.int .i64)
theorem intVals_len (xs : List Int) : (intVals xs).length = xs.length := by simp [intVals]
theorem intVals_one (xs : List Int) : ∀ u ∈ intVals xs, u.oneCell' = true := by
  intro u hu
  simp only [intVals, List.mem_map] at hu
  obtain ⟨x, _, rfl⟩ := hu
  rfl
def OwnI (w : World) (base : Nat) (v : Value) (xs : List Int) : Prop := w.ownsRow base 3 1 v xs.length (intVals xs) ∧ (∀ x ∈ xs, I64 x) ∧ xs.length ≤ 17592186044416
theorem OwnI.nil (w : World) (base : Nat) : OwnI w base (.slice none 0 0) [] := ⟨World.ownsRow_nil _ _ _ _, by simp, by simp⟩
theorem OwnI.mono {w : World} {base base' : Nat} {v : Value} {xs : List Int} (h : OwnI w base v xs) (hb : base' ≤ base) : OwnI w base' v xs := by
  refine ⟨⟨h.1.1, ?_⟩, h.2⟩
  rcases h.1.2 with h0 | ⟨g, cap, cur, hv, h1, r⟩
  · exact .inl h0
  · exact .inr ⟨g, cap, cur, hv, Nat.le_trans hb h1, r⟩
theorem OwnI.kept {w w' : World} {base : Nat} {v : Value} {xs : List Int} {row : Option Nat} (h : OwnI w base v xs) (hg : w.grownBy w' row) (hne : v.ownBlock = none ∨ v.ownBlock ≠ row) : OwnI w' base v xs := ⟨h.1.kept hg hne, h.2⟩
theorem OwnI.ext {w w' : World} {base : Nat} {v : Value} {xs : List Int} (h : OwnI w base v xs) (hb : Below w.heap.size w w') : OwnI w' base v xs := by
  refine ⟨h.1.kept (row := none) ⟨hb.os, hb.tape, hb.output, hb.size, fun k hk _ => hb.block k hk⟩ ?_, h.2⟩
  cases h1 : v.ownBlock with
  | none => exact .inl rfl
  | some k => exact .inr (by simp)
theorem OwnI.form {w : World} {base : Nat} {v : Value} {xs : List Int} (h : OwnI w base v xs) : ∃ a c, v = .slice a xs.length c := by
  rcases h.1.2 with ⟨rfl, h0⟩ | ⟨g, cap, cur, hv, _⟩
  · have h0 : xs.length = 0 := h0;rw [h0];exact ⟨none, 0, rfl⟩
  · exact ⟨_, _, hv⟩
theorem OwnI.ints {w : World} {base : Nat} {a : Option Addr} {n c : Nat} {xs : List Int} (h : OwnI w base (.slice a n c) xs) : Ints w a n xs := by
  rcases h.1.2 with ⟨hv, h0⟩ | ⟨g, cap, cur, hv, _⟩
  · injection hv with e1 e2 e3;subst e1 e2;have h0 : xs.length = 0 := h0;exact ⟨h0, by omega, fun k hk => by omega⟩
  · injection hv with e1 e2 e3;subst e1 e2 e3;exact intsOwn h.1 h.2.1 h.2.2
theorem OwnI.cap {w : World} {base : Nat} {a : Option Addr} {n c : Nat} {xs : List Int} (h : OwnI w base (.slice a n c) xs) : n ≤ c ∧ c ≤ 9223372036854775807 ∧ n = xs.length := by
  rcases h.1.2 with ⟨hv, h0⟩ | ⟨g, cap, cur, hv, _, _, h1, h2, _⟩
  · injection hv with e1 e2 e3;subst e1 e2 e3;exact ⟨by omega, by omega, by rw [show xs.length = 0 from h0]⟩
  · injection hv with e1 e2 e3;subst e1 e2 e3;unfold maxLen at h2;exact ⟨h1, by omega, rfl⟩
def IntsPost (w : World) (xs : List Int) (e : Ending) (w' : World) : Prop := ∃ v, e = .returned v ∧ OwnI w' w.heap.size v xs ∧ Below w.heap.size w w'
theorem ownI_lit {W : World} {g : Nat} {xs : List Int} (hg : W.heap.size = g) (base : Nat) (hb : base ≤ g) (hx : ∀ x ∈ xs, I64 x) (hn : xs.length ≤ 1000) : OwnI (W.alloc (.cells (intVals xs).toArray 3)) base (.slice (some ⟨g, 0, none⟩) xs.length xs.length) xs := by
  subst hg
  refine ⟨?_, hx, by omega⟩
  have := World.ownsRow_lit (base := base) (e := 3) (size := 1) W (intVals xs).toArray xs.length hb (by unfold maxLen; omega) (by simp [intVals])
  simpa using this
theorem cloneInts_any (a : Option Addr) (n c : Nat) (xs : List Int) (w : World) (h : Ints w a n xs) :
    Calls Tryz.prog 93 #[.slice a n c] w (IntsPost w xs) := by
  have HL := Lib.hid h.1
  have hn := h.2.1
  have HM := Lib.hid h.mem
  have H := Lib.hid h
  clear h
  cases a with
  | none =>
    have hq := fun w n c n' c' => Lib.run_eql_slice_nil (P := Tryz.prog) w 22 3 none n c n' c' Tryz.underlying22
    go_enter Tryz.func93, Tryz.ntmps93
    go_wp2
    go_ret
    have h0 : xs = [] := by
      cases xs with
      | nil => rfl
      | cons r l => obtain ⟨b, o, e, _⟩ := H.out.2.2 0 (by rw [← HL.out]; simp); cases e
    subst h0;exact ⟨_, rfl, OwnI.nil _ _, Below.refl _ _⟩
  | some ad =>
    have hq := fun w n c n' c' => Lib.run_eql_slice_nil (P := Tryz.prog) w 22 3 (some ad) n c n' c' Tryz.underlying22
    go_enter Tryz.func93, Tryz.ntmps93
    go_wp2_with (at_builtin; go_loud (refine wpList_appendR (w.alloc (.cells #[] 3)) rfl (.tmp 5) (.tmp 6) 22 3 rfl w.heap.size _ 1 8 Tryz.underlying22 infoI rfl (by omega) (.slice (some ⟨w.heap.size, 0, none⟩) 0 0) 0 [] rfl (World.ownsRow_lit w #[] 0 (by omega) (by unfold maxLen; omega) rfl) (some ad) n c rfl (intVals xs) (by rw [intVals_len, HL.out, Nat.mul_one]) ((H.out.ext ((Below.refl _ w).alloc (Nat.le_refl _) _)).news) (intVals_one xs) (by unfold maxLen; omega) (by omega) (by simp) ?_); intro v' w1 ho1 hg1 hv1; have HO1 := Lib.hid ho1; have HG1 := Lib.hid hg1; clear ho1 hg1 hv1)
    go_ret
    have ho := HO1.out;rw [Nat.zero_add, List.nil_append, ← HL.out] at ho;exact ⟨_, rfl, ⟨ho, HM.out, by rw [HL.out]; exact hn⟩, ((Below.refl _ w).alloc (Nat.le_refl _) _).grown HG1.out (by simp) (fun k hk => by simp [Value.ownBlock] at hk; omega)⟩
end

section
open Go.RowKit
theorem toD_ok (t : TermD) (h : TermOK t) : ∀ x ∈ toD t, I64 x := by
  intro x hx
  unfold toD at hx
  split at hx
  · split at hx
    · simp at hx; subst hx; exact h.2.2.1
    · split at hx
      · simp at hx; rcases hx with rfl | rfl
        · exact h.2.2.1
        · exact h.2.2.2
      · cases hx
  · cases hx
theorem below_size' {w w' : World} {o : Obj} (h : Below (w.alloc o).heap.size (w.alloc o) w') : w.heap.size ≤ w'.heap.size := by have := h.size; simp at this; omega
theorem to_any (t : TermD) (w : World) (h : TermOK t) : Calls Tryz.prog 124 #[termV t] w (IntsPost w (toD t)) := by
  have HT := Lib.hid h
  have HO := Lib.hid (toD_ok t h)
  clear h
  obtain ⟨k, a, x, y⟩ := t
  by_cases ht : termB ⟨k, a, x, y⟩ = true
  · have HB := Lib.hid ht;by_cases k1 : k = 1
    · subst k1;have HE : Hid (toD ⟨1, a, x, y⟩ = [x]) := by rw [Hid, toD, if_pos ht, if_pos rfl]
      clear ht
      go_enter Tryz.func124, Tryz.ntmps124
      go_wp2_with (go_at_call 128; refine (isTerm_any ⟨1, a, x, y⟩ _ HT.out).mono ?_; rintro e w' ⟨rfl, hb'⟩; rw [HB.out]; obtain ⟨g1, g2⟩ := bcell hb'; have HB' := Lib.hid hb'; clear hb')
      go_ret
      rw [HE.out];exact ⟨_, rfl, (ownI_lit (xs := [x]) rfl _ (below_size' HB'.out) (by have := HO.out; rwa [HE.out] at this) (by simp)), (ext_trans (ext_alloc _ _) HB'.out).alloc (below_size' HB'.out) _⟩
    · have b1 : (k == 1) = false := by simpa using k1
      by_cases k2 : k = 2
      · subst k2;have HE : Hid (toD ⟨2, a, x, y⟩ = [x, y]) := by rw [Hid, toD, if_pos ht, if_neg (by simp), if_pos rfl]
        clear ht k1
        go_enter Tryz.func124, Tryz.ntmps124
        go_wp2_with (first
          | (go_at_call 93
             refine (cloneInts_any _ _ _ [x, y] _ (ints_lit HK.out [x, y] (by have := HO.out; rwa [HE.out] at this) (by simp) (fun k hk => by match k, hk with | 0, _ => rfl | 1, _ => rfl))).mono ?_;rintro e w2 ⟨v, rfl, ho, hb2⟩;have HO2 := Lib.hid ho;have HB2 := Lib.hid hb2;clear ho hb2)
          | (go_at_call 128
             refine (isTerm_any ⟨2, a, x, y⟩ _ HT.out).mono ?_;rintro e w' ⟨rfl, hb'⟩;rw [HB.out];obtain ⟨g1, g2⟩ := bcell hb';have HK := Lib.hid (block_ext hb' (heap_alloc_new w (termO ⟨2, a, x, y⟩)));have HB' := Lib.hid hb';clear hb'))
        go_ret
        rw [HE.out];exact ⟨_, rfl, HO2.out.mono (below_size' HB'.out), ext_trans (ext_trans (ext_alloc _ _) HB'.out) HB2.out⟩
      · have b2 : (k == 2) = false := by simpa using k2
        have HE : Hid (toD ⟨k, a, x, y⟩ = []) := by rw [Hid, toD, if_pos ht, if_neg k1, if_neg k2]
        clear ht k1 k2
        go_enter Tryz.func124, Tryz.ntmps124
        go_wp2_with (go_at_call 128; refine (isTerm_any ⟨k, a, x, y⟩ _ HT.out).mono ?_; rintro e w' ⟨rfl, hb'⟩; rw [HB.out]; obtain ⟨g1, g2⟩ := bcell hb'; have HB' := Lib.hid hb'; clear hb')
        go_ret
        rw [HE.out];exact ⟨_, rfl, OwnI.nil _ _, ext_trans (ext_alloc _ _) HB'.out⟩
  · have HE : Hid (toD ⟨k, a, x, y⟩ = []) := by rw [Hid, toD, if_neg ht]
    have ht' : termB ⟨k, a, x, y⟩ = false := by simpa using ht
    have HB := Lib.hid ht';clear ht ht'
    go_enter Tryz.func124, Tryz.ntmps124
    go_wp2_with (go_at_call 128; refine (isTerm_any ⟨k, a, x, y⟩ _ HT.out).mono ?_; rintro e w' ⟨rfl, hb'⟩; rw [HB.out]; obtain ⟨g1, g2⟩ := bcell hb'; have HB' := Lib.hid hb'; clear hb')
    go_ret
    rw [HE.out];exact ⟨_, rfl, OwnI.nil _ _, ext_trans (ext_alloc _ _) HB'.out⟩
end

section
open Go.RowKit Go.Shelf
attribute [local go_sem] Oper.semAt_some wide_fn wide_depth wide_fnR wide_depthR
def encN (x : Nat) : Array Value := #[.int .i64 (x : Int)]
def restL (f : Nat → Bool) (k : Nat) : List Nat := (List.range' k (200 - k)).filter f
theorem restL_zero (f : Nat → Bool) : restL f 0 = listS f := by rw [restL, listS, List.range_eq_range']
theorem restL_end (f : Nat → Bool) : restL f 200 = [] := rfl
theorem restL_step (f : Nat → Bool) (k : Nat) (h : k < 200) : restL f k = if f k then k :: restL f (k + 1) else restL f (k + 1) := by
  rw [restL, show 200 - k = (200 - (k + 1)) + 1 by omega, List.range'_succ, List.filter_cons]
  rfl
abbrev setO (f : Nat → Bool) : Obj := .cells (setA f) 124 (0, 0)
theorem each_any (S : Nat) (w : World) : Calls Tryz.prog 88 #[.pointer (some ⟨S, 0, none⟩)] w fun e w' => e = .returned (.func (.func 139) #[] #[.pointer (some ⟨w.heap.size, 0, none⟩)]) ∧ w' = w.alloc (.cells #[.pointer (some ⟨S, 0, none⟩)] 189) := by
  go_enter Tryz.func88, Tryz.ntmps88
  go_wp2
  go_ret
  exact ⟨rfl, rfl⟩
theorem each_iterI (f : Nat → Bool) (G S : Nat) : IterI Tryz.prog 139 #[.pointer (some ⟨G, 0, none⟩)] encN (listS f) (fun W => W.cell? ⟨G, 0, none⟩ = some (.pointer (some ⟨S, 0, none⟩)) ∧ W.heap[S]? = some (setO f)) := by
  intro l K Kx W hK hKx hInv hY h0
  refine callsIn_of_wp Tryz.func139 rfl trivial ?_ rfl
  simp only [Tryz.ntmps139, List.size_toArray, List.length_cons, List.length_nil, Nat.reduceAdd, Nat.reduceSub, Array.replicate_succ, Array.replicate_zero, List.push_toArray, List.append_toArray, List.nil_append, List.cons_append]
  have HY := Lib.hid hY
  have HI := Lib.hid hInv
  have HK0 := Lib.hid hK
  have H0 : Hid (K (restL f 0) W) := by rw [Hid, restL_zero]; exact h0
  have hg0 : W.cell? ⟨G, 0, none⟩ = some (.pointer (some ⟨S, 0, none⟩)) := (hInv _ _ h0).1
  clear hY hInv hK hKx h0
  gi_wp2
  gi_loopw [6] (fun i wr => ∃ k : Nat, i = .int .i64 k ∧ k ≤ 200 ∧ Hid (K (restL f k) wr)) (fun i _ => 200 - (intOf i).toNat)
  case atStart => exact ⟨0, rfl, by omega, H0.out⟩
  case round =>
    obtain ⟨k, rfl, hk, HK⟩ := hrel;clear hg0;have hSr := (HI.out _ _ HK.out).2;have hn : ∀ q, (wr.drewN q).cell? ⟨S, 0, none⟩ = some (.bool (f 0)) := fun q => by rw [cell_of_row (wr.drewN q) _ _ _ _ _ hSr, setA_at _ _ (by omega)]
    have hne : wr.cell? ⟨S, 0, none⟩ = some (.bool (f 0)) := hn 0;by_cases hlt : k < 200
    · have hc : wr.cell? ⟨S, k, none⟩ = some (.bool (f k)) := by rw [cell_of_row _ _ _ _ _ _ hSr, setA_at _ _ hlt]
      have HST := Lib.hid (restL_step f k hlt);have hlt' : (k : Int) < 200 := by omega
      clear hSr hn;by_cases hf : f k = true
      · rw [hf] at hc;have HR : Hid (restL f k = k :: restL f (k + 1)) := by rw [Hid, HST.out, if_pos hf]
        clear hf HST
        gi_wp2
        refine wide_quiet_lit (by kernel_rfl) (by kernel_rfl) ?_
        repeat (go_big_quiet_step (fail))
        refine wpQuiet_nil ?_;rintro _ ⟨nq, rfl⟩;have HKq : Hid (K (restL f k) (wr.drewN nq)) := HK0.out _ _ _ HK.out (ext_drewN (Below.refl _ _) nq);obtain ⟨fn, tmps, assign, body, hy, hR⟩ := HY.out (restL f k) k (wr.drewN nq) (by rw [HR.out]; rfl) HKq.out;unfold encN at hy;have hT : nxL (restL f k) k = restL f (k + 1) := by rw [HR.out]; rfl
        rw [hT] at hR;have HR2 := Lib.hid hR;clear hT hR HKq
        gi_wp2
        refine HR2.out.mono ?_;rintro e W' (⟨rfl, hJ'⟩ | ⟨rfl, hX'⟩)
        · have HK1 := Lib.hid hJ';clear hJ' hy HR2
          gi_wp2
          go_roundw
          case rel => exact ⟨k + 1, by go_num, by omega, HK1.out⟩
          case measure => simp [intOf]; omega
        · have HX := Lib.hid hX';clear hX' hy HR2
          gi_wp2
          exact bodyPost_ret (v := .tuple #[]) (by simp [results, Tryz.results139, go_sem]) rfl ⟨⟨_, rfl⟩, Or.inr HX.out⟩
      · have hf' : f k = false := by simpa using hf
        rw [hf'] at hc;have HR : Hid (restL f k = restL f (k + 1)) := by rw [Hid, HST.out, if_neg hf]
        clear hf hf' HST
        gi_wp2
        refine wide_quiet_lit (by kernel_rfl) (by kernel_rfl) ?_
        repeat (go_big_quiet_step (fail))
        refine wpQuiet_nil ?_;rintro _ ⟨nq, rfl⟩;have HKq : Hid (K (restL f (k + 1)) (wr.drewN nq)) := by rw [← HR.out]; exact HK0.out _ _ _ HK.out (ext_drewN (Below.refl _ _) nq)
        gi_wp2
        go_roundw
        case rel => exact ⟨k + 1, by go_num, by omega, HKq.out⟩
        case measure => simp [intOf]; omega
    · obtain rfl : k = 200 := by omega
      clear hSr hn
      gi_wp2
      go_end0
      exact ⟨⟨_, rfl⟩, Or.inl ⟨_, restL_end f, HK.out⟩⟩
theorem each_iter (f : Nat → Bool) (G S : Nat) (w : World) (hG : w.cell? ⟨G, 0, none⟩ = some (.pointer (some ⟨S, 0, none⟩))) (hS : w.heap[S]? = some (setO f)) :
    IterL Tryz.prog 139 #[.pointer (some ⟨G, 0, none⟩)] encN (listS f) w :=
  (each_iterI f G S).mono fun W hb => ⟨cell_ext hb hG, block_ext hb hS⟩
end

section
open Go.RowKit Go.Shelf
attribute [local go_sem] Oper.semAt_some wide_fn wide_depth wide_fnR wide_depthR
theorem intsN_ok (l : List Nat) (h : ∀ x ∈ l, x < 1000000) : ∀ x ∈ intsN l, I64 x := by
  intro x hx
  simp only [intsN, List.mem_map] at hx
  obtain ⟨k, hk, rfl⟩ := hx
  have := h k hk
  unfold I64
  omega
theorem own_nobook {w : World} {base : Nat} {e : TypeId} {size : Nat} {v : Value} {n : Nat} {xs : List Value} (h : w.ownsRow base e size v n xs) : ∀ (j : Nat) (o : Obj), v.ownBlock = some j → w.heap[j]? = some o → isBook o = false := by
  intro j o hj ho
  rcases h.2 with ⟨rfl, _⟩ | ⟨g, cap, cur, rfl, _, hh, _⟩
  · cases hj
  · simp only [Value.ownBlock, Option.some.injEq] at hj;subst hj;rw [hh] at ho;cases ho;rfl
theorem grown_row {w w' : World} {row : Option Nat} (hg : w.grownBy w' row) {k : Nat} {o : Obj} (hk : w.heap[k]? = some o) (hne : row ≠ some k) : w'.heap[k]? = some o :=
  (hg.block k (Array.getElem?_eq_some_iff.1 hk).1 (fun e => hne e.symm)).trans hk
theorem grown_setCell (w : World) (b o : Nat) (u : Value) : w.grownBy (w.setCell ⟨b, o, none⟩ u) (some b) :=
  ⟨rfl, rfl, rfl, by simp, fun k _ hne => Below.heap_setCell _ _ _ _ (fun e => hne (by rw [e]))⟩
def AJ (w : World) (B : Nat) (base : Nat) (xs : List Int) (W : World) : Prop :=
  ∃ v, W.heap[B]? = some (.cells #[v] 22 (0, 0)) ∧ OwnI W base v xs ∧ v.ownBlock ≠ some B ∧ Below w.heap.size w W ∧ w.heap.size < W.heap.size
theorem Steady.ownI (D base : Nat) (v : Value) (xs : List Int) : Steady D (fun W => OwnI W base v xs) := (Steady.ownsRow _ _ _ _ _ _ _).and (Steady.pure _ _)
theorem Steady.size (D n : Nat) : Steady D (fun W => n < W.heap.size) := fun _ _ _ h hg _ => Nat.lt_of_lt_of_le h hg.size
theorem AJ.steady {w : World} {B base : Nat} {xs : List Int} {D : Nat} (hD : w.heap.size ≤ D) : Steady D (AJ w B base xs) := by
  unfold AJ
  exact Steady.ex fun v => (Steady.block _ _ rfl).and ((Steady.ownI _ _ _ _).and ((Steady.pure _ _).and ((Steady.below (Nat.le_refl _) hD).and (Steady.size _ _))))
theorem appendSeq_any (gf : Nat) (lb : Array Value) (l : List Nat) (w : World) (eg : ∀ args w, (callFunc gf args).run Tryz.prog w = .ok (.enter gf args) w) (hit : ∀ W, Below w.heap.size w W → IterL Tryz.prog gf lb encN l W) (hl : l.length ≤ 1000000) (hx : ∀ x ∈ l, x < 1000000) :
    Calls Tryz.prog 179 #[.slice none 0 0, .func (.func gf) #[] lb] w (IntsPost w (intsN l)) := by
  refine (callsIn_wide (n := 0)).1 ?_
  refine callsIn_of_wp_marks Tryz.func179 rfl trivial ?_
  simp only [Tryz.ntmps179, List.size_toArray, List.length_cons, List.length_nil, Nat.reduceAdd, Nat.reduceSub, Array.replicate_succ, Array.replicate_zero, List.push_toArray, List.append_toArray, List.nil_append, List.cons_append]
  have HIT := Lib.hid hit
  have HX := Lib.hid hx
  clear hit hx
  gi_wp2
  refine range_list (ps := #[7]) (gf := gf) (lb := lb) (enc := encN) (l := l) rfl eg (fun W => Below w.heap.size w W) (HIT.out _ (Below.refl _ _)) (fun _ => rfl)
    (fun d r W => Hid (AJ w w.heap.size w.heap.size (intsN d) W))
    (fun _ _ => False)
    (fun d r => AJ.steady (by simp)) (fun c => Steady.pure _ _) (fun d r W h => by obtain ⟨v, _, _, _, hb, _⟩ := h.out; exact hb) ?start ?round ?done ?stop
  case start => exact ⟨_, heap_alloc_new _ _, OwnI.nil _ _, by simp [Value.ownBlock], (Below.refl _ w).alloc (Nat.le_refl _) _, by simp⟩
  case round =>
    rintro lp d x r W hd hJ;unfold encN
    gi_wp2
    refine ⟨Keep.refl _, hJ, ?_⟩;clear hJ lp W;rintro lp W hJ;obtain ⟨v, hv, ho, hne, hb, hlt0⟩ := hJ.out;obtain ⟨av, cv, rfl⟩ := ho.form;have hc0 : W.cell? ⟨w.heap.size, 0, none⟩ = some (.slice av (intsN d).length cv) := by rw [cell_of_row _ _ _ _ _ _ hv]; rfl
    have hf0 : W.frozen? ⟨w.heap.size, 0, none⟩ = false := frozen_of_row _ _ _ _ _ hv;have HO := Lib.hid ho;have HV := Lib.hid hv;have HB := Lib.hid hb;have HNE := Lib.hid hne;have hlen : (intsN d).length ≤ 1000000 := by rw [hd] at hl; simp [intsN] at hl ⊢; omega
    clear hv ho hb hJ hne
    gi_wp2_with (
      (gi_at_builtin
       refine listIn_of (by repeat (first | exact noOut_round | refine noOut_then ?_ | refine noOut_block ?_)) _ _ _ rfl ?_;refine wpList_append1 rfl W (.tmp 8) (.tmp 10) 22 3 rfl w.heap.size _ 1 8 Tryz.underlying22 infoI rfl (by omega) (.slice av (intsN d).length cv) (intsN d).length _ [.int .i64 (x : Int)] rfl HO.out.1 W.heap.size rfl rfl rfl (by simp [Value.oneCell']) (by simp only [maxLen]; omega) (by omega) (by omega) ?_;intro g cap w2 hown2 hg2 hat2;have HO2 := Lib.hid hown2;have HG2 := Lib.hid hg2;have HA2 := Lib.hid hat2;have hv2 := grown_row hg2 HV.out HNE.out;have hc2 : w2.cell? ⟨w.heap.size, 0, none⟩ = some (.slice av (intsN d).length cv) := (by rw [cell_of_row _ _ _ _ _ _ hv2]; rfl)
       have hf2 : w2.frozen? ⟨w.heap.size, 0, none⟩ = false := frozen_of_row _ _ _ _ _ hv2;have hlt2 : w.heap.size < w2.heap.size := (Array.getElem?_eq_some_iff.1 hv2).1;have HV2 := Lib.hid hv2;clear hown2 hg2 hat2 hv2 hc0 hf0))
    go_wp2;have hb2 : Below w.heap.size w w2 := HB.out.grown HG2.out HB.out.size (fun k e => (HO.out.1.lt k e).1);have hgne : g ≠ w.heap.size := by
      rcases HA2.out with h | h
      · exact fun e => HNE.out (by rw [← h, e])
      · omega
    have hd2 : intsN (d ++ [x]) = intsN d ++ [(x : Int)] := by simp [intsN]
    refine ⟨(Keep.grown HG2.out (own_nobook HO.out.1)).trans (Keep.setCell _ _ _), ?_⟩;refine ⟨_, by have := heap_setCell_same w2 w.heap.size 0 _ _ (.slice (some ⟨g, 0, none⟩) ((intsN d).length + 1) cap) HV2.out; simpa using this, ?_, by simpa [Value.ownBlock] using hgne, ?_⟩
    · rw [hd2];refine OwnI.kept (row := some w.heap.size) (w := w2) ⟨?_, ?_, by simp; omega⟩ (grown_setCell w2 w.heap.size 0 _) (.inr (by simp [Value.ownBlock]; omega))
      · have := HO2.out;simpa [intVals] using this
      · intro z hz;rcases List.mem_append.1 hz with h | h
        · exact HO.out.2.1 z h
        · simp only [List.mem_singleton] at h;subst h;have := HX.out x (by rw [hd]; simp);unfold I64;omega
    · exact ⟨hb2.setCell (Nat.le_refl _) _, by simpa using hlt2⟩
  case done =>
    rintro D W hD hJ hK;obtain ⟨v, hv, ho, hne, hb, hlt0⟩ := hJ.out;obtain ⟨av, cv, rfl⟩ := ho.form;have hc0 : W.cell? ⟨w.heap.size, 0, none⟩ = some (.slice av (intsN l).length cv) := by rw [cell_of_row _ _ _ _ _ _ hv]; rfl
    have HO := Lib.hid ho;have HB := Lib.hid hb;have HJ := hJ;clear hv ho hb hJ hne
    gi_wp2
    obtain ⟨v2, hv2, ho2, _, hb2, _⟩ := (AJ.steady (w := w) (B := w.heap.size) (base := w.heap.size) (xs := intsN l) (D := w.heap.size) (Nat.le_refl _)).put (.deferred none) (l := D) HJ.out (by simp at hD; omega) hK rfl;refine ⟨by simp, .inl ⟨_, _, rfl, run_takeDeferred hK, ?_⟩⟩;have ho3 : OwnI (W.putObj D (.deferred none)) w.heap.size (.slice av (intsN l).length cv) (intsN l) := (Steady.ownI w.heap.size w.heap.size (.slice av (intsN l).length cv) (intsN l)).put (.deferred none) (l := D) HO.out (by simp at hD; omega) hK rfl;exact ⟨.slice av (intsN l).length cv, by simp [results, Tryz.results179, go_sem], _, rfl, ho3, hb2⟩
  case stop => rintro D c W hD h; exact h.elim
theorem collect_any (gf : Nat) (lb : Array Value) (l : List Nat) (w : World) (eg : ∀ args w, (callFunc gf args).run Tryz.prog w = .ok (.enter gf args) w) (hit : ∀ W, Below w.heap.size w W → IterL Tryz.prog gf lb encN l W) (hl : l.length ≤ 1000000) (hx : ∀ x ∈ l, x < 1000000) :
    Calls Tryz.prog 138 #[.func (.func gf) #[] lb] w (IntsPost w (intsN l)) := by
  have HIT := Lib.hid hit
  have HX := Lib.hid hx
  have EG := Lib.hid eg
  clear hit hx eg
  go_enter Tryz.func138, Tryz.ntmps138
  go_wp2_with (go_at_call 179; refine (appendSeq_any gf lb l w EG.out HIT.out hl HX.out).mono ?_; rintro e w' ⟨v, rfl, ho, hb⟩; have HO := Lib.hid ho; have HB := Lib.hid hb; clear ho hb)
  go_ret
  exact ⟨_, rfl, HO.out, HB.out⟩
theorem listS_lt (f : Nat → Bool) : ∀ x ∈ listS f, x < 200 := fun x hx => by simp [listS] at hx; exact hx.1
theorem listS_len (f : Nat → Bool) : (listS f).length ≤ 200 := by
  have := List.length_filter_le f (List.range 200)
  simpa [listS] using this
theorem enter_each (args : Array Value) (w : World) : (callFunc 139 args).run Tryz.prog w = .ok (.enter 139 args) w := enters_of Tryz.func139 (by kernel_rfl) rfl args w
theorem list_any (f : Nat → Bool) (w : World) : Calls Tryz.prog 87 #[.agg (setA f)] w (IntsPost w (intsN (listS f))) := by
  go_enter Tryz.func87, Tryz.ntmps87
  go_wp2_with (first
    | (go_at_call 88; refine (each_any _ _).mono ?_; rintro e w' ⟨rfl, rfl⟩)
    | (go_at_call 138
       refine (collect_any _ _ (listS f) _ enter_each (fun W hW => each_iter f _ w.heap.size W ?_ ?_) (by have := listS_len f; omega) (fun x hx => by have := listS_lt f x hx; omega)).mono ?_
       · exact cell_ext hW (by rw [cell_of_row _ _ _ _ _ _ (heap_at _ _ _ (by simp))]; rfl)
       · exact block_ext hW ((Below.heap_alloc _ _ _ (by simp)).trans (heap_alloc_new _ _))
       rintro e w' ⟨v, rfl, ho, hb⟩;have HO := Lib.hid ho;have HB := Lib.hid hb;clear ho hb))
  go_ret
  exact ⟨_, rfl, HO.out.mono (by simp; omega), ext_trans ((ext_alloc _ _).alloc (by simp) _) HB.out⟩
end

section
open Go.RowKit
theorem size_set : (Tryz.prog.info? 124).map (·.size) = some 200 := by kernel_rfl
theorem zero_set : Tryz.zeroCells124 = setA fun _ => false := by kernel_rfl
def SetPost (w : World) (f : Nat → Bool) (e : Ending) (w' : World) : Prop := e = .returned (.agg (setA f)) ∧ Below w.heap.size w w'
theorem load_set {W : World} {g : Nat} {f : Nat → Bool} (hg : W.heap[g]? = some (setO f)) : (loadVar 124 ⟨g, 0, none⟩).run Tryz.prog W = .ok (.agg (setA f)) W :=
  run_loadVar_row (P := Tryz.prog) W g 124 124 _ (0, 0) _ hg Tryz.underlying124 rfl (by rw [setA_size]; exact size_set)
theorem set_put {W : World} {g : Nat} {f : Nat → Bool} (hg : W.heap[g]? = some (setO f)) (j : Nat) (hj : j < 200) (b : Bool) : (W.setCell ⟨g, j, none⟩ (.bool b)).heap[g]? = some (setO fun k => if k = j then b else f k) := by
  rw [heap_setCell_same _ _ _ _ _ _ hg, setA_put _ _ hj]
theorem set_cell {W : World} {g : Nat} {f : Nat → Bool} (hg : W.heap[g]? = some (setO f)) (j : Nat) (hj : j < 200) : W.cell? ⟨g, j, none⟩ = some (.bool (f j)) := by rw [cell_of_row _ _ _ _ _ _ hg, setA_at _ _ hj]
theorem set_free {W : World} {g : Nat} {f : Nat → Bool} (hg : W.heap[g]? = some (setO f)) (j : Nat) : W.frozen? ⟨g, j, none⟩ = false := frozen_of_row _ _ _ _ _ hg
theorem lt_of_heap {W : World} {g : Nat} {o : Obj} (h : W.heap[g]? = some o) : g < W.heap.size := (Array.getElem?_eq_some_iff.1 h).1
theorem lessS_put (f : Nat → Bool) (b : Nat) : (fun k => if k = b then false else f k) = lessS f b := by
  funext k
  by_cases e : k = b <;> simp [lessS, e]
theorem less_any (f : Nat → Bool) (b : Nat) (hb : b < 200) (w : World) : Calls Tryz.prog 131 #[.agg (setA f), .int .i64 (b : Int)] w (SetPost w (lessS f b)) := by
  go_enter Tryz.func131, Tryz.ntmps131
  go_upto_region 1 with (fail)
  obtain ⟨W, hW⟩ : ∃ W, W = (w.alloc (setO f)).alloc (.cells Tryz.zeroCells124 124) := ⟨_, rfl⟩
  rw [← hW]
  have hs : W.heap[w.heap.size]? = some (setO f) := by rw [hW, Below.heap_alloc _ _ _ (by simp)]; exact heap_alloc_new _ _
  have hr : W.heap[w.heap.size + 1]? = some (setO fun _ => false) := by rw [hW, heap_at _ _ _ (by simp), zero_set]
  have hB : Below w.heap.size w W := by rw [hW]; exact (ext_alloc _ _).alloc (by simp) _
  have HW := Lib.hid hW
  clear hW
  have hc := set_cell hs b hb
  have hf := set_free hs b
  have hs2 := set_put hs b hb false
  rw [lessS_put] at hs2
  have hr2 := (grown_row (grown_setCell W w.heap.size b (.bool false)) hr (by simp))
  have hB2 := hB.setCell (p := ⟨w.heap.size, b, none⟩) (Nat.le_refl _) (.bool false)
  have HS2 := Lib.hid hs2
  have HR2 := Lib.hid hr2
  have HB2 := Lib.hid hB2
  have hl := lt_of_heap hs
  clear hs hr hB hs2 hr2 hB2
  go_wp2_with (first
    | (refine wpList_load_row rfl 124 _ rfl w.heap.size rfl 124 _ (0, 0) _ HS2.out Tryz.underlying124 rfl (by rw [setA_size]; exact size_set) ?_)
    | (refine wpList_store_row rfl 124 _ _ rfl (w.heap.size + 1) (setA (lessS f b)) rfl rfl 124 _ HR2.out (by rw [setA_size]; exact size_set) rfl (setA_all _) ?_))
  exact bodyPost_ret (v := .agg (setA (lessS f b))) (by simp [results, Tryz.results131, asAddr, Act.put, load_set (setRow_heap _ _ _ _ _ _ HR2.out)]) rfl ⟨rfl, below_setRow HB2.out (by omega) _⟩
theorem ofS_put (xs : List Int) (k : Nat) (hk : k < xs.length) (h0 : 0 ≤ xs.getD k 0) (h1 : xs.getD k 0 < 200) : (fun j => if j = (xs.getD k 0).toNat then true else ofS (xs.take k) j) = ofS (xs.take (k + 1)) := by
  funext j
  rw [takeS xs k 0 hk, ofS, ofS, List.contains_append]
  generalize xs.getD k 0 = x at h0 h1
  by_cases e : j = x.toNat
  · subst e;have h3 : ((x.toNat : Nat) : Int) = x := Int.toNat_of_nonneg h0;have h4 : x.toNat < 200 := by omega
    simp [h3, h4]
  · have e2 : ¬ (j : Int) = x := by omega
    simp [e, e2]
theorem ofS_skip (xs : List Int) (k : Nat) (hk : k < xs.length) (h : xs.getD k 0 < 0 ∨ 200 ≤ xs.getD k 0) : ofS (xs.take k) = ofS (xs.take (k + 1)) := by
  funext j
  rw [takeS xs k 0 hk, ofS, ofS, List.contains_append]
  generalize xs.getD k 0 = x at h
  by_cases hj : j < 200
  · have e2 : ¬ (j : Int) = x := by omega
    simp [e2]
  · simp [hj]
theorem store_to {W : World} {g : Nat} {f h : Nat → Bool} {j : Nat} {b : Bool} (hg : W.heap[g]? = some (setO f)) (hj : j < 200) (e : (fun k => if k = j then b else f k) = h) : (W.setCell ⟨g, j, none⟩ (.bool b)).heap[g]? = some (setO h) := by rw [← e]; exact set_put hg j hj b
theorem of_any (a : Option Addr) (n c : Nat) (xs : List Int) (w : World) (h : Ints w a n xs) : Calls Tryz.prog 102 #[.slice a n c] w (SetPost w (ofS xs)) := by
  have HL := Lib.hid h.1
  have hn := h.2.1
  have H := Lib.hid h
  clear h
  go_enter Tryz.func102, Tryz.ntmps102
  go_wp2
  go_loopw [4, 7] (fun _ i wr => ∃ (k : Nat), k ≤ n ∧ i = .int .i64 k ∧ Hid (wr.heap[w.heap.size]? = some (setO (ofS (xs.take k)))) ∧ Hid (Below w.heap.size w wr)) (fun _ i _ => n - (intOf i).toNat)
  case atStart => exact ⟨0, by omega, rfl, by rw [Hid, heap_alloc_new, zero_set]; congr 3; funext j; simp [ofS], ext_alloc _ _⟩
  case round =>
    obtain ⟨k, hk, rfl, HS, HB⟩ := hrel;by_cases hlt : k < n
    · obtain ⟨b, o, rfl, hc, hw1, hw2⟩ := (H.out.ext HB.out).2.2 k hlt;have hkx : k < xs.length := by rw [HL.out]; exact hlt
      by_cases h0 : 0 ≤ xs.getD k 0
      · by_cases h1 : xs.getD k 0 < 200
        · have hx : (xs.getD k 0).toNat < 200 := by omega
          have hcell := set_cell HS.out _ hx;have hfr := set_free HS.out (xs.getD k 0).toNat;have HS2 := Lib.hid (store_to HS.out hx (ofS_put xs k hkx h0 h1));have hl := lt_of_heap HS.out;generalize xs.getD k 0 = x at *;generalize ofS (xs.take k) x.toNat = bb at *;go_wp2
          go_roundw
          case rel => exact ⟨k + 1, by omega, by go_num, HS2, HB.out.setCell (Nat.le_refl _) _⟩
          case measure => simp [intOf]; omega
        · have HS2 : Hid (wr.heap[w.heap.size]? = some (setO (ofS (xs.take (k + 1))))) := by rw [Hid, ← ofS_skip xs k hkx (.inr (by omega))]; exact HS.out
          generalize xs.getD k 0 = x at *;go_wp2
          go_roundw
          case rel => exact ⟨k + 1, by omega, by go_num, HS2, HB⟩
          case measure => simp [intOf]; omega
      · have HS2 : Hid (wr.heap[w.heap.size]? = some (setO (ofS (xs.take (k + 1))))) := by rw [Hid, ← ofS_skip xs k hkx (.inl (by omega))]; exact HS.out
        generalize xs.getD k 0 = x at *;go_wp2
        go_roundw
        case rel => exact ⟨k + 1, by omega, by go_num, HS2, HB⟩
        case measure => simp [intOf]; omega
    · have HT : Hid (xs.take k = xs) := List.take_of_length_le (by rw [HL.out]; omega);have HSx : Hid (wr.heap[w.heap.size]? = some (setO (ofS xs))) := by have := HS.out; rwa [HT.out] at this
      go_wp2_with (first
        | (refine wpList_load_row rfl 124 _ rfl w.heap.size rfl 124 _ (0, 0) _ HSx.out Tryz.underlying124 rfl (by rw [setA_size]; exact size_set) ?_)
        | (refine wpList_store_row rfl 124 _ _ rfl w.heap.size (setA (ofS xs)) rfl rfl 124 _ HSx.out (by rw [setA_size]; exact size_set) rfl (setA_all _) ?_))
      exact bodyPost_ret (v := .agg (setA (ofS xs))) (by simp [results, Tryz.results102, asAddr, Act.put, load_set (setRow_heap _ _ _ _ _ _ HSx.out)]) rfl ⟨rfl, below_setRow HB.out (by omega) _⟩
def NRows (w : World) (a : Option Addr) (n : Nat) (L : List (List Nat)) : Prop :=
  L.length = n ∧ n ≤ 1000 ∧ ∀ k xs, L[k]? = some xs → ∃ b o ra rc, a = some ⟨b, o, none⟩ ∧ w.cell? ⟨b, o + k, none⟩ = some (.slice ra xs.length rc) ∧ Ints w ra xs.length (intsN xs)
theorem NRows.ext {w w' : World} {a : Option Addr} {n : Nat} {L : List (List Nat)} (h : NRows w a n L) (hb : Below w.heap.size w w') : NRows w' a n L :=
  ⟨h.1, h.2.1, fun k xs hx => by
    obtain ⟨b, o, ra, rc, e, hc, hi⟩ := h.2.2 k xs hx;exact ⟨b, o, ra, rc, e, cell_ext hb hc, hi.ext hb⟩⟩
structure WalkD where
  pa : Option Addr
  pn : Nat
  pc : Nat
  ba : Option Addr
  bn : Nat
  bc : Nat
  ta : Option Addr
  tc : Nat
  fa : Option Addr
  fc : Nat
abbrev walkV (d : WalkD) : Value := .agg #[.slice d.pa d.pn d.pc, .slice d.ba d.bn d.bc, .slice d.ta d.bn d.tc, .slice d.fa d.bn d.fc]
abbrev walkO (d : WalkD) : Obj := .cells #[.slice d.pa d.pn d.pc, .slice d.ba d.bn d.bc, .slice d.ta d.bn d.tc, .slice d.fa d.bn d.fc] 116
def toRows (ts : List TermD) : List (List Nat) := (List.range ts.length).map (nx ts)
def fromRows (ts : List TermD) : List (List Nat) := (List.range ts.length).map (pv ts)
def WalkOK (w : World) (d : WalkD) (ts : List TermD) : Prop := ts.length = d.bn ∧ d.bn ≤ 200 ∧ NRows w d.ta d.bn (toRows ts) ∧ NRows w d.fa d.bn (fromRows ts)
theorem WalkOK.ext {w w' : World} {d : WalkD} {ts : List TermD} (h : WalkOK w d ts) (hb : Below w.heap.size w w') : WalkOK w' d ts := ⟨h.1, h.2.1, h.2.2.1.ext hb, h.2.2.2.ext hb⟩
theorem whole_any (d : WalkD) (hd : d.bn ≤ 200) (w : World) : Calls Tryz.prog 80 #[walkV d] w (SetPost w (wholeS d.bn)) := by
  go_enter Tryz.func80, Tryz.ntmps80
  go_wp2
  go_loopw [3, 8] (fun _ i wr => ∃ (k : Nat), k ≤ d.bn ∧ i = .int .i64 k ∧ Hid (wr.heap[w.heap.size + 1]? = some (setO (wholeS k))) ∧ Hid (Below w.heap.size w wr)) (fun _ i _ => d.bn - (intOf i).toNat)
  case atStart => exact ⟨0, by omega, rfl, by rw [Hid, heap_at _ _ _ (by simp), zero_set]; rfl, (ext_alloc _ _).alloc (by simp) _⟩
  case round =>
    obtain ⟨k, hk, rfl, HS, HB⟩ := hrel;by_cases hlt : k < d.bn
    · have hcell := set_cell HS.out k (by omega);have hfr := set_free HS.out k;have HS2 := Lib.hid (store_to (h := wholeS (k + 1)) (b := true) HS.out (show k < 200 by omega) (by funext j; by_cases e : j = k <;> simp [wholeS, e] <;> omega));have hl := lt_of_heap HS.out;generalize wholeS k k = bb at *;go_wp2
      go_roundw
      case rel => exact ⟨k + 1, by omega, by go_num, HS2, HB.out.setCell (by simp) _⟩
      case measure => simp [intOf]; omega
    · obtain rfl : k = d.bn := by omega
      go_wp2_with (first
        | (refine wpList_load_row rfl 124 _ rfl (w.heap.size + 1) rfl 124 _ (0, 0) _ HS.out Tryz.underlying124 rfl (by rw [setA_size]; exact size_set) ?_)
        | (refine wpList_store_row rfl 124 _ _ rfl (w.heap.size + 1) (setA (wholeS d.bn)) rfl rfl 124 _ HS.out (by rw [setA_size]; exact size_set) rfl (setA_all _) ?_))
      exact bodyPost_ret (v := .agg (setA (wholeS d.bn))) (by simp [results, Tryz.results80, asAddr, Act.put, load_set (setRow_heap _ _ _ _ _ _ HS.out)]) rfl ⟨rfl, below_setRow HB.out (by omega) _⟩
end

section
open Go.RowKit
theorem ownI_pop {w : World} {base : Nat} {g c : Nat} {xs : List Int} {x : Int} (h : OwnI w base (.slice (some ⟨g, 0, none⟩) (xs.length + 1) c) (xs ++ [x])) : OwnI w base (.slice (some ⟨g, 0, none⟩) xs.length c) xs := by
  refine ⟨⟨by simp [intVals], ?_⟩, fun z hz => h.2.1 z (by simp [hz]), by have := h.2.2; simp at this; omega⟩
  rcases h.1.2 with ⟨hv, _⟩ | ⟨g', cap, cur, hv, hb, hh, h1, h2, h3, h4⟩
  · cases hv
  · injection hv with e1 e2 e3;injection e1 with e1;injection e1 with e1 _ _;subst e1 e3;refine .inr ⟨g, c, cur, rfl, hb, hh, by simp at h1; omega, h2, h3, ?_⟩;have h5 : (cur.toList.take ((xs ++ [x]).length * 1)).take xs.length = (intVals (xs ++ [x])).take xs.length := by rw [h4]
    rw [List.take_take] at h5;simpa [intVals] using h5
theorem ownI_last {w : World} {base : Nat} {g c : Nat} {xs : List Int} {x : Int} (h : OwnI w base (.slice (some ⟨g, 0, none⟩) (xs.length + 1) c) (xs ++ [x])) : w.cell? ⟨g, xs.length, none⟩ = some (.int .i64 x) := by
  have h1 := h.ints
  obtain ⟨b, o, e, hc, _⟩ := h1.2.2 xs.length (by omega)
  injection e with e
  injection e with e1 e2
  subst e1 e2
  rw [Nat.zero_add] at hc
  rw [hc]
  simp [List.getD_eq_getElem?_getD]
def WJ (next : Nat → List Nat) (f : Nat → Bool) (b : Nat) (w : World) (st seen : List Nat) (x : Option (Nat × Nat)) (v : Value) (wr : World) : Prop :=
  WInv next f b st (fun y => seen.contains y) x ∧ seen.Nodup ∧ (∀ y ∈ seen, y < 200) ∧ wr.heap[w.heap.size + 1]? = some (setO f) ∧ wr.heap[w.heap.size + 1 + 1]? = some (setO fun y => seen.contains y) ∧
    OwnI wr (w.heap.size + 1 + 1 + 1) v (intsN st) ∧ Below w.heap.size w wr
theorem Reach.lt {next : Nat → List Nat} {inn : Nat → Bool} {b y n : Nat} (h : Reach next inn b y) (hx : ∀ k y, y ∈ next k → y < 200 ∧ (inn y = true → y < n)) : y < n := by
  cases h with
  | one h1 h2 => exact (hx _ _ h1).2 h2
  | step _ h1 h2 => exact (hx _ _ h1).2 h2
theorem walk_at (d : WalkD) (b : Nat) (f : Nat → Bool) (ra : Option Addr) (rn rc : Nat) (L : List (List Nat)) (next : Nat → List Nat) (w : World) (hb : b < 200) (hrn : rn ≤ 200) (hcf : Canon f) (hf : f b = true → b < rn)
    (hL : ∀ k, k < rn → L[k]? = some (next k)) (hx : ∀ k y, y ∈ next k → y < 200 ∧ (f y = true → y < rn)) (hw : NRows w ra rn L) :
    Calls Tryz.prog 129 #[walkV d, .int .i64 (b : Int), .agg (setA f), .slice ra rn rc] w (SetPost w (walkF next f b)) := by
  have HC := Lib.hid hcf
  have HF := Lib.hid hf
  have HL := Lib.hid hL
  have HX := Lib.hid hx
  have HW := Lib.hid hw
  clear hcf hf hL hx hw
  go_enter Tryz.func129, Tryz.ntmps129
  go_upto_region 1 with (fail)
  obtain ⟨W, hW⟩ : ∃ W, W = ((w.alloc (walkO d)).alloc (setO f)).alloc (.cells Tryz.zeroCells124 124) := ⟨_, rfl⟩
  rw [← hW]
  have hs : W.heap[w.heap.size + 1]? = some (setO f) := by rw [hW, Below.heap_alloc _ _ _ (by simp)]; exact heap_at _ _ _ (by simp)
  have hr : W.heap[w.heap.size + 1 + 1]? = some (setO fun _ => false) := by rw [hW, heap_at _ _ _ (by simp), zero_set]
  have hB : Below w.heap.size w W := by rw [hW]; exact ((ext_alloc _ _).alloc (by simp) _).alloc (by simp; omega) _
  have hWs : W.heap.size = w.heap.size + 1 + 1 + 1 := by rw [hW]; simp
  have HWs := Lib.hid hWs
  have hc := set_cell hs b hb
  clear hW hWs
  by_cases hfb : f b = true
  · rw [hfb] at hc;have HS := Lib.hid hs;have HR := Lib.hid hr;have HB := Lib.hid hB;have HFB := Lib.hid hfb;clear hs hr hB hfb;go_wp2
    go_loopg [9] 201 (fun gg v wr => ∃ (st seen : List Nat), st.length + 200 ≤ gg + seen.length ∧ st.length ≤ seen.length + 1 ∧ Hid (WJ next f b w st seen none v wr))
    case atStart =>
      refine ⟨[b], [], by simp, by simp, by simpa using WInv.start next f b, by simp, by simp, ?_, ?_, ?_, ?_⟩
      · exact (Below.heap_alloc _ _ _ (by rw [HWs.out]; omega)).trans HS.out
      · exact (Below.heap_alloc _ _ _ (by rw [HWs.out]; omega)).trans HR.out
      · exact ownI_lit (xs := intsN [b]) rfl _ (by rw [HWs.out]; omega) (intsN_ok [b] (by simp; omega)) (by simp [intsN])
      · exact HB.out.alloc (by rw [HWs.out]; omega) _
    case round =>
      obtain ⟨st, seen, hm, hm2, HJ⟩ := hrel;clear hc HS HR HB HWs;rcases List.eq_nil_or_concat st with rfl | ⟨st', x, rfl⟩
      · obtain ⟨h1, h2, h3, h4, h5, h6, h7⟩ := HJ.out;obtain ⟨av, cv, rfl⟩ := h6.form;have HE : Hid ((fun y => seen.contains y) = walkF next f b) := walkF_of HC.out HFB.out h1;rw [HE.out] at h5;have HS := Lib.hid h5;have HB := Lib.hid h7;clear h1 h2 h3 h4 h5 h6 h7 HJ hm
        go_wp2_with (first
          | (refine wpList_load_row rfl 124 _ rfl (w.heap.size + 1 + 1) rfl 124 _ (0, 0) _ HS.out Tryz.underlying124 rfl (by rw [setA_size]; exact size_set) ?_)
          | (refine wpList_store_row rfl 124 _ _ rfl (w.heap.size + 1 + 1) (setA (walkF next f b)) rfl rfl 124 _ HS.out (by rw [setA_size]; exact size_set) rfl (setA_all _) ?_))
        exact bodyPost_ret (v := .agg (setA (walkF next f b))) (by simp [results, Tryz.results129, asAddr, Act.put, load_set (setRow_heap _ _ _ _ _ _ HS.out)]) rfl ⟨rfl, below_setRow HB.out (by omega) _⟩
      · obtain ⟨h1, h2, h3, h4, h5, h6, h7⟩ := id HJ.out;rw [List.concat_eq_append] at h1 h6 hm hm2;have hst : intsN (st' ++ [x]) = intsN st' ++ [(x : Int)] := by simp [intsN]
        rw [hst] at h6;obtain ⟨gb, cb, hv⟩ := own_form h6.1 (by simp);have hlen' : (intsN st' ++ [(x : Int)]).length = st'.length + 1 := by simp [intsN]
        have hlen2 : (intsN st').length = st'.length := by simp [intsN]
        rw [hlen'] at hv;subst hv;rw [← hlen2] at h6;have hpop := ownI_pop h6;have hlast := ownI_last h6;rw [hlen2] at hpop hlast;have hcap := h6.cap;have hxf : f x = true := by
          rcases h1.src x (by simp) with e | e
          · rw [e]; exact HFB.out
          · exact (h1.sound x e).inn
        have hxr : x < rn := by
          rcases h1.src x (by simp) with e | e
          · rw [e]; exact HF.out HFB.out
          · exact (h1.sound x e).lt HX.out
        obtain ⟨bb, oo, xa, xc, rfl, hcr0, hir⟩ := HW.out.2.2 x (next x) (HL.out x hxr);have hcr := cell_ext h7 hcr0;have hseen : seen.length ≤ 200 := nodup_len 200 seen h2 h3;have hstl := hm;simp only [List.length_append, List.length_cons, List.length_nil, Nat.zero_add] at hstl hm2;have HJ2 : Hid (WJ next f b w st' seen (some (x, 0)) (.slice (some ⟨gb, 0, none⟩) st'.length cb) wr) :=
          ⟨h1.take x st' (fun z => by simp [or_comm]), h2, h3, h4, h5, hpop, h7⟩
        have HIR := Lib.hid hir;have hnl : (next x).length ≤ 17592186044416 := hir.2.1;have hcb : st'.length + 1 ≤ cb := by have := hcap.1; omega
        have hcb2 : cb ≤ 9223372036854775807 := hcap.2.1;have hstn : st'.length ≤ 1000 := by omega
        clear h1 h2 h3 h4 h5 h6 h7 HJ hm hst hlen' hlen2 hpop hir hxf hcap hcr0;go_wp2;obtain ⟨wo, rfl⟩ : ∃ wo : World, wo = wr := ⟨_, rfl⟩
        go_loopg [9, 12, 39] (next x).length (fun g2 v2 _ j wi => ∃ (j' : Nat) (st2 seen2 : List Nat), j = .int .i64 (j' : Int) ∧ j' ≤ (next x).length ∧ (next x).length ≤ g2 + j' ∧ st2.length + seen.length = st'.length + seen2.length ∧ Hid (WJ next f b w st2 seen2 (some (x, j')) v2 wi))
        case atStart => exact ⟨0, st', seen, rfl, Nat.zero_le _, Nat.le_refl _, rfl, HJ2⟩
        case round =>
          obtain ⟨j', st2, seen2, rfl, hj, hg2, hcnt, HJ⟩ := hrel;clear HJ2 hlast;obtain ⟨h1, h2, h3, h4, h5, h6, h7⟩ := id HJ.out;obtain ⟨va, vc, rfl⟩ := h6.form;have hseen2 : seen2.length ≤ 200 := nodup_len 200 seen2 h2 h3;by_cases hjl : j' < (next x).length
          · have hyx : (next x).getD j' 0 ∈ next x := by rw [List.getD_eq_getElem?_getD, List.getElem?_eq_getElem hjl]; exact List.getElem_mem _
            have hy := (HX.out x _ hyx).1;obtain ⟨b3, o3, rfl, hcy, _⟩ := (HIR.out.ext h7).2.2 j' hjl;have hey : (intsN (next x)).getD j' 0 = (((next x).getD j' 0 : Nat) : Int) := by simp [intsN, List.getD_eq_getElem?_getD, hjl]
            rw [hey] at hcy;have hcf := set_cell h4 _ hy;have hcs := set_cell h5 _ hy;have hfs := set_free h5 ((next x).getD j' 0);have hlS := lt_of_heap h5;have hjl' : (j' : Int) < ((next x).length : Int) := by omega
            clear hey hyx;by_cases hgo : f ((next x).getD j' 0) = true ∧ seen2.contains ((next x).getD j' 0) = false
            · obtain ⟨hg1, hg2'⟩ := hgo;have hns : (next x).getD j' 0 ∉ seen2 := by simpa using hg2'
              have hP := h1.push hjl hg1 (st2 ++ [(next x).getD j' 0]) (fun z => by simp [or_comm]) (fun z => ((next x).getD j' 0 :: seen2).contains z) (fun z => by simp);rw [hg1] at hcf;simp only [hg2'] at hcs;have HP := Lib.hid hP;have HN := Lib.hid hns;have e1 : (fun k => if k = (next x).getD j' 0 then true else seen2.contains k) = (fun z => ((next x).getD j' 0 :: seen2).contains z) := by
                funext k
                by_cases e : k = (next x).getD j' 0
                · simp [e]
                · simp [e, List.contains_cons]
              have HS1 := Lib.hid (store_to (b := true) h5 hy e1);have HF1 := Lib.hid (grown_row (grown_setCell wr (w.heap.size + 1 + 1) ((next x).getD j' 0) (.bool true)) h4 (by simp));have HO1 := Lib.hid (h6.kept (grown_setCell wr (w.heap.size + 1 + 1) ((next x).getD j' 0) (.bool true)) (by
                rcases hvb : (Value.slice va (intsN st2).length vc).ownBlock with _ | kb
                · exact .inl rfl
                · have := (h6.1.lt kb hvb).1;refine .inr ?_;intro e;injection e with e;omega))
              have HB1 := Lib.hid (h7.setCell (p := ⟨w.heap.size + 1 + 1, (next x).getD j' 0, none⟩) (by simp; omega) (.bool true));have H2 := Lib.hid h2;have H3 := Lib.hid h3;have hst2 : (intsN st2).length = st2.length := by simp [intsN]
              have hsl : st2.length ≤ 1000 := by omega
              have hsl2 : (intsN st2).length ≤ 1000 := by omega
              clear hg1 hg2' hns hP e1 h1 h2 h3 h4 h5 h6 h7 HJ;generalize hyy : (next x).getD j' 0 = y at *
              go_wp2_with (
                (at_builtin
                 refine wpList_append1 rfl (wr.setCell ⟨w.heap.size + 1 + 1, y, none⟩ (.bool true)) (.tmp 54) (.tmp 56) 22 3 rfl (w.heap.size + 1 + 1 + 1) _ 1 8 Tryz.underlying22 infoI rfl (by omega) (.slice va (intsN st2).length vc) (intsN st2).length _ [.int .i64 (y : Int)] rfl HO1.out.1 wr.heap.size (by simp) rfl rfl (by simp [Value.oneCell']) (by simp only [maxLen]; omega) (by omega) (by simp; omega) ?_;intro g cap w2 hown2 hg2 hat2;have HO2 := Lib.hid hown2;have HG2 := Lib.hid hg2;clear hown2 hg2 hat2))
              have hrow : ∀ (k : Nat), k < w.heap.size + 1 + 1 + 1 → ¬ (Value.slice va (intsN st2).length vc).ownBlock = some k := fun k hk e => by
                have := (HO1.out.1.lt k e).1;omega
              go_roundg ((next x).length - (j' + 1))
              case measure => omega
              case rel =>
                refine ⟨j' + 1, st2 ++ [y], y :: seen2, by go_num, by omega, by omega, by simp; omega, HP.out, List.nodup_cons.2 ⟨HN.out, H2.out⟩, ?_, ?_, ?_, ?_, ?_⟩
                · intro z hz;rcases List.mem_cons.1 hz with rfl | hz
                  · exact hy
                  · exact H3.out z hz
                · exact grown_row HG2.out HF1.out (hrow _ (by omega))
                · exact grown_row HG2.out HS1.out (hrow _ (by omega))
                · have e2 : intsN (st2 ++ [y]) = intsN st2 ++ [(y : Int)] := by simp [intsN]
                  rw [e2];refine ⟨?_, ?_, by simp; omega⟩
                  · have e3 : (intsN st2 ++ [(y : Int)]).length = (intsN st2).length + 1 := by simp
                    have e4 : intVals (intsN st2 ++ [(y : Int)]) = intVals (intsN st2) ++ [.int .i64 (y : Int)] := by simp [intVals]
                    rw [e3, e4];have h9 := HO2.out;rw [hst2] at h9 ⊢;exact h9
                  · intro z hz;rcases List.mem_append.1 hz with h | h
                    · exact HO1.out.2.1 z h
                    · simp only [List.mem_singleton] at h;subst h;unfold I64;omega
                · exact HB1.out.grown HG2.out (by simp; omega) (fun k e => by have := (HO1.out.1.lt k e).1; omega)
            · have HJ3 : Hid (WJ next f b w st2 seen2 (some (x, j' + 1)) (.slice va (intsN st2).length vc) wr) := by
                refine ⟨h1.skip hjl (fun hi => ?_), h2, h3, h4, h5, h6, h7⟩;cases hb2 : seen2.contains ((next x).getD j' 0) with
                | true => rfl
                | false => exact absurd ⟨hi, hb2⟩ hgo
              have hgo' : f ((next x).getD j' 0) = true → seen2.contains ((next x).getD j' 0) = true := fun hi => by
                cases hb2 : seen2.contains ((next x).getD j' 0) with
                | true => rfl
                | false => exact absurd ⟨hi, hb2⟩ hgo
              clear h1 h2 h3 h4 h5 h6 h7 HJ hgo;generalize hyy : (next x).getD j' 0 = y at *;cases hfy : f y with
              | true =>
                have hsy := hgo' hfy;rw [hfy] at hcf;simp only [hsy] at hcs;clear hgo' hsy hfy;go_wp2
                go_roundg ((next x).length - (j' + 1))
                case measure => omega
                case rel => exact ⟨j' + 1, st2, seen2, by go_num, by omega, by omega, by omega, HJ3⟩
              | false =>
                rw [hfy] at hcf;clear hgo' hfy;go_wp2
                go_roundg ((next x).length - (j' + 1))
                case measure => omega
                case rel => exact ⟨j' + 1, st2, seen2, by go_num, by omega, by omega, by omega, HJ3⟩
          · obtain rfl : j' = (next x).length := by omega
            have HJ3 : Hid (WJ next f b w st2 seen2 none (.slice va (intsN st2).length vc) wr) := ⟨h1.fin (Nat.le_refl _), h2, h3, h4, h5, h6, h7⟩
            clear h1 h2 h3 h4 h5 h6 h7 HJ;go_wp2
            go_roundg (st2.length + 200 - seen2.length)
            case measure => omega
            case rel => exact ⟨st2, seen2, by omega, by omega, HJ3⟩
  · have hfb' : f b = false := by simpa using hfb
    rw [hfb'] at hc;have HE : Hid (walkF next f b = fun _ => false) := walkF_no hfb';have HR := Lib.hid hr;have HB := Lib.hid hB;clear hfb hfb' hs hr hB
    go_wp2_with (first
      | (refine wpList_load_row rfl 124 _ rfl (w.heap.size + 1 + 1) rfl 124 _ (0, 0) _ HR.out Tryz.underlying124 rfl (by rw [setA_size]; exact size_set) ?_)
      | (refine wpList_store_row rfl 124 _ _ rfl (w.heap.size + 1 + 1) (setA fun _ => false) rfl rfl 124 _ HR.out (by rw [setA_size]; exact size_set) rfl (setA_all _) ?_))
    exact bodyPost_ret (v := .agg (setA fun _ => false)) (by simp [results, Tryz.results129, asAddr, Act.put, load_set (setRow_heap _ _ _ _ _ _ HR.out)]) rfl ⟨by rw [HE.out], below_setRow HB.out (by omega) _⟩
theorem walk_any (d : WalkD) (b : Nat) (f : Nat → Bool) (ra : Option Addr) (rn rc : Nat) (L : List (List Nat)) (next : Nat → List Nat) (w : World) (hb : b < 200) (hrn : rn ≤ 200) (hf : ∀ y, f y = true → y < rn)
    (hL : ∀ k, k < rn → L[k]? = some (next k)) (hx : ∀ k y, y ∈ next k → y < 200) (hw : NRows w ra rn L) :
    Calls Tryz.prog 129 #[walkV d, .int .i64 (b : Int), .agg (setA f), .slice ra rn rc] w (SetPost w (walkF next f b)) :=
  walk_at d b f ra rn rc L next w hb hrn (fun y hy => by have := hf y hy; omega) (hf b) hL (fun k y hy => ⟨hx k y hy, hf y⟩) hw
end

section
open Go.RowKit
def setRange (listed : Array Bool) (i : Nat) : Nat → Array Bool
  | 0 => listed
  | n + 1 => setRange (listed.setIfInBounds i true) (i + 1) n
def okReadsB (l : List Oper) : Nat → Nat → Array Bool → Bool
  | 0, _, _ => true
  | n + 1, i, listed => (Region.ready .any l.toArray listed).contains i && Region.free .any l.toArray listed i && ((l[i]?).map valOp).getD false && okReadsB l n (i + 1) (listed.setIfInBounds i true)
def closedB (l : List Oper) (listed : Array Bool) : Bool :=
  (List.range l.length).all fun j => !listed.getD j false || ((l[j]?).map fun o => o.after.all fun e => !Region.binds .any e || listed.getD e.on false).getD true
section
variable {P : Program} {l : List Oper} {S : World → Prop} {Q : Exit → Act → World → Prop}
theorem closed_of {listed : Array Bool} (h : closedB l listed = true) : Closed l listed := by
  intro j o ho hl e he hb
  unfold closedB at h
  rw [List.all_eq_true] at h
  have hlt : j < l.length := by
    have := (Array.getElem?_eq_some_iff.1 ho).1;simpa using this
  have := h j (List.mem_range.2 hlt)
  have ho' : l[j]? = some o := by simpa using ho
  simp only [hl, Bool.not_true, Bool.false_or, ho', Option.map_some, Option.getD_some] at this
  have := (Array.all_eq_true'.1 this) e he
  simpa [hb] using this
theorem okReads_of : ∀ (n i : Nat) (listed : Array Bool), okReadsB l n i listed = true → okReads l n i listed = some (setRange listed i n) := by
  intro n
  induction n with
  | zero => intro i listed _; rfl
  | succ n ih =>
    intro i listed h;simp only [okReadsB, Bool.and_eq_true] at h;obtain ⟨⟨⟨h1, h2⟩, h3⟩, h4⟩ := h;simp only [okReads, setRange];rw [if_pos (by simp only [Bool.and_eq_true]; exact ⟨⟨h1, h2⟩, h3⟩)];exact ih _ _ h4
theorem z_start {id : Nat} {a : Act} {w : World} (S : World → Prop) (hm : P.follows .mixedOrders = true)
    (h : wpAnyZ P l (NoPanic Q) S l.length (Array.replicate l.length false) a w.drew) : (Code.region id l.toArray true).wp P Q a w := by
  refine wp_region_noPanic (wp_region_any hm ?_)
  have := wpAny_of_Z _ _ _ _ h
  simpa using this
theorem z_reads {fuel : Nat} {listed : Array Bool} {a : Act} {w : World} (i n : Nat) (hok : (okReadsB l n i listed && closedB l listed && Region.noSelect l.toArray) = true) (hS : S w)
    (h : wpQuiet P l.toArray S (fun a' => wpAnyZ P l (NoPanic Q) S fuel (setRange listed i n) a' w) ((l.drop i).take n) a) : wpAnyZ P l (NoPanic Q) S (fuel + n) listed a w := by
  simp only [Bool.and_eq_true] at hok
  exact reads_first hok.2 (fun _ _ _ hp => hp) fuel w hS _ n i listed _ a (closed_of hok.1.2) (okReads_of n i listed hok.1.1) (fun _ a' ha' => ha') h
theorem z_one {fuel : Nat} {listed : Array Bool} {a : Act} {w : World} (e : Nat) (hr : (Region.ready .any l.toArray listed == [e]) = true)
    (h : wpOp P l.toArray (NoPanic Q) e (fun a' w' => (aloneB l e = true ∨ S w') ∧ wpAnyZ P l (NoPanic Q) S fuel (listed.setIfInBounds e true) a' w') a w) : wpAnyZ P l (NoPanic Q) S (fuel + 1) listed a w := by
  have hr := eq_of_beq hr
  refine ⟨fun h0 => ?_, fun i hi => ?_⟩
  · rw [hr] at h0; cases h0
  · rw [hr, List.mem_singleton] at hi;subst hi;exact h
theorem z_two {fuel : Nat} {listed : Array Bool} {a : Act} {w : World} (e e' : Nat) (hr : (Region.ready .any l.toArray listed == [e, e']) = true)
    (h : wpOp P l.toArray (NoPanic Q) e (fun a' w' => (aloneB l e = true ∨ S w') ∧ wpAnyZ P l (NoPanic Q) S fuel (listed.setIfInBounds e true) a' w') a w)
    (h' : wpOp P l.toArray (NoPanic Q) e' (fun a' w' => (aloneB l e' = true ∨ S w') ∧ wpAnyZ P l (NoPanic Q) S fuel (listed.setIfInBounds e' true) a' w') a w) : wpAnyZ P l (NoPanic Q) S (fuel + 1) listed a w := by
  have hr := eq_of_beq hr
  refine ⟨fun h0 => ?_, fun i hi => ?_⟩
  · rw [hr] at h0; cases h0
  · rw [hr] at hi;rcases List.mem_cons.1 hi with rfl | hi
    · exact h
    · rw [List.mem_singleton] at hi;subst hi;exact h'
theorem z_done {listed : Array Bool} {a : Act} {w : World} (hr : (Region.ready .any l.toArray listed == []) = true) (h : Q .normal a w) : wpAnyZ P l (NoPanic Q) S 0 listed a w := ⟨eq_of_beq hr, h⟩
end
end

section
open Go.RowKit
def frameGo : Act → List (Option Nat) → Nat → (Nat → Value) → Act
  | a, [], _, _ => a
  | a, none :: ds, k, ν => frameGo a ds (k + 1) ν
  | a, some d :: ds, k, ν => frameGo { tmps := a.tmps.setIfInBounds d (ν k), defers := a.defers } ds (k + 1) ν
def frameOf (a : Act) (ds : List (Option Nat)) (ν : Nat → Value) : Act := frameGo a ds 0 ν
def updN {α : Type} (ν : Nat → α) (i : Nat) (v : α) : Nat → α := fun j => if j = i then v else ν j
theorem put_some (a : Act) (d : Nat) (v : Value) : a.put (some d) v = { tmps := a.tmps.setIfInBounds d v, defers := a.defers } := rfl
theorem put_none (a : Act) (v : Value) : a.put none v = a := rfl
theorem frameGo_congr : ∀ (ds : List (Option Nat)) (a : Act) (k : Nat) (ν ν' : Nat → Value), (∀ j, k ≤ j → ν j = ν' j) → frameGo a ds k ν = frameGo a ds k ν'
  | [], _, _, _, _, _ => rfl
  | none :: ds, a, k, ν, ν', h => frameGo_congr ds a (k + 1) ν ν' (fun j hj => h j (by omega))
  | some d :: ds, a, k, ν, ν', h => by
    simp only [frameGo];rw [h k (Nat.le_refl _)];exact frameGo_congr ds _ (k + 1) ν ν' (fun j hj => h j (by omega))
theorem frameGo_put : ∀ (ds : List (Option Nat)) (a : Act) (k : Nat) (ν : Nat → Value) (d : Nat) (v : Value), some d ∉ ds → (frameGo a ds k ν).put (some d) v = frameGo (a.put (some d) v) ds k ν
  | [], _, _, _, _, _, _ => rfl
  | none :: ds, a, k, ν, d, v, h => frameGo_put ds a (k + 1) ν d v (fun hm => h (by simp [hm]))
  | some d' :: ds, a, k, ν, d, v, h => by
    have hne : d' ≠ d := fun e => h (by simp [e]);simp only [frameGo];rw [frameGo_put ds _ (k + 1) ν d v (fun hm => h (by simp [hm]))]
    congr 1
    simp only [put_some];rw [Array.setIfInBounds_comm _ _ hne]
theorem frameGo_upd : ∀ (ds : List (Option Nat)) (a : Act) (k : Nat) (ν : Nat → Value) (i d : Nat) (v : Value), (ds.filterMap id).Nodup → ds[i]? = some (some d) → (frameGo a ds k ν).put (some d) v = frameGo a ds k (updN ν (k + i) v)
  | [], _, _, _, i, _, _, _, h => by simp at h
  | none :: ds, a, k, ν, i, d, v, hn, h => by
    cases i with
    | zero => simp at h
    | succ i =>
      simp only [List.filterMap_cons_none, id_eq] at hn;have := frameGo_upd ds a (k + 1) ν i d v hn (by simpa using h);simp only [frameGo];rw [this, show k + 1 + i = k + (i + 1) by omega]
  | some d' :: ds, a, k, ν, i, d, v, hn, h => by
    simp only [List.filterMap_cons, id_eq, List.nodup_cons] at hn;have hmem : ∀ x, some x ∈ ds → x ∈ ds.filterMap id := fun x hx => List.mem_filterMap.2 ⟨some x, hx, rfl⟩;cases i with
    | zero =>
      simp only [List.getElem?_cons_zero, Option.some.injEq] at h;subst h;simp only [frameGo];rw [frameGo_put ds _ (k + 1) ν d' v (fun hm => hn.1 (hmem _ hm))];simp only [put_some, Array.setIfInBounds_setIfInBounds];have e : updN ν (k + 0) v k = v := by simp [updN]
      rw [e];exact frameGo_congr ds _ (k + 1) ν _ (fun j hj => by simp only [updN]; rw [if_neg (by omega)])
    | succ i =>
      simp only [frameGo];rw [frameGo_upd ds _ (k + 1) ν i d v hn.2 (by simpa using h), show k + 1 + i = k + (i + 1) by omega];have e : updN ν (k + (i + 1)) v k = ν k := by simp only [updN]; rw [if_neg (by omega)]
      rw [e]
theorem frame_put (a : Act) (ds : List (Option Nat)) (ν : Nat → Value) (i : Nat) (v : Value) (hn : (ds.filterMap id).Nodup) (hi : i < ds.length) : (frameOf a ds ν).put (ds.getD i none) v = frameOf a ds (updN ν i v) := by
  have hg : ds[i]? = some (ds.getD i none) := by rw [List.getD_eq_getElem?_getD, List.getElem?_eq_getElem hi]; rfl
  cases hd : ds.getD i none with
  | some d =>
    rw [hd] at hg;have := frameGo_upd ds a 0 ν i d v hn hg;rw [Nat.zero_add] at this;exact this
  | none =>
    rw [hd] at hg;show frameOf a ds ν = _;unfold frameOf;have key : ∀ (ds : List (Option Nat)) (a : Act) (k i : Nat), ds[i]? = some none → frameGo a ds k ν = frameGo a ds k (updN ν (k + i) v) := by
      intro ds
      induction ds with
      | nil => intro a k i h; simp at h
      | cons x ds ih =>
        intro a k i h;cases i with
        | zero =>
          simp only [List.getElem?_cons_zero, Option.some.injEq] at h;subst h;simp only [frameGo];exact frameGo_congr ds a (k + 1) ν _ (fun j hj => by simp only [updN]; rw [if_neg (by omega)])
        | succ i =>
          have h' : ds[i]? = some none := by simpa using h
          have e2 : k + 1 + i = k + (i + 1) := by omega
          cases x with
          | none => simp only [frameGo]; rw [ih a (k + 1) i h', e2]
          | some d' =>
            simp only [frameGo];have e : updN ν (k + (i + 1)) v k = ν k := by simp only [updN]; rw [if_neg (by omega)]
            rw [ih _ (k + 1) i h', e2, e]
    have := key ds a 0 i hg
    rwa [Nat.zero_add] at this
def frame0 (a : Act) (ds : List (Option Nat)) : Nat → Value := fun k => match ds.getD k none with
  | some d => a.tmps.getD d undef
  | none => undef
theorem set_self (t : Array Value) (d : Nat) : t.setIfInBounds d (t.getD d undef) = t := by
  apply Array.ext_getElem?
  intro k
  rw [Array.getElem?_setIfInBounds]
  by_cases e : d = k
  · subst e;rw [if_pos rfl];by_cases h : d < t.size
    · simp [h, Array.getD_eq_getD_getElem?]
    · rw [if_neg h, Array.getElem?_eq_none (by omega)]
  · rw [if_neg e]
theorem frame_start (a : Act) (ds : List (Option Nat)) : frameOf a ds (frame0 a ds) = a := by
  have key : ∀ (ds : List (Option Nat)) (k : Nat) (ν : Nat → Value), (∀ j d, ds[j]? = some (some d) → ν (k + j) = a.tmps.getD d undef) → frameGo a ds k ν = a := by
    intro ds
    induction ds with
    | nil => intro k ν _; rfl
    | cons x ds ih =>
      intro k ν h;have h' : ∀ j d, ds[j]? = some (some d) → ν (k + 1 + j) = a.tmps.getD d undef := fun j d hj => by
        have := h (j + 1) d (by simpa using hj)
        rwa [show k + (j + 1) = k + 1 + j by omega] at this
      cases x with
      | none => exact ih (k + 1) ν h'
      | some d =>
        have h0 := h 0 d (by simp);rw [Nat.add_zero] at h0;simp only [frameGo];rw [h0, set_self];exact ih (k + 1) ν h'
  refine key ds 0 _ (fun j d hj => ?_)
  rw [Nat.zero_add]
  unfold frame0
  have : ds.getD j none = some d := by rw [List.getD_eq_getElem?_getD, hj]; rfl
  rw [this]
theorem getD_set_at (L : Array Bool) (i : Nat) (h : i < L.size) : (L.setIfInBounds i true).getD i false = true := by
  rw [Array.getD_eq_getD_getElem?, Array.getElem?_setIfInBounds_self_of_lt h]
  rfl
theorem filt_one (p p' : Nat → Bool) (i : Nat) (hp : p i = true) (he : ∀ j, p' j = (j != i && p j)) : ∀ (L : List Nat), L.Nodup → i ∈ L → (L.filter p').length + 1 = (L.filter p).length := by
  intro L
  induction L with
  | nil => intro _ h; cases h
  | cons x L ih =>
    intro hn hm;rw [List.nodup_cons] at hn;by_cases e : x = i
    · subst e;have h1 : L.filter p' = L.filter p := List.filter_congr fun j hj => by
        rw [he];have : j ≠ x := fun e => hn.1 (e ▸ hj);simp [this]
      have h2 : p' x = false := by rw [he]; simp
      simp [List.filter_cons, hp, h2, h1]
    · have h2 : p' x = p x := by rw [he]; simp [e]
      have := ih hn.2 ((List.mem_cons.1 hm).resolve_left (fun h => e h.symm));simp only [List.filter_cons, h2]
      split <;> simp_all
theorem filt_ge (m : Nat) : ∀ n, ((List.range n).filter fun j => !decide (j < m)).length = n - m := by
  intro n
  induction n with
  | zero => simp
  | succ n ih =>
    rw [List.range_succ, List.filter_append, List.length_append, ih];by_cases h : n < m
    · simp [h]; omega
    · simp [h]; omega
def depB (l : List Oper) (i j : Nat) : Bool := ((l[i]?).map fun o => o.after.any fun e => Region.binds .any e && e.on == j).getD false
def freeOK (l : List Oper) (m : Nat) (ds : List (Option Nat)) : Bool :=
  decide (ds.length = m ∧ m ≤ l.length ∧ (ds.filterMap id).Nodup) && ((List.range m).all fun i => ((l[i]?).map fun o => o.dst == ds.getD i none && o.after.all fun e => !Region.binds .any e || decide (e.on < i)).getD false) &&
    ((List.range l.length).all fun j => (decide (j < m) || (List.range j).all fun i => reach l j i) && ((l[j]?).map fun o => o.after.all fun e => !Region.binds .any e || decide (e.on < j)).getD false)
inductive SpecK where
  | val (c : Value)
  | new (o : Obj)
  | any (p : Value → Nat → Nat → World → Prop)
abbrev Spec := Nat → Value → Nat → Nat → World → Prop
def specK : SpecK → Value → Nat → Nat → World → Prop
  | .val c, v, _, _, _ => v = c
  | .new o, v, lo, hi, w => v = .pointer (some ⟨lo, 0, none⟩) ∧ lo < hi ∧ w.heap[lo]? = some o
  | .any p, v, lo, hi, w => p v lo hi w
def specB (ks : List SpecK) : Spec := fun i v lo hi w => specK (ks.getD i (.any fun _ _ _ _ => True)) v lo hi w
def monoK : SpecK → Prop
  | .any p => ∀ v lo hi w w', Below w.heap.size w w' → p v lo hi w → p v lo hi w'
  | _ => True
theorem specB_mono {ks : List SpecK} (h : ∀ k ∈ ks, monoK k) : ∀ i v lo hi w w', Below w.heap.size w w' → specB ks i v lo hi w → specB ks i v lo hi w' := by
  intro i v lo hi w w' hb hs
  unfold specB at *
  have hk : monoK (ks.getD i (.any fun _ _ _ _ => True)) := by
    rw [List.getD_eq_getElem?_getD];cases e : ks[i]? with
    | none => exact fun _ _ _ _ _ _ h => h
    | some k => exact h k (List.mem_of_getElem? e)
  generalize ks.getD i (.any fun _ _ _ _ => True) = k at *
  cases k with
  | val c => exact hs
  | new o => exact ⟨hs.1, hs.2.1, block_ext hb hs.2.2⟩
  | any p => exact hk v lo hi w w' hb hs
section
variable {P : Program} {l : List Oper} {Q : Exit → Act → World → Prop}
theorem free_tail (m : Nat) (hok : ∀ j, m ≤ j → j < l.length → ∀ i, i < j → reach l j i = true) (hup : ∀ j o, l[j]? = some o → ∀ e ∈ o.after, Region.binds .any e = true → e.on < j) :
    ∀ (k j : Nat) (listed : Array Bool) (a : Act) (w : World), l.length - j = k → m ≤ j → j ≤ l.length → listed.size = l.length → (∀ i, i < l.length → listed.getD i false = decide (i < j)) → Closed l listed → wpList P l.toArray Q (l.drop j) a w → wpAny P .any l.toArray Q k listed a w := by
  intro k
  induction k with
  | zero =>
    intro j listed a w hk hm hj hs hL hc h;have hr : Region.ready .any l.toArray listed = [] := by
      cases hr : Region.ready .any l.toArray listed with
      | nil => rfl
      | cons i r =>
        have hi : i ∈ Region.ready .any l.toArray listed := by rw [hr]; simp
        obtain ⟨h1, o, ho, _⟩ := mem_ready.1 hi;have hlt : i < l.length := by have := (Array.getElem?_eq_some_iff.1 ho).1; simpa using this
        have h2 := hL i hlt;have e : listed.getD i true = listed.getD i false := by simp [hs, hlt]
        rw [e, h2] at h1;simp at h1;omega
    rw [List.drop_of_length_le (by omega)] at h;exact ⟨hr, h⟩
  | succ k ih =>
    intro j listed a w hk hm hj hs hL hc h;have hjl : j < l.length := by omega
    have hj0 : l[j]? = some l[j] := List.getElem?_eq_getElem hjl;have only : ∀ i ∈ Region.ready .any l.toArray listed, i = j := fun i hi => by
      obtain ⟨h1, o, ho, _⟩ := mem_ready.1 hi;have hlt : i < l.length := by have := (Array.getElem?_eq_some_iff.1 ho).1; simpa using this
      have h2 := hL i hlt;have e : listed.getD i true = listed.getD i false := by simp [hs, hlt]
      rw [e, h2] at h1;simp at h1;by_cases hij : i = j
      · exact hij
      · obtain ⟨n, hn⟩ := reach_sound (hok i (by omega) hlt j (by omega));have h3 := waits_ready hc hi hn;rw [hL j hjl] at h3;simp at h3
    have hrj : j ∈ Region.ready .any l.toArray listed := by
      refine mem_ready.2 ⟨?_, l[j], by simp [hjl], fun e he hb => ?_⟩
      · have e : listed.getD j true = listed.getD j false := by simp [hs, hjl]
        rw [e, hL j hjl];simp
      · have hon := hup j l[j] hj0 e he hb;rw [hL e.on (by omega)];simpa using hon
    refine ⟨fun h0 => absurd hrj (by rw [h0]; simp), fun i hi => ?_⟩;obtain rfl := only i hi;rw [List.drop_eq_getElem_cons hjl] at h;have hget : l.toArray[i]? = some l[i] := by simp [hjl]
    unfold wpOp;simp only [hget];have hnext : ∀ a' w', wpList P l.toArray Q (l.drop (i + 1)) a' w' → wpAny P .any l.toArray Q k (listed.setIfInBounds i true) a' w' := fun a' w' h' => by
      refine ih (i + 1) _ a' w' (by omega) (by omega) (by omega) (by simpa using hs) (fun q hq => ?_) (hc.set hrj) h';by_cases e : i = q
      · subst e;rw [getD_set_at _ _ (by rw [hs]; exact hjl)];simp
      · rw [getD_set_ne false e, hL q hq];rw [decide_eq_decide];omega
    rw [wpList] at h
    split
    · rename_i hw
      rw [if_pos hw] at h;exact h.imp (fun h => Oper.wp_mono hnext h) id
    · rename_i hw
      rw [if_neg hw] at h;exact hnext _ _ h
theorem free_any {P : Program} {l : List Oper} {Q : Exit → Act → World → Prop} (m : Nat) (ds : List (Option Nat)) (hok : freeOK l m ds = true) (S : Spec) (a0 : Act) (w0 : World)
    (hmono : ∀ i v lo hi w w', Below w.heap.size w w' → S i v lo hi w → S i v lo hi w')
    (hops : ∀ i, i < m → ∀ (ν : Nat → Value) (lo hi : Nat → Nat) (w : World) (K : Act → World → Prop), Below w0.heap.size w0 w → (∀ j, depB l i j = true → S j (ν j) (lo j) (hi j) w) →
      (∀ v w', Below w.heap.size w w' → S i v w.heap.size w'.heap.size w' → K ((frameOf a0 ds ν).put (ds.getD i none) v) w') → wpOp P l.toArray Q i K (frameOf a0 ds ν) w)
    (hend : ∀ (ν : Nat → Value) (lo hi : Nat → Nat) (w : World), Below w0.heap.size w0 w → (∀ i, i < m → S i (ν i) (lo i) (hi i) w) → (∀ i, i < m → w0.heap.size ≤ lo i ∧ lo i ≤ hi i ∧ hi i ≤ w.heap.size) →
      (∀ i j, i < m → j < m → i ≠ j → hi i ≤ lo j ∨ hi j ≤ lo i) → wpList P l.toArray Q (l.drop m) (frameOf a0 ds ν) w) :
    wpAny P .any l.toArray Q l.length (Array.replicate l.length false) a0 w0 := by
  simp only [freeOK, Bool.and_eq_true, decide_eq_true_eq, List.all_eq_true, List.mem_range] at hok
  obtain ⟨⟨⟨hds, hml, hnd⟩, h1⟩, h2⟩ := hok
  have hup : ∀ j o, l[j]? = some o → ∀ e ∈ o.after, Region.binds .any e = true → e.on < j := fun j o hj e he hb => by
    have hlt : j < l.length := (List.getElem?_eq_some_iff.1 hj).1;have := (h2 j hlt).2;rw [hj] at this;simp only [Option.map_some, Option.getD_some] at this;have := (Array.all_eq_true'.1 this) e he;simpa [hb] using this
  have htail : ∀ j, m ≤ j → j < l.length → ∀ i, i < j → reach l j i = true := fun j hj hlt i hi => by
    have := (h2 j hlt).1;simp only [Bool.or_eq_true, decide_eq_true_eq, List.all_eq_true, List.mem_range] at this;exact (this.resolve_left (by omega)) i hi
  have key : ∀ (fuel : Nat) (listed : Array Bool) (ν : Nat → Value) (lo hi : Nat → Nat) (w : World), ((List.range l.length).filter fun j => !listed.getD j true).length = fuel → listed.size = l.length → Closed l listed →
      (∀ j, m ≤ j → listed.getD j false = false) → Below w0.heap.size w0 w → (∀ i, i < m → listed.getD i false = true → S i (ν i) (lo i) (hi i) w ∧ w0.heap.size ≤ lo i ∧ lo i ≤ hi i ∧ hi i ≤ w.heap.size) →
      (∀ i j, i < m → j < m → i ≠ j → listed.getD i false = true → listed.getD j false = true → hi i ≤ lo j ∨ hi j ≤ lo i) → wpAny P .any l.toArray Q fuel listed (frameOf a0 ds ν) w := by
    intro fuel
    induction fuel with
    | zero =>
      intro listed ν lo hi w hf hs hc htl hB hS hD;by_cases hall : ∀ i, i < m → listed.getD i false = true
      · have hL : ∀ i, i < l.length → listed.getD i false = decide (i < m) := fun i _ => by
          by_cases h : i < m
          · rw [hall i h]; simp [h]
          · rw [htl i (by omega)]; simp [h]
        have hcnt : l.length - m = 0 := by
          rw [← hf, ← filt_ge m l.length]
          congr 1
          refine List.filter_congr fun j hj => ?_;have hj := List.mem_range.1 hj;have e : listed.getD j true = listed.getD j false := by simp [hs, hj]
          rw [e, hL j hj]
        exact free_tail m htail hup 0 m listed _ w hcnt (Nat.le_refl _) hml hs hL hc (hend ν lo hi w hB (fun i h => (hS i h (hall i h)).1) (fun i h => (hS i h (hall i h)).2) (fun i j h h' hne => hD i j h h' hne (hall i h) (hall j h')))
      · exfalso;have ⟨i, hi⟩ := Classical.not_forall.1 hall;have ⟨him, hin⟩ := Classical.not_imp.1 hi;have hlt : i < l.length := by omega
        have hmem : i ∈ (List.range l.length).filter fun j => !listed.getD j true := by
          rw [List.mem_filter, List.mem_range];refine ⟨hlt, ?_⟩;have e : listed.getD i true = listed.getD i false := by simp [hs, hlt]
          rw [e];simpa using hin
        rw [List.eq_nil_of_length_eq_zero hf] at hmem;cases hmem
    | succ fuel ih =>
      intro listed ν lo hi w hf hs hc htl hB hS hD;by_cases hall : ∀ i, i < m → listed.getD i false = true
      · have hL : ∀ i, i < l.length → listed.getD i false = decide (i < m) := fun i _ => by
          by_cases h : i < m
          · rw [hall i h]; simp [h]
          · rw [htl i (by omega)]; simp [h]
        have hcnt : l.length - m = fuel + 1 := by
          rw [← hf, ← filt_ge m l.length]
          congr 1
          refine List.filter_congr fun j hj => ?_;have hj := List.mem_range.1 hj;have e : listed.getD j true = listed.getD j false := by simp [hs, hj]
          rw [e, hL j hj]
        exact free_tail m htail hup (fuel + 1) m listed _ w hcnt (Nat.le_refl _) hml hs hL hc (hend ν lo hi w hB (fun i h => (hS i h (hall i h)).1) (fun i h => (hS i h (hall i h)).2) (fun i j h h' hne => hD i j h h' hne (hall i h) (hall j h')))
      · -- the least that is to come
        have hex : ∀ k, (∃ i, i < m ∧ i ≤ k ∧ listed.getD i false = false) → ∃ i, i < m ∧ listed.getD i false = false ∧ ∀ j, j < i → listed.getD j false = true := by
          intro k
          induction k with
          | zero =>
            rintro ⟨i, h1, h2, h3⟩;exact ⟨i, h1, h3, fun j hj => by omega⟩
          | succ k ihk =>
            rintro ⟨i, h1, h2, h3⟩;by_cases h : ∃ i, i < m ∧ i ≤ k ∧ listed.getD i false = false
            · exact ihk h
            · refine ⟨i, h1, h3, fun j hj => ?_⟩;cases e : listed.getD j false with
              | true => rfl
              | false => exact absurd ⟨j, by omega, by omega, e⟩ h
        have ⟨i1, hi1⟩ := Classical.not_forall.1 hall;have ⟨him1, hin1⟩ := Classical.not_imp.1 hi1;obtain ⟨i0, h0m, h0f, h0all⟩ := hex i1 ⟨i1, him1, Nat.le_refl _, by simpa using hin1⟩;have h0l : i0 < l.length := by omega
        have hr0 : i0 ∈ Region.ready .any l.toArray listed := by
          refine mem_ready.2 ⟨?_, l[i0], by simp [h0l], fun e he hb => h0all e.on (hup i0 l[i0] (List.getElem?_eq_getElem h0l) e he hb)⟩;have e : listed.getD i0 true = listed.getD i0 false := by simp [hs, h0l]
          rw [e, h0f]
        refine ⟨fun h => absurd hr0 (by rw [h]; simp), fun i hir => ?_⟩;obtain ⟨hi1', o, ho, hdep⟩ := mem_ready.1 hir;have hil : i < l.length := by have := (Array.getElem?_eq_some_iff.1 ho).1; simpa using this
        have hif : listed.getD i false = false := by
          have e : listed.getD i true = listed.getD i false := by simp [hs, hil]
          rw [← e]; exact hi1'
        have him : i < m := by
          apply Classical.byContradiction;intro hge;obtain ⟨n, hn⟩ := reach_sound (htail i (by omega) hil i0 (by omega));have h9 := waits_ready hc hir hn;rw [h0f] at h9;cases h9
        refine hops i him ν lo hi w _ hB (fun j hj => ?_) (fun v w' hb hsp => ?_)
        · have ho' : l[i]? = some o := by simpa using ho
          simp only [depB, ho', Option.map_some, Option.getD_some] at hj;obtain ⟨e, he, hbe⟩ := Array.any_eq_true'.1 hj;simp only [Bool.and_eq_true, beq_iff_eq] at hbe;have hlj : listed.getD j false = true := hbe.2 ▸ hdep e he hbe.1
          have hji : j < i := hbe.2 ▸ hup i o ho' e he hbe.1
          exact (hS j (by omega) hlj).1
        · rw [frame_put a0 ds ν i v hnd (by omega)]
          have hsz := hb.size
          refine ih (listed.setIfInBounds i true) (updN ν i v) (updN lo i w.heap.size) (updN hi i w'.heap.size) w' ?_ (by simpa using hs) (hc.set hir) (fun j hj => ?_) (hB.trans (hb.mono hB.size)) (fun j hj hlj => ?_) (fun j k hj hk hne hlj hlk => ?_)
          · have := filt_one (fun j => !listed.getD j true) (fun j => !(listed.setIfInBounds i true).getD j true) i (by simp [hi1']) (fun j => by
              by_cases e : i = j
              · subst e
                have : (listed.setIfInBounds i true).getD i true = true := by
                  have h1 := getD_set_at listed i (by rw [hs]; exact hil)
                  rw [Array.getD_eq_getD_getElem?] at h1 ⊢
                  cases h2 : (listed.setIfInBounds i true)[i]? with
                  | none => rfl
                  | some b => rw [h2] at h1; exact h1
                simp [this]
              · have e' : (j != i) = true := by simpa using fun h => e h.symm
                rw [getD_set_ne true e, e', Bool.true_and]) (List.range l.length) List.nodup_range (List.mem_range.2 hil)
            omega
          · rw [getD_set_ne false (by omega)]
            exact htl j hj
          · by_cases e : i = j
            · subst e
              simp only [updN, if_pos rfl]
              exact ⟨hsp, hB.size, hsz, Nat.le_refl _⟩
            · have e' : ¬ j = i := fun h => e h.symm
              rw [getD_set_ne false e] at hlj
              simp only [updN, if_neg e']
              obtain ⟨s1, s2, s3, s4⟩ := hS j hj hlj
              exact ⟨hmono j _ _ _ w w' hb s1, s2, s3, by omega⟩
          · by_cases ej : i = j
            · subst ej
              have e' : ¬ k = i := fun h => hne h.symm
              rw [getD_set_ne false hne] at hlk
              obtain ⟨_, s2, s3, s4⟩ := hS k hk hlk
              simp only [updN, if_pos rfl, if_neg e']
              exact .inr s4
            · have ej' : ¬ j = i := fun h => ej h.symm
              rw [getD_set_ne false ej] at hlj
              obtain ⟨_, s2, s3, s4⟩ := hS j hj hlj
              by_cases ek : i = k
              · subst ek
                simp only [updN, if_pos rfl, if_neg ej']
                exact .inl s4
              · have ek' : ¬ k = i := fun h => ek h.symm
                rw [getD_set_ne false ek] at hlk
                simp only [updN, if_neg ej', if_neg ek']
                exact hD j k hj hk hne hlj hlk
  have h3 := key l.length (Array.replicate l.length false) (frame0 a0 ds) (fun _ => 0) (fun _ => 0) w0 (by
    have : (List.range l.length).filter (fun j => !(Array.replicate l.length false).getD j true) = List.range l.length := by
      rw [List.filter_eq_self]
      intro j hj
      have := List.mem_range.1 hj
      simp [this]
    rw [this]; simp) (by simp) (closed_none _) (fun j hj => by
    by_cases h : j < l.length <;> simp [h]) (Below.refl _ _) (fun i hi h => by
    by_cases h' : i < l.length
    · simp [h'] at h
    · omega) (fun i j hi hj _ h => by
    by_cases h' : i < l.length
    · simp [h'] at h
    · omega)
  rwa [frame_start] at h3
theorem region_free {id : Nat} {a : Act} {w : World} (m : Nat) (ds : List (Option Nat)) (hm : P.follows .mixedOrders = true) (hok : freeOK l m ds = true) (S : Spec)
    (hmono : ∀ i v lo hi w w', Below w.heap.size w w' → S i v lo hi w → S i v lo hi w')
    (hops : ∀ i, i < m → ∀ (ν : Nat → Value) (lo hi : Nat → Nat) (w' : World) (K : Act → World → Prop), Below w.heap.size w w' → (∀ j, depB l i j = true → S j (ν j) (lo j) (hi j) w') →
      (∀ v w'', Below w'.heap.size w' w'' → S i v w'.heap.size w''.heap.size w'' → K ((frameOf a ds ν).put (ds.getD i none) v) w'') → wpOp P l.toArray Q i K (frameOf a ds ν) w')
    (hend : ∀ (ν : Nat → Value) (lo hi : Nat → Nat) (w' : World), Below w.heap.size w w' → (∀ i, i < m → S i (ν i) (lo i) (hi i) w') → (∀ i, i < m → w.heap.size ≤ lo i ∧ lo i ≤ hi i ∧ hi i ≤ w'.heap.size) →
      (∀ i j, i < m → j < m → i ≠ j → hi i ≤ lo j ∨ hi j ≤ lo i) → wpList P l.toArray Q (l.drop m) (frameOf a ds ν) w') :
    (Code.region id l.toArray true).wp P Q a w := by
  refine wp_region_any hm ?_
  have := free_any (P := P) (l := l) (Q := Q) m ds hok S a w.drew hmono (fun i hi ν lo hi' w' K hB => hops i hi ν lo hi' w' K (unDrew1 hB)) (fun ν lo hi w' hB => hend ν lo hi w' (unDrew1 hB))
  simpa using this
theorem round_free {id : Nat} {a : Act} {w : World} {lp : Nat} (m : Nat) (ds : List (Option Nat)) (hm : P.follows .mixedOrders = true) (hn : l.all notDefer = true) (hQ : ¬ LetsOut Q) (hok : freeOK l m ds = true) (S : Spec)
    (hmono : ∀ i v lo hi w w', Below w.heap.size w w' → S i v lo hi w → S i v lo hi w')
    (hops : ∀ i, i < m → ∀ (ν : Nat → Value) (lo hi : Nat → Nat) (w' : World) (K : Act → World → Prop), Below w.heap.size w w' → (∀ j, depB l i j = true → S j (ν j) (lo j) (hi j) w') →
      (∀ v w'', Below w'.heap.size w' w'' → S i v w'.heap.size w''.heap.size w'' → K ((frameOf a ds ν).put (ds.getD i none) v) w'') → wpOp P l.toArray Q i K (frameOf a ds ν) w')
    (hend : ∀ (ν : Nat → Value) (lo hi : Nat → Nat) (w' : World), Below w.heap.size w w' → (∀ i, i < m → S i (ν i) (lo i) (hi i) w') → (∀ i, i < m → w.heap.size ≤ lo i ∧ lo i ≤ hi i ∧ hi i ≤ w'.heap.size) →
      (∀ i j, i < m → j < m → i ≠ j → hi i ≤ lo j ∨ hi j ≤ lo i) → wpList P l.toArray Q (l.drop m) (frameOf a ds ν) w') :
    (Code.region id l.toArray true).wpIn (Fence.wide.inRound lp) 0 P Q a w := by
  refine wpIn_region_draw fun t => ?_
  refine wpOpsIn_of lp (fun i o ho => ?_) hQ _ _ _ ?_
  · rw [List.all_eq_true] at hn
    exact hn o (by
      have : l[i]? = some o := by simpa using ho
      exact List.mem_of_getElem? this)
  · simp only [Region.schedule, hm, Bool.true_or, if_true]
    refine wpAny_sound _ t _ a _ ?_
    have := free_any (P := P) (l := l) (Q := Q) m ds hok S a w.drew hmono (fun i hi ν lo hi' w' K hB => hops i hi ν lo hi' w' K (unDrew1 hB)) (fun ν lo hi w' hB => hend ν lo hi w' (unDrew1 hB))
    simpa using this
theorem wpOp_atK {e : Nat} {o : Oper} {K : Act → World → Prop} {a : Act} {w : World} (ho : l[e]? = some o) (hg : o.guard = none) (h : o.wp P a w K Q) : wpOp P l.toArray Q e K a w := wpOp_at ho hg h
end
theorem zA (a : Act) (ds : List (Option Nat)) (v : Nat → Value) : frameOf a ds v = frameGo a ds 0 v := rfl
theorem zB (a : Act) (k : Nat) (v : Nat → Value) : frameGo a [] k v = a := rfl
theorem zC (a : Act) (ds : List (Option Nat)) (k : Nat) (v : Nat → Value) : frameGo a (none :: ds) k v = frameGo a ds (k + 1) v := rfl
theorem zD (a : Act) (d : Nat) (ds : List (Option Nat)) (k : Nat) (v : Nat → Value) : frameGo a (some d :: ds) k v = frameGo { tmps := a.tmps.setIfInBounds d (v k), defers := a.defers } ds (k + 1) v := rfl
theorem zE {α : Type} (x d : α) (l : List α) : (x :: l).getD 0 d = x := rfl
theorem zF {α : Type} (x d : α) (l : List α) (n : Nat) : (x :: l).getD (n + 1) d = l.getD n d := rfl
theorem zG {α : Type} (l : List α) (i : Nat) (x : α) : l.toArray.setIfInBounds i x = (l.set i x).toArray := List.setIfInBounds_toArray l i x
theorem zH {α : Type} (a : α) (l : List α) (n : Nat) (b : α) : (a :: l).set (n + 1) b = a :: l.set n b := rfl
theorem zJ (a : Act) (d : Nat) (v : Value) : a.put (some d) v = { tmps := a.tmps.setIfInBounds d v, defers := a.defers } := rfl
theorem zK (a : Act) (v : Value) : a.put none v = a := rfl
theorem zI {α : Type} (a : α) (l : List α) (b : α) : (a :: l).set 0 b = b :: l := rfl
end

section
open Go.RowKit
theorem size_walk : (Tryz.prog.info? 116).map (·.size) = some 4 := by kernel_rfl
theorem WalkOK.nx_lt {w : World} {d : WalkD} {ts : List TermD} (h : goodB ts = true) : (∀ k y, y ∈ nx ts k → y < 200) ∧ (∀ k y, y ∈ pv ts k → y < 200) := by
  have hl := ((goodB_iff ts).1 h).1
  refine ⟨fun k y hy => ?_, fun k y hy => ?_⟩
  · have := good_nx h hy; omega
  · have hk := (mem_pv ts k y).1 hy
    by_cases hy2 : y < ts.length
    · omega
    · rw [nx_none ts y (by omega)] at hk; cases hk
theorem WalkOK.nx_to {w : World} {d : WalkD} {ts : List TermD} (h : goodB ts = true) (hok : WalkOK w d ts) (f : Nat → Bool) : (∀ k y, y ∈ nx ts k → y < 200 ∧ (f y = true → y < d.bn)) ∧ (∀ k y, y ∈ pv ts k → y < 200 ∧ (f y = true → y < d.bn)) := by
  have hl := ((goodB_iff ts).1 h).1
  rw [← hok.1]
  refine ⟨fun k y hy => ?_, fun k y hy => ?_⟩
  · have := good_nx h hy; exact ⟨by omega, fun _ => by omega⟩
  · have hk := (mem_pv ts k y).1 hy
    by_cases hy2 : y < ts.length
    · exact ⟨by omega, fun _ => hy2⟩
    · rw [nx_none ts y (by omega)] at hk; cases hk
theorem knot_any (d : WalkD) (ts : List TermD) (b : Nat) (f : Nat → Bool) (w : World) (hb : b < 200) (hok : WalkOK w d ts) (hg : goodB ts = true) (hcf : Canon f) (hf : f b = true → b < d.bn) :
    Calls Tryz.prog 130 #[walkV d, .int .i64 (b : Int), .agg (setA f)] w (SetPost w (knotS ts b f)) := by
  have HOK := Lib.hid hok
  have HF := Lib.hid hf
  have HCF := Lib.hid hcf
  have HX := Lib.hid (WalkOK.nx_to hg hok f)
  clear hok hg hcf hf
  go_enter Tryz.func130, Tryz.ntmps130
  go_upto_region 1 with (fail)
  obtain ⟨W, hW⟩ : ∃ W, W = ((w.alloc (walkO d)).alloc (setO f)).alloc (.cells Tryz.zeroCells124 124) := ⟨_, rfl⟩
  rw [← hW]
  have hk : W.heap[w.heap.size]? = some (walkO d) := by rw [hW, Below.heap_alloc _ _ _ (by simp; omega), Below.heap_alloc _ _ _ (by simp)]; exact heap_alloc_new _ _
  have hs : W.heap[w.heap.size + 1]? = some (setO f) := by rw [hW, Below.heap_alloc _ _ _ (by simp)]; exact heap_at _ _ _ (by simp)
  have hr : W.heap[w.heap.size + 1 + 1]? = some (setO fun _ => false) := by rw [hW, heap_at _ _ _ (by simp), zero_set]
  have hB : Below w.heap.size w W := by rw [hW]; exact ((ext_alloc _ _).alloc (by simp) _).alloc (by simp; omega) _
  have hWs : W.heap.size = w.heap.size + 1 + 1 + 1 := by rw [hW]; simp
  have HWs := Lib.hid hWs
  have HK := Lib.hid hk
  have HS := Lib.hid hs
  have HR := Lib.hid hr
  have HB := Lib.hid hB
  have HC2 : Hid (W.cell? ⟨w.heap.size, 2, none⟩ = some (.slice d.ta d.bn d.tc)) := by rw [Hid, cell_of_row _ _ _ _ _ _ hk]; rfl
  have HC3 : Hid (W.cell? ⟨w.heap.size, 3, none⟩ = some (.slice d.fa d.bn d.fc)) := by rw [Hid, cell_of_row _ _ _ _ _ _ hk]; rfl
  clear hW hWs hk hs hr hB
  go_cut [7, 8] (fun s7 s8 wr => ∃ p7 p8 : Nat, s7 = .pointer (some ⟨p7, 0, none⟩) ∧ s8 = .pointer (some ⟨p8, 0, none⟩) ∧ w.heap.size + 1 + 1 + 1 ≤ p7 ∧ w.heap.size + 1 + 1 + 1 ≤ p8 ∧ p7 ≠ p8 ∧ Hid (wr.heap[p7]? = some (setO (walkF (nx ts) f b))) ∧ Hid (wr.heap[p8]? = some (setO (walkF (pv ts) f b))) ∧ Hid (wr.heap[w.heap.size + 1 + 1]? = some (setO fun _ => false)) ∧ Hid (Below w.heap.size w wr))
  case first =>
    refine region_free 14 [some 10, some 11, some 12, some 13, some 14, some 15, some 16, some 17, some 18, some 19, some 20, some 21, some 7, some 8] (by kernel_rfl) (by kernel_rfl) (specB [.val (walkV d), .val (.int .i64 (b : Int)), .val (.agg (setA f)), .val (.pointer (some ⟨w.heap.size, 2, none⟩)), .val (.slice d.ta d.bn d.tc), .val (.agg (setA (walkF (nx ts) f b))), .val (walkV d), .val (.int .i64 (b : Int)), .val (.agg (setA f)), .val (.pointer (some ⟨w.heap.size, 3, none⟩)), .val (.slice d.fa d.bn d.fc), .val (.agg (setA (walkF (pv ts) f b))), .new (setO fun _ => false), .new (setO fun _ => false)]) (specB_mono ?_) ?_ ?_
    · intro k hk
      simp only [List.mem_cons, List.not_mem_nil, or_false] at hk
      rcases hk with rfl | rfl | rfl | rfl | rfl | rfl | rfl | rfl | rfl | rfl | rfl | rfl | rfl | rfl
      · exact trivial
      · exact trivial
      · exact trivial
      · exact trivial
      · exact trivial
      · exact trivial
      · exact trivial
      · exact trivial
      · exact trivial
      · exact trivial
      · exact trivial
      · exact trivial
      · exact trivial
      · exact trivial
    · intro i hi ν lo hi' w1 K hB hD hK
      have hcase : i = 0 ∨ i = 1 ∨ i = 2 ∨ i = 3 ∨ i = 4 ∨ i = 5 ∨ i = 6 ∨ i = 7 ∨ i = 8 ∨ i = 9 ∨ i = 10 ∨ i = 11 ∨ i = 12 ∨ i = 13 := by omega
      clear hi
      rcases hcase with rfl | rfl | rfl | rfl | rfl | rfl | rfl | rfl | rfl | rfl | rfl | rfl | rfl | rfl
      · clear hD
        refine wpOp_atK rfl rfl ?_
        simp only [zA,zB,zC,zD,zE,zF,zJ,zK,zG,zH,zI] at hK ⊢
        refine wp_load_row 116 _ rfl w.heap.size rfl 116 _ (0, 0) _ (block_ext hB HK.out) Tryz.underlying116 rfl size_walk ?_
        exact hK _ _ (Below.refl _ _) rfl
      · clear hD
        refine wpOp_atK rfl rfl ?_
        simp only [zA,zB,zC,zD,zE,zF,zJ,zK,zG,zH,zI] at hK ⊢
        go_simp
        exact hK _ _ (Below.refl _ _) rfl
      · clear hD
        refine wpOp_atK rfl rfl ?_
        simp only [zA,zB,zC,zD,zE,zF,zJ,zK,zG,zH,zI] at hK ⊢
        refine wp_load_row 124 _ rfl (w.heap.size + 1) rfl 124 _ (0, 0) _ (block_ext hB HS.out) Tryz.underlying124 rfl (by rw [setA_size]; exact size_set) ?_
        exact hK _ _ (Below.refl _ _) rfl
      · clear hD
        refine wpOp_atK rfl rfl ?_
        simp only [zA,zB,zC,zD,zE,zF,zJ,zK,zG,zH,zI] at hK ⊢
        go_simp
        exact hK _ _ (Below.refl _ _) rfl
      · have e3 := hD 3 (by kernel_rfl)
        replace e3 : ν 3 = (.pointer (some ⟨w.heap.size, 2, none⟩)) := e3
        clear hD
        refine wpOp_atK rfl rfl ?_
        simp only [zA,zB,zC,zD,zE,zF,zJ,zK,zG,zH,zI, e3] at hK ⊢
        have c0 := cell_ext hB HC2.out
        go_simp
        exact hK _ _ (Below.refl _ _) rfl
      · have e0 := hD 0 (by kernel_rfl)
        replace e0 : ν 0 = (walkV d) := e0
        have e1 := hD 1 (by kernel_rfl)
        replace e1 : ν 1 = (.int .i64 (b : Int)) := e1
        have e2 := hD 2 (by kernel_rfl)
        replace e2 : ν 2 = (.agg (setA f)) := e2
        have e4 := hD 4 (by kernel_rfl)
        replace e4 : ν 4 = (.slice d.ta d.bn d.tc) := e4
        clear hD
        refine wpOp_atK rfl rfl ?_
        simp only [zA,zB,zC,zD,zE,zF,zJ,zK,zG,zH,zI, e0, e1, e2, e4] at hK ⊢
        go_simp
        refine (walk_at d b f d.ta d.bn d.tc (toRows ts) (nx ts) w1 hb HOK.out.2.1 HCF.out HF.out (fun k hk => by simp [toRows, HOK.out.1, hk]) HX.out.1 ((HOK.out.2.2.1).ext (ext_trans HB.out hB))).mono ?_
        rintro e w2 ⟨rfl, hb2⟩
        exact hK _ _ hb2 rfl
      · clear hD
        refine wpOp_atK rfl rfl ?_
        simp only [zA,zB,zC,zD,zE,zF,zJ,zK,zG,zH,zI] at hK ⊢
        refine wp_load_row 116 _ rfl w.heap.size rfl 116 _ (0, 0) _ (block_ext hB HK.out) Tryz.underlying116 rfl size_walk ?_
        exact hK _ _ (Below.refl _ _) rfl
      · clear hD
        refine wpOp_atK rfl rfl ?_
        simp only [zA,zB,zC,zD,zE,zF,zJ,zK,zG,zH,zI] at hK ⊢
        go_simp
        exact hK _ _ (Below.refl _ _) rfl
      · clear hD
        refine wpOp_atK rfl rfl ?_
        simp only [zA,zB,zC,zD,zE,zF,zJ,zK,zG,zH,zI] at hK ⊢
        refine wp_load_row 124 _ rfl (w.heap.size + 1) rfl 124 _ (0, 0) _ (block_ext hB HS.out) Tryz.underlying124 rfl (by rw [setA_size]; exact size_set) ?_
        exact hK _ _ (Below.refl _ _) rfl
      · clear hD
        refine wpOp_atK rfl rfl ?_
        simp only [zA,zB,zC,zD,zE,zF,zJ,zK,zG,zH,zI] at hK ⊢
        go_simp
        exact hK _ _ (Below.refl _ _) rfl
      · have e9 := hD 9 (by kernel_rfl)
        replace e9 : ν 9 = (.pointer (some ⟨w.heap.size, 3, none⟩)) := e9
        clear hD
        refine wpOp_atK rfl rfl ?_
        simp only [zA,zB,zC,zD,zE,zF,zJ,zK,zG,zH,zI, e9] at hK ⊢
        have c0 := cell_ext hB HC3.out
        go_simp
        exact hK _ _ (Below.refl _ _) rfl
      · have e5 := hD 5 (by kernel_rfl)
        replace e5 : ν 5 = (.agg (setA (walkF (nx ts) f b))) := e5
        have e6 := hD 6 (by kernel_rfl)
        replace e6 : ν 6 = (walkV d) := e6
        have e7 := hD 7 (by kernel_rfl)
        replace e7 : ν 7 = (.int .i64 (b : Int)) := e7
        have e8 := hD 8 (by kernel_rfl)
        replace e8 : ν 8 = (.agg (setA f)) := e8
        have e10 := hD 10 (by kernel_rfl)
        replace e10 : ν 10 = (.slice d.fa d.bn d.fc) := e10
        clear hD
        refine wpOp_atK rfl rfl ?_
        simp only [zA,zB,zC,zD,zE,zF,zJ,zK,zG,zH,zI, e5, e6, e7, e8, e10] at hK ⊢
        go_simp
        refine (walk_at d b f d.fa d.bn d.fc (fromRows ts) (pv ts) w1 hb HOK.out.2.1 HCF.out HF.out (fun k hk => by simp [fromRows, HOK.out.1, hk]) HX.out.2 ((HOK.out.2.2.2).ext (ext_trans HB.out hB))).mono ?_
        rintro e w2 ⟨rfl, hb2⟩
        exact hK _ _ hb2 rfl
      · clear hD
        refine wpOp_atK rfl rfl ?_
        simp only [zA,zB,zC,zD,zE,zF,zJ,zK,zG,zH,zI] at hK ⊢
        go_simp
        refine hK _ _ (ext_alloc _ _) ⟨rfl, by simp, ?_⟩
        rw [heap_alloc_new, zero_set]
      · clear hD
        refine wpOp_atK rfl rfl ?_
        simp only [zA,zB,zC,zD,zE,zF,zJ,zK,zG,zH,zI] at hK ⊢
        go_simp
        refine hK _ _ (ext_alloc _ _) ⟨rfl, by simp, ?_⟩
        rw [heap_alloc_new, zero_set]
    · intro ν lo hi w1 hB hS hI hD
      have e0 : ν 0 = (walkV d) := hS 0 (by omega)
      have e1 : ν 1 = (.int .i64 (b : Int)) := hS 1 (by omega)
      have e2 : ν 2 = (.agg (setA f)) := hS 2 (by omega)
      have e3 : ν 3 = (.pointer (some ⟨w.heap.size, 2, none⟩)) := hS 3 (by omega)
      have e4 : ν 4 = (.slice d.ta d.bn d.tc) := hS 4 (by omega)
      have e5 : ν 5 = (.agg (setA (walkF (nx ts) f b))) := hS 5 (by omega)
      have e6 : ν 6 = (walkV d) := hS 6 (by omega)
      have e7 : ν 7 = (.int .i64 (b : Int)) := hS 7 (by omega)
      have e8 : ν 8 = (.agg (setA f)) := hS 8 (by omega)
      have e9 : ν 9 = (.pointer (some ⟨w.heap.size, 3, none⟩)) := hS 9 (by omega)
      have e10 : ν 10 = (.slice d.fa d.bn d.fc) := hS 10 (by omega)
      have e11 : ν 11 = (.agg (setA (walkF (pv ts) f b))) := hS 11 (by omega)
      obtain ⟨e12, l12, h12⟩ := hS 12 (by omega)
      obtain ⟨e13, l13, h13⟩ := hS 13 (by omega)
      clear hS
      simp only [List.drop_succ_cons, List.drop_zero, zA,zB,zC,zD,zE,zF,zJ,zK,zG,zH,zI, e0, e1, e2, e3, e4, e5, e6, e7, e8, e9, e10, e11, e12, e13]
      have i12 := hI 12 (by omega)
      have i13 := hI 13 (by omega)
      have hne : lo 12 ≠ lo 13 := by
        have := hD 12 13 (by omega) (by omega) (by omega)
        omega
      rw [HWs.out] at i12 i13
      have hr1 := block_ext hB HR.out
      have HBw : Hid (Below w.heap.size w w1) := ext_trans HB.out hB
      generalize lo 12 = p7 at *
      generalize lo 13 = p8 at *
      have h13' : (w1.setRow p7 (setA (walkF (nx ts) f b))).heap[p8]? = some (setO fun _ => false) := (setRow_other _ _ _ _ (by omega)).trans h13
      have H12 := Lib.hid h12
      have H13 := Lib.hid h13'
      have HR1 := Lib.hid hr1
      have HI12 := i12.1
      have HI13 := i13.1
      clear hI hD hB e0 e1 e2 e3 e4 e5 e6 e7 e8 e9 e10 e11 e12 e13 h12 h13 h13' hr1 i12 i13
      go_wp2_with (first
        | (refine wpList_store_row rfl 124 _ _ rfl p7 (setA (walkF (nx ts) f b)) rfl rfl 124 _ H12.out (by rw [setA_size]; exact size_set) rfl (setA_all _) ?_)
        | (refine wpList_store_row rfl 124 _ _ rfl p8 (setA (walkF (pv ts) f b)) rfl rfl 124 _ H13.out (by rw [setA_size]; exact size_set) rfl (setA_all _) ?_))
      go_meet
      exact ⟨p7, p8, rfl, rfl, HI12, HI13, hne, (setRow_other _ _ _ _ hne).trans (setRow_heap _ _ _ _ _ _ H12.out), setRow_heap _ _ _ _ _ _ H13.out, (setRow_other _ _ _ _ (by omega)).trans ((setRow_other _ _ _ _ (by omega)).trans HR1.out), below_setRow (below_setRow HBw.out (by omega) _) (by omega) _⟩
  case rest =>
    obtain ⟨p7, p8, rfl, rfl, hp7, hp8, hne, H7, H8, HR, HB⟩ := hcut
    clear HK HS HC2 HC3 HWs
    go_wp2
    go_loopw [9, 22] (fun _ i wx => ∃ (k : Nat), k ≤ 200 ∧ i = .int .i64 k ∧ Hid (wx.heap[w.heap.size + 1 + 1]? = some (setO fun j => decide (j < k) && knotS ts b f j)) ∧ Hid (wx.heap[p7]? = some (setO (walkF (nx ts) f b))) ∧ Hid (wx.heap[p8]? = some (setO (walkF (pv ts) f b))) ∧ Hid (Below w.heap.size w wx)) (fun _ i _ => 200 - (intOf i).toNat)
    case atStart => exact ⟨0, by omega, rfl, by have e : (fun j => decide (j < 0) && knotS ts b f j) = (fun _ => false) := (by funext j; simp); rw [Hid, e]; exact HR.out, H7, H8, HB⟩
    case round =>
      obtain ⟨k, hk, rfl, HR2, G7, G8, HB2⟩ := hrel
      clear HR H7 H8 HB
      by_cases hlt : k < 200
      · have c7 := set_cell G7.out k hlt
        have c8 := set_cell G8.out k hlt
        have cr := set_cell HR2.out k hlt
        have fr := set_free HR2.out k
        have hl := lt_of_heap HR2.out
        have e1 : (fun j => if j = k then (walkF (nx ts) f b k && walkF (pv ts) f b k) else (decide (j < k) && knotS ts b f j)) = (fun j => decide (j < k + 1) && knotS ts b f j) := by
          funext j
          by_cases e : j = k
          · subst e
            simp [knotS]
          · rw [if_neg e]
            congr 1
            rw [decide_eq_decide]
            omega
        have HS2 := Lib.hid (store_to HR2.out hlt e1)
        have HG7 := Lib.hid (grown_row (grown_setCell _ (w.heap.size + 1 + 1) k (.bool (walkF (nx ts) f b k && walkF (pv ts) f b k))) G7.out (by simp; omega))
        have HG8 := Lib.hid (grown_row (grown_setCell _ (w.heap.size + 1 + 1) k (.bool (walkF (nx ts) f b k && walkF (pv ts) f b k))) G8.out (by simp; omega))
        have hlt' : (k : Int) < 200 := by omega
        clear e1 G7 G8 HR2
        generalize (decide (k < k) && knotS ts b f k) = x0 at *
        cases hx1 : walkF (nx ts) f b k <;> simp only [hx1, Bool.true_and, Bool.false_and] at HS2 HG7 HG8 c7
        all_goals
          generalize walkF (pv ts) f b k = x2 at *
          clear hx1
          go_wp2
          go_roundw
          case rel => exact ⟨k + 1, by omega, by go_num, HS2, HG7, HG8, HB2.out.setCell (by simp; omega) _⟩
          case measure => simp [intOf]; omega
      · obtain rfl : k = 200 := by omega
        have HE : Hid ((fun j => decide (j < 200) && knotS ts b f j) = knotS ts b f) := by
          have hc : Canon f := HCF.out
          funext j
          cases e : knotS ts b f j with
          | false => simp
          | true => have := knot_canon hc b j e; simp [this]
        rw [HE.out] at HR2
        go_wp2_with (first
          | (refine wpList_load_row rfl 124 _ rfl (w.heap.size + 1 + 1) rfl 124 _ (0, 0) _ HR2.out Tryz.underlying124 rfl (by rw [setA_size]; exact size_set) ?_)
          | (refine wpList_store_row rfl 124 _ _ rfl (w.heap.size + 1 + 1) (setA (knotS ts b f)) rfl rfl 124 _ HR2.out (by rw [setA_size]; exact size_set) rfl (setA_all _) ?_))
        exact bodyPost_ret (v := .agg (setA (knotS ts b f))) (by simp [results, Tryz.results130, asAddr, Act.put, load_set (setRow_heap _ _ _ _ _ _ HR2.out)]) rfl ⟨rfl, below_setRow HB2.out (by omega) _⟩
end

section
open Go.RowKit
theorem part_bool (cs : Array Value) (o : Nat) (v : Value) (w : World) (h : cs[o]? = some v) : (part 4 cs o).run Tryz.prog w = .ok v w := by
  have hu : (underlying 4).run Tryz.prog w = .ok .bool w := run_underlying Tryz.underlying4 w
  simp [part, isAgg, hu, h]
theorem eqItems_bool (w : World) (f g : Nat → Bool) (xs ys : Array Value) : ∀ (is : List Nat), (∀ i ∈ is, xs[i]? = some (.bool (f i)) ∧ ys[i]? = some (.bool (g i))) → (Op.eqItems 9999 4 1 xs ys is).run Tryz.prog w = .ok (is.all fun i => f i == g i) w
  | [], _ => by simp [Op.eqItems]
  | i :: is, h => by
    obtain ⟨h1, h2⟩ := h i (by simp)
    have ih := eqItems_bool w f g xs ys is (fun j hj => h j (by simp [hj]))
    simp only [Op.eqItems, Sem.run_bind, Nat.mul_one]
    rw [part_bool _ i _ w h1]
    simp only [Result.andThen_ok]
    rw [part_bool _ i _ w h2]
    simp only [Result.andThen_ok]
    rw [run_equalIn_bool' w 9998 4 (f i) (g i) Tryz.underlying4]
    simp only [Result.andThen_ok]
    cases hq : (f i == g i) with
    | false => simp [hq]
    | true => simp [hq, ih]
theorem equal_set (w : World) (f g : Nat → Bool) : (Op.equalIn 10000 124 (.agg (setA f)) (.agg (setA g))).run Tryz.prog w = .ok (eqS f g) w := by
  have hi : ∃ i, Tryz.prog.info? 4 = some i := Option.isSome_iff_exists.1 (by kernel_rfl)
  obtain ⟨i, hi⟩ := hi
  have h1 : Tryz.prog.cellsOf 4 = 1 := by kernel_rfl
  rw [run_equalIn_array w 9999 _ _ Tryz.underlying124 hi, h1]
  exact eqItems_bool w f g _ _ _ (fun i hi => ⟨setA_at f i (List.mem_range.1 hi), setA_at g i (List.mem_range.1 hi)⟩)
structure BlkH where
  ia : Option Addr
  n : Nat
  c : Nat
  t : TermD
def blkC (b : BlkH) : List Value := [.slice b.ia b.n b.c, .int .i64 b.t.kind, .int .i64 b.t.a, .int .i64 b.t.t0, .int .i64 b.t.t1]
theorem blkC_len (b : BlkH) : (blkC b).length = 5 := rfl
def BlksOK (w : World) (a : Option Addr) (n : Nat) (bs : List BlkH) : Prop := Recs 5 blkC w a n bs ∧ ∀ b ∈ bs, TermOK b.t
theorem BlksOK.ext {w w' : World} {a : Option Addr} {n : Nat} {bs : List BlkH} (h : BlksOK w a n bs) (hb : Below w.heap.size w w') : BlksOK w' a n bs := ⟨h.1.ext blkC_len hb, h.2⟩
def tsOf (bs : List BlkH) : List TermD := bs.map (·.t)
theorem tsOf_len (bs : List BlkH) : (tsOf bs).length = bs.length := by simp [tsOf]
theorem tsOf_at (bs : List BlkH) (k : Nat) (b : BlkH) (h : bs[k]? = some b) : (tsOf bs).getD k zTerm = b.t := by
  simp [tsOf, List.getD_eq_getElem?_getD, h]
abbrev blkV (b : BlkH) : Value := .agg #[.slice b.ia b.n b.c, .int .i64 b.t.kind, .int .i64 b.t.a, .int .i64 b.t.t0, .int .i64 b.t.t1]
abbrev blkO (b : BlkH) : Obj := .cells #[.slice b.ia b.n b.c, .int .i64 b.t.kind, .int .i64 b.t.a, .int .i64 b.t.t0, .int .i64 b.t.t1] 73
theorem BlksOK.cells {w : World} {a : Option Addr} {n : Nat} {bs : List BlkH} (h : BlksOK w a n bs) {k : Nat} (hk : k < n) : ∃ x b o, bs[k]? = some x ∧ TermOK x.t ∧ a = some ⟨b, o, none⟩ ∧
    w.cell? ⟨b, o + k * 5, none⟩ = some (.slice x.ia x.n x.c) ∧ w.cell? ⟨b, o + k * 5 + 1, none⟩ = some (.int .i64 x.t.kind) ∧ w.cell? ⟨b, o + k * 5 + 2, none⟩ = some (.int .i64 x.t.a) ∧ w.cell? ⟨b, o + k * 5 + 3, none⟩ = some (.int .i64 x.t.t0) ∧ w.cell? ⟨b, o + k * 5 + 4, none⟩ = some (.int .i64 x.t.t1) := by
  have hk' : k < bs.length := by rw [h.1.1]; exact hk
  obtain ⟨b, o, e, hc⟩ := h.1.2.2 k bs[k] (List.getElem?_eq_getElem hk')
  exact ⟨bs[k], b, o, List.getElem?_eq_getElem hk', h.2 _ (List.getElem_mem hk'), e, hc 0 (by omega), hc 1 (by omega), hc 2 (by omega), hc 3 (by omega), hc 4 (by omega)⟩
def Sep (v v' : Value) : Prop := ∀ g, v.ownBlock = some g → v'.ownBlock ≠ some g
theorem Sep.symm {v v' : Value} (h : Sep v v') : Sep v' v := fun g h1 h2 => h g h2 h1
structure Fam (w : World) (B n k : Nat) (hF hT : Nat → Value) (xF xT : Nat → List Int) : Prop where
  F : ∀ y, y < n → OwnI w B (hF y) (xF y)
  T : ∀ j, j < k → OwnI w B (hT j) (xT j)
  FF : ∀ y y', y < n → y' < n → y ≠ y' → Sep (hF y) (hF y')
  FT : ∀ y j, y < n → j < k → Sep (hF y) (hT j)
section
variable {w w' : World} {B n k : Nat} {hF hT : Nat → Value} {xF xT : Nat → List Int}
theorem Fam.kept {row : Option Nat} (h : Fam w B n k hF hT xF xT) (hg : w.grownBy w' row) (hr : ∀ r, row = some r → r < B ∨ w.heap.size ≤ r) : Fam w' B n k hF hT xF xT := by
  have key : ∀ v xs, OwnI w B v xs → OwnI w' B v xs := fun v xs ho => by
    refine ho.kept hg ?_
    cases e : v.ownBlock with
    | none => exact .inl rfl
    | some g =>
      have := ho.1.lt g e
      refine .inr fun e2 => ?_
      have := hr g e2.symm
      omega
  exact ⟨fun y hy => key _ _ (h.F y hy), fun j hj => key _ _ (h.T j hj), h.FF, h.FT⟩
theorem Fam.ext (h : Fam w B n k hF hT xF xT) (hb : Below w.heap.size w w') : Fam w' B n k hF hT xF xT :=
  h.kept (row := none) ⟨hb.os, hb.tape, hb.output, hb.size, fun k hk _ => hb.block k hk⟩ (fun r e => by cases e)
theorem Fam.add (h : Fam w B n k hF hT xF xT) (hb : Below w.heap.size w w') (hB : B ≤ w.heap.size) (v : Value) (xs : List Int) (ho : OwnI w' w.heap.size v xs) : Fam w' B n (k + 1) hF (updN hT k v) xF (updN xT k xs) := by
  have h' := h.ext hb
  have hlt : ∀ y, y < n → Sep (hF y) v := fun y hy g e1 e2 => by
    have h1 := (h.F y hy).1.lt g e1
    have h2 := ho.1.lt g e2
    omega
  refine ⟨h'.F, fun j hj => ?_, h.FF, fun y j hy hj => ?_⟩
  · by_cases e : j = k
    · simp only [updN, if_pos e]; exact ho.mono hB
    · simp only [updN, if_neg e]; exact h'.T j (by omega)
  · by_cases e : j = k
    · simp only [updN, if_pos e]; exact hlt y hy
    · simp only [updN, if_neg e]; exact h.FT y j hy (by omega)
theorem Fam.turn (h : Fam w B n k hF hT xF xT) (y : Nat) (hy : y < n) (hg : w.grownBy w' (hF y).ownBlock) (v : Value) (xs : List Int) (ho : OwnI w' B v xs) (hv : v.ownBlock = (hF y).ownBlock ∨ ∃ g, v.ownBlock = some g ∧ w.heap.size ≤ g) : Fam w' B n k (updN hF y v) hT (updN xF y xs) xT := by
  have keep : ∀ v' xs', OwnI w B v' xs' → Sep (hF y) v' → OwnI w' B v' xs' := fun v' xs' ho' hs => by
    refine ho'.kept hg ?_
    cases e : v'.ownBlock with
    | none => exact .inl rfl
    | some g => exact .inr fun e2 => hs g e2.symm e
  have sep : ∀ v' xs', OwnI w B v' xs' → Sep (hF y) v' → Sep v v' := fun v' xs' ho' hs g e1 e2 => by
    rcases hv with e | ⟨g', e, hge⟩
    · exact hs g (by rw [← e]; exact e1) e2
    · rw [e] at e1
      injection e1 with e1
      have := (ho'.1.lt g e2).2
      omega
  refine ⟨fun z hz => ?_, fun j hj => keep _ _ (h.T j hj) (h.FT y j hy hj), fun z z' hz hz' hne => ?_, fun z j hz hj => ?_⟩
  · by_cases e : z = y
    · simp only [updN, if_pos e]; exact ho
    · simp only [updN, if_neg e]; exact keep _ _ (h.F z hz) (h.FF y z hy hz (fun e2 => e e2.symm))
  · by_cases e : z = y
    · have e' : ¬ z' = y := fun e2 => hne (e.trans e2.symm)
      simp only [updN, if_pos e, if_neg e']
      exact sep _ _ (h.F z' hz') (h.FF y z' hy hz' (fun e2 => e' e2.symm))
    · by_cases e' : z' = y
      · simp only [updN, if_pos e', if_neg e]
        exact (sep _ _ (h.F z hz) (h.FF y z hy hz (fun e2 => e e2.symm))).symm
      · simp only [updN, if_neg e', if_neg e]; exact h.FF z z' hz hz' hne
  · by_cases e : z = y
    · simp only [updN, if_pos e]; exact sep _ _ (h.T j hj) (h.FT y j hy hj)
    · simp only [updN, if_neg e]; exact h.FT z j hz hj
end
def hdrA (n : Nat) (h : Nat → Value) : Array Value := ((List.range n).map h).toArray
abbrev nilV : Value := .slice none 0 0
abbrev hdrO (n : Nat) (h : Nat → Value) : Obj := .cells (hdrA n h) 22 (0, 0)
theorem hdrA_at (n : Nat) (h : Nat → Value) (j : Nat) (hj : j < n) : (hdrA n h)[j]? = some (h j) := by simp [hdrA, hj]
theorem hdrA_size (n : Nat) (h : Nat → Value) : (hdrA n h).size = n := by simp [hdrA]
theorem hdrA_put (n : Nat) (h : Nat → Value) (j : Nat) (v : Value) : (hdrA n h).setIfInBounds j v = hdrA n (updN h j v) := by
  apply Array.ext_getElem?
  intro k
  rw [Array.getElem?_setIfInBounds]
  by_cases hk : k < n
  · rw [hdrA_at n h k hk, hdrA_at n _ k hk, hdrA_size]
    by_cases e : j = k
    · subst e; simp [updN, hk]
    · have e' : ¬ k = j := fun h => e h.symm
      simp [updN, e, e']
  · have h1 : (hdrA n h)[k]? = none := Array.getElem?_eq_none (by rw [hdrA_size]; omega)
    have h2 : (hdrA n (updN h j v))[k]? = none := Array.getElem?_eq_none (by rw [hdrA_size]; omega)
    rw [h1, h2]
    by_cases e : j = k
    · subst e; rw [if_pos rfl, hdrA_size, if_neg hk]
    · rw [if_neg e]
theorem hdr_cell {W : World} {g n : Nat} {h : Nat → Value} (hg : W.heap[g]? = some (hdrO n h)) (j : Nat) (hj : j < n) : W.cell? ⟨g, j, none⟩ = some (h j) := by rw [cell_of_row _ _ _ _ _ _ hg, hdrA_at _ _ _ hj]
theorem hdr_free {W : World} {g n : Nat} {h : Nat → Value} (hg : W.heap[g]? = some (hdrO n h)) (j : Nat) : W.frozen? ⟨g, j, none⟩ = false := frozen_of_row _ _ _ _ _ hg
theorem hdr_put {W : World} {g n : Nat} {h : Nat → Value} (hg : W.heap[g]? = some (hdrO n h)) (j : Nat) (v : Value) : (W.setCell ⟨g, j, none⟩ v).heap[g]? = some (hdrO n (updN h j v)) := by rw [heap_setCell_same _ _ _ _ _ _ hg, hdrA_put]
def pvAt (ts : List TermD) (k i y : Nat) : List Nat := ((List.range k).flatMap fun q => ((nx ts q).filter (fun x => x == y)).map fun _ => q) ++ (((nx ts k).take i).filter (fun x => x == y)).map fun _ => k
theorem pvAt_zero (ts : List TermD) (y : Nat) : pvAt ts 0 0 y = [] := by simp [pvAt]
theorem pvAt_next (ts : List TermD) (k i y : Nat) (h : (nx ts k).length ≤ i) : pvAt ts k i y = pvAt ts (k + 1) 0 y := by
  simp only [pvAt, List.take_of_length_le h, List.range_succ, List.flatMap_append, List.flatMap_cons, List.flatMap_nil, List.append_nil, List.take_zero, List.filter_nil, List.map_nil]
theorem pvAt_end (ts : List TermD) (y : Nat) : pvAt ts ts.length 0 y = pv ts y := by simp [pvAt, pv]
theorem pvAt_step (ts : List TermD) (k i : Nat) (x : Nat) (h : (nx ts k)[i]? = some x) (y : Nat) : pvAt ts k (i + 1) y = if y = x then pvAt ts k i y ++ [k] else pvAt ts k i y := by
  have e : (nx ts k).take (i + 1) = (nx ts k).take i ++ [x] := by rw [List.take_add_one, h]; rfl
  simp only [pvAt, e, List.filter_append, List.map_append]
  by_cases hy : y = x
  · subst hy; simp
  · have : (x == y) = false := by simpa using fun e => hy e.symm
    simp [hy, this]
theorem pvAt_len (ts : List TermD) (k i y : Nat) : (pvAt ts k i y).length ≤ 2 * k + 2 := by
  have hn : ∀ q, (nx ts q).length ≤ 2 := fun q => by rw [nx, List.length_map]; exact toD_len _
  have h1 : ∀ k, ((List.range k).flatMap fun q => ((nx ts q).filter (fun x => x == y)).map fun _ => q).length ≤ 2 * k := by
    intro k
    induction k with
    | zero => simp
    | succ k ih =>
      rw [List.range_succ, List.flatMap_append, List.length_append]
      have h2 := List.length_filter_le (fun x => x == y) (nx ts k)
      have h3 := hn k
      simp
      simp at ih
      omega
  have h2 := List.length_filter_le (fun x => x == y) ((nx ts k).take i)
  have h3 : ((nx ts k).take i).length ≤ 2 := by rw [List.length_take]; have := hn k; omega
  have h4 := h1 k
  simp only [pvAt, List.length_append, List.length_map]
  omega
end

section
open Go.Shelf
def lays189_ren : Go.Shelf.Ren := ⟨fun | 189 => 94 | 125 => 161 | 257 => 160 | 128 => 205 | 129 => 206 | 294 => 196 | 295 => 197 | 296 => 198 | 297 => 199 | 298 => 200 | 299 => 201 | 216 => 202 | 300 => 203 | 301 => 204 | 328 => 215 | 329 => 216 | 330 => 217 | 331 => 218 | 332 => 219 | 215 => 136 | 343 => 221 | n => n, fun | 28 => 22 | 3 => 3 | 46 => 209 | 0 => 0 | 51 => 226 | 53 => 228 | 4 => 4 | 183 => 267 | 182 => 266 | 131 => 179 | 5 => 5 | 9 => 9 | 218 => 281 | 222 => 285 | 228 => 287 | 229 => 95 | n => n, fun | n => n⟩
theorem lays189 : Go.Proofs.Lays.n189 Tryz.prog lays189_ren := {
  mixed := by kernel_rfl
  f125 := Tryz.func161.trans (congrArg some (by kernel_rfl))
  f128 := Tryz.func205.trans (congrArg some (by kernel_rfl))
  f129 := Tryz.func206.trans (congrArg some (by kernel_rfl))
  f189 := Tryz.func94.trans (congrArg some (by kernel_rfl))
  f215 := Tryz.func136.trans (congrArg some (by kernel_rfl))
  f216 := Tryz.func202.trans (congrArg some (by kernel_rfl))
  f257 := Tryz.func160.trans (congrArg some (by kernel_rfl))
  f294 := Tryz.func196.trans (congrArg some (by kernel_rfl))
  f295 := Tryz.func197.trans (congrArg some (by kernel_rfl))
  f296 := Tryz.func198.trans (congrArg some (by kernel_rfl))
  f297 := Tryz.func199.trans (congrArg some (by kernel_rfl))
  f298 := Tryz.func200.trans (congrArg some (by kernel_rfl))
  f299 := Tryz.func201.trans (congrArg some (by kernel_rfl))
  f300 := Tryz.func203.trans (congrArg some (by kernel_rfl))
  f301 := Tryz.func204.trans (congrArg some (by kernel_rfl))
  f328 := Tryz.func215.trans (congrArg some (by kernel_rfl))
  f329 := Tryz.func216.trans (congrArg some (by kernel_rfl))
  f330 := Tryz.func217.trans (congrArg some (by kernel_rfl))
  f331 := Tryz.func218.trans (congrArg some (by kernel_rfl))
  f332 := Tryz.func219.trans (congrArg some (by kernel_rfl))
  f343 := Tryz.func221.trans (congrArg some (by kernel_rfl))
  t0 := Tryz.underlying0
  a0 := Tryz.isAgg0
  z0 := Tryz.sizeOf0
  v0 := Tryz.zeroValue0
  t3 := Tryz.underlying3
  a3 := Tryz.isAgg3
  z3 := Tryz.sizeOf3
  v3 := Tryz.zeroValue3
  t4 := Tryz.underlying4
  a4 := Tryz.isAgg4
  z4 := Tryz.sizeOf4
  v4 := Tryz.zeroValue4
  t5 := Tryz.underlying5
  a5 := Tryz.isAgg5
  z5 := Tryz.sizeOf5
  v5 := Tryz.zeroValue5
  t9 := Tryz.underlying9
  a9 := Tryz.isAgg9
  z9 := Tryz.sizeOf9
  v9 := Tryz.zeroValue9
  t28 := Tryz.underlying22
  a28 := Tryz.isAgg22
  z28 := Tryz.sizeOf22
  v28 := Tryz.zeroValue22
  t46 := Tryz.underlying209
  a46 := Tryz.isAgg209
  z46 := Tryz.sizeOf209
  v46 := Tryz.zeroValue209
  t51 := Tryz.underlying226
  a51 := Tryz.isAgg226
  z51 := Tryz.sizeOf226
  v51 := Tryz.zeroValue226
  t53 := Tryz.underlying228
  a53 := Tryz.isAgg228
  z53 := Tryz.sizeOf228
  v53 := Tryz.zeroValue228
  t131 := Tryz.underlying179
  a131 := Tryz.isAgg179
  z131 := Tryz.sizeOf179
  v131 := Tryz.zeroValue179
  t182 := Tryz.underlying266
  a182 := Tryz.isAgg266
  z182 := Tryz.sizeOf266
  v182 := Tryz.zeroValue266
  t183 := Tryz.underlying267
  a183 := Tryz.isAgg267
  z183 := Tryz.sizeOf267
  v183 := Tryz.zeroValue267
  t218 := Tryz.underlying281
  a218 := Tryz.isAgg281
  z218 := Tryz.sizeOf281
  v218 := Tryz.zeroValue281
  t222 := Tryz.underlying285
  a222 := Tryz.isAgg285
  z222 := Tryz.sizeOf285
  v222 := Tryz.zeroValue285
  t228 := Tryz.underlying287
  a228 := Tryz.isAgg287
  z228 := Tryz.sizeOf287
  v228 := Tryz.zeroValue287
  t229 := Tryz.underlying95
  a229 := Tryz.isAgg95
  z229 := Tryz.sizeOf95
  v229 := Tryz.zeroValue95 }
open Go.Sort Go.RowKit in
theorem slices_Sort_int (blk off cap : Nat) (zs : List Int) (w : World) (hH : Holds (Value.int .i64) w blk off zs.toArray) (hblk : blk < w.heap.size) (hsz : zs.length < 4611686018427387904) :
    Calls Tryz.prog 94 #[.slice (some ⟨blk, off, none⟩) zs.length cap] w fun e w' =>
      e = .returned (.tuple #[]) ∧ ∃ n os, w' = grow (putRow (Value.int .i64) (Sort.ahead w n) blk off (zs.mergeSort fun x y => decide (x ≤ y)).toArray) os := Any.slices_Sort_int lays189 blk off cap zs w hH hblk hsz
def lays112_ren : Go.Shelf.Ren := ⟨fun | 112 => 117 | n => n, fun | 28 => 22 | 3 => 3 | 4 => 4 | 0 => 0 | n => n, fun | n => n⟩
theorem lays112 : Go.Proofs.Lays.n112 Tryz.prog lays112_ren := {
  mixed := by kernel_rfl
  f112 := Tryz.func117.trans (congrArg some (by kernel_rfl))
  t0 := Tryz.underlying0
  a0 := Tryz.isAgg0
  z0 := Tryz.sizeOf0
  v0 := Tryz.zeroValue0
  t3 := Tryz.underlying3
  a3 := Tryz.isAgg3
  z3 := Tryz.sizeOf3
  v3 := Tryz.zeroValue3
  t4 := Tryz.underlying4
  a4 := Tryz.isAgg4
  z4 := Tryz.sizeOf4
  v4 := Tryz.zeroValue4
  t28 := Tryz.underlying22
  a28 := Tryz.isAgg22
  z28 := Tryz.sizeOf22
  v28 := Tryz.zeroValue22 }
open Go.RowKit Go.Lib Go.Sort in
theorem slices_Reverse_int (blk off cap : Nat) (zs : List Int) (w : World) (hH : Holds (Value.int .i64) w blk off zs.toArray) (hsz : zs.length ≤ 9223372036854775807) :
    Calls Tryz.prog 117 #[.slice (some ⟨blk, off, none⟩) zs.length cap] w fun e w' => e = .returned (.tuple #[]) ∧ ∃ n, w' = putRow (Value.int .i64) (Sort.ahead w n) blk off zs.reverse.toArray := Any.slices_Reverse_int lays112 blk off cap zs w hH hsz
open Go.RowKit Go.Lib Go.Sort in
theorem slices_Reverse_int_empty (a : Option Addr) (cap : Nat) (w : World) :
    Calls Tryz.prog 117 #[.slice a 0 cap] w fun e w' => e = .returned (.tuple #[]) ∧ w' = w := Any.slices_Reverse_int_empty lays112 a cap w
def laysNm220_ren : Go.Shelf.Ren := ⟨fun | 20 => 95 | n => n, fun | 22 => 22 | 3 => 3 | 4 => 4 | 0 => 0 | n => n, fun | n => n⟩
theorem laysNm220 : Go.Proofs.Lays2.n20 Tryz.prog laysNm220_ren := {
  mixed := by kernel_rfl
  f20 := Tryz.func95.trans (congrArg some (by kernel_rfl))
  t0 := Tryz.underlying0
  a0 := Tryz.isAgg0
  z0 := Tryz.sizeOf0
  v0 := Tryz.zeroValue0
  t3 := Tryz.underlying3
  a3 := Tryz.isAgg3
  z3 := Tryz.sizeOf3
  v3 := Tryz.zeroValue3
  t4 := Tryz.underlying4
  a4 := Tryz.isAgg4
  z4 := Tryz.sizeOf4
  v4 := Tryz.zeroValue4
  t22 := Tryz.underlying22
  a22 := Tryz.isAgg22
  z22 := Tryz.sizeOf22
  v22 := Tryz.zeroValue22
  i3 := by kernel_rfl }
open Go.RowKit Go.Lib Go.Sort in
theorem slices_Compact_int (blk off cap : Nat) (zs : List Int) (w : World) (hH : Holds (Value.int .i64) w blk off zs.toArray) (hsz : zs.length ≤ 9223372036854775807) (hcap : zs.length ≤ cap) :
    Calls Tryz.prog 95 #[.slice (some ⟨blk, off, none⟩) zs.length cap] w fun e w' => e = .returned (.slice (some ⟨blk, off, none⟩) (Lib.compact zs).length cap) ∧ ∃ q, w' = putRow (Value.int .i64) (Sort.ahead w q) blk off (Lib.compact zs ++ List.replicate (zs.length - (Lib.compact zs).length) 0).toArray := Any.slices_Compact_int laysNm220 blk off cap zs w hH hsz hcap
open Go.RowKit Go.Lib Go.Sort in
theorem slices_Compact_int_empty (a : Option Addr) (cap : Nat) (w : World) :
    Calls Tryz.prog 95 #[.slice a 0 cap] w fun e w' => e = .returned (.slice a 0 cap) ∧ w' = w := Any.slices_Compact_int_empty laysNm220 a cap w
open Go.RowKit Go.Sort in
theorem slices_Sort_int_none (p : Option Addr) (cap : Nat) (w : World) :
    Calls Tryz.prog 94 #[.slice p 0 cap] w fun e w' => e = .returned (.tuple #[]) ∧ w' = w := Any.slices_Sort_int_none lays189 p cap w
end

section
open Go.RowKit Go.Sort
theorem heap_mapBlock (w : World) (g k : Nat) (f : Array Value → Array Value) : (mapBlock w g f).heap[k]? = if g = k then (w.heap[k]?).map (onCells f) else w.heap[k]? := by
  show (w.heap.modify g (onCells f))[k]? = _
  rw [Array.getElem?_modify]
theorem grown_putRow (w : World) (g q : Nat) (ys : List Int) : w.grownBy (putRow (Value.int .i64) (Sort.ahead w q) g 0 ys.toArray) (some g) := by
  refine ⟨rfl, rfl, rfl, by simp [Sort.ahead], fun k _ hne => ?_⟩
  unfold putRow
  rw [heap_mapBlock, if_neg (fun e => hne (by rw [e]))]
  rfl
theorem grown_grow {w w' : World} {row : Option Nat} (h : w.grownBy w' row) (os : Array Obj) : w.grownBy (grow w' os) row := by
  refine ⟨h.os, h.tape, h.output, ?_, fun k hk hne => ?_⟩
  · have := h.size
    simp [grow]
    omega
  · rw [heap_grow_old w' os (Nat.lt_of_lt_of_le hk h.size)]
    exact h.block k hk hne
theorem own_holds {w : World} {base g n c : Nat} {xs : List Int} (h : OwnI w base (.slice (some ⟨g, 0, none⟩) n c) xs) : Holds (Value.int .i64) w g 0 xs.toArray := by
  intro j hj
  have hj' : j < xs.length := by simpa using hj
  have hn := h.cap.2.2
  obtain ⟨b, o, e, hc, _⟩ := h.ints.2.2 j (by omega)
  injection e with e
  injection e with e1 e2
  subst e1 e2
  refine ⟨?_, ?_⟩
  · rw [hc]
    simp [List.getD_eq_getElem?_getD, hj']
  · rcases h.1.2 with ⟨hv, _⟩ | ⟨g', cap, cur, hv, _, hh, _⟩
    · cases hv
    · injection hv with e1 _ _
      injection e1 with e1
      injection e1 with e1 _ _
      subst e1
      exact frozen_of_row _ _ _ _ _ hh
theorem own_putRow {w : World} {base g n c : Nat} {xs : List Int} (h : OwnI w base (.slice (some ⟨g, 0, none⟩) n c) xs) (q : Nat) (ys : List Int) (hl : ys.length = xs.length) (hy : ∀ y ∈ ys, I64 y) :
    OwnI (putRow (Value.int .i64) (Sort.ahead w q) g 0 ys.toArray) base (.slice (some ⟨g, 0, none⟩) n c) ys := by
  have hn := h.cap.2.2
  refine ⟨⟨by simp [intVals], ?_⟩, hy, by have := h.2.2; omega⟩
  rcases h.1.2 with ⟨hv, _⟩ | ⟨g', cap, cur, hv, hb, hh, h1, h2, h3, h4⟩
  · cases hv
  · injection hv with e1 e2 e3
    injection e1 with e1
    injection e1 with e1 _ _
    subst e1 e3
    refine .inr ⟨g, c, putCells (Value.int .i64) 0 ys.toArray cur, by rw [hn, hl], hb, ?_, by omega, h2, by simp [putCells, h3], ?_⟩
    · unfold putRow
      rw [heap_mapBlock, if_pos rfl]
      show (w.heap[g]?).map _ = _
      rw [hh]
      rfl
    · apply List.ext_getElem?
      intro k
      rw [List.getElem?_take]
      by_cases hk : k < ys.length
      · have hkc : k < cur.size := by omega
        rw [if_pos (by omega)]
        simp [putCells, intVals, hk, hkc]
      · rw [if_neg (by omega), List.getElem?_eq_none (by simp [intVals]; omega)]
theorem own_ahead {w : World} {base : Nat} {v : Value} {xs : List Int} (h : OwnI w base v xs) (os : Array Obj) : OwnI (grow w os) base v xs :=
  h.ext ⟨rfl, rfl, rfl, by simp [grow], fun k hk => heap_grow_old w os hk⟩
def TurnPost (w : World) (base : Nat) (v : Value) (ys : List Int) (e : Ending) (w' : World) : Prop := e = .returned (.tuple #[]) ∧ OwnI w' base v ys ∧ w.grownBy w' v.ownBlock
theorem grown_refl (w : World) (row : Option Nat) : w.grownBy w row := ⟨rfl, rfl, rfl, Nat.le_refl _, fun _ _ _ => rfl⟩
theorem sortI_any (base : Nat) (v : Value) (xs : List Int) (w : World) (h : OwnI w base v xs) :
    Calls Tryz.prog 94 #[v] w (TurnPost w base v (xs.mergeSort fun x y => decide (x ≤ y))) := by
  rcases id h.1.2 with ⟨rfl, h0⟩ | ⟨g, cap, cur, rfl, hb, hh, _⟩
  · have h0 : xs = [] := List.eq_nil_of_length_eq_zero h0
    subst h0
    refine (slices_Sort_int_none none 0 w).mono ?_
    rintro e w' ⟨rfl, rfl⟩
    exact ⟨rfl, by simpa using h, grown_refl _ _⟩
  · refine (slices_Sort_int g 0 cap xs w (own_holds h) (Array.getElem?_eq_some_iff.1 hh).1 (by have := h.2.2; omega)).mono ?_
    rintro e w' ⟨rfl, n, os, rfl⟩
    have hp := List.mergeSort_perm xs fun x y => decide (x ≤ y)
    refine ⟨rfl, own_ahead (own_putRow h n _ (List.length_mergeSort _) (fun y hy => h.2.1 y (hp.mem_iff.1 hy))) os, ?_⟩
    exact grown_grow (grown_putRow w g n _) os
theorem reverseI_any (base : Nat) (v : Value) (xs : List Int) (w : World) (h : OwnI w base v xs) :
    Calls Tryz.prog 117 #[v] w (TurnPost w base v xs.reverse) := by
  rcases id h.1.2 with ⟨rfl, h0⟩ | ⟨g, cap, cur, rfl, hb, hh, _⟩
  · have h0 : xs = [] := List.eq_nil_of_length_eq_zero h0
    subst h0
    refine (slices_Reverse_int_empty none 0 w).mono ?_
    rintro e w' ⟨rfl, rfl⟩
    exact ⟨rfl, by simpa using h, grown_refl _ _⟩
  · refine (slices_Reverse_int g 0 cap xs w (own_holds h) (by have := h.2.2; omega)).mono ?_
    rintro e w' ⟨rfl, n, rfl⟩
    exact ⟨rfl, own_putRow h n _ (by simp) (fun y hy => h.2.1 y (by simpa using hy)), grown_putRow w g n _⟩
def CompactPost (w : World) (base : Nat) (v : Value) (ys : List Int) (e : Ending) (w' : World) : Prop := ∃ v', e = .returned v' ∧ OwnI w' base v' ys ∧ w.grownBy w' v.ownBlock
theorem compact_len (xs : List Int) : (Lib.compact xs).length ≤ xs.length := by
  unfold Lib.compact Lib.compactUpTo
  rw [List.length_map]
  have := List.length_filter_le (Lib.keeps xs.toArray) (List.range xs.length)
  simpa using this
theorem compact_mem (xs : List Int) : ∀ y ∈ Lib.compact xs, y ∈ xs := by
  intro y hy
  unfold Lib.compact Lib.compactUpTo at hy
  rw [List.mem_map] at hy
  obtain ⟨k, hk, rfl⟩ := hy
  have := List.mem_range.1 (List.mem_filter.1 hk).1
  simp [this]
theorem ownI_trunc {w : World} {base g c n : Nat} {xs ys : List Int} (h : OwnI w base (.slice (some ⟨g, 0, none⟩) n c) (xs ++ ys)) : OwnI w base (.slice (some ⟨g, 0, none⟩) xs.length c) xs := by
  refine ⟨⟨by simp [intVals], ?_⟩, fun z hz => h.2.1 z (by simp [hz]), by have := h.2.2; simp at this; omega⟩
  rcases h.1.2 with ⟨hv, _⟩ | ⟨g', cap, cur, hv, hb, hh, h1, h2, h3, h4⟩
  · cases hv
  · injection hv with e1 e2 e3
    injection e1 with e1
    injection e1 with e1 _ _
    subst e1 e3
    refine .inr ⟨g, c, cur, rfl, hb, hh, by simp at h1; omega, h2, h3, ?_⟩
    have h5 : (cur.toList.take ((xs ++ ys).length * 1)).take xs.length = (intVals (xs ++ ys)).take xs.length := by rw [h4]
    rw [List.take_take] at h5
    simpa [intVals] using h5
theorem compactI_any (base : Nat) (v : Value) (xs : List Int) (w : World) (h : OwnI w base v xs) :
    Calls Tryz.prog 95 #[v] w (CompactPost w base v (Lib.compact xs)) := by
  rcases id h.1.2 with ⟨rfl, h0⟩ | ⟨g, cap, cur, rfl, hb, hh, h1, _⟩
  · have h0 : xs = [] := List.eq_nil_of_length_eq_zero h0
    subst h0
    refine (slices_Compact_int_empty none 0 w).mono ?_
    rintro e w' ⟨rfl, rfl⟩
    exact ⟨_, rfl, h, grown_refl _ _⟩
  · refine (slices_Compact_int g 0 cap xs w (own_holds h) (by have := h.2.2; omega) h1).mono ?_
    rintro e w' ⟨rfl, n, rfl⟩
    have hc := compact_len xs
    have h9 := own_putRow h n (Lib.compact xs ++ List.replicate (xs.length - (Lib.compact xs).length) 0) (by simp; omega) (fun y hy => by
      rcases List.mem_append.1 hy with hy | hy
      · exact h.2.1 y (compact_mem xs y hy)
      · have := (List.mem_replicate.1 hy).2
        subst this
        unfold I64; omega)
    exact ⟨_, rfl, ownI_trunc h9, grown_putRow w g n _⟩
end
end Go.Proofs.YtblhmdhfhaencaaGreat
