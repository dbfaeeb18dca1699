/-
  Sets of blocks as they lie in memory: arrays of 200 truths. No program in sight.
-/
import Derived.Test.YtblhmdhfhaencaaGreatEU
import Derived.Test.YtblhmdhfhaencaaGreatRows2
import Derived.Test.YtblhmdhfhaencaaGreatSameI
import Derived.Test.YtblhmdhfhaencaaGreatOwnI
namespace Go.Proofs.YtblhmdhfhaencaaGreat
set_option linter.unusedSimpArgs false
set_option linter.unusedVariables false
open Go.RowKit

def setA (f : Nat → Bool) : Array Value := ((List.range 200).map fun j => Value.bool (f j)).toArray
theorem setA_size (f : Nat → Bool) : (setA f).size = 200 := by simp [setA]
theorem setA_at (f : Nat → Bool) (j : Nat) (h : j < 200) : (setA f)[j]? = some (.bool (f j)) := by simp [setA, h]
theorem setA_ext {f g : Nat → Bool} (h : ∀ k, k < 200 → f k = g k) : setA f = setA g := by
  unfold setA
  congr 1
  exact List.map_congr_left fun k hk => by rw [h k (List.mem_range.1 hk)]
theorem setA_put (f : Nat → Bool) (j : Nat) (h : j < 200) (b : Bool) : (setA f).setIfInBounds j (.bool b) = setA (fun k => if k = j then b else f k) := by
  apply Array.ext_getElem?
  intro k
  by_cases hk : k < 200
  · rw [Array.getElem?_setIfInBounds, setA_at f k hk, setA_at _ k hk]
    by_cases e : j = k
    · subst e; simp [setA_size, h]
    · rw [if_neg e, if_neg (fun x => e x.symm)]
  · rw [Array.getElem?_eq_none (by simp [setA_size]; omega), Array.getElem?_eq_none (by simp [setA_size]; omega)]
theorem setA_all (f : Nat → Bool) : (setA f).all (·.oneCell') = true := by
  rw [Array.all_eq_true_iff_forall_mem]
  intro v hv
  simp [setA] at hv
  obtain ⟨j, _, rfl⟩ := hv
  rfl
theorem setA_inj {f g : Nat → Bool} (h : setA f = setA g) (k : Nat) (hk : k < 200) : f k = g k := by
  have h1 := setA_at f k hk
  rw [h, setA_at g k hk] at h1
  simpa using h1.symm

open Go.RowKit

theorem none1_any (x : Int) (w : World) : Calls Tryz.prog 211 (#[.int .i64 x] ++ #[]) w fun e w' => e = .returned (.bool (x != 0)) ∧ Below w.heap.size w w' := by
  show Calls Tryz.prog 211 #[.int .i64 x] w _
  go_enter Tryz.func211, Tryz.ntmps211
  go_wp2
  go_ret
  exact ⟨rfl, Below.refl _ _⟩
theorem call_none1 (args : Array Value) (w : World) : (callFunc 211 args).run Tryz.prog w = .ok (.enter 211 args) w := by kernel_rfl
def noneB (xs : List Int) : Bool := !xs.any (fun x => x != 0)
theorem none_any (a : Option Addr) (n c : Nat) (xs : List Int) (w : World) (h : Ints w a n xs) :
    Calls Tryz.prog 174 #[.slice a n c] w fun e w' => e = .returned (.bool (noneB xs)) ∧ Below w.heap.size w w' := by
  have H := Lib.hid h
  clear h
  go_enter Tryz.func174, Tryz.ntmps174
  go_wp2_with (go_at_call 168; refine (containsFunc_any _ #[] call_none1 (fun x => x != 0) a n c xs w (fun x W _ _ => none1_any x W) H.out).mono ?_; rintro e w' ⟨rfl, hb'⟩; have HB' := Lib.hid hb'; clear hb')
  go_ret
  exact ⟨rfl, HB'.out⟩
theorem variable_any (n : Int) (w : World) : Calls Tryz.prog 175 #[.int .i64 n] w fun e w' => e = .returned (.bool (varB n)) ∧ w = w' := by
  by_cases h1 : 1 ≤ n
  · have d1 : decide (1 ≤ n) = true := by simpa using h1
    have HE : Hid (varB n = decide (n ≤ 200)) := by rw [Hid, varB, decide_eq_decide]; omega
    go_enter Tryz.func175, Tryz.ntmps175
    go_wp2
    go_ret
    exact ⟨by rw [HE.out]; rfl, rfl⟩
  · have d1 : decide (1 ≤ n) = false := by simpa using h1
    have HE : Hid (varB n = false) := by rw [Hid, varB, decide_eq_false_iff_not]; omega
    go_enter Tryz.func175, Tryz.ntmps175
    go_wp2
    go_ret
    exact ⟨by rw [HE.out]; rfl, rfl⟩
def fitsV (b : Bool) (n : Int) : Bool := if b then varB n else decide (n = 0)
theorem fits_any (b : Bool) (n : Int) (w : World) : Calls Tryz.prog 176 #[.bool b, .int .i64 n] w fun e w' => e = .returned (.bool (fitsV b n)) ∧ w = w' := by
  cases b with
  | true =>
    go_enter Tryz.func176, Tryz.ntmps176
    go_wp2_with (go_at_call 175; refine (variable_any _ _).mono ?_; rintro e w' ⟨rfl, rfl⟩)
    go_ret
    exact ⟨rfl, rfl⟩
  | false =>
    have HE : Hid (fitsV false n = (n == 0)) := by
      rw [Hid, fitsV, if_neg (by simp)]
      by_cases h : n = 0 <;> simp [h]
    go_enter Tryz.func176, Tryz.ntmps176
    go_wp2
    go_ret
    exact ⟨by rw [HE.out]; rfl, rfl⟩
abbrev termV (t : TermD) : Value := .agg #[.int .i64 t.kind, .int .i64 t.a, .int .i64 t.t0, .int .i64 t.t1]
abbrev termO (t : TermD) : Obj := .cells #[.int .i64 t.kind, .int .i64 t.a, .int .i64 t.t0, .int .i64 t.t1] 70
def TermOK (t : TermD) : Prop := I64 t.kind ∧ I64 t.a ∧ I64 t.t0 ∧ I64 t.t1
theorem ints_lit {W : World} {g o : Nat} {cells : Array Value} {t : TypeId} (hg : W.heap[g]? = some (.cells cells t (0, 0))) (xs : List Int) (hx : ∀ x ∈ xs, I64 x) (hn : xs.length ≤ 1000) (hc : ∀ k, k < xs.length → cells[o + k]? = some (.int .i64 (xs.getD k 0))) : Ints W (some ⟨g, o, none⟩) xs.length xs :=
  ⟨rfl, by omega, fun k hk => ⟨g, o, rfl, by rw [cell_of_row _ _ _ _ _ _ hg]; exact hc k hk, hx _ (by rw [List.getD_eq_getElem?_getD, List.getElem?_eq_getElem hk]; exact List.getElem_mem _)⟩⟩
theorem heap_at (W : World) (o : Obj) (H : Nat) (hH : W.heap.size = H) : (W.alloc o).heap[H]? = some o := by subst hH; exact heap_alloc_new _ _
def TermPost (t : TermD) (w : World) (e : Ending) (w' : World) : Prop := e = .returned (.bool (termB t)) ∧ Below w.heap.size w w'
set_option maxHeartbeats 1000000 in
theorem isTerm_any (t : TermD) (w : World) (h : TermOK t) : Calls Tryz.prog 128 #[termV t] w (TermPost t w) := by
  obtain ⟨⟨h1, h2⟩, ⟨h3, h4⟩, ⟨h5, h6⟩, h7, h8⟩ := h
  obtain ⟨k, a, x, y⟩ := t
  simp only at h1 h2 h3 h4 h5 h6 h7 h8
  have HX := Lib.hid (show ∀ z ∈ [a, x, y], I64 z by simp [I64]; omega)
  have box : ∀ (W : World), Below w.heap.size w W → ∀ W', Below W.heap.size W W' → Below w.heap.size w W' := fun W h1 W' h2 => ext_trans h1 h2
  have HBX := Lib.hid box
  clear box
  by_cases k1 : k = 1
  · subst k1
    have HE : Hid (termB ⟨1, a, x, y⟩ = noneB [a, y]) := by
      rw [Hid, Bool.eq_iff_iff]; simp [termB, noneB]
    go_enter Tryz.func128, Tryz.ntmps128
    go_wp2_with (go_at_call 174; refine (none_any _ _ _ [a, y] _ (ints_lit (heap_at _ _ _ (by simp)) [a, y] (fun z hz => HX.out z (by simp at hz ⊢; omega)) (by simp) (fun k hk => by match k, hk with | 0, _ => rfl | 1, _ => rfl))).mono ?_; rintro e w' ⟨rfl, hb'⟩; have HB' := Lib.hid hb'; clear hb')
    go_ret
    exact ⟨by rw [HE.out]; rfl, HBX.out _ ((ext_alloc _ _).alloc (by simp) _) _ HB'.out⟩
  · by_cases k2 : k = 2
    · subst k2
      have HE : Hid (termB ⟨2, a, x, y⟩ = varB a) := by
        rw [Hid, Bool.eq_iff_iff]; simp [termB]
      go_enter Tryz.func128, Tryz.ntmps128
      go_wp2_with (go_at_call 175; refine (variable_any _ _).mono ?_; rintro e w' ⟨rfl, rfl⟩)
      go_ret
      exact ⟨by rw [HE.out]; rfl, ext_alloc _ _⟩
    · by_cases k3 : k = 3
      · subst k3
        by_cases hf : fitsV (a != 0) a = true
        · have HE : Hid (termB ⟨3, a, x, y⟩ = noneB [x, y]) := by
            rw [Hid, Bool.eq_iff_iff]
            unfold fitsV at hf
            by_cases ha : a = 0
            · simp [termB, noneB, ha]
            · simp [ha] at hf
              simp [termB, noneB, hf]
          have HF := Lib.hid hf
          clear hf
          go_enter Tryz.func128, Tryz.ntmps128
          go_wp2_with (first
            | (go_at_call 174; refine (none_any _ _ _ [x, y] _ (ints_lit (heap_alloc_new _ _) [x, y] (fun z hz => HX.out z (by simp at hz ⊢; omega)) (by simp) (fun k hk => by match k, hk with | 0, _ => rfl | 1, _ => rfl))).mono ?_; rintro e w' ⟨rfl, hb'⟩; have HB' := Lib.hid hb'; clear hb')
            | (go_at_call 176; refine (fits_any _ _ _).mono ?_; rintro e w' ⟨rfl, rfl⟩; rw [HF.out]))
          go_ret
          exact ⟨by rw [HE.out]; rfl, HBX.out _ (ext_alloc _ _) _ HB'.out⟩
        · have HE : Hid (termB ⟨3, a, x, y⟩ = false) := by
            rw [Hid, Bool.eq_false_iff]
            unfold fitsV at hf
            by_cases ha : a = 0
            · simp [ha] at hf
            · simp [ha] at hf
              simp [termB, hf, ha]
          have hf' : fitsV (a != 0) a = false := by simpa using hf
          have HF := Lib.hid hf'
          clear hf hf'
          go_enter Tryz.func128, Tryz.ntmps128
          go_wp2_with (go_at_call 176; refine (fits_any _ _ _).mono ?_; rintro e w' ⟨rfl, rfl⟩; rw [HF.out])
          go_ret
          exact ⟨by rw [HE.out]; rfl, ext_alloc _ _⟩
      · have b1 : (k == 1) = false := by simpa using k1
        have b2 : (k == 2) = false := by simpa using k2
        have b3 : (k == 3) = false := by simpa using k3
        by_cases k4 : k = 4
        · subst k4
          have HE : Hid (termB ⟨4, a, x, y⟩ = noneB [a, x, y]) := by
            rw [Hid, Bool.eq_iff_iff]; simp [termB, noneB]
          clear b1 b2 b3 k1 k2 k3
          go_enter Tryz.func128, Tryz.ntmps128
          go_wp2_with (go_at_call 174; refine (none_any _ _ _ [a, x, y] _ (ints_lit (heap_at _ _ _ (by simp)) [a, x, y] (fun z hz => HX.out z hz) (by simp) (fun k hk => by match k, hk with | 0, _ => rfl | 1, _ => rfl | 2, _ => rfl))).mono ?_; rintro e w' ⟨rfl, hb'⟩; have HB' := Lib.hid hb'; clear hb')
          go_ret
          exact ⟨by rw [HE.out]; rfl, HBX.out _ ((ext_alloc _ _).alloc (by simp) _) _ HB'.out⟩
        · have HE : Hid (termB ⟨k, a, x, y⟩ = false) := by
            rw [Hid, Bool.eq_false_iff]; simp [termB, k1, k2, k3, k4]
          have b4 : (k == 4) = false := by simpa using k4
          clear k1 k2 k3 k4
          go_enter Tryz.func128, Tryz.ntmps128
          go_wp2
          go_ret
          exact ⟨by rw [HE.out]; rfl, ext_alloc _ _⟩

open Go.RowKit

theorem toD_ok (t : TermD) (h : TermOK t) : ∀ x ∈ toD t, I64 x := by
  intro x hx
  unfold toD at hx
  split at hx
  · split at hx
    · simp at hx; subst hx; exact h.2.2.1
    · split at hx
      · simp at hx; rcases hx with rfl | rfl
        · exact h.2.2.1
        · exact h.2.2.2
      · cases hx
  · cases hx
theorem below_size' {w w' : World} {o : Obj} (h : Below (w.alloc o).heap.size (w.alloc o) w') : w.heap.size ≤ w'.heap.size := by have := h.size; simp at this; omega
set_option maxHeartbeats 1000000 in
theorem to_any (t : TermD) (w : World) (h : TermOK t) : Calls Tryz.prog 124 #[termV t] w (IntsPost w (toD t)) := by
  have HT := Lib.hid h
  have HO := Lib.hid (toD_ok t h)
  clear h
  obtain ⟨k, a, x, y⟩ := t
  by_cases ht : termB ⟨k, a, x, y⟩ = true
  · have HB := Lib.hid ht
    by_cases k1 : k = 1
    · subst k1
      have HE : Hid (toD ⟨1, a, x, y⟩ = [x]) := by rw [Hid, toD, if_pos ht, if_pos rfl]
      clear ht
      go_enter Tryz.func124, Tryz.ntmps124
      go_wp2_with (go_at_call 128; refine (isTerm_any ⟨1, a, x, y⟩ _ HT.out).mono ?_; rintro e w' ⟨rfl, hb'⟩; rw [HB.out]; obtain ⟨g1, g2⟩ := bcell hb'; have HB' := Lib.hid hb'; clear hb')
      go_ret
      rw [HE.out]
      exact ⟨_, rfl, (ownI_lit (xs := [x]) rfl _ (below_size' HB'.out) (by have := HO.out; rwa [HE.out] at this) (by simp)), (ext_trans (ext_alloc _ _) HB'.out).alloc (below_size' HB'.out) _⟩
    · have b1 : (k == 1) = false := by simpa using k1
      by_cases k2 : k = 2
      · subst k2
        have HE : Hid (toD ⟨2, a, x, y⟩ = [x, y]) := by rw [Hid, toD, if_pos ht, if_neg (by simp), if_pos rfl]
        clear ht k1
        go_enter Tryz.func124, Tryz.ntmps124
        go_wp2_with (first
          | (go_at_call 93
             refine (cloneInts_any _ _ _ [x, y] _ (ints_lit HK.out [x, y] (by have := HO.out; rwa [HE.out] at this) (by simp) (fun k hk => by match k, hk with | 0, _ => rfl | 1, _ => rfl))).mono ?_
             rintro e w2 ⟨v, rfl, ho, hb2⟩
             have HO2 := Lib.hid ho
             have HB2 := Lib.hid hb2
             clear ho hb2)
          | (go_at_call 128
             refine (isTerm_any ⟨2, a, x, y⟩ _ HT.out).mono ?_
             rintro e w' ⟨rfl, hb'⟩
             rw [HB.out]
             obtain ⟨g1, g2⟩ := bcell hb'
             have HK := Lib.hid (block_ext hb' (heap_alloc_new w (termO ⟨2, a, x, y⟩)))
             have HB' := Lib.hid hb'
             clear hb'))
        go_ret
        rw [HE.out]
        exact ⟨_, rfl, HO2.out.mono (below_size' HB'.out), ext_trans (ext_trans (ext_alloc _ _) HB'.out) HB2.out⟩
      · have b2 : (k == 2) = false := by simpa using k2
        have HE : Hid (toD ⟨k, a, x, y⟩ = []) := by rw [Hid, toD, if_pos ht, if_neg k1, if_neg k2]
        clear ht k1 k2
        go_enter Tryz.func124, Tryz.ntmps124
        go_wp2_with (go_at_call 128; refine (isTerm_any ⟨k, a, x, y⟩ _ HT.out).mono ?_; rintro e w' ⟨rfl, hb'⟩; rw [HB.out]; obtain ⟨g1, g2⟩ := bcell hb'; have HB' := Lib.hid hb'; clear hb')
        go_ret
        rw [HE.out]
        exact ⟨_, rfl, OwnI.nil _ _, ext_trans (ext_alloc _ _) HB'.out⟩
  · have HE : Hid (toD ⟨k, a, x, y⟩ = []) := by rw [Hid, toD, if_neg ht]
    have ht' : termB ⟨k, a, x, y⟩ = false := by simpa using ht
    have HB := Lib.hid ht'
    clear ht ht'
    go_enter Tryz.func124, Tryz.ntmps124
    go_wp2_with (go_at_call 128; refine (isTerm_any ⟨k, a, x, y⟩ _ HT.out).mono ?_; rintro e w' ⟨rfl, hb'⟩; rw [HB.out]; obtain ⟨g1, g2⟩ := bcell hb'; have HB' := Lib.hid hb'; clear hb')
    go_ret
    rw [HE.out]
    exact ⟨_, rfl, OwnI.nil _ _, ext_trans (ext_alloc _ _) HB'.out⟩
end Go.Proofs.YtblhmdhfhaencaaGreat
