/-
  Flat: check.alike, ir.shaped.
-/
import Derived.Test.YtfpbfdkjcmlimaaGreatFD
namespace Go.Proofs.YtfpbfdkjcmlimaaGreat
set_option linter.unusedSimpArgs false
set_option linter.unusedVariables false
set_option linter.unusedSectionVars false
set_option maxRecDepth 100000
set_option maxHeartbeats 40000000
section
open Go.RowKit
def alikeB (s t : InsD) : Bool := decide (s.op = t.op ∧ s.imm = t.imm ∧ s.callee = t.callee ∧ (s.args.length : Int) = t.many)
theorem alike_any (s t : InsD) (aa ba : Option Addr) (na ca nb cb : Nat) (w : World) (hs : s.args.length = na) (hn : na ≤ 17592186044416) :
    Calls Tryz.prog 27 #[insV s aa na ca, insV t ba nb cb] w fun e w' => e = .returned (.bool (alikeB s t)) ∧ Below w.heap.size w w' := by
  have HB := Lib.hid (ext_trans (ext_alloc w (insO s aa na ca)) (ext_alloc _ (insO t ba nb cb)))
  by_cases h1 : s.op = t.op
  · have b1 : (s.op == t.op) = true := by simpa using h1
    by_cases h2 : s.imm = t.imm
    · have b2 : (s.imm == t.imm) = true := by simpa using h2
      by_cases h3 : s.callee = t.callee
      · have b3 : (s.callee == t.callee) = true := by simpa using h3
        have HE : Hid (alikeB s t = ((na : Int) == t.many)) := by
          rw [Hid, alikeB, hs]
          by_cases h : (na : Int) = t.many <;> simp [h1, h2, h3, h]
        clear h1 h2 h3
        go_enter Tryz.func27, Tryz.ntmps27
        go_wp2
        go_ret
        exact ⟨by rw [HE.out]; rfl, HB.out⟩
      · have b3 : (s.callee == t.callee) = false := by simpa using h3
        have HE : Hid (alikeB s t = false) := by rw [Hid, alikeB]; simp [h3]
        clear h1 h2 h3
        go_enter Tryz.func27, Tryz.ntmps27
        go_wp2
        go_ret
        exact ⟨by rw [HE.out]; rfl, HB.out⟩
    · have b2 : (s.imm == t.imm) = false := by simpa using h2
      have HE : Hid (alikeB s t = false) := by rw [Hid, alikeB]; simp [h2]
      clear h1 h2
      go_enter Tryz.func27, Tryz.ntmps27
      go_wp2
      go_ret
      exact ⟨by rw [HE.out]; rfl, HB.out⟩
  · have b1 : (s.op == t.op) = false := by simpa using h1
    have HE : Hid (alikeB s t = false) := by rw [Hid, alikeB]; simp [h1]
    clear h1
    go_enter Tryz.func27, Tryz.ntmps27
    go_wp2
    go_ret
    exact ⟨by rw [HE.out]; rfl, HB.out⟩
def shapeD (o : Int) : (Bool × Bool × Bool × Bool × Bool) × Bool :=
  if o = 13 then ((false, false, false, false, true), true) else if o = 1 then ((true, false, false, true, false), true) else if o = 12 then ((false, true, true, true, false), true) else if o = 11 then ((true, true, false, true, false), true) else if o = 14 then ((true, true, false, false, false), true) else ((true, true, true, false, false), decide (2 ≤ o ∧ o ≤ 10))
def shapeV (x : (Bool × Bool × Bool × Bool × Bool) × Bool) : Value := .tuple #[.agg #[.bool x.1.1, .bool x.1.2.1, .bool x.1.2.2.1, .bool x.1.2.2.2.1, .bool x.1.2.2.2.2], .bool x.2]
theorem shaped_any (o : Int) (w : World) : Calls Tryz.prog 80 #[.int .i64 o] w fun e w' => e = .returned (shapeV (shapeD o)) ∧ Below w.heap.size w w' := by
  by_cases h13 : o = 13
  · subst h13
    go_enter Tryz.func80, Tryz.ntmps80
    go_wp2
    exact bodyPost_ret (v := shapeV (shapeD 13)) (by simp [results, Tryz.results80, go_sem, shapeV, shapeD]) rfl ⟨rfl, ext_alloc _ _⟩
  have b13 : (o == 13) = false := by simpa using h13
  by_cases h1 : o = 1
  · subst h1
    go_enter Tryz.func80, Tryz.ntmps80
    go_wp2
    exact bodyPost_ret (v := shapeV (shapeD 1)) (by simp [results, Tryz.results80, go_sem, shapeV, shapeD]) rfl ⟨rfl, ext_alloc _ _⟩
  have b1 : (o == 1) = false := by simpa using h1
  by_cases h12 : o = 12
  · subst h12
    go_enter Tryz.func80, Tryz.ntmps80
    go_wp2
    exact bodyPost_ret (v := shapeV (shapeD 12)) (by simp [results, Tryz.results80, go_sem, shapeV, shapeD]) rfl ⟨rfl, ext_alloc _ _⟩
  have b12 : (o == 12) = false := by simpa using h12
  by_cases h11 : o = 11
  · subst h11
    go_enter Tryz.func80, Tryz.ntmps80
    go_wp2
    exact bodyPost_ret (v := shapeV (shapeD 11)) (by simp [results, Tryz.results80, go_sem, shapeV, shapeD]) rfl ⟨rfl, ext_alloc _ _⟩
  have b11 : (o == 11) = false := by simpa using h11
  by_cases h14 : o = 14
  · subst h14
    go_enter Tryz.func80, Tryz.ntmps80
    go_wp2
    exact bodyPost_ret (v := shapeV (shapeD 14)) (by simp [results, Tryz.results80, go_sem, shapeV, shapeD]) rfl ⟨rfl, ext_alloc _ _⟩
  have b14 : (o == 14) = false := by simpa using h14
  have HE : Hid (shapeD o = ((true, true, true, false, false), decide (2 ≤ o ∧ o ≤ 10))) := by
    rw [Hid, shapeD, if_neg h13, if_neg h1, if_neg h12, if_neg h11, if_neg h14]
  clear h13 h1 h12 h11 h14
  by_cases h2 : 2 ≤ o
  · have d2 : decide (2 ≤ o) = true := by simpa using h2
    have HF : Hid (decide (2 ≤ o ∧ o ≤ 10) = decide (o ≤ 10)) := by rw [Hid, decide_eq_decide]; omega
    go_enter Tryz.func80, Tryz.ntmps80
    go_wp2
    exact bodyPost_ret (v := .tuple #[.agg #[.bool true, .bool true, .bool true, .bool false, .bool false], .bool (decide (o ≤ 10))]) (by simp [results, Tryz.results80, go_sem]) rfl ⟨by rw [HE.out, HF.out]; rfl, ext_alloc _ _⟩
  · have d2 : decide (2 ≤ o) = false := by simpa using h2
    have HF : Hid (decide (2 ≤ o ∧ o ≤ 10) = false) := by rw [Hid, decide_eq_false_iff_not]; omega
    go_enter Tryz.func80, Tryz.ntmps80
    go_wp2
    exact bodyPost_ret (v := .tuple #[.agg #[.bool true, .bool true, .bool true, .bool false, .bool false], .bool false]) (by simp [results, Tryz.results80, go_sem]) rfl ⟨by rw [HE.out, HF.out]; rfl, ext_alloc _ _⟩
end

section
open Go.RowKit
def idxF {α : Type} (p : α → Bool) : List α → Int
  | [] => -1
  | y :: l => if p y then 0 else if idxF p l < 0 then -1 else idxF p l + 1
theorem idxF_ge {α : Type} (p : α → Bool) (l : List α) : -1 ≤ idxF p l ∧ idxF p l < l.length := by
  induction l with
  | nil => simp [idxF]
  | cons y l ih =>
    simp only [idxF, List.length_cons]
    split
    · omega
    · split <;> omega
theorem idxF_found {α : Type} (p : α → Bool) (l : List α) (k : Nat) (x : α) (hx : l[k]? = some x) (hp : p x = true) (hno : ∀ j y, j < k → l[j]? = some y → p y = false) : idxF p l = k := by
  induction l generalizing k with
  | nil => simp at hx
  | cons y l ih =>
    cases k with
    | zero => simp at hx; subst hx; simp [idxF, hp]
    | succ k =>
      have h0 := hno 0 y (by omega) rfl
      have := ih k (by simpa using hx) (fun j z hj hz => hno (j + 1) z (by omega) (by simpa using hz))
      simp only [idxF, h0, this]
      simp
      omega
theorem idxF_none {α : Type} (p : α → Bool) (l : List α) (hno : ∀ y ∈ l, p y = false) : idxF p l = -1 := by
  induction l with
  | nil => rfl
  | cons y l ih => simp [idxF, hno y (by simp), ih (fun z hz => hno z (by simp [hz]))]
theorem idxF_iff {α : Type} (p : α → Bool) (l : List α) : 0 ≤ idxF p l ↔ l.any p = true := by
  induction l with
  | nil => simp [idxF]
  | cons y l ih =>
    have hg := idxF_ge p l
    have e : idxF p (y :: l) = (if p y then 0 else if idxF p l < 0 then -1 else idxF p l + 1) := rfl
    rw [e, List.any_cons, Bool.or_eq_true, ← ih]
    by_cases hp : p y = true
    · simp [hp]
    · rw [if_neg hp]
      split
      · constructor
        · intro h; omega
        · rintro (h | h)
          · exact absurd h hp
          · omega
      · constructor
        · intro h; exact .inr (by omega)
        · intro h; omega
theorem idxF_any {α : Type} (p : α → Bool) (l : List α) : decide (0 ≤ idxF p l) = l.any p := by
  rw [Bool.eq_iff_iff, decide_eq_true_eq]
  exact idxF_iff p l
theorem indexFunc_any (F : Nat) (eF : ∀ args w, (callFunc F args).run Tryz.prog w = .ok (.enter F args) w) (p : Int → Bool) (hp : ∀ (x : Int) (W : World), Calls Tryz.prog F #[.int .i64 x] W fun e W' => e = .returned (.bool (p x)) ∧ W = W') (a : Option Addr) (n c : Nat) (xs : List Int) (w : World) (h : Ints w a n xs) :
    Calls Tryz.prog 99 #[.slice a n c, .func (.func F) #[] #[]] w fun e w' => e = .returned (.int .i64 (idxF p xs)) ∧ w = w' := by
  obtain ⟨hl, hn, hc⟩ := h
  have HL := Lib.hid hl
  have HC := Lib.hid hc
  have HP := Lib.hid hp
  clear hl hc hp
  go_enter Tryz.func99, Tryz.ntmps99
  go_wp2
  go_loop [5, 8] (fun _ i => ∃ (k : Nat), k ≤ n ∧ i = .int .i64 k ∧ Hid (∀ j y, j < k → xs[j]? = some y → p y = false)) (fun _ i => n - (intOf i).toNat)
  case atStart => exact ⟨0, by omega, rfl, fun j y hj => absurd hj (by omega)⟩
  case round =>
    obtain ⟨k, hk, rfl, HR⟩ := hrel
    by_cases hlt : k < n
    · obtain ⟨b, o, rfl, hcell, hw1, hw2⟩ := HC.out k hlt
      have hgk : xs[k]? = some (xs.getD k 0) := by
        have hk' : k < xs.length := by rw [HL.out]; exact hlt
        simp [List.getD_eq_getElem?_getD, hk']
      have HG := Lib.hid hgk
      clear hgk
      generalize xs.getD k 0 = y at *
      by_cases hy : p y = true
      · have HE : Hid (idxF p xs = k) := idxF_found p xs k y HG.out hy HR.out
        go_wp2
        refine (HP.out y w).mono ?_
        rintro e w' ⟨rfl, rfl⟩
        rw [hy]
        go_wp2
        go_ret
        exact ⟨by rw [HE.out]; rfl, rfl⟩
      · have hy' : p y = false := by simpa using hy
        have HE : Hid (∀ j z, j < k + 1 → xs[j]? = some z → p z = false) := fun j z hj hz => by
          by_cases e : j = k
          · subst e
            rw [HG.out] at hz
            injection hz with hz
            subst hz
            exact hy'
          · exact HR.out j z (by omega) hz
        go_wp2
        refine (HP.out y w).mono ?_
        rintro e w' ⟨rfl, rfl⟩
        rw [hy']
        go_wp2
        go_round
        case rel => exact ⟨k + 1, by omega, by go_num, HE⟩
        case measure => simp [intOf]; omega
    · obtain rfl : k = n := by omega
      have HE : Hid (idxF p xs = -1) := idxF_none p xs (fun z hz => by
        obtain ⟨j, hj, e⟩ := List.mem_iff_getElem.1 hz
        exact HR.out j z (by rw [HL.out] at hj; exact hj) (by rw [List.getElem?_eq_getElem hj, e]))
      go_wp2
      go_ret
      exact ⟨by rw [HE.out]; rfl, rfl⟩
theorem containsFunc_any (F : Nat) (eF : ∀ args w, (callFunc F args).run Tryz.prog w = .ok (.enter F args) w) (p : Int → Bool) (hp : ∀ (x : Int) (W : World), Calls Tryz.prog F #[.int .i64 x] W fun e W' => e = .returned (.bool (p x)) ∧ W = W') (a : Option Addr) (n c : Nat) (xs : List Int) (w : World) (h : Ints w a n xs) :
    Calls Tryz.prog 85 #[.slice a n c, .func (.func F) #[] #[]] w fun e w' => e = .returned (.bool (xs.any p)) ∧ w = w' := by
  have HA := Lib.hid (idxF_any p xs)
  have hg := idxF_ge p xs
  have HP := Lib.hid hp
  have H := Lib.hid h
  clear hp h
  go_enter Tryz.func85, Tryz.ntmps85
  go_wp2_with (go_at_call 99; refine (indexFunc_any F eF p HP.out a n c xs w H.out).mono ?_; rintro e w' ⟨rfl, rfl⟩)
  go_ret
  exact ⟨by rw [← HA.out]; rfl, rfl⟩
end
end Go.Proofs.YtfpbfdkjcmlimaaGreat
