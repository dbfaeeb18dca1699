/-
  Flat: slices.IndexFunc, ContainsFunc of ints, whatever the function is that asks and leaves the world alone; ir.none.
-/
import Derived.Test.YtdoahpblphlabaaFE
namespace Go.Proofs.Ytdoahpblphlabaa
set_option linter.unusedSimpArgs false
set_option linter.unusedVariables false
open Go.RowKit

/-- the first place of which something is so; -1: none -/
def idxF {α : Type} (p : α → Bool) : List α → Int
  | [] => -1
  | y :: l => if p y then 0 else if idxF p l < 0 then -1 else idxF p l + 1
theorem idxF_ge {α : Type} (p : α → Bool) (l : List α) : -1 ≤ idxF p l ∧ idxF p l < l.length := by
  induction l with
  | nil => simp [idxF]
  | cons y l ih =>
    simp only [idxF, List.length_cons]
    split
    · omega
    · split <;> omega
theorem idxF_found {α : Type} (p : α → Bool) (l : List α) (k : Nat) (x : α) (hx : l[k]? = some x) (hp : p x = true) (hno : ∀ j y, j < k → l[j]? = some y → p y = false) : idxF p l = k := by
  induction l generalizing k with
  | nil => simp at hx
  | cons y l ih =>
    cases k with
    | zero => simp at hx; subst hx; simp [idxF, hp]
    | succ k =>
      have h0 := hno 0 y (by omega) rfl
      have := ih k (by simpa using hx) (fun j z hj hz => hno (j + 1) z (by omega) (by simpa using hz))
      simp only [idxF, h0, this]
      simp
      omega
theorem idxF_none {α : Type} (p : α → Bool) (l : List α) (hno : ∀ y ∈ l, p y = false) : idxF p l = -1 := by
  induction l with
  | nil => rfl
  | cons y l ih => simp [idxF, hno y (by simp), ih (fun z hz => hno z (by simp [hz]))]
theorem idxF_iff {α : Type} (p : α → Bool) (l : List α) : 0 ≤ idxF p l ↔ l.any p = true := by
  induction l with
  | nil => simp [idxF]
  | cons y l ih =>
    have hg := idxF_ge p l
    have e : idxF p (y :: l) = (if p y then 0 else if idxF p l < 0 then -1 else idxF p l + 1) := rfl
    rw [e, List.any_cons, Bool.or_eq_true, ← ih]
    by_cases hp : p y = true
    · simp [hp]
    · rw [if_neg hp]
      split
      · constructor
        · intro h; omega
        · rintro (h | h)
          · exact absurd h hp
          · omega
      · constructor
        · intro h; exact .inr (by omega)
        · intro h; omega
theorem idxF_any {α : Type} (p : α → Bool) (l : List α) : decide (0 ≤ idxF p l) = l.any p := by
  rw [Bool.eq_iff_iff, decide_eq_true_eq]
  exact idxF_iff p l

set_option maxHeartbeats 400000 in
theorem indexFunc_any (F : Nat) (eF : ∀ args w, (callFunc F args).run Try.prog w = .ok (.enter F args) w) (p : Int → Bool) (hp : ∀ (x : Int) (W : World), Calls Try.prog F #[.int .i64 x] W fun e W' => e = .returned (.bool (p x)) ∧ W = W') (a : Option Addr) (n c : Nat) (xs : List Int) (w : World) (h : Ints w a n xs) :
    Calls Try.prog 96 #[.slice a n c, .func (.func F) #[] #[]] w fun e w' => e = .returned (.int .i64 (idxF p xs)) ∧ w = w' := by
  obtain ⟨hl, hn, hc⟩ := h
  have HL := Lib.hid hl
  have HC := Lib.hid hc
  have HP := Lib.hid hp
  clear hl hc hp
  go_enter Try.func96, Try.ntmps96
  go_wp2
  go_loop [5, 8] (fun _ i => ∃ (k : Nat), k ≤ n ∧ i = .int .i64 k ∧ Hid (∀ j y, j < k → xs[j]? = some y → p y = false)) (fun _ i => n - (intOf i).toNat)
  case atStart => exact ⟨0, by omega, rfl, fun j y hj => absurd hj (by omega)⟩
  case round =>
    obtain ⟨k, hk, rfl, HR⟩ := hrel
    by_cases hlt : k < n
    · obtain ⟨b, o, rfl, hcell, hw1, hw2⟩ := HC.out k hlt
      have hgk : xs[k]? = some (xs.getD k 0) := by
        have hk' : k < xs.length := by rw [HL.out]; exact hlt
        simp [List.getD_eq_getElem?_getD, hk']
      have HG := Lib.hid hgk
      clear hgk
      generalize xs.getD k 0 = y at *
      by_cases hy : p y = true
      · have HE : Hid (idxF p xs = k) := idxF_found p xs k y HG.out hy HR.out
        go_wp2
        refine (HP.out y w).mono ?_
        rintro e w' ⟨rfl, rfl⟩
        rw [hy]
        go_wp2
        go_ret
        exact ⟨by rw [HE.out]; rfl, rfl⟩
      · have hy' : p y = false := by simpa using hy
        have HE : Hid (∀ j z, j < k + 1 → xs[j]? = some z → p z = false) := fun j z hj hz => by
          by_cases e : j = k
          · subst e
            rw [HG.out] at hz
            injection hz with hz
            subst hz
            exact hy'
          · exact HR.out j z (by omega) hz
        go_wp2
        refine (HP.out y w).mono ?_
        rintro e w' ⟨rfl, rfl⟩
        rw [hy']
        go_wp2
        go_round
        case rel => exact ⟨k + 1, by omega, by go_num, HE⟩
        case measure => simp [intOf]; omega
    · obtain rfl : k = n := by omega
      have HE : Hid (idxF p xs = -1) := idxF_none p xs (fun z hz => by
        obtain ⟨j, hj, e⟩ := List.mem_iff_getElem.1 hz
        exact HR.out j z (by rw [HL.out] at hj; exact hj) (by rw [List.getElem?_eq_getElem hj, e]))
      go_wp2
      go_ret
      exact ⟨by rw [HE.out]; rfl, rfl⟩
theorem containsFunc_any (F : Nat) (eF : ∀ args w, (callFunc F args).run Try.prog w = .ok (.enter F args) w) (p : Int → Bool) (hp : ∀ (x : Int) (W : World), Calls Try.prog F #[.int .i64 x] W fun e W' => e = .returned (.bool (p x)) ∧ W = W') (a : Option Addr) (n c : Nat) (xs : List Int) (w : World) (h : Ints w a n xs) :
    Calls Try.prog 94 #[.slice a n c, .func (.func F) #[] #[]] w fun e w' => e = .returned (.bool (xs.any p)) ∧ w = w' := by
  have HA := Lib.hid (idxF_any p xs)
  have hg := idxF_ge p xs
  have HP := Lib.hid hp
  have H := Lib.hid h
  clear hp h
  go_enter Try.func94, Try.ntmps94
  go_wp2_with (go_at_call 96; refine (indexFunc_any F eF p HP.out a n c xs w H.out).mono ?_; rintro e w' ⟨rfl, rfl⟩)
  go_ret
  exact ⟨by rw [← HA.out]; rfl, rfl⟩
end Go.Proofs.Ytdoahpblphlabaa
