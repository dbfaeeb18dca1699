/-
  slices.IndexFunc, ContainsFunc of ints, whatever the function is that asks (it may make memory).
-/
import Derived.Test.YtblhmdhfhaencaaRows
import Derived.Test.YtblhmdhfhaencaaEP
namespace Go.Proofs.Ytblhmdhfhaencaa
set_option linter.unusedSimpArgs false
set_option linter.unusedVariables false
set_option linter.unusedSectionVars false
section
open Go.RowKit

/-- the first place of which something is so; -1: none -/
def idxF {α : Type} (p : α → Bool) : List α → Int
  | [] => -1
  | y :: l => if p y then 0 else if idxF p l < 0 then -1 else idxF p l + 1
theorem idxF_ge {α : Type} (p : α → Bool) (l : List α) : -1 ≤ idxF p l ∧ idxF p l < l.length := by
  induction l with
  | nil => simp [idxF]
  | cons y l ih =>
    simp only [idxF, List.length_cons]
    split
    · omega
    · split <;> omega
theorem idxF_found {α : Type} (p : α → Bool) (l : List α) (k : Nat) (x : α) (hx : l[k]? = some x) (hp : p x = true) (hno : ∀ j y, j < k → l[j]? = some y → p y = false) : idxF p l = k := by
  induction l generalizing k with
  | nil => simp at hx
  | cons y l ih =>
    cases k with
    | zero => simp at hx; subst hx; simp [idxF, hp]
    | succ k =>
      have h0 := hno 0 y (by omega) rfl
      have := ih k (by simpa using hx) (fun j z hj hz => hno (j + 1) z (by omega) (by simpa using hz))
      simp only [idxF, h0, this]
      simp
      omega
theorem idxF_none {α : Type} (p : α → Bool) (l : List α) (hno : ∀ y ∈ l, p y = false) : idxF p l = -1 := by
  induction l with
  | nil => rfl
  | cons y l ih => simp [idxF, hno y (by simp), ih (fun z hz => hno z (by simp [hz]))]
theorem idxF_iff {α : Type} (p : α → Bool) (l : List α) : 0 ≤ idxF p l ↔ l.any p = true := by
  induction l with
  | nil => simp [idxF]
  | cons y l ih =>
    have hg := idxF_ge p l
    have e : idxF p (y :: l) = (if p y then 0 else if idxF p l < 0 then -1 else idxF p l + 1) := rfl
    rw [e, List.any_cons, Bool.or_eq_true, ← ih]
    by_cases hp : p y = true
    · simp [hp]
    · rw [if_neg hp]
      split
      · constructor
        · intro h; omega
        · rintro (h | h)
          · exact absurd h hp
          · omega
      · constructor
        · intro h; exact .inr (by omega)
        · intro h; omega
theorem idxF_any {α : Type} (p : α → Bool) (l : List α) : decide (0 ≤ idxF p l) = l.any p := by
  rw [Bool.eq_iff_iff, decide_eq_true_eq]
  exact idxF_iff p l

theorem ext_alloc (w : World) (o : Obj) : Below w.heap.size w (w.alloc o) := (Below.refl _ w).alloc (Nat.le_refl _) o
set_option maxHeartbeats 1000000 in
theorem indexFunc_any (F : Nat) (caps : Array Value) (eF : ∀ args w, (callFunc F args).run Try.prog w = .ok (.enter F args) w) (p : Int → Bool) (a : Option Addr) (n c : Nat) (xs : List Int) (w : World)
    (hp : ∀ (x : Int) (W : World), x ∈ xs → Below w.heap.size w W → Calls Try.prog F (#[.int .i64 x] ++ caps) W fun e W' => e = .returned (.bool (p x)) ∧ Below W.heap.size W W') (h : Ints w a n xs) :
    Calls Try.prog 113 #[.slice a n c, .func (.func F) #[] caps] w fun e w' => e = .returned (.int .i64 (idxF p xs)) ∧ Below w.heap.size w w' := by
  have HL := Lib.hid h.1
  have hn := h.2.1
  have H := Lib.hid h
  have HP := Lib.hid hp
  clear h hp
  go_enter Try.func113, Try.ntmps113
  go_wp2
  go_loopw [5, 8] (fun _ i wr => ∃ (k : Nat), k ≤ n ∧ i = .int .i64 k ∧ Hid (∀ j y, j < k → xs[j]? = some y → p y = false) ∧ Hid (Below w.heap.size w wr)) (fun _ i _ => n - (intOf i).toNat)
  case atStart => exact ⟨0, by omega, rfl, fun j y hj => absurd hj (by omega), Below.refl _ _⟩
  case round =>
    obtain ⟨k, hk, rfl, HR, HB⟩ := hrel
    by_cases hlt : k < n
    · obtain ⟨b, o, rfl, hcell, hw1, hw2⟩ := (H.out.ext HB.out).2.2 k hlt
      have hgk : xs[k]? = some (xs.getD k 0) := by
        have hk' : k < xs.length := by rw [HL.out]; exact hlt
        simp [List.getD_eq_getElem?_getD, hk']
      have HG := Lib.hid hgk
      have HM := Lib.hid (List.mem_of_getElem? hgk)
      clear hgk
      generalize xs.getD k 0 = r at *
      by_cases hy : p r = true
      · have HE : Hid (idxF p xs = k) := idxF_found p xs k r HG.out hy HR.out
        go_wp2
        refine (HP.out r wr HM.out HB.out).mono ?_
        rintro e w' ⟨rfl, hb'⟩
        have HB' := Lib.hid (ext_trans HB.out hb')
        clear hb'
        rw [hy]
        go_wp2
        go_ret
        exact ⟨by rw [HE.out]; rfl, HB'.out⟩
      · have hy' : p r = false := by simpa using hy
        have HE : Hid (∀ j z, j < k + 1 → xs[j]? = some z → p z = false) := fun j z hj hz => by
          by_cases e : j = k
          · subst e
            rw [HG.out] at hz
            injection hz with hz
            subst hz
            exact hy'
          · exact HR.out j z (by omega) hz
        go_wp2
        refine (HP.out r wr HM.out HB.out).mono ?_
        rintro e w' ⟨rfl, hb'⟩
        have HB' := Lib.hid (ext_trans HB.out hb')
        clear hb'
        rw [hy']
        go_wp2
        go_roundw
        case rel => exact ⟨k + 1, by omega, by go_num, HE, HB'⟩
        case measure => simp [intOf]; omega
    · obtain rfl : k = n := by omega
      have HE : Hid (idxF p xs = -1) := idxF_none p xs (fun z hz => by
        obtain ⟨j, hj, e⟩ := List.mem_iff_getElem.1 hz
        exact HR.out j z (by rw [HL.out] at hj; exact hj) (by rw [List.getElem?_eq_getElem hj, e]))
      go_wp2
      go_ret
      exact ⟨by rw [HE.out]; rfl, HB.out⟩
theorem containsFunc_any (F : Nat) (caps : Array Value) (eF : ∀ args w, (callFunc F args).run Try.prog w = .ok (.enter F args) w) (p : Int → Bool) (a : Option Addr) (n c : Nat) (xs : List Int) (w : World)
    (hp : ∀ (x : Int) (W : World), x ∈ xs → Below w.heap.size w W → Calls Try.prog F (#[.int .i64 x] ++ caps) W fun e W' => e = .returned (.bool (p x)) ∧ Below W.heap.size W W') (h : Ints w a n xs) :
    Calls Try.prog 90 #[.slice a n c, .func (.func F) #[] caps] w fun e w' => e = .returned (.bool (xs.any p)) ∧ Below w.heap.size w w' := by
  have HA := Lib.hid (idxF_any p xs)
  have hg := idxF_ge p xs
  have HP := Lib.hid hp
  have H := Lib.hid h
  clear hp h
  go_enter Try.func90, Try.ntmps90
  go_wp2_with (go_at_call 113; refine (indexFunc_any F caps eF p a n c xs w HP.out H.out).mono ?_; rintro e w' ⟨rfl, hb'⟩; have HB' := Lib.hid hb'; clear hb')
  go_ret
  exact ⟨by rw [← HA.out]; rfl, HB'.out⟩
end

section
open Go.RowKit

/-- Pick: a number brought into 0 to n - 1 -/
def pickI (x n : Int) : Int := if n < 1 then 0 else x % n
theorem pick_any (x n : Int) (w : World) (hx : I64 x) (hn : I64 n) :
    Calls Try.prog 24 #[.int .i64 x, .int .i64 n] w fun e w' => e = .returned (.int .i64 (pickI x n)) ∧ w = w' := by
  obtain ⟨_, _⟩ := hx
  obtain ⟨_, _⟩ := hn
  by_cases h1 : n < 1
  · have HE : Hid (pickI x n = 0) := if_pos h1
    go_enter Try.func24, Try.ntmps24
    go_wp2
    go_ret
    exact ⟨by rw [HE.out]; rfl, rfl⟩
  · have h2 : 1 ≤ n := by omega
    have hd := @Int.tmod_eq_emod x n
    have e1 := Int.emod_nonneg x (show n ≠ 0 by omega)
    have e2 := Int.emod_lt_of_pos x (show 0 < n by omega)
    have HE : Hid (pickI x n = x % n) := if_neg h1
    rcases Int.lt_or_le x 0 with hx | hx
    · by_cases hv : n ∣ x
      · rw [if_pos (Or.inr hv)] at hd
        have h3 : 0 ≤ x.tmod n := by omega
        have HD := Lib.hid hd
        clear hd hv h1
        go_enter Try.func24, Try.ntmps24
        go_wp2
        go_ret
        exact ⟨ret_int (by rw [HE.out, HD.out]; omega), rfl⟩
      · have hne : x % n ≠ 0 := fun e => hv (Int.dvd_of_emod_eq_zero e)
        rw [if_neg (by intro h; rcases h with h | h; omega; exact hv h)] at hd
        have h3 : x.tmod n < 0 := by omega
        have h4 : -9223372036854775808 ≤ x.tmod n := by omega
        have HD := Lib.hid hd
        clear hd hv h1 hne
        go_enter Try.func24, Try.ntmps24
        go_wp2
        go_ret
        exact ⟨ret_int (by rw [HE.out]; have := HD.out; omega), rfl⟩
    · clear hd h1
      go_enter Try.func24, Try.ntmps24
      go_wp2
      go_ret
      exact ⟨ret_int (by rw [HE.out]), rfl⟩
end
end Go.Proofs.Ytblhmdhfhaencaa
