/-
  slices.IndexFunc, ContainsFunc of ints, whatever the function is that asks (it may make memory).
-/
import Derived.Test.YtblhmdhfhaencaaGreatRows
import Derived.Test.YtblhmdhfhaencaaGreatBase
namespace Go.Proofs.YtblhmdhfhaencaaGreat
set_option linter.unusedSimpArgs false
set_option linter.unusedVariables false
open Go.RowKit

/-- the first place of which something is so; -1: none -/
def idxF {α : Type} (p : α → Bool) : List α → Int
  | [] => -1
  | y :: l => if p y then 0 else if idxF p l < 0 then -1 else idxF p l + 1
theorem idxF_ge {α : Type} (p : α → Bool) (l : List α) : -1 ≤ idxF p l ∧ idxF p l < l.length := by
  induction l with
  | nil => simp [idxF]
  | cons y l ih =>
    simp only [idxF, List.length_cons]
    split
    · omega
    · split <;> omega
theorem idxF_found {α : Type} (p : α → Bool) (l : List α) (k : Nat) (x : α) (hx : l[k]? = some x) (hp : p x = true) (hno : ∀ j y, j < k → l[j]? = some y → p y = false) : idxF p l = k := by
  induction l generalizing k with
  | nil => simp at hx
  | cons y l ih =>
    cases k with
    | zero => simp at hx; subst hx; simp [idxF, hp]
    | succ k =>
      have h0 := hno 0 y (by omega) rfl
      have := ih k (by simpa using hx) (fun j z hj hz => hno (j + 1) z (by omega) (by simpa using hz))
      simp only [idxF, h0, this]
      simp
      omega
theorem idxF_none {α : Type} (p : α → Bool) (l : List α) (hno : ∀ y ∈ l, p y = false) : idxF p l = -1 := by
  induction l with
  | nil => rfl
  | cons y l ih => simp [idxF, hno y (by simp), ih (fun z hz => hno z (by simp [hz]))]
theorem idxF_iff {α : Type} (p : α → Bool) (l : List α) : 0 ≤ idxF p l ↔ l.any p = true := by
  induction l with
  | nil => simp [idxF]
  | cons y l ih =>
    have hg := idxF_ge p l
    have e : idxF p (y :: l) = (if p y then 0 else if idxF p l < 0 then -1 else idxF p l + 1) := rfl
    rw [e, List.any_cons, Bool.or_eq_true, ← ih]
    by_cases hp : p y = true
    · simp [hp]
    · rw [if_neg hp]
      split
      · constructor
        · intro h; omega
        · rintro (h | h)
          · exact absurd h hp
          · omega
      · constructor
        · intro h; exact .inr (by omega)
        · intro h; omega
theorem idxF_any {α : Type} (p : α → Bool) (l : List α) : decide (0 ≤ idxF p l) = l.any p := by
  rw [Bool.eq_iff_iff, decide_eq_true_eq]
  exact idxF_iff p l

theorem ext_alloc (w : World) (o : Obj) : Below w.heap.size w (w.alloc o) := (Below.refl _ w).alloc (Nat.le_refl _) o
set_option maxHeartbeats 1000000 in
theorem indexFunc_any (F : Nat) (caps : Array Value) (eF : ∀ args w, (callFunc F args).run Tryz.prog w = .ok (.enter F args) w) (p : Int → Bool) (a : Option Addr) (n c : Nat) (xs : List Int) (w : World)
    (hp : ∀ (x : Int) (W : World), x ∈ xs → Below w.heap.size w W → Calls Tryz.prog F (#[.int .i64 x] ++ caps) W fun e W' => e = .returned (.bool (p x)) ∧ Below W.heap.size W W') (h : Ints w a n xs) :
    Calls Tryz.prog 208 #[.slice a n c, .func (.func F) #[] caps] w fun e w' => e = .returned (.int .i64 (idxF p xs)) ∧ Below w.heap.size w w' := by
  have HL := Lib.hid h.1
  have hn := h.2.1
  have H := Lib.hid h
  have HP := Lib.hid hp
  clear h hp
  go_enter Tryz.func208, Tryz.ntmps208
  go_wp2
  go_loopw [5, 8] (fun _ i wr => ∃ (k : Nat), k ≤ n ∧ i = .int .i64 k ∧ Hid (∀ j y, j < k → xs[j]? = some y → p y = false) ∧ Hid (Below w.heap.size w wr)) (fun _ i _ => n - (intOf i).toNat)
  case atStart => exact ⟨0, by omega, rfl, fun j y hj => absurd hj (by omega), Below.refl _ _⟩
  case round =>
    obtain ⟨k, hk, rfl, HR, HB⟩ := hrel
    by_cases hlt : k < n
    · obtain ⟨b, o, rfl, hcell, hw1, hw2⟩ := (H.out.ext HB.out).2.2 k hlt
      have hgk : xs[k]? = some (xs.getD k 0) := by
        have hk' : k < xs.length := by rw [HL.out]; exact hlt
        simp [List.getD_eq_getElem?_getD, hk']
      have HG := Lib.hid hgk
      have HM := Lib.hid (List.mem_of_getElem? hgk)
      clear hgk
      generalize xs.getD k 0 = r at *
      by_cases hy : p r = true
      · have HE : Hid (idxF p xs = k) := idxF_found p xs k r HG.out hy HR.out
        go_wp2
        refine (HP.out r wr HM.out HB.out).mono ?_
        rintro e w' ⟨rfl, hb'⟩
        have HB' := Lib.hid (ext_trans HB.out hb')
        clear hb'
        rw [hy]
        go_wp2
        go_ret
        exact ⟨by rw [HE.out]; rfl, HB'.out⟩
      · have hy' : p r = false := by simpa using hy
        have HE : Hid (∀ j z, j < k + 1 → xs[j]? = some z → p z = false) := fun j z hj hz => by
          by_cases e : j = k
          · subst e
            rw [HG.out] at hz
            injection hz with hz
            subst hz
            exact hy'
          · exact HR.out j z (by omega) hz
        go_wp2
        refine (HP.out r wr HM.out HB.out).mono ?_
        rintro e w' ⟨rfl, hb'⟩
        have HB' := Lib.hid (ext_trans HB.out hb')
        clear hb'
        rw [hy']
        go_wp2
        go_roundw
        case rel => exact ⟨k + 1, by omega, by go_num, HE, HB'⟩
        case measure => simp [intOf]; omega
    · obtain rfl : k = n := by omega
      have HE : Hid (idxF p xs = -1) := idxF_none p xs (fun z hz => by
        obtain ⟨j, hj, e⟩ := List.mem_iff_getElem.1 hz
        exact HR.out j z (by rw [HL.out] at hj; exact hj) (by rw [List.getElem?_eq_getElem hj, e]))
      go_wp2
      go_ret
      exact ⟨by rw [HE.out]; rfl, HB.out⟩
theorem containsFunc_any (F : Nat) (caps : Array Value) (eF : ∀ args w, (callFunc F args).run Tryz.prog w = .ok (.enter F args) w) (p : Int → Bool) (a : Option Addr) (n c : Nat) (xs : List Int) (w : World)
    (hp : ∀ (x : Int) (W : World), x ∈ xs → Below w.heap.size w W → Calls Tryz.prog F (#[.int .i64 x] ++ caps) W fun e W' => e = .returned (.bool (p x)) ∧ Below W.heap.size W W') (h : Ints w a n xs) :
    Calls Tryz.prog 168 #[.slice a n c, .func (.func F) #[] caps] w fun e w' => e = .returned (.bool (xs.any p)) ∧ Below w.heap.size w w' := by
  have HA := Lib.hid (idxF_any p xs)
  have hg := idxF_ge p xs
  have HP := Lib.hid hp
  have H := Lib.hid h
  clear hp h
  go_enter Tryz.func168, Tryz.ntmps168
  go_wp2_with (go_at_call 208; refine (indexFunc_any F caps eF p a n c xs w HP.out H.out).mono ?_; rintro e w' ⟨rfl, hb'⟩; have HB' := Lib.hid hb'; clear hb')
  go_ret
  exact ⟨by rw [← HA.out]; rfl, HB'.out⟩

open Go.RowKit

set_option maxHeartbeats 400000 in
theorem sindex_any (a : Option Addr) (n cap : Nat) (xs : List Int) (x : Int) (w : World) (h : Ints w a n xs) :
    Calls Tryz.prog 195 #[.slice a n cap, .int .i64 x] w fun e w' => e = .returned (.int .i64 (idx xs x)) ∧ w = w' := by
  obtain ⟨hl, hn, hc⟩ := h
  have HL := Lib.hid hl
  have HC := Lib.hid hc
  clear hl hc
  go_enter Tryz.func195, Tryz.ntmps195
  go_wp2
  go_loop [5, 8] (fun _ i => ∃ (k : Nat), k ≤ n ∧ i = .int .i64 k ∧ Hid (∀ j, j < k → xs.getD j 0 ≠ x)) (fun _ i => n - (intOf i).toNat)
  case atStart => exact ⟨0, by omega, rfl, fun j hj => absurd hj (by omega)⟩
  case round =>
    obtain ⟨k, hk, rfl, HR⟩ := hrel
    by_cases hlt : k < n
    · obtain ⟨b, o, rfl, hcell, hw1, hw2⟩ := HC.out k hlt
      by_cases he : x = xs.getD k 0
      · have HE : Hid (idx xs x = k) := idx_found xs x k (by rw [HL.out]; exact hlt) he.symm HR.out
        have hb : (x == xs.getD k 0) = true := by simpa using he
        generalize xs.getD k 0 = y at *
        clear he
        go_wp2
        go_ret
        exact ⟨by rw [HE.out]; rfl, rfl⟩
      · have HE : Hid (∀ j, j < k + 1 → xs.getD j 0 ≠ x) := fun j hj => by
          by_cases hjk : j = k
          · subst hjk; exact fun e => he e.symm
          · exact HR.out j (by omega)
        have hb : (x == xs.getD k 0) = false := by simpa using he
        generalize xs.getD k 0 = y at *
        clear he
        go_wp2
        go_round
        case rel => exact ⟨k + 1, by omega, by go_num, HE⟩
        case measure => simp [intOf]; omega
    · go_wp2
      go_ret
      have : k = n := by omega
      subst this
      exact ⟨by rw [idx_none xs x (by rw [HL.out]; exact HR.out)]; rfl, rfl⟩

theorem scontains_any (a : Option Addr) (n cap : Nat) (xs : List Int) (x : Int) (w : World) (h : Ints w a n xs) :
    Calls Tryz.prog 159 #[.slice a n cap, .int .i64 x] w fun e w' => e = .returned (.bool (decide (0 ≤ idx xs x))) ∧ w = w' := by
  have hi := idx_ge xs x
  have H := Lib.hid h
  clear h
  go_enter Tryz.func159, Tryz.ntmps159
  go_wp2_with (go_at_call 195; refine (sindex_any a n cap xs x w H.out).mono ?_; rintro e w' ⟨rfl, rfl⟩)
  go_ret
  exact ⟨rfl, rfl⟩


open Go.RowKit

set_option maxHeartbeats 400000 in
theorem sameInts_any (a b : Option Addr) (n m c d : Nat) (xs ys : List Int) (w : World) (h : Ints w a n xs) (h' : Ints w b m ys) :
    Calls Tryz.prog 44 #[.slice a n c, .slice b m d] w fun e w' => e = .returned (.bool (decide (xs = ys))) ∧ ∃ q, w' = w.drewN q := by
  obtain ⟨hl, hn, hc⟩ := h
  obtain ⟨hl', hn', hc'⟩ := h'
  by_cases hnm : n = m
  · subst hnm
    have HL := Lib.hid hl
    have HC := Lib.hid hc
    have HL' := Lib.hid hl'
    have HC' := Lib.hid hc'
    clear hl hc hl' hc'
    have hne : ((n : Int) != (n : Int)) = false := by simp
    go_enter Tryz.func44, Tryz.ntmps44
    go_wp2
    go_loopw [5] (fun i wr => ∃ (k q : Nat), k ≤ n ∧ i = .int .i64 k ∧ wr = w.drewN q ∧ Hid (∀ j, j < k → xs.getD j 0 = ys.getD j 0)) (fun i _ => n - (intOf i).toNat)
    case atStart => exact ⟨0, 0, by omega, rfl, rfl, fun j hj => absurd hj (by omega)⟩
    case round =>
      obtain ⟨k, q, hk, rfl, rfl, HR⟩ := hrel
      by_cases hlt : k < n
      · obtain ⟨b1, o1, rfl, hcell1, hw1, hw2⟩ := HC.out k hlt
        obtain ⟨b2, o2, rfl, hcell2, hw3, hw4⟩ := HC'.out k hlt
        by_cases he : xs.getD k 0 = ys.getD k 0
        · have HE : Hid (∀ j, j < k + 1 → xs.getD j 0 = ys.getD j 0) := fun j hj => by
            by_cases hjk : j = k
            · subst hjk; exact he
            · exact HR.out j (by omega)
          rw [← he] at hcell2
          generalize xs.getD k 0 = y at *
          clear he
          go_wp2
          go_quiet (fail)
          go_wp2
          go_roundw
          case rel => exact ⟨k + 1, _, by omega, by go_num, rfl, HE⟩
          case measure => simp [intOf]; omega
        · have HE : Hid (xs ≠ ys) := fun e => he (by rw [e])
          have hb : (xs.getD k 0 != ys.getD k 0) = true := by simpa using he
          generalize xs.getD k 0 = y at *
          generalize ys.getD k 0 = z at *
          clear he
          go_wp2
          go_quiet (fail)
          go_wp2
          go_ret
          exact ⟨ret_bool (by rw [decide_eq_false HE.out]), _, World.drewN_drewN _ _ _⟩
      · have HE : Hid (xs = ys) := List.ext_getElem (by rw [HL.out, HL'.out]) (fun j h1 h2 => by
          have := HR.out j (by rw [HL.out] at h1; omega)
          simpa [List.getD, h1, h2] using this)
        go_wp2
        go_ret
        exact ⟨ret_bool (by rw [decide_eq_true HE.out]), _, rfl⟩
  · have HE : Hid (xs ≠ ys) := fun e => hnm (by rw [← hl, ← hl', e])
    have hne : ((n : Int) != (m : Int)) = true := by simp; omega
    clear hc hc' hl hl' hnm
    go_enter Tryz.func44, Tryz.ntmps44
    go_wp2
    go_ret
    exact ⟨ret_bool (by rw [decide_eq_false HE.out]), 0, rfl⟩
end Go.Proofs.YtblhmdhfhaencaaGreat
