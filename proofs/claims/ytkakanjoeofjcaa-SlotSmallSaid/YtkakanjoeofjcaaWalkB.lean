/-
  Walks of the small functions, more: marks, picks, lists that are lent and kept, the reference's rising and paired.
-/
import Derived.Test.YtkakanjoeofjcaaWalkA
namespace Go.Proofs.Ytkakanjoeofjcaa
open Go.RowKit

/-- the mark of a place -/
def markV (k i : Int) : Int := 1000003 * (k + 7) + i
theorem mark_any (k i : Int) (w : World) (hk : 0 ≤ k ∧ k ≤ 1000000000) (hi : 0 ≤ i ∧ i ≤ 100000000000000) :
    Calls Try.prog 20 #[.int .i64 k, .int .i64 i] w fun e w' => e = .returned (.int .i64 (markV k i)) ∧ w = w' := by
  obtain ⟨_, _⟩ := hk
  obtain ⟨_, _⟩ := hi
  go_enter Try.func20, Try.ntmps20
  go_wp2
  go_ret
  exact ⟨rfl, rfl⟩

/-- Pick: a number brought into 0 to n - 1 -/
def pickI (x n : Int) : Int := if n < 1 then 0 else x % n
theorem pick_any (x n : Int) (w : World) (hx : I64 x) (hn : I64 n) :
    Calls Try.prog 19 #[.int .i64 x, .int .i64 n] w fun e w' => e = .returned (.int .i64 (pickI x n)) ∧ w = w' := by
  obtain ⟨_, _⟩ := hx
  obtain ⟨_, _⟩ := hn
  by_cases h1 : n < 1
  · have HE : Hid (pickI x n = 0) := if_pos h1
    go_enter Try.func19, Try.ntmps19
    go_wp2
    go_ret
    exact ⟨by rw [HE.out]; rfl, rfl⟩
  · have h2 : 1 ≤ n := by omega
    have hd := @Int.tmod_eq_emod x n
    have e1 := Int.emod_nonneg x (show n ≠ 0 by omega)
    have e2 := Int.emod_lt_of_pos x (show 0 < n by omega)
    have HE : Hid (pickI x n = x % n) := if_neg h1
    rcases Int.lt_or_le x 0 with hx | hx
    · by_cases hv : n ∣ x
      · rw [if_pos (Or.inr hv)] at hd
        have h3 : 0 ≤ x.tmod n := by omega
        have HD := Lib.hid hd
        clear hd hv h1
        go_enter Try.func19, Try.ntmps19
        go_wp2
        go_ret
        exact ⟨ret_int (by rw [HE.out, HD.out]; omega), rfl⟩
      · have hne : x % n ≠ 0 := fun e => hv (Int.dvd_of_emod_eq_zero e)
        rw [if_neg (by intro h; rcases h with h | h; omega; exact hv h)] at hd
        have h3 : x.tmod n < 0 := by omega
        have h4 : -9223372036854775808 ≤ x.tmod n := by omega
        have HD := Lib.hid hd
        clear hd hv h1 hne
        go_enter Try.func19, Try.ntmps19
        go_wp2
        go_ret
        exact ⟨ret_int (by rw [HE.out]; have := HD.out; omega), rfl⟩
    · clear hd h1
      go_enter Try.func19, Try.ntmps19
      go_wp2
      go_ret
      exact ⟨ret_int (by rw [HE.out]), rfl⟩

/-- are two a pair, either way round? -/
def pairedB (ps : List (Int × Int)) (x y : Int) : Bool := decide ((x, y) ∈ ps ∨ (y, x) ∈ ps)
set_option maxHeartbeats 400000 in
theorem paired_any (a : Option Addr) (n cap : Nat) (ps : List (Int × Int)) (x y : Int) (w : World) (h : Prs w a n ps) :
    Calls Try.prog 27 #[.slice a n cap, .int .i64 x, .int .i64 y] w fun e w' =>
      e = .returned (.bool (pairedB ps x y)) ∧ w = w' := by
  obtain ⟨hl, hn, hc⟩ := h
  have HL := Lib.hid hl
  have HC := Lib.hid hc
  clear hl hc
  go_enter Try.func27, Try.ntmps27
  go_wp2
  go_loop [7] (fun i => ∃ (k : Nat), k ≤ n ∧ i = .int .i64 k ∧ Hid (∀ j, j < k → ps.getD j (0, 0) ≠ (x, y) ∧ ps.getD j (0, 0) ≠ (y, x))) (fun i => n - (intOf i).toNat)
  case atStart => exact ⟨0, by omega, rfl, fun j hj => absurd hj (by omega)⟩
  case round =>
    obtain ⟨k, hk, rfl, HR⟩ := hrel
    by_cases hlt : k < n
    · obtain ⟨b, o, rfl, hcell, hcell', ⟨hw1, hw2⟩, hw3, hw4⟩ := HC.out k hlt
      have hm : ps.getD k (0, 0) ∈ ps := by
        have hk' : k < ps.length := by rw [HL.out]; exact hlt
        simp [List.getD, hk']
      have HM := Lib.hid hm
      clear hm
      have HS : Hid (ps.getD k (0, 0) ≠ (x, y) → ps.getD k (0, 0) ≠ (y, x) → ∀ j, j < k + 1 → ps.getD j (0, 0) ≠ (x, y) ∧ ps.getD j (0, 0) ≠ (y, x)) := fun h1 h2 j hj => by
        by_cases hjk : j = k
        · subst hjk; exact ⟨h1, h2⟩
        · exact HR.out j (by omega)
      generalize hp : ps.getD k (0, 0) = p at *
      obtain ⟨p1, p2⟩ := p
      clear hp
      simp only at hcell hcell' hw1 hw2 hw3 hw4
      by_cases e1 : p1 = x ∧ p2 = y
      · obtain ⟨rfl, rfl⟩ := e1
        have HE : Hid ((p1, p2) ∈ ps ∨ (p2, p1) ∈ ps) := Or.inl HM.out
        go_wp2
        go_ret
        exact ⟨ret_bool (by rw [pairedB, decide_eq_true HE.out]), rfl⟩
      · by_cases e2 : p1 = y ∧ p2 = x
        · obtain ⟨rfl, rfl⟩ := e2
          have HE : Hid ((p2, p1) ∈ ps ∨ (p1, p2) ∈ ps) := Or.inr HM.out
          have hne : (p1 == p2) = false := by simp; exact fun e => e1 ⟨e, e.symm⟩
          have b1 : (p1 == p1) = true := by simp
          have b2 : (p2 == p2) = true := by simp
          go_wp2
          go_ret
          exact ⟨ret_bool (by rw [pairedB, decide_eq_true HE.out]), rfl⟩
        · have HN : Hid (∀ j, j < k + 1 → ps.getD j (0, 0) ≠ (x, y) ∧ ps.getD j (0, 0) ≠ (y, x)) :=
            HS.out (by simpa using e1) (by simpa using e2)
          by_cases c1 : p1 = x
          · have b1 : (p1 == x) = true := by simpa using c1
            have b2 : (p2 == y) = false := by simp; exact fun e => e1 ⟨c1, e⟩
            by_cases c3 : p1 = y
            · have b3 : (p1 == y) = true := by simpa using c3
              have b4 : (p2 == x) = false := by simp; exact fun e => e2 ⟨c3, e⟩
              clear e1 e2 c1 c3
              go_wp2
              go_round
              case rel => exact ⟨k + 1, by omega, by go_num, HN⟩
              case measure => simp [intOf]; omega
            · have b3 : (p1 == y) = false := by simpa using c3
              clear e1 e2 c1 c3
              go_wp2
              go_round
              case rel => exact ⟨k + 1, by omega, by go_num, HN⟩
              case measure => simp [intOf]; omega
          · have b1 : (p1 == x) = false := by simpa using c1
            by_cases c3 : p1 = y
            · have b3 : (p1 == y) = true := by simpa using c3
              have b4 : (p2 == x) = false := by simp; exact fun e => e2 ⟨c3, e⟩
              clear e1 e2 c1 c3
              go_wp2
              go_round
              case rel => exact ⟨k + 1, by omega, by go_num, HN⟩
              case measure => simp [intOf]; omega
            · have b3 : (p1 == y) = false := by simpa using c3
              clear e1 e2 c1 c3
              go_wp2
              go_round
              case rel => exact ⟨k + 1, by omega, by go_num, HN⟩
              case measure => simp [intOf]; omega
    · have HE : Hid (¬ ((x, y) ∈ ps ∨ (y, x) ∈ ps)) := by
        rintro (hm | hm) <;> obtain ⟨j, hj, e⟩ := List.getElem_of_mem hm <;> have := HR.out j (by rw [HL.out] at hj; omega) <;> simp [List.getD, hj, e] at this
      go_wp2
      go_ret
      exact ⟨ret_bool (by rw [pairedB, decide_eq_false HE.out]), rfl⟩

/-- numbers from one to another one, each above the one ahead -/
def risingB : List Int → Int → Int → Bool
  | [], _, _ => true
  | n :: l, lo, hi => if n < lo ∨ n > hi then false else risingB l (n + 1) hi

theorem risingB_step (xs : List Int) (k : Nat) (h : k < xs.length) (lo hi : Int) :
    risingB (xs.drop k) lo hi = if xs.getD k 0 < lo ∨ xs.getD k 0 > hi then false else risingB (xs.drop (k+1)) (xs.getD k 0 + 1) hi := by
  rw [List.drop_eq_getElem_cons h, risingB]
  simp [List.getD, h]

set_option maxHeartbeats 400000 in
theorem rising_any (a : Option Addr) (n cap : Nat) (xs : List Int) (lo hi : Int) (w : World) (h : Ints w a n xs) (hhi : hi ≤ 1000) :
    Calls Try.prog 21 #[.slice a n cap, .int .i64 lo, .int .i64 hi] w fun e w' => e = .returned (.bool (risingB xs lo hi)) ∧ w = w' := by
  obtain ⟨hl, hn, hc⟩ := h
  have HL := Lib.hid hl
  have HC := Lib.hid hc
  clear hl hc
  go_enter Try.func21, Try.ntmps21
  go_wp2
  go_loop [1, 11] (fun l i => ∃ (k : Nat) (lo' : Int), k ≤ n ∧ i = .int .i64 k ∧ l = .int .i64 lo' ∧ Hid (risingB xs lo hi = risingB (xs.drop k) lo' hi)) (fun _ i => n - (intOf i).toNat)
  case atStart => exact ⟨0, lo, by omega, rfl, rfl, by simp [Hid]⟩
  case round =>
    obtain ⟨k, lo', hk, rfl, rfl, HR⟩ := hrel
    by_cases hlt : k < n
    · obtain ⟨b, o, rfl, hcell, hw1, hw2⟩ := HC.out k hlt
      have HS := Lib.hid (risingB_step xs k (by rw [HL.out]; exact hlt) lo' hi)
      generalize xs.getD k 0 = x at *
      by_cases h1 : x < lo' ∨ hi < x
      · have HE : Hid (risingB xs lo hi = false) := by rw [Hid, HR.out, HS.out, if_pos (by omega)]
        rcases Int.lt_or_le x lo' with h2 | h2
        · clear h1
          go_wp2
          go_ret
          exact ⟨by rw [HE.out]; rfl, rfl⟩
        · have h3 : hi < x := by omega
          clear h1
          go_wp2
          go_ret
          exact ⟨by rw [HE.out]; rfl, rfl⟩
      · have h2 : lo' ≤ x := by omega
        have h3 : x ≤ hi := by omega
        clear h1
        go_wp2
        go_round
        case rel => exact ⟨k + 1, x + 1, by omega, by go_num, rfl, by rw [Hid, HR.out, HS.out, if_neg (by omega)]⟩
        case measure => simp [intOf]; omega
    · go_wp2
      go_ret
      have : k = n := by omega
      subst this
      exact ⟨by rw [HR.out, List.drop_of_length_le (by rw [HL.out]; omega)]; rfl, rfl⟩

set_option maxHeartbeats 1000000 in
theorem rising25_any (a : Option Addr) (n cap : Nat) (xs : List Int) (lo hi : Int) (w : World) (h : Ints w a n xs) :
    Calls Try.prog 25 #[.slice a n cap, .int .i64 lo, .int .i64 hi] w fun e w' => e = .returned (.bool (risingB xs lo hi)) ∧ ∃ q, w' = w.drewN q := by
  obtain ⟨hl, hn, hc⟩ := h
  have HL := Lib.hid hl
  have HC := Lib.hid hc
  clear hl hc
  go_enter Try.func25, Try.ntmps25
  go_wp2
  go_loopw [7] (fun i wr => ∃ (k q : Nat) (lo' : Int), k ≤ n ∧ i = .int .i64 k ∧ wr = w.drewN q ∧ lo ≤ lo' ∧ Hid (k = 0 ∧ lo' = lo ∨ 0 < k ∧ lo' = xs.getD (k - 1) 0 + 1) ∧ Hid (risingB xs lo hi = risingB (xs.drop k) lo' hi)) (fun i _ => n - (intOf i).toNat)
  case atStart => exact ⟨0, 0, lo, by omega, rfl, rfl, by omega, Or.inl ⟨rfl, rfl⟩, by simp [Hid]⟩
  case round =>
    obtain ⟨k, q, lo', hk, rfl, rfl, hlo, HP, HR⟩ := hrel
    by_cases hlt : k < n
    · have HS := Lib.hid (risingB_step xs k (by rw [HL.out]; exact hlt) lo' hi)
      have HN : Hid (xs.getD (k + 1 - 1) 0 = xs.getD k 0) := by simp [Hid]
      have HC1 := HC.out k hlt
      rcases HP.out with ⟨h0, hlo'⟩ | ⟨h0, hlo'⟩
      · subst hlo' h0
        obtain ⟨b, o, rfl, hcell, hw1, hw2⟩ := HC1
        simp only [Nat.add_zero] at hcell
        generalize hx : xs.getD 0 0 = x at *
        have HX := Lib.hid hx
        clear hx HP
        have hlt' : (0 : Int) < (n : Int) := by omega
        rcases Int.lt_or_le x lo' with h2 | h2
        · have HE : Hid (risingB xs lo' hi = false) := by rw [Hid, HR.out, HS.out, if_pos (by omega)]
          have d1 : decide (x < lo') = true := by simpa using h2
          go_wp2
          go_quiet (fail)
          go_wp2
          go_ret
          exact ⟨by rw [HE.out]; rfl, _, World.drewN_drewN _ _ _⟩
        · have d1 : decide (x < lo') = false := by simpa using h2
          rcases Int.lt_or_le hi x with h3 | h3
          · have HE : Hid (risingB xs lo' hi = false) := by rw [Hid, HR.out, HS.out, if_pos (by omega)]
            have d2 : decide (hi < x) = true := by simpa using h3
            go_wp2
            go_quiet (fail)
            go_wp2
            go_ret
            exact ⟨by rw [HE.out]; rfl, _, World.drewN_drewN _ _ _⟩
          · have d2 : decide (hi < x) = false := by simpa using h3
            go_wp2
            go_quiet (fail)
            go_wp2
            go_roundw
            case rel => exact ⟨1, _, x + 1, by omega, rfl, rfl, by omega, Or.inr ⟨by omega, by rw [HX.out]⟩, by rw [Hid, HR.out, HS.out, if_neg (by omega)]⟩
            case measure => simp [intOf]; omega
      · obtain ⟨j, rfl⟩ : ∃ j, k = j + 1 := ⟨k - 1, by omega⟩
        obtain ⟨b, o, rfl, hcell, hw1, hw2⟩ := HC1
        obtain ⟨b', o', he, hcell', hw1', hw2'⟩ := HC.out j (by omega)
        simp only [Option.some.injEq, Addr.mk.injEq, and_true] at he
        obtain ⟨rfl, rfl⟩ := he
        simp only [Nat.add_sub_cancel] at hlo'
        generalize hx : xs.getD (j + 1) 0 = x at *
        have HX := Lib.hid hx
        generalize hy : xs.getD j 0 = y at *
        clear hx HP hy
        have HLO := Lib.hid hlo'
        clear hlo'
        have d0 : decide ((0 : Int) < (j : Int) + 1) = true := by simp
        rcases Int.lt_or_le x lo with h2 | h2
        · have HE : Hid (risingB xs lo hi = false) := by rw [Hid, HR.out, HS.out, if_pos (by omega)]
          have d1 : decide (x < lo) = true := by simpa using h2
          go_wp2
          go_quiet (fail)
          go_wp2
          go_ret
          exact ⟨by rw [HE.out]; rfl, _, World.drewN_drewN _ _ _⟩
        · have d1 : decide (x < lo) = false := by simpa using h2
          rcases Int.lt_or_le hi x with h3 | h3
          · have HE : Hid (risingB xs lo hi = false) := by rw [Hid, HR.out, HS.out, if_pos (by omega)]
            have d2 : decide (hi < x) = true := by simpa using h3
            go_wp2
            go_quiet (fail)
            go_wp2
            go_ret
            exact ⟨by rw [HE.out]; rfl, _, World.drewN_drewN _ _ _⟩
          · have d2 : decide (hi < x) = false := by simpa using h3
            rcases Int.lt_or_le y x with h4 | h4
            · have d3 : decide (x ≤ y) = false := by simpa using h4
              go_wp2
              go_quiet (fail)
              go_wp2
              go_roundw
              case rel => exact ⟨j + 1 + 1, _, x + 1, by omega, by go_num, rfl, by omega, Or.inr ⟨by omega, by rw [← HX.out]; rfl⟩, by rw [Hid, HR.out, HS.out, if_neg (by have := HLO.out; omega)]⟩
              case measure => simp [intOf]; omega
            · have HE : Hid (risingB xs lo hi = false) := by rw [Hid, HR.out, HS.out, if_pos (by have := HLO.out; omega)]
              have d3 : decide (x ≤ y) = true := by simpa using h4
              go_wp2
              go_quiet (fail)
              go_wp2
              go_ret
              exact ⟨by rw [HE.out]; rfl, _, World.drewN_drewN _ _ _⟩
    · go_wp2
      go_ret
      have : k = n := by omega
      subst this
      exact ⟨by rw [HR.out, List.drop_of_length_le (by rw [HL.out]; omega)]; rfl, _, rfl⟩
end Go.Proofs.Ytkakanjoeofjcaa
