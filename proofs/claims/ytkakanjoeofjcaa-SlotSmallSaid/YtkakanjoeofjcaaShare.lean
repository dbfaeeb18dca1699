/-
  Walks of both Share functions.
-/
import Derived.Test.YtkakanjoeofjcaaOfB
namespace Go.Proofs.Ytkakanjoeofjcaa
open Go.RowKit

def shareB (fv xs : List Int) (x y : Int) : Bool := decide (fv.length = xs.length ∧ x ≠ y ∧ 0 ≤ idx xs x ∧ 0 ≤ idx xs y ∧ fv.getD (idx xs x).toNat 0 = fv.getD (idx xs y).toNat 0)

set_option maxHeartbeats 1000000 in
theorem share_any (a1 a2 a : Option Addr) (n1 c1 n2 c2 n c : Nat) (fv xs : List Int) (tm sz x y : Int) (w : World) (h1 : Ints w a1 n1 fv) (h : Ints w a n xs) :
    Calls Try.prog 15 #[.agg #[.slice a1 n1 c1, .slice a2 n2 c2, .int .i64 tm, .int .i64 sz], .slice a n c, .int .i64 x, .int .i64 y] w fun e w' =>
      e = .returned (.bool (shareB fv xs x y)) ∧ Below w.heap.size w w' := by
  have hl1 := h1.1
  have hl := h.1
  have hn := h.2.1
  have hn1 := h1.2.1
  have H1 := Lib.hid h1
  have H := Lib.hid h
  clear h1 h
  have i1 := idx_ge xs x
  have i2 := idx_ge xs y
  by_cases e1 : n1 = n
  · by_cases e2 : x = y
    · have HE : Hid (shareB fv xs x y = false) := by simp [Hid, shareB, e2]
      have b1 : ((n1 : Int) != (n : Int)) = false := by simp [e1]
      have b2 : (x == y) = true := by simpa using e2
      rw [hl] at i1 i2
      clear e1 e2 hl1 hl
      go_enter Try.func15, Try.ntmps15
      go_wp2_with (go_at_call 28; refine (sindex_any a n c xs _ _ (by exact H.out.ext (ext_alloc _ _))).mono ?_; rintro e w' ⟨rfl, rfl⟩)
      go_ret
      exact ⟨by rw [HE.out]; rfl, ext_alloc _ _⟩
    · by_cases e3 : 0 ≤ idx xs x ∧ 0 ≤ idx xs y
      · obtain ⟨e3, e4⟩ := e3
        have b1 : ((n1 : Int) != (n : Int)) = false := by simp [e1]
        have b2 : (x == y) = false := by simpa using e2
        rw [hl] at i1 i2
        obtain ⟨b, o, rfl, hcx, _⟩ := H1.out.2.2 (idx xs x).toNat (by omega)
        obtain ⟨b', o', he, hcy, _⟩ := H1.out.2.2 (idx xs y).toNat (by omega)
        simp only [Option.some.injEq, Addr.mk.injEq, and_true] at he
        obtain ⟨rfl, rfl⟩ := he
        have hb : b < w.heap.size := World.block_lt_of_cell? w _ hcx
        have HE : Hid (shareB fv xs x y = decide (fv.getD (idx xs x).toNat 0 = fv.getD (idx xs y).toNat 0)) := by
          simp [Hid, shareB, e2, e3, e4, hl, hl1, e1]
        generalize fv.getD (idx xs x).toNat 0 = p at *
        generalize fv.getD (idx xs y).toNat 0 = q at *
        obtain ⟨jx, hx⟩ := Int.eq_ofNat_of_zero_le e3
        obtain ⟨jy, hy⟩ := Int.eq_ofNat_of_zero_le e4
        rw [hx] at hcx i1
        rw [hy] at hcy i2
        have HX := Lib.hid hx
        have HY := Lib.hid hy
        simp only [Int.toNat_natCast] at hcx hcy
        have jx1 : jx < n1 := by omega
        have jy1 : jy < n1 := by omega
        clear hx hy e1 e2 e3 e4 hl hl1 i1 i2
        rcases Nat.lt_or_ge jy jx with hj | hj
        all_goals
          go_enter Try.func15, Try.ntmps15
          go_wp2_with (go_at_call 28; refine (sindex_any a n c xs _ _ (by exact H.out.ext (ext_alloc _ _))).mono ?_; rintro e w' ⟨rfl, rfl⟩; first | rw [HX.out] | rw [HY.out])
          go_quiet (fail)
          go_wp2
          go_ret
          exact ⟨ret_bool (by rw [HE.out, Bool.eq_iff_iff]; simp), ext_drewN (ext_alloc _ _) _⟩
      · have HE : Hid (shareB fv xs x y = false) := by
          simp only [Hid, shareB, decide_eq_false_iff_not]
          rintro ⟨_, _, h3, h4, _⟩
          exact e3 ⟨h3, h4⟩
        have b1 : ((n1 : Int) != (n : Int)) = false := by simp [e1]
        have b2 : (x == y) = false := by simpa using e2
        have e4 : idx xs x < 0 ∨ idx xs y < 0 := by omega
        rw [hl] at i1 i2
        clear e1 e2 e3 hl hl1
        rcases Int.lt_or_le (idx xs y) (idx xs x) with hj | hj
        all_goals
          have e5 : idx xs x < 0 ∨ 0 ≤ idx xs x := by omega
          have e6 : idx xs y < 0 ∨ 0 ≤ idx xs y := by omega
          go_enter Try.func15, Try.ntmps15
          go_wp2_with (go_at_call 28; refine (sindex_any a n c xs _ _ (by exact H.out.ext (ext_alloc _ _))).mono ?_; rintro e w' ⟨rfl, rfl⟩)
          go_ret
          exact ⟨by rw [HE.out]; rfl, ext_alloc _ _⟩
  · have HE : Hid (shareB fv xs x y = false) := by
      simp only [Hid, shareB, decide_eq_false_iff_not]
      rintro ⟨h3, _⟩
      omega
    have b1 : ((n1 : Int) != (n : Int)) = true := by simp; omega
    rw [hl] at i1 i2
    clear e1 hl1 hl
    go_enter Try.func15, Try.ntmps15
    go_wp2_with (go_at_call 28; refine (sindex_any a n c xs _ _ (by exact H.out.ext (ext_alloc _ _))).mono ?_; rintro e w' ⟨rfl, rfl⟩)
    go_ret
    exact ⟨by rw [HE.out]; rfl, ext_alloc _ _⟩

set_option maxHeartbeats 1000000 in
theorem share25_any (a1 a2 a : Option Addr) (n1 c1 n2 c2 n c : Nat) (fv xs : List Int) (tm sz x y : Int) (w : World) (h1 : Ints w a1 n1 fv) (h : Ints w a n xs) :
    Calls Try.prog 16 #[.agg #[.slice a1 n1 c1, .slice a2 n2 c2, .int .i64 tm, .int .i64 sz], .slice a n c, .int .i64 x, .int .i64 y] w fun e w' =>
      e = .returned (.bool (shareB fv xs x y)) ∧ Below w.heap.size w w' := by
  have hl1 := h1.1
  have hl := h.1
  have hn := h.2.1
  have hn1 := h1.2.1
  have H1 := Lib.hid h1
  have H := Lib.hid h
  clear h1 h
  have i1 := idx_ge xs x
  have i2 := idx_ge xs y
  by_cases e1 : n1 = n
  · have b1 : ((n1 : Int) == (n : Int)) = true := by simp [e1]
    by_cases e2 : x = y
    · have HE : Hid (shareB fv xs x y = false) := by simp [Hid, shareB, e2]
      have b2 : (x != y) = false := by simp [e2]
      rw [hl] at i1 i2
      clear e1 e2 hl1 hl
      go_enter Try.func16, Try.ntmps16
      go_wp2_with (go_at_call 26; refine (at25_any a n c xs _ _ (by exact H.out.ext (ext_alloc _ _))).mono ?_; rintro e w' ⟨rfl, rfl⟩)
      go_quiet (fail)
      go_wp2
      go_ret
      exact ⟨by rw [HE.out]; rfl, ext_drewN (ext_alloc _ _) _⟩
    · have b2 : (x != y) = true := by simpa using e2
      by_cases e3 : 0 ≤ idx xs x
      · have b3 : decide (0 ≤ idx xs x) = true := by simpa using e3
        by_cases e4 : 0 ≤ idx xs y
        · have b4 : decide (0 ≤ idx xs y) = true := by simpa using e4
          rw [hl] at i1 i2
          obtain ⟨b, o, rfl, hcx, _⟩ := H1.out.2.2 (idx xs x).toNat (by omega)
          obtain ⟨b', o', he, hcy, _⟩ := H1.out.2.2 (idx xs y).toNat (by omega)
          simp only [Option.some.injEq, Addr.mk.injEq, and_true] at he
          obtain ⟨rfl, rfl⟩ := he
          have hb : b < w.heap.size := World.block_lt_of_cell? w _ hcx
          have HE : Hid (shareB fv xs x y = decide (fv.getD (idx xs x).toNat 0 = fv.getD (idx xs y).toNat 0)) := by
            simp [Hid, shareB, e2, e3, e4, hl, hl1, e1]
          generalize fv.getD (idx xs x).toNat 0 = p at *
          generalize fv.getD (idx xs y).toNat 0 = q at *
          obtain ⟨jx, hx⟩ := Int.eq_ofNat_of_zero_le e3
          obtain ⟨jy, hy⟩ := Int.eq_ofNat_of_zero_le e4
          rw [hx] at hcx i1
          rw [hy] at hcy i2
          have HX := Lib.hid hx
          have HY := Lib.hid hy
          simp only [Int.toNat_natCast] at hcx hcy
          have jx1 : jx < n1 := by omega
          have jy1 : jy < n1 := by omega
          clear hx hy e1 e2 e3 e4 hl hl1 i1 i2 b3 b4
          go_enter Try.func16, Try.ntmps16
          go_wp2_with (go_at_call 26; refine (at25_any a n c xs _ _ (by exact H.out.ext (ext_alloc _ _))).mono ?_; rintro e w' ⟨rfl, rfl⟩; first | rw [HX.out] | rw [HY.out])
          have d1 : decide ((0 : Int) ≤ (jx : Int)) = true := by simp
          have d2 : decide ((0 : Int) ≤ (jy : Int)) = true := by simp
          go_quiet (fail)
          go_wp2
          go_ret
          exact ⟨ret_bool (by rw [HE.out, Bool.eq_iff_iff]; simp), ext_drewN (ext_alloc _ _) _⟩
        · have b4 : decide (0 ≤ idx xs y) = false := by simpa using e4
          have HE : Hid (shareB fv xs x y = false) := by simp [Hid, shareB, e4]
          rw [hl] at i1 i2
          clear e1 e2 e3 e4 hl1 hl
          go_enter Try.func16, Try.ntmps16
          go_wp2_with (go_at_call 26; refine (at25_any a n c xs _ _ (by exact H.out.ext (ext_alloc _ _))).mono ?_; rintro e w' ⟨rfl, rfl⟩)
          go_quiet (fail)
          go_wp2
          go_ret
          exact ⟨by rw [HE.out]; rfl, ext_drewN (ext_alloc _ _) _⟩
      · have b3 : decide (0 ≤ idx xs x) = false := by simpa using e3
        have HE : Hid (shareB fv xs x y = false) := by simp [Hid, shareB, e3]
        rw [hl] at i1 i2
        clear e1 e2 e3 hl1 hl
        go_enter Try.func16, Try.ntmps16
        go_wp2_with (go_at_call 26; refine (at25_any a n c xs _ _ (by exact H.out.ext (ext_alloc _ _))).mono ?_; rintro e w' ⟨rfl, rfl⟩)
        go_quiet (fail)
        go_wp2
        go_ret
        exact ⟨by rw [HE.out]; rfl, ext_drewN (ext_alloc _ _) _⟩
  · have HE : Hid (shareB fv xs x y = false) := by
      simp only [Hid, shareB, decide_eq_false_iff_not]
      rintro ⟨h3, _⟩
      omega
    have b1 : ((n1 : Int) == (n : Int)) = false := by simp; omega
    rw [hl] at i1 i2
    clear e1 hl1 hl
    go_enter Try.func16, Try.ntmps16
    go_wp2_with (go_at_call 26; refine (at25_any a n c xs _ _ (by exact H.out.ext (ext_alloc _ _))).mono ?_; rintro e w' ⟨rfl, rfl⟩)
    go_quiet (fail)
    go_wp2
    go_ret
    exact ⟨by rw [HE.out]; rfl, ext_drewN (ext_alloc _ _) _⟩
end Go.Proofs.Ytkakanjoeofjcaa
