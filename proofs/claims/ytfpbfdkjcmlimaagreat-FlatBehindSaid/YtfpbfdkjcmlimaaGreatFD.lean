/-
  Flat: mir.Reads of a call; Reads.
-/
import Derived.Test.YtfpbfdkjcmlimaaGreatFB
namespace Go.Proofs.YtfpbfdkjcmlimaaGreat
set_option linter.unusedSimpArgs false
set_option linter.unusedVariables false
set_option linter.unusedSectionVars false
set_option maxRecDepth 100000
set_option maxHeartbeats 40000000
section
open Go.RowKit
theorem Ints.takeN {w : World} {a : Option Addr} {n : Nat} {xs : List Int} (h : Ints w a n xs) (m : Nat) (hm : m ≤ n) : Ints w a m (xs.take m) := by
  refine ⟨by rw [List.length_take, h.1]; omega, by have := h.2.1; omega, fun k hk => ?_⟩
  have e : (xs.take m).getD k 0 = xs.getD k 0 := by simp [List.getD_eq_getElem?_getD, List.getElem?_take, hk]
  rw [e]
  exact h.2.2 k (by omega)
theorem reads_call (m : MachD) (i : InsD) (a1 a2 aa : Option Addr) (n1 c1 n2 c2 na ca : Nat) (w : World) (h : Ints w a1 n1 m.args) (hn : n1 ≤ 1000000) (hc : n1 ≤ c1) (h1 : I64 i.a) (h2 : I64 i.b) (h3 : I64 i.many) (h32 : hasV i.op = 32) :
    Calls Tryz.prog 40 #[machV m a1 n1 c1 a2 n2 c2, insV i aa na ca] w (LocsPost w (readsL m i)) := by
  have H1 := Lib.hid h1
  have H2 := Lib.hid h2
  have H := Lib.hid h
  have HLA := Lib.hid h.1
  obtain ⟨h3, h4⟩ := h3
  clear h1 h2 h
  have HV := Lib.hid h32
  clear h32
  obtain ⟨K, hK1, hK2⟩ : ∃ K : Nat, (max (min i.many (n1 : Int)) 0) = (K : Int) ∧ K ≤ n1 := ⟨(max (min i.many (n1 : Int)) 0).toNat, by omega, by omega⟩
  have HK : Hid (readsL m i = (m.args.take K).map fun x => (false, x)) := by
    rw [Hid, readsL, if_pos HV.out, HLA.out, hK1]
    rfl
  by_cases hm1 : i.many ≤ (n1 : Int)
  · by_cases hm2 : i.many < 0
    · obtain rfl : K = 0 := by omega
      clear hK1
      go_enter Tryz.func40, Tryz.ntmps40
      go_wp2_with (first
        | (go_at_call 61
           refine (has_any _ _).mono ?_
           rintro e w1 ⟨rfl, hb1⟩
           obtain ⟨x1, x2, x3⟩ := box2 w (machO m a1 n1 c1 a2 n2 c2) (insO i aa na ca) w1 hb1
           obtain ⟨y0, y1, y2, y3, y4, y5, y6⟩ := mi_cells x1 x2
           have HB1 := Lib.hid x3
           clear x1 x2 x3 hb1
           rw [HV.out])
        | (go_at_call 62
           refine (with_any _ _ _).mono ?_
           rintro e w' ⟨rfl, rfl⟩
           simp only [show withB 0 1 = false from rfl, show withB 0 2 = false from rfl, show withB 0 4 = false from rfl, show withB 0 16 = false from rfl, show withB 0 32 = false from rfl, show withB 3 1 = true from rfl, show withB 3 2 = true from rfl, show withB 3 4 = false from rfl, show withB 3 16 = false from rfl, show withB 3 32 = false from rfl, show withB 7 1 = true from rfl, show withB 7 2 = true from rfl, show withB 7 4 = true from rfl, show withB 7 16 = false from rfl, show withB 7 32 = false from rfl, show withB 9 1 = true from rfl, show withB 9 2 = false from rfl, show withB 9 4 = false from rfl, show withB 9 16 = false from rfl, show withB 9 32 = false from rfl, show withB 11 1 = true from rfl, show withB 11 2 = true from rfl, show withB 11 4 = false from rfl, show withB 11 16 = false from rfl, show withB 11 32 = false from rfl, show withB 14 1 = false from rfl, show withB 14 2 = true from rfl, show withB 14 4 = true from rfl, show withB 14 16 = false from rfl, show withB 14 32 = false from rfl, show withB 17 1 = true from rfl, show withB 17 2 = false from rfl, show withB 17 4 = false from rfl, show withB 17 16 = true from rfl, show withB 17 32 = false from rfl, show withB 18 1 = false from rfl, show withB 18 2 = true from rfl, show withB 18 4 = false from rfl, show withB 18 16 = true from rfl, show withB 18 32 = false from rfl, show withB 32 1 = false from rfl, show withB 32 2 = false from rfl, show withB 32 4 = false from rfl, show withB 32 16 = false from rfl, show withB 32 32 = true from rfl])
        | (go_at_call 63
           refine (places_any a1 0 c1 (m.args.take 0) _ ((H.out.ext HB1.out).takeN 0 (by omega)) (by omega)).mono ?_
           rw [← HK.out]
           rintro e w2 ⟨a3, c3, rfl, hl3, hb3⟩
           have HL3 := Lib.hid hl3
           have HB3 := Lib.hid (ext_trans HB1.out hb3)
           clear hl3 hb3))
      go_ret
      exact ⟨a3, c3, rfl, HL3.out, HB3.out⟩
    · obtain rfl : i.many.toNat = K := by omega
      have hm3 : 0 ≤ i.many := by omega
      have hkn : i.many.toNat ≤ n1 := by omega
      have hm4 : i.many ≤ (c1 : Int) := by omega
      clear hK1
      go_enter Tryz.func40, Tryz.ntmps40
      go_wp2_with (first
        | (go_at_call 61
           refine (has_any _ _).mono ?_
           rintro e w1 ⟨rfl, hb1⟩
           obtain ⟨x1, x2, x3⟩ := box2 w (machO m a1 n1 c1 a2 n2 c2) (insO i aa na ca) w1 hb1
           obtain ⟨y0, y1, y2, y3, y4, y5, y6⟩ := mi_cells x1 x2
           have HB1 := Lib.hid x3
           clear x1 x2 x3 hb1
           rw [HV.out])
        | (go_at_call 62
           refine (with_any _ _ _).mono ?_
           rintro e w' ⟨rfl, rfl⟩
           simp only [show withB 0 1 = false from rfl, show withB 0 2 = false from rfl, show withB 0 4 = false from rfl, show withB 0 16 = false from rfl, show withB 0 32 = false from rfl, show withB 3 1 = true from rfl, show withB 3 2 = true from rfl, show withB 3 4 = false from rfl, show withB 3 16 = false from rfl, show withB 3 32 = false from rfl, show withB 7 1 = true from rfl, show withB 7 2 = true from rfl, show withB 7 4 = true from rfl, show withB 7 16 = false from rfl, show withB 7 32 = false from rfl, show withB 9 1 = true from rfl, show withB 9 2 = false from rfl, show withB 9 4 = false from rfl, show withB 9 16 = false from rfl, show withB 9 32 = false from rfl, show withB 11 1 = true from rfl, show withB 11 2 = true from rfl, show withB 11 4 = false from rfl, show withB 11 16 = false from rfl, show withB 11 32 = false from rfl, show withB 14 1 = false from rfl, show withB 14 2 = true from rfl, show withB 14 4 = true from rfl, show withB 14 16 = false from rfl, show withB 14 32 = false from rfl, show withB 17 1 = true from rfl, show withB 17 2 = false from rfl, show withB 17 4 = false from rfl, show withB 17 16 = true from rfl, show withB 17 32 = false from rfl, show withB 18 1 = false from rfl, show withB 18 2 = true from rfl, show withB 18 4 = false from rfl, show withB 18 16 = true from rfl, show withB 18 32 = false from rfl, show withB 32 1 = false from rfl, show withB 32 2 = false from rfl, show withB 32 4 = false from rfl, show withB 32 16 = false from rfl, show withB 32 32 = true from rfl])
        | (go_at_call 63
           refine (places_any a1 i.many.toNat c1 (m.args.take i.many.toNat) _ ((H.out.ext HB1.out).takeN i.many.toNat (by omega)) (by omega)).mono ?_
           rw [← HK.out]
           rintro e w2 ⟨a3, c3, rfl, hl3, hb3⟩
           have HL3 := Lib.hid hl3
           have HB3 := Lib.hid (ext_trans HB1.out hb3)
           clear hl3 hb3))
      go_ret
      exact ⟨a3, c3, rfl, HL3.out, HB3.out⟩
  · obtain rfl : n1 = K := by omega
    have hm5 : (n1 : Int) < i.many := by omega
    clear hK1
    go_enter Tryz.func40, Tryz.ntmps40
    go_wp2_with (first
      | (go_at_call 61
         refine (has_any _ _).mono ?_
         rintro e w1 ⟨rfl, hb1⟩
         obtain ⟨x1, x2, x3⟩ := box2 w (machO m a1 n1 c1 a2 n2 c2) (insO i aa na ca) w1 hb1
         obtain ⟨y0, y1, y2, y3, y4, y5, y6⟩ := mi_cells x1 x2
         have HB1 := Lib.hid x3
         clear x1 x2 x3 hb1
         rw [HV.out])
      | (go_at_call 62
         refine (with_any _ _ _).mono ?_
         rintro e w' ⟨rfl, rfl⟩
         simp only [show withB 0 1 = false from rfl, show withB 0 2 = false from rfl, show withB 0 4 = false from rfl, show withB 0 16 = false from rfl, show withB 0 32 = false from rfl, show withB 3 1 = true from rfl, show withB 3 2 = true from rfl, show withB 3 4 = false from rfl, show withB 3 16 = false from rfl, show withB 3 32 = false from rfl, show withB 7 1 = true from rfl, show withB 7 2 = true from rfl, show withB 7 4 = true from rfl, show withB 7 16 = false from rfl, show withB 7 32 = false from rfl, show withB 9 1 = true from rfl, show withB 9 2 = false from rfl, show withB 9 4 = false from rfl, show withB 9 16 = false from rfl, show withB 9 32 = false from rfl, show withB 11 1 = true from rfl, show withB 11 2 = true from rfl, show withB 11 4 = false from rfl, show withB 11 16 = false from rfl, show withB 11 32 = false from rfl, show withB 14 1 = false from rfl, show withB 14 2 = true from rfl, show withB 14 4 = true from rfl, show withB 14 16 = false from rfl, show withB 14 32 = false from rfl, show withB 17 1 = true from rfl, show withB 17 2 = false from rfl, show withB 17 4 = false from rfl, show withB 17 16 = true from rfl, show withB 17 32 = false from rfl, show withB 18 1 = false from rfl, show withB 18 2 = true from rfl, show withB 18 4 = false from rfl, show withB 18 16 = true from rfl, show withB 18 32 = false from rfl, show withB 32 1 = false from rfl, show withB 32 2 = false from rfl, show withB 32 4 = false from rfl, show withB 32 16 = false from rfl, show withB 32 32 = true from rfl])
      | (go_at_call 63
         refine (places_any a1 n1 c1 (m.args.take n1) _ ((H.out.ext HB1.out).takeN n1 (by omega)) (by omega)).mono ?_
         rw [← HK.out]
         rintro e w2 ⟨a3, c3, rfl, hl3, hb3⟩
         have HL3 := Lib.hid hl3
         have HB3 := Lib.hid (ext_trans HB1.out hb3)
         clear hl3 hb3))
    go_ret
    exact ⟨a3, c3, rfl, HL3.out, HB3.out⟩
theorem reads_any (m : MachD) (i : InsD) (a1 a2 aa : Option Addr) (n1 c1 n2 c2 na ca : Nat) (w : World) (h : Ints w a1 n1 m.args) (hn : n1 ≤ 1000000) (hc : n1 ≤ c1) (h1 : I64 i.a) (h2 : I64 i.b) (h3 : I64 i.many) :
    Calls Tryz.prog 40 #[machV m a1 n1 c1 a2 n2 c2, insV i aa na ca] w (LocsPost w (readsL m i)) := by
  by_cases h32 : hasV i.op = 32
  · exact reads_call m i a1 a2 aa n1 c1 n2 c2 na ca w h hn hc h1 h2 h3 h32
  · exact reads_rest m i a1 a2 aa n1 c1 n2 c2 na ca w h hn hc h1 h2 h3 h32
end

section
open Go.RowKit
theorem machineOf_any (m : MachD) (a1 a2 : Option Addr) (n1 c1 n2 c2 : Nat) (w : World) (h1 : n1 ≤ 17592186044416) (h2 : n2 ≤ 17592186044416) :
    Calls Tryz.prog 5 #[machV m a1 n1 c1 a2 n2 c2] w fun e w' => e = .returned (.int .i64 ((n1 : Int) + (n2 : Int))) ∧ Below w.heap.size w w' := by
  go_enter Tryz.func5, Tryz.ntmps5
  go_wp2
  go_ret
  exact ⟨rfl, ext_alloc _ _⟩
def varB (n : Int) : Bool := decide (1 ≤ n ∧ n ≤ 200)
theorem variable_any (n : Int) (w : World) : Calls Tryz.prog 82 #[.int .i64 n] w fun e w' => e = .returned (.bool (varB n)) ∧ w = w' := by
  by_cases h1 : 1 ≤ n
  · have d1 : decide (1 ≤ n) = true := by simpa using h1
    have HE : Hid (varB n = decide (n ≤ 200)) := by rw [Hid, varB, decide_eq_decide]; omega
    go_enter Tryz.func82, Tryz.ntmps82
    go_wp2
    go_ret
    exact ⟨by rw [HE.out]; rfl, rfl⟩
  · have d1 : decide (1 ≤ n) = false := by simpa using h1
    have HE : Hid (varB n = false) := by rw [Hid, varB, decide_eq_false_iff_not]; omega
    go_enter Tryz.func82, Tryz.ntmps82
    go_wp2
    go_ret
    exact ⟨by rw [HE.out]; rfl, rfl⟩
def fitsB (b : Bool) (n : Int) : Bool := if b then varB n else decide (n = 0)
theorem fits_any (b : Bool) (n : Int) (w : World) : Calls Tryz.prog 84 #[.bool b, .int .i64 n] w fun e w' => e = .returned (.bool (fitsB b n)) ∧ w = w' := by
  cases b with
  | true =>
    go_enter Tryz.func84, Tryz.ntmps84
    go_wp2_with (go_at_call 82; refine (variable_any _ _).mono ?_; rintro e w' ⟨rfl, rfl⟩)
    go_ret
    exact ⟨rfl, rfl⟩
  | false =>
    have HE : Hid (fitsB false n = (n == 0)) := by
      rw [Hid, fitsB, if_neg (by simp)]
      by_cases h : n = 0 <;> simp [h]
    go_enter Tryz.func84, Tryz.ntmps84
    go_wp2
    go_ret
    exact ⟨by rw [HE.out]; rfl, rfl⟩
end
end Go.Proofs.YtfpbfdkjcmlimaaGreat
