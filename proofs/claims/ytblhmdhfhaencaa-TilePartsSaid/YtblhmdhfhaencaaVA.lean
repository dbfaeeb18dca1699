/-
 law17's own great, with all bounds that it gives.
-/
import Derived.Test.YtblhmdhfhaencaaLX
namespace Go.Proofs.Ytblhmdhfhaencaa
set_option linter.unusedSimpArgs false
set_option linter.unusedVariables false
set_option linter.unusedSectionVars false
set_option maxRecDepth 100000
set_option maxHeartbeats 40000000
section
open Go.RowKit
attribute [local go_sem] Oper.semAt_some wide_fn wide_depth wide_fnR wide_depthR

theorem great17_any2 (pa : Option Addr) (pn pc : Nat) (hpn : pn ≤ 17592186044416) (ba : Option Addr) (bn bc : Nat) (bs : List BlkR) (a : Option Addr) (n c : Nat) (ls : List TileR) (w : World) (h : BlksR w ba bn bs) (ht : TilesOK w a n ls) :
  Calls Try.prog 21 #[funcV pa pn pc ba bn bc, .slice a n c] w (GreatPost2 bn pn bs n ls 40 w) := by
 have HX := Lib.hid h
 have HT := Lib.hid ht
 have hn := ht.1.2.1
 have HLN := Lib.hid ht.1.1
 have hbn := h.1.2.1
 clear h ht
 go_enter Try.func21, Try.ntmps21
 go_wp2
 go_loopw [5, 6] (fun s5 s6 wr => ∃ (i : Nat) (acc : Nat), s6 = .int .i64 i ∧ s5 = .int .i64 acc ∧ i ≤ n ∧ acc = n + totN ls i ∧ acc ≤ 35184372088832 ∧ Hid (wr = w.alloc (funcO pa pn pc ba bn bc))) (fun _ s6 _ => n - (intOf s6).toNat)
 case atStart => exact ⟨0, n, rfl, rfl, by omega, by simp [totN], by omega, rfl⟩
 case round =>
  obtain ⟨i, acc, rfl, rfl, hi, hacc, hab, HW⟩ := hrel
  have HBw : Hid (Below w.heap.size w wr) := by rw [Hid, HW.out]; exact ext_alloc _ _
  have hk0 : wr.heap[w.heap.size]? = some (funcO pa pn pc ba bn bc) := by rw [HW.out]; exact heap_alloc_new _ _
  have HK := Lib.hid hk0
  have k0 : wr.cell? ⟨w.heap.size, 0, none⟩ = some (.slice pa pn pc) := by rw [cell_of_row _ _ _ _ _ _ hk0]; rfl
  have k1 : wr.cell? ⟨w.heap.size, 1, none⟩ = some (.slice ba bn bc) := by rw [cell_of_row _ _ _ _ _ _ hk0]; rfl
  clear hk0
  by_cases hlt : i < n
  · have hlt' : (i : Int) < (n : Int) := by omega
    have hd1 : decide ((i : Int) < (n : Int)) = true := by simpa using hlt
    by_cases hle : acc ≤ 120
    · have hd2 : decide ((acc : Int) ≤ 120) = true := by simp; omega
      obtain ⟨t, b, o, hlk, ⟨hI, _⟩, rfl, c0, c1, c2⟩ := (HT.out.ext HBw.out).cells hlt
      have hst := totN_step ls i t hlk
      have hb := hI.2.1
      clear c0 c1 hlk hI
      go_wp2
      go_roundw
      case rel => exact ⟨i + 1, n + totN ls i + t.bn, by go_num, by go_num, by omega, by omega, by omega, HW⟩
      case measure => simp [intOf]; omega
    · have hd2 : decide ((acc : Int) ≤ 120) = false := by simp; omega
      have hgt : (120 : Int) < (acc : Int) := by omega
      clear hacc
      by_cases q1 : bn ≤ 40
      · have e1 : (bn : Int) ≤ 40 := by omega
        go_wp2_with (
         (go_at_call 30
          refine (funcOf_any2 pa pn pc hpn ba bn bc bs 2000 (by omega) (by omega) wr (HX.out.ext HBw.out)).mono ?_
          rintro e w2 ⟨z, rfl, hz0, hz1, hz2, hb2⟩
          have HB2 := Lib.hid (ext_trans HBw.out hb2)
          have HZ := Lib.hid hz2
          clear hb2 hz2))
        all_goals
         go_ret
         first
          | exact ⟨_, rfl, HBw.out, fun h => by first | cases h | (simp at h; done) | (simp at h; omega)⟩
          | exact ⟨_, rfl, HB2.out, fun h => by first | cases h | (simp at h; done) | (simp at h; omega)⟩
      · by_cases q2 : bn ≤ 200
        · have e1 : (40 : Int) < (bn : Int) := by omega
          have e2 : (bn : Int) ≤ 200 := by omega
          go_wp2_with (
           (go_at_call 30
            refine (funcOf_any2 pa pn pc hpn ba bn bc bs 2000 (by omega) (by omega) wr (HX.out.ext HBw.out)).mono ?_
            rintro e w2 ⟨z, rfl, hz0, hz1, hz2, hb2⟩
            have HB2 := Lib.hid (ext_trans HBw.out hb2)
            have HZ := Lib.hid hz2
            clear hb2 hz2))
          all_goals
           go_ret
           first
            | exact ⟨_, rfl, HBw.out, fun h => by first | cases h | (simp at h; done) | (simp at h; omega)⟩
            | exact ⟨_, rfl, HB2.out, fun h => by first | cases h | (simp at h; done) | (simp at h; omega)⟩
        · have e1 : (40 : Int) < (bn : Int) := by omega
          have e2 : (200 : Int) < (bn : Int) := by omega
          go_wp2_with (
           (go_at_call 30
            refine (funcOf_any2 pa pn pc hpn ba bn bc bs 2000 (by omega) (by omega) wr (HX.out.ext HBw.out)).mono ?_
            rintro e w2 ⟨z, rfl, hz0, hz1, hz2, hb2⟩
            have HB2 := Lib.hid (ext_trans HBw.out hb2)
            have HZ := Lib.hid hz2
            clear hb2 hz2))
          all_goals
           go_ret
           first
            | exact ⟨_, rfl, HBw.out, fun h => by first | cases h | (simp at h; done) | (simp at h; omega)⟩
            | exact ⟨_, rfl, HB2.out, fun h => by first | cases h | (simp at h; done) | (simp at h; omega)⟩
  · obtain rfl : i = n := by omega
    have HTOT : Hid (totN ls i = totL (tdOf ls)) := totN_all HT.out
    by_cases hle : acc ≤ 120
    · have hd2 : (acc : Int) ≤ 120 := by omega
      by_cases q1 : bn ≤ 40
      · have e1 : (bn : Int) ≤ 40 := by omega
        go_wp2_with (
         (go_at_call 30
          refine (funcOf_any2 pa pn pc hpn ba bn bc bs 2000 (by omega) (by omega) wr (HX.out.ext HBw.out)).mono ?_
          rintro e w2 ⟨z, rfl, hz0, hz1, hz2, hb2⟩
          have HB2 := Lib.hid (ext_trans HBw.out hb2)
          have HZ := Lib.hid hz2
          clear hb2 hz2))
        all_goals
         go_ret
         first
          | exact ⟨_, rfl, HBw.out, fun h => by first | cases h | (simp at h; done) | (simp at h; omega)⟩
          | exact ⟨_, rfl, HB2.out, fun h => ⟨by omega, by have := HTOT.out; omega, HZ.out (by first | (simp at h; done) | (simp at h; omega))⟩⟩
      · by_cases q2 : bn ≤ 200
        · have e1 : (40 : Int) < (bn : Int) := by omega
          have e2 : (bn : Int) ≤ 200 := by omega
          go_wp2_with (
           (go_at_call 30
            refine (funcOf_any2 pa pn pc hpn ba bn bc bs 2000 (by omega) (by omega) wr (HX.out.ext HBw.out)).mono ?_
            rintro e w2 ⟨z, rfl, hz0, hz1, hz2, hb2⟩
            have HB2 := Lib.hid (ext_trans HBw.out hb2)
            have HZ := Lib.hid hz2
            clear hb2 hz2))
          all_goals
           go_ret
           first
            | exact ⟨_, rfl, HBw.out, fun h => by first | cases h | (simp at h; done) | (simp at h; omega)⟩
            | exact ⟨_, rfl, HB2.out, fun h => ⟨by omega, by have := HTOT.out; omega, HZ.out (by first | (simp at h; done) | (simp at h; omega))⟩⟩
        · have e1 : (40 : Int) < (bn : Int) := by omega
          have e2 : (200 : Int) < (bn : Int) := by omega
          go_wp2_with (
           (go_at_call 30
            refine (funcOf_any2 pa pn pc hpn ba bn bc bs 2000 (by omega) (by omega) wr (HX.out.ext HBw.out)).mono ?_
            rintro e w2 ⟨z, rfl, hz0, hz1, hz2, hb2⟩
            have HB2 := Lib.hid (ext_trans HBw.out hb2)
            have HZ := Lib.hid hz2
            clear hb2 hz2))
          all_goals
           go_ret
           first
            | exact ⟨_, rfl, HBw.out, fun h => by first | cases h | (simp at h; done) | (simp at h; omega)⟩
            | exact ⟨_, rfl, HB2.out, fun h => ⟨by omega, by have := HTOT.out; omega, HZ.out (by first | (simp at h; done) | (simp at h; omega))⟩⟩
    · have hd2 : (120 : Int) < (acc : Int) := by omega
      clear hacc
      by_cases q1 : bn ≤ 40
      · have e1 : (bn : Int) ≤ 40 := by omega
        go_wp2_with (
         (go_at_call 30
          refine (funcOf_any2 pa pn pc hpn ba bn bc bs 2000 (by omega) (by omega) wr (HX.out.ext HBw.out)).mono ?_
          rintro e w2 ⟨z, rfl, hz0, hz1, hz2, hb2⟩
          have HB2 := Lib.hid (ext_trans HBw.out hb2)
          have HZ := Lib.hid hz2
          clear hb2 hz2))
        all_goals
         go_ret
         first
          | exact ⟨_, rfl, HBw.out, fun h => by first | cases h | (simp at h; done) | (simp at h; omega)⟩
          | exact ⟨_, rfl, HB2.out, fun h => by first | cases h | (simp at h; done) | (simp at h; omega)⟩
      · by_cases q2 : bn ≤ 200
        · have e1 : (40 : Int) < (bn : Int) := by omega
          have e2 : (bn : Int) ≤ 200 := by omega
          go_wp2_with (
           (go_at_call 30
            refine (funcOf_any2 pa pn pc hpn ba bn bc bs 2000 (by omega) (by omega) wr (HX.out.ext HBw.out)).mono ?_
            rintro e w2 ⟨z, rfl, hz0, hz1, hz2, hb2⟩
            have HB2 := Lib.hid (ext_trans HBw.out hb2)
            have HZ := Lib.hid hz2
            clear hb2 hz2))
          all_goals
           go_ret
           first
            | exact ⟨_, rfl, HBw.out, fun h => by first | cases h | (simp at h; done) | (simp at h; omega)⟩
            | exact ⟨_, rfl, HB2.out, fun h => by first | cases h | (simp at h; done) | (simp at h; omega)⟩
        · have e1 : (40 : Int) < (bn : Int) := by omega
          have e2 : (200 : Int) < (bn : Int) := by omega
          go_wp2_with (
           (go_at_call 30
            refine (funcOf_any2 pa pn pc hpn ba bn bc bs 2000 (by omega) (by omega) wr (HX.out.ext HBw.out)).mono ?_
            rintro e w2 ⟨z, rfl, hz0, hz1, hz2, hb2⟩
            have HB2 := Lib.hid (ext_trans HBw.out hb2)
            have HZ := Lib.hid hz2
            clear hb2 hz2))
          all_goals
           go_ret
           first
            | exact ⟨_, rfl, HBw.out, fun h => by first | cases h | (simp at h; done) | (simp at h; omega)⟩
            | exact ⟨_, rfl, HB2.out, fun h => by first | cases h | (simp at h; done) | (simp at h; omega)⟩
end
end Go.Proofs.Ytblhmdhfhaencaa
