/-
 FuncOf, the laws' own great.
-/
import Derived.Test.YtblhmdhfhaencaaEK
import Derived.Test.YtblhmdhfhaencaaTH
namespace Go.Proofs.Ytblhmdhfhaencaa
set_option linter.unusedSimpArgs false
set_option linter.unusedVariables false
set_option linter.unusedSectionVars false
set_option maxRecDepth 100000
set_option maxHeartbeats 40000000
section
open Go.RowKit
attribute [local go_sem] Oper.semAt_some wide_fn wide_depth wide_fnR wide_depthR

def FuncOfPost (bs : List BlkH) (most : Int) (w : World) (e : Ending) (w' : World) : Prop := ∃ z : Int, e = .returned (.int .i64 z) ∧ 0 ≤ z ∧ z ≤ 70368744177664 ∧ (z ≤ most → ∀ b ∈ bs, (b.n : Int) ≤ most) ∧ Below w.heap.size w w'
theorem funcOf_any (pa : Option Addr) (pn pc : Nat) (hpn : pn ≤ 17592186044416) (ba : Option Addr) (bn bc : Nat) (bs : List BlkH) (most : Int) (h0 : 0 ≤ most) (h1 : most ≤ 10000) (w : World) (h : BlksX w ba bn bs) :
  Calls Try.prog 30 #[funcV pa pn pc ba bn bc, .int .i64 most] w (FuncOfPost bs most w) := by
 have HX := Lib.hid h
 clear h
 go_enter Try.func30, Try.ntmps30
 go_upto_region 1 with (fail)
 obtain ⟨W, hW⟩ : ∃ W, W = w.alloc (funcO pa pn pc ba bn bc) := ⟨_, rfl⟩
 rw [← hW]
 have hk0 : W.heap[w.heap.size]? = some (funcO pa pn pc ba bn bc) := by rw [hW]; exact heap_alloc_new _ _
 have hB : Below w.heap.size w W := by rw [hW]; exact ext_alloc _ _
 have HK := Lib.hid hk0
 have HB := Lib.hid hB
 clear hW hk0 hB
 refine region_free 8 [some 5, some 6, some 7, some 8, some 9, some 10, some 11, some 12] (by kernel_rfl) (by kernel_rfl) (specB [.val (.pointer (some ⟨w.heap.size, 0, none⟩)), .val (.slice pa pn pc), .val (.int .i64 (pn : Int)), .val (.pointer (some ⟨w.heap.size, 1, none⟩)), .val (.slice ba bn bc), .val (.int .i64 most), (.any fun v lo hi W => ∃ z : Int, v = .int .i64 z ∧ 0 ≤ z ∧ z ≤ 35184372088841 ∧ (z ≤ most → ∀ b ∈ bs, (b.n : Int) ≤ most)), (.any fun v lo hi W => ∃ z : Int, v = .int .i64 z ∧ 0 ≤ z ∧ z ≤ 70368744177664 ∧ (z ≤ most → ∀ b ∈ bs, (b.n : Int) ≤ most))]) (specB_mono ?_) ?_ ?_
 · intro k hk
   simp only [List.mem_cons, List.not_mem_nil, or_false] at hk
   rcases hk with rfl | rfl | rfl | rfl | rfl | rfl | rfl | rfl
   · exact trivial
   · exact trivial
   · exact trivial
   · exact trivial
   · exact trivial
   · exact trivial
   · intro v lo hi w w' _ h; exact h
   · intro v lo hi w w' _ h; exact h
 · intro i hi ν lo hi' w1 K hB hD hK
   have hcase : i = 0 ∨ i = 1 ∨ i = 2 ∨ i = 3 ∨ i = 4 ∨ i = 5 ∨ i = 6 ∨ i = 7 := by omega
   clear hi
   rcases hcase with rfl | rfl | rfl | rfl | rfl | rfl | rfl | rfl
   · clear hD
     refine wpOp_atK rfl rfl ?_
     simp only [frameOf, frameGo, List.getD_cons_zero, List.getD_cons_succ, put_some, put_none, List.setIfInBounds_toArray, List.set_cons_succ, List.set_cons_zero] at hK ⊢
     go_simp
     exact hK _ _ (Below.refl _ _) rfl
   · have e0 := hD 0 (by kernel_rfl)
     replace e0 : ν 0 = (.pointer (some ⟨w.heap.size, 0, none⟩)) := e0
     clear hD
     refine wpOp_atK rfl rfl ?_
     simp only [frameOf, frameGo, List.getD_cons_zero, List.getD_cons_succ, put_some, put_none, List.setIfInBounds_toArray, List.set_cons_succ, List.set_cons_zero, e0] at hK ⊢
     have hcl : w1.cell? ⟨w.heap.size, 0, none⟩ = some (.slice pa pn pc) := (by rw [cell_of_row _ _ _ _ _ _ (block_ext hB HK.out)]; rfl)
     go_simp
     exact hK _ _ (Below.refl _ _) rfl
   · have e1 := hD 1 (by kernel_rfl)
     replace e1 : ν 1 = (.slice pa pn pc) := e1
     clear hD
     refine wpOp_atK rfl rfl ?_
     simp only [frameOf, frameGo, List.getD_cons_zero, List.getD_cons_succ, put_some, put_none, List.setIfInBounds_toArray, List.set_cons_succ, List.set_cons_zero, e1] at hK ⊢
     go_simp
     exact hK _ _ (Below.refl _ _) rfl
   · clear hD
     refine wpOp_atK rfl rfl ?_
     simp only [frameOf, frameGo, List.getD_cons_zero, List.getD_cons_succ, put_some, put_none, List.setIfInBounds_toArray, List.set_cons_succ, List.set_cons_zero] at hK ⊢
     go_simp
     exact hK _ _ (Below.refl _ _) rfl
   · have e3 := hD 3 (by kernel_rfl)
     replace e3 : ν 3 = (.pointer (some ⟨w.heap.size, 1, none⟩)) := e3
     clear hD
     refine wpOp_atK rfl rfl ?_
     simp only [frameOf, frameGo, List.getD_cons_zero, List.getD_cons_succ, put_some, put_none, List.setIfInBounds_toArray, List.set_cons_succ, List.set_cons_zero, e3] at hK ⊢
     have hcl : w1.cell? ⟨w.heap.size, 1, none⟩ = some (.slice ba bn bc) := (by rw [cell_of_row _ _ _ _ _ _ (block_ext hB HK.out)]; rfl)
     go_simp
     exact hK _ _ (Below.refl _ _) rfl
   · clear hD
     refine wpOp_atK rfl rfl ?_
     simp only [frameOf, frameGo, List.getD_cons_zero, List.getD_cons_succ, put_some, put_none, List.setIfInBounds_toArray, List.set_cons_succ, List.set_cons_zero] at hK ⊢
     go_simp
     exact hK _ _ (Below.refl _ _) rfl
   · have e4 := hD 4 (by kernel_rfl)
     replace e4 : ν 4 = (.slice ba bn bc) := e4
     have e5 := hD 5 (by kernel_rfl)
     replace e5 : ν 5 = (.int .i64 most) := e5
     clear hD
     refine wpOp_atK rfl rfl ?_
     simp only [frameOf, frameGo, List.getD_cons_zero, List.getD_cons_succ, put_some, put_none, List.setIfInBounds_toArray, List.set_cons_succ, List.set_cons_zero, e4, e5] at hK ⊢
     go_simp
     refine (blocksOf_any ba bn bc bs most h0 h1 w1 (HX.out.ext (ext_trans HB.out hB))).mono ?_
     rintro e w3 ⟨z, rfl, hz0, hz1, hz2, rfl⟩
     exact hK _ _ (Below.refl _ _) ⟨z, rfl, hz0, hz1, hz2⟩
   · have e2 := hD 2 (by kernel_rfl)
     replace e2 : ν 2 = (.int .i64 (pn : Int)) := e2
     have e6 := hD 6 (by kernel_rfl)
     unfold specB at e6
     simp only [List.getD_cons_zero, List.getD_cons_succ, specK] at e6
     clear hD
     refine wpOp_atK rfl rfl ?_
     simp only [frameOf, frameGo, List.getD_cons_zero, List.getD_cons_succ, put_some, put_none, List.setIfInBounds_toArray, List.set_cons_succ, List.set_cons_zero, e2] at hK ⊢
     obtain ⟨z, hz, hz0, hz1, hz2⟩ := e6
     simp only [hz] at hK ⊢
     go_simp
     exact hK _ _ (Below.refl _ _) ⟨(pn : Int) + z, by rw [IntKind.wrap_i64]; congr 1; omega, by omega, by omega, fun h => hz2 (by omega)⟩
 · intro ν lo hi w1 hB hS hI hD
   have e0 : ν 0 = (.pointer (some ⟨w.heap.size, 0, none⟩)) := hS 0 (by omega)
   have e1 : ν 1 = (.slice pa pn pc) := hS 1 (by omega)
   have e2 : ν 2 = (.int .i64 (pn : Int)) := hS 2 (by omega)
   have e3 : ν 3 = (.pointer (some ⟨w.heap.size, 1, none⟩)) := hS 3 (by omega)
   have e4 : ν 4 = (.slice ba bn bc) := hS 4 (by omega)
   have e5 : ν 5 = (.int .i64 most) := hS 5 (by omega)
   have e6 := hS 6 (by omega)
   unfold specB at e6
   simp only [List.getD_cons_zero, List.getD_cons_succ, specK] at e6
   have e7 := hS 7 (by omega)
   unfold specB at e7
   simp only [List.getD_cons_zero, List.getD_cons_succ, specK] at e7
   clear hS
   simp only [List.drop_succ_cons, List.drop_zero, frameOf, frameGo, List.getD_cons_zero, List.getD_cons_succ, put_some, put_none, List.setIfInBounds_toArray, List.set_cons_succ, List.set_cons_zero, e0, e1, e2, e3, e4, e5]
   clear e0 e1 e2 e3 e4 e5 e6
   obtain ⟨z, hz, hz0, hz1, hz2⟩ := e7
   rw [hz]
   have HZ2 := Lib.hid hz2
   have HB9 := Lib.hid (ext_trans HB.out hB)
   clear hI hD hB hz2
   go_wp2
   go_ret
   exact ⟨z, rfl, hz0, hz1, HZ2.out, HB9.out⟩
def totN (ls : List TileR) (i : Nat) : Nat := ((ls.take i).map fun t => t.bn).sum
/-- what is told where nothing is too great -/
def GreatPost (bn : Nat) (bs : List BlkH) (n : Nat) (ls : List TileR) (most : Nat) (w : World) (e : Ending) (w' : World) : Prop :=
 ∃ b, e = .returned (.bool b) ∧ Below w.heap.size w w' ∧ (b = false → (bn ≤ most ∨ 200 < bn) ∧ n + totL (tdOf ls) ≤ 3 * most ∧ ∀ b ∈ bs, (b.n : Int) ≤ 2000)
theorem totN_step (ls : List TileR) (i : Nat) (t : TileR) (h : ls[i]? = some t) : totN ls (i + 1) = totN ls i + t.bn := by
 rw [totN, totN, List.take_add_one, h, Option.toList_some, List.map_append, List.sum_append]; simp
theorem totN_all {w : World} {a : Option Addr} {n : Nat} {ls : List TileR} (h : TilesOK w a n ls) : totN ls n = totL (tdOf ls) := by
 rw [totN, totL, tdOf, List.take_of_length_le (by rw [h.1.1]; omega), List.map_map]
 congr 1
 refine List.map_congr_left fun t ht => ?_
 exact ((h.2 t ht).1.1).symm
theorem great18_any (pa : Option Addr) (pn pc : Nat) (hpn : pn ≤ 17592186044416) (ba : Option Addr) (bn bc : Nat) (bs : List BlkH) (a : Option Addr) (n c : Nat) (ls : List TileR) (w : World) (h : BlksX w ba bn bs) (ht : TilesOK w a n ls) :
  Calls Try.prog 8 #[funcV pa pn pc ba bn bc, .slice a n c] w (GreatPost bn bs n ls 30 w) := by
 have HX := Lib.hid h
 have HT := Lib.hid ht
 have hn := ht.1.2.1
 have HLN := Lib.hid ht.1.1
 have hbn := h.1.1.2.1
 clear h ht
 go_enter Try.func8, Try.ntmps8
 go_wp2
 go_loopw [5, 6] (fun s5 s6 wr => ∃ (i : Nat) (acc : Nat), s6 = .int .i64 i ∧ s5 = .int .i64 acc ∧ i ≤ n ∧ acc = n + totN ls i ∧ acc ≤ 35184372088832 ∧ Hid (wr = w.alloc (funcO pa pn pc ba bn bc))) (fun _ s6 _ => n - (intOf s6).toNat)
 case atStart => exact ⟨0, n, rfl, rfl, by omega, by simp [totN], by omega, rfl⟩
 case round =>
  obtain ⟨i, acc, rfl, rfl, hi, hacc, hab, HW⟩ := hrel
  have HBw : Hid (Below w.heap.size w wr) := by rw [Hid, HW.out]; exact ext_alloc _ _
  have hk0 : wr.heap[w.heap.size]? = some (funcO pa pn pc ba bn bc) := by rw [HW.out]; exact heap_alloc_new _ _
  have HK := Lib.hid hk0
  have k0 : wr.cell? ⟨w.heap.size, 0, none⟩ = some (.slice pa pn pc) := by rw [cell_of_row _ _ _ _ _ _ hk0]; rfl
  have k1 : wr.cell? ⟨w.heap.size, 1, none⟩ = some (.slice ba bn bc) := by rw [cell_of_row _ _ _ _ _ _ hk0]; rfl
  clear hk0
  by_cases hlt : i < n
  · have hlt' : (i : Int) < (n : Int) := by omega
    have hd1 : decide ((i : Int) < (n : Int)) = true := by simpa using hlt
    by_cases hle : acc ≤ 90
    · have hd2 : decide ((acc : Int) ≤ 90) = true := by simp; omega
      obtain ⟨t, b, o, hlk, ⟨hI, _⟩, rfl, c0, c1, c2⟩ := (HT.out.ext HBw.out).cells hlt
      have hst := totN_step ls i t hlk
      have hb := hI.2.1
      clear c0 c1 hlk hI
      go_wp2
      go_roundw
      case rel => exact ⟨i + 1, n + totN ls i + t.bn, by go_num, by go_num, by omega, by omega, by omega, HW⟩
      case measure => simp [intOf]; omega
    · have hd2 : decide ((acc : Int) ≤ 90) = false := by simp; omega
      have hgt : (90 : Int) < (acc : Int) := by omega
      clear hacc
      by_cases q1 : bn ≤ 30
      · have e1 : (bn : Int) ≤ 30 := by omega
        go_wp2_with (
         (go_at_call 30
          refine (funcOf_any pa pn pc hpn ba bn bc bs 2000 (by omega) (by omega) wr (HX.out.ext HBw.out)).mono ?_
          rintro e w2 ⟨z, rfl, hz0, hz1, hz2, hb2⟩
          have HB2 := Lib.hid (ext_trans HBw.out hb2)
          have HZ := Lib.hid hz2
          clear hb2 hz2))
        all_goals
         go_ret
         first
          | exact ⟨_, rfl, HBw.out, fun h => by first | cases h | (simp at h; done) | (simp at h; omega)⟩
          | exact ⟨_, rfl, HB2.out, fun h => by first | cases h | (simp at h; done) | (simp at h; omega)⟩
      · by_cases q2 : bn ≤ 200
        · have e1 : (30 : Int) < (bn : Int) := by omega
          have e2 : (bn : Int) ≤ 200 := by omega
          go_wp2_with (
           (go_at_call 30
            refine (funcOf_any pa pn pc hpn ba bn bc bs 2000 (by omega) (by omega) wr (HX.out.ext HBw.out)).mono ?_
            rintro e w2 ⟨z, rfl, hz0, hz1, hz2, hb2⟩
            have HB2 := Lib.hid (ext_trans HBw.out hb2)
            have HZ := Lib.hid hz2
            clear hb2 hz2))
          all_goals
           go_ret
           first
            | exact ⟨_, rfl, HBw.out, fun h => by first | cases h | (simp at h; done) | (simp at h; omega)⟩
            | exact ⟨_, rfl, HB2.out, fun h => by first | cases h | (simp at h; done) | (simp at h; omega)⟩
        · have e1 : (30 : Int) < (bn : Int) := by omega
          have e2 : (200 : Int) < (bn : Int) := by omega
          go_wp2_with (
           (go_at_call 30
            refine (funcOf_any pa pn pc hpn ba bn bc bs 2000 (by omega) (by omega) wr (HX.out.ext HBw.out)).mono ?_
            rintro e w2 ⟨z, rfl, hz0, hz1, hz2, hb2⟩
            have HB2 := Lib.hid (ext_trans HBw.out hb2)
            have HZ := Lib.hid hz2
            clear hb2 hz2))
          all_goals
           go_ret
           first
            | exact ⟨_, rfl, HBw.out, fun h => by first | cases h | (simp at h; done) | (simp at h; omega)⟩
            | exact ⟨_, rfl, HB2.out, fun h => by first | cases h | (simp at h; done) | (simp at h; omega)⟩
  · obtain rfl : i = n := by omega
    have HTOT : Hid (totN ls i = totL (tdOf ls)) := totN_all HT.out
    by_cases hle : acc ≤ 90
    · have hd2 : (acc : Int) ≤ 90 := by omega
      by_cases q1 : bn ≤ 30
      · have e1 : (bn : Int) ≤ 30 := by omega
        go_wp2_with (
         (go_at_call 30
          refine (funcOf_any pa pn pc hpn ba bn bc bs 2000 (by omega) (by omega) wr (HX.out.ext HBw.out)).mono ?_
          rintro e w2 ⟨z, rfl, hz0, hz1, hz2, hb2⟩
          have HB2 := Lib.hid (ext_trans HBw.out hb2)
          have HZ := Lib.hid hz2
          clear hb2 hz2))
        all_goals
         go_ret
         first
          | exact ⟨_, rfl, HBw.out, fun h => by first | cases h | (simp at h; done) | (simp at h; omega)⟩
          | exact ⟨_, rfl, HB2.out, fun h => ⟨by omega, by have := HTOT.out; omega, HZ.out (by first | (simp at h; done) | (simp at h; omega))⟩⟩
      · by_cases q2 : bn ≤ 200
        · have e1 : (30 : Int) < (bn : Int) := by omega
          have e2 : (bn : Int) ≤ 200 := by omega
          go_wp2_with (
           (go_at_call 30
            refine (funcOf_any pa pn pc hpn ba bn bc bs 2000 (by omega) (by omega) wr (HX.out.ext HBw.out)).mono ?_
            rintro e w2 ⟨z, rfl, hz0, hz1, hz2, hb2⟩
            have HB2 := Lib.hid (ext_trans HBw.out hb2)
            have HZ := Lib.hid hz2
            clear hb2 hz2))
          all_goals
           go_ret
           first
            | exact ⟨_, rfl, HBw.out, fun h => by first | cases h | (simp at h; done) | (simp at h; omega)⟩
            | exact ⟨_, rfl, HB2.out, fun h => ⟨by omega, by have := HTOT.out; omega, HZ.out (by first | (simp at h; done) | (simp at h; omega))⟩⟩
        · have e1 : (30 : Int) < (bn : Int) := by omega
          have e2 : (200 : Int) < (bn : Int) := by omega
          go_wp2_with (
           (go_at_call 30
            refine (funcOf_any pa pn pc hpn ba bn bc bs 2000 (by omega) (by omega) wr (HX.out.ext HBw.out)).mono ?_
            rintro e w2 ⟨z, rfl, hz0, hz1, hz2, hb2⟩
            have HB2 := Lib.hid (ext_trans HBw.out hb2)
            have HZ := Lib.hid hz2
            clear hb2 hz2))
          all_goals
           go_ret
           first
            | exact ⟨_, rfl, HBw.out, fun h => by first | cases h | (simp at h; done) | (simp at h; omega)⟩
            | exact ⟨_, rfl, HB2.out, fun h => ⟨by omega, by have := HTOT.out; omega, HZ.out (by first | (simp at h; done) | (simp at h; omega))⟩⟩
    · have hd2 : (90 : Int) < (acc : Int) := by omega
      clear hacc
      by_cases q1 : bn ≤ 30
      · have e1 : (bn : Int) ≤ 30 := by omega
        go_wp2_with (
         (go_at_call 30
          refine (funcOf_any pa pn pc hpn ba bn bc bs 2000 (by omega) (by omega) wr (HX.out.ext HBw.out)).mono ?_
          rintro e w2 ⟨z, rfl, hz0, hz1, hz2, hb2⟩
          have HB2 := Lib.hid (ext_trans HBw.out hb2)
          have HZ := Lib.hid hz2
          clear hb2 hz2))
        all_goals
         go_ret
         first
          | exact ⟨_, rfl, HBw.out, fun h => by first | cases h | (simp at h; done) | (simp at h; omega)⟩
          | exact ⟨_, rfl, HB2.out, fun h => by first | cases h | (simp at h; done) | (simp at h; omega)⟩
      · by_cases q2 : bn ≤ 200
        · have e1 : (30 : Int) < (bn : Int) := by omega
          have e2 : (bn : Int) ≤ 200 := by omega
          go_wp2_with (
           (go_at_call 30
            refine (funcOf_any pa pn pc hpn ba bn bc bs 2000 (by omega) (by omega) wr (HX.out.ext HBw.out)).mono ?_
            rintro e w2 ⟨z, rfl, hz0, hz1, hz2, hb2⟩
            have HB2 := Lib.hid (ext_trans HBw.out hb2)
            have HZ := Lib.hid hz2
            clear hb2 hz2))
          all_goals
           go_ret
           first
            | exact ⟨_, rfl, HBw.out, fun h => by first | cases h | (simp at h; done) | (simp at h; omega)⟩
            | exact ⟨_, rfl, HB2.out, fun h => by first | cases h | (simp at h; done) | (simp at h; omega)⟩
        · have e1 : (30 : Int) < (bn : Int) := by omega
          have e2 : (200 : Int) < (bn : Int) := by omega
          go_wp2_with (
           (go_at_call 30
            refine (funcOf_any pa pn pc hpn ba bn bc bs 2000 (by omega) (by omega) wr (HX.out.ext HBw.out)).mono ?_
            rintro e w2 ⟨z, rfl, hz0, hz1, hz2, hb2⟩
            have HB2 := Lib.hid (ext_trans HBw.out hb2)
            have HZ := Lib.hid hz2
            clear hb2 hz2))
          all_goals
           go_ret
           first
            | exact ⟨_, rfl, HBw.out, fun h => by first | cases h | (simp at h; done) | (simp at h; omega)⟩
            | exact ⟨_, rfl, HB2.out, fun h => by first | cases h | (simp at h; done) | (simp at h; omega)⟩
end
end Go.Proofs.Ytblhmdhfhaencaa
