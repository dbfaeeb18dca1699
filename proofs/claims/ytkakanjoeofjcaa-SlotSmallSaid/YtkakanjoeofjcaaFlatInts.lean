/-
  The walk of intarsiakit.flatInts: rows of ints that lie apart.
-/
import Derived.Test.YtkakanjoeofjcaaFlatRel
import Derived.Test.YtkakanjoeofjcaaWalkB
import Derived.Test.YtkakanjoeofjcaaWalkC
import Derived.Test.YtkakanjoeofjcaaKept
import Derived.StillTailTactics
namespace Go.Proofs.Ytkakanjoeofjcaa
open Go.RowKit

def mkI (k i : Nat) : List Value := [.int .i64 (markV (k : Int) (i : Int))]
theorem mkI_len (k i : Nat) : (mkI k i).length = 1 := rfl
abbrev FAI := FA 3 22 1 mkI
abbrev FBI := FB 3 22 1 mkI
abbrev FBiI := FBi 3 22 1 mkI
abbrev FDI := FD 3 22 1 mkI
abbrev FDiI := FDi 3 22 1 mkI
theorem row_slice {W : World} {base : Nat} {e : TypeId} {size : Nat} {v : Value} {k : Nat} {xs : List Value} (h : W.ownsRow base e size v k xs) : ∃ a c, v = .slice a k c := by
  rcases h.2 with ⟨rfl, rfl⟩ | ⟨g, cap, cur, rfl, _⟩
  · exact ⟨none, 0, rfl⟩
  · exact ⟨_, _, rfl⟩
theorem mark_still (k i : Int) (w : World) (hk : 0 ≤ k ∧ k ≤ 1000000000) (hi : 0 ≤ i ∧ i ≤ 100000000000000) :
    Calls Try.prog 20 #[.int .i64 k, .int .i64 i] w fun e w' => e = .returned (.int .i64 (markV k i)) ∧ w' = w :=
  (mark_any k i w hk hi).mono fun _ _ ⟨h1, h2⟩ => ⟨h1, h2.symm⟩
theorem info_ints : (Try.prog.info? 22).map (fun i => (i.zero, i.size, i.bytes)) = some (some (.slice none 0 0), 1, 24) := by kernel_rfl

set_option maxRecDepth 100000 in
set_option maxHeartbeats 4000000 in
theorem flatInts_any (a : Option Addr) (K c base : Nat) (rv : Nat → Value) (L : Nat → Nat) (w : World) (h : FIn 3 22 1 base K (.slice a K c) rv L w) (hK : K ≤ 1000000) (hL : ∀ j, j < K → L j ≤ 1000000) (hbase : base ≤ w.heap.size) :
    Calls Try.prog 35 #[.slice a K c] w fun e w' => e = .returned (.bool true) ∧ Chg (SB K rv) w w' := by
  have HS := Lib.hid h.sep
  have HL := Lib.hid hL
  have HF0 : Hid (FAI base K (.slice a K c) rv L w 0 0 w) := h.start
  clear h hL
  go_enter Try.func35, Try.ntmps35
  go_wp2
  go_loopw [3, 4] (fun kk ii wr => ∃ (k : Nat), k ≤ K ∧ kk = .int .i64 k ∧ Hid (FAI base K (.slice a K c) rv L w k 0 wr)) (fun kk _ _ => K - (intOf kk).toNat)
  case atStart => exact ⟨0, by omega, rfl, HF0⟩
  case round =>
    obtain ⟨k, hk, rfl, HF⟩ := hrel
    by_cases hlt : k < K
    · obtain ⟨O, cO, e0, hO⟩ := HF.out.outs hlt
      obtain ⟨ar, cr, e1, hc1, hc2⟩ := HF.out.row hlt
      simp only [Value.slice.injEq, true_and] at e0
      obtain ⟨rfl, rfl⟩ := e0
      rw [e1] at hO
      have hLk := HL.out k hlt
      have HE1 := Lib.hid e1
      clear e1
      unfold maxLen at hc2
      go_wp2
      go_loopw [4] (fun ii wr => ∃ (i : Nat), i ≤ L k ∧ ii = .int .i64 i ∧ Hid (FAI base K (.slice (some ⟨O, 0, none⟩) K c) rv L w k i wr)) (fun ii _ => L k - (intOf ii).toNat)
      case atStart => exact ⟨0, by omega, rfl, HF⟩
      case round =>
        clear HF hO
        obtain ⟨i, hi, rfl, HF⟩ := hrel
        obtain ⟨O', cO', e0, hO⟩ := HF.out.outs hlt
        simp only [Value.slice.injEq, true_and, Option.some.injEq, Addr.mk.injEq, and_true] at e0
        obtain ⟨rfl, rfl⟩ := e0
        rw [HE1.out] at hO
        by_cases hlt2 : i < L k
        · obtain ⟨b, cap, e1, hcp1, hcp2, ⟨u, hcell⟩, hfz, hbl⟩ := HF.out.cell hlt hlt2
          have HE2 := Lib.hid e1
          rw [HE1.out] at e1
          simp only [Value.slice.injEq, true_and] at e1
          obtain ⟨rfl, rfl⟩ := e1
          go_wp2
          refine wp_region_still_tail 9 (by kernel_rfl) (by kernel_rfl) ?_
          simp only [List.take_succ_cons, List.take_zero, List.drop_succ_cons, List.drop_zero]
          repeat (first | still_step | still_call (mark_still _ _ _ ⟨by omega, by omega⟩ ⟨by omega, by omega⟩))
          refine wpStill_nil ?_
          change wpList _ _ _ _ _ wr.drew
          go_wp2
          go_roundw
          case rel => exact ⟨i + 1, by omega, by go_num, (HF.out.drewN 1).store (by decide) HS.out hlt hlt2 HE2.out _ rfl⟩
          case measure => simp [intOf]; omega
        · obtain rfl : i = L k := by omega
          go_wp2
          go_roundw
          case rel => exact ⟨k + 1, by omega, by go_num, HF.out.next⟩
          case measure => simp [intOf]; omega
    · obtain rfl : k = K := by omega
      obtain ⟨i0, hi, hz0, hz1, hz2⟩ := info_parts (P := Try.prog) info_ints
      go_wp2_with (first
        | (at_make
           refine wpList_make_full wr rfl _ _ 43 rfl base 22 i0 (.slice none 0 0) 1 Try.underlying43 hi hz0 hz1 .i64 .i64 _ _ k rfl rfl rfl rfl (by rw [hz2]; omega) (by simp only [maxLen]; omega) (by have := HF.out.chg.size; omega) ?_
           intro w3 hown3 hg3
           have HB0 := Lib.hid (HF.out.made hg3 (by
             have e : (madeCells (Value.slice none 0 0).cells (k * 1)).toList = List.replicate k (.slice none 0 0) := by
               have : (Value.slice none 0 0).cells = #[.slice none 0 0] := rfl
               rw [this, toList_madeCells_one, Nat.mul_one]
             rw [e] at hown3
             exact hown3))
           clear hown3 hg3))
      clear hi hz0 hz1 hz2
      generalize wr.heap.size = G at *
      clear HF HF0
      go_loopw [6, 7, 8] (fun kk gg ii wr => ∃ (j : Nat) (gv : Nat → Value), j ≤ k ∧ kk = .int .i64 j ∧ Hid (FBI base k (.slice a k c) rv L w G j gv wr)) (fun kk _ _ _ => k - (intOf kk).toNat)
      case atStart => exact ⟨0, _, by omega, rfl, HB0⟩
      case round =>
        clear HB0
        obtain ⟨j, gv, hj, rfl, HF⟩ := hrel
        by_cases hlt2 : j < k
        · obtain ⟨O, cO, e0, hO, hG, hfz⟩ := HF.out.outs hlt2
          obtain ⟨ar, cr, e1, hc1, hc2⟩ := HF.out.row hlt2
          simp only [Value.slice.injEq, true_and] at e0
          obtain ⟨rfl, rfl⟩ := e0
          rw [e1] at hO
          have hLk := HL.out j hlt2
          have HI0 := Lib.hid (HF.out.start HS.out hlt2)
          rw [e1] at HI0
          have HE1 := Lib.hid e1
          clear e1
          unfold maxLen at hc2
          go_wp2
          go_loopw [7, 8] (fun gg ii wr => ∃ (i : Nat), i ≤ 64 ∧ ii = .int .i64 i ∧ Hid (FBiI base k (.slice (some ⟨O, 0, none⟩) k c) rv L w G j i gv gg wr)) (fun _ ii _ => 64 - (intOf ii).toNat)
          case atStart => exact ⟨0, by omega, rfl, HI0⟩
          case round =>
            clear HI0 HF hO hG hfz
            obtain ⟨i, hi, rfl, HI⟩ := hrel
            obtain ⟨O', cO', e0, hO, hG, hfz⟩ := HI.out.fb.outs hlt2
            simp only [Value.slice.injEq, true_and, Option.some.injEq, Addr.mk.injEq, and_true] at e0
            obtain ⟨rfl, rfl⟩ := e0
            rw [HE1.out] at hO
            by_cases hlt3 : i < 64
            · go_wp2_with (first
                | (go_at_call 20; refine (mark_any _ _ _ (by omega) (by omega)).mono ?_; rintro e w' ⟨rfl, rfl⟩)
                | (at_builtin
                   refine wpList_append1K rfl wr (.tmp 57) (.tmp 67) 22 3 rfl base _ 1 8 Try.underlying22 info_int rfl (by omega) u7 (L j + i) _ [.int .i64 (markV (j : Int) ((L j : Int) + (i : Int)))] rfl HI.out.row wr.heap.size rfl rfl rfl (by simp [Value.oneCell']) (by simp only [maxLen]; omega) (by omega) (by have := HI.out.fb.chg.size; omega) ?_
                   intro g cap w2 hown2 hg2 hat2 hkeep2
                   have HI2 : Hid (FBiI base k (.slice (some ⟨O, 0, none⟩) k c) rv L w G j (i + 1) gv (.slice (some ⟨g, 0, none⟩) (L j + i + 1) cap) w2) := HI.out.step (by decide) hlt2 hown2 hg2 rfl hat2 (by omega) hkeep2
                   clear hown2 hat2 hg2 hkeep2))
              go_roundw
              case rel => exact ⟨i + 1, by omega, by go_num, HI2⟩
              case measure => simp [intOf]; omega
            · obtain rfl : i = 64 := by omega
              obtain ⟨ag, cg, eg⟩ := row_slice HI.out.row
              subst eg
              go_wp2
              go_roundw
              case rel => exact ⟨j + 1, _, by omega, by go_num, HI.out.fin (by decide) hlt2⟩
              case measure => simp [intOf]; omega
        · obtain rfl : j = k := by omega
          clear hj hk hlt hlt2
          go_wp2
          go_loopw [9, 10] (fun kk ii wz => ∃ (k q : Nat), k ≤ j ∧ kk = .int .i64 k ∧ wz = wr.drewN q) (fun kk _ _ => j - (intOf kk).toNat)
          case atStart => exact ⟨0, 0, by omega, rfl, rfl⟩
          case round =>
            obtain ⟨k, q, hk, rfl, rfl⟩ := hrel
            by_cases hlt : k < j
            · obtain ⟨O, cO, e0, hO, hG, hfz⟩ := HF.out.outs hlt
              obtain ⟨ar, cr, e1, hc1, hc2⟩ := HF.out.row hlt
              simp only [Value.slice.injEq, true_and] at e0
              obtain ⟨rfl, rfl⟩ := e0
              rw [if_pos hlt] at hG
              rw [e1] at hO
              obtain ⟨ag, cg, eg⟩ := row_slice (HF.out.grow k hlt)
              rw [eg] at hG
              have HE1 := Lib.hid e1
              have HEG := Lib.hid eg
              clear e1 eg
              have hLk := HL.out k hlt
              unfold maxLen at hc2
              go_wp2
              go_loopw [10] (fun ii wz => ∃ (i q : Nat), i ≤ L k + 64 ∧ ii = .int .i64 i ∧ wz = wr.drewN q) (fun ii _ => L k + 64 - (intOf ii).toNat)
              case atStart => exact ⟨0, q, by omega, rfl, rfl⟩
              case round =>
                obtain ⟨i, q2, hi, rfl, rfl⟩ := hrel
                by_cases hlt2 : i < L k + 64
                · obtain ⟨bg, cg', e2, hcg⟩ := row_cell (HF.out.grow k hlt) hlt2 (u := .int .i64 (markV (k : Int) (i : Int))) (by rw [mrow_at mkI mkI_len _ _ _ hlt2]; rfl)
                  rw [HEG.out] at e2
                  simp only [Value.slice.injEq, true_and] at e2
                  obtain ⟨rfl, rfl⟩ := e2
                  by_cases hlt3 : i < L k
                  · obtain ⟨br, cr', e3, hcr⟩ := row_cell (HF.out.rows k hlt) hlt3 (u := .int .i64 (markV (k : Int) (i : Int))) (by rw [mrow_at mkI mkI_len _ _ _ hlt3]; rfl)
                    rw [HE1.out] at e3
                    simp only [Value.slice.injEq, true_and] at e3
                    obtain ⟨rfl, rfl⟩ := e3
                    have d1 : decide (i < L k) = true := by simpa using hlt3
                    go_wp2
                    go_quiet ((go_at_call 20; exact quiet_add_left (mark_any _ _ _ ⟨by omega, by omega⟩ ⟨by omega, by omega⟩)))
                    go_wp2
                    go_roundw
                    case rel => exact ⟨i + 1, _, by omega, by go_num, rfl⟩
                    case measure => simp [intOf]; omega
                  · have d1 : decide (i < L k) = false := by simpa using hlt3
                    go_wp2
                    go_quiet ((go_at_call 20; exact quiet_add_left (mark_any _ _ _ ⟨by omega, by omega⟩ ⟨by omega, by omega⟩)))
                    go_wp2
                    go_roundw
                    case rel => exact ⟨i + 1, _, by omega, by go_num, rfl⟩
                    case measure => simp [intOf]; omega
                · obtain rfl : i = L k + 64 := by omega
                  go_wp2
                  go_roundw
                  case rel => exact ⟨k + 1, _, by omega, by go_num, rfl⟩
                  case measure => simp [intOf]; omega
            · obtain rfl : k = j := by omega
              have HD0 := Lib.hid (HF.out.toD.drewN q)
              clear HF hk hlt
              obtain ⟨i0, hi, hz0, hz1, hz2⟩ := info_parts (P := Try.prog) info_int
              go_wp2
              go_loopw [11, 12, 13] (fun kk mm ii wz => ∃ (j : Nat) (gl : Nat → Value), j ≤ k ∧ kk = .int .i64 j ∧ Hid (FDI base k (.slice a k c) rv L w G j gl wz)) (fun kk _ _ _ => k - (intOf kk).toNat)
              case atStart => exact ⟨0, _, by omega, rfl, HD0⟩
              case round =>
                clear HD0
                obtain ⟨j, gl, hj, rfl, HD⟩ := hrel
                by_cases hlt : j < k
                · have hLk := HL.out j hlt
                  go_wp2_with (first
                    | (at_make
                       refine wpList_make_full wr rfl _ _ 22 rfl base 3 i0 (.int .i64 0) 1 Try.underlying22 hi hz0 hz1 .i64 .i64 _ _ 64 rfl rfl rfl rfl (by rw [hz2]; omega) (by simp only [maxLen]; omega) (by have := HD.out.chg.size; omega) ?_
                       intro w3 hown3 hg3
                       have HM0 := Lib.hid (HD.out.made hg3 hown3 (by
                         have e : (madeCells (Value.int .i64 0).cells (64 * 1)).toList = List.replicate 64 (.int .i64 0) := by
                           have : (Value.int .i64 0).cells = #[.int .i64 0] := rfl
                           rw [this, toList_madeCells_one, Nat.mul_one]
                         rw [e]
                         intro u hu
                         rw [List.eq_of_mem_replicate hu]
                         rfl) (by omega))
                       clear hown3 hg3))
                  generalize wr.heap.size = M at *
                  go_loopw [13] (fun ii wz => ∃ (i : Nat), i ≤ 64 ∧ ii = .int .i64 i ∧ Hid (FDiI base k (.slice a k c) rv L w G j gl M wz)) (fun ii _ => 64 - (intOf ii).toNat)
                  case atStart => exact ⟨0, by omega, rfl, HM0⟩
                  case round =>
                    clear HM0 HD
                    obtain ⟨i, hi2, rfl, HM⟩ := hrel
                    by_cases hlt2 : i < 64
                    · obtain ⟨Y, hY, hY1⟩ := HM.out.many
                      have hcell := World.ownsRow.cellAt hY i (by omega)
                      have hlen := hY.1
                      rw [List.getElem?_eq_getElem (by omega)] at hcell
                      have hfz := World.ownsRow.frozenAt hY i
                      clear hY hY1
                      go_wp2_with (first
                        | (go_at_call 20; refine (mark_any _ _ _ (by omega) (by omega)).mono ?_; rintro e w' ⟨rfl, rfl⟩))
                      go_roundw
                      case rel => exact ⟨i + 1, by omega, by go_num, HM.out.set_ (by decide) i _ rfl⟩
                      case measure => simp [intOf]; omega
                    · obtain ⟨O, cO, e0, hO, hG, hfz, _, _⟩ := HM.out.fd.outs hlt
                      obtain ⟨ar, cr, e1, hc1, hc2⟩ := HM.out.fd.row hlt
                      simp only [Value.slice.injEq, true_and] at e0
                      obtain ⟨rfl, rfl⟩ := e0
                      rw [e1] at hO
                      have hrow := HM.out.fd.rows j hlt
                      rw [e1] at hrow
                      have HROW := Lib.hid hrow
                      have HE1 := Lib.hid e1
                      clear e1 hrow
                      obtain ⟨Y, hY, hY1⟩ := HM.out.many
                      have HY := Lib.hid hY
                      have HY1 := Lib.hid hY1
                      clear hY hY1
                      unfold maxLen at hc2
                      go_wp2_with (first
                        | (at_builtin
                           refine wpList_appendK rfl wr (.tmp 148) (.tmp 149) 22 3 rfl base (.int .i64 0) 1 8 Try.underlying22 info_int rfl (by omega) (.slice ar (L j) cr) (L j) _ rfl HROW.out M 64 64 Y rfl HY.out HY1.out (by simp only [maxLen]; omega) (by omega) (by have := HM.out.fd.chg.size; omega) ?_
                           intro v2 w2 hown2 hg2 hat2 hkeep2
                           obtain ⟨a2, c2, e2⟩ := row_slice hown2
                           subst e2
                           have hG2 : w2.ownsRow base 22 1 (.slice (some ⟨G, 0, none⟩) k k) k ((List.range k).map gl) := HM.out.fd.gs.kept hg2 (.inr (fun e => rows_ne HM.out.fd.gs HROW.out (by decide) G rfl e.symm))
                           have hG3 := World.ownsRow.cellAt hG2 j (by omega)
                           have hG4 := World.ownsRow.frozenAt hG2 j
                           have hlen : ((List.range k).map gl).length = k := by simp
                           rw [List.getElem?_eq_getElem (by omega)] at hG3
                           obtain ⟨ug, hug⟩ : ∃ u, w2.cell? ⟨G, j, none⟩ = some u := ⟨_, hG3⟩
                           clear hG3
                           have HD2 : Hid (FDI base k (.slice (some ⟨O, 0, none⟩) k c) rv L w G (j + 1) (fun i => if i = j then (.slice a2 (L j + 64) c2) else gl i) (w2.setCell ⟨G, j, none⟩ (.slice a2 (L j + 64) c2))) := by
                             have e := HE1.out
                             refine HM.out.fin (by decide) HS.out hlt hown2 (by rw [e]; exact hg2) (by rw [e]; exact hat2) (by rw [e]; exact hkeep2)
                           clear hown2 hg2 hat2 hkeep2 hG2 hlen))
                      go_roundw
                      case rel => exact ⟨j + 1, _, by omega, by go_num, HD2⟩
                      case measure => simp [intOf]; omega
                · obtain rfl : j = k := by omega
                  clear hj hlt
                  go_wp2
                  go_loopw [14, 15] (fun kk ii wz => ∃ (k q : Nat), k ≤ j ∧ kk = .int .i64 k ∧ wz = wr.drewN q) (fun kk _ _ => j - (intOf kk).toNat)
                  case atStart => exact ⟨0, 0, by omega, rfl, rfl⟩
                  case round =>
                    obtain ⟨k, q3, hk, rfl, rfl⟩ := hrel
                    by_cases hlt : k < j
                    · obtain ⟨O, cO, e0, hO, hG, hfz, _, _⟩ := HD.out.outs hlt
                      obtain ⟨ar, cr, e1, hc1, hc2⟩ := HD.out.row hlt
                      simp only [Value.slice.injEq, true_and] at e0
                      obtain ⟨rfl, rfl⟩ := e0
                      rw [e1] at hO
                      obtain ⟨Z, hZ⟩ := HD.out.grow k hlt
                      have HZ := Lib.hid hZ
                      obtain ⟨ag, cg, eg⟩ := row_slice hZ
                      rw [eg] at hG
                      have HE1 := Lib.hid e1
                      have HEG := Lib.hid eg
                      clear e1 eg hZ
                      have hLk := HL.out k hlt
                      unfold maxLen at hc2
                      go_wp2
                      go_loopw [15] (fun ii wz => ∃ (i q : Nat), i ≤ L k ∧ ii = .int .i64 i ∧ wz = wr.drewN q) (fun ii _ => L k - (intOf ii).toNat)
                      case atStart => exact ⟨0, q3, by omega, rfl, rfl⟩
                      case round =>
                        obtain ⟨i, q2, hi2, rfl, rfl⟩ := hrel
                        by_cases hlt3 : i < L k
                        · obtain ⟨bg, cg', e2, hcg⟩ := row_cell HZ.out (show i < L k + 64 by omega) (u := .int .i64 (markV (k : Int) (i : Int))) (by rw [List.getElem?_append_left (by rw [mrow_len mkI 1 mkI_len]; omega), mrow_at mkI mkI_len _ _ _ hlt3]; rfl)
                          rw [HEG.out] at e2
                          simp only [Value.slice.injEq, true_and] at e2
                          obtain ⟨rfl, rfl⟩ := e2
                          obtain ⟨br, cr', e3, hcr⟩ := row_cell (HD.out.rows k hlt) hlt3 (u := .int .i64 (markV (k : Int) (i : Int))) (by rw [mrow_at mkI mkI_len _ _ _ hlt3]; rfl)
                          rw [HE1.out] at e3
                          simp only [Value.slice.injEq, true_and] at e3
                          obtain ⟨rfl, rfl⟩ := e3
                          go_wp2
                          go_quiet ((go_at_call 20; exact quiet_add_left (mark_any _ _ _ ⟨by omega, by omega⟩ ⟨by omega, by omega⟩)))
                          go_wp2
                          go_roundw
                          case rel => exact ⟨i + 1, _, by omega, by go_num, rfl⟩
                          case measure => simp [intOf]; omega
                        · obtain rfl : i = L k := by omega
                          go_wp2
                          go_roundw
                          case rel => exact ⟨k + 1, _, by omega, by go_num, rfl⟩
                          case measure => simp [intOf]; omega
                    · go_wp2
                      go_ret
                      exact ⟨rfl, HD.out.chg.drewN _⟩
end Go.Proofs.Ytkakanjoeofjcaa
