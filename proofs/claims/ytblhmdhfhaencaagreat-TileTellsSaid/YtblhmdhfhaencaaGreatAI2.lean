/-
  The walk of intarsiakit.flatInts: rows of ints that lie apart.
-/
import Derived.Test.YtblhmdhfhaencaaGreatFlatRel
import Derived.Test.YtblhmdhfhaencaaGreatMark
import Derived.Test.YtblhmdhfhaencaaGreatLB
import Derived.StillTailTactics
import Derived.Deep.Onto
namespace Go.Proofs.YtblhmdhfhaencaaGreat
set_option linter.unusedSimpArgs false
set_option linter.unusedVariables false
set_option linter.unusedSectionVars false
set_option maxRecDepth 100000
set_option maxHeartbeats 40000000
section
open Go.RowKit
theorem infoZ1 : (Tryz.prog.info? 3).map (fun i => (i.zero, i.size, i.bytes)) = some (some (.int .i64 0), 1, 8) := by kernel_rfl
def mkI (k i : Nat) : List Value := [.int .i64 (markV (k : Int) (i : Int))]
theorem mkI_len (k i : Nat) : (mkI k i).length = 1 := rfl
abbrev FAI := FA 3 22 1 mkI
abbrev FBI := FB 3 22 1 mkI
abbrev FBiI := FBi 3 22 1 mkI
abbrev FDI := FD 3 22 1 mkI
abbrev FDiI := FDi 3 22 1 mkI
theorem row_slice {W : World} {base : Nat} {e : TypeId} {size : Nat} {v : Value} {k : Nat} {xs : List Value} (h : W.ownsRow base e size v k xs) : ∃ a c, v = .slice a k c := by
  rcases h.2 with ⟨rfl, rfl⟩ | ⟨g, cap, cur, rfl, _⟩
  · exact ⟨none, 0, rfl⟩
  · exact ⟨_, _, rfl⟩
theorem mark_still (k i : Int) (w : World) (hk : 0 ≤ k ∧ k ≤ 1000000000) (hi : 0 ≤ i ∧ i ≤ 100000000000000) :
    Calls Tryz.prog 112 #[.int .i64 k, .int .i64 i] w fun e w' => e = .returned (.int .i64 (markV k i)) ∧ w' = w :=
  (mark_any k i w hk hi).mono fun _ _ ⟨h1, h2⟩ => ⟨h1, h2.symm⟩
theorem infoZs : (Tryz.prog.info? 22).map (fun i => (i.zero, i.size, i.bytes)) = some (some (.slice none 0 0), 1, 24) := by kernel_rfl
theorem flatInts_any (a : Option Addr) (K c base : Nat) (rv : Nat → Value) (L : Nat → Nat) (w : World) (h : FIn 3 22 1 base K (.slice a K c) rv L w) (hK : K ≤ 1000000) (hL : ∀ j, j < K → L j ≤ 1000000) (hbase : base ≤ w.heap.size) :
    Calls Tryz.prog 143 #[.slice a K c] w fun e w' => e = .returned (.bool true) ∧ Chg (SB K rv) w w' := by
  have HS := Lib.hid h.sep
  have HL := Lib.hid hL
  have HF0 : Hid (FAI base K (.slice a K c) rv L w 0 0 w) := h.start
  clear h hL
  go_enter Tryz.func143, Tryz.ntmps143
  go_wp2
  go_loopw [3, 4] (fun kk ii wr => ∃ (k : Nat), k ≤ K ∧ kk = .int .i64 k ∧ Hid (FAI base K (.slice a K c) rv L w k 0 wr)) (fun kk _ _ => K - (intOf kk).toNat)
  case atStart => exact ⟨0, by omega, rfl, HF0⟩
  case round =>
    obtain ⟨k, hk, rfl, HF⟩ := hrel
    by_cases hlt : k < K
    · obtain ⟨O, cO, e0, hO⟩ := HF.out.outs hlt
      obtain ⟨ar, cr, e1, hc1, hc2⟩ := HF.out.row hlt
      simp only [Value.slice.injEq, true_and] at e0
      obtain ⟨rfl, rfl⟩ := e0
      rw [e1] at hO
      have hLk := HL.out k hlt
      have HE1 := Lib.hid e1
      clear e1
      unfold maxLen at hc2
      go_wp2
      go_loopw [4] (fun ii wr => ∃ (i : Nat), i ≤ L k ∧ ii = .int .i64 i ∧ Hid (FAI base K (.slice (some ⟨O, 0, none⟩) K c) rv L w k i wr)) (fun ii _ => L k - (intOf ii).toNat)
      case atStart => exact ⟨0, by omega, rfl, HF⟩
      case round =>
        clear HF hO
        obtain ⟨i, hi, rfl, HF⟩ := hrel
        obtain ⟨O', cO', e0, hO⟩ := HF.out.outs hlt
        simp only [Value.slice.injEq, true_and, Option.some.injEq, Addr.mk.injEq, and_true] at e0
        obtain ⟨rfl, rfl⟩ := e0
        rw [HE1.out] at hO
        by_cases hlt2 : i < L k
        · obtain ⟨b, cap, e1, hcp1, hcp2, ⟨u, hcell⟩, hfz, hbl⟩ := HF.out.cell hlt hlt2
          have HE2 := Lib.hid e1
          rw [HE1.out] at e1
          simp only [Value.slice.injEq, true_and] at e1
          obtain ⟨rfl, rfl⟩ := e1
          go_wp2
          refine wp_region_still_tail 9 (by kernel_rfl) (by kernel_rfl) ?_
          simp only [List.take_succ_cons, List.take_zero, List.drop_succ_cons, List.drop_zero]
          repeat (first | still_step | still_call (mark_still _ _ _ ⟨by omega, by omega⟩ ⟨by omega, by omega⟩))
          refine wpStill_nil ?_
          change wpList _ _ _ _ _ wr.drew
          go_wp2
          go_roundw
          case rel => exact ⟨i + 1, by omega, by go_num, (HF.out.drewN 1).store (by decide) HS.out hlt hlt2 HE2.out _ rfl⟩
          case measure => simp [intOf]; omega
        · obtain rfl : i = L k := by omega
          go_wp2
          go_roundw
          case rel => exact ⟨k + 1, by omega, by go_num, HF.out.next⟩
          case measure => simp [intOf]; omega
    · obtain rfl : k = K := by omega
      obtain ⟨i0, hi, hz0, hz1, hz2⟩ := info_parts (P := Tryz.prog) infoZs
      go_wp2_with (first
        | (at_make
           refine wpList_make_full wr rfl _ _ 53 rfl base 22 i0 (.slice none 0 0) 1 Tryz.underlying53 hi hz0 hz1 .i64 .i64 _ _ k rfl rfl rfl rfl (by rw [hz2]; omega) (by simp only [maxLen]; omega) (by have := HF.out.chg.size; omega) ?_
           intro w3 hown3 hg3
           have HB0 := Lib.hid (HF.out.made hg3 (by
             have e : (madeCells (Value.slice none 0 0).cells (k * 1)).toList = List.replicate k (.slice none 0 0) := by
               have : (Value.slice none 0 0).cells = #[.slice none 0 0] := rfl
               rw [this, toList_madeCells_one, Nat.mul_one]
             rw [e] at hown3
             exact hown3))
           clear hown3 hg3))
      clear hi hz0 hz1 hz2
      generalize wr.heap.size = G at *
      clear HF HF0
      go_loopw [6, 7, 8] (fun kk gg ii wr => ∃ (j : Nat) (gv : Nat → Value), j ≤ k ∧ kk = .int .i64 j ∧ Hid (FBI base k (.slice a k c) rv L w G j gv wr)) (fun kk _ _ _ => k - (intOf kk).toNat)
      case atStart => exact ⟨0, _, by omega, rfl, HB0⟩
      case round =>
        clear HB0
        obtain ⟨j, gv, hj, rfl, HF⟩ := hrel
        by_cases hlt2 : j < k
        · obtain ⟨O, cO, e0, hO, hG, hfz⟩ := HF.out.outs hlt2
          obtain ⟨ar, cr, e1, hc1, hc2⟩ := HF.out.row hlt2
          simp only [Value.slice.injEq, true_and] at e0
          obtain ⟨rfl, rfl⟩ := e0
          rw [e1] at hO
          have hLk := HL.out j hlt2
          have HI0 := Lib.hid (HF.out.start HS.out hlt2)
          rw [e1] at HI0
          have HE1 := Lib.hid e1
          clear e1
          unfold maxLen at hc2
          go_wp2
          go_loopw [7, 8] (fun gg ii wr => ∃ (i : Nat), i ≤ 64 ∧ ii = .int .i64 i ∧ Hid (FBiI base k (.slice (some ⟨O, 0, none⟩) k c) rv L w G j i gv gg wr)) (fun _ ii _ => 64 - (intOf ii).toNat)
          case atStart => exact ⟨0, by omega, rfl, HI0⟩
          case round =>
            clear HI0 HF hO hG hfz
            obtain ⟨i, hi, rfl, HI⟩ := hrel
            obtain ⟨O', cO', e0, hO, hG, hfz⟩ := HI.out.fb.outs hlt2
            simp only [Value.slice.injEq, true_and, Option.some.injEq, Addr.mk.injEq, and_true] at e0
            obtain ⟨rfl, rfl⟩ := e0
            rw [HE1.out] at hO
            by_cases hlt3 : i < 64
            · go_wp2_with (first
                | (go_at_call 112; refine (mark_any _ _ _ (by omega) (by omega)).mono ?_; rintro e w' ⟨rfl, rfl⟩)
                | (at_builtin
                   refine wpList_append1K rfl wr (.tmp 57) (.tmp 67) 22 3 rfl base _ 1 8 Tryz.underlying22 infoZ1 rfl (by omega) u7 (L j + i) _ [.int .i64 (markV (j : Int) ((L j : Int) + (i : Int)))] rfl HI.out.row wr.heap.size rfl rfl rfl (by simp [Value.oneCell']) (by simp only [maxLen]; omega) (by omega) (by have := HI.out.fb.chg.size; omega) ?_
                   intro g cap w2 hown2 hg2 hat2 hkeep2
                   have HI2 : Hid (FBiI base k (.slice (some ⟨O, 0, none⟩) k c) rv L w G j (i + 1) gv (.slice (some ⟨g, 0, none⟩) (L j + i + 1) cap) w2) := HI.out.step (by decide) hlt2 hown2 hg2 rfl hat2 (by omega) hkeep2
                   clear hown2 hat2 hg2 hkeep2))
              go_roundw
              case rel => exact ⟨i + 1, by omega, by go_num, HI2⟩
              case measure => simp [intOf]; omega
            · obtain rfl : i = 64 := by omega
              obtain ⟨ag, cg, eg⟩ := row_slice HI.out.row
              subst eg
              go_wp2
              go_roundw
              case rel => exact ⟨j + 1, _, by omega, by go_num, HI.out.fin (by decide) hlt2⟩
              case measure => simp [intOf]; omega
        · obtain rfl : j = k := by omega
          clear hj hk hlt hlt2
          go_wp2
          go_loopw [9, 10] (fun kk ii wz => ∃ (k q : Nat), k ≤ j ∧ kk = .int .i64 k ∧ wz = wr.drewN q) (fun kk _ _ => j - (intOf kk).toNat)
          case atStart => exact ⟨0, 0, by omega, rfl, rfl⟩
          case round =>
            obtain ⟨k, q, hk, rfl, rfl⟩ := hrel
            by_cases hlt : k < j
            · obtain ⟨O, cO, e0, hO, hG, hfz⟩ := HF.out.outs hlt
              obtain ⟨ar, cr, e1, hc1, hc2⟩ := HF.out.row hlt
              simp only [Value.slice.injEq, true_and] at e0
              obtain ⟨rfl, rfl⟩ := e0
              rw [if_pos hlt] at hG
              rw [e1] at hO
              obtain ⟨ag, cg, eg⟩ := row_slice (HF.out.grow k hlt)
              rw [eg] at hG
              have HE1 := Lib.hid e1
              have HEG := Lib.hid eg
              clear e1 eg
              have hLk := HL.out k hlt
              unfold maxLen at hc2
              go_wp2
              go_loopw [10] (fun ii wz => ∃ (i q : Nat), i ≤ L k + 64 ∧ ii = .int .i64 i ∧ wz = wr.drewN q) (fun ii _ => L k + 64 - (intOf ii).toNat)
              case atStart => exact ⟨0, q, by omega, rfl, rfl⟩
              case round =>
                obtain ⟨i, q2, hi, rfl, rfl⟩ := hrel
                by_cases hlt2 : i < L k + 64
                · obtain ⟨bg, cg', e2, hcg⟩ := row_cell (HF.out.grow k hlt) hlt2 (u := .int .i64 (markV (k : Int) (i : Int))) (by rw [mrow_at mkI mkI_len _ _ _ hlt2]; rfl)
                  rw [HEG.out] at e2
                  simp only [Value.slice.injEq, true_and] at e2
                  obtain ⟨rfl, rfl⟩ := e2
                  by_cases hlt3 : i < L k
                  · obtain ⟨br, cr', e3, hcr⟩ := row_cell (HF.out.rows k hlt) hlt3 (u := .int .i64 (markV (k : Int) (i : Int))) (by rw [mrow_at mkI mkI_len _ _ _ hlt3]; rfl)
                    rw [HE1.out] at e3
                    simp only [Value.slice.injEq, true_and] at e3
                    obtain ⟨rfl, rfl⟩ := e3
                    have d1 : decide (i < L k) = true := by simpa using hlt3
                    go_wp2
                    go_quiet ((go_at_call 112; exact quiet_add_left (mark_any _ _ _ ⟨by omega, by omega⟩ ⟨by omega, by omega⟩)))
                    go_wp2
                    go_roundw
                    case rel => exact ⟨i + 1, _, by omega, by go_num, rfl⟩
                    case measure => simp [intOf]; omega
                  · have d1 : decide (i < L k) = false := by simpa using hlt3
                    go_wp2
                    go_quiet ((go_at_call 112; exact quiet_add_left (mark_any _ _ _ ⟨by omega, by omega⟩ ⟨by omega, by omega⟩)))
                    go_wp2
                    go_roundw
                    case rel => exact ⟨i + 1, _, by omega, by go_num, rfl⟩
                    case measure => simp [intOf]; omega
                · obtain rfl : i = L k + 64 := by omega
                  go_wp2
                  go_roundw
                  case rel => exact ⟨k + 1, _, by omega, by go_num, rfl⟩
                  case measure => simp [intOf]; omega
            · obtain rfl : k = j := by omega
              have HD0 := Lib.hid (HF.out.toD.drewN q)
              clear HF hk hlt
              obtain ⟨i0, hi, hz0, hz1, hz2⟩ := info_parts (P := Tryz.prog) infoZ1
              go_wp2
              go_loopw [11, 12, 13] (fun kk mm ii wz => ∃ (j : Nat) (gl : Nat → Value), j ≤ k ∧ kk = .int .i64 j ∧ Hid (FDI base k (.slice a k c) rv L w G j gl wz)) (fun kk _ _ _ => k - (intOf kk).toNat)
              case atStart => exact ⟨0, _, by omega, rfl, HD0⟩
              case round =>
                clear HD0
                obtain ⟨j, gl, hj, rfl, HD⟩ := hrel
                by_cases hlt : j < k
                · have hLk := HL.out j hlt
                  go_wp2_with (first
                    | (at_make
                       refine wpList_make_full wr rfl _ _ 22 rfl base 3 i0 (.int .i64 0) 1 Tryz.underlying22 hi hz0 hz1 .i64 .i64 _ _ 64 rfl rfl rfl rfl (by rw [hz2]; omega) (by simp only [maxLen]; omega) (by have := HD.out.chg.size; omega) ?_
                       intro w3 hown3 hg3
                       have HM0 := Lib.hid (HD.out.made hg3 hown3 (by
                         have e : (madeCells (Value.int .i64 0).cells (64 * 1)).toList = List.replicate 64 (.int .i64 0) := by
                           have : (Value.int .i64 0).cells = #[.int .i64 0] := rfl
                           rw [this, toList_madeCells_one, Nat.mul_one]
                         rw [e]
                         intro u hu
                         rw [List.eq_of_mem_replicate hu]
                         rfl) (by omega))
                       clear hown3 hg3))
                  generalize wr.heap.size = M at *
                  go_loopw [13] (fun ii wz => ∃ (i : Nat), i ≤ 64 ∧ ii = .int .i64 i ∧ Hid (FDiI base k (.slice a k c) rv L w G j gl M wz)) (fun ii _ => 64 - (intOf ii).toNat)
                  case atStart => exact ⟨0, by omega, rfl, HM0⟩
                  case round =>
                    clear HM0 HD
                    obtain ⟨i, hi2, rfl, HM⟩ := hrel
                    by_cases hlt2 : i < 64
                    · obtain ⟨Y, hY, hY1⟩ := HM.out.many
                      have hcell := World.ownsRow.cellAt hY i (by omega)
                      have hlen := hY.1
                      rw [List.getElem?_eq_getElem (by omega)] at hcell
                      have hfz := World.ownsRow.frozenAt hY i
                      clear hY hY1
                      go_wp2_with (first
                        | (go_at_call 112; refine (mark_any _ _ _ (by omega) (by omega)).mono ?_; rintro e w' ⟨rfl, rfl⟩))
                      go_roundw
                      case rel => exact ⟨i + 1, by omega, by go_num, HM.out.set_ (by decide) i _ rfl⟩
                      case measure => simp [intOf]; omega
                    · obtain ⟨O, cO, e0, hO, hG, hfz, _, _⟩ := HM.out.fd.outs hlt
                      obtain ⟨ar, cr, e1, hc1, hc2⟩ := HM.out.fd.row hlt
                      simp only [Value.slice.injEq, true_and] at e0
                      obtain ⟨rfl, rfl⟩ := e0
                      rw [e1] at hO
                      have hrow := HM.out.fd.rows j hlt
                      rw [e1] at hrow
                      have HROW := Lib.hid hrow
                      have HE1 := Lib.hid e1
                      clear e1 hrow
                      obtain ⟨Y, hY, hY1⟩ := HM.out.many
                      have HY := Lib.hid hY
                      have HY1 := Lib.hid hY1
                      clear hY hY1
                      unfold maxLen at hc2
                      go_wp2_with (first
                        | (at_builtin
                           refine wpList_appendK rfl wr (.tmp 148) (.tmp 149) 22 3 rfl base (.int .i64 0) 1 8 Tryz.underlying22 infoZ1 rfl (by omega) (.slice ar (L j) cr) (L j) _ rfl HROW.out M 64 64 Y rfl HY.out HY1.out (by simp only [maxLen]; omega) (by omega) (by have := HM.out.fd.chg.size; omega) ?_
                           intro v2 w2 hown2 hg2 hat2 hkeep2
                           obtain ⟨a2, c2, e2⟩ := row_slice hown2
                           subst e2
                           have hG2 : w2.ownsRow base 22 1 (.slice (some ⟨G, 0, none⟩) k k) k ((List.range k).map gl) := HM.out.fd.gs.kept hg2 (.inr (fun e => rows_ne HM.out.fd.gs HROW.out (by decide) G rfl e.symm))
                           have hG3 := World.ownsRow.cellAt hG2 j (by omega)
                           have hG4 := World.ownsRow.frozenAt hG2 j
                           have hlen : ((List.range k).map gl).length = k := by simp
                           rw [List.getElem?_eq_getElem (by omega)] at hG3
                           obtain ⟨ug, hug⟩ : ∃ u, w2.cell? ⟨G, j, none⟩ = some u := ⟨_, hG3⟩
                           clear hG3
                           have HD2 : Hid (FDI base k (.slice (some ⟨O, 0, none⟩) k c) rv L w G (j + 1) (fun i => if i = j then (.slice a2 (L j + 64) c2) else gl i) (w2.setCell ⟨G, j, none⟩ (.slice a2 (L j + 64) c2))) := by
                             have e := HE1.out
                             refine HM.out.fin (by decide) HS.out hlt hown2 (by rw [e]; exact hg2) (by rw [e]; exact hat2) (by rw [e]; exact hkeep2)
                           clear hown2 hg2 hat2 hkeep2 hG2 hlen))
                      go_roundw
                      case rel => exact ⟨j + 1, _, by omega, by go_num, HD2⟩
                      case measure => simp [intOf]; omega
                · obtain rfl : j = k := by omega
                  clear hj hlt
                  go_wp2
                  go_loopw [14, 15] (fun kk ii wz => ∃ (k q : Nat), k ≤ j ∧ kk = .int .i64 k ∧ wz = wr.drewN q) (fun kk _ _ => j - (intOf kk).toNat)
                  case atStart => exact ⟨0, 0, by omega, rfl, rfl⟩
                  case round =>
                    obtain ⟨k, q3, hk, rfl, rfl⟩ := hrel
                    by_cases hlt : k < j
                    · obtain ⟨O, cO, e0, hO, hG, hfz, _, _⟩ := HD.out.outs hlt
                      obtain ⟨ar, cr, e1, hc1, hc2⟩ := HD.out.row hlt
                      simp only [Value.slice.injEq, true_and] at e0
                      obtain ⟨rfl, rfl⟩ := e0
                      rw [e1] at hO
                      obtain ⟨Z, hZ⟩ := HD.out.grow k hlt
                      have HZ := Lib.hid hZ
                      obtain ⟨ag, cg, eg⟩ := row_slice hZ
                      rw [eg] at hG
                      have HE1 := Lib.hid e1
                      have HEG := Lib.hid eg
                      clear e1 eg hZ
                      have hLk := HL.out k hlt
                      unfold maxLen at hc2
                      go_wp2
                      go_loopw [15] (fun ii wz => ∃ (i q : Nat), i ≤ L k ∧ ii = .int .i64 i ∧ wz = wr.drewN q) (fun ii _ => L k - (intOf ii).toNat)
                      case atStart => exact ⟨0, q3, by omega, rfl, rfl⟩
                      case round =>
                        obtain ⟨i, q2, hi2, rfl, rfl⟩ := hrel
                        by_cases hlt3 : i < L k
                        · obtain ⟨bg, cg', e2, hcg⟩ := row_cell HZ.out (show i < L k + 64 by omega) (u := .int .i64 (markV (k : Int) (i : Int))) (by rw [List.getElem?_append_left (by rw [mrow_len mkI 1 mkI_len]; omega), mrow_at mkI mkI_len _ _ _ hlt3]; rfl)
                          rw [HEG.out] at e2
                          simp only [Value.slice.injEq, true_and] at e2
                          obtain ⟨rfl, rfl⟩ := e2
                          obtain ⟨br, cr', e3, hcr⟩ := row_cell (HD.out.rows k hlt) hlt3 (u := .int .i64 (markV (k : Int) (i : Int))) (by rw [mrow_at mkI mkI_len _ _ _ hlt3]; rfl)
                          rw [HE1.out] at e3
                          simp only [Value.slice.injEq, true_and] at e3
                          obtain ⟨rfl, rfl⟩ := e3
                          go_wp2
                          go_quiet ((go_at_call 112; exact quiet_add_left (mark_any _ _ _ ⟨by omega, by omega⟩ ⟨by omega, by omega⟩)))
                          go_wp2
                          go_roundw
                          case rel => exact ⟨i + 1, _, by omega, by go_num, rfl⟩
                          case measure => simp [intOf]; omega
                        · obtain rfl : i = L k := by omega
                          go_wp2
                          go_roundw
                          case rel => exact ⟨k + 1, _, by omega, by go_num, rfl⟩
                          case measure => simp [intOf]; omega
                    · go_wp2
                      go_ret
                      exact ⟨rfl, HD.out.chg.drewN _⟩
end

section
open Go.RowKit
theorem info_Limbs : (Tryz.prog.info? 225).map (fun i => (i.zero, i.size, i.bytes)) = some (some (.slice none 0 0), 1, 24) := by kernel_rfl
theorem flatLimbs_nil (w : World) : Calls Tryz.prog 141 #[.slice none 0 0] w fun e w' => e = .returned (.bool true) ∧ Below w.heap.size w w' := by
  obtain ⟨i0, hi, hz0, hz1, hz2⟩ := info_parts (P := Tryz.prog) info_Limbs
  go_enter Tryz.func141, Tryz.ntmps141
  go_wp2
  refine wp_loop_rounds 1 ?_
  rw [rounds_succ]
  go_wp2_with (first
    | (at_make
       refine wpList_make_full w rfl _ _ 137 rfl w.heap.size 225 i0 (.slice none 0 0) 1 Tryz.underlying137 hi hz0 hz1 .i64 .i64 _ _ 0 rfl rfl rfl rfl (by rw [hz2]; omega) (by simp only [maxLen]; omega) (Nat.le_refl _) ?_
       intro w3 hown3 hg3
       have HB := Lib.hid ((Below.refl w.heap.size w).grown hg3 (Nat.le_refl _) (by simp))
       clear hown3 hg3))
  refine wp_loop_rounds 1 ?_
  rw [rounds_succ]
  go_wp2
  refine wp_loop_rounds 1 ?_
  rw [rounds_succ]
  go_wp2
  refine wp_loop_rounds 1 ?_
  rw [rounds_succ]
  go_wp2
  refine wp_loop_rounds 1 ?_
  rw [rounds_succ]
  go_wp2
  go_ret
  exact ⟨rfl, HB.out⟩
theorem info_Words : (Tryz.prog.info? 227).map (fun i => (i.zero, i.size, i.bytes)) = some (some (.slice none 0 0), 1, 24) := by kernel_rfl
theorem flatWords_nil (w : World) : Calls Tryz.prog 142 #[.slice none 0 0] w fun e w' => e = .returned (.bool true) ∧ Below w.heap.size w w' := by
  obtain ⟨i0, hi, hz0, hz1, hz2⟩ := info_parts (P := Tryz.prog) info_Words
  go_enter Tryz.func142, Tryz.ntmps142
  go_wp2
  refine wp_loop_rounds 1 ?_
  rw [rounds_succ]
  go_wp2_with (first
    | (at_make
       refine wpList_make_full w rfl _ _ 138 rfl w.heap.size 227 i0 (.slice none 0 0) 1 Tryz.underlying138 hi hz0 hz1 .i64 .i64 _ _ 0 rfl rfl rfl rfl (by rw [hz2]; omega) (by simp only [maxLen]; omega) (Nat.le_refl _) ?_
       intro w3 hown3 hg3
       have HB := Lib.hid ((Below.refl w.heap.size w).grown hg3 (Nat.le_refl _) (by simp))
       clear hown3 hg3))
  refine wp_loop_rounds 1 ?_
  rw [rounds_succ]
  go_wp2
  refine wp_loop_rounds 1 ?_
  rw [rounds_succ]
  go_wp2
  refine wp_loop_rounds 1 ?_
  rw [rounds_succ]
  go_wp2
  refine wp_loop_rounds 1 ?_
  rw [rounds_succ]
  go_wp2
  go_ret
  exact ⟨rfl, HB.out⟩
theorem info_Longs : (Tryz.prog.info? 229).map (fun i => (i.zero, i.size, i.bytes)) = some (some (.slice none 0 0), 1, 24) := by kernel_rfl
theorem flatLongs_nil (w : World) : Calls Tryz.prog 144 #[.slice none 0 0] w fun e w' => e = .returned (.bool true) ∧ Below w.heap.size w w' := by
  obtain ⟨i0, hi, hz0, hz1, hz2⟩ := info_parts (P := Tryz.prog) info_Longs
  go_enter Tryz.func144, Tryz.ntmps144
  go_wp2
  refine wp_loop_rounds 1 ?_
  rw [rounds_succ]
  go_wp2_with (first
    | (at_make
       refine wpList_make_full w rfl _ _ 139 rfl w.heap.size 229 i0 (.slice none 0 0) 1 Tryz.underlying139 hi hz0 hz1 .i64 .i64 _ _ 0 rfl rfl rfl rfl (by rw [hz2]; omega) (by simp only [maxLen]; omega) (Nat.le_refl _) ?_
       intro w3 hown3 hg3
       have HB := Lib.hid ((Below.refl w.heap.size w).grown hg3 (Nat.le_refl _) (by simp))
       clear hown3 hg3))
  refine wp_loop_rounds 1 ?_
  rw [rounds_succ]
  go_wp2
  refine wp_loop_rounds 1 ?_
  rw [rounds_succ]
  go_wp2
  refine wp_loop_rounds 1 ?_
  rw [rounds_succ]
  go_wp2
  refine wp_loop_rounds 1 ?_
  rw [rounds_succ]
  go_wp2
  go_ret
  exact ⟨rfl, HB.out⟩
theorem info_Texts : (Tryz.prog.info? 230).map (fun i => (i.zero, i.size, i.bytes)) = some (some (.slice none 0 0), 1, 24) := by kernel_rfl
theorem flatTexts_nil (w : World) : Calls Tryz.prog 145 #[.slice none 0 0] w fun e w' => e = .returned (.bool true) ∧ Below w.heap.size w w' := by
  obtain ⟨i0, hi, hz0, hz1, hz2⟩ := info_parts (P := Tryz.prog) info_Texts
  go_enter Tryz.func145, Tryz.ntmps145
  go_wp2
  refine wp_loop_rounds 1 ?_
  rw [rounds_succ]
  go_wp2_with (first
    | (at_make
       refine wpList_make_full w rfl _ _ 140 rfl w.heap.size 230 i0 (.slice none 0 0) 1 Tryz.underlying140 hi hz0 hz1 .i64 .i64 _ _ 0 rfl rfl rfl rfl (by rw [hz2]; omega) (by simp only [maxLen]; omega) (Nat.le_refl _) ?_
       intro w3 hown3 hg3
       have HB := Lib.hid ((Below.refl w.heap.size w).grown hg3 (Nat.le_refl _) (by simp))
       clear hown3 hg3))
  refine wp_loop_rounds 1 ?_
  rw [rounds_succ]
  go_wp2
  refine wp_loop_rounds 1 ?_
  rw [rounds_succ]
  go_wp2
  refine wp_loop_rounds 1 ?_
  rw [rounds_succ]
  go_wp2
  refine wp_loop_rounds 1 ?_
  rw [rounds_succ]
  go_wp2
  go_ret
  exact ⟨rfl, HB.out⟩
theorem info_Bytes : (Tryz.prog.info? 232).map (fun i => (i.zero, i.size, i.bytes)) = some (some (.slice none 0 0), 1, 24) := by kernel_rfl
theorem flatBytes_nil (w : World) : Calls Tryz.prog 146 #[.slice none 0 0] w fun e w' => e = .returned (.bool true) ∧ Below w.heap.size w w' := by
  obtain ⟨i0, hi, hz0, hz1, hz2⟩ := info_parts (P := Tryz.prog) info_Bytes
  go_enter Tryz.func146, Tryz.ntmps146
  go_wp2
  refine wp_loop_rounds 1 ?_
  rw [rounds_succ]
  go_wp2_with (first
    | (at_make
       refine wpList_make_full w rfl _ _ 141 rfl w.heap.size 232 i0 (.slice none 0 0) 1 Tryz.underlying141 hi hz0 hz1 .i64 .i64 _ _ 0 rfl rfl rfl rfl (by rw [hz2]; omega) (by simp only [maxLen]; omega) (Nat.le_refl _) ?_
       intro w3 hown3 hg3
       have HB := Lib.hid ((Below.refl w.heap.size w).grown hg3 (Nat.le_refl _) (by simp))
       clear hown3 hg3))
  refine wp_loop_rounds 1 ?_
  rw [rounds_succ]
  go_wp2
  refine wp_loop_rounds 1 ?_
  rw [rounds_succ]
  go_wp2
  refine wp_loop_rounds 1 ?_
  rw [rounds_succ]
  go_wp2
  refine wp_loop_rounds 1 ?_
  rw [rounds_succ]
  go_wp2
  go_ret
  exact ⟨rfl, HB.out⟩
theorem info_Truths : (Tryz.prog.info? 234).map (fun i => (i.zero, i.size, i.bytes)) = some (some (.slice none 0 0), 1, 24) := by kernel_rfl
theorem flatTruths_nil (w : World) : Calls Tryz.prog 147 #[.slice none 0 0] w fun e w' => e = .returned (.bool true) ∧ Below w.heap.size w w' := by
  obtain ⟨i0, hi, hz0, hz1, hz2⟩ := info_parts (P := Tryz.prog) info_Truths
  go_enter Tryz.func147, Tryz.ntmps147
  go_wp2
  refine wp_loop_rounds 1 ?_
  rw [rounds_succ]
  go_wp2_with (first
    | (at_make
       refine wpList_make_full w rfl _ _ 142 rfl w.heap.size 234 i0 (.slice none 0 0) 1 Tryz.underlying142 hi hz0 hz1 .i64 .i64 _ _ 0 rfl rfl rfl rfl (by rw [hz2]; omega) (by simp only [maxLen]; omega) (Nat.le_refl _) ?_
       intro w3 hown3 hg3
       have HB := Lib.hid ((Below.refl w.heap.size w).grown hg3 (Nat.le_refl _) (by simp))
       clear hown3 hg3))
  refine wp_loop_rounds 1 ?_
  rw [rounds_succ]
  go_wp2
  refine wp_loop_rounds 1 ?_
  rw [rounds_succ]
  go_wp2
  refine wp_loop_rounds 1 ?_
  rw [rounds_succ]
  go_wp2
  refine wp_loop_rounds 1 ?_
  rw [rounds_succ]
  go_wp2
  go_ret
  exact ⟨rfl, HB.out⟩
theorem info_Row : (Tryz.prog.info? 71).map (fun i => (i.zero, i.size, i.bytes)) = some (some (.slice none 0 0), 1, 24) := by kernel_rfl
theorem flatRow_nil (w : World) : Calls Tryz.prog 148 #[.slice none 0 0] w fun e w' => e = .returned (.bool true) ∧ Below w.heap.size w w' := by
  obtain ⟨i0, hi, hz0, hz1, hz2⟩ := info_parts (P := Tryz.prog) info_Row
  go_enter Tryz.func148, Tryz.ntmps148
  go_wp2
  refine wp_loop_rounds 1 ?_
  rw [rounds_succ]
  go_wp2_with (first
    | (at_make
       refine wpList_make_full w rfl _ _ 143 rfl w.heap.size 71 i0 (.slice none 0 0) 1 Tryz.underlying143 hi hz0 hz1 .i64 .i64 _ _ 0 rfl rfl rfl rfl (by rw [hz2]; omega) (by simp only [maxLen]; omega) (Nat.le_refl _) ?_
       intro w3 hown3 hg3
       have HB := Lib.hid ((Below.refl w.heap.size w).grown hg3 (Nat.le_refl _) (by simp))
       clear hown3 hg3))
  refine wp_loop_rounds 1 ?_
  rw [rounds_succ]
  go_wp2
  refine wp_loop_rounds 1 ?_
  rw [rounds_succ]
  go_wp2
  refine wp_loop_rounds 1 ?_
  rw [rounds_succ]
  go_wp2
  refine wp_loop_rounds 1 ?_
  rw [rounds_succ]
  go_wp2
  go_ret
  exact ⟨rfl, HB.out⟩
theorem info_Blocks : (Tryz.prog.info? 23).map (fun i => (i.zero, i.size, i.bytes)) = some (some (.slice none 0 0), 1, 24) := by kernel_rfl
theorem flatBlocks_nil (w : World) : Calls Tryz.prog 149 #[.slice none 0 0] w fun e w' => e = .returned (.bool true) ∧ Below w.heap.size w w' := by
  obtain ⟨i0, hi, hz0, hz1, hz2⟩ := info_parts (P := Tryz.prog) info_Blocks
  go_enter Tryz.func149, Tryz.ntmps149
  go_wp2
  refine wp_loop_rounds 1 ?_
  rw [rounds_succ]
  go_wp2_with (first
    | (at_make
       refine wpList_make_full w rfl _ _ 144 rfl w.heap.size 23 i0 (.slice none 0 0) 1 Tryz.underlying144 hi hz0 hz1 .i64 .i64 _ _ 0 rfl rfl rfl rfl (by rw [hz2]; omega) (by simp only [maxLen]; omega) (Nat.le_refl _) ?_
       intro w3 hown3 hg3
       have HB := Lib.hid ((Below.refl w.heap.size w).grown hg3 (Nat.le_refl _) (by simp))
       clear hown3 hg3))
  refine wp_loop_rounds 1 ?_
  rw [rounds_succ]
  go_wp2
  refine wp_loop_rounds 1 ?_
  rw [rounds_succ]
  go_wp2
  refine wp_loop_rounds 1 ?_
  rw [rounds_succ]
  go_wp2
  refine wp_loop_rounds 1 ?_
  rw [rounds_succ]
  go_wp2
  go_ret
  exact ⟨rfl, HB.out⟩
theorem info_Funcs : (Tryz.prog.info? 66).map (fun i => (i.zero, i.size, i.bytes)) = some (some (.slice none 0 0), 1, 24) := by kernel_rfl
theorem flatFuncs_nil (w : World) : Calls Tryz.prog 150 #[.slice none 0 0] w fun e w' => e = .returned (.bool true) ∧ Below w.heap.size w w' := by
  obtain ⟨i0, hi, hz0, hz1, hz2⟩ := info_parts (P := Tryz.prog) info_Funcs
  go_enter Tryz.func150, Tryz.ntmps150
  go_wp2
  refine wp_loop_rounds 1 ?_
  rw [rounds_succ]
  go_wp2_with (first
    | (at_make
       refine wpList_make_full w rfl _ _ 145 rfl w.heap.size 66 i0 (.slice none 0 0) 1 Tryz.underlying145 hi hz0 hz1 .i64 .i64 _ _ 0 rfl rfl rfl rfl (by rw [hz2]; omega) (by simp only [maxLen]; omega) (Nat.le_refl _) ?_
       intro w3 hown3 hg3
       have HB := Lib.hid ((Below.refl w.heap.size w).grown hg3 (Nat.le_refl _) (by simp))
       clear hown3 hg3))
  refine wp_loop_rounds 1 ?_
  rw [rounds_succ]
  go_wp2
  refine wp_loop_rounds 1 ?_
  rw [rounds_succ]
  go_wp2
  refine wp_loop_rounds 1 ?_
  rw [rounds_succ]
  go_wp2
  refine wp_loop_rounds 1 ?_
  rw [rounds_succ]
  go_wp2
  go_ret
  exact ⟨rfl, HB.out⟩
theorem info_Targets : (Tryz.prog.info? 238).map (fun i => (i.zero, i.size, i.bytes)) = some (some (.slice none 0 0), 1, 24) := by kernel_rfl
theorem flatTargets_nil (w : World) : Calls Tryz.prog 151 #[.slice none 0 0] w fun e w' => e = .returned (.bool true) ∧ Below w.heap.size w w' := by
  obtain ⟨i0, hi, hz0, hz1, hz2⟩ := info_parts (P := Tryz.prog) info_Targets
  go_enter Tryz.func151, Tryz.ntmps151
  go_wp2
  refine wp_loop_rounds 1 ?_
  rw [rounds_succ]
  go_wp2_with (first
    | (at_make
       refine wpList_make_full w rfl _ _ 146 rfl w.heap.size 238 i0 (.slice none 0 0) 1 Tryz.underlying146 hi hz0 hz1 .i64 .i64 _ _ 0 rfl rfl rfl rfl (by rw [hz2]; omega) (by simp only [maxLen]; omega) (Nat.le_refl _) ?_
       intro w3 hown3 hg3
       have HB := Lib.hid ((Below.refl w.heap.size w).grown hg3 (Nat.le_refl _) (by simp))
       clear hown3 hg3))
  refine wp_loop_rounds 1 ?_
  rw [rounds_succ]
  go_wp2
  refine wp_loop_rounds 1 ?_
  rw [rounds_succ]
  go_wp2
  refine wp_loop_rounds 1 ?_
  rw [rounds_succ]
  go_wp2
  refine wp_loop_rounds 1 ?_
  rw [rounds_succ]
  go_wp2
  go_ret
  exact ⟨rfl, HB.out⟩
theorem info_Machines : (Tryz.prog.info? 243).map (fun i => (i.zero, i.size, i.bytes)) = some (some (.slice none 0 0), 1, 24) := by kernel_rfl
theorem flatMachines_nil (w : World) : Calls Tryz.prog 152 #[.slice none 0 0] w fun e w' => e = .returned (.bool true) ∧ Below w.heap.size w w' := by
  obtain ⟨i0, hi, hz0, hz1, hz2⟩ := info_parts (P := Tryz.prog) info_Machines
  go_enter Tryz.func152, Tryz.ntmps152
  go_wp2
  refine wp_loop_rounds 1 ?_
  rw [rounds_succ]
  go_wp2_with (first
    | (at_make
       refine wpList_make_full w rfl _ _ 147 rfl w.heap.size 243 i0 (.slice none 0 0) 1 Tryz.underlying147 hi hz0 hz1 .i64 .i64 _ _ 0 rfl rfl rfl rfl (by rw [hz2]; omega) (by simp only [maxLen]; omega) (Nat.le_refl _) ?_
       intro w3 hown3 hg3
       have HB := Lib.hid ((Below.refl w.heap.size w).grown hg3 (Nat.le_refl _) (by simp))
       clear hown3 hg3))
  refine wp_loop_rounds 1 ?_
  rw [rounds_succ]
  go_wp2
  refine wp_loop_rounds 1 ?_
  rw [rounds_succ]
  go_wp2
  refine wp_loop_rounds 1 ?_
  rw [rounds_succ]
  go_wp2
  refine wp_loop_rounds 1 ?_
  rw [rounds_succ]
  go_wp2
  go_ret
  exact ⟨rfl, HB.out⟩
theorem info_Locs : (Tryz.prog.info? 248).map (fun i => (i.zero, i.size, i.bytes)) = some (some (.slice none 0 0), 1, 24) := by kernel_rfl
theorem flatLocs_nil (w : World) : Calls Tryz.prog 153 #[.slice none 0 0] w fun e w' => e = .returned (.bool true) ∧ Below w.heap.size w w' := by
  obtain ⟨i0, hi, hz0, hz1, hz2⟩ := info_parts (P := Tryz.prog) info_Locs
  go_enter Tryz.func153, Tryz.ntmps153
  go_wp2
  refine wp_loop_rounds 1 ?_
  rw [rounds_succ]
  go_wp2_with (first
    | (at_make
       refine wpList_make_full w rfl _ _ 148 rfl w.heap.size 248 i0 (.slice none 0 0) 1 Tryz.underlying148 hi hz0 hz1 .i64 .i64 _ _ 0 rfl rfl rfl rfl (by rw [hz2]; omega) (by simp only [maxLen]; omega) (Nat.le_refl _) ?_
       intro w3 hown3 hg3
       have HB := Lib.hid ((Below.refl w.heap.size w).grown hg3 (Nat.le_refl _) (by simp))
       clear hown3 hg3))
  refine wp_loop_rounds 1 ?_
  rw [rounds_succ]
  go_wp2
  refine wp_loop_rounds 1 ?_
  rw [rounds_succ]
  go_wp2
  refine wp_loop_rounds 1 ?_
  rw [rounds_succ]
  go_wp2
  refine wp_loop_rounds 1 ?_
  rw [rounds_succ]
  go_wp2
  go_ret
  exact ⟨rfl, HB.out⟩
theorem info_Facts : (Tryz.prog.info? 252).map (fun i => (i.zero, i.size, i.bytes)) = some (some (.slice none 0 0), 1, 24) := by kernel_rfl
theorem flatFacts_nil (w : World) : Calls Tryz.prog 154 #[.slice none 0 0] w fun e w' => e = .returned (.bool true) ∧ Below w.heap.size w w' := by
  obtain ⟨i0, hi, hz0, hz1, hz2⟩ := info_parts (P := Tryz.prog) info_Facts
  go_enter Tryz.func154, Tryz.ntmps154
  go_wp2
  refine wp_loop_rounds 1 ?_
  rw [rounds_succ]
  go_wp2_with (first
    | (at_make
       refine wpList_make_full w rfl _ _ 149 rfl w.heap.size 252 i0 (.slice none 0 0) 1 Tryz.underlying149 hi hz0 hz1 .i64 .i64 _ _ 0 rfl rfl rfl rfl (by rw [hz2]; omega) (by simp only [maxLen]; omega) (Nat.le_refl _) ?_
       intro w3 hown3 hg3
       have HB := Lib.hid ((Below.refl w.heap.size w).grown hg3 (Nat.le_refl _) (by simp))
       clear hown3 hg3))
  refine wp_loop_rounds 1 ?_
  rw [rounds_succ]
  go_wp2
  refine wp_loop_rounds 1 ?_
  rw [rounds_succ]
  go_wp2
  refine wp_loop_rounds 1 ?_
  rw [rounds_succ]
  go_wp2
  refine wp_loop_rounds 1 ?_
  rw [rounds_succ]
  go_wp2
  go_ret
  exact ⟨rfl, HB.out⟩
theorem info_Edges : (Tryz.prog.info? 50).map (fun i => (i.zero, i.size, i.bytes)) = some (some (.slice none 0 0), 1, 24) := by kernel_rfl
theorem flatEdges_nil (w : World) : Calls Tryz.prog 155 #[.slice none 0 0] w fun e w' => e = .returned (.bool true) ∧ Below w.heap.size w w' := by
  obtain ⟨i0, hi, hz0, hz1, hz2⟩ := info_parts (P := Tryz.prog) info_Edges
  go_enter Tryz.func155, Tryz.ntmps155
  go_wp2
  refine wp_loop_rounds 1 ?_
  rw [rounds_succ]
  go_wp2_with (first
    | (at_make
       refine wpList_make_full w rfl _ _ 150 rfl w.heap.size 50 i0 (.slice none 0 0) 1 Tryz.underlying150 hi hz0 hz1 .i64 .i64 _ _ 0 rfl rfl rfl rfl (by rw [hz2]; omega) (by simp only [maxLen]; omega) (Nat.le_refl _) ?_
       intro w3 hown3 hg3
       have HB := Lib.hid ((Below.refl w.heap.size w).grown hg3 (Nat.le_refl _) (by simp))
       clear hown3 hg3))
  refine wp_loop_rounds 1 ?_
  rw [rounds_succ]
  go_wp2
  refine wp_loop_rounds 1 ?_
  rw [rounds_succ]
  go_wp2
  refine wp_loop_rounds 1 ?_
  rw [rounds_succ]
  go_wp2
  refine wp_loop_rounds 1 ?_
  rw [rounds_succ]
  go_wp2
  go_ret
  exact ⟨rfl, HB.out⟩
theorem info_Tiles : (Tryz.prog.info? 26).map (fun i => (i.zero, i.size, i.bytes)) = some (some (.slice none 0 0), 1, 24) := by kernel_rfl
theorem flatTiles_nil (w : World) : Calls Tryz.prog 156 #[.slice none 0 0] w fun e w' => e = .returned (.bool true) ∧ Below w.heap.size w w' := by
  obtain ⟨i0, hi, hz0, hz1, hz2⟩ := info_parts (P := Tryz.prog) info_Tiles
  go_enter Tryz.func156, Tryz.ntmps156
  go_wp2
  refine wp_loop_rounds 1 ?_
  rw [rounds_succ]
  go_wp2_with (first
    | (at_make
       refine wpList_make_full w rfl _ _ 58 rfl w.heap.size 26 i0 (.slice none 0 0) 1 Tryz.underlying58 hi hz0 hz1 .i64 .i64 _ _ 0 rfl rfl rfl rfl (by rw [hz2]; omega) (by simp only [maxLen]; omega) (Nat.le_refl _) ?_
       intro w3 hown3 hg3
       have HB := Lib.hid ((Below.refl w.heap.size w).grown hg3 (Nat.le_refl _) (by simp))
       clear hown3 hg3))
  refine wp_loop_rounds 1 ?_
  rw [rounds_succ]
  go_wp2
  refine wp_loop_rounds 1 ?_
  rw [rounds_succ]
  go_wp2
  refine wp_loop_rounds 1 ?_
  rw [rounds_succ]
  go_wp2
  refine wp_loop_rounds 1 ?_
  rw [rounds_succ]
  go_wp2
  go_ret
  exact ⟨rfl, HB.out⟩
theorem info_Calls : (Tryz.prog.info? 257).map (fun i => (i.zero, i.size, i.bytes)) = some (some (.slice none 0 0), 1, 24) := by kernel_rfl
theorem flatCalls_nil (w : World) : Calls Tryz.prog 157 #[.slice none 0 0] w fun e w' => e = .returned (.bool true) ∧ Below w.heap.size w w' := by
  obtain ⟨i0, hi, hz0, hz1, hz2⟩ := info_parts (P := Tryz.prog) info_Calls
  go_enter Tryz.func157, Tryz.ntmps157
  go_wp2
  refine wp_loop_rounds 1 ?_
  rw [rounds_succ]
  go_wp2_with (first
    | (at_make
       refine wpList_make_full w rfl _ _ 151 rfl w.heap.size 257 i0 (.slice none 0 0) 1 Tryz.underlying151 hi hz0 hz1 .i64 .i64 _ _ 0 rfl rfl rfl rfl (by rw [hz2]; omega) (by simp only [maxLen]; omega) (Nat.le_refl _) ?_
       intro w3 hown3 hg3
       have HB := Lib.hid ((Below.refl w.heap.size w).grown hg3 (Nat.le_refl _) (by simp))
       clear hown3 hg3))
  refine wp_loop_rounds 1 ?_
  rw [rounds_succ]
  go_wp2
  refine wp_loop_rounds 1 ?_
  rw [rounds_succ]
  go_wp2
  refine wp_loop_rounds 1 ?_
  rw [rounds_succ]
  go_wp2
  refine wp_loop_rounds 1 ?_
  rw [rounds_succ]
  go_wp2
  go_ret
  exact ⟨rfl, HB.out⟩
end

section
open Go.RowKit
abbrev nilVz : Value := .slice none 0 0
def BagI (w : World) (B : Nat) (v : Value) : Prop := w.heap[B]? = some (.cells #[nilVz, nilVz, v, nilVz, nilVz, nilVz, nilVz, nilVz, nilVz, nilVz, nilVz, nilVz, nilVz, nilVz, nilVz, nilVz, nilVz] 153 (0, 0))
theorem BagI.cell {w : World} {B : Nat} {v : Value} (h : BagI w B v) (i : Nat) : w.cell? ⟨B, i, none⟩ = (#[nilVz, nilVz, v, nilVz, nilVz, nilVz, nilVz, nilVz, nilVz, nilVz, nilVz, nilVz, nilVz, nilVz, nilVz, nilVz, nilVz] : Array Value)[i]? := cell_of_row w B i _ _ _ h
theorem BagI.frozen {w : World} {B : Nat} {v : Value} (h : BagI w B v) (i : Nat) : w.frozen? ⟨B, i, none⟩ = false := by
  unfold BagI at h
  simp [World.frozen?, h]
theorem BagI.lt {w : World} {B : Nat} {v : Value} (h : BagI w B v) : B < w.heap.size := (Array.getElem?_eq_some_iff.1 h).1
theorem BagI.set_ {w : World} {B : Nat} {v : Value} (h : BagI w B v) (v' : Value) : BagI (w.setCell ⟨B, 2, none⟩ v') B v' := by
  unfold BagI at h ⊢
  simp [World.setCell, Array.getElem?_modify, h]
theorem BagI.ne {w : World} {B : Nat} {v : Value} (h : BagI w B v) {base : Nat} {e : TypeId} {size : Nat} {v' : Value} {n : Nat} {xs : List Value} (ho : w.ownsRow base e size v' n xs) (hne : e ≠ 153) : v'.ownBlock ≠ some B := by
  intro hg
  rcases ho.2 with ⟨rfl, _⟩ | ⟨b, cap, cur, rfl, _, hh, _⟩
  · simp [Value.ownBlock] at hg
  · simp only [Value.ownBlock, Option.some.injEq] at hg
    subst hg
    unfold BagI at h
    rw [h] at hh
    injection hh with hh
    injection hh with _ ht
    exact hne ht.symm
theorem FIn.ext {e eo : TypeId} {size base K : Nat} {vo : Value} {rv : Nat → Value} {L : Nat → Nat} {w w' : World} (h : FIn e eo size base K vo rv L w) (hb : Below w.heap.size w w') : FIn e eo size base K vo rv L w' :=
  ⟨(Steady.ownsRow w.heap.size _ _ _ _ _ _).ext h.outer hb, fun j hj => by
    obtain ⟨X, hX⟩ := h.rows j hj
    exact ⟨X, (Steady.ownsRow w.heap.size _ _ _ _ _ _).ext hX hb⟩, h.sep⟩
def PutPost (w : World) (B k : Nat) (xs : List Value) (lv : Value) (e : Ending) (w' : World) : Prop :=
  (∃ r, e = .returned r) ∧ ∃ v', BagI w' B v' ∧ w'.ownsRow (B + 1) 22 1 v' (k + 1) (xs ++ [lv]) ∧ Below B w w'
theorem putInts_any (w : World) (B k : Nat) (v : Value) (xs : List Value) (a : Option Addr) (n c : Nat) (h : BagI w B v) (ho : w.ownsRow (B + 1) 22 1 v k xs) (hk : k ≤ 1000000) :
    Calls Tryz.prog 109 #[.pointer (some ⟨B, 0, none⟩), .slice a n c] w (PutPost w B k xs (.slice a n c)) := by
  have h2 := h.cell 2
  have hlt := h.lt
  have hfz := h.frozen 2
  have hb := Lib.hid h
  have HO := Lib.hid ho
  have hne := h.ne ho (by decide)
  have HNE := Lib.hid hne
  obtain ⟨av, cv, rfl⟩ := row_slice ho
  clear h ho hne
  simp at h2
  go_enter Tryz.func109, Tryz.ntmps109
  go_wp2_with (first
    | (at_builtin
       refine wpList_append1K rfl w (.tmp 8) (.tmp 10) 53 22 rfl (B + 1) _ 1 24 Tryz.underlying53 infoZs rfl (by omega) (.slice av k cv) k xs [.slice a n c] rfl HO.out w.heap.size rfl rfl rfl (by simp [Value.oneCell']) (by simp only [maxLen]; omega) (by omega) (by omega) ?_
       intro g cap w2 hown2 hg2 hat2 _
       have HB2 : Hid (BagI w2 B (.slice av k cv)) := (hg2.block B hlt (fun e => HNE.out e.symm)).trans hb.out
       have HO2 := Lib.hid hown2
       have HG2 : Hid (Below B w w2) := (Below.refl B w).grown hg2 (by omega) (fun j e => by have := (HO.out.lt j e).1; omega)
       have hc2 := HB2.out.cell 2
       have hf2 := HB2.out.frozen 2
       clear hown2 hg2 hat2
       simp at hc2))
  go_end0
  refine ⟨⟨_, rfl⟩, _, HB2.out.set_ _, ?_, HG2.out.setCell (p := ⟨B, 2, none⟩) (Nat.le_refl _) _⟩
  have hgg := (HO2.out.lt g rfl).1
  exact ownsRow_chg (S := fun k => k = B) HO2.out ((Chg.refl (fun k => k = B) w2).setCell (p := ⟨B, 2, none⟩) (.inl rfl) _) (fun b e => by
    simp only [Value.ownBlock, Option.some.injEq] at e
    omega)
theorem bagInts_any (w : World) (B K base : Nat) (a : Option Addr) (c : Nat) (rv : Nat → Value) (L : Nat → Nat) (hB : BagI w B (.slice a K c)) (h : FIn 3 22 1 base K (.slice a K c) rv L w) (hK : K ≤ 1000000) (hL : ∀ j, j < K → L j ≤ 1000000) (hbase : base ≤ w.heap.size) :
    Calls Tryz.prog 90 #[.pointer (some ⟨B, 0, none⟩)] w fun e w' => e = .returned (.bool true) ∧ Chg (SB K rv) w w' := by
  have HFI := Lib.hid h
  have HKL := Lib.hid hL
  have HBR : Hid (∀ j, j < K → (rv j).ownBlock ≠ some B) := fun j hj => by
    obtain ⟨X, hX⟩ := h.rows j hj
    exact hB.ne hX (by decide)
  have HB := Lib.hid hB
  have HALL : Hid (∀ V : World, Chg (SB K rv) w V → BagI V B (.slice a K c)) := fun V hV => (hV.block B hB.lt (fun ⟨j, hj, e⟩ => HBR.out j hj e)).trans HB.out
  have HC : Hid (∀ (V : World) (i : Nat), Chg (SB K rv) w V → V.cell? ⟨B, i, none⟩ = (#[nilVz, nilVz, .slice a K c, nilVz, nilVz, nilVz, nilVz, nilVz, nilVz, nilVz, nilVz, nilVz, nilVz, nilVz, nilVz, nilVz, nilVz] : Array Value)[i]?) := fun V i hV => (HALL.out V hV).cell i
  have c0 : w.cell? ⟨B, 0, none⟩ = some nilVz := (HC.out w 0 (Chg.refl _ _)).trans rfl
  clear h hL hB
  go_enter Tryz.func90, Tryz.ntmps90
  go_wp2_with (first
    | (go_at_call 141; refine (flatLimbs_nil _).mono ?_; rintro e w0 ⟨rfl, hb0⟩
       have E0 := Lib.hid ((Chg.refl (SB K rv) w).of_ext hb0); have F0 := Lib.hid (show Below w.heap.size w w0 from hb0); clear hb0; have c1 : w0.cell? ⟨B, 1, none⟩ = some nilVz := (HC.out w0 1 E0.out).trans rfl)
    | (go_at_call 142; refine (flatWords_nil _).mono ?_; rintro e w1 ⟨rfl, hb1⟩
       have E1 := Lib.hid (E0.out.of_ext hb1); have F1 := Lib.hid (ext_trans F0.out hb1); clear hb1; have c2 : w1.cell? ⟨B, 2, none⟩ = some (.slice a K c) := (HC.out w1 2 E1.out).trans rfl)
    | (go_at_call 143; refine (flatInts_any a K c base rv L _ (HFI.out.ext F1.out) hK HKL.out (by have := F1.out.size; omega)).mono ?_; rintro e w2 ⟨rfl, hb2⟩
       have E2 := Lib.hid (E1.out.trans hb2); clear hb2; have c3 : w2.cell? ⟨B, 3, none⟩ = some nilVz := (HC.out w2 3 E2.out).trans rfl)
    | (go_at_call 144; refine (flatLongs_nil _).mono ?_; rintro e w3 ⟨rfl, hb3⟩
       have E3 := Lib.hid (E2.out.of_ext hb3); clear hb3; have c4 : w3.cell? ⟨B, 4, none⟩ = some nilVz := (HC.out w3 4 E3.out).trans rfl)
    | (go_at_call 145; refine (flatTexts_nil _).mono ?_; rintro e w4 ⟨rfl, hb4⟩
       have E4 := Lib.hid (E3.out.of_ext hb4); clear hb4; have c5 : w4.cell? ⟨B, 5, none⟩ = some nilVz := (HC.out w4 5 E4.out).trans rfl)
    | (go_at_call 146; refine (flatBytes_nil _).mono ?_; rintro e w5 ⟨rfl, hb5⟩
       have E5 := Lib.hid (E4.out.of_ext hb5); clear hb5; have c6 : w5.cell? ⟨B, 6, none⟩ = some nilVz := (HC.out w5 6 E5.out).trans rfl)
    | (go_at_call 147; refine (flatTruths_nil _).mono ?_; rintro e w6 ⟨rfl, hb6⟩
       have E6 := Lib.hid (E5.out.of_ext hb6); clear hb6; have c7 : w6.cell? ⟨B, 7, none⟩ = some nilVz := (HC.out w6 7 E6.out).trans rfl)
    | (go_at_call 148; refine (flatRow_nil _).mono ?_; rintro e w7 ⟨rfl, hb7⟩
       have E7 := Lib.hid (E6.out.of_ext hb7); clear hb7; have c8 : w7.cell? ⟨B, 8, none⟩ = some nilVz := (HC.out w7 8 E7.out).trans rfl)
    | (go_at_call 149; refine (flatBlocks_nil _).mono ?_; rintro e w8 ⟨rfl, hb8⟩
       have E8 := Lib.hid (E7.out.of_ext hb8); clear hb8; have c9 : w8.cell? ⟨B, 9, none⟩ = some nilVz := (HC.out w8 9 E8.out).trans rfl)
    | (go_at_call 150; refine (flatFuncs_nil _).mono ?_; rintro e w9 ⟨rfl, hb9⟩
       have E9 := Lib.hid (E8.out.of_ext hb9); clear hb9; have c10 : w9.cell? ⟨B, 10, none⟩ = some nilVz := (HC.out w9 10 E9.out).trans rfl)
    | (go_at_call 151; refine (flatTargets_nil _).mono ?_; rintro e w10 ⟨rfl, hb10⟩
       have E10 := Lib.hid (E9.out.of_ext hb10); clear hb10; have c11 : w10.cell? ⟨B, 11, none⟩ = some nilVz := (HC.out w10 11 E10.out).trans rfl)
    | (go_at_call 152; refine (flatMachines_nil _).mono ?_; rintro e w11 ⟨rfl, hb11⟩
       have E11 := Lib.hid (E10.out.of_ext hb11); clear hb11; have c12 : w11.cell? ⟨B, 12, none⟩ = some nilVz := (HC.out w11 12 E11.out).trans rfl)
    | (go_at_call 153; refine (flatLocs_nil _).mono ?_; rintro e w12 ⟨rfl, hb12⟩
       have E12 := Lib.hid (E11.out.of_ext hb12); clear hb12; have c13 : w12.cell? ⟨B, 13, none⟩ = some nilVz := (HC.out w12 13 E12.out).trans rfl)
    | (go_at_call 154; refine (flatFacts_nil _).mono ?_; rintro e w13 ⟨rfl, hb13⟩
       have E13 := Lib.hid (E12.out.of_ext hb13); clear hb13; have c14 : w13.cell? ⟨B, 14, none⟩ = some nilVz := (HC.out w13 14 E13.out).trans rfl)
    | (go_at_call 155; refine (flatEdges_nil _).mono ?_; rintro e w14 ⟨rfl, hb14⟩
       have E14 := Lib.hid (E13.out.of_ext hb14); clear hb14; have c15 : w14.cell? ⟨B, 15, none⟩ = some nilVz := (HC.out w14 15 E14.out).trans rfl)
    | (go_at_call 156; refine (flatTiles_nil _).mono ?_; rintro e w15 ⟨rfl, hb15⟩
       have E15 := Lib.hid (E14.out.of_ext hb15); clear hb15; have c16 : w15.cell? ⟨B, 16, none⟩ = some nilVz := (HC.out w15 16 E15.out).trans rfl)
    | (go_at_call 157; refine (flatCalls_nil _).mono ?_; rintro e w16 ⟨rfl, hb16⟩
       have E16 := Lib.hid (E15.out.of_ext hb16); clear hb16))
  go_ret
  exact ⟨rfl, E16.out⟩
theorem apartInts_any (w : World) (a : Option Addr) (K c base : Nat) (rv : Nat → Value) (L : Nat → Nat) (hcell : ∀ j, j < K → ∃ b o, a = some ⟨b, o, none⟩ ∧ w.cell? ⟨b, o + j, none⟩ = some (rv j))
    (hrow : ∀ j, j < K → ∃ X, w.ownsRow base 3 1 (rv j) (L j) X) (hsep : ∀ i j, i < K → j < K → i ≠ j → SepF (rv i) (rv j)) (hK : K ≤ 1000000) (hL : ∀ j, j < K → L j ≤ 1000000) (hbase : base ≤ w.heap.size) :
    Calls Tryz.prog 48 #[.slice a K c] w fun e w' => e = .returned (.bool true) ∧ Chg (SB K rv) w w' := by
  have HC := Lib.hid hcell
  have HR := Lib.hid hrow
  have HS := Lib.hid hsep
  have HL := Lib.hid hL
  clear hcell hrow hsep hL
  go_enter Tryz.func48, Tryz.ntmps48
  go_wp2
  have HB0 : Hid (BagI (w.alloc (.cells #[nilVz, nilVz, nilVz, nilVz, nilVz, nilVz, nilVz, nilVz, nilVz, nilVz, nilVz, nilVz, nilVz, nilVz, nilVz, nilVz, nilVz] 153)) w.heap.size nilVz) := World.alloc_heap_new w _
  have HE0 := Lib.hid (ext_alloc w (.cells #[nilVz, nilVz, nilVz, nilVz, nilVz, nilVz, nilVz, nilVz, nilVz, nilVz, nilVz, nilVz, nilVz, nilVz, nilVz, nilVz, nilVz] 153))
  go_loopw [4] (fun kk wr => ∃ (k : Nat) (v : Value), k ≤ K ∧ kk = .int .i64 k ∧ Hid (BagI wr w.heap.size v) ∧ Hid (wr.ownsRow (w.heap.size + 1) 22 1 v k ((List.range k).map rv)) ∧ Hid (Below w.heap.size w wr)) (fun kk _ => K - (intOf kk).toNat)
  case atStart => exact ⟨0, nilVz, by omega, rfl, HB0, World.ownsRow_nil _ _ _ _, HE0⟩
  case round =>
    clear HB0 HE0
    obtain ⟨k, v, hk, rfl, HB, HO, HE⟩ := hrel
    by_cases hlt : k < K
    · obtain ⟨b, o, rfl, hc⟩ := HC.out k hlt
      have hc' := cell_ext HE.out hc
      obtain ⟨X, hX⟩ := HR.out k hlt
      obtain ⟨ar, cr, er⟩ := row_slice hX
      clear hc hX
      have HER := Lib.hid er
      rw [er] at hc'
      clear er
      go_wp2_with (first
        | (go_at_call 109; refine (putInts_any _ w.heap.size k v _ ar (L k) cr HB.out HO.out (by omega)).mono ?_; rintro e w2 ⟨⟨r, rfl⟩, v2, hb2, ho2, he2⟩
           have HB2 := Lib.hid hb2
           have HO2 := Lib.hid ho2
           have HE2 := Lib.hid (HE.out.trans he2)
           clear hb2 ho2 he2))
      go_roundw
      case rel => exact ⟨k + 1, v2, by omega, by go_num, HB2, by
        have e := HO2.out
        rw [← HER.out] at e
        rw [List.range_succ, List.map_append]
        exact e, HE2⟩
      case measure => simp [intOf]; omega
    · obtain rfl : k = K := by omega
      obtain ⟨av, cv, ev⟩ := row_slice HO.out
      subst ev
      have HFI : Hid (FIn 3 22 1 base k (.slice av k cv) rv L wr) := ⟨HO.out.mono (by omega), fun j hj => by
        obtain ⟨X, hX⟩ := HR.out j hj
        exact ⟨X, (Steady.ownsRow w.heap.size _ _ _ _ _ _).ext hX HE.out⟩, HS.out⟩
      go_wp2_with (first
        | (go_at_call 90; refine (bagInts_any _ w.heap.size k base av cv rv L HB.out HFI.out hK HL.out (by have := HE.out.size; omega)).mono ?_; rintro e w2 ⟨rfl, hc2⟩
           have HC2 := Lib.hid hc2
           clear hc2))
      go_ret
      refine ⟨rfl, ?_⟩
      have := (Chg.refl (SB k rv) w).of_ext HE.out
      exact this.trans HC2.out
end
end Go.Proofs.YtblhmdhfhaencaaGreat
