/-
  Facts as a set: check.of; whether they are in order: check.ordered.
-/
import Derived.Test.YtfpbfdkjcmlimaaGreatKD
namespace Go.Proofs.YtfpbfdkjcmlimaaGreat
set_option linter.unusedSimpArgs false
set_option linter.unusedVariables false
set_option linter.unusedSectionVars false
set_option maxRecDepth 100000
set_option maxHeartbeats 40000000
section
open Go.RowKit
theorem fcts_cells {w : World} {a : Option Addr} {n : Nat} {ls : List Fct} (h : FctS w a n ls) {k : Nat} (hk : k < n) : ∃ x b o, ls[k]? = some x ∧ a = some ⟨b, o, none⟩ ∧ w.cell? ⟨b, o + k * 3, none⟩ = some (.int .i64 x.1) ∧ w.cell? ⟨b, o + k * 3 + 1, none⟩ = some (.bool x.2.1) ∧ w.cell? ⟨b, o + k * 3 + 2, none⟩ = some (.int .i64 x.2.2) := by
  have hk' : k < ls.length := by rw [h.1]; exact hk
  obtain ⟨x, hx⟩ : ∃ x, ls[k]? = some x := ⟨ls[k], List.getElem?_eq_getElem hk'⟩
  obtain ⟨b, o, e, hc⟩ := h.2.2 k x hx
  exact ⟨x, b, o, hx, e, hc 0 (by omega), hc 1 (by omega), hc 2 (by omega)⟩
theorem mem_take_succ {α : Type} {l : List α} {k : Nat} {x y : α} (h : l[k]? = some x) : y ∈ l.take (k + 1) ↔ y ∈ l.take k ∨ y = x := by
  rw [List.take_add_one, h]
  simp
theorem ofF_any (a : Option Addr) (n c : Nat) (ls : List Fct) (w : World) (h : FctS w a n ls) :
    Calls Tryz.prog 15 #[.slice a n c] w fun e w' => ∃ b L, e = .returned (.map (some b)) ∧ w.heap.size ≤ b ∧ FSet w' b L ∧ (∀ y, y ∈ L ↔ y ∈ ls) ∧ Below w.heap.size w w' := by
  have H := Lib.hid h
  have HL := Lib.hid h.1
  have hn := h.2.1
  clear h
  have hmm := @run_makeMap Tryz.prog
  go_enter Tryz.func15, Tryz.ntmps15
  go_wp2
  go_loopw [5, 9] (fun _ i wr => ∃ k L, k ≤ n ∧ i = .int .i64 (k : Nat) ∧ Hid (FSet wr w.heap.size L) ∧ Hid (∀ y, y ∈ L ↔ y ∈ ls.take k) ∧ Hid (Below w.heap.size w wr)) (fun _ i _ => n - (intOf i).toNat)
  case atStart => exact ⟨0, [], by omega, rfl, SetM.made _ _ _ _, fun y => by simp, ext_alloc _ _⟩
  case round =>
    obtain ⟨k, L, hk, rfl, HS, HM, HB⟩ := hrel
    by_cases hlt : k < n
    · obtain ⟨x, b, o, hx, rfl, c0, c1, c2⟩ := fcts_cells (H.out.ext csF_len HB.out) hlt
      have HX := Lib.hid hx
      have hk1 : (k : Int) < (n : Int) := by omega
      clear hx
      go_wp2_with (
        (at_mapUpdate
         refine wpList_putM rfl _ _ _ rfl keyF mapT (HS.out.alloc _) rfl x rfl rfl ?_
         intro w2 L2 hs2 hm2 hg2 hz2
         have HS2 := Lib.hid hs2
         have HM2 : Hid (∀ y, y ∈ L2 ↔ y ∈ ls.take (k + 1)) := (fun y => by rw [hm2, HM.out, mem_take_succ HX.out])
         have HB2 : Hid (Below w.heap.size w w2) := (Below.grown (HB.out.trans (Below.mono (ext_alloc _ _) HB.out.size)) hg2 (by have := HB.out.size; simp; omega) (fun j e => by injection e with e; omega))
         clear hs2 hm2 hg2 hz2))
      go_roundw
      case rel => exact ⟨k + 1, L2, by omega, by go_num, HS2, HM2, HB2⟩
      case measure => simp [intOf]; omega
    · obtain rfl : k = n := by omega
      have HE : Hid (∀ y, y ∈ L ↔ y ∈ ls) := fun y => by rw [HM.out, ← HL.out, List.take_length]
      go_wp2
      go_ret
      exact ⟨_, L, rfl, Nat.le_refl _, HS.out, HE.out, HB.out⟩
def ordB : List Fct → Bool
  | x :: y :: l => ltF x y && ordB (y :: l)
  | _ => true
theorem ordB_at : ∀ (l : List Fct), ordB l = true ↔ ∀ k x y, l[k]? = some x → l[k + 1]? = some y → ltF x y = true
  | [] => by simp [ordB]
  | [x] => by simp [ordB]
  | x :: y :: l => by
    rw [ordB, Bool.and_eq_true, ordB_at (y :: l)]
    constructor
    · rintro ⟨h1, h2⟩ k a b ha hb
      cases k with
      | zero =>
        simp at ha hb
        subst ha hb
        exact h1
      | succ k => exact h2 k a b (by simpa using ha) (by simpa using hb)
    · intro h
      exact ⟨h 0 x y rfl rfl, fun k a b ha hb => h (k + 1) a b (by simpa using ha) (by simpa using hb)⟩
theorem ordered_any (a : Option Addr) (n c : Nat) (ls : List Fct) (w : World) (h : FctS w a n ls) :
    Calls Tryz.prog 13 #[.slice a n c] w fun e w' => e = .returned (.bool (ordB ls)) ∧ Below w.heap.size w w' := by
  have H := Lib.hid h
  have HL := Lib.hid h.1
  have hn := h.2.1
  clear h
  go_enter Tryz.func13, Tryz.ntmps13
  go_wp2
  go_loopw [2, 3] (fun _ i wr => ∃ k, 1 ≤ k ∧ i = .int .i64 (k : Nat) ∧ k ≤ n + 1 ∧ Hid (∀ j x y, j + 1 < k → ls[j]? = some x → ls[j + 1]? = some y → ltF x y = true) ∧ Hid (Below w.heap.size w wr)) (fun _ i _ => n + 1 - (intOf i).toNat)
  case atStart => exact ⟨1, by omega, rfl, by omega, fun j x y hj => by omega, Below.refl _ _⟩
  case round =>
    obtain ⟨k, hk0, rfl, hk, HM, HB⟩ := hrel
    by_cases hlt : k < n
    · obtain ⟨k', rfl⟩ : ∃ k', k = k' + 1 := ⟨k - 1, by omega⟩
      obtain ⟨x, b, o, hx, rfl, c0, c1, c2⟩ := fcts_cells (H.out.ext csF_len HB.out) (show k' < n by omega)
      obtain ⟨y, b', o', hy, e', d0, d1, d2⟩ := fcts_cells (H.out.ext csF_len HB.out) hlt
      injection e' with e'
      injection e' with e1 e2 _
      subst e1 e2
      have HX := Lib.hid hx
      have HY := Lib.hid hy
      have hk1 : ((k' : Int) + 1) < (n : Int) := by omega
      have hk2 : ((k' : Int) + 1 - 1) = (k' : Int) := by omega
      clear hx hy
      have g0 : ∀ m : ExtW wr, m.val.cell? ⟨b, o + k' * 3, none⟩ = some (.int .i64 x.1) := fun m => ExtW.cell c0 m
      have g1 : ∀ m : ExtW wr, m.val.cell? ⟨b, o + k' * 3 + 1, none⟩ = some (.bool x.2.1) := fun m => ExtW.cell c1 m
      have g2 : ∀ m : ExtW wr, m.val.cell? ⟨b, o + k' * 3 + 2, none⟩ = some (.int .i64 x.2.2) := fun m => ExtW.cell c2 m
      have g3 : ∀ m : ExtW wr, m.val.cell? ⟨b, o + (k' + 1) * 3, none⟩ = some (.int .i64 y.1) := fun m => ExtW.cell d0 m
      have g4 : ∀ m : ExtW wr, m.val.cell? ⟨b, o + (k' + 1) * 3 + 1, none⟩ = some (.bool y.2.1) := fun m => ExtW.cell d1 m
      have g5 : ∀ m : ExtW wr, m.val.cell? ⟨b, o + (k' + 1) * 3 + 2, none⟩ = some (.int .i64 y.2.2) := fun m => ExtW.cell d2 m
      have HA : Hid (∀ m : ExtW wr, Calls Tryz.prog 29 #[fctV x, fctV y] m.val fun e w'' => e = .returned (.bool (ltF x y)) ∧ ∃ m' : ExtW wr, w'' = m'.val) := fun m => quiet_ext ((aheadF_any x y m.val).mono fun e w' ⟨h1, h2⟩ => ⟨h1, h2.below⟩)
      clear c0 c1 c2 d0 d1 d2
      go_upto_region 4 with (fail)
      refine region_ext (by kernel_rfl) (by kernel_rfl) ?_
      repeat (go_big_quiet_step (first | (go_at_call 29; exact HA.out _)))
      refine wpQuiet_nil ?_
      rintro _ ⟨m, rfl⟩
      have HB2 := Lib.hid (ext_trans HB.out m.ext)
      clear g0 g1 g2 g3 g4 g5 HA
      cases hxy : ltF x y with
      | true =>
        have HM2 : Hid (∀ j u v, j + 1 < k' + 1 + 1 → ls[j]? = some u → ls[j + 1]? = some v → ltF u v = true) := fun j u v hj hu hv => by
          by_cases e : j = k'
          · subst e
            rw [HX.out] at hu
            rw [HY.out] at hv
            cases hu
            cases hv
            exact hxy
          · exact HM.out j u v (by omega) hu hv
        clear hxy
        go_wp2
        go_roundw
        case rel => exact ⟨k' + 1 + 1, by omega, by go_num, by omega, HM2, HB2⟩
        case measure => simp [intOf]; omega
      | false =>
        have HE : Hid (ordB ls = false) := by
          rw [Hid]
          cases h : ordB ls with
          | false => rfl
          | true => rw [(ordB_at ls).1 h k' x y HX.out HY.out] at hxy; cases hxy
        clear hxy
        go_wp2
        go_ret
        exact ⟨by rw [HE.out]; rfl, HB2.out⟩
    · have HE : Hid (ordB ls = true) := (ordB_at ls).2 fun j x y hx hy => HM.out j x y (by have := (List.getElem?_eq_some_iff.1 hy).1; rw [HL.out] at this; omega) hx hy
      have hlt' : ¬ (k : Int) < (n : Int) := by omega
      go_wp2
      go_ret
      exact ⟨by rw [HE.out]; rfl, HB.out⟩
end
end Go.Proofs.YtfpbfdkjcmlimaaGreat
