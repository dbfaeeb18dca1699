/-
  Machines, blocks of whatever size; the law's own knows.
-/
import Derived.Test.YtfpbfdkjcmlimaaGreatKW
import Derived.Test.YtfpbfdkjcmlimaaGreatFY
namespace Go.Proofs.YtfpbfdkjcmlimaaGreat
set_option linter.unusedSimpArgs false
set_option linter.unusedVariables false
set_option linter.unusedSectionVars false
set_option maxRecDepth 100000
set_option maxHeartbeats 40000000
section
open Go.RowKit
def MachAny (w : World) (m : MachD) (a1 : Option Addr) (n1 c1 : Nat) (a2 : Option Addr) (n2 c2 : Nat) : Prop := Ints w a1 n1 m.args ∧ Ints w a2 n2 m.saved ∧ n1 ≤ c1 ∧ n2 ≤ c2 ∧ I64 m.regs ∧ I64 m.ret
def BlkAny (w : World) (s : BlkD) (ia : Option Addr) (n c : Nat) : Prop := InsS w ia n s.ins ∧ n ≤ c ∧ I64 s.kind ∧ I64 s.a ∧ I64 s.to0 ∧ I64 s.to1
theorem MachAny.ok {w : World} {m : MachD} {a1 a2 : Option Addr} {n1 c1 n2 c2 : Nat} (h : MachAny w m a1 n1 c1 a2 n2 c2) (h1 : n1 ≤ 300) (h2 : n2 ≤ 300) : MachOK w m a1 n1 c1 a2 n2 c2 := ⟨h.1, h.2.1, h.2.2.1, h.2.2.2.1, by omega, by omega, h.2.2.2.2⟩
theorem BlkAny.ok {w : World} {s : BlkD} {ia : Option Addr} {n c : Nat} (h : BlkAny w s ia n c) (h1 : n ≤ 300) : BlkOK w s ia n c := ⟨h.1, by omega, h.2⟩
theorem sameFact_eq (x y : Fct) : sameFact x y = true ↔ x = y := by
  obtain ⟨a, b, c⟩ := x
  obtain ⟨d, e, f⟩ := y
  simp [sameFact]
def knowsB (ls : List Fct) (x : Fct) : Bool := decide (x ∈ ls)
theorem knows_any (a : Option Addr) (n c : Nat) (ls : List Fct) (x : Fct) (w : World) (h : FctS w a n ls) :
    Calls Tryz.prog 10 #[.slice a n c, fctV x] w fun e w' => e = .returned (.bool (knowsB ls x)) ∧ Below w.heap.size w w' := by
  have H := Lib.hid h
  have HL := Lib.hid h.1
  have hn := h.2.1
  clear h
  go_enter Tryz.func10, Tryz.ntmps10
  go_wp2
  obtain ⟨W0, hW0⟩ : ∃ W0, W0 = w.alloc (Obj.cells #[.int .i64 x.1, .bool x.2.1, .int .i64 x.2.2] 36) := ⟨_, rfl⟩
  have hr : W0.heap[w.heap.size]? = some (.cells #[.int .i64 x.1, .bool x.2.1, .int .i64 x.2.2] 36) := by rw [hW0]; exact heap_alloc_new _ _
  have hb : Below w.heap.size w W0 := by rw [hW0]; exact ext_alloc _ _
  rw [← hW0]
  have HR := Lib.hid hr
  have HB0 := Lib.hid hb
  clear hW0 hr hb
  have hq := fun w (y : Fct) => eql_fact w y x
  go_loopw [5] (fun i wr => ∃ k : Nat, i = .int .i64 k ∧ k ≤ n ∧ Hid (∀ j y, j < k → ls[j]? = some y → y ≠ x) ∧ Hid (Below W0.heap.size W0 wr)) (fun i _ => n + 1 - (intOf i).toNat)
  case atStart => exact ⟨0, rfl, by omega, fun j y hj => absurd hj (by omega), Below.refl _ _⟩
  case round =>
    obtain ⟨k, rfl, hk, HM, HB⟩ := hrel
    by_cases hlt : k < n
    · obtain ⟨y, b, o, hy, rfl, c0, c1, c2⟩ := fcts_cells (H.out.ext csF_len (ext_trans HB0.out HB.out)) hlt
      have HY := Lib.hid hy
      have hx := block_ext HB.out HR.out
      have d0 : wr.cell? ⟨w.heap.size, 0, none⟩ = some (.int .i64 x.1) := by rw [cell_of_row _ _ _ _ _ _ hx]; rfl
      have d1 : wr.cell? ⟨w.heap.size, 1, none⟩ = some (.bool x.2.1) := by rw [cell_of_row _ _ _ _ _ _ hx]; rfl
      have d2 : wr.cell? ⟨w.heap.size, 2, none⟩ = some (.int .i64 x.2.2) := by rw [cell_of_row _ _ _ _ _ _ hx]; rfl
      have hlt' : (k : Int) < (n : Int) := by omega
      clear hy hx
      go_upto_region 4 with (fail)
      have g0 : ∀ m : ExtW wr, m.val.cell? ⟨b, o + k * 3, none⟩ = some (.int .i64 y.1) := fun m => ExtW.cell c0 m
      have g1 : ∀ m : ExtW wr, m.val.cell? ⟨b, o + k * 3 + 1, none⟩ = some (.bool y.2.1) := fun m => ExtW.cell c1 m
      have g2 : ∀ m : ExtW wr, m.val.cell? ⟨b, o + k * 3 + 2, none⟩ = some (.int .i64 y.2.2) := fun m => ExtW.cell c2 m
      have g3 : ∀ m : ExtW wr, m.val.cell? ⟨w.heap.size, 0, none⟩ = some (.int .i64 x.1) := fun m => ExtW.cell d0 m
      have g4 : ∀ m : ExtW wr, m.val.cell? ⟨w.heap.size, 1, none⟩ = some (.bool x.2.1) := fun m => ExtW.cell d1 m
      have g5 : ∀ m : ExtW wr, m.val.cell? ⟨w.heap.size, 2, none⟩ = some (.int .i64 x.2.2) := fun m => ExtW.cell d2 m
      have hqy := fun w => hq w y
      clear hq
      cases hxy : sameFact y x with
      | true =>
        rw [hxy] at hqy
        have HE : Hid (knowsB ls x = true) := by
          rw [Hid, knowsB, decide_eq_true_eq, ← (sameFact_eq _ _).1 hxy]
          exact List.mem_of_getElem? HY.out
        clear hxy
        refine region_ext (by kernel_rfl) (by kernel_rfl) ?_
        repeat (go_big_quiet_step (fail))
        refine wpQuiet_nil ?_
        rintro _ ⟨m, rfl⟩
        have HB2 := Lib.hid (ext_trans HB.out m.ext)
        clear g0 g1 g2 g3 g4 g5 hqy c0 c1 c2 d0 d1 d2
        go_wp2
        go_ret
        exact ⟨by rw [HE.out]; rfl, ext_trans HB0.out HB2.out⟩
      | false =>
        rw [hxy] at hqy
        have HM2 : Hid (∀ j z, j < k + 1 → ls[j]? = some z → z ≠ x) := fun j z hj hz => by
          by_cases e : j = k
          · subst e
            rw [HY.out] at hz
            cases hz
            intro c
            rw [(sameFact_eq _ _).2 c] at hxy
            cases hxy
          · exact HM.out j z (by omega) hz
        clear hxy
        refine region_ext (by kernel_rfl) (by kernel_rfl) ?_
        repeat (go_big_quiet_step (fail))
        refine wpQuiet_nil ?_
        rintro _ ⟨m, rfl⟩
        have HB2 := Lib.hid (ext_trans HB.out m.ext)
        clear g0 g1 g2 g3 g4 g5 hqy c0 c1 c2 d0 d1 d2
        go_wp2
        go_roundw
        case rel => exact ⟨k + 1, by go_num, by omega, HM2, HB2⟩
        case measure => simp [intOf]; omega
    · have HE : Hid (knowsB ls x = false) := by
        rw [Hid, knowsB, decide_eq_false_iff_not]
        intro hm
        obtain ⟨j, hj, e⟩ := List.mem_iff_getElem.1 hm
        exact HM.out j x (by have := HL.out; omega) (by rw [List.getElem?_eq_getElem hj, e]) rfl
      have hlt' : ¬ (k : Int) < (n : Int) := by omega
      clear hq
      go_wp2
      go_ret
      exact ⟨by rw [HE.out]; rfl, ext_trans HB0.out HB.out⟩
end
end Go.Proofs.YtfpbfdkjcmlimaaGreat
