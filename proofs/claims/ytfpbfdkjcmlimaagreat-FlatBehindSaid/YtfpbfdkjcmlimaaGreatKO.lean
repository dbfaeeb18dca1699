/-
  check.walk: the closure that goes over what is inserted.
-/
import Derived.Test.YtfpbfdkjcmlimaaGreatKM
namespace Go.Proofs.YtfpbfdkjcmlimaaGreat
set_option linter.unusedSimpArgs false
set_option linter.unusedVariables false
set_option linter.unusedSectionVars false
set_option maxRecDepth 100000
set_option maxHeartbeats 40000000
section
open Go.RowKit
abbrev KF := (Fct → Bool) × Int
noncomputable def insKF (m : MachD) (x : KF) (r : InsR) : KF := (stepIn (headL (readsL m r.d)) (headL (writesL m r.d)) x.1, atV x.1 (headL (readsL m r.d)) x.2)
noncomputable def skipKF (m : MachD) (l : List InsR) (x : KF) : KF := l.foldl (insKF m) x
abbrev ptrO (g : Nat) : Obj := .cells #[.pointer (some ⟨g, 0, none⟩)] 56
abbrev numO (k : Nat) : Obj := .cells #[.int .i64 (k : Int)] 3
def WJ (m : MachD) (a1 : Option Addr) (n1 c1 : Nat) (a2 : Option Addr) (n2 c2 : Nat) (U : Univ) (g b : Nat) (t : BlkD) (ta : Option Addr) (nt ct : Nat) (pt p9 p10 k : Nat) (x : KF) (W : World) : Prop :=
  W.heap[pt]? = some (blkO t ta nt ct) ∧ W.heap[p9]? = some (ptrO g) ∧ W.heap[p10]? = some (numO k) ∧ WS m a1 n1 c1 a2 n2 c2 U g b x.1 x.2 W
def WU (g b p10 : Nat) (k : Nat) : Prop := k = p10 ∨ WT g b k
section
variable {m : MachD} {a1 : Option Addr} {n1 c1 : Nat} {a2 : Option Addr} {n2 c2 : Nat} {U : Univ} {g b : Nat} {t : BlkD} {ta : Option Addr} {nt ct pt p9 p10 k : Nat} {x : KF} {W W' : World}
theorem WJ.ext (h : WJ m a1 n1 c1 a2 n2 c2 U g b t ta nt ct pt p9 p10 k x W) (hb : Below W.heap.size W W') : WJ m a1 n1 c1 a2 n2 c2 U g b t ta nt ct pt p9 p10 k x W' :=
  ⟨block_ext hb h.1, block_ext hb h.2.1, block_ext hb h.2.2.1, h.2.2.2.ext hb⟩
theorem WJ.ne (h : WJ m a1 n1 c1 a2 n2 c2 U g b t ta nt ct pt p9 p10 k x W) : pt ≠ p10 ∧ p9 ≠ p10 ∧ ¬ WT g b pt ∧ ¬ WT g b p9 ∧ ¬ WT g b p10 := by
  obtain ⟨h1, h2, h3, h4, L, ⟨es, c, h5, _⟩, _⟩ := h
  refine ⟨fun e => ?_, fun e => ?_, ?_, ?_, ?_⟩
  · rw [e, h3] at h1; cases h1
  · rw [e, h3] at h2; cases h2
  · rintro (e | e)
    · rw [e, h4] at h1; cases h1
    · rw [e, h5] at h1; cases h1
  · rintro (e | e)
    · rw [e, h4] at h2; cases h2
    · rw [e, h5] at h2; cases h2
  · rintro (e | e)
    · rw [e, h4] at h3; cases h3
    · rw [e, h5] at h3; cases h3
theorem WJ.step (h : WJ m a1 n1 c1 a2 n2 c2 U g b t ta nt ct pt p9 p10 k x W) {x' : KF} (hs : WS m a1 n1 c1 a2 n2 c2 U g b x'.1 x'.2 W') (hc : Chg (WT g b) W W') : WJ m a1 n1 c1 a2 n2 c2 U g b t ta nt ct pt p9 p10 k x' W' := by
  obtain ⟨_, _, n3, n4, n5⟩ := h.ne
  have lt : ∀ {q : Nat} {o : Obj}, W.heap[q]? = some o → q < W.heap.size := fun h => (Array.getElem?_eq_some_iff.1 h).1
  exact ⟨(hc.block _ (lt h.1) n3).trans h.1, (hc.block _ (lt h.2.1) n4).trans h.2.1, (hc.block _ (lt h.2.2.1) n5).trans h.2.2.1, hs⟩
theorem WJ.next (h : WJ m a1 n1 c1 a2 n2 c2 U g b t ta nt ct pt p9 p10 k x W) (k' : Nat) : WJ m a1 n1 c1 a2 n2 c2 U g b t ta nt ct pt p9 p10 k' x (W.setCell ⟨p10, 0, none⟩ (.int .i64 (k' : Int))) := by
  obtain ⟨n1, n2, n3, n4, n5⟩ := h.ne
  refine ⟨(heap_setCell_other _ _ _ _ n1).trans h.1, (heap_setCell_other _ _ _ _ n2).trans h.2.1, heap_setCell_same _ _ 0 _ _ _ h.2.2.1, ?_, ?_⟩
  · exact (heap_setCell_other _ _ _ _ (fun e => n5 (.inl e.symm))).trans h.2.2.2.1
  · obtain ⟨L, h1, h2⟩ := h.2.2.2.2
    exact ⟨L, h1.setCell _ _, h2⟩
end
theorem ins_kind (r : InsR) (h : isInserted r = true) : hasV r.d.op = 3 ∨ hasV r.d.op = 18 ∨ hasV r.d.op = 17 := ins_kinds r h
theorem skipW_any (m : MachD) (a1 a2 : Option Addr) (n1 c1 n2 c2 : Nat) (U : Univ) (hU : U.ok) (g b : Nat) (t : BlkD) (ta : Option Addr) (nt ct pt p9 p10 k0 : Nat) (x0 : KF) (w0 w : World) (hm : MachOK w0 m a1 n1 c1 a2 n2 c2) (ht : BlkOK w0 t ta nt ct) (hb0 : Below w0.heap.size w0 w)
    (hg0 : w0.heap.size ≤ g) (hbb0 : w0.heap.size ≤ b) (hp0 : w0.heap.size ≤ p10) (hk0 : k0 ≤ nt) (hJ : WJ m a1 n1 c1 a2 n2 c2 U g b t ta nt ct pt p9 p10 k0 x0 w) (hP : ∀ r ∈ t.ins, isInserted r = true → headL (writesL m r.d) ∈ U.P) :
    Calls Tryz.prog 31 #[.pointer (some ⟨p10, 0, none⟩), .pointer (some ⟨pt, 0, none⟩), .pointer (some ⟨p9, 0, none⟩)] w
      fun e w' => e = .returned (.tuple #[]) ∧ WJ m a1 n1 c1 a2 n2 c2 U g b t ta nt ct pt p9 p10 (k0 + ((t.ins.drop k0).takeWhile isInserted).length) (skipKF m ((t.ins.drop k0).takeWhile isInserted) x0) w' ∧ Chg (WU g b p10) w w' := by
  have HG : Hid (∀ W, Chg (WU g b p10) w W → Below w0.heap.size w0 W) := fun W hc => hb0.trans (hc.below hb0.size (fun k hk => by rcases hk with rfl | rfl | rfl <;> assumption))
  have HM := Lib.hid hm
  have HT := Lib.hid ht
  have HJ := Lib.hid hJ
  have HPP := Lib.hid hP
  have HLt := Lib.hid ht.1.1.1
  have q3 := ht.2.1
  clear hm ht hJ hP hb0
  go_enter Tryz.func31, Tryz.ntmps31
  go_wp2
  go_loopg [3] nt (fun gg _ wr => ∃ (k : Nat) (x : KF), k ≤ nt ∧ k0 ≤ k ∧ nt - k ≤ gg ∧ Hid (WJ m a1 n1 c1 a2 n2 c2 U g b t ta nt ct pt p9 p10 k x wr) ∧ Hid (k0 + ((t.ins.drop k0).takeWhile isInserted).length = k + ((t.ins.drop k).takeWhile isInserted).length) ∧ Hid (skipKF m ((t.ins.drop k0).takeWhile isInserted) x0 = skipKF m ((t.ins.drop k).takeWhile isInserted) x) ∧ Hid (Chg (WU g b p10) w wr))
  case atStart => exact ⟨k0, x0, hk0, Nat.le_refl _, by omega, HJ, rfl, rfl, Chg.refl _ _⟩
  case round =>
    obtain ⟨k, x, hk, hkk, hgg, HE, HN, HL, HC⟩ := hrel
    obtain ⟨b1, b2, b3, b4⟩ := HE.out
    have x0' : wr.cell? ⟨p10, 0, none⟩ = some (.int .i64 (k : Int)) := by rw [cell_of_row _ _ _ _ _ _ b3]; rfl
    have t0 : wr.cell? ⟨pt, 0, none⟩ = some (.slice ta nt ct) := by rw [cell_of_row _ _ _ _ _ _ b1]; rfl
    have HB2 := Lib.hid b2
    have HB7 := Lib.hid (HG.out _ HC.out)
    clear b1 b2 b3 b4
    by_cases hlt : k < nt
    · obtain ⟨r, q, o, hr, hok, rfl, g0, g1, g2, g3, g4, g5, g6, g7⟩ := ((HT.out.1.ext HB7.out)).cells hlt
      cases hq : isInserted r with
      | false =>
        have hI : insB r.d.op = false := hq
        have HE0 : Hid (((t.ins.drop k).takeWhile isInserted) = []) := by rw [Hid, drop_cons hr]; simp [hq]
        clear hr hok
        go_wp2_with (go_at_call 21; refine (inserted_any _ _).mono ?_; rw [hI]; rintro e w' ⟨rfl, rfl⟩)
        go_end0
        refine ⟨rfl, ?_, HC.out⟩
        rw [HN.out, HL.out, HE0.out]
        exact HE.out
      | true =>
        have hI : insB r.d.op = true := hq
        have hi0 : (0 : Int) ≤ (k : Int) := by omega
        have hi1 : (k : Int) < (nt : Int) := by omega
        have HGr := Lib.hid hr
        have HOK := Lib.hid hok
        have HKD := Lib.hid (ins_kind r hq)
        obtain ⟨p1, hp1⟩ := ins_reads m r hq
        obtain ⟨p2, hp2⟩ := ins_writes m r hq
        have HP1 := Lib.hid hp1
        have HP2 := Lib.hid hp2
        have HPU : Hid (p2 ∈ U.P) := by have := HPP.out r (List.mem_of_getElem? hr) hq; rw [hp2] at this; exact this
        clear hr hok hp1 hp2
        go_wp2_with (go_at_call 21; refine (inserted_any _ _).mono ?_; rw [hI]; rintro e w' ⟨rfl, rfl⟩)
        have kp9 : ∀ n : ExtW wr, n.val.cell? ⟨p9, 0, none⟩ = some (.pointer (some ⟨g, 0, none⟩)) := fun n => by rw [cell_of_row _ _ _ _ _ _ (block_ext n.ext HB2.out)]; rfl
        have kt0 : ∀ n : ExtW wr, n.val.cell? ⟨pt, 0, none⟩ = some (.slice (some ⟨q, o, none⟩) nt ct) := fun n => cell_ext n.ext t0
        have kx0 : ∀ n : ExtW wr, n.val.cell? ⟨p10, 0, none⟩ = some (.int .i64 (k : Int)) := fun n => cell_ext n.ext x0'
        have kg0 : ∀ n : ExtW wr, n.val.cell? ⟨q, o + k * 8, none⟩ = some (.int .i64 r.d.op) := fun n => cell_ext n.ext g0
        have kg1 : ∀ n : ExtW wr, n.val.cell? ⟨q, o + k * 8 + 1, none⟩ = some (.int .i64 r.d.dst) := fun n => cell_ext n.ext g1
        have kg2 : ∀ n : ExtW wr, n.val.cell? ⟨q, o + k * 8 + 2, none⟩ = some (.int .i64 r.d.a) := fun n => cell_ext n.ext g2
        have kg3 : ∀ n : ExtW wr, n.val.cell? ⟨q, o + k * 8 + 3, none⟩ = some (.int .i64 r.d.b) := fun n => cell_ext n.ext g3
        have kg4 : ∀ n : ExtW wr, n.val.cell? ⟨q, o + k * 8 + 4, none⟩ = some (.int .i64 r.d.imm) := fun n => cell_ext n.ext g4
        have kg5 : ∀ n : ExtW wr, n.val.cell? ⟨q, o + k * 8 + 5, none⟩ = some (.int .i64 r.d.callee) := fun n => cell_ext n.ext g5
        have kg6 : ∀ n : ExtW wr, n.val.cell? ⟨q, o + k * 8 + 6, none⟩ = some (.slice r.aa r.na r.ca) := fun n => cell_ext n.ext g6
        have kg7 : ∀ n : ExtW wr, n.val.cell? ⟨q, o + k * 8 + 7, none⟩ = some (.int .i64 r.d.many) := fun n => cell_ext n.ext g7
        clear x0' t0 g0 g1 g2 g3 g4 g5 g6 g7
        refine region_mix (fun w' => ∃ n' : ExtW wr, w' = n'.val) [(0, 6, some (6, false))] (by kernel_rfl) (by kernel_rfl) ⟨⟨_, ext_drewN (Below.refl _ _) 1⟩, rfl⟩ ?_
        simp only [wpMix, List.take_succ_cons, List.take_zero, List.drop_succ_cons, List.drop_zero]
        repeat (go_big_quiet_step (fail))
        refine wpQuiet_nil ?_
        refine wpOp_at rfl rfl ?_
        go_simp
        refine (insertedW_any m a1 a2 n1 c1 n2 c2 U hU g b x.1 x.2 r p1 p2 wr.drew ((HM.out.ext HB7.out).ext (ext_drewN (Below.refl _ _) 1)) (HOK.out.ext (ext_drewN (Below.refl _ _) 1)) HKD.out HP1.out HP2.out HE.out.2.2.2 HPU.out).mono ?_
        rintro e w3 ⟨rfl, hs3, hc3⟩
        have hc3 : Chg (WT g b) wr w3 := ⟨hc3.os, hc3.tape, hc3.output, hc3.size, hc3.block⟩
        have HE3 : Hid (WJ m a1 n1 c1 a2 n2 c2 U g b t (some ⟨q, o, none⟩) nt ct pt p9 p10 k (insKF m x r) w3) := HE.out.step (x' := insKF m x r) (by unfold insKF; rw [HP1.out, HP2.out]; exact hs3) hc3
        have HC3 : Hid (Chg (WU g b p10) w w3) := HC.out.trans (hc3.mono fun k hk => .inr hk)
        clear hs3 hc3 kp9 kt0 kx0 kg0 kg1 kg2 kg3 kg4 kg5 kg6 kg7 HE HC HB2
        try simp only [Act.put, List.setIfInBounds_toArray, List.set_cons_succ, List.set_cons_zero]
        refine NoPanic.normal ?_
        obtain ⟨b1, b2, b3, b4⟩ := HE3.out
        have x4 : w3.cell? ⟨p10, 0, none⟩ = some (.int .i64 (k : Int)) := by rw [cell_of_row _ _ _ _ _ _ b3]; rfl
        have x5 : w3.frozen? ⟨p10, 0, none⟩ = false := frozen_of_row _ _ _ _ _ b3
        clear b1 b2 b3 b4
        go_wp2
        go_roundg (nt - (k + 1))
        case measure => omega
        case rel =>
          have hdr := drop_cons HGr.out
          have hat := HE3.out.next (k + 1)
          refine ⟨k + 1, insKF m x r, by omega, by omega, Nat.le_refl _, ?_, ?_, ?_, HC3.out.setCell (Or.inl (Or.inl rfl)) _⟩
          · rw [show ((k + 1 : Nat) : Int) = (k : Int) + 1 by omega] at hat
            exact hat
          · rw [Hid, HN.out, hdr, List.takeWhile_cons, hq]
            simp; omega
          · rw [Hid, HL.out, hdr, List.takeWhile_cons, hq]
            rfl
    · obtain rfl : k = nt := by omega
      have HE0 : Hid (((t.ins.drop k).takeWhile isInserted) = []) := by rw [Hid, List.drop_of_length_le (by rw [HLt.out]; omega)]; rfl
      go_wp2
      go_end0
      refine ⟨rfl, ?_, HC.out⟩
      rw [HN.out, HL.out, HE0.out]
      exact HE.out
end
end Go.Proofs.YtfpbfdkjcmlimaaGreat
