/-
  SlotShares: the walk of the law.
-/
import Derived.Test.YtkakanjoeofjcaaAwake
import Derived.Test.YtkakanjoeofjcaaZed
namespace Go.Proofs.Ytkakanjoeofjcaa
open Go.RowKit

abbrev frC (v1 v2 : Value) (tm sz : Int) (t : TypeId) : Obj := .cells #[v1, v2, .int .i64 tm, .int .i64 sz] t (0, 0)

theorem Lent.base {w : World} {base base' : Nat} {v : Value} {xs : List Int} (h : Lent w base v xs) (hb : base' ≤ base) : Lent w base' v xs := by
  obtain ⟨g, cap, rfl, hown⟩ := h
  exact ⟨g, cap, rfl, ownsRow_base hown hb⟩
theorem unDrewB {a w : World} (h : Below a.drew.heap.size a.drew w) : Below a.heap.size a w := ⟨h.os, h.tape, h.output, h.size, h.block⟩
/-- what lies there once both lists are lent and the variable is made -/
def LF (W0 : World) (p : Nat) (v1 v2 : Value) (fv hv : List Int) (W : World) : Prop :=
  W.heap[p]? = some (frC nilS nilS 0 0 28) ∧ W0.heap.size ≤ p ∧ Lent W W0.heap.size v1 fv ∧ Lent W W0.heap.size v2 hv ∧ Below W0.heap.size W0 W

def LG (W0 : World) (p : Nat) (v1 v2 : Value) (tm sz : Int) (fv hv : List Int) (W : World) : Prop :=
  W.heap[p]? = some (frC v1 v2 tm sz 28) ∧ W0.heap.size ≤ p ∧ Lent W W0.heap.size v1 fv ∧ Lent W W0.heap.size v2 hv ∧ Below W0.heap.size W0 W
theorem Lent.set {w : World} {base : Nat} {v : Value} {xs : List Int} (h : Lent w base v xs) {p : Nat} {cs : Array Value} {t : TypeId} {fz : Nat × Nat} (hp : w.heap[p]? = some (.cells cs t fz)) (ht : t ≠ 3) (i : Nat) (u : Value) : Lent (w.setCell ⟨p, i, none⟩ u) base v xs := by
  obtain ⟨g, cap, rfl, hown⟩ := h
  refine ⟨g, cap, rfl, hown.1, ?_⟩
  rcases hown.2 with h2 | ⟨g', cap', cur, hv, hb, hh, r⟩
  · exact Or.inl h2
  · refine Or.inr ⟨g', cap', cur, hv, hb, ?_, r⟩
    rw [Below.heap_setCell _ _ _ _ (fun e => by
      simp only at e
      subst e
      rw [hp] at hh
      injection hh with hh
      injection hh with _ h3
      exact ht h3)]
    exact hh
theorem LF.store {W0 : World} {p : Nat} {v1 v2 : Value} {fv hv : List Int} {W : World} (h : LF W0 p v1 v2 fv hv W) (tm sz : Int) :
    LG W0 p v1 v2 tm sz fv hv ((((W.setCell ⟨p, 0, none⟩ v1).setCell ⟨p, 1, none⟩ v2).setCell ⟨p, 2, none⟩ (.int .i64 tm)).setCell ⟨p, 3, none⟩ (.int .i64 sz)) := by
  obtain ⟨hp, hle, h1, h2, hb⟩ := h
  have s0 := set_block W p 0 _ _ v1 hp
  have s1 := set_block _ p 1 _ _ v2 s0
  have s2 := set_block _ p 2 _ _ (.int .i64 tm) s1
  have s3 := set_block _ p 3 _ _ (.int .i64 sz) s2
  exact ⟨s3, hle, (((h1.set hp (by decide) _ _).set s0 (by decide) _ _).set s1 (by decide) _ _).set s2 (by decide) _ _, (((h2.set hp (by decide) _ _).set s0 (by decide) _ _).set s1 (by decide) _ _).set s2 (by decide) _ _,
    (((hb.setCell (p := ⟨p, 0, none⟩) hle _).setCell (p := ⟨p, 1, none⟩) hle _).setCell (p := ⟨p, 2, none⟩) hle _).setCell (p := ⟨p, 3, none⟩) hle _⟩

theorem LG.ext {W0 : World} {p : Nat} {v1 v2 : Value} {tm sz : Int} {fv hv : List Int} {W W' : World} (h : LG W0 p v1 v2 tm sz fv hv W) (hb : Below W.heap.size W W') : LG W0 p v1 v2 tm sz fv hv W' :=
  ⟨(hb.block _ (Array.getElem?_eq_some_iff.1 h.1).1).trans h.1, h.2.1, h.2.2.1.ext hb, h.2.2.2.1.ext hb, ext_trans h.2.2.2.2 hb⟩
theorem lent_ints {w w0 : World} {base g k : Nat} {a : Option Addr} {n : Nat} {xs : List Int} (h : Lent w base (.slice (some ⟨g, 0, none⟩) xs.length k) xs) (hi : Ints w0 a n xs) : Ints w (some ⟨g, 0, none⟩) xs.length xs := by
  have hw : ∀ x ∈ xs, I64 x := fun x hx => by
    obtain ⟨j, hj, e⟩ := List.getElem_of_mem hx
    obtain ⟨_, _, _, _, h64⟩ := hi.2.2 j (by rw [← hi.1]; exact hj)
    simpa [List.getD, hj, e] using h64
  obtain ⟨a', c', e, h'⟩ := h.ints (by rw [hi.1]; exact hi.2.1) hw
  injection e with e1 _ _
  rw [e1]; exact h'

set_option maxRecDepth 100000 in
set_option maxHeartbeats 8000000 in
theorem shares_walk (a1 a2 a : Option Addr) (n1 c1 n2 c2 n c : Nat) (fv hv xs : List Int) (tm sz x y : Int) (w : World) (h1 : Ints w a1 n1 fv) (h2 : Ints w a2 n2 hv) (h : Ints w a n xs) :
    Calls Try.prog 4 #[.agg #[.slice a1 n1 c1, .slice a2 n2 c2, .int .i64 tm, .int .i64 sz], .slice a n c, .int .i64 x, .int .i64 y] w fun e w' =>
      e = .returned (.bool true) ∧ Below w.heap.size w w' := by
  have q1 := h1.2.1
  have q2 := h2.2.1
  have q3 := h.2.1
  have H1 := Lib.hid h1
  have H2 := Lib.hid h2
  have H := Lib.hid h
  clear h1 h2 h
  by_cases hbig : 300 < n1 + n2 + n
  · have hbig' : (300 : Int) < (n1 : Int) + (n2 : Int) + (n : Int) := by omega
    go_enter Try.func4, Try.ntmps4
    go_wp2_with (go_at_call 9; refine (awake_any _).mono ?_; rintro e w' ⟨rfl, hb⟩; have HB := Lib.hid hb; clear hb)
    go_ret
    exact ⟨rfl, ext_trans (ext_alloc _ _) HB.out⟩
  · have hbig' : (n1 : Int) + (n2 : Int) + (n : Int) ≤ 300 := by omega
    go_enter Try.func4, Try.ntmps4
    go_wp2_with fail
    have hW0 : Below w.heap.size w (w.alloc (frC (.slice a1 n1 c1) (.slice a2 n2 c2) tm sz 28)) := ext_alloc _ _
    have hfr : (w.alloc (frC (.slice a1 n1 c1) (.slice a2 n2 c2) tm sz 28)).heap[w.heap.size]? = some (frC (.slice a1 n1 c1) (.slice a2 n2 c2) tm sz 28) := World.alloc_heap_new w _
    have hlt0 : w.heap.size < (w.alloc (frC (.slice a1 n1 c1) (.slice a2 n2 c2) tm sz 28)).heap.size := by simp
    have I1 := Lib.hid (H1.out.ext hW0)
    have I2 := Lib.hid (H2.out.ext hW0)
    have I3 := Lib.hid (H.out.ext hW0)
    have HW0 := Lib.hid hW0
    have HFR := Lib.hid hfr
    have HLT := Lib.hid hlt0
    clear hW0 hfr hlt0 H1 H2 H
    generalize w.alloc (frC (.slice a1 n1 c1) (.slice a2 n2 c2) tm sz 28) = W0 at *
    have g0 : ∀ m : ExtW W0, m.val.cell? ⟨w.heap.size, 0, none⟩ = some (.slice a1 n1 c1) := fun m => by simp [World.cell?, m.ext.block _ HLT.out, HFR.out]
    have g1 : ∀ m : ExtW W0, m.val.cell? ⟨w.heap.size, 1, none⟩ = some (.slice a2 n2 c2) := fun m => by simp [World.cell?, m.ext.block _ HLT.out, HFR.out]
    have g2 : ∀ m : ExtW W0, m.val.cell? ⟨w.heap.size, 2, none⟩ = some (.int .i64 tm) := fun m => by simp [World.cell?, m.ext.block _ HLT.out, HFR.out]
    have g3 : ∀ m : ExtW W0, m.val.cell? ⟨w.heap.size, 3, none⟩ = some (.int .i64 sz) := fun m => by simp [World.cell?, m.ext.block _ HLT.out, HFR.out]
    have SX : ∃ m : ExtW W0, W0.drew = m.val := ⟨⟨_, ext_drewN (Below.refl _ _) 1⟩, rfl⟩
    refine z_start (fun w' => ∃ m : ExtW W0, w' = m.val) (by kernel_rfl) ?_
    refine z_reads 0 2 (by kernel_rfl) SX ?_
    simp only [List.take_succ_cons, List.take_zero, List.drop_succ_cons, List.drop_zero]
    repeat (go_big_quiet_step (fail))
    refine wpQuiet_nil ?_
    refine z_reads 3 2 (by kernel_rfl) SX ?_
    simp only [List.take_succ_cons, List.take_zero, List.drop_succ_cons, List.drop_zero]
    repeat (go_big_quiet_step (fail))
    refine wpQuiet_nil ?_
    refine z_reads 6 4 (by kernel_rfl) SX ?_
    simp only [List.take_succ_cons, List.take_zero, List.drop_succ_cons, List.drop_zero]
    repeat (go_big_quiet_step (fail))
    refine wpQuiet_nil ?_
    clear SX
    refine z_two 2 11 (by kernel_rfl) ?_ ?_
    · refine wpOp_at rfl rfl ?_
      go_simp
      refine (lentInts_any a1 n1 c1 fv W0.drew (I1.out.drewN 1) (by omega)).mono ?_
      rintro e w1 ⟨v1, rfl, hL1, hb1⟩
      obtain ⟨b1, k1, e1, _⟩ := id hL1
      subst e1
      have E1 : Below W0.heap.size W0 w1 := unDrewB hb1
      refine ⟨Or.inr ⟨⟨w1, E1⟩, rfl⟩, ?_⟩
      try simp only [Act.put, List.setIfInBounds_toArray, List.set_cons_succ, List.set_cons_zero]
      refine z_two 5 11 (by kernel_rfl) ?_ ?_
      · refine wpOp_at rfl rfl ?_
        go_simp
        refine (lentInts_any a2 n2 c2 hv w1 (I2.out.ext E1) (by omega)).mono ?_
        rintro e w2 ⟨v2, rfl, hL2, hb2⟩
        obtain ⟨b2, k2, e2, _⟩ := id hL2
        subst e2
        have E2 : Below W0.heap.size W0 w2 := ext_trans E1 hb2
        refine ⟨Or.inr ⟨⟨w2, E2⟩, rfl⟩, ?_⟩
        try simp only [Act.put, List.setIfInBounds_toArray, List.set_cons_succ, List.set_cons_zero]
        refine z_reads 10 1 (by kernel_rfl) ⟨⟨_, E2⟩, rfl⟩ ?_
        simp only [List.take_succ_cons, List.take_zero, List.drop_succ_cons, List.drop_zero]
        repeat (go_big_quiet_step (fail))
        refine wpQuiet_nil ?_
        refine z_one 11 (by kernel_rfl) ?_
        refine wpOp_at rfl rfl ?_
        go_simp
        refine ⟨Or.inr ⟨⟨_, ext_trans E2 (ext_alloc _ _)⟩, rfl⟩, ?_⟩
        have hL2' : Lent w2 W0.heap.size (.slice (some ⟨b2, 0, none⟩) hv.length k2) hv := hL2.base E1.size
        have HLF : Hid (LF W0 w2.heap.size (.slice (some ⟨b1, 0, none⟩) fv.length k1) (.slice (some ⟨b2, 0, none⟩) hv.length k2) fv hv (w2.alloc (frC nilS nilS 0 0 28))) := ⟨World.alloc_heap_new w2 _, E2.size, (hL1.ext hb2).ext (ext_alloc _ _), hL2'.ext (ext_alloc _ _), ext_trans E2 (ext_alloc _ _)⟩
        clear hL1 hL2 hL2' hb1 hb2 E1 E2
        generalize hp : w2.heap.size = p at HLF ⊢
        generalize (w2.alloc (frC nilS nilS 0 0 28)) = W at *
        clear hp
        refine z_one 12 (by kernel_rfl) ?_
        refine wpOp_at rfl rfl ?_
        have p0 : W.cell? ⟨p, 0, none⟩ = some nilS := by simp [World.cell?, HLF.out.1]
        have p1 : W.cell? ⟨p, 1, none⟩ = some nilS := by simp [World.cell?, HLF.out.1]
        have p2 : W.cell? ⟨p, 2, none⟩ = some (.int .i64 0) := by simp [World.cell?, HLF.out.1]
        have p3 : W.cell? ⟨p, 3, none⟩ = some (.int .i64 0) := by simp [World.cell?, HLF.out.1]
        have z0 : W.frozen? ⟨p, 0, none⟩ = false := by simp [World.frozen?, HLF.out.1]
        have z1 : W.frozen? ⟨p, 1, none⟩ = false := by simp [World.frozen?, HLF.out.1]
        have z2 : W.frozen? ⟨p, 2, none⟩ = false := by simp [World.frozen?, HLF.out.1]
        have z3 : W.frozen? ⟨p, 3, none⟩ = false := by simp [World.frozen?, HLF.out.1]
        go_simp
        refine ⟨Or.inl (by kernel_rfl), ?_⟩
        refine z_done (by kernel_rfl) ?_
        have HLG := Lib.hid (HLF.out.store tm sz)
        clear HLF p0 p1 p2 p3 z0 z1 z2 z3 g0 g1 g2 g3
        generalize (((W.setCell ⟨p, 0, none⟩ (.slice (some ⟨b1, 0, none⟩) fv.length k1)).setCell ⟨p, 1, none⟩ (.slice (some ⟨b2, 0, none⟩) hv.length k2)).setCell ⟨p, 2, none⟩ (.int .i64 tm)).setCell ⟨p, 3, none⟩ (.int .i64 sz) = W5 at *
        have hE5 := HLG.out.2.2.2.2
        have x0 : W5.cell? ⟨w.heap.size, 0, none⟩ = some (.slice a1 n1 c1) := by simp [World.cell?, hE5.block _ HLT.out, HFR.out]
        go_wp2_with (first
          | (go_at_call 10
             refine (lentInts_any a n c xs _ (by exact I3.out.ext HLG.out.2.2.2.2) (by omega)).mono ?_
             rintro e w6 ⟨v3, rfl, hL3, hb6⟩
             obtain ⟨b3, k3, e3, _⟩ := id hL3
             subst e3
             have HLG6 := Lib.hid (HLG.out.ext hb6)
             have HL3 := Lib.hid (hL3.base HLG.out.2.2.2.2.size)
             have hE6 := HLG6.out.2.2.2.2
             have y0 : w6.cell? ⟨w.heap.size, 0, none⟩ = some (.slice a1 n1 c1) := by simp [World.cell?, hE6.block _ HLT.out, HFR.out]
             have y1 : w6.cell? ⟨w.heap.size, 1, none⟩ = some (.slice a2 n2 c2) := by simp [World.cell?, hE6.block _ HLT.out, HFR.out]
             have y2 : w6.cell? ⟨w.heap.size, 2, none⟩ = some (.int .i64 tm) := by simp [World.cell?, hE6.block _ HLT.out, HFR.out]
             have y3 : w6.cell? ⟨w.heap.size, 3, none⟩ = some (.int .i64 sz) := by simp [World.cell?, hE6.block _ HLT.out, HFR.out]
             clear hL3 hb6 hE6 hE5 x0))
        have hE7 : Below W0.heap.size W0 (w6.alloc (frC (.slice a1 n1 c1) (.slice a2 n2 c2) tm sz 32)) := ext_trans HLG6.out.2.2.2.2 (ext_alloc _ _)
        have HLG7 := Lib.hid (HLG6.out.ext (ext_alloc w6 (frC (.slice a1 n1 c1) (.slice a2 n2 c2) tm sz 32)))
        have HL7 := Lib.hid (HL3.out.ext (ext_alloc w6 (frC (.slice a1 n1 c1) (.slice a2 n2 c2) tm sz 32)))
        have hq : (w6.alloc (frC (.slice a1 n1 c1) (.slice a2 n2 c2) tm sz 32)).heap[w6.heap.size]? = some (frC (.slice a1 n1 c1) (.slice a2 n2 c2) tm sz 32) := World.alloc_heap_new w6 _
        have HQ := Lib.hid hq
        have hql : w6.heap.size < (w6.alloc (frC (.slice a1 n1 c1) (.slice a2 n2 c2) tm sz 32)).heap.size := by simp
        have HQL := Lib.hid hql
        have HE7 := Lib.hid hE7
        clear hq hql hE7 HLG HLG6 HL3 y0 y1 y2 y3
        generalize hW7 : w6.alloc (frC (.slice a1 n1 c1) (.slice a2 n2 c2) tm sz 32) = W7 at *
        clear hW7
        generalize w6.heap.size = r at *
        have fP := fun m : ExtW W7 => (m.ext.block _ (Array.getElem?_eq_some_iff.1 HLG7.out.1).1).trans HLG7.out.1
        have fQ := fun m : ExtW W7 => (m.ext.block _ HQL.out).trans HQ.out
        have fF := fun m : ExtW W7 => ((ext_trans HE7.out m.ext).block _ HLT.out).trans HFR.out
        have pc0 : ∀ m : ExtW W7, m.val.cell? ⟨p, 0, none⟩ = some (.slice (some ⟨b1, 0, none⟩) fv.length k1) := fun m => by simp [World.cell?, fP m]
        have pc1 : ∀ m : ExtW W7, m.val.cell? ⟨p, 1, none⟩ = some (.slice (some ⟨b2, 0, none⟩) hv.length k2) := fun m => by simp [World.cell?, fP m]
        have pc2 : ∀ m : ExtW W7, m.val.cell? ⟨p, 2, none⟩ = some (.int .i64 tm) := fun m => by simp [World.cell?, fP m]
        have pc3 : ∀ m : ExtW W7, m.val.cell? ⟨p, 3, none⟩ = some (.int .i64 sz) := fun m => by simp [World.cell?, fP m]
        have rc0 : ∀ m : ExtW W7, m.val.cell? ⟨r, 0, none⟩ = some (.slice a1 n1 c1) := fun m => by simp [World.cell?, fQ m]
        have rc1 : ∀ m : ExtW W7, m.val.cell? ⟨r, 1, none⟩ = some (.slice a2 n2 c2) := fun m => by simp [World.cell?, fQ m]
        have rc2 : ∀ m : ExtW W7, m.val.cell? ⟨r, 2, none⟩ = some (.int .i64 tm) := fun m => by simp [World.cell?, fQ m]
        have rc3 : ∀ m : ExtW W7, m.val.cell? ⟨r, 3, none⟩ = some (.int .i64 sz) := fun m => by simp [World.cell?, fQ m]
        have fc0 : ∀ m : ExtW W7, m.val.cell? ⟨w.heap.size, 0, none⟩ = some (.slice a1 n1 c1) := fun m => by simp [World.cell?, fF m]
        have fc1 : ∀ m : ExtW W7, m.val.cell? ⟨w.heap.size, 1, none⟩ = some (.slice a2 n2 c2) := fun m => by simp [World.cell?, fF m]
        have fc2 : ∀ m : ExtW W7, m.val.cell? ⟨w.heap.size, 2, none⟩ = some (.int .i64 tm) := fun m => by simp [World.cell?, fF m]
        have fc3 : ∀ m : ExtW W7, m.val.cell? ⟨w.heap.size, 3, none⟩ = some (.int .i64 sz) := fun m => by simp [World.cell?, fF m]
        clear fP fQ fF
        have HIv1 : Hid (∀ m : ExtW W7, Ints m.val (some ⟨b1, 0, none⟩) fv.length fv) := fun m => lent_ints (HLG7.out.2.2.1.ext m.ext) I1.out
        have HIx3 : Hid (∀ m : ExtW W7, Ints m.val (some ⟨b3, 0, none⟩) xs.length xs) := fun m => lent_ints (HL7.out.ext m.ext) I3.out
        have K1 : Hid (∀ m : ExtW W7, Calls Try.prog 18 #[.slice (some ⟨b1, 0, none⟩) fv.length k1, .slice a1 n1 c1] m.val fun e w' => e = .returned (.bool true) ∧ ∃ q, w' = m.val.drewN q) :=
          fun m => keptInts_any W0.heap.size _ a1 n1 c1 fv _ (HLG7.out.2.2.1.ext m.ext) ((I1.out.ext HE7.out).ext m.ext) (by omega)
        have K2 : Hid (∀ m : ExtW W7, Calls Try.prog 18 #[.slice (some ⟨b2, 0, none⟩) hv.length k2, .slice a2 n2 c2] m.val fun e w' => e = .returned (.bool true) ∧ ∃ q, w' = m.val.drewN q) :=
          fun m => keptInts_any W0.heap.size _ a2 n2 c2 hv _ (HLG7.out.2.2.2.1.ext m.ext) ((I2.out.ext HE7.out).ext m.ext) (by omega)
        have K3 : Hid (∀ m : ExtW W7, Calls Try.prog 18 #[.slice (some ⟨b3, 0, none⟩) xs.length k3, .slice a n c] m.val fun e w' => e = .returned (.bool true) ∧ ∃ q, w' = m.val.drewN q) :=
          fun m => keptInts_any W0.heap.size _ a n c xs _ (HL7.out.ext m.ext) ((I3.out.ext HE7.out).ext m.ext) (by omega)
        refine region_ext (by kernel_rfl) (by kernel_rfl) ?_
        repeat (go_big_quiet_step (first
          | (go_at_call 15; exact quiet_ext (share_any _ _ _ _ _ _ _ _ _ fv xs _ _ _ _ _ (HIv1.out _) (HIx3.out _)))
          | (go_at_call 16; exact quiet_ext (share25_any _ _ _ _ _ _ _ _ _ fv xs _ _ _ _ _ ((I1.out.ext HE7.out).ext (ExtW.ext _)) ((I3.out.ext HE7.out).ext (ExtW.ext _))))
          | (go_at_call 9; exact quiet_ext (awake_any _))
          | (go_at_call 18; (first | with_reducible exact quiet_ext_drew (K1.out _) | with_reducible exact quiet_ext_drew (K2.out _) | with_reducible exact quiet_ext_drew (K3.out _)))))
        refine wpQuiet_nil ?_
        rintro _ ⟨m, rfl⟩
        have HM := Lib.hid (ext_trans (ext_trans HW0.out HE7.out) m.ext)
        generalize m.val = W8 at *
        go_wp2
        go_ret
        exact ⟨rfl, HM.out⟩
      · refine wpOp_at rfl rfl ?_
        go_simp
        refine ⟨Or.inr ⟨⟨_, ext_trans E1 (ext_alloc _ _)⟩, rfl⟩, ?_⟩
        refine z_one 5 (by kernel_rfl) ?_
        refine wpOp_at rfl rfl ?_
        go_simp
        refine (lentInts_any a2 n2 c2 hv (w1.alloc (frC nilS nilS 0 0 28)) ((I2.out.ext E1).ext (ext_alloc _ _)) (by omega)).mono ?_
        rintro e w2 ⟨v2, rfl, hL2, hb2⟩
        obtain ⟨b2, k2, e2, _⟩ := id hL2
        subst e2
        have E2 : Below W0.heap.size W0 w2 := ext_trans (ext_trans E1 (ext_alloc _ _)) hb2
        refine ⟨Or.inr ⟨⟨w2, E2⟩, rfl⟩, ?_⟩
        try simp only [Act.put, List.setIfInBounds_toArray, List.set_cons_succ, List.set_cons_zero]
        refine z_reads 10 1 (by kernel_rfl) ⟨⟨_, E2⟩, rfl⟩ ?_
        simp only [List.take_succ_cons, List.take_zero, List.drop_succ_cons, List.drop_zero]
        repeat (go_big_quiet_step (fail))
        refine wpQuiet_nil ?_
        have hL2' : Lent w2 W0.heap.size (.slice (some ⟨b2, 0, none⟩) hv.length k2) hv := hL2.base (ext_trans E1 (ext_alloc _ _)).size
        have HLF : Hid (LF W0 w1.heap.size (.slice (some ⟨b1, 0, none⟩) fv.length k1) (.slice (some ⟨b2, 0, none⟩) hv.length k2) fv hv w2) := ⟨(hb2.block _ (by simp)).trans (World.alloc_heap_new w1 _), E1.size, (hL1.ext (ext_alloc _ _)).ext hb2, hL2', E2⟩
        clear hL1 hL2 hL2' hb1 hb2 E1 E2
        generalize hp : w1.heap.size = p at HLF ⊢
        generalize w2 = W at *
        clear hp
        refine z_one 12 (by kernel_rfl) ?_
        refine wpOp_at rfl rfl ?_
        have p0 : W.cell? ⟨p, 0, none⟩ = some nilS := by simp [World.cell?, HLF.out.1]
        have p1 : W.cell? ⟨p, 1, none⟩ = some nilS := by simp [World.cell?, HLF.out.1]
        have p2 : W.cell? ⟨p, 2, none⟩ = some (.int .i64 0) := by simp [World.cell?, HLF.out.1]
        have p3 : W.cell? ⟨p, 3, none⟩ = some (.int .i64 0) := by simp [World.cell?, HLF.out.1]
        have z0 : W.frozen? ⟨p, 0, none⟩ = false := by simp [World.frozen?, HLF.out.1]
        have z1 : W.frozen? ⟨p, 1, none⟩ = false := by simp [World.frozen?, HLF.out.1]
        have z2 : W.frozen? ⟨p, 2, none⟩ = false := by simp [World.frozen?, HLF.out.1]
        have z3 : W.frozen? ⟨p, 3, none⟩ = false := by simp [World.frozen?, HLF.out.1]
        go_simp
        refine ⟨Or.inl (by kernel_rfl), ?_⟩
        refine z_done (by kernel_rfl) ?_
        have HLG := Lib.hid (HLF.out.store tm sz)
        clear HLF p0 p1 p2 p3 z0 z1 z2 z3 g0 g1 g2 g3
        generalize (((W.setCell ⟨p, 0, none⟩ (.slice (some ⟨b1, 0, none⟩) fv.length k1)).setCell ⟨p, 1, none⟩ (.slice (some ⟨b2, 0, none⟩) hv.length k2)).setCell ⟨p, 2, none⟩ (.int .i64 tm)).setCell ⟨p, 3, none⟩ (.int .i64 sz) = W5 at *
        have hE5 := HLG.out.2.2.2.2
        have x0 : W5.cell? ⟨w.heap.size, 0, none⟩ = some (.slice a1 n1 c1) := by simp [World.cell?, hE5.block _ HLT.out, HFR.out]
        go_wp2_with (first
          | (go_at_call 10
             refine (lentInts_any a n c xs _ (by exact I3.out.ext HLG.out.2.2.2.2) (by omega)).mono ?_
             rintro e w6 ⟨v3, rfl, hL3, hb6⟩
             obtain ⟨b3, k3, e3, _⟩ := id hL3
             subst e3
             have HLG6 := Lib.hid (HLG.out.ext hb6)
             have HL3 := Lib.hid (hL3.base HLG.out.2.2.2.2.size)
             have hE6 := HLG6.out.2.2.2.2
             have y0 : w6.cell? ⟨w.heap.size, 0, none⟩ = some (.slice a1 n1 c1) := by simp [World.cell?, hE6.block _ HLT.out, HFR.out]
             have y1 : w6.cell? ⟨w.heap.size, 1, none⟩ = some (.slice a2 n2 c2) := by simp [World.cell?, hE6.block _ HLT.out, HFR.out]
             have y2 : w6.cell? ⟨w.heap.size, 2, none⟩ = some (.int .i64 tm) := by simp [World.cell?, hE6.block _ HLT.out, HFR.out]
             have y3 : w6.cell? ⟨w.heap.size, 3, none⟩ = some (.int .i64 sz) := by simp [World.cell?, hE6.block _ HLT.out, HFR.out]
             clear hL3 hb6 hE6 hE5 x0))
        have hE7 : Below W0.heap.size W0 (w6.alloc (frC (.slice a1 n1 c1) (.slice a2 n2 c2) tm sz 32)) := ext_trans HLG6.out.2.2.2.2 (ext_alloc _ _)
        have HLG7 := Lib.hid (HLG6.out.ext (ext_alloc w6 (frC (.slice a1 n1 c1) (.slice a2 n2 c2) tm sz 32)))
        have HL7 := Lib.hid (HL3.out.ext (ext_alloc w6 (frC (.slice a1 n1 c1) (.slice a2 n2 c2) tm sz 32)))
        have hq : (w6.alloc (frC (.slice a1 n1 c1) (.slice a2 n2 c2) tm sz 32)).heap[w6.heap.size]? = some (frC (.slice a1 n1 c1) (.slice a2 n2 c2) tm sz 32) := World.alloc_heap_new w6 _
        have HQ := Lib.hid hq
        have hql : w6.heap.size < (w6.alloc (frC (.slice a1 n1 c1) (.slice a2 n2 c2) tm sz 32)).heap.size := by simp
        have HQL := Lib.hid hql
        have HE7 := Lib.hid hE7
        clear hq hql hE7 HLG HLG6 HL3 y0 y1 y2 y3
        generalize hW7 : w6.alloc (frC (.slice a1 n1 c1) (.slice a2 n2 c2) tm sz 32) = W7 at *
        clear hW7
        generalize w6.heap.size = r at *
        have fP := fun m : ExtW W7 => (m.ext.block _ (Array.getElem?_eq_some_iff.1 HLG7.out.1).1).trans HLG7.out.1
        have fQ := fun m : ExtW W7 => (m.ext.block _ HQL.out).trans HQ.out
        have fF := fun m : ExtW W7 => ((ext_trans HE7.out m.ext).block _ HLT.out).trans HFR.out
        have pc0 : ∀ m : ExtW W7, m.val.cell? ⟨p, 0, none⟩ = some (.slice (some ⟨b1, 0, none⟩) fv.length k1) := fun m => by simp [World.cell?, fP m]
        have pc1 : ∀ m : ExtW W7, m.val.cell? ⟨p, 1, none⟩ = some (.slice (some ⟨b2, 0, none⟩) hv.length k2) := fun m => by simp [World.cell?, fP m]
        have pc2 : ∀ m : ExtW W7, m.val.cell? ⟨p, 2, none⟩ = some (.int .i64 tm) := fun m => by simp [World.cell?, fP m]
        have pc3 : ∀ m : ExtW W7, m.val.cell? ⟨p, 3, none⟩ = some (.int .i64 sz) := fun m => by simp [World.cell?, fP m]
        have rc0 : ∀ m : ExtW W7, m.val.cell? ⟨r, 0, none⟩ = some (.slice a1 n1 c1) := fun m => by simp [World.cell?, fQ m]
        have rc1 : ∀ m : ExtW W7, m.val.cell? ⟨r, 1, none⟩ = some (.slice a2 n2 c2) := fun m => by simp [World.cell?, fQ m]
        have rc2 : ∀ m : ExtW W7, m.val.cell? ⟨r, 2, none⟩ = some (.int .i64 tm) := fun m => by simp [World.cell?, fQ m]
        have rc3 : ∀ m : ExtW W7, m.val.cell? ⟨r, 3, none⟩ = some (.int .i64 sz) := fun m => by simp [World.cell?, fQ m]
        have fc0 : ∀ m : ExtW W7, m.val.cell? ⟨w.heap.size, 0, none⟩ = some (.slice a1 n1 c1) := fun m => by simp [World.cell?, fF m]
        have fc1 : ∀ m : ExtW W7, m.val.cell? ⟨w.heap.size, 1, none⟩ = some (.slice a2 n2 c2) := fun m => by simp [World.cell?, fF m]
        have fc2 : ∀ m : ExtW W7, m.val.cell? ⟨w.heap.size, 2, none⟩ = some (.int .i64 tm) := fun m => by simp [World.cell?, fF m]
        have fc3 : ∀ m : ExtW W7, m.val.cell? ⟨w.heap.size, 3, none⟩ = some (.int .i64 sz) := fun m => by simp [World.cell?, fF m]
        clear fP fQ fF
        have HIv1 : Hid (∀ m : ExtW W7, Ints m.val (some ⟨b1, 0, none⟩) fv.length fv) := fun m => lent_ints (HLG7.out.2.2.1.ext m.ext) I1.out
        have HIx3 : Hid (∀ m : ExtW W7, Ints m.val (some ⟨b3, 0, none⟩) xs.length xs) := fun m => lent_ints (HL7.out.ext m.ext) I3.out
        have K1 : Hid (∀ m : ExtW W7, Calls Try.prog 18 #[.slice (some ⟨b1, 0, none⟩) fv.length k1, .slice a1 n1 c1] m.val fun e w' => e = .returned (.bool true) ∧ ∃ q, w' = m.val.drewN q) :=
          fun m => keptInts_any W0.heap.size _ a1 n1 c1 fv _ (HLG7.out.2.2.1.ext m.ext) ((I1.out.ext HE7.out).ext m.ext) (by omega)
        have K2 : Hid (∀ m : ExtW W7, Calls Try.prog 18 #[.slice (some ⟨b2, 0, none⟩) hv.length k2, .slice a2 n2 c2] m.val fun e w' => e = .returned (.bool true) ∧ ∃ q, w' = m.val.drewN q) :=
          fun m => keptInts_any W0.heap.size _ a2 n2 c2 hv _ (HLG7.out.2.2.2.1.ext m.ext) ((I2.out.ext HE7.out).ext m.ext) (by omega)
        have K3 : Hid (∀ m : ExtW W7, Calls Try.prog 18 #[.slice (some ⟨b3, 0, none⟩) xs.length k3, .slice a n c] m.val fun e w' => e = .returned (.bool true) ∧ ∃ q, w' = m.val.drewN q) :=
          fun m => keptInts_any W0.heap.size _ a n c xs _ (HL7.out.ext m.ext) ((I3.out.ext HE7.out).ext m.ext) (by omega)
        refine region_ext (by kernel_rfl) (by kernel_rfl) ?_
        repeat (go_big_quiet_step (first
          | (go_at_call 15; exact quiet_ext (share_any _ _ _ _ _ _ _ _ _ fv xs _ _ _ _ _ (HIv1.out _) (HIx3.out _)))
          | (go_at_call 16; exact quiet_ext (share25_any _ _ _ _ _ _ _ _ _ fv xs _ _ _ _ _ ((I1.out.ext HE7.out).ext (ExtW.ext _)) ((I3.out.ext HE7.out).ext (ExtW.ext _))))
          | (go_at_call 9; exact quiet_ext (awake_any _))
          | (go_at_call 18; (first | with_reducible exact quiet_ext_drew (K1.out _) | with_reducible exact quiet_ext_drew (K2.out _) | with_reducible exact quiet_ext_drew (K3.out _)))))
        refine wpQuiet_nil ?_
        rintro _ ⟨m, rfl⟩
        have HM := Lib.hid (ext_trans (ext_trans HW0.out HE7.out) m.ext)
        generalize m.val = W8 at *
        go_wp2
        go_ret
        exact ⟨rfl, HM.out⟩
    · refine wpOp_at rfl rfl ?_
      go_simp
      refine ⟨Or.inr ⟨⟨_, ext_drewN (ext_alloc _ _) 1⟩, rfl⟩, ?_⟩
      refine z_one 2 (by kernel_rfl) ?_
      refine wpOp_at rfl rfl ?_
      go_simp
      refine (lentInts_any a1 n1 c1 fv (W0.alloc (frC nilS nilS 0 0 28)).drew ((I1.out.ext (ext_alloc _ _)).drewN 1) (by omega)).mono ?_
      rintro e w1 ⟨v1, rfl, hL1, hb1⟩
      obtain ⟨b1, k1, e1, _⟩ := id hL1
      subst e1
      have E1 : Below W0.heap.size W0 w1 := ext_trans (ext_alloc W0 _) (unDrewB hb1)
      refine ⟨Or.inr ⟨⟨w1, E1⟩, rfl⟩, ?_⟩
      try simp only [Act.put, List.setIfInBounds_toArray, List.set_cons_succ, List.set_cons_zero]
      refine z_one 5 (by kernel_rfl) ?_
      refine wpOp_at rfl rfl ?_
      go_simp
      refine (lentInts_any a2 n2 c2 hv w1 (I2.out.ext E1) (by omega)).mono ?_
      rintro e w2 ⟨v2, rfl, hL2, hb2⟩
      obtain ⟨b2, k2, e2, _⟩ := id hL2
      subst e2
      have E2 : Below W0.heap.size W0 w2 := ext_trans E1 hb2
      refine ⟨Or.inr ⟨⟨w2, E2⟩, rfl⟩, ?_⟩
      try simp only [Act.put, List.setIfInBounds_toArray, List.set_cons_succ, List.set_cons_zero]
      refine z_reads 10 1 (by kernel_rfl) ⟨⟨_, E2⟩, rfl⟩ ?_
      simp only [List.take_succ_cons, List.take_zero, List.drop_succ_cons, List.drop_zero]
      repeat (go_big_quiet_step (fail))
      refine wpQuiet_nil ?_
      have hL1' : Lent w1 W0.heap.size (.slice (some ⟨b1, 0, none⟩) fv.length k1) fv := hL1.base (ext_alloc W0 _).size
      have hL2' : Lent w2 W0.heap.size (.slice (some ⟨b2, 0, none⟩) hv.length k2) hv := hL2.base E1.size
      have hbb : W0.heap.size < w1.heap.size := by have := (unDrewB hb1).size; simp at this; omega
      have HLF : Hid (LF W0 W0.heap.size (.slice (some ⟨b1, 0, none⟩) fv.length k1) (.slice (some ⟨b2, 0, none⟩) hv.length k2) fv hv w2) := ⟨(hb2.block _ hbb).trans (((unDrewB hb1).block _ (by simp)).trans (World.alloc_heap_new W0 _)), Nat.le_refl _, hL1'.ext hb2, hL2', E2⟩
      clear hL1 hL1' hL2 hL2' hb1 hb2 E1 E2 hbb
      generalize hp : W0.heap.size = p at HLF ⊢
      generalize w2 = W at *
      clear hp
      refine z_one 12 (by kernel_rfl) ?_
      refine wpOp_at rfl rfl ?_
      have p0 : W.cell? ⟨p, 0, none⟩ = some nilS := by simp [World.cell?, HLF.out.1]
      have p1 : W.cell? ⟨p, 1, none⟩ = some nilS := by simp [World.cell?, HLF.out.1]
      have p2 : W.cell? ⟨p, 2, none⟩ = some (.int .i64 0) := by simp [World.cell?, HLF.out.1]
      have p3 : W.cell? ⟨p, 3, none⟩ = some (.int .i64 0) := by simp [World.cell?, HLF.out.1]
      have z0 : W.frozen? ⟨p, 0, none⟩ = false := by simp [World.frozen?, HLF.out.1]
      have z1 : W.frozen? ⟨p, 1, none⟩ = false := by simp [World.frozen?, HLF.out.1]
      have z2 : W.frozen? ⟨p, 2, none⟩ = false := by simp [World.frozen?, HLF.out.1]
      have z3 : W.frozen? ⟨p, 3, none⟩ = false := by simp [World.frozen?, HLF.out.1]
      go_simp
      refine ⟨Or.inl (by kernel_rfl), ?_⟩
      refine z_done (by kernel_rfl) ?_
      have HLG := Lib.hid (HLF.out.store tm sz)
      clear HLF p0 p1 p2 p3 z0 z1 z2 z3 g0 g1 g2 g3
      generalize (((W.setCell ⟨p, 0, none⟩ (.slice (some ⟨b1, 0, none⟩) fv.length k1)).setCell ⟨p, 1, none⟩ (.slice (some ⟨b2, 0, none⟩) hv.length k2)).setCell ⟨p, 2, none⟩ (.int .i64 tm)).setCell ⟨p, 3, none⟩ (.int .i64 sz) = W5 at *
      have hE5 := HLG.out.2.2.2.2
      have x0 : W5.cell? ⟨w.heap.size, 0, none⟩ = some (.slice a1 n1 c1) := by simp [World.cell?, hE5.block _ HLT.out, HFR.out]
      go_wp2_with (first
        | (go_at_call 10
           refine (lentInts_any a n c xs _ (by exact I3.out.ext HLG.out.2.2.2.2) (by omega)).mono ?_
           rintro e w6 ⟨v3, rfl, hL3, hb6⟩
           obtain ⟨b3, k3, e3, _⟩ := id hL3
           subst e3
           have HLG6 := Lib.hid (HLG.out.ext hb6)
           have HL3 := Lib.hid (hL3.base HLG.out.2.2.2.2.size)
           have hE6 := HLG6.out.2.2.2.2
           have y0 : w6.cell? ⟨w.heap.size, 0, none⟩ = some (.slice a1 n1 c1) := by simp [World.cell?, hE6.block _ HLT.out, HFR.out]
           have y1 : w6.cell? ⟨w.heap.size, 1, none⟩ = some (.slice a2 n2 c2) := by simp [World.cell?, hE6.block _ HLT.out, HFR.out]
           have y2 : w6.cell? ⟨w.heap.size, 2, none⟩ = some (.int .i64 tm) := by simp [World.cell?, hE6.block _ HLT.out, HFR.out]
           have y3 : w6.cell? ⟨w.heap.size, 3, none⟩ = some (.int .i64 sz) := by simp [World.cell?, hE6.block _ HLT.out, HFR.out]
           clear hL3 hb6 hE6 hE5 x0))
      have hE7 : Below W0.heap.size W0 (w6.alloc (frC (.slice a1 n1 c1) (.slice a2 n2 c2) tm sz 32)) := ext_trans HLG6.out.2.2.2.2 (ext_alloc _ _)
      have HLG7 := Lib.hid (HLG6.out.ext (ext_alloc w6 (frC (.slice a1 n1 c1) (.slice a2 n2 c2) tm sz 32)))
      have HL7 := Lib.hid (HL3.out.ext (ext_alloc w6 (frC (.slice a1 n1 c1) (.slice a2 n2 c2) tm sz 32)))
      have hq : (w6.alloc (frC (.slice a1 n1 c1) (.slice a2 n2 c2) tm sz 32)).heap[w6.heap.size]? = some (frC (.slice a1 n1 c1) (.slice a2 n2 c2) tm sz 32) := World.alloc_heap_new w6 _
      have HQ := Lib.hid hq
      have hql : w6.heap.size < (w6.alloc (frC (.slice a1 n1 c1) (.slice a2 n2 c2) tm sz 32)).heap.size := by simp
      have HQL := Lib.hid hql
      have HE7 := Lib.hid hE7
      clear hq hql hE7 HLG HLG6 HL3 y0 y1 y2 y3
      generalize hW7 : w6.alloc (frC (.slice a1 n1 c1) (.slice a2 n2 c2) tm sz 32) = W7 at *
      clear hW7
      generalize w6.heap.size = r at *
      have fP := fun m : ExtW W7 => (m.ext.block _ (Array.getElem?_eq_some_iff.1 HLG7.out.1).1).trans HLG7.out.1
      have fQ := fun m : ExtW W7 => (m.ext.block _ HQL.out).trans HQ.out
      have fF := fun m : ExtW W7 => ((ext_trans HE7.out m.ext).block _ HLT.out).trans HFR.out
      have pc0 : ∀ m : ExtW W7, m.val.cell? ⟨p, 0, none⟩ = some (.slice (some ⟨b1, 0, none⟩) fv.length k1) := fun m => by simp [World.cell?, fP m]
      have pc1 : ∀ m : ExtW W7, m.val.cell? ⟨p, 1, none⟩ = some (.slice (some ⟨b2, 0, none⟩) hv.length k2) := fun m => by simp [World.cell?, fP m]
      have pc2 : ∀ m : ExtW W7, m.val.cell? ⟨p, 2, none⟩ = some (.int .i64 tm) := fun m => by simp [World.cell?, fP m]
      have pc3 : ∀ m : ExtW W7, m.val.cell? ⟨p, 3, none⟩ = some (.int .i64 sz) := fun m => by simp [World.cell?, fP m]
      have rc0 : ∀ m : ExtW W7, m.val.cell? ⟨r, 0, none⟩ = some (.slice a1 n1 c1) := fun m => by simp [World.cell?, fQ m]
      have rc1 : ∀ m : ExtW W7, m.val.cell? ⟨r, 1, none⟩ = some (.slice a2 n2 c2) := fun m => by simp [World.cell?, fQ m]
      have rc2 : ∀ m : ExtW W7, m.val.cell? ⟨r, 2, none⟩ = some (.int .i64 tm) := fun m => by simp [World.cell?, fQ m]
      have rc3 : ∀ m : ExtW W7, m.val.cell? ⟨r, 3, none⟩ = some (.int .i64 sz) := fun m => by simp [World.cell?, fQ m]
      have fc0 : ∀ m : ExtW W7, m.val.cell? ⟨w.heap.size, 0, none⟩ = some (.slice a1 n1 c1) := fun m => by simp [World.cell?, fF m]
      have fc1 : ∀ m : ExtW W7, m.val.cell? ⟨w.heap.size, 1, none⟩ = some (.slice a2 n2 c2) := fun m => by simp [World.cell?, fF m]
      have fc2 : ∀ m : ExtW W7, m.val.cell? ⟨w.heap.size, 2, none⟩ = some (.int .i64 tm) := fun m => by simp [World.cell?, fF m]
      have fc3 : ∀ m : ExtW W7, m.val.cell? ⟨w.heap.size, 3, none⟩ = some (.int .i64 sz) := fun m => by simp [World.cell?, fF m]
      clear fP fQ fF
      have HIv1 : Hid (∀ m : ExtW W7, Ints m.val (some ⟨b1, 0, none⟩) fv.length fv) := fun m => lent_ints (HLG7.out.2.2.1.ext m.ext) I1.out
      have HIx3 : Hid (∀ m : ExtW W7, Ints m.val (some ⟨b3, 0, none⟩) xs.length xs) := fun m => lent_ints (HL7.out.ext m.ext) I3.out
      have K1 : Hid (∀ m : ExtW W7, Calls Try.prog 18 #[.slice (some ⟨b1, 0, none⟩) fv.length k1, .slice a1 n1 c1] m.val fun e w' => e = .returned (.bool true) ∧ ∃ q, w' = m.val.drewN q) :=
        fun m => keptInts_any W0.heap.size _ a1 n1 c1 fv _ (HLG7.out.2.2.1.ext m.ext) ((I1.out.ext HE7.out).ext m.ext) (by omega)
      have K2 : Hid (∀ m : ExtW W7, Calls Try.prog 18 #[.slice (some ⟨b2, 0, none⟩) hv.length k2, .slice a2 n2 c2] m.val fun e w' => e = .returned (.bool true) ∧ ∃ q, w' = m.val.drewN q) :=
        fun m => keptInts_any W0.heap.size _ a2 n2 c2 hv _ (HLG7.out.2.2.2.1.ext m.ext) ((I2.out.ext HE7.out).ext m.ext) (by omega)
      have K3 : Hid (∀ m : ExtW W7, Calls Try.prog 18 #[.slice (some ⟨b3, 0, none⟩) xs.length k3, .slice a n c] m.val fun e w' => e = .returned (.bool true) ∧ ∃ q, w' = m.val.drewN q) :=
        fun m => keptInts_any W0.heap.size _ a n c xs _ (HL7.out.ext m.ext) ((I3.out.ext HE7.out).ext m.ext) (by omega)
      refine region_ext (by kernel_rfl) (by kernel_rfl) ?_
      repeat (go_big_quiet_step (first
        | (go_at_call 15; exact quiet_ext (share_any _ _ _ _ _ _ _ _ _ fv xs _ _ _ _ _ (HIv1.out _) (HIx3.out _)))
        | (go_at_call 16; exact quiet_ext (share25_any _ _ _ _ _ _ _ _ _ fv xs _ _ _ _ _ ((I1.out.ext HE7.out).ext (ExtW.ext _)) ((I3.out.ext HE7.out).ext (ExtW.ext _))))
        | (go_at_call 9; exact quiet_ext (awake_any _))
        | (go_at_call 18; (first | with_reducible exact quiet_ext_drew (K1.out _) | with_reducible exact quiet_ext_drew (K2.out _) | with_reducible exact quiet_ext_drew (K3.out _)))))
      refine wpQuiet_nil ?_
      rintro _ ⟨m, rfl⟩
      have HM := Lib.hid (ext_trans (ext_trans HW0.out HE7.out) m.ext)
      generalize m.val = W8 at *
      go_wp2
      go_ret
      exact ⟨rfl, HM.out⟩
          end Go.Proofs.Ytkakanjoeofjcaa
