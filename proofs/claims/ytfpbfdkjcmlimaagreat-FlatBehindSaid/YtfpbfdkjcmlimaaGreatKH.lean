/-
  A walker's steps on what is known; (walker).copied.
-/
import Derived.Test.YtfpbfdkjcmlimaaGreatKG
import Derived.Test.YtfpbfdkjcmlimaaGreatKA
namespace Go.Proofs.YtfpbfdkjcmlimaaGreat
set_option linter.unusedSimpArgs false
set_option linter.unusedVariables false
set_option linter.unusedSectionVars false
set_option maxRecDepth 100000
set_option maxHeartbeats 40000000
section
open Go.RowKit
theorem KS.congr {U : Univ} {b : Nat} {K K' : Fct → Bool} {W : World} (h : KS U b K W) (e : ∀ x, K' x = K x) : KS U b K' W := let ⟨L, h1, h2, h3⟩ := h; ⟨L, h1, fun x => by rw [e]; exact h2 x, h3⟩
theorem WS.congr {m : MachD} {a1 : Option Addr} {n1 c1 : Nat} {a2 : Option Addr} {n2 c2 : Nat} {U : Univ} {g b : Nat} {K K' : Fct → Bool} {fe : Int} {W : World} (h : WS m a1 n1 c1 a2 n2 c2 U g b K fe W) (e : ∀ x, K' x = K x) : WS m a1 n1 c1 a2 n2 c2 U g b K' fe W := ⟨h.1, h.2.congr e⟩
def cutK (K : Fct → Bool) (l : List Fct) : Fct → Bool := fun y => K y && !decide (y ∈ l)
def addK (K : Fct → Bool) (l : List Fct) (h : Fct → Fct) : Fct → Bool := fun y => K y || l.any fun f => decide (y = h f)
theorem addK_nil (K : Fct → Bool) (h : Fct → Fct) : addK K [] h = K := by funext y; simp [addK]
theorem addK_snoc (K : Fct → Bool) (l : List Fct) (h : Fct → Fct) (x : Fct) (y : Fct) : addK K (l ++ [x]) h y = true ↔ addK K l h y = true ∨ y = h x := by
  simp [addK, or_assoc]
section
variable {m : MachD} {a1 : Option Addr} {n1 c1 : Nat} {a2 : Option Addr} {n2 c2 : Nat} {U : Univ} {g b : Nat} {K : Fct → Bool} {fe : Int} {W W' : World}
theorem WS.put (h : WS m a1 n1 c1 a2 n2 c2 U g b K fe W) {L L' : List Fct} {K' : Fct → Bool} {x : Fct} (hm : ∀ y, y ∈ L ↔ K y = true) (hd : ∀ y ∈ L, y.1 ∈ U.V ∧ y.2 ∈ U.P) (hs : FSet W' b L') (hm' : ∀ y, y ∈ L' ↔ y ∈ L ∨ y = x) (hx : x.1 ∈ U.V ∧ x.2 ∈ U.P) (hg : W.grownBy W' (some b)) (hK : ∀ y, K' y = true ↔ K y = true ∨ y = x) : WS m a1 n1 c1 a2 n2 c2 U g b K' fe W' := by
  have hl := h.lt
  refine ⟨(hg.block g hl.1 (fun e => by injection e with e; exact hl.2.2 e.symm)).trans h.1, L', hs, fun y => by rw [hm', hm, hK], fun y hy => ?_⟩
  rcases (hm' y).1 hy with h1 | rfl
  · exact hd y h1
  · exact hx
theorem recs_chg {S : Nat → Prop} {w w' : World} {a : Option Addr} {n : Nat} {ls : List Fct} (h : FctS w a n ls) (hc : Chg S w w') (hn : ∀ g o, a = some ⟨g, o, none⟩ → ¬ S g) : FctS w' a n ls :=
  ⟨h.1, h.2.1, fun j x hx => by
    obtain ⟨g, o, e, hcell⟩ := h.2.2 j x hx
    refine ⟨g, o, e, fun i hi => ?_⟩
    have h1 := hcell i hi
    rw [← h1]
    have h2 : w.cell? ⟨g, o + j * 3 + i, none⟩ = some ((csF x)[i]'(by rw [csF_len]; exact hi)) := by rw [h1]; exact List.getElem?_eq_getElem _
    exact cell_heap' (hc.block g (World.block_lt_of_cell? w _ h2) (hn g o e))⟩
end
theorem atW_any (m : MachD) (a1 a2 : Option Addr) (n1 c1 n2 c2 : Nat) (U : Univ) (hU : U.ok) (g b : Nat) (K : Fct → Bool) (fe : Int) (p : Bool × Int) (W : World) (h : WS m a1 n1 c1 a2 n2 c2 U g b K fe W) :
    Calls Tryz.prog 49 #[.map (some b), .agg #[.bool p.1, .int .i64 p.2]] W (FctsPost W fun y => K y = true ∧ sameLoc y.2 p = true) := by
  obtain ⟨h1, L, hS, hm, hD⟩ := h
  refine (atK_any b L p W hS (KS.len hU hS hD)).mono ?_
  rintro e w' ⟨v, Out, h1, h2, h3, h4, h5⟩
  exact ⟨v, Out, h1, h2, h3, fun y => (h4 y).trans (and_congr_left fun _ => hm y), h5⟩
theorem ofW_any (m : MachD) (a1 a2 : Option Addr) (n1 c1 n2 c2 : Nat) (U : Univ) (hU : U.ok) (g b : Nat) (K : Fct → Bool) (fe : Int) (v : Int) (W : World) (h : WS m a1 n1 c1 a2 n2 c2 U g b K fe W) :
    Calls Tryz.prog 52 #[.map (some b), .int .i64 v] W (FctsPost W fun y => K y = true ∧ (y.1 == v) = true) := by
  obtain ⟨h1, L, hS, hm, hD⟩ := h
  refine (ofK_any b L v W hS (KS.len hU hS hD)).mono ?_
  rintro e w' ⟨v, Out, h1, h2, h3, h4, h5⟩
  exact ⟨v, Out, h1, h2, h3, fun y => (h4 y).trans (and_congr_left fun _ => hm y), h5⟩
theorem forgetW_any (m : MachD) (a1 a2 : Option Addr) (n1 c1 n2 c2 : Nat) (U : Univ) (g b : Nat) (K : Fct → Bool) (fe : Int) (a : Option Addr) (n c : Nat) (ls : List Fct) (W : World) (h : WS m a1 n1 c1 a2 n2 c2 U g b K fe W) (hl : FctS W a n ls) :
    Calls Tryz.prog 51 #[.map (some b), .slice a n c] W fun e W' => e = .returned (.tuple #[]) ∧ WS m a1 n1 c1 a2 n2 c2 U g b (cutK K ls) fe W' ∧ Chg (fun k => k = b) W W' := by
  have hlt := h.lt
  obtain ⟨h1, L, hS, hm, hD⟩ := h
  refine (forget_any b L a n c ls W hS hl).mono ?_
  rintro e w' ⟨h2, L', h3, h4, h5⟩
  refine ⟨h2, ⟨(h5.block g hlt.1 (fun e => hlt.2.2 e.symm)).trans h1, L', h3, fun x => ?_, fun x hx => hD x ((h4 x).1 hx).1⟩, h5⟩
  rw [h4, hm]
  simp [cutK]
theorem cells_ins {W : World} {q : Nat} {r : InsR} (h : W.heap[q]? = some (insO r.d r.aa r.na r.ca)) : W.cell? ⟨q, 0, none⟩ = some (.int .i64 r.d.op) ∧ W.cell? ⟨q, 1, none⟩ = some (.int .i64 r.d.dst) ∧ W.cell? ⟨q, 2, none⟩ = some (.int .i64 r.d.a) := by
  refine ⟨?_, ?_, ?_⟩ <;> (rw [cell_of_row _ _ _ _ _ _ h]; rfl)
def stepOf (dst a : Int) (K : Fct → Bool) : Fct → Bool := fun x => if x.1 = dst then K (a, x.2) else K x
theorem copied_any (m : MachD) (a1 a2 : Option Addr) (n1 c1 n2 c2 : Nat) (U : Univ) (hU : U.ok) (g b : Nat) (K : Fct → Bool) (fe : Int) (r : InsR) (w : World) (hw : WS m a1 n1 c1 a2 n2 c2 U g b K fe w) (hV : r.d.dst ∈ U.V) :
    Calls Tryz.prog 33 #[.pointer (some ⟨g, 0, none⟩), insVR r] w fun e w' => e = .returned (.tuple #[]) ∧ WS m a1 n1 c1 a2 n2 c2 U g b (stepOf r.d.dst r.d.a K) fe w' ∧ Chg (WT g b) w w' := by
  obtain ⟨⟨op, dst, a, bb, imm, callee, args, many⟩, aa, na, ca⟩ := r
  have hlt := hw.lt
  go_enter Tryz.func33, Tryz.ntmps33
  go_upto_region 1 with (fail)
  obtain ⟨W, hW⟩ : ∃ W, W = w.alloc (insO ⟨op, dst, a, bb, imm, callee, args, many⟩ aa na ca) := ⟨_, rfl⟩
  have hr1 : W.heap[w.heap.size]? = some (insO ⟨op, dst, a, bb, imm, callee, args, many⟩ aa na ca) := by rw [hW]; exact heap_alloc_new _ _
  have hB : Below w.heap.size w W := by rw [hW]; exact ext_alloc _ _
  have hsz : W.heap.size = w.heap.size + 1 := by rw [hW]; simp
  rw [show w.alloc (Obj.cells #[.int .i64 op, .int .i64 dst, .int .i64 a, .int .i64 bb, .int .i64 imm, .int .i64 callee, .slice aa na ca, .int .i64 many] 52) = W from hW.symm]
  have HI := Lib.hid hr1
  have HB := Lib.hid hB
  have HSZ := Lib.hid hsz
  have HW := Lib.hid (hw.ext hB)
  clear hW hr1 hB hsz hw
  obtain ⟨i0, i1, i2⟩ := cells_ins (r := ⟨⟨op, dst, a, bb, imm, callee, args, many⟩, aa, na, ca⟩) HI.out
  simp only at i0 i1 i2 hV ⊢
  have hil : w.heap.size < W.heap.size := by rw [HSZ.out]; omega
  by_cases hda : dst = a
  · subst hda
    go_wp2
    refine bodyPost_ret (results_none rfl _ _ _) rfl ?_
    refine ⟨rfl, HW.out.congr fun x => ?_, (Chg.refl _ _).of_ext HB.out⟩
    unfold stepOf
    split
    · rename_i h; rw [← h]
    · rfl
  · have hda' : (dst == a) = false := by simpa using hda
    have HDA := Lib.hid hda
    clear hda
    go_upto_region 2 with (fail)
    have hne : Nonempty (ExtW W) := ⟨⟨W, Below.refl _ _⟩⟩
    have g0 : ∀ n : ExtW W, n.val.cell? ⟨g, 0, none⟩ = some (.map (some b)) := fun n => ExtW.cell HW.out.cells.1 n
    have g1 : ∀ n : ExtW W, n.val.cell? ⟨w.heap.size, 1, none⟩ = some (.int .i64 dst) := fun n => ExtW.cell i1 n
    have g2 : ∀ n : ExtW W, n.val.cell? ⟨w.heap.size, 2, none⟩ = some (.int .i64 a) := fun n => ExtW.cell i2 n
    clear i0 i1 i2
    refine region_mix (fun w' => ∃ n' : ExtW W, w' = n'.val) [(0, 6, some (6, true)), (7, 1, none)] (by kernel_rfl) (by kernel_rfl) ⟨⟨_, ext_drewN (Below.refl _ _) 1⟩, rfl⟩ ?_
    simp only [wpMix, List.take_succ_cons, List.take_zero, List.drop_succ_cons, List.drop_zero]
    repeat (go_big_quiet_step (fail))
    refine wpQuiet_nil ?_
    refine wpOp_at rfl rfl ?_
    go_simp
    refine (ofW_any m a1 a2 n1 c1 n2 c2 U hU g b K fe a W.drew HW.out).mono ?_
    rintro e w2 ⟨vl, Out, rfl, ho, hn, hm, hb2⟩
    have hb2 : Below W.heap.size W w2 := unDrew1 hb2
    refine ⟨⟨⟨w2, hb2⟩, rfl⟩, ?_⟩
    obtain ⟨av, cv, rfl⟩ := ho.form
    have HO := Lib.hid (show OwnF w2 W.heap.size (.slice av Out.length cv) Out from ho)
    have HM := Lib.hid hm
    have HW2 := Lib.hid (HW.out.ext hb2)
    have HB2 := Lib.hid hb2
    have HLen : Hid (Out.length ≤ 1000000000000) := by
      obtain ⟨L, hS, hm', hD⟩ := HW.out.2
      exact Nat.le_trans (nodup_length_le hn fun x hx => (hm' x).2 ((hm x).1 hx).1) (KS.len hU hS hD)
    clear ho hm hn hb2
    try simp only [Act.put, List.setIfInBounds_toArray, List.set_cons_succ, List.set_cons_zero]
    repeat (go_big_quiet_step (fail))
    refine wpQuiet_nil ?_
    refine NoPanic.normal ?_
    clear g0 g1 g2 hne
    go_upto_region 3 with (fail)
    have hne : Nonempty (ExtW w2) := ⟨⟨w2, Below.refl _ _⟩⟩
    obtain ⟨i0, i1, i2⟩ := cells_ins (r := ⟨⟨op, dst, a, bb, imm, callee, args, many⟩, aa, na, ca⟩) (block_ext HB2.out HI.out)
    simp only at i0 i1 i2
    have g0 : ∀ n : ExtW w2, n.val.cell? ⟨g, 0, none⟩ = some (.map (some b)) := fun n => ExtW.cell HW2.out.cells.1 n
    have g1 : ∀ n : ExtW w2, n.val.cell? ⟨w.heap.size, 1, none⟩ = some (.int .i64 dst) := fun n => ExtW.cell i1 n
    clear i0 i1 i2
    refine region_mix (fun w' => ∃ n' : ExtW w2, w' = n'.val) [(0, 10, some (10, true)), (11, 0, some (11, false))] (by kernel_rfl) (by kernel_rfl) ⟨⟨_, ext_drewN (Below.refl _ _) 1⟩, rfl⟩ ?_
    simp only [wpMix, List.take_succ_cons, List.take_zero, List.drop_succ_cons, List.drop_zero]
    repeat (go_big_quiet_step (fail))
    refine wpQuiet_nil ?_
    refine wpOp_at rfl rfl ?_
    go_simp
    refine (ofW_any m a1 a2 n1 c1 n2 c2 U hU g b K fe dst w2.drew HW2.out).mono ?_
    rintro e w3 ⟨vl3, Out3, rfl, ho3, hn3, hm3, hb3⟩
    have hb3 : Below w2.heap.size w2 w3 := unDrew1 hb3
    refine ⟨⟨⟨w3, hb3⟩, rfl⟩, ?_⟩
    obtain ⟨av3, cv3, rfl⟩ := ho3.form
    refine wpQuiet_nil ?_
    refine wpOp_at rfl rfl ?_
    go_simp
    refine (forgetW_any m a1 a2 n1 c1 n2 c2 U g b K fe av3 _ cv3 Out3 w3 (HW2.out.ext hb3) (ho3.recs csF_len)).mono ?_
    rintro e w4 ⟨rfl, hs4, hc4⟩
    have HK4 : Hid (WS m a1 n1 c1 a2 n2 c2 U g b (cutK K Out3) fe w4) := hs4
    have HC4 : Hid (Chg (fun k => k = b) w3 w4) := hc4
    have HM3 := Lib.hid hm3
    have HB3 := Lib.hid hb3
    have hi4 : w4.heap[w.heap.size]? = some (insO ⟨op, dst, a, bb, imm, callee, args, many⟩ aa na ca) := by
      have h3 := block_ext hb3 (block_ext HB2.out HI.out)
      exact (hc4.block _ (Array.getElem?_eq_some_iff.1 h3).1 (by omega)).trans h3
    have HI4 := Lib.hid hi4
    have hf4 : FctS w4 av Out.length Out := recs_chg ((HO.out.recs csF_len).ext csF_len hb3) hc4 fun q o e => by
      have h1 := (HO.out.low (k := q) (by rw [e]; rfl)).1
      have h2 := HW.out.lt.2.1
      omega
    have HF4 := Lib.hid hf4
    have HOB : Hid (∀ q o, av = some ⟨q, o, none⟩ → q ≠ b) := fun q o e => by
      have h1 := (HO.out.low (k := q) (by rw [e]; rfl)).1
      have h2 := HW.out.lt.2.1
      omega
    have HCw : Hid (Chg (WT g b) w w4) := ((Chg.refl (WT g b) w).of_ext (ext_trans (ext_trans HB.out HB2.out) hb3)).trans (hc4.mono fun k hk => .inr hk)
    have hk4 := HK4.out.lt
    have hfr : ∀ y : Fct, y ∈ Out3 ↔ K y = true ∧ (y.1 == dst) = true := hm3
    clear ho3 hn3 hm3 hb3 hs4 hc4 hi4 hf4 g0 g1 hne
    refine NoPanic.normal ?_
    have hn := HLen.out
    have HFR := Lib.hid hfr
    clear hfr
    go_wp2
    go_loopw [6, 33] (fun _ i wr => ∃ k, k ≤ Out.length ∧ i = .int .i64 (k : Nat) ∧ Hid (WS m a1 n1 c1 a2 n2 c2 U g b (addK (cutK K Out3) (Out.take k) fun f => (dst, f.2)) fe wr) ∧ Hid (Chg (WT g b) w4 wr)) (fun _ i _ => Out.length - (intOf i).toNat)
    case atStart => exact ⟨0, by omega, rfl, by rw [Hid, List.take_zero, addK_nil]; exact HK4.out, Chg.refl _ _⟩
    case round =>
      obtain ⟨k, hk, rfl, HKr, HCr⟩ := hrel
      have HNG : Hid (∀ q o, av = some ⟨q, o, none⟩ → ¬ WT g b q) := fun q o e h => by
        rcases h with h | h
        · obtain ⟨r', hr'⟩ : ∃ r', r' = q := ⟨_, rfl⟩
          have h1 := (HO.out.low (k := q) (by rw [e]; rfl)).1
          have h2 := HW.out.lt.1
          omega
        · exact HOB.out q o e h
      by_cases hkl : k < Out.length
      · obtain ⟨x, q, o, hx, rfl, c0, c1, c2⟩ := fcts_cells (recs_chg HF4.out HCr.out HNG.out) hkl
        have HX := Lib.hid hx
        have hk1 : (k : Int) < (Out.length : Int) := by omega
        have hxm : K x = true := ((HM.out x).1 (List.mem_of_getElem? hx)).1
        have HXM := Lib.hid hxm
        have hir := (HCr.out.block w.heap.size (Array.getElem?_eq_some_iff.1 HI4.out).1 (fun h => by rcases h with h | h <;> omega)).trans HI4.out
        have HIR := Lib.hid hir
        clear hx hxm hir
        obtain ⟨xv, xs, xn⟩ := x
        go_upto_region 7 with (fail)
        obtain ⟨w5, hw5⟩ : ∃ w5, w5 = wr.alloc (fctO xv xs xn) := ⟨_, rfl⟩
        rw [show wr.alloc (Obj.cells #[.int .i64 xv, .bool xs, .int .i64 xn] 36) = w5 from hw5.symm]
        have hb5 : Below wr.heap.size wr w5 := by rw [hw5]; exact ext_alloc _ _
        have hx5 : w5.heap[wr.heap.size]? = some (fctO xv xs xn) := by rw [hw5]; exact heap_alloc_new _ _
        clear hw5 c0 c1 c2
        have HK5 := Lib.hid (HKr.out.ext hb5)
        have HC5 := Lib.hid (HCr.out.of_ext hb5)
        have hi5 := block_ext hb5 HIR.out
        obtain ⟨i0, i1, i2⟩ := cells_ins (r := ⟨⟨op, dst, a, bb, imm, callee, args, many⟩, aa, na, ca⟩) hi5
        simp only at i0 i1 i2
        have x1 : w5.cell? ⟨wr.heap.size, 1, none⟩ = some (.bool xs) := by rw [cell_of_row _ _ _ _ _ _ hx5]; rfl
        have x2 : w5.cell? ⟨wr.heap.size, 2, none⟩ = some (.int .i64 xn) := by rw [cell_of_row _ _ _ _ _ _ hx5]; rfl
        have hne : Nonempty (ExtW w5) := ⟨⟨w5, Below.refl _ _⟩⟩
        have g0 : ∀ n : ExtW w5, n.val.cell? ⟨g, 0, none⟩ = some (.map (some b)) := fun n => ExtW.cell HK5.out.cells.1 n
        have g1 : ∀ n : ExtW w5, n.val.cell? ⟨w.heap.size, 1, none⟩ = some (.int .i64 dst) := fun n => ExtW.cell i1 n
        have g2 : ∀ n : ExtW w5, n.val.cell? ⟨wr.heap.size, 1, none⟩ = some (.bool xs) := fun n => ExtW.cell x1 n
        have g3 : ∀ n : ExtW w5, n.val.cell? ⟨wr.heap.size, 2, none⟩ = some (.int .i64 xn) := fun n => ExtW.cell x2 n
        clear i0 i1 i2 x1 x2 hx5 hb5 hi5
        refine region_mix (fun w' => ∃ n' : ExtW w5, w' = n'.val) [(0, 9, some (9, false))] (by kernel_rfl) (by kernel_rfl) ⟨⟨_, ext_drewN (Below.refl _ _) 1⟩, rfl⟩ ?_
        simp only [wpMix, List.take_succ_cons, List.take_zero, List.drop_succ_cons, List.drop_zero]
        repeat (go_big_quiet_step (fail))
        refine wpQuiet_nil ?_
        refine wpOp_at rfl rfl ?_
        obtain ⟨_, L, hS, hm, hD⟩ := HK5.out
        refine op_putM _ _ _ rfl keyF mapT (show FSet w5.drew b L from hS) rfl (dst, xs, xn) rfl rfl ?_
        intro w6 L6 hs6 hm6 hg6 hz6
        have hg6 : w5.grownBy w6 (some b) := ⟨hg6.os, hg6.tape, hg6.output, hg6.size, hg6.block⟩
        have HK6 : Hid (WS m a1 n1 c1 a2 n2 c2 U g b (addK (cutK K Out3) (Out.take (k + 1)) fun f => (dst, f.2)) fe w6) := by
          have hxU : (xs, xn) ∈ U.P := by
            obtain ⟨_, L0, _, hm0, hD0⟩ := HW.out
            exact (hD0 _ ((hm0 _).2 HXM.out)).2
          refine HK5.out.put hm hD hs6 hm6 ⟨hV, hxU⟩ hg6 fun y => ?_
          have e : Out.take (k + 1) = Out.take k ++ [(xv, xs, xn)] := by rw [List.take_add_one, HX.out]; rfl
          rw [e, addK_snoc]
        have HC6 : Hid (Chg (WT g b) w4 w6) := HC5.out.grown hg6 fun j e => by injection e with e; exact .inl (.inr e.symm)
        clear hS hm hD hs6 hm6 hg6 hz6 g0 g1 g2 g3
        try simp only [Act.put, List.setIfInBounds_toArray, List.set_cons_succ, List.set_cons_zero]
        refine NoPanic.normal ?_
        go_wp2
        go_roundw
        case rel => exact ⟨k + 1, by omega, by go_num, HK6, HC6⟩
        case measure => simp [intOf]; omega
      · obtain rfl : k = Out.length := by omega
        go_wp2
        go_end0
        refine ⟨rfl, HKr.out.congr fun y => ?_, HCw.out.trans ⟨HCr.out.os, HCr.out.tape, HCr.out.output, HCr.out.size, HCr.out.block⟩⟩
        rw [List.take_length, Bool.eq_iff_iff]
        unfold stepOf addK cutK
        simp only [Bool.or_eq_true, Bool.and_eq_true, Bool.not_eq_true', decide_eq_false_iff_not, List.any_eq_true, decide_eq_true_eq]
        constructor
        · intro h
          by_cases hy : y.1 = dst
          · rw [if_pos hy] at h
            refine .inr ⟨(a, y.2), (HM.out _).2 ⟨h, by simp⟩, ?_⟩
            rw [← hy]
          · rw [if_neg hy] at h
            refine .inl ⟨h, fun c => hy ?_⟩
            simpa using ((HFR.out y).1 c).2
        · rintro (⟨h1, h2⟩ | ⟨f, hf, rfl⟩)
          · by_cases hy : y.1 = dst
            · exact absurd ((HFR.out y).2 ⟨h1, by simpa using hy⟩) h2
            · rw [if_neg hy]; exact h1
          · have h1 := (HM.out f).1 hf
            have h2 : f.1 = a := by simpa using h1.2
            rw [if_pos rfl, ← h2]
            exact h1.1
end
end Go.Proofs.YtfpbfdkjcmlimaaGreat
