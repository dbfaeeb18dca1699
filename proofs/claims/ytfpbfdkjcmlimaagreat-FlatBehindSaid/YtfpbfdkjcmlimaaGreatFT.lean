/-
  The class of worlds of a region that draws its order may be made narrower on the way. No program in sight.
-/
import Derived.Test.YtfpbfdkjcmlimaaGreatZed
import Derived.Test.YtfpbfdkjcmlimaaGreatKA
namespace Go.Proofs.YtfpbfdkjcmlimaaGreat
set_option linter.unusedSimpArgs false
set_option linter.unusedVariables false
set_option linter.unusedSectionVars false
set_option maxRecDepth 100000
set_option maxHeartbeats 40000000
section
open Go.RowKit
section
variable {P : Program} {l : List Oper} {S S' : World → Prop} {Q : Exit → Act → World → Prop}
theorem z_mono (h : ∀ w, S' w → S w) : ∀ {fuel : Nat} {listed : Array Bool} {a : Act} {w : World}, wpAnyZ P l Q S' fuel listed a w → wpAnyZ P l Q S fuel listed a w
  | 0, _, _, _, hz => hz
  | _ + 1, _, _, _, hz => ⟨hz.1, fun i hi => wpOp_mono (fun _ _ h' => ⟨h'.1.imp id (h _), z_mono h h'.2⟩) (hz.2 i hi)⟩
theorem z_later {W W' : World} (h : Below W.heap.size W W') {fuel : Nat} {listed : Array Bool} {a : Act} {w : World} (hz : wpAnyZ P l Q (fun w' => ∃ n : ExtW W', w' = n.val) fuel listed a w) : wpAnyZ P l Q (fun w' => ∃ n : ExtW W, w' = n.val) fuel listed a w :=
  z_mono (fun _ hn => by obtain ⟨n, rfl⟩ := hn; exact ⟨⟨n.val, ext_trans h n.ext⟩, rfl⟩) hz
end
end

section
open Go.RowKit
def headL (l : List (Bool × Int)) : Bool × Int := l.headD (false, 0)
def insEv (m : MachD) (r : InsR) : EvD := .inserted (headL (readsL m r.d)) (headL (writesL m r.d))
def evGo (m : MachD) : List InsR → List InsR → List EvD
  | [], tl => (tl.takeWhile isInserted).map (insEv m) ++ [.ended]
  | i :: sl, tl => if isCopy i then .copied i.d.dst i.d.a :: evGo m sl tl else (tl.takeWhile isInserted).map (insEv m) ++ match tl.dropWhile isInserted with | [] => [] | u :: tl' => .done i u (i.d.op == 13) :: evGo m sl tl'
def EvJ (w : World) (mo so tob : Obj) (at_ : Nat) (v : Value) (es : List EvD) (W : World) : Prop :=
  W.heap[w.heap.size]? = some mo ∧ W.heap[w.heap.size + 1]? = some so ∧ W.heap[w.heap.size + 1 + 1]? = some tob ∧ W.heap[w.heap.size + 1 + 1 + 1]? = some (.cells #[v] 64 (0, 0)) ∧ W.heap[w.heap.size + 1 + 1 + 1 + 1]? = some (.cells #[.int .i64 (at_ : Int)] 3 (0, 0)) ∧
  W.ownsRow (w.heap.size + 1 + 1 + 1 + 1 + 1) 20 1 v es.length (es.map evV) ∧ Below w.heap.size w W
section
variable {w : World} {mo so tob : Obj} {k : Nat} {v : Value} {es : List EvD} {W W' : World}
theorem EvJ.ext (h : EvJ w mo so tob k v es W) (hb : Below W.heap.size W W') : EvJ w mo so tob k v es W' := by
  obtain ⟨h1, h2, h3, h4, h5, h6, h7⟩ := h
  exact ⟨block_ext hb h1, block_ext hb h2, block_ext hb h3, block_ext hb h4, block_ext hb h5, ownsRow_chg h6 ((Chg.refl (fun _ => False) _).of_ext hb) (fun _ _ h => h), ext_trans h7 hb⟩
theorem EvJ.size (h : EvJ w mo so tob k v es W) : w.heap.size + 1 + 1 + 1 + 1 + 1 ≤ W.heap.size := (Array.getElem?_eq_some_iff.1 h.2.2.2.2.1).1
theorem EvJ.append (h : EvJ w mo so tob k v es W) {e : EvD} {v' : Value} {n' : Nat} {xs' : List Value} (hn : n' = (es ++ [e]).length) (hx : xs' = (es ++ [e]).map evV) (ho : W'.ownsRow (w.heap.size + 1 + 1 + 1 + 1 + 1) 20 1 v' n' xs') (hg : W.grownBy W' v.ownBlock) : EvJ w mo so tob k v' (es ++ [e]) (W'.setCell ⟨w.heap.size + 1 + 1 + 1, 0, none⟩ v') := by
  subst hn
  subst hx
  obtain ⟨h1, h2, h3, h4, h5, h6, h7⟩ := h
  have hl := h6.lt
  have hlt' := ho.lt
  have keep : ∀ {j : Nat} {o : Obj}, j < w.heap.size + 1 + 1 + 1 + 1 + 1 → W.heap[j]? = some o → W'.heap[j]? = some o := fun hj hk => (hg.block _ (Array.getElem?_eq_some_iff.1 hk).1 (fun e => by have := (hl _ e.symm).1; omega)).trans hk
  have oth : ∀ {j : Nat} {o : Obj}, j ≠ w.heap.size + 1 + 1 + 1 → W'.heap[j]? = some o → (W'.setCell ⟨w.heap.size + 1 + 1 + 1, 0, none⟩ v').heap[j]? = some o := fun hj hk => (heap_setCell_other _ _ _ _ hj).trans hk
  refine ⟨oth (by omega) (keep (by omega) h1), oth (by omega) (keep (by omega) h2), oth (by omega) (keep (by omega) h3), heap_setCell_same _ _ 0 _ _ _ (keep (by omega) h4), oth (by omega) (keep (by omega) h5), ?_, ?_⟩
  · exact ownsRow_setCell_other ho (fun e => by have := (hlt' _ e).1; simp at this; omega) _
  · exact (h7.grown hg h7.size (fun j e => by have := (hl j e).1; omega)).setCell (by simp; omega) _
theorem EvJ.at_ (h : EvJ w mo so tob k v es W) (k' : Nat) : EvJ w mo so tob k' v es (W.setCell ⟨w.heap.size + 1 + 1 + 1 + 1, 0, none⟩ (.int .i64 (k' : Int))) := by
  obtain ⟨h1, h2, h3, h4, h5, h6, h7⟩ := h
  have hl := h6.lt
  refine ⟨(heap_setCell_other _ _ _ _ (by simp <;> omega)).trans h1, (heap_setCell_other _ _ _ _ (by simp <;> omega)).trans h2, (heap_setCell_other _ _ _ _ (by simp <;> omega)).trans h3, (heap_setCell_other _ _ _ _ (by simp)).trans h4, heap_setCell_same _ _ 0 _ _ _ h5, ?_, h7.setCell (by simp <;> omega) _⟩
  exact ownsRow_setCell_other h6 (fun e => by have := (hl _ e).1; simp at this; omega) _
end
theorem ins_kinds (r : InsR) (h : isInserted r = true) : hasV r.d.op = 3 ∨ hasV r.d.op = 18 ∨ hasV r.d.op = 17 := by
  simp only [isInserted, insB, decide_eq_true_eq] at h
  rcases h with h | h | h <;> rw [h]
  · exact Or.inl rfl
  · exact Or.inr (Or.inl rfl)
  · exact Or.inr (Or.inr rfl)
theorem ins_reads (m : MachD) (r : InsR) (h : isInserted r = true) : ∃ p, readsL m r.d = [p] := by
  rcases ins_kinds r h with h | h | h
  · exact ⟨_, by unfold readsL; rw [h]; rfl⟩
  · exact ⟨_, by unfold readsL; rw [h]; rfl⟩
  · exact ⟨_, by unfold readsL; rw [h]; rfl⟩
theorem ins_writes (m : MachD) (r : InsR) (h : isInserted r = true) : ∃ p, writesL m r.d = [p] := by
  rcases ins_kinds r h with h | h | h
  · exact ⟨_, by unfold writesL; rw [h]; rfl⟩
  · exact ⟨_, by unfold writesL; rw [h]; rfl⟩
  · exact ⟨_, by unfold writesL; rw [h]; rfl⟩
theorem info_any : (Tryz.prog.info? 20).map (fun i => (i.zero, i.size, i.bytes)) = some (some .nilIface, 1, 16) := by kernel_rfl
theorem evV_one (e : EvD) : (evV e).oneCell' = true := by cases e <;> rfl
def SkipS (w : World) (v0 : Value) (k : Nat) : Prop := k = w.heap.size + 1 + 1 + 1 ∨ k = w.heap.size + 1 + 1 + 1 + 1 ∨ v0.ownBlock = some k
def OwnOr (W : World) (v0 v : Value) : Prop := ∀ g, v.ownBlock = some g → v0.ownBlock = some g ∨ W.heap.size ≤ g
theorem drop_cons {α : Type} {l : List α} {k : Nat} {x : α} (h : l[k]? = some x) : l.drop k = x :: l.drop (k + 1) := by
  have hk := (List.getElem?_eq_some_iff.1 h).1
  rw [List.getElem?_eq_getElem hk, Option.some.injEq] at h
  rw [List.drop_eq_getElem_cons hk, h]
theorem skip_any (w : World) (m : MachD) (a1 a2 : Option Addr) (n1 c1 n2 c2 : Nat) (so : Obj) (t : BlkD) (ta : Option Addr) (nt ct : Nat) (hm : MachOK w m a1 n1 c1 a2 n2 c2) (ht : BlkOK w t ta nt ct) (k0 : Nat) (hk0 : k0 ≤ nt) (v0 : Value) (es0 : List EvD) (hel : es0.length ≤ 3000000) (W : World)
    (hJ : EvJ w (machO m a1 n1 c1 a2 n2 c2) so (blkO t ta nt ct) k0 v0 es0 W) :
    Calls Tryz.prog 39 #[.pointer (some ⟨w.heap.size + 1 + 1 + 1 + 1, 0, none⟩), .pointer (some ⟨w.heap.size + 1 + 1, 0, none⟩), .pointer (some ⟨w.heap.size + 1 + 1 + 1, 0, none⟩), .pointer (some ⟨w.heap.size, 0, none⟩)] W
      fun e W' => e = .returned (.tuple #[]) ∧ ∃ v', EvJ w (machO m a1 n1 c1 a2 n2 c2) so (blkO t ta nt ct) (k0 + ((t.ins.drop k0).takeWhile isInserted).length) v' (es0 ++ ((t.ins.drop k0).takeWhile isInserted).map (insEv m)) W' ∧ Chg (SkipS w v0) W W' ∧ OwnOr W v0 v' := by
  have HM := Lib.hid hm
  have HT := Lib.hid ht
  have HJ := Lib.hid hJ
  have HLt := Lib.hid ht.1.1.1
  have q3 := ht.2.1
  clear hm ht hJ
  go_enter Tryz.func39, Tryz.ntmps39
  go_wp2
  go_loopg [4] nt (fun gg _ wr => ∃ (k : Nat) (v : Value) (es : List EvD), k ≤ nt ∧ k0 ≤ k ∧ nt - k ≤ gg ∧ Hid (EvJ w (machO m a1 n1 c1 a2 n2 c2) so (blkO t ta nt ct) k v es wr) ∧ es.length ≤ 3000000 + (k - k0) ∧ Hid (k0 + ((t.ins.drop k0).takeWhile isInserted).length = k + ((t.ins.drop k).takeWhile isInserted).length) ∧ Hid (es0 ++ ((t.ins.drop k0).takeWhile isInserted).map (insEv m) = es ++ ((t.ins.drop k).takeWhile isInserted).map (insEv m)) ∧ Hid (Chg (SkipS w v0) W wr) ∧ Hid (OwnOr W v0 v))
  case atStart => exact ⟨k0, v0, es0, hk0, Nat.le_refl _, by omega, HJ, by omega, rfl, rfl, Chg.refl _ _, fun g h => Or.inl h⟩
  case round =>
    obtain ⟨k, v, es, hk, hkk, hgg, HE, hle, HN, HL, HC, HOw⟩ := hrel
    obtain ⟨b1, b2, b3, b4, b5, b6, b7⟩ := HE.out
    have m0 : ∀ w', Below wr.heap.size wr w' → w'.cell? ⟨w.heap.size, 0, none⟩ = some (.int .i64 m.regs) := fun w' hb => by rw [cell_of_row _ _ _ _ _ _ (block_ext hb b1)]; rfl
    have m1 : ∀ w', Below wr.heap.size wr w' → w'.cell? ⟨w.heap.size, 1, none⟩ = some (.slice a1 n1 c1) := fun w' hb => by rw [cell_of_row _ _ _ _ _ _ (block_ext hb b1)]; rfl
    have m2 : ∀ w', Below wr.heap.size wr w' → w'.cell? ⟨w.heap.size, 2, none⟩ = some (.int .i64 m.ret) := fun w' hb => by rw [cell_of_row _ _ _ _ _ _ (block_ext hb b1)]; rfl
    have m3 : ∀ w', Below wr.heap.size wr w' → w'.cell? ⟨w.heap.size, 3, none⟩ = some (.slice a2 n2 c2) := fun w' hb => by rw [cell_of_row _ _ _ _ _ _ (block_ext hb b1)]; rfl
    have t0 : ∀ w', Below wr.heap.size wr w' → w'.cell? ⟨w.heap.size + 1 + 1, 0, none⟩ = some (.slice ta nt ct) := fun w' hb => by rw [cell_of_row _ _ _ _ _ _ (block_ext hb b3)]; rfl
    have o0 : ∀ w', Below wr.heap.size wr w' → w'.cell? ⟨w.heap.size + 1 + 1 + 1, 0, none⟩ = some v := fun w' hb => by rw [cell_of_row _ _ _ _ _ _ (block_ext hb b4)]; rfl
    have x0 : ∀ w', Below wr.heap.size wr w' → w'.cell? ⟨w.heap.size + 1 + 1 + 1 + 1, 0, none⟩ = some (.int .i64 (k : Int)) := fun w' hb => by rw [cell_of_row _ _ _ _ _ _ (block_ext hb b5)]; rfl
    have Er : Below wr.heap.size wr wr := Below.refl _ _
    have HB7 := Lib.hid b7
    clear b1 b2 b3 b4 b5 b6 b7
    by_cases hlt : k < nt
    · obtain ⟨r, b, o, hr, hok, rfl, g0, g1, g2, g3, g4, g5, g6, g7⟩ := ((HT.out.ext HB7.out).1).cells hlt
      cases hq : isInserted r with
      | false =>
        have hI : insB r.d.op = false := hq
        have HE0 : Hid (((t.ins.drop k).takeWhile isInserted) = []) := by rw [Hid, drop_cons hr]; simp [hq]
        clear hr hok
        go_wp2_with (go_at_call 21; refine (inserted_any _ _).mono ?_; rw [hI]; rintro e w' ⟨rfl, rfl⟩)
        go_end0
        refine ⟨rfl, v, ?_, HC.out, HOw.out⟩
        rw [HN.out, HL.out, HE0.out]
        simpa using HE.out
      | true =>
        have hI : insB r.d.op = true := hq
        have hi0 : (0 : Int) ≤ (k : Int) := by omega
        have hi1 : (k : Int) < (nt : Int) := by omega
        have HG := Lib.hid hr
        have HOK := Lib.hid hok
        obtain ⟨p1, hp1⟩ := ins_reads m r hq
        obtain ⟨p2, hp2⟩ := ins_writes m r hq
        have HP1 := Lib.hid hp1
        have HP2 := Lib.hid hp2
        clear hr hok hp1 hp2
        go_wp2_with (go_at_call 21; refine (inserted_any _ _).mono ?_; rw [hI]; rintro e w' ⟨rfl, rfl⟩)
        have km0 : ∀ n : ExtW wr, n.val.cell? ⟨w.heap.size, 0, none⟩ = some (.int .i64 m.regs) := fun n => m0 _ n.ext
        have km1 : ∀ n : ExtW wr, n.val.cell? ⟨w.heap.size, 1, none⟩ = some (.slice a1 n1 c1) := fun n => m1 _ n.ext
        have km2 : ∀ n : ExtW wr, n.val.cell? ⟨w.heap.size, 2, none⟩ = some (.int .i64 m.ret) := fun n => m2 _ n.ext
        have km3 : ∀ n : ExtW wr, n.val.cell? ⟨w.heap.size, 3, none⟩ = some (.slice a2 n2 c2) := fun n => m3 _ n.ext
        have kt0 : ∀ n : ExtW wr, n.val.cell? ⟨w.heap.size + 1 + 1, 0, none⟩ = some (.slice (some ⟨b, o, none⟩) nt ct) := fun n => t0 _ n.ext
        have ko0 : ∀ n : ExtW wr, n.val.cell? ⟨w.heap.size + 1 + 1 + 1, 0, none⟩ = some v := fun n => o0 _ n.ext
        have kx0 : ∀ n : ExtW wr, n.val.cell? ⟨w.heap.size + 1 + 1 + 1 + 1, 0, none⟩ = some (.int .i64 (k : Int)) := fun n => x0 _ n.ext
        have kg0 : ∀ n : ExtW wr, n.val.cell? ⟨b, o + k * 8, none⟩ = some (.int .i64 r.d.op) := fun n => cell_ext n.ext g0
        have kg1 : ∀ n : ExtW wr, n.val.cell? ⟨b, o + k * 8 + 1, none⟩ = some (.int .i64 r.d.dst) := fun n => cell_ext n.ext g1
        have kg2 : ∀ n : ExtW wr, n.val.cell? ⟨b, o + k * 8 + 2, none⟩ = some (.int .i64 r.d.a) := fun n => cell_ext n.ext g2
        have kg3 : ∀ n : ExtW wr, n.val.cell? ⟨b, o + k * 8 + 3, none⟩ = some (.int .i64 r.d.b) := fun n => cell_ext n.ext g3
        have kg4 : ∀ n : ExtW wr, n.val.cell? ⟨b, o + k * 8 + 4, none⟩ = some (.int .i64 r.d.imm) := fun n => cell_ext n.ext g4
        have kg5 : ∀ n : ExtW wr, n.val.cell? ⟨b, o + k * 8 + 5, none⟩ = some (.int .i64 r.d.callee) := fun n => cell_ext n.ext g5
        have kg6 : ∀ n : ExtW wr, n.val.cell? ⟨b, o + k * 8 + 6, none⟩ = some (.slice r.aa r.na r.ca) := fun n => cell_ext n.ext g6
        have kg7 : ∀ n : ExtW wr, n.val.cell? ⟨b, o + k * 8 + 7, none⟩ = some (.int .i64 r.d.many) := fun n => cell_ext n.ext g7
        clear m0 m1 m2 m3 t0 o0 x0 g0 g1 g2 g3 g4 g5 g6 g7 Er
        refine z_start (fun w' => ∃ n : ExtW wr, w' = n.val) (by kernel_rfl) ?_
        obtain ⟨w0, E0, hw0⟩ : ∃ w0, Below wr.heap.size wr w0 ∧ wr.drew = w0 := ⟨_, ext_drewN (Below.refl _ _) 1, rfl⟩
        rw [hw0]
        clear hw0
        refine z_reads 0 7 (by kernel_rfl) ⟨⟨_, E0⟩, rfl⟩ ?_
        simp only [List.take_succ_cons, List.take_zero, List.drop_succ_cons, List.drop_zero]
        repeat (go_big_quiet_step (fail))
        refine wpQuiet_nil ?_
        refine z_reads 10 6 (by kernel_rfl) ⟨⟨_, E0⟩, rfl⟩ ?_
        simp only [List.take_succ_cons, List.take_zero, List.drop_succ_cons, List.drop_zero]
        repeat (go_big_quiet_step (fail))
        refine wpQuiet_nil ?_
        refine z_one 7 (by kernel_rfl) ?_
        refine wpOp_at rfl rfl ?_
        go_simp
        refine (reads_any m r.d a1 a2 r.aa n1 c1 n2 c2 r.na r.ca w0 (((HM.out.ext HB7.out).ext E0).1) HM.out.2.2.2.2.1 HM.out.2.2.1 HOK.out.2.2.2.2.1 HOK.out.2.2.2.2.2.1 HOK.out.2.2.2.2.2.2.2.2).mono ?_
        rintro e w1 ⟨la1, lc1, rfl, hl1, hb1⟩
        have E1 : Below wr.heap.size wr w1 := ext_trans E0 hb1
        rw [HP1.out] at hl1 ⊢
        obtain ⟨p1', q1, u1, e1, rfl, c10, c11⟩ := locs_cells hl1 (k := 0) (by simp)
        obtain rfl : p1 = p1' := by simpa using e1
        simp only [Nat.zero_mul, Nat.add_zero, List.length_cons, List.length_nil, Nat.zero_add] at c10 c11 ⊢
        refine ⟨Or.inr ⟨⟨_, E1⟩, rfl⟩, ?_⟩
        try simp only [Act.put, List.setIfInBounds_toArray, List.set_cons_succ, List.set_cons_zero]
        refine z_later E1 ?_
        have kc10 : ∀ n : ExtW w1, n.val.cell? ⟨q1, u1, none⟩ = some (.bool p1.1) := fun n => cell_ext n.ext c10
        have kc11 : ∀ n : ExtW w1, n.val.cell? ⟨q1, u1 + 1, none⟩ = some (.int .i64 p1.2) := fun n => cell_ext n.ext c11
        clear km0 km1 km2 km3 kt0 ko0 kx0 kg0 kg1 kg2 kg3 kg4 kg5 kg6 kg7 e1 hl1 c10 c11
        refine z_reads 8 2 (by kernel_rfl) ⟨⟨_, Below.refl _ _⟩, rfl⟩ ?_
        simp only [List.take_succ_cons, List.take_zero, List.drop_succ_cons, List.drop_zero]
        repeat (go_big_quiet_step (fail))
        refine wpQuiet_nil ?_
        refine z_one 16 (by kernel_rfl) ?_
        refine wpOp_at rfl rfl ?_
        go_simp
        refine (writes_any m r.d a1 a2 r.aa n1 c1 n2 c2 r.na r.ca w1 HM.out.2.2.2.2.2.2.2 HOK.out.2.2.2.1).mono ?_
        rintro e w2 ⟨la2, lc2, rfl, hl2, hb2⟩
        have E2 : Below wr.heap.size wr w2 := ext_trans E1 hb2
        rw [HP2.out] at hl2 ⊢
        obtain ⟨p2', q2, u2, e2, rfl, c20, c21⟩ := locs_cells hl2 (k := 0) (by simp)
        obtain rfl : p2 = p2' := by simpa using e2
        simp only [Nat.zero_mul, Nat.add_zero, List.length_cons, List.length_nil, Nat.zero_add] at c20 c21 ⊢
        refine ⟨Or.inr ⟨⟨_, hb2⟩, rfl⟩, ?_⟩
        try simp only [Act.put, List.setIfInBounds_toArray, List.set_cons_succ, List.set_cons_zero]
        refine z_later hb2 ?_
        have kc20 : ∀ n : ExtW w2, n.val.cell? ⟨q2, u2, none⟩ = some (.bool p2.1) := fun n => cell_ext n.ext c20
        have kc21 : ∀ n : ExtW w2, n.val.cell? ⟨q2, u2 + 1, none⟩ = some (.int .i64 p2.2) := fun n => cell_ext n.ext c21
        clear kc10 kc11 e2 hl2 c20 c21
        refine z_reads 17 4 (by kernel_rfl) ⟨⟨_, Below.refl _ _⟩, rfl⟩ ?_
        simp only [List.take_succ_cons, List.take_zero, List.drop_succ_cons, List.drop_zero]
        repeat (go_big_quiet_step (fail))
        refine wpQuiet_nil ?_
        have HE2 := Lib.hid (HE.out.ext E2)
        have HEV : Hid (insEv m r = .inserted p1 p2) := by rw [Hid, insEv, HP1.out, HP2.out]; rfl
        refine z_one 21 (by kernel_rfl) ?_
        refine wpOp_at rfl rfl ?_
        go_simp
        refine ⟨Or.inr ⟨⟨_, ext_alloc _ _⟩, rfl⟩, ?_⟩
        try simp only [Act.put, List.setIfInBounds_toArray, List.set_cons_succ, List.set_cons_zero]
        clear kc20 kc21
        refine z_one 22 (by kernel_rfl) ?_
        refine wpOp_at rfl rfl ?_
        refine op_append1 w2 (.tmp 20) (.tmp 41) 64 20 rfl (w.heap.size + 1 + 1 + 1 + 1 + 1) _ 1 16 Tryz.underlying64 info_any rfl (by omega) v es.length (es.map evV) [evV (.inserted p1 p2)] rfl HE2.out.2.2.2.2.2.1 w2.heap.size rfl rfl rfl (by simp [evV_one]) (by simp only [maxLen]; omega) (by omega) HE2.out.size ?_
        intro gA capA w3 ho3 hg3 hat3
        have hO3 : w3.heap[w.heap.size + 1 + 1 + 1]? = some (.cells #[v] 64 (0, 0)) := (hg3.block _ (Array.getElem?_eq_some_iff.1 HE2.out.2.2.2.1).1 (fun e => by have := (HE2.out.2.2.2.2.2.1.lt _ e.symm).1; omega)).trans HE2.out.2.2.2.1
        have HE3 := Lib.hid (HE2.out.append (e := .inserted p1 p2) (n' := es.length + 1) (by simp) (by simp) ho3 hg3)
        have o1 : w3.cell? ⟨w.heap.size + 1 + 1 + 1, 0, none⟩ = some v := by rw [cell_of_row _ _ _ _ _ _ hO3]; rfl
        have o2 : w3.frozen? ⟨w.heap.size + 1 + 1 + 1, 0, none⟩ = false := frozen_of_row _ _ _ _ _ hO3
        have HC3 : Hid (Chg (SkipS w v0) W (w3.setCell ⟨w.heap.size + 1 + 1 + 1, 0, none⟩ (.slice (some ⟨gA, 0, none⟩) (es.length + 1) capA))) := ((HC.out.of_ext E2).grown hg3 (fun j e => (HOw.out j e).elim (fun h => Or.inl (Or.inr (Or.inr h))) Or.inr)).setCell (Or.inl (Or.inl rfl)) _
        have HOw3 : Hid (OwnOr W v0 (.slice (some ⟨gA, 0, none⟩) (es.length + 1) capA)) := fun g hg => by
          obtain rfl : gA = g := by simpa [Value.ownBlock] using hg
          rcases hat3 with h | h
          · exact HOw.out gA h.symm
          · right; rw [h]; have := (HC.out.of_ext E2).size; omega
        refine ⟨Or.inl (by kernel_rfl), ?_⟩
        try simp only [Act.put, List.setIfInBounds_toArray, List.set_cons_succ, List.set_cons_zero]
        clear hO3 ho3 hg3 hat3
        refine z_one 23 (by kernel_rfl) ?_
        refine wpOp_at rfl rfl ?_
        go_simp
        refine ⟨Or.inl (by kernel_rfl), ?_⟩
        refine z_done (by kernel_rfl) ?_
        clear o1 o2
        generalize w3.setCell ⟨w.heap.size + 1 + 1 + 1, 0, none⟩ (.slice (some ⟨gA, 0, none⟩) (es.length + 1) capA) = w4 at *
        obtain ⟨b1, b2, b3, b4, b5, b6, b7⟩ := HE3.out
        have x4 : w4.cell? ⟨w.heap.size + 1 + 1 + 1 + 1, 0, none⟩ = some (.int .i64 (k : Int)) := by rw [cell_of_row _ _ _ _ _ _ b5]; rfl
        have x5 : w4.frozen? ⟨w.heap.size + 1 + 1 + 1 + 1, 0, none⟩ = false := frozen_of_row _ _ _ _ _ b5
        clear b1 b2 b3 b4 b5 b6 b7
        go_wp2
        go_roundg (nt - (k + 1))
        case measure => omega
        case rel =>
          have hdr := drop_cons HG.out
          have hat := HE3.out.at_ (k + 1)
          refine ⟨k + 1, .slice (some ⟨gA, 0, none⟩) (es.length + 1) capA, es ++ [.inserted p1 p2], by omega, by omega, Nat.le_refl _, ?_, ?_, ?_, ?_, HC3.out.setCell (Or.inl (Or.inr (Or.inl rfl))) _, HOw3⟩
          · rw [show ((k + 1 : Nat) : Int) = (k : Int) + 1 by omega] at hat
            exact hat
          · simp; omega
          · rw [Hid, HN.out, hdr, List.takeWhile_cons, hq]
            simp; omega
          · rw [Hid, HL.out, hdr, List.takeWhile_cons, hq]
            simp [HEV.out]
    · obtain rfl : k = nt := by omega
      have HE0 : Hid (((t.ins.drop k).takeWhile isInserted) = []) := by rw [Hid, List.drop_of_length_le (by rw [HLt.out]; omega)]; rfl
      go_wp2
      go_end0
      refine ⟨rfl, v, ?_, HC.out, HOw.out⟩
      rw [HN.out, HL.out, HE0.out]
      simpa using HE.out
end
end Go.Proofs.YtfpbfdkjcmlimaaGreat
