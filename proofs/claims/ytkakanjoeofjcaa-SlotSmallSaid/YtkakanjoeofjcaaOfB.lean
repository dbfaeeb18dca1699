/-
  The walk of slot.Of where its arguments are right.
-/
import Derived.Test.YtkakanjoeofjcaaOf
import Derived.Test.YtkakanjoeofjcaaSlotPlain
namespace Go.Proofs.Ytkakanjoeofjcaa
open Go.RowKit

/-- what lies where while 'Of' runs -/
structure OI (w : World) (N : Nat) (vs hs : Value) (tm sz : Int) (nt : Int → List Int) (f : Int → Option Value) (g : Int → Option Int) (W : World) : Prop where
  res : W.heap[w.heap.size]? = some (.cells #[nilS, nilS, .int .i64 0, .int .i64 0] 28 (0, 0))
  made : MK W (N + 1 + 1) vs hs tm sz N (N + 1)
  nots : NotM W (N + 1 + 1 + 1) N nt f
  slots : IMap W (N + 1) (slotsOf g)
  bel : Below w.heap.size w W
  lt : w.heap.size < N

theorem below_put {B : Nat} {a w : World} (h : Below B a w) {l : Nat} (hl : B ≤ l) (o : Obj) : Below B a (w.putObj l o) :=
  h.trans ⟨rfl, rfl, rfl, by simp, fun k hk => World.putObj_heap_other (by omega)⟩

section
variable {w : World} {N : Nat} {vs hs : Value} {tm sz : Int} {nt : Int → List Int} {f : Int → Option Value} {g : Int → Option Int} {W : World}
theorem OI.ext {W' : World} (h : OI w N vs hs tm sz nt f g W) (hb : Below W.heap.size W W') : OI w N vs hs tm sz nt f g W' :=
  ⟨(hb.block _ (Array.getElem?_eq_some_iff.1 h.res).1).trans h.res, (hb.block _ h.made.cells.2.2.2.2.2.2.2).trans h.made, h.nots.ext hb, h.slots.ext hb, h.bel.trans (hb.mono h.bel.size), h.lt⟩
theorem OI.step (h : OI w N vs hs tm sz nt f g W) (v x : Int) (w2 : World) (gg cap : Nat)
    (hown : w2.ownsRow (N + 1 + 1 + 1) 3 1 (.slice (some ⟨gg, 0, none⟩) ((nt v).length + 1) cap) ((nt v).length + 1) ((nt v).map (Value.int .i64) ++ [.int .i64 x]))
    (hg : W.grownBy w2 ((f v).getD nilS).ownBlock) (hat : some gg = ((f v).getD nilS).ownBlock ∨ gg = W.heap.size + 1) :
    IMap w2 N f ∧ ∀ o, IMap (w2.putObj N o) N (upd f v (.slice (some ⟨gg, 0, none⟩) ((nt v).length + 1) cap)) → OI w N vs hs tm sz (updL nt v x) (upd f v (.slice (some ⟨gg, 0, none⟩) ((nt v).length + 1) cap)) g (w2.putObj N o) := by
  obtain ⟨h1, h2⟩ := h.nots.step v x w2 gg cap hown hg hat
  have hlt := h.lt
  have hrow : ∀ k, k < N + 1 + 1 + 1 → some k ≠ ((f v).getD nilS).ownBlock := fun k hk e => by have := (h.nots.row_lt v k e.symm).1; omega
  refine ⟨h1, fun o ho => ⟨?_, ?_, h2 o ho, ?_, ?_, hlt⟩⟩
  · rw [World.putObj_heap_other (by omega), hg.block _ (Array.getElem?_eq_some_iff.1 h.res).1 (hrow _ (by omega))]; exact h.res
  · show (w2.putObj N o).heap[N + 1 + 1]? = _
    rw [World.putObj_heap_other (by omega), hg.block _ h.made.cells.2.2.2.2.2.2.2 (hrow _ (by omega))]; exact h.made
  · exact (h.slots.grown hg (hrow _ (by omega))).of_block (World.putObj_heap_other (by omega))
  · exact below_put (h.bel.grown hg h.bel.size (fun k e => by have := (h.nots.row_lt v k e).1; omega)) (by omega) o
theorem OI.putSlot (h : OI w N vs hs tm sz nt f g W) {g' : Int → Option Int} {v : Int} {r : Nat} (o : Obj) (him : IMap (W.putObj (N + 1) o) (N + 1) (upd (slotsOf g) v (.int .i64 (r : Int)))) (hg : ∀ x, g' x = if x = v then some (r : Int) else g x) :
    OI w N vs hs tm sz nt f g' (W.putObj (N + 1) o) := by
  have hlt := h.lt
  refine ⟨(World.putObj_heap_other (by omega)).trans h.res, (World.putObj_heap_other (by omega)).trans h.made, h.nots.put o (by omega) (by omega), ?_, below_put h.bel (by omega) o, hlt⟩
  have e : slotsOf g' = upd (slotsOf g) v (.int .i64 (r : Int)) := by
    funext x
    simp only [slotsOf, upd, hg]
    split <;> simp
  rw [e]; exact him
theorem OI.grown {W' : World} {row : Option Nat} (h : OI w N vs hs tm sz nt f g W) (hg : W.grownBy W' row) (hr : ∀ r, row = some r → N + 1 + 1 + 1 ≤ r ∧ ∀ v, ((f v).getD nilS).ownBlock ≠ some r) : OI w N vs hs tm sz nt f g W' := by
  have hlt := h.lt
  have hrow : ∀ k, k < N + 1 + 1 + 1 → some k ≠ row := fun k hk e => by have := (hr k e.symm).1; omega
  exact ⟨(hg.block _ (Array.getElem?_eq_some_iff.1 h.res).1 (hrow _ (by omega))).trans h.res, (hg.block _ h.made.cells.2.2.2.2.2.2.2 (hrow _ (by omega))).trans h.made, h.nots.grown hg hr,
    h.slots.grown hg (hrow _ (by omega)), h.bel.grown hg h.bel.size (fun k e => by have := (hr k e).1; omega), hlt⟩
theorem set_block (w : World) (b i : Nat) (cs : Array Value) (t : TypeId) (u : Value) (h : w.heap[b]? = some (.cells cs t (0, 0))) : (w.setCell ⟨b, i, none⟩ u).heap[b]? = some (.cells (cs.setIfInBounds i u) t (0, 0)) := by
  simp [World.setCell, Array.getElem?_modify, h]
theorem OI.setM (h : OI w N vs hs tm sz nt f g W) {vs' hs' : Value} {tm' sz' : Int} (i : Nat) (u : Value) (hcs : (#[vs, hs, .int .i64 tm, .int .i64 sz, .map (some N), .map (some (N + 1))] : Array Value).setIfInBounds i u = #[vs', hs', .int .i64 tm', .int .i64 sz', .map (some N), .map (some (N + 1))]) :
    OI w N vs' hs' tm' sz' nt f g (W.setCell ⟨N + 1 + 1, i, none⟩ u) := by
  have hlt := h.lt
  refine ⟨(Below.heap_setCell _ _ _ _ (by simp; omega)).trans h.res, ?_, h.nots.setCell (by simp) u, h.slots.setCell _ _, h.bel.setCell (by simp; omega) u, hlt⟩
  have := set_block W (N + 1 + 1) i _ _ u h.made
  rw [hcs] at this
  exact this
end

theorem ownsRow_base {W : World} {base base' : Nat} {e : TypeId} {size : Nat} {v : Value} {k : Nat} {xs : List Value} (h : W.ownsRow base e size v k xs) (hb : base' ≤ base) : W.ownsRow base' e size v k xs := by
  refine ⟨h.1, ?_⟩
  rcases h.2 with h2 | ⟨g, cap, cur, hv, hg, r⟩
  · exact Or.inl h2
  · exact Or.inr ⟨g, cap, cur, hv, by omega, r⟩

theorem slice_of_own {W : World} {base : Nat} {e : TypeId} {size : Nat} {v : Value} {k : Nat} {xs : List Value} (h : W.ownsRow base e size v k xs) : ∃ a c, v = .slice a k c := by
  rcases h.2 with ⟨h2, h0⟩ | ⟨g, cap, cur, hv, _⟩
  · exact ⟨none, 0, by rw [h2, h0]⟩
  · exact ⟨_, _, hv⟩

/-- what lies where while the registers' homes are laid -/
structure OJ (w : World) (N : Nat) (vs hs : Value) (sz0 : Nat) (k : Nat) (xs : List Value) (tm sz : Int) (W : World) : Prop where
  res : W.heap[w.heap.size]? = some (.cells #[nilS, nilS, .int .i64 0, .int .i64 0] 28 (0, 0))
  made : MK W (N + 1 + 1) vs hs tm sz N (N + 1)
  rowV : W.ownsRow (N + 1 + 1 + 1) 3 1 vs xs.length xs
  rowH : W.ownsRow (N + 1 + 1 + 1) 3 1 hs k ((List.range k).map fun (i : Nat) => .int .i64 ((sz0 + i : Nat) : Int))
  dist : ∀ g, vs.ownBlock = some g → hs.ownBlock ≠ some g
  bel : Below w.heap.size w W
  lt : w.heap.size < N
section
variable {w : World} {N : Nat} {vs hs : Value} {sz0 k : Nat} {xs : List Value} {tm sz : Int} {W : World}
theorem OJ.ext {W' : World} (h : OJ w N vs hs sz0 k xs tm sz W) (hb : Below W.heap.size W W') : OJ w N vs hs sz0 k xs tm sz W' :=
  ⟨(hb.block _ (Array.getElem?_eq_some_iff.1 h.res).1).trans h.res, (hb.block _ h.made.cells.2.2.2.2.2.2.2).trans h.made, (Steady.ownsRow W.heap.size _ _ _ _ _ _).ext h.rowV hb, (Steady.ownsRow W.heap.size _ _ _ _ _ _).ext h.rowH hb, h.dist, h.bel.trans (hb.mono h.bel.size), h.lt⟩
theorem OJ.setM (h : OJ w N vs hs sz0 k xs tm sz W) {tm' sz' : Int} (i : Nat) (u : Value) (hcs : (#[vs, hs, .int .i64 tm, .int .i64 sz, .map (some N), .map (some (N + 1))] : Array Value).setIfInBounds i u = #[vs, hs, .int .i64 tm', .int .i64 sz', .map (some N), .map (some (N + 1))]) :
    OJ w N vs hs sz0 k xs tm' sz' (W.setCell ⟨N + 1 + 1, i, none⟩ u) := by
  have hlt := h.lt
  refine ⟨(Below.heap_setCell _ _ _ _ (by simp; omega)).trans h.res, ?_, ownsRow_setCell_below h.rowV (by simp) u, ownsRow_setCell_below h.rowH (by simp) u, h.dist, h.bel.setCell (by simp; omega) u, hlt⟩
  have := set_block W (N + 1 + 1) i _ _ u h.made
  rw [hcs] at this
  exact this
theorem OJ.appended (h : OJ w N vs hs sz0 k xs tm sz W) (W' : World) (gg cap : Nat) (hown : W'.ownsRow (N + 1 + 1 + 1) 3 1 (.slice (some ⟨gg, 0, none⟩) (k + 1) cap) (k + 1) (((List.range k).map fun (i : Nat) => .int .i64 ((sz0 + i : Nat) : Int)) ++ [.int .i64 ((sz0 + k : Nat) : Int)]))
    (hg : W.grownBy W' hs.ownBlock) (hat : some gg = hs.ownBlock ∨ gg = W.heap.size + 1) : MK W' (N + 1 + 1) vs hs tm sz N (N + 1) ∧
      OJ w N vs (.slice (some ⟨gg, 0, none⟩) (k + 1) cap) sz0 (k + 1) xs tm sz (W'.setCell ⟨N + 1 + 1, 1, none⟩ (.slice (some ⟨gg, 0, none⟩) (k + 1) cap)) := by
  have hlt := h.lt
  have hrow : ∀ q, q < N + 1 + 1 + 1 → some q ≠ hs.ownBlock := fun q hq e => by have := (h.rowH.lt q e.symm).1; omega
  have hmk : MK W' (N + 1 + 1) vs hs tm sz N (N + 1) := (hg.block _ h.made.cells.2.2.2.2.2.2.2 (hrow _ (by omega))).trans h.made
  refine ⟨hmk, ?_, set_block _ _ _ _ _ _ hmk, ?_, ?_, ?_, ?_, hlt⟩
  · rw [Below.heap_setCell _ _ _ _ (by simp; omega), hg.block _ (Array.getElem?_eq_some_iff.1 h.res).1 (hrow _ (by omega))]; exact h.res
  · refine ownsRow_setCell_below (h.rowV.kept hg ?_) (by simp) _
    cases hv : vs.ownBlock with
    | none => exact Or.inl rfl
    | some q => exact Or.inr (fun e => h.dist q hv e.symm)
  · have := ownsRow_setCell_below hown (a := ⟨N + 1 + 1, 1, none⟩) (by simp) (.slice (some ⟨gg, 0, none⟩) (k + 1) cap)
    rw [List.range_succ, List.map_append]
    exact this
  · intro q hq he
    simp only [Value.ownBlock, Option.some.injEq] at he
    subst he
    rcases hat with hat | hat
    · exact h.dist _ hq hat.symm
    · have := (h.rowV.lt _ hq).2; omega
  · exact (h.bel.grown hg h.bel.size (fun q e => by have := (h.rowH.lt q e).1; omega)).setCell (by simp; omega) _
end

/-- what the statement 'm.not[A] = append(m.not[A], B)' reads -/
def NF (M N pb : Nat) (f : Int → Option Value) (A B : Int) (W : World) : Prop :=
  W.cell? ⟨M, 4, none⟩ = some (.map (some N)) ∧ W.cell? ⟨pb, 0, none⟩ = some (.int .i64 A) ∧ W.cell? ⟨pb, 1, none⟩ = some (.int .i64 B) ∧ IMap W N f
theorem NF.ext {M N pb : Nat} {f : Int → Option Value} {A B : Int} {W W' : World} (h : NF M N pb f A B W) (hb : Below W.heap.size W W') : NF M N pb f A B W' :=
  ⟨cell_ext hb h.1, cell_ext hb h.2.1, cell_ext hb h.2.2.1, h.2.2.2.ext hb⟩
theorem NF.grown {M N pb : Nat} {f : Int → Option Value} {A B : Int} {W W' : World} {row : Option Nat} (h : NF M N pb f A B W) (hb : W.grownBy W' row) (h1 : some M ≠ row) (h2 : some pb ≠ row) (h3 : some N ≠ row) : NF M N pb f A B W' :=
  ⟨hb.cell h.1 h1, hb.cell h.2.1 h2, hb.cell h.2.2.1 h2, h.2.2.2.grown hb h3⟩

theorem op_mapUpdate {P : Program} {Q : Exit → Act → World → Prop} {o : Oper} {K : Act → World → Prop} {a : Act} {w w' : World} (t : TypeId) (m k x : Operand) (ho : o.op = .mapUpdate t m k x)
    (hrun : (Instr.mapUpdate t (a.eval m) (a.eval k) (a.eval x)).run P w = .ok () w') (h : K (a.put o.dst undef) w') : o.wp P a w K Q := by
  unfold Oper.wp execOp
  simp only [ho, Sem.run_bind, hrun, Result.andThen, Sem.run_pure]
  exact h

theorem cell_put (w : World) (l : Nat) (o : Obj) (p : Addr) (h : p.block ≠ l) : (w.putObj l o).cell? p = w.cell? p := World.cell?_of_block (World.putObj_heap_other h)
theorem unDrew {w w2 : World} {row : Option Nat} (h : w.drew.grownBy w2 row) : w.grownBy w2 row := ⟨h.os, h.tape, h.output, h.size, h.block⟩

def OfPost (w : World) (ss : List Nat) (sz : Nat) (l : Nat) (t : Bool) (e : Ending) (w' : World) : Prop :=
  ∃ v1 v2, e = .returned (.tuple #[.agg #[v1, v2, .int .i64 (if t then ((sz + l : Nat) : Int) else -1), .int .i64 ((sz + l + (if t then 1 else 0) : Nat) : Int)], .int .i64 0]) ∧
    w'.ownsRow w.heap.size 3 1 v1 ss.length (ss.map fun (s : Nat) => .int .i64 (s : Int)) ∧ w'.ownsRow w.heap.size 3 1 v2 l ((List.range l).map fun (i : Nat) => .int .i64 ((sz + i : Nat) : Int)) ∧
    (∀ g, v1.ownBlock = some g → v2.ownBlock ≠ some g) ∧ Below w.heap.size w w'

set_option maxRecDepth 100000 in
set_option maxHeartbeats 2000000 in
theorem of_ok (a : Option Addr) (n c : Nat) (xs : List Int) (a' : Option Addr) (m c' : Nat) (ps : List (Int × Int)) (a'' : Option Addr) (l c'' : Nat) (rs : List Int) (t : Bool) (w : World)
    (h : Ints w a n xs) (h' : Prs w a' m ps) (h'' : Ints w a'' l rs) (hok : okAll xs ps rs = true) (hm : m ≤ 1000000) :
    Calls Try.prog 11 #[.slice a n c, .slice a' m c', .slice a'' l c'', .bool t] w (OfPost w ((asg ps xs).map (·.2)) (szOf (asg ps xs)) l t) := by
  simp only [okAll, Bool.and_eq_true] at hok
  obtain ⟨⟨b1, b2⟩, b3⟩ := hok
  have H := Lib.hid h
  have H' := Lib.hid h'
  have H'' := Lib.hid h''
  clear h h' h''
  have hmm := @run_makeMap Try.prog
  go_enter Try.func11, Try.ntmps11
  go_wp2_with (first
    | (go_at_call 21; ((with_reducible refine (rising_any a n c xs 1 200 _ (by exact H.out.ext (ext_alloc _ _)) (by omega)).mono ?_); rintro e w' ⟨rfl, rfl⟩))
    | (go_at_call 21; ((with_reducible refine (rising_any a'' l c'' rs 0 63 _ (by exact H''.out.ext (ext_alloc _ _)) (by omega)).mono ?_); rintro e w' ⟨rfl, rfl⟩))
    | (go_at_call 22; ((with_reducible refine (right_any a n c xs a' m c' ps _ (by exact H.out.ext (ext_alloc _ _)) (by exact H'.out.ext (ext_alloc _ _))).mono ?_); rintro e w1 ⟨rfl, hb1⟩)
       obtain ⟨hc1, hf1⟩ := bcell hb1
       have HB1 := Lib.hid hb1
       clear hb1
       simp only [World.size_alloc] at hc1 hf1))
  have HO : Hid (OI w w1.heap.size nilS nilS (-1) 0 (notsOf []) (fun _ => none) (fun _ => none) (((w1.alloc (.map #[] 0)).alloc (.map #[] 0)).alloc (.cells #[nilS, nilS, .int .i64 (-1), .int .i64 0, .map (some w1.heap.size), .map (some (w1.heap.size + 1))] 55))) := by
    have hb1 := HB1.out
    have hs1 := hb1.size
    simp only [World.size_alloc] at hs1
    have e1 := ext_alloc w1 (.map #[] 0)
    have e2 := ext_alloc (w1.alloc (.map #[] 0)) (.map #[] 0)
    have e3 := ext_alloc ((w1.alloc (.map #[] 0)).alloc (.map #[] 0)) (.cells #[nilS, nilS, .int .i64 (-1), .int .i64 0, .map (some w1.heap.size), .map (some (w1.heap.size + 1))] 55)
    have hb0 : Below w.heap.size w w1 := ext_trans (ext_alloc w _) hb1
    refine ⟨?_, ?_, ?_, ?_, ?_, by omega⟩
    · rw [Below.heap_alloc _ _ _ (by simp; omega), Below.heap_alloc _ _ _ (by simp; omega), Below.heap_alloc _ _ _ (by omega), hb1.block _ (by simp)]
      exact World.alloc_heap_new w _
    · have := World.alloc_heap_new ((w1.alloc (.map #[] 0)).alloc (.map #[] 0)) (.cells #[nilS, nilS, .int .i64 (-1), .int .i64 0, .map (some w1.heap.size), .map (some (w1.heap.size + 1))] 55)
      simpa [MK] using this
    · exact ((NotM.made w1 (base := w1.heap.size + 1 + 1 + 1) (by omega)).ext e2).ext e3
    · have := (IMap.made (w1.alloc (.map #[] 0))).ext e3
      rw [World.size_alloc] at this
      exact this
    · exact (hb0.trans (e1.mono hb0.size)).trans ((ext_trans e2 e3).mono (by simp; omega))
  have hNlt : w.heap.size < w1.heap.size := HO.out.lt
  clear hc1 hf1 hmm HB1
  go_loopw [12, 38] (fun _ i wr => ∃ (k : Nat) (f : Int → Option Value), k ≤ m ∧ i = .int .i64 k ∧ Hid (OI w w1.heap.size nilS nilS (-1) 0 (notsOf (ps.take k)) f (fun _ => none) wr)) (fun _ i _ => m - (intOf i).toNat)
  case atStart => exact ⟨0, _, by omega, rfl, HO⟩
  case round =>
    clear HO
    obtain ⟨k, f, hk, rfl, HO⟩ := hrel
    by_cases hlt : k < m
    · obtain ⟨b, o, rfl, hcell, hcell', ⟨hw1, hw2⟩, hw3, hw4⟩ := (H'.out.ext HO.out.bel).2.2 k hlt
      have HM : Hid (ps.getD k (0, 0) ∈ ps) := by
        have hk' : k < ps.length := by rw [H'.out.1]; exact hlt
        simp [Hid, List.getD, hk']
      have HT := Lib.hid (congrArg notsOf (take_snoc' ps k (0, 0) (by rw [H'.out.1]; exact hlt)))
      generalize ps.getD k (0, 0) = p at *
      obtain ⟨A, B⟩ := p
      simp only at hcell hcell' hw1 hw2 hw3 hw4
      have HAB : Hid (A ≠ B) := by
        have := (List.all_eq_true.1 b3) _ HM.out
        simp only [okPair, Bool.and_eq_true, decide_eq_true_eq] at this
        exact this.1.1
      have hnl : ∀ v, (notsOf (ps.take k) v).length ≤ 2000000 := fun v => by
        have h1 := notsOf_len (ps.take k) v
        have h2 := List.length_take_le k ps
        omega
      have HNL := Lib.hid hnl
      clear hnl
      have HO1 := Lib.hid (HO.out.ext (ext_alloc wr (.cells #[.int .i64 A, .int .i64 B] 41)))
      have hf : NF (w1.heap.size + 1 + 1) w1.heap.size wr.heap.size f A B (wr.alloc (.cells #[.int .i64 A, .int .i64 B] 41)) := by
        refine ⟨HO1.out.made.cells.2.2.2.2.1, ?_, ?_, HO1.out.nots.1⟩ <;> simp [go_sem]
      have HF := Lib.hid hf
      clear hf
      go_wp2
      refine region_mix (fun w' => ∃ n : ClsW (NF (w1.heap.size + 1 + 1) w1.heap.size wr.heap.size f A B), w' = n.val) [(0, 15, some (15, true)), (16, 0, some (16, true)), (17, 0, some (17, false))] (by kernel_rfl) (by kernel_rfl) (cls_mk (HF.out.ext (ext_drewN (Below.refl _ _) 1))) ?_
      simp only [wpMix, List.take_succ_cons, List.take_zero, List.drop_succ_cons, List.drop_zero]
      have hne : Nonempty (ClsW (NF (w1.heap.size + 1 + 1) w1.heap.size wr.heap.size f A B)) := cls_ne HF.out
      have g1 : ∀ n : ClsW (NF (w1.heap.size + 1 + 1) w1.heap.size wr.heap.size f A B), n.val.cell? ⟨w1.heap.size + 1 + 1, 4, none⟩ = some (.map (some w1.heap.size)) := fun n => n.prop.1
      have g2 : ∀ n : ClsW (NF (w1.heap.size + 1 + 1) w1.heap.size wr.heap.size f A B), n.val.cell? ⟨wr.heap.size, 0, none⟩ = some (.int .i64 A) := fun n => n.prop.2.1
      have g3 : ∀ n : ClsW (NF (w1.heap.size + 1 + 1) w1.heap.size wr.heap.size f A B), n.val.cell? ⟨wr.heap.size, 1, none⟩ = some (.int .i64 B) := fun n => n.prop.2.2.1
      have g4 : ∀ (n : ClsW (NF (w1.heap.size + 1 + 1) w1.heap.size wr.heap.size f A B)) (v : Int), (Instr.lookup 52 (.map (some w1.heap.size)) (.int .i64 v) false).run Try.prog n.val = .ok ((f v).getD nilS) n.val :=
        fun n v => IMap.look n.prop.2.2.2 Try.underlying52 Try.underlying3 (zero_ints _) v
      repeat (go_big_quiet_step (fail))
      refine wpQuiet_nil ?_
      clear g1 g2 g3 g4 hne
      refine wpOp_at rfl rfl ?_
      go_simp
      refine ⟨cls_mk (HF.out.ext (ext_drewN (ext_alloc _ _) 1)), ?_⟩
      refine wpQuiet_nil ?_
      refine wpOp_at rfl rfl ?_
      have hsz := HO.out.made.cells.2.2.2.2.2.2.2
      have hnl1 := HNL.out A
      refine op_append1 (wr.alloc (.cells #[.int .i64 A, .int .i64 B] 41)).drew (.tmp 54) (.tmp 57) 22 3 rfl (w1.heap.size + 1 + 1 + 1) _ 1 8 Try.underlying22 info_int rfl (by omega) ((f A).getD nilS) _ _ [.int .i64 B] rfl (HO1.out.nots.2.2.1 A) (wr.heap.size + 1) (by show (wr.alloc _).heap.size = _; simp) rfl rfl (by simp [Value.oneCell']) (by simp only [maxLen]; omega) (by omega) (by show _ ≤ (wr.alloc _).heap.size; simp; omega) ?_
      intro gg cap w2 hown2 hg2 hat2
      have hg2 := unDrew hg2
      have hrow : ∀ r, ((f A).getD nilS).ownBlock = some r → w1.heap.size + 1 + 1 + 1 ≤ r ∧ r < wr.heap.size := fun r e => HO.out.nots.row_lt A r e
      have HF2 := HF.out.grown hg2 (fun e => by have := hrow _ e.symm; omega) (fun e => by have := hrow _ e.symm; omega) (fun e => by have := hrow _ e.symm; omega)
      refine ⟨cls_mk HF2, ?_⟩
      refine wpQuiet_nil ?_
      refine wpOp_at rfl rfl ?_
      obtain ⟨h1, h2⟩ := HO1.out.step A B w2 gg cap hown2 hg2 (by rcases hat2 with h | h; exact Or.inl h; exact Or.inr (by simpa using h))
      obtain ⟨o2, hrun, him⟩ := h1.put (P := Try.prog) Try.underlying52 Try.underlying3 A (.slice (some ⟨gg, 0, none⟩) ((notsOf (ps.take k) A).length + 1) cap)
      refine op_mapUpdate 52 (.tmp 45) (.tmp 47) (.tmp 58) rfl hrun ?_
      have HO2 := Lib.hid (h2 o2 him)
      have HF3 : Hid (NF (w1.heap.size + 1 + 1) w1.heap.size wr.heap.size (upd f A (.slice (some ⟨gg, 0, none⟩) ((notsOf (ps.take k) A).length + 1) cap)) A B (w2.putObj w1.heap.size o2)) :=
        ⟨(cell_put _ _ _ _ (by show _ + 1 + 1 ≠ _; omega)).trans HF2.1, (cell_put _ _ _ _ (by simp; omega)).trans HF2.2.1, (cell_put _ _ _ _ (by simp; omega)).trans HF2.2.2.1, him⟩
      have HNL2 : Hid (∀ v, (updL (notsOf (ps.take k)) A B v).length ≤ 2000001) := fun v => by
        have h1 := HNL.out v
        have h2 := HNL.out A
        unfold updL
        split
        · simp; omega
        · omega
      have hpb : ∀ r, ((upd f A (.slice (some ⟨gg, 0, none⟩) ((notsOf (ps.take k) A).length + 1) cap) B).getD nilS).ownBlock = some r → r ≠ wr.heap.size := fun r e => by
        have hBA : B ≠ A := fun e => HAB.out e.symm
        simp only [upd, if_neg hBA] at e
        have := (HO.out.nots.row_lt B r e).2
        omega
      have HPB := Lib.hid hpb
      clear hpb h1 h2 him hrun hat2 hg2 hown2 hrow HF2 HF HO1 hcell hcell'
      generalize upd f A (.slice (some ⟨gg, 0, none⟩) ((notsOf (ps.take k) A).length + 1) cap) = f2 at *
      refine NoPanic.normal ?_
      simp only [Act.put, List.setIfInBounds_toArray, List.set_cons_succ, List.set_cons_zero]
      go_wp2
      refine region_mix (fun w' => ∃ n : ClsW (NF (w1.heap.size + 1 + 1) w1.heap.size wr.heap.size f2 A B), w' = n.val) [(0, 15, some (15, true)), (16, 0, some (16, true)), (17, 0, some (17, false))] (by kernel_rfl) (by kernel_rfl) (cls_mk (HF3.out.ext (ext_drewN (Below.refl _ _) 1))) ?_
      simp only [wpMix, List.take_succ_cons, List.take_zero, List.drop_succ_cons, List.drop_zero]
      have hne : Nonempty (ClsW (NF (w1.heap.size + 1 + 1) w1.heap.size wr.heap.size f2 A B)) := cls_ne HF3.out
      have g1 : ∀ n : ClsW (NF (w1.heap.size + 1 + 1) w1.heap.size wr.heap.size f2 A B), n.val.cell? ⟨w1.heap.size + 1 + 1, 4, none⟩ = some (.map (some w1.heap.size)) := fun n => n.prop.1
      have g2 : ∀ n : ClsW (NF (w1.heap.size + 1 + 1) w1.heap.size wr.heap.size f2 A B), n.val.cell? ⟨wr.heap.size, 0, none⟩ = some (.int .i64 A) := fun n => n.prop.2.1
      have g3 : ∀ n : ClsW (NF (w1.heap.size + 1 + 1) w1.heap.size wr.heap.size f2 A B), n.val.cell? ⟨wr.heap.size, 1, none⟩ = some (.int .i64 B) := fun n => n.prop.2.2.1
      have g4 : ∀ (n : ClsW (NF (w1.heap.size + 1 + 1) w1.heap.size wr.heap.size f2 A B)) (v : Int), (Instr.lookup 52 (.map (some w1.heap.size)) (.int .i64 v) false).run Try.prog n.val = .ok ((f2 v).getD nilS) n.val :=
        fun n v => IMap.look n.prop.2.2.2 Try.underlying52 Try.underlying3 (zero_ints _) v
      repeat (go_big_quiet_step (fail))
      refine wpQuiet_nil ?_
      clear g1 g2 g3 g4 hne
      refine wpOp_at rfl rfl ?_
      go_simp
      refine ⟨cls_mk (HF3.out.ext (ext_drewN (ext_alloc _ _) 1)), ?_⟩
      refine wpQuiet_nil ?_
      refine wpOp_at rfl rfl ?_
      have hsz := HO2.out.made.cells.2.2.2.2.2.2.2
      rw [World.putObj_size] at hsz
      have hnl1 := HNL2.out B
      refine op_append1 (w2.putObj w1.heap.size o2).drew (.tmp 71) (.tmp 74) 22 3 rfl (w1.heap.size + 1 + 1 + 1) _ 1 8 Try.underlying22 info_int rfl (by omega) ((f2 B).getD nilS) _ _ [.int .i64 A] rfl (HO2.out.nots.2.2.1 B) w2.heap.size (by show (w2.putObj _ _).heap.size = _; simp) rfl rfl (by simp [Value.oneCell']) (by simp only [maxLen]; omega) (by omega) (by show _ ≤ (w2.putObj _ _).heap.size; simp; omega) ?_
      intro gg3 cap3 w3 hown3 hg3 hat3
      have hg3 := unDrew hg3
      have hrow : ∀ r, ((f2 B).getD nilS).ownBlock = some r → w1.heap.size + 1 + 1 + 1 ≤ r ∧ r < (w2.putObj w1.heap.size o2).heap.size := fun r e => HO2.out.nots.row_lt B r e
      have HF4 := HF3.out.grown hg3 (fun e => by have := hrow _ e.symm; omega) (fun e => HPB.out _ e.symm rfl) (fun e => by have := hrow _ e.symm; omega)
      refine ⟨cls_mk HF4, ?_⟩
      refine wpQuiet_nil ?_
      refine wpOp_at rfl rfl ?_
      obtain ⟨h1, h2⟩ := HO2.out.step B A w3 gg3 cap3 hown3 hg3 (by rcases hat3 with h | h; exact Or.inl h; exact Or.inr (by simpa using h))
      obtain ⟨o3, hrun3, him3⟩ := h1.put (P := Try.prog) Try.underlying52 Try.underlying3 B (.slice (some ⟨gg3, 0, none⟩) ((updL (notsOf (ps.take k)) A B B).length + 1) cap3)
      refine op_mapUpdate 52 (.tmp 62) (.tmp 64) (.tmp 75) rfl hrun3 ?_
      have HO3 := Lib.hid (h2 o3 him3)
      refine NoPanic.normal ?_
      simp only [Act.put, List.setIfInBounds_toArray, List.set_cons_succ, List.set_cons_zero]
      have HO4 : Hid (OI w w1.heap.size nilS nilS (-1) 0 (notsOf (ps.take (k + 1))) (upd f2 B (.slice (some ⟨gg3, 0, none⟩) ((updL (notsOf (ps.take k)) A B B).length + 1) cap3)) (fun _ => none) (w3.putObj w1.heap.size o3)) := by
        rw [Hid, HT.out, ← notsOf_upd _ _ _ HAB.out]; exact HO3.out
      clear HO3 HO2 HF3 him3 hrun3 h1 h2 hat3 hg3 hown3 hrow HF4
      go_wp2
      go_roundw
      case rel => exact ⟨k + 1, _, by omega, by go_num, HO4⟩
      case measure => simp [intOf]; omega
    · obtain rfl : k = m := by omega
      have HOn : Hid (OI w w1.heap.size nilS nilS (-1) 0 (notsOf ps) f (fun _ => none) wr) := by
        have := HO.out
        rwa [List.take_of_length_le (by rw [H'.out.1]; omega)] at this
      clear HO hlt hk
      have hxs := rising_all b1
      have hn200 : n ≤ 200 := by have := hxs.2.2; rw [H.out.1] at this; omega
      have HX := Lib.hid hxs
      have HNI : Hid (∀ v, ∀ x ∈ notsOf ps v, I64 x) := fun v x hx => by
        have hmem : x ∈ xs := by
          rcases (mem_notsOf ps v x).1 hx with hp | hp
          · have := (List.all_eq_true.1 b3) _ hp
            simp only [okPair, Bool.and_eq_true, decide_eq_true_eq] at this
            have h2 := this.2
            by_cases hc : x ∈ xs
            · exact hc
            · have := (idx_neg_iff xs x).2 hc; omega
          · have := (List.all_eq_true.1 b3) _ hp
            simp only [okPair, Bool.and_eq_true, decide_eq_true_eq] at this
            have h2 := this.1.2
            by_cases hc : x ∈ xs
            · exact hc
            · have := (idx_neg_iff xs x).2 hc; omega
        have := HX.out.1 x hmem
        exact ⟨by omega, by omega⟩
      have HNL : Hid (∀ v, (notsOf ps v).length ≤ 2000000) := fun v => by
        have h1 := notsOf_len ps v
        have h2 := H'.out.1
        omega
      clear hxs
      go_wp2
      go_loopw [14, 15, 79] (fun _ _ i wr => ∃ (k : Nat) (vs : Value), k ≤ n ∧ i = .int .i64 k ∧ Hid (OI w w1.heap.size vs nilS (-1) (szOf (asg ps (xs.take k))) (notsOf ps) f (gOf (asg ps (xs.take k))) wr) ∧
        Hid (wr.ownsRow (w1.heap.size + 1 + 1 + 1) 3 1 vs k ((asg ps (xs.take k)).map fun d => .int .i64 (d.2 : Int))) ∧ Hid (∀ v g, ((f v).getD nilS).ownBlock = some g → vs.ownBlock ≠ some g)) (fun _ _ i _ => n - (intOf i).toNat)
      case atStart => exact ⟨0, nilS, by omega, rfl, HOn, World.ownsRow_nil _ _ _ _, fun v g _ h => by simp [Value.ownBlock] at h⟩
      case round =>
        clear HOn
        obtain ⟨k2, vs, hk2, rfl, HO, HV, HD⟩ := hrel
        by_cases hlt : k2 < n
        · obtain ⟨b, o, rfl, hcell, hw1, hw2⟩ := (H.out.ext HO.out.bel).2.2 k2 hlt
          have HS : Hid (asg ps (xs.take (k2 + 1)) = stepA ps (asg ps (xs.take k2)) (xs.getD k2 0)) := by
            rw [Hid, take_snoc' xs k2 0 (by rw [H.out.1]; exact hlt), asg_snoc]
          have HK : Hid (xs.getD k2 0 ∉ (asg ps (xs.take k2)).map (·.1)) := by
            rw [asg_keys]
            intro hm
            obtain ⟨j, hj, e⟩ := List.getElem_of_mem hm
            have hj' : j < k2 := by simp at hj; omega
            have hk' : k2 < xs.length := by rw [H.out.1]; exact hlt
            have := (List.pairwise_iff_getElem.1 HX.out.2.1) j k2 (by omega) hk' hj'
            simp only [List.getElem_take, List.getD, List.getElem?_eq_getElem hk', Option.getD_some] at e this
            omega
          have HL : Hid ((asg ps (xs.take k2)).length = k2) := by
            rw [Hid, asg_length, List.length_take, H.out.1]; omega
          have HDL : Hid (∀ d ∈ asg ps (xs.take k2), d.2 < (asg ps (xs.take k2)).length) := asg_lt ps _ (by simp; omega)
          generalize xs.getD k2 0 = v at *
          generalize asg ps (xs.take k2) = D at *
          have HGB : Hid (∀ x y, gOf D x = some y → 0 ≤ y ∧ y < 300) := fun x y hx => by
            obtain ⟨d, hd, _, rfl⟩ := gOf_mem hx
            have := HDL.out d hd
            have := HL.out
            omega
          have HLL := Lib.hid (lst_least (notsOf ps v) D (by rw [HL.out]; omega) HDL.out)
          obtain ⟨sa, sc, hsv, hsi⟩ := ints_of_own (HO.out.nots.2.2.1 v) (by have := HNL.out v; omega) (HNI.out v)
          have HSV := Lib.hid hsv
          have HSI := Lib.hid hsi
          clear hsv hsi
          have hsz : szOf D ≤ 200 := by
            have := sz_le D D.length HDL.out
            rw [HL.out] at this
            omega
          go_wp2_with (first
            | (go_at_call 23
               refine (least_any wr (w1.heap.size + 1 + 1) vs nilS (-1) (szOf D) w1.heap.size (w1.heap.size + 1) HO.out.made f (gOf D) HO.out.nots.1 HO.out.slots v sa _ sc (notsOf ps v) HSV.out HSI.out HGB.out).mono ?_
               rintro e w2 ⟨r, rfl, hr, hb2⟩
               obtain rfl : r = lstN (blk (notsOf ps v) (gOf D)) := least_unique hr HLL.out.1
               have hr200 : lstN (blk (notsOf ps v) (gOf D)) ≤ 200 := by have := HLL.out.2; have := HL.out; omega
               have HS2 : Hid (stepA ps D v = D ++ [(v, lstN (blk (notsOf ps v) (gOf D)))]) := rfl
               have HO2 := Lib.hid (HO.out.ext hb2)
               have HV2 := Lib.hid ((Steady.ownsRow wr.heap.size _ _ _ _ _ _).ext HV.out hb2)
               clear hr hb2
               generalize lstN (blk (notsOf ps v) (gOf D)) = r at *
               obtain ⟨o2, hrun, him⟩ := HO2.out.slots.put (P := Try.prog) Try.underlying53 Try.underlying3 v (.int .i64 (r : Int))
               have HO3 := Lib.hid (HO2.out.putSlot o2 him (g' := gOf (D ++ [(v, r)])) (gOf_snoc D v r HK.out))
               have HV3 := Lib.hid (ownsRow_put HV2.out o2 (l := w1.heap.size + 1) (by omega))
               obtain ⟨_, _, _, _, _, c5, _, _⟩ := HO2.out.made.cells
               obtain ⟨d0, _, _, d3, _, _, df, dlt⟩ := HO3.out.made.cells
               have df0 := df 0
               have df3 := df 3
               clear df him)
            | (at_builtin
               refine wpList_append1 rfl (w2.putObj (w1.heap.size + 1) o2) (.tmp 97) (.tmp 99) 22 3 rfl (w1.heap.size + 1 + 1 + 1) _ 1 8 Try.underlying22 info_int rfl (by omega) vs k2 _ [.int .i64 (r : Int)] rfl HV3.out w2.heap.size (by simp) rfl rfl (by simp [Value.oneCell']) (by simp only [maxLen]; omega) (by omega) (by simp at dlt ⊢; omega) ?_
               intro gg cap w4 hown4 hg4 hat4
               have HG4 := Lib.hid hg4
               have HW4 := Lib.hid hown4
               have HA4 := Lib.hid hat4
               clear hg4 hown4 hat4
               have HO4 := Lib.hid (HO3.out.grown HG4.out (fun q e => ⟨(HV3.out.lt q e).1, fun x hx => HD.out x q hx e⟩))
               obtain ⟨e0, _, _, e3, _, _, ef, elt⟩ := HO4.out.made.cells
               have ef0 := ef 0
               have ef3 := ef 3
               clear ef))
          have e6 : (if (szOf D : Int) < (r : Int) + 1 then (r : Int) + 1 else (szOf D : Int)) = ((max (szOf D) (r + 1) : Nat) : Int) := by split <;> omega
          rw [e6]
          refine ⟨⟨k2 + 1, .slice (some ⟨gg, 0, none⟩) (k2 + 1) cap, by omega, by go_num, ?_, ?_, ?_⟩, by simp [intOf]; omega⟩
          · rw [Hid, HS.out, HS2.out, szOf_snoc]
            exact (HO4.out.setM (vs' := .slice (some ⟨gg, 0, none⟩) (k2 + 1) cap) 0 (.slice (some ⟨gg, 0, none⟩) (k2 + 1) cap) rfl).setM (sz' := ((max (szOf D) (r + 1) : Nat) : Int)) 3 (.int .i64 ((max (szOf D) (r + 1) : Nat) : Int)) rfl
          · rw [Hid, HS.out, HS2.out, List.map_append]
            exact ownsRow_setCell_below (ownsRow_setCell_below HW4.out (by simp) _) (by simp) _
          · intro x q hx hq
            simp only [Value.ownBlock, Option.some.injEq] at hq
            subst hq
            rcases HA4.out with h | h
            · exact HD.out x _ hx h.symm
            · have := (HO3.out.nots.row_lt x _ hx).2
              rw [World.putObj_size] at this
              omega
        · obtain rfl : k2 = n := by omega
          have HO' : Hid (OI w w1.heap.size vs nilS (-1) (szOf (asg ps xs)) (notsOf ps) f (gOf (asg ps xs)) wr) := by
            have := HO.out
            rwa [List.take_of_length_le (by rw [H.out.1]; omega)] at this
          have HV' : Hid (wr.ownsRow (w1.heap.size + 1 + 1 + 1) 3 1 vs k2 ((asg ps xs).map fun d => .int .i64 (d.2 : Int))) := by
            have := HV.out
            rwa [List.take_of_length_le (by rw [H.out.1]; omega)] at this
          have hsz : szOf (asg ps xs) ≤ 300 := by
            have := sz_le (asg ps xs) _ (asg_lt ps xs (by rw [H.out.1]; omega))
            rw [asg_length, H.out.1] at this
            omega
          have hl64 : l ≤ 64 := by have := (rising_all b2).2.2; rw [H''.out.1] at this; omega
          clear HO HV HD hlt hk2 HNI HNL HX
          have HAL : Hid ((asg ps xs).length = k2) := by rw [Hid, asg_length, H.out.1]
          generalize hDD : asg ps xs = D at *
          have HDD := Lib.hid hDD
          clear hDD
          have HJ : Hid (OJ w w1.heap.size vs nilS (szOf D) 0 (D.map fun d => .int .i64 (d.2 : Int)) (-1) (szOf D : Int) wr) :=
            ⟨HO'.out.res, HO'.out.made, by rw [List.length_map, HAL.out]; exact HV'.out, World.ownsRow_nil _ _ _ _, fun q _ h => by simp [Value.ownBlock] at h, HO'.out.bel, HO'.out.lt⟩
          clear HO' HV'
          go_wp2
          go_loopw [119] (fun i wr => ∃ (k : Nat) (hs : Value), k ≤ l ∧ i = .int .i64 k ∧ Hid (OJ w w1.heap.size vs hs (szOf D) k (D.map fun d => .int .i64 (d.2 : Int)) (-1) ((szOf D + k : Nat) : Int) wr)) (fun i _ => l - (intOf i).toNat)
          case atStart => exact ⟨0, nilS, by omega, rfl, HJ⟩
          case round =>
            clear HJ
            obtain ⟨k3, hs, hk3, rfl, HJ⟩ := hrel
            by_cases hlt : k3 < l
            · go_wp2
              obtain ⟨_, c1, _, _, _, _, _, clt⟩ := HJ.out.made.cells
              refine region_mix (fun w' => ∃ n : ClsW (fun W => W.cell? ⟨w1.heap.size + 1 + 1, 1, none⟩ = some hs), w' = n.val) [(0, 7, some (7, true)), (8, 0, some (8, true)), (9, 0, some (9, true)), (10, 3, some (13, false))] (by kernel_rfl) (by kernel_rfl) (cls_mk c1) ?_
              simp only [wpMix, List.take_succ_cons, List.take_zero, List.drop_succ_cons, List.drop_zero]
              have hne : Nonempty (ClsW (fun W => W.cell? ⟨w1.heap.size + 1 + 1, 1, none⟩ = some hs)) := cls_ne c1
              have g1 : ∀ n : ClsW (fun W => W.cell? ⟨w1.heap.size + 1 + 1, 1, none⟩ = some hs), n.val.cell? ⟨w1.heap.size + 1 + 1, 1, none⟩ = some hs := fun n => n.prop
              repeat (go_big_quiet_step (fail))
              refine wpQuiet_nil ?_
              clear g1
              refine wpOp_at rfl rfl ?_
              go_simp
              refine (own_any wr.drew (w1.heap.size + 1 + 1) vs hs (-1) _ w1.heap.size (w1.heap.size + 1) HJ.out.made (by omega) (by omega)).mono ?_
              rintro e w4 ⟨rfl, rfl⟩
              have HJ4 : Hid (OJ w w1.heap.size vs hs (szOf D) k3 (D.map fun d => .int .i64 (d.2 : Int)) (-1) ((szOf D + (k3 + 1) : Nat) : Int) (wr.drew.setCell ⟨w1.heap.size + 1 + 1, 3, none⟩ (.int .i64 (((szOf D + k3 : Nat) : Int) + 1)))) := by
                have h := HJ.out.ext (W' := wr.drew) (ext_drewN (Below.refl _ _) 1)
                have e : ((szOf D + k3 : Nat) : Int) + 1 = ((szOf D + (k3 + 1) : Nat) : Int) := by omega
                rw [e]
                exact h.setM 3 _ rfl
              generalize wr.drew.setCell ⟨w1.heap.size + 1 + 1, 3, none⟩ (.int .i64 (((szOf D + k3 : Nat) : Int) + 1)) = w4 at *
              have hm4 := HJ4.out.made.cells
              refine ⟨cls_mk hm4.2.1, ?_⟩
              refine wpQuiet_nil ?_
              refine wpOp_at rfl rfl ?_
              have HM4 := Lib.hid hm4
              clear hm4
              go_simp
              refine ⟨cls_mk (cell_ext (ext_alloc _ _) HM4.out.2.1), ?_⟩
              refine wpQuiet_nil ?_
              refine wpOp_at rfl rfl ?_
              have hlt4 := HM4.out.2.2.2.2.2.2.2
              refine op_append1 w4 (.tmp 126) (.tmp 129) 22 3 rfl (w1.heap.size + 1 + 1 + 1) _ 1 8 Try.underlying22 info_int rfl (by omega) hs k3 _ [.int .i64 ((szOf D + k3 : Nat) : Int)] rfl HJ4.out.rowH w4.heap.size rfl rfl rfl (by simp [Value.oneCell']) (by simp only [maxLen]; omega) (by omega) (by omega) ?_
              intro gg cap w5 hown5 hg5 hat5
              obtain ⟨hm5, hj5⟩ := HJ4.out.appended w5 gg cap hown5 hg5 hat5
              have HJ5 := Lib.hid hj5
              obtain ⟨_, c15, _, _, _, _, f5, _⟩ := hm5.cells
              have f15 := f5 1
              refine ⟨cls_mk c15, ?_⟩
              clear hj5 hm5 hown5 hg5 hat5 f5 hne c1 clt HJ HJ4
              simp only [Act.put, List.setIfInBounds_toArray, List.set_cons_succ, List.set_cons_zero]
              have hne : Nonempty (ClsW (fun W => W.cell? ⟨w1.heap.size + 1 + 1, 1, none⟩ = some hs)) := cls_ne c15
              repeat (go_big_quiet_step (fail))
              refine wpQuiet_nil ?_
              clear hne
              refine wpOp_at rfl rfl ?_
              go_simp
              refine NoPanic.normal ?_
              clear c15 f15 HM4 hlt4
              go_wp2
              go_roundw
              case rel => exact ⟨k3 + 1, _, by omega, by go_num, HJ5⟩
              case measure => simp [intOf]; omega
            · obtain rfl : k3 = l := by omega
              obtain ⟨va, vc, rfl⟩ := slice_of_own HJ.out.rowV
              obtain ⟨ha, hc, rfl⟩ := slice_of_own HJ.out.rowH
              obtain ⟨c0, c1, c2, c3, _, _, cf, clt⟩ := HJ.out.made.cells
              have cf0 := cf 0
              have cf1 := cf 1
              have cf2 := cf 2
              have cf3 := cf 3
              have r0 : wr.cell? ⟨w.heap.size, 0, none⟩ = some nilS := by simp [World.cell?, HJ.out.res]
              have r1 : wr.cell? ⟨w.heap.size, 1, none⟩ = some nilS := by simp [World.cell?, HJ.out.res]
              have r2 : wr.cell? ⟨w.heap.size, 2, none⟩ = some (.int .i64 0) := by simp [World.cell?, HJ.out.res]
              have r3 : wr.cell? ⟨w.heap.size, 3, none⟩ = some (.int .i64 0) := by simp [World.cell?, HJ.out.res]
              have q0 : wr.frozen? ⟨w.heap.size, 0, none⟩ = false := by simp [World.frozen?, HJ.out.res]
              have q1 : wr.frozen? ⟨w.heap.size, 1, none⟩ = false := by simp [World.frozen?, HJ.out.res]
              have q2 : wr.frozen? ⟨w.heap.size, 2, none⟩ = false := by simp [World.frozen?, HJ.out.res]
              have q3 : wr.frozen? ⟨w.heap.size, 3, none⟩ = false := by simp [World.frozen?, HJ.out.res]
              clear cf
              have hrm : w.heap.size ≠ w1.heap.size + 1 + 1 := by omega
              have hmr : w1.heap.size + 1 + 1 ≠ w.heap.size := by omega
              have HQ : Hid (∀ tm sz W, OJ w w1.heap.size (.slice va (D.map fun d => Value.int .i64 (d.2 : Int)).length vc) (.slice ha k3 hc) (szOf D) k3 (D.map fun d => .int .i64 (d.2 : Int)) tm sz W →
                ∀ W', (W' = ((((W.setCell ⟨w.heap.size, 0, none⟩ (.slice va (D.map fun d => Value.int .i64 (d.2 : Int)).length vc)).setCell ⟨w.heap.size, 1, none⟩ (.slice ha k3 hc)).setCell ⟨w.heap.size, 2, none⟩ (.int .i64 tm)).setCell ⟨w.heap.size, 3, none⟩ (.int .i64 sz))) →
                tm = (if t then ((szOf D + k3 : Nat) : Int) else -1) → sz = ((szOf D + k3 + (if t then 1 else 0) : Nat) : Int) →
                OfPost w ((asg ps xs).map (·.2)) (szOf (asg ps xs)) k3 t (.returned (.tuple #[.agg #[(.slice va (D.map fun d => Value.int .i64 (d.2 : Int)).length vc), (.slice ha k3 hc), .int .i64 tm, .int .i64 sz], .int .i64 0])) W') := by
                rintro tm sz W hJ W' rfl rfl rfl
                rw [HDD.out]
                have hs4 : ∀ {v : Value} {n : Nat} {ys : List Value}, W.ownsRow (w1.heap.size + 1 + 1 + 1) 3 1 v n ys → ∀ u0 u1 u2 u3 : Value,
                    ((((W.setCell ⟨w.heap.size, 0, none⟩ u0).setCell ⟨w.heap.size, 1, none⟩ u1).setCell ⟨w.heap.size, 2, none⟩ u2).setCell ⟨w.heap.size, 3, none⟩ u3).ownsRow w.heap.size 3 1 v n ys := fun hrow u0 u1 u2 u3 =>
                  ownsRow_base (ownsRow_setCell_below (ownsRow_setCell_below (ownsRow_setCell_below (ownsRow_setCell_below hrow (by simp; omega) _) (by simp; omega) _) (by simp; omega) _) (by simp; omega) _) (by omega)
                refine ⟨_, _, rfl, ?_, hs4 hJ.rowH _ _ _ _, hJ.dist, ?_⟩
                · have := hs4 hJ.rowV (.slice va (D.map fun d => Value.int .i64 (d.2 : Int)).length vc) (.slice ha k3 hc) (.int .i64 (if t then ((szOf D + k3 : Nat) : Int) else -1)) (.int .i64 ((szOf D + k3 + (if t then 1 else 0) : Nat) : Int))
                  simpa [Function.comp_def] using this
                · exact (((hJ.bel.setCell (p := ⟨w.heap.size, 0, none⟩) (Nat.le_refl _) _).setCell (p := ⟨w.heap.size, 1, none⟩) (Nat.le_refl _) _).setCell (p := ⟨w.heap.size, 2, none⟩) (Nat.le_refl _) _).setCell (p := ⟨w.heap.size, 3, none⟩) (Nat.le_refl _) _
              cases t
              · go_wp2
                refine bodyPost_ret (v := .tuple #[.agg #[(.slice va (D.map fun d => Value.int .i64 (d.2 : Int)).length vc), (.slice ha k3 hc), .int .i64 (-1), .int .i64 ((szOf D + k3 : Nat) : Int)], .int .i64 0]) ?_ rfl ?_
                · simp [results, Try.results11, go_sem, r0, r1, r2, r3]
                · exact HQ.out _ _ _ HJ.out _ (by simp only [Int.natCast_add, List.length_map]) rfl rfl
              · have HJ5 : Hid (OJ w w1.heap.size (.slice va (D.map fun d => Value.int .i64 (d.2 : Int)).length vc) (.slice ha k3 hc) (szOf D) k3 (D.map fun d => .int .i64 (d.2 : Int)) ((szOf D + k3 : Nat) : Int) (((szOf D + k3 : Nat) : Int) + 1)
                    ((wr.setCell ⟨w1.heap.size + 1 + 1, 3, none⟩ (.int .i64 (((szOf D + k3 : Nat) : Int) + 1))).setCell ⟨w1.heap.size + 1 + 1, 2, none⟩ (.int .i64 ((szOf D + k3 : Nat) : Int)))) :=
                  (HJ.out.setM 3 _ rfl).setM 2 _ rfl
                go_wp2_with (go_at_call 24; refine (own_any wr (w1.heap.size + 1 + 1) _ _ (-1) _ w1.heap.size (w1.heap.size + 1) HJ.out.made (by omega) (by omega)).mono ?_; rintro e w4 ⟨rfl, rfl⟩)
                refine bodyPost_ret (v := .tuple #[.agg #[(.slice va (D.map fun d => Value.int .i64 (d.2 : Int)).length vc), (.slice ha k3 hc), .int .i64 ((szOf D + k3 : Nat) : Int), .int .i64 (((szOf D + k3 : Nat) : Int) + 1)], .int .i64 0]) ?_ rfl ?_
                · simp [results, Try.results11, go_sem, r0, r1, r2, r3, hrm]
                · exact HQ.out _ _ _ HJ5.out _ (by simp only [Int.natCast_add, List.length_map]) rfl (by simp)
end Go.Proofs.Ytkakanjoeofjcaa
