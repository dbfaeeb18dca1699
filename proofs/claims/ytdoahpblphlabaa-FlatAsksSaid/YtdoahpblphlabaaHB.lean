/-
  Flat: LentIns, markIns, LentRow, LentBlock, LentMachine.
-/
import Derived.Test.YtdoahpblphlabaaLentI
import Derived.Test.YtdoahpblphlabaaFN
import Derived.Test.YtdoahpblphlabaaFP
namespace Go.Proofs.Ytdoahpblphlabaa
set_option linter.unusedSimpArgs false
set_option linter.unusedVariables false
open Go.RowKit

/-- an instruction that is lent: the same, its arguments lent -/
def LentR (w : World) (base : Nat) (r r' : InsR) : Prop := r'.d = r.d ∧ Lent w base (.slice r'.aa r'.na r'.ca) r.d.args
theorem LentR.ext {w w' : World} {base : Nat} {r r' : InsR} (h : LentR w base r r') (hb : Below w.heap.size w w') : LentR w' base r r' := ⟨h.1, h.2.ext hb⟩
theorem LentR.ok {w : World} {base : Nat} {r r' : InsR} (h : LentR w base r r') (hr : InsOK w r) : InsOK w r' := by
  obtain ⟨hd, hl⟩ := h
  obtain ⟨a, c, e, hi⟩ := hl.ints (by rw [hr.1.1]; exact hr.1.2.1) hr.1.mem
  obtain ⟨g, cap, e2, hc, _⟩ := hl.cells
  injection e with e1 e2' e3
  injection e2 with f1 f2 f3
  refine ⟨?_, by omega, ?_⟩
  · rw [hd, e1, e2']; exact hi
  · rw [hd]; exact hr.2.2
theorem chg_setRow (w : World) (g : Nat) (cs : Array Value) : Chg (fun k => k = g) w (w.setRow g cs) :=
  ⟨rfl, rfl, rfl, by rw [size_setRow]; exact Nat.le_refl _, fun k _ hn => setRow_other w g k cs hn⟩
theorem chg_setCell (w : World) (b o : Nat) (u : Value) : Chg (fun k => k = b) w (w.setCell ⟨b, o, none⟩ u) := (Chg.refl (fun k => k = b) w).setCell (p := ⟨b, o, none⟩) (Or.inl rfl) u
theorem Chg.row {S : Nat → Prop} {w w' : World} (h : Chg S w w') {k : Nat} {o : Obj} (hk : w.heap[k]? = some o) (hn : ¬ S k) : w'.heap[k]? = some o := (h.block k (Array.getElem?_eq_some_iff.1 hk).1 hn).trans hk
theorem Lent.chg {S : Nat → Prop} {w w' : World} {base : Nat} {v : Value} {xs : List Int} (h : Lent w base v xs) (hc : Chg S w w') (hn : ∀ k, S k → k < base) : Lent w' base v xs := by
  obtain ⟨g, cap, rfl, hown⟩ := h
  exact ⟨g, cap, rfl, ownsRow_chg hown hc (fun k hk hs => by have := (hown.lt k hk).1; have := hn k hs; omega)⟩
theorem Lent.mono {w : World} {base base' : Nat} {v : Value} {xs : List Int} (h : Lent w base v xs) (hb : base' ≤ base) : Lent w base' v xs := by
  obtain ⟨g, cap, rfl, hown⟩ := h
  exact ⟨g, cap, rfl, hown.mono hb⟩
section
variable {P : Program} {Q : Exit → Act → World → Prop}
theorem wpList_store_rowC {ops : Array Oper} {rest : List Oper} {o : Oper} {a : Act} {w : World} (hgd : o.guard = none) (ty : TypeId) (x y : Operand) (ho : o.op = .store ty x y)
    (g : Nat) (cells : Array Value) (hx : a.eval x = .pointer (some ⟨g, 0, none⟩)) (hy : a.eval y = .agg cells)
    (t : TypeId) (old : Array Value) (hg : w.heap[g]? = some (.cells old t (0, 0))) (hi : (P.info? ty).map (·.size) = some cells.size)
    (hold : old.size = cells.size) (h1 : cells.all (·.oneCell') = true)
    (h : ∀ W', Chg (fun k => k = g) w W' → W'.heap[g]? = some (.cells cells t (0, 0)) → wpList P ops Q rest (a.put o.dst undef) W') : wpList P ops Q (o :: rest) a w :=
  wpList_store_row hgd ty x y ho g cells hx hy t old hg hi hold h1 (h _ (chg_setRow _ _ _) (setRow_heap _ _ _ _ _ _ hg))
end
theorem Lent.form {w : World} {base : Nat} {v : Value} {xs : List Int} (h : Lent w base v xs) : ∃ g cap, v = .slice (some ⟨g, 0, none⟩) xs.length cap := by
  obtain ⟨g, cap, rfl, _⟩ := h
  exact ⟨g, cap, rfl⟩
abbrev insA (d : InsD) (aa : Option Addr) (na ca : Nat) : Array Value := #[.int .i64 d.op, .int .i64 d.dst, .int .i64 d.a, .int .i64 d.b, .int .i64 d.imm, .int .i64 d.callee, .slice aa na ca, .int .i64 d.many]
theorem insA_one (d : InsD) (aa : Option Addr) (na ca : Nat) : (insA d aa na ca).all (·.oneCell') = true := by simp [insA, Value.oneCell']
abbrev zeroIns : Obj := .cells #[.int .i64 0, .int .i64 0, .int .i64 0, .int .i64 0, .int .i64 0, .int .i64 0, .slice none 0 0, .int .i64 0] 56
set_option maxRecDepth 100000 in
set_option maxHeartbeats 4000000 in
theorem lentIns_any (r : InsR) (w : World) (h : InsOK w r) (hn : r.na ≤ 1000000) :
    Calls Try.prog 41 #[insVR r] w fun e w' => ∃ r', e = .returned (insVR r') ∧ LentR w' w.heap.size r r' ∧ Below w.heap.size w w' := by
  have H := Lib.hid h
  clear h
  go_enter Try.func41, Try.ntmps41
  go_wp2_with (first
    | (go_at_call 19
       go_loud (
         refine (lentInts_any r.aa r.na r.ca r.d.args _ (H.out.1.ext (ext_trans (ext_alloc _ _) (ext_alloc _ _))) hn).mono ?_
         rintro e w1 ⟨v, rfl, hL, hb⟩
         obtain ⟨x1, x2, x3⟩ := box2 w (insO r.d r.aa r.na r.ca) zeroIns w1 hb
         obtain ⟨g, cap, rfl⟩ := hL.form
         have y6 : w1.cell? ⟨w.heap.size, 6, none⟩ = some (.slice r.aa r.na r.ca) := by rw [cell_of_row _ _ _ _ _ _ x1]; rfl
         have z6 : w1.frozen? ⟨w.heap.size, 6, none⟩ = false := frozen_of_row _ _ _ _ _ x1
         obtain ⟨W2, hW2⟩ : ∃ W2, w1.setCell ⟨w.heap.size, 6, none⟩ (.slice (some ⟨g, 0, none⟩) r.d.args.length cap) = W2 := ⟨_, rfl⟩
         have c2 : Chg (fun k => k = w.heap.size) w1 W2 := by rw [← hW2]; exact chg_setCell _ _ _ _
         have HL := Lib.hid (hL.chg c2 (fun k hk => by simp; omega))
         have X1 : W2.heap[w.heap.size]? = some (.cells (insA r.d (some ⟨g, 0, none⟩) r.d.args.length cap) 56 (0, 0)) := by rw [← hW2, heap_setCell_same _ _ 6 _ _ _ x1]; rfl
         have HX2 := Lib.hid (c2.row x2 (by omega))
         have HX3 := Lib.hid (x3.trans (c2.below (B := w.heap.size) x3.size (fun k hk => by omega)))
         have i0 : W2.cell? ⟨w.heap.size, 0, none⟩ = some (.int .i64 r.d.op) := by rw [cell_of_row _ _ _ _ _ _ X1]; rfl
         have i1 : W2.cell? ⟨w.heap.size, 1, none⟩ = some (.int .i64 r.d.dst) := by rw [cell_of_row _ _ _ _ _ _ X1]; rfl
         have i2 : W2.cell? ⟨w.heap.size, 2, none⟩ = some (.int .i64 r.d.a) := by rw [cell_of_row _ _ _ _ _ _ X1]; rfl
         have i3 : W2.cell? ⟨w.heap.size, 3, none⟩ = some (.int .i64 r.d.b) := by rw [cell_of_row _ _ _ _ _ _ X1]; rfl
         have i4 : W2.cell? ⟨w.heap.size, 4, none⟩ = some (.int .i64 r.d.imm) := by rw [cell_of_row _ _ _ _ _ _ X1]; rfl
         have i5 : W2.cell? ⟨w.heap.size, 5, none⟩ = some (.int .i64 r.d.callee) := by rw [cell_of_row _ _ _ _ _ _ X1]; rfl
         have i6 : W2.cell? ⟨w.heap.size, 6, none⟩ = some (.slice (some ⟨g, 0, none⟩) r.d.args.length cap) := by rw [cell_of_row _ _ _ _ _ _ X1]; rfl
         have i7 : W2.cell? ⟨w.heap.size, 7, none⟩ = some (.int .i64 r.d.many) := by rw [cell_of_row _ _ _ _ _ _ X1]; rfl
         clear hL x1 x2 x3 hb c2 X1))
    | (refine wpList_store_rowC rfl 56 _ _ rfl (w.heap.size + 1) (insA r.d (some ⟨g, 0, none⟩) r.d.args.length cap) rfl rfl 56 _ HX2.out (by kernel_rfl) rfl (insA_one _ _ _ _) ?_
       intro W3 c3 X3
       have HL3 := Lib.hid (HL.out.chg c3 (fun k hk => by simp; omega))
       have HX4 := Lib.hid (HX3.out.trans (c3.below (B := w.heap.size) HX3.out.size (fun k hk => by omega)))
       have j0 : W3.cell? ⟨w.heap.size + 1, 0, none⟩ = some (.int .i64 r.d.op) := by rw [cell_of_row _ _ _ _ _ _ X3]; rfl
       have j1 : W3.cell? ⟨w.heap.size + 1, 1, none⟩ = some (.int .i64 r.d.dst) := by rw [cell_of_row _ _ _ _ _ _ X3]; rfl
       have j2 : W3.cell? ⟨w.heap.size + 1, 2, none⟩ = some (.int .i64 r.d.a) := by rw [cell_of_row _ _ _ _ _ _ X3]; rfl
       have j3 : W3.cell? ⟨w.heap.size + 1, 3, none⟩ = some (.int .i64 r.d.b) := by rw [cell_of_row _ _ _ _ _ _ X3]; rfl
       have j4 : W3.cell? ⟨w.heap.size + 1, 4, none⟩ = some (.int .i64 r.d.imm) := by rw [cell_of_row _ _ _ _ _ _ X3]; rfl
       have j5 : W3.cell? ⟨w.heap.size + 1, 5, none⟩ = some (.int .i64 r.d.callee) := by rw [cell_of_row _ _ _ _ _ _ X3]; rfl
       have j6 : W3.cell? ⟨w.heap.size + 1, 6, none⟩ = some (.slice (some ⟨g, 0, none⟩) r.d.args.length cap) := by rw [cell_of_row _ _ _ _ _ _ X3]; rfl
       have j7 : W3.cell? ⟨w.heap.size + 1, 7, none⟩ = some (.int .i64 r.d.many) := by rw [cell_of_row _ _ _ _ _ _ X3]; rfl
       clear c3 X3))
  refine bodyPost_ret (v := insV r.d (some ⟨g, 0, none⟩) r.d.args.length cap) (by simp [results, Try.results41, go_sem, j0, j1, j2, j3, j4, j5, j6, j7]) rfl ⟨⟨r.d, some ⟨g, 0, none⟩, r.d.args.length, cap⟩, rfl, ⟨rfl, HL3.out.mono (by simp; omega)⟩, HX4.out⟩

set_option maxRecDepth 100000 in
set_option maxHeartbeats 1000000 in
/-- the instruction that marks -/
def markR (i : Nat) : InsR := ⟨⟨0, 0, 0, 0, markV 1 (i : Int), 0, [], 0⟩, none, 0, 0⟩
theorem markIns_any (i : Nat) (w : World) (hi : i ≤ 100000) :
    Calls Try.prog 42 #[.int .i64 1, .int .i64 (i : Int)] w fun e w' => e = .returned (insVR (markR i)) ∧ Below w.heap.size w w' := by
  go_enter Try.func42, Try.ntmps42
  go_wp2_with (first
    | (go_at_call 40; refine (mark_any _ _ _ (by omega) (by omega)).mono ?_; rintro e w' ⟨rfl, rfl⟩)
    | (refine wpList_store_rowB rfl 56 _ _ rfl w.heap.size (insA (markR i).d none 0 0) rfl rfl 56 _ (heap_alloc_new w _) (by kernel_rfl) rfl (insA_one _ _ _ _) w.heap.size w (ext_alloc w _) (Nat.le_refl _) ?_
       intro W3 hb3 X3
       have HX := Lib.hid hb3
       have j0 : W3.cell? ⟨w.heap.size, 0, none⟩ = some (.int .i64 0) := by rw [cell_of_row _ _ _ _ _ _ X3]; rfl
       have j1 : W3.cell? ⟨w.heap.size, 1, none⟩ = some (.int .i64 0) := by rw [cell_of_row _ _ _ _ _ _ X3]; rfl
       have j2 : W3.cell? ⟨w.heap.size, 2, none⟩ = some (.int .i64 0) := by rw [cell_of_row _ _ _ _ _ _ X3]; rfl
       have j3 : W3.cell? ⟨w.heap.size, 3, none⟩ = some (.int .i64 0) := by rw [cell_of_row _ _ _ _ _ _ X3]; rfl
       have j4 : W3.cell? ⟨w.heap.size, 4, none⟩ = some (.int .i64 (markV 1 (i : Int))) := by rw [cell_of_row _ _ _ _ _ _ X3]; rfl
       have j5 : W3.cell? ⟨w.heap.size, 5, none⟩ = some (.int .i64 0) := by rw [cell_of_row _ _ _ _ _ _ X3]; rfl
       have j6 : W3.cell? ⟨w.heap.size, 6, none⟩ = some (.slice none 0 0) := by rw [cell_of_row _ _ _ _ _ _ X3]; rfl
       have j7 : W3.cell? ⟨w.heap.size, 7, none⟩ = some (.int .i64 0) := by rw [cell_of_row _ _ _ _ _ _ X3]; rfl
       clear hb3 X3))
  refine bodyPost_ret (v := insVR (markR i)) (by simp [results, Try.results42, go_sem, j0, j1, j2, j3, j4, j5, j6, j7, markR]) rfl ⟨rfl, HX.out⟩
def insMarks : List InsR := (List.range 12).map markR
theorem insMarks_len : insMarks.length = 12 := by simp [insMarks]
theorem insMarks_at (k : Nat) (h : k < 12) : insMarks[k]? = some (markR k) := by simp [insMarks, h]
theorem insMarks_take (k : Nat) (h : k < 12) : insMarks.take (k + 1) = insMarks.take k ++ [markR k] := by
  rw [List.take_add_one, insMarks_at k h]
  rfl
/-- instructions that are lent, one by one -/
def LentRs (w : World) (base : Nat) (rs rs' : List InsR) : Prop := rs'.length = rs.length ∧ ∀ (k : Nat) r r', rs[k]? = some r → rs'[k]? = some r' → LentR w base r r'
theorem LentRs.ext {w w' : World} {base : Nat} {rs rs' : List InsR} (h : LentRs w base rs rs') (hb : Below w.heap.size w w') : LentRs w' base rs rs' := ⟨h.1, fun k r r' h1 h2 => (h.2 k r r' h1 h2).ext hb⟩
theorem Lent.grown {w w' : World} {base base' : Nat} {v vr : Value} {n : Nat} {xs : List Int} {ys : List Value} (h : Lent w base v xs) (ho : w.ownsRow base' 56 8 vr n ys) (hg : w.grownBy w' vr.ownBlock) : Lent w' base v xs := by
  obtain ⟨g, cap, rfl, hown⟩ := h
  refine ⟨g, cap, rfl, hown.kept hg (Or.inr (fun e => ?_))⟩
  exact rows_ne hown ho (by decide) g rfl e.symm
theorem LentRs.grown {w w' : World} {base base' : Nat} {vr : Value} {n : Nat} {rs rs' : List InsR} {ys : List Value} (h : LentRs w base rs rs') (ho : w.ownsRow base' 56 8 vr n ys) (hg : w.grownBy w' vr.ownBlock) : LentRs w' base rs rs' :=
  ⟨h.1, fun k r r' h1 h2 => ⟨(h.2 k r r' h1 h2).1, (h.2 k r r' h1 h2).2.grown ho hg⟩⟩
theorem LentRs.snoc {w : World} {base : Nat} {rs rs' : List InsR} {r r' : InsR} (h : LentRs w base rs rs') (hr : LentR w base r r') : LentRs w base (rs ++ [r]) (rs' ++ [r']) := by
  refine ⟨by simp [h.1], fun k x x' h1 h2 => ?_⟩
  by_cases hk : k < rs.length
  · rw [List.getElem?_append_left hk] at h1
    rw [List.getElem?_append_left (by rw [h.1]; exact hk)] at h2
    exact h.2 k x x' h1 h2
  · have hk1 := (List.getElem?_eq_some_iff.1 h1).1
    rw [List.length_append, List.length_singleton] at hk1
    obtain rfl : k = rs.length := by omega
    rw [List.getElem?_append_right (Nat.le_refl _), Nat.sub_self] at h1
    rw [← h.1, List.getElem?_append_right (Nat.le_refl _), Nat.sub_self] at h2
    simp only [List.getElem?_cons_zero, Option.some.injEq] at h1 h2
    subst h1
    subst h2
    exact hr
theorem LentR.mono {w : World} {base base' : Nat} {r r' : InsR} (h : LentR w base r r') (hb : base' ≤ base) : LentR w base' r r' := ⟨h.1, h.2.mono hb⟩
/-- a row of instructions that is lent: with marks behind it -/
def LentRow (w : World) (base : Nat) (v : Value) (rs rs' : List InsR) : Prop :=
  ∃ g cap, v = .slice (some ⟨g, 0, none⟩) rs.length cap ∧ w.ownsRow base 56 8 (.slice (some ⟨g, 0, none⟩) (rs.length + 12) cap) (rs.length + 12) ((rs' ++ insMarks).flatMap insC) ∧ LentRs w base rs rs'
theorem LentRow.ext {w w' : World} {base : Nat} {v : Value} {rs rs' : List InsR} (h : LentRow w base v rs rs') (hb : Below w.heap.size w w') : LentRow w' base v rs rs' := by
  obtain ⟨g, cap, rfl, hown, hl⟩ := h
  exact ⟨g, cap, rfl, (Steady.ownsRow w.heap.size _ _ _ _ _ _).ext hown hb, hl.ext hb⟩
theorem LentRow.mono {w : World} {base base' : Nat} {v : Value} {rs rs' : List InsR} (h : LentRow w base v rs rs') (hb : base' ≤ base) : LentRow w base' v rs rs' := by
  obtain ⟨g, cap, rfl, hown, hl⟩ := h
  exact ⟨g, cap, rfl, hown.mono hb, hl.1, fun k r r' h1 h2 => (hl.2 k r r' h1 h2).mono hb⟩
theorem LentRow.chg {S : Nat → Prop} {w w' : World} {base : Nat} {v : Value} {rs rs' : List InsR} (h : LentRow w base v rs rs') (hc : Chg S w w') (hn : ∀ k, S k → k < base) : LentRow w' base v rs rs' := by
  obtain ⟨g, cap, rfl, hown, hl⟩ := h
  exact ⟨g, cap, rfl, ownsRow_chg hown hc (fun k hk hs => by have := (hown.lt k hk).1; have := hn k hs; omega), hl.1, fun k r r' h1 h2 => ⟨(hl.2 k r r' h1 h2).1, (hl.2 k r r' h1 h2).2.chg hc hn⟩⟩
theorem LentRow.form {w : World} {base : Nat} {v : Value} {rs rs' : List InsR} (h : LentRow w base v rs rs') : ∃ g cap, v = .slice (some ⟨g, 0, none⟩) rs.length cap := by
  obtain ⟨g, cap, rfl, _⟩ := h
  exact ⟨g, cap, rfl⟩
def LentRowPost (w : World) (rs : List InsR) (e : Ending) (w' : World) : Prop := ∃ v rs', e = .returned v ∧ LentRow w' w.heap.size v rs rs' ∧ Below w.heap.size w w'
set_option maxRecDepth 100000 in
set_option maxHeartbeats 4000000 in
theorem lentRow_any (a : Option Addr) (n c : Nat) (rs : List InsR) (w : World) (h : InsS w a n rs) (hn : n ≤ 1000000) (hna : ∀ r ∈ rs, r.na ≤ 1000000) :
    Calls Try.prog 20 #[.slice a n c] w (LentRowPost w rs) := by
  obtain ⟨i0, hi, hz0, hz1, hz2⟩ := info_parts (P := Try.prog) info_ins
  have HL := Lib.hid h.1.1
  have H := Lib.hid h
  have HNA := Lib.hid hna
  clear h hna
  go_enter Try.func20, Try.ntmps20
  go_wp2_with (first
    | (at_make
       refine wpList_make_own _ rfl _ _ 25 rfl w.heap.size 56 i0 _ 8 Try.underlying25 hi hz0 hz1 .i64 .i64 _ (n + 12) rfl rfl (by omega) (by rw [hz2]; omega) (by simp only [maxLen]; omega) (Nat.le_refl _) ?_
       intro w1 hown1 hg1
       have HO1 := Lib.hid hown1
       have HB1 : Hid (Below w.heap.size w w1) := (Below.refl _ _).grown hg1 (Nat.le_refl _) (by simp)
       clear hown1 hg1))
  go_loopw [3, 4, 5] (fun v i _ wr => ∃ (k : Nat) (rs' : List InsR), k ≤ n ∧ i = .int .i64 k ∧ Hid (wr.ownsRow w.heap.size 56 8 v k (rs'.flatMap insC)) ∧ Hid (LentRs wr w.heap.size (rs.take k) rs') ∧ Hid (Below w.heap.size w wr)) (fun _ i _ _ => n - (intOf i).toNat)
  case atStart => exact ⟨0, [], by omega, rfl, HO1, ⟨rfl, fun k r r' h1 h2 => by simp at h1⟩, HB1⟩
  case round =>
    obtain ⟨k, rs', hk, rfl, HO, HLR, HB⟩ := hrel
    by_cases hlt : k < n
    · obtain ⟨r, b, o, hr, hok, rfl, y0, y1, y2, y3, y4, y5, y6, y7⟩ := (H.out.ext HB.out).cells hlt
      have HG := Lib.hid hr
      have HOK := Lib.hid hok
      have HTK : Hid (rs.take (k + 1) = rs.take k ++ [r]) := by rw [Hid, List.take_add_one, hr]; rfl
      have HNr := Lib.hid (HNA.out r (List.mem_of_getElem? hr))
      clear hr hok
      go_wp2_with (first
        | (go_at_call 41
           refine (lentIns_any r wr HOK.out HNr.out).mono ?_
           rintro e w1 ⟨r', rfl, hL, hb⟩
           have HLr := Lib.hid hL
           have HB1 := Lib.hid hb
           clear hL hb y0 y1 y2 y3 y4 y5 y6 y7)
        | (refine wpList_store_rowB rfl 56 _ _ rfl w1.heap.size (insA r'.d r'.aa r'.na r'.ca) rfl rfl 56 _ (heap_alloc_new w1 _) (by kernel_rfl) rfl (insA_one _ _ _ _) w1.heap.size w1 (ext_alloc w1 _) (Nat.le_refl _) ?_
           intro W3 hb3 X3
           have HB3 := Lib.hid (ext_trans HB1.out hb3)
           have HLr3 := Lib.hid ((HLr.out.mono HB.out.size).ext hb3)
           have i0 : W3.cell? ⟨w1.heap.size, 0, none⟩ = some (.int .i64 r'.d.op) := by rw [cell_of_row _ _ _ _ _ _ X3]; rfl
           have i1 : W3.cell? ⟨w1.heap.size, 1, none⟩ = some (.int .i64 r'.d.dst) := by rw [cell_of_row _ _ _ _ _ _ X3]; rfl
           have i2 : W3.cell? ⟨w1.heap.size, 2, none⟩ = some (.int .i64 r'.d.a) := by rw [cell_of_row _ _ _ _ _ _ X3]; rfl
           have i3 : W3.cell? ⟨w1.heap.size, 3, none⟩ = some (.int .i64 r'.d.b) := by rw [cell_of_row _ _ _ _ _ _ X3]; rfl
           have i4 : W3.cell? ⟨w1.heap.size, 4, none⟩ = some (.int .i64 r'.d.imm) := by rw [cell_of_row _ _ _ _ _ _ X3]; rfl
           have i5 : W3.cell? ⟨w1.heap.size, 5, none⟩ = some (.int .i64 r'.d.callee) := by rw [cell_of_row _ _ _ _ _ _ X3]; rfl
           have i6 : W3.cell? ⟨w1.heap.size, 6, none⟩ = some (.slice r'.aa r'.na r'.ca) := by rw [cell_of_row _ _ _ _ _ _ X3]; rfl
           have i7 : W3.cell? ⟨w1.heap.size, 7, none⟩ = some (.int .i64 r'.d.many) := by rw [cell_of_row _ _ _ _ _ _ X3]; rfl
           clear hb3 X3)
        | (at_builtin
           go_loud (
             have HO1 := Lib.hid ((Steady.ownsRow wr.heap.size _ _ _ _ _ _).ext HO.out HB3.out)
             refine wpList_append1 rfl W3 (.tmp 22) (.tmp 24) 25 56 rfl w.heap.size _ 8 80 Try.underlying25 info_ins rfl (by omega) u3 k _ (insC r') rfl HO1.out W3.heap.size rfl rfl rfl (insC_one r') (by simp only [maxLen]; omega) (by omega) (ext_trans HB.out HB3.out).size ?_
             intro g cap w4 hown4 hg4 hat4
             have HO4 : Hid (w4.ownsRow w.heap.size 56 8 (.slice (some ⟨g, 0, none⟩) (k + 1) cap) (k + 1) ((rs' ++ [r']).flatMap insC)) := by rw [Hid, List.flatMap_append]; simpa using hown4
             have HB4 : Hid (Below w.heap.size w w4) := (ext_trans HB.out HB3.out).grown hg4 (ext_trans HB.out HB3.out).size (fun j e => (HO1.out.lt j e).1)
             have HL4 : Hid (LentRs w4 w.heap.size (rs.take (k + 1)) (rs' ++ [r'])) := by
               rw [Hid, HTK.out]
               exact ((HLR.out.ext HB3.out).snoc HLr3.out).grown HO1.out hg4
             clear hown4 hg4 hat4 i0 i1 i2 i3 i4 i5 i6 i7)))
      go_roundw
      case rel => exact ⟨k + 1, rs' ++ [r'], by omega, by go_num, HO4, HL4, HB4⟩
      case measure => simp [intOf]; omega
    · obtain rfl : k = n := by omega
      have HLR1 : Hid (LentRs wr w.heap.size rs rs') := by
        have := HLR.out
        rw [List.take_of_length_le (by rw [HL.out]; omega)] at this
        exact this
      have HO1 : Hid (wr.ownsRow w.heap.size 56 8 u3 (k + 0) ((rs' ++ insMarks.take 0).flatMap insC)) := by rw [Hid]; simpa using HO.out
      clear HLR HO
      go_wp2
      go_loopw [3, 6] (fun v i wr => ∃ (j : Nat), j ≤ 12 ∧ i = .int .i64 j ∧ Hid (wr.ownsRow w.heap.size 56 8 v (k + j) ((rs' ++ insMarks.take j).flatMap insC)) ∧ Hid (LentRs wr w.heap.size rs rs') ∧ Hid (Below w.heap.size w wr)) (fun _ i _ => 12 - (intOf i).toNat)
      case atStart => exact ⟨0, by omega, rfl, HO1, HLR1, HB⟩
      case round =>
        clear HO1 HLR1 HB
        obtain ⟨j, hj, rfl, HO, HLR, HB⟩ := hrel
        by_cases hlt : j < 12
        · go_wp2_with (first
            | (go_at_call 42; refine (markIns_any j _ (by omega)).mono ?_; rintro e w1 ⟨rfl, hb1⟩; have HB1 := Lib.hid hb1; clear hb1)
            | (at_builtin
               go_loud (
                 have HO1 := Lib.hid ((Steady.ownsRow wr.heap.size _ _ _ _ _ _).ext HO.out HB1.out)
                 refine wpList_append1 rfl w1 (.tmp 30) (.tmp 33) 25 56 rfl w.heap.size _ 8 80 Try.underlying25 info_ins rfl (by omega) u3 (k + j) _ (insC (markR j)) rfl HO1.out w1.heap.size rfl rfl rfl (insC_one _) (by simp only [maxLen]; omega) (by omega) (ext_trans HB.out HB1.out).size ?_
                 intro g cap w4 hown4 hg4 hat4
                 have HO4 : Hid (w4.ownsRow w.heap.size 56 8 (.slice (some ⟨g, 0, none⟩) (k + j + 1) cap) (k + j + 1) ((rs' ++ insMarks.take (j + 1)).flatMap insC)) := by rw [Hid, insMarks_take j hlt, ← List.append_assoc, List.flatMap_append]; simpa using hown4
                 have HB4 : Hid (Below w.heap.size w w4) := (ext_trans HB.out HB1.out).grown hg4 (ext_trans HB.out HB1.out).size (fun j e => (HO1.out.lt j e).1)
                 have HL4 : Hid (LentRs w4 w.heap.size rs rs') := (HLR.out.ext HB1.out).grown HO1.out hg4
                 clear hown4 hg4 hat4)))
          go_roundw
          case rel => exact ⟨j + 1, by omega, by go_num, HO4, HL4, HB4⟩
          case measure => simp [intOf]; omega
        · obtain rfl : j = 12 := by omega
          have hown := HO.out
          have hform : ∃ g cap, u3 = .slice (some ⟨g, 0, none⟩) (k + 12) cap ∧ k + 12 ≤ cap ∧ cap ≤ maxLen := by
            rcases hown.2 with ⟨_, h0⟩ | ⟨g', cap', cur, hv, _, _, h1, h2, _⟩
            · omega
            · exact ⟨_, _, hv, h1, h2⟩
          obtain ⟨g, cap, rfl, hc1, hc2⟩ := hform
          clear hown
          unfold maxLen at hc2
          go_wp2
          go_ret
          refine ⟨_, rs', rfl, ⟨g, cap, by rw [HL.out]; rfl, ?_, HLR.out⟩, HB.out⟩
          have := HO.out
          rw [HL.out]
          rw [List.take_of_length_le (by rw [insMarks_len]; omega)] at this
          exact this

abbrev blkA (s : BlkD) (ia : Option Addr) (n c : Nat) : Array Value := #[.slice ia n c, .int .i64 s.kind, .int .i64 s.a, .int .i64 s.to0, .int .i64 s.to1]
theorem blkA_one (s : BlkD) (ia : Option Addr) (n c : Nat) : (blkA s ia n c).all (·.oneCell') = true := by simp [blkA, Value.oneCell']
abbrev zeroBlk : Obj := .cells #[.slice none 0 0, .int .i64 0, .int .i64 0, .int .i64 0, .int .i64 0] 31
set_option maxRecDepth 100000 in
set_option maxHeartbeats 4000000 in
theorem lentBlk_any (s : BlkD) (sa : Option Addr) (n c : Nat) (w : World) (h : BlkOK w s sa n c) (hna : ∀ r ∈ s.ins, r.na ≤ 1000000) :
    Calls Try.prog 9 #[blkV s sa n c] w fun e w' => ∃ g cap rs', e = .returned (blkV s (some ⟨g, 0, none⟩) n cap) ∧ LentRow w' w.heap.size (.slice (some ⟨g, 0, none⟩) n cap) s.ins rs' ∧ Below w.heap.size w w' := by
  have H := Lib.hid h
  have HLs := Lib.hid h.1.1.1
  have hn := h.2.1
  have HNA := Lib.hid hna
  clear h hna
  go_enter Try.func9, Try.ntmps9
  go_wp2_with (first
    | (go_at_call 20
       go_loud (
         refine (lentRow_any sa n c s.ins _ (H.out.1.ext (ext_trans (ext_alloc _ _) (ext_alloc _ _))) hn HNA.out).mono ?_
         rintro e w1 ⟨v, rs', rfl, hL, hb⟩
         obtain ⟨x1, x2, x3⟩ := box2 w (blkO s sa n c) zeroBlk w1 hb
         obtain ⟨g, cap, rfl⟩ := hL.form
         rw [HLs.out] at hL ⊢
         have y6 : w1.cell? ⟨w.heap.size, 0, none⟩ = some (.slice sa n c) := by rw [cell_of_row _ _ _ _ _ _ x1]; rfl
         have z6 : w1.frozen? ⟨w.heap.size, 0, none⟩ = false := frozen_of_row _ _ _ _ _ x1
         obtain ⟨W2, hW2⟩ : ∃ W2, w1.setCell ⟨w.heap.size, 0, none⟩ (.slice (some ⟨g, 0, none⟩) n cap) = W2 := ⟨_, rfl⟩
         have c2 : Chg (fun k => k = w.heap.size) w1 W2 := by rw [← hW2]; exact chg_setCell _ _ _ _
         have HL := Lib.hid (hL.chg c2 (fun k hk => by simp; omega))
         have X1 : W2.heap[w.heap.size]? = some (.cells (blkA s (some ⟨g, 0, none⟩) n cap) 31 (0, 0)) := by rw [← hW2, heap_setCell_same _ _ 0 _ _ _ x1]; rfl
         have HX2 := Lib.hid (c2.row x2 (by omega))
         have HX3 := Lib.hid (x3.trans (c2.below (B := w.heap.size) x3.size (fun k hk => by omega)))
         have i0 : W2.cell? ⟨w.heap.size, 0, none⟩ = some (.slice (some ⟨g, 0, none⟩) n cap) := by rw [cell_of_row _ _ _ _ _ _ X1]; rfl
         have i1 : W2.cell? ⟨w.heap.size, 1, none⟩ = some (.int .i64 s.kind) := by rw [cell_of_row _ _ _ _ _ _ X1]; rfl
         have i2 : W2.cell? ⟨w.heap.size, 2, none⟩ = some (.int .i64 s.a) := by rw [cell_of_row _ _ _ _ _ _ X1]; rfl
         have i3 : W2.cell? ⟨w.heap.size, 3, none⟩ = some (.int .i64 s.to0) := by rw [cell_of_row _ _ _ _ _ _ X1]; rfl
         have i4 : W2.cell? ⟨w.heap.size, 4, none⟩ = some (.int .i64 s.to1) := by rw [cell_of_row _ _ _ _ _ _ X1]; rfl
         clear hL x1 x2 x3 hb c2 X1))
    | (refine wpList_store_rowC rfl 31 _ _ rfl (w.heap.size + 1) (blkA s (some ⟨g, 0, none⟩) n cap) rfl rfl 31 _ HX2.out (by kernel_rfl) rfl (blkA_one _ _ _ _) ?_
       intro W3 c3 X3
       have HL3 := Lib.hid (HL.out.chg c3 (fun k hk => by simp; omega))
       have HX4 := Lib.hid (HX3.out.trans (c3.below (B := w.heap.size) HX3.out.size (fun k hk => by omega)))
       have j0 : W3.cell? ⟨w.heap.size + 1, 0, none⟩ = some (.slice (some ⟨g, 0, none⟩) n cap) := by rw [cell_of_row _ _ _ _ _ _ X3]; rfl
       have j1 : W3.cell? ⟨w.heap.size + 1, 1, none⟩ = some (.int .i64 s.kind) := by rw [cell_of_row _ _ _ _ _ _ X3]; rfl
       have j2 : W3.cell? ⟨w.heap.size + 1, 2, none⟩ = some (.int .i64 s.a) := by rw [cell_of_row _ _ _ _ _ _ X3]; rfl
       have j3 : W3.cell? ⟨w.heap.size + 1, 3, none⟩ = some (.int .i64 s.to0) := by rw [cell_of_row _ _ _ _ _ _ X3]; rfl
       have j4 : W3.cell? ⟨w.heap.size + 1, 4, none⟩ = some (.int .i64 s.to1) := by rw [cell_of_row _ _ _ _ _ _ X3]; rfl
       clear c3 X3))
  refine bodyPost_ret (v := blkV s (some ⟨g, 0, none⟩) n cap) (by simp [results, Try.results9, go_sem, j0, j1, j2, j3, j4]) rfl ⟨g, cap, rs', rfl, HL3.out.mono (by simp; omega), HX4.out⟩

abbrev machA (m : MachD) (a1 : Option Addr) (n1 c1 : Nat) (a2 : Option Addr) (n2 c2 : Nat) : Array Value := #[.int .i64 m.regs, .slice a1 n1 c1, .int .i64 m.ret, .slice a2 n2 c2]
theorem machA_one (m : MachD) (a1 : Option Addr) (n1 c1 : Nat) (a2 : Option Addr) (n2 c2 : Nat) : (machA m a1 n1 c1 a2 n2 c2).all (·.oneCell') = true := by simp [machA, Value.oneCell']
abbrev zeroMach : Obj := .cells #[.int .i64 0, .slice none 0 0, .int .i64 0, .slice none 0 0] 24
/-- a machine that is lent -/
def LentM (w : World) (base : Nat) (m : MachD) (v1 v2 : Value) : Prop := Lent w base v1 m.args ∧ Lent w base v2 m.saved
set_option maxRecDepth 100000 in
set_option maxHeartbeats 400000 in
theorem lentMach_any (m : MachD) (a1 a2 : Option Addr) (n1 c1 n2 c2 : Nat) (w : World) (h : MachOK w m a1 n1 c1 a2 n2 c2) :
    Calls Try.prog 8 #[machV m a1 n1 c1 a2 n2 c2] w fun e w' => ∃ g1 k1 g2 k2, e = .returned (machV m (some ⟨g1, 0, none⟩) n1 k1 (some ⟨g2, 0, none⟩) n2 k2) ∧ LentM w' w.heap.size m (.slice (some ⟨g1, 0, none⟩) n1 k1) (.slice (some ⟨g2, 0, none⟩) n2 k2) ∧ Below w.heap.size w w' := by
  have H := Lib.hid h
  have HL1 := Lib.hid h.1.1
  have HL2 := Lib.hid h.2.1.1
  have hn1 := h.2.2.2.2.1
  have hn2 := h.2.2.2.2.2.1
  clear h
  go_enter Try.func8, Try.ntmps8
  go_wp2_with (first
    | (go_at_call 19
       refine (lentInts_any a2 n2 c2 m.saved W2 (H.out.2.1.ext HX3.out) hn2).mono ?_
       rintro e w3 ⟨v, rfl, hL, hb⟩
       obtain ⟨g2, k2, rfl⟩ := hL.form
       rw [HL2.out] at hL ⊢
       have hs2 := HX3.out.size
       have hs1 : w.heap.size + 1 < W2.heap.size := (Array.getElem?_eq_some_iff.1 HX2.out).1
       have X1 := block_ext hb HX1.out
       have y7 : w3.cell? ⟨w.heap.size, 3, none⟩ = some (.slice a2 n2 c2) := by rw [cell_of_row _ _ _ _ _ _ X1]; rfl
       have z7 : w3.frozen? ⟨w.heap.size, 3, none⟩ = false := frozen_of_row _ _ _ _ _ X1
       obtain ⟨W4, hW4⟩ : ∃ W4, w3.setCell ⟨w.heap.size, 3, none⟩ (.slice (some ⟨g2, 0, none⟩) n2 k2) = W4 := ⟨_, rfl⟩
       have ch2 : Chg (fun k => k = w.heap.size) w3 W4 := by rw [← hW4]; exact chg_setCell _ _ _ _
       have HLb := Lib.hid (hL.chg ch2 (fun k hk => by omega))
       have HLc := Lib.hid ((HLa.out.ext hb).chg ch2 (fun k hk => by simp; omega))
       have X4 : W4.heap[w.heap.size]? = some (.cells (machA m (some ⟨g1, 0, none⟩) n1 k1 (some ⟨g2, 0, none⟩) n2 k2) 24 (0, 0)) := by rw [← hW4, heap_setCell_same _ _ 3 _ _ _ X1]; rfl
       have HX5 := Lib.hid (ch2.row (block_ext hb HX2.out) (by omega))
       have HX6 := Lib.hid ((ext_trans HX3.out hb).trans (ch2.below (B := w.heap.size) (ext_trans HX3.out hb).size (fun k hk => by omega)))
       have i0 : W4.cell? ⟨w.heap.size, 0, none⟩ = some (.int .i64 m.regs) := by rw [cell_of_row _ _ _ _ _ _ X4]; rfl
       have i1 : W4.cell? ⟨w.heap.size, 1, none⟩ = some (.slice (some ⟨g1, 0, none⟩) n1 k1) := by rw [cell_of_row _ _ _ _ _ _ X4]; rfl
       have i2 : W4.cell? ⟨w.heap.size, 2, none⟩ = some (.int .i64 m.ret) := by rw [cell_of_row _ _ _ _ _ _ X4]; rfl
       have i4 : W4.cell? ⟨w.heap.size, 3, none⟩ = some (.slice (some ⟨g2, 0, none⟩) n2 k2) := by rw [cell_of_row _ _ _ _ _ _ X4]; rfl
       clear hL hb ch2 X1 X4 HX2 HX3 HX1 HLa i3)
    | (go_at_call 19
       refine (lentInts_any a1 n1 c1 m.args ((w.alloc (machO m a1 n1 c1 a2 n2 c2)).alloc zeroMach) (H.out.1.ext (ext_trans (ext_alloc _ _) (ext_alloc _ _))) hn1).mono ?_
       rintro e w1 ⟨v, rfl, hL, hb⟩
       obtain ⟨x1, x2, x3⟩ := box2 w (machO m a1 n1 c1 a2 n2 c2) zeroMach w1 hb
       obtain ⟨g1, k1, rfl⟩ := hL.form
       rw [HL1.out] at hL ⊢
       have y6 : w1.cell? ⟨w.heap.size, 1, none⟩ = some (.slice a1 n1 c1) := by rw [cell_of_row _ _ _ _ _ _ x1]; rfl
       have z6 : w1.frozen? ⟨w.heap.size, 1, none⟩ = false := frozen_of_row _ _ _ _ _ x1
       obtain ⟨W2, hW2⟩ : ∃ W2, w1.setCell ⟨w.heap.size, 1, none⟩ (.slice (some ⟨g1, 0, none⟩) n1 k1) = W2 := ⟨_, rfl⟩
       have ch2 : Chg (fun k => k = w.heap.size) w1 W2 := by rw [← hW2]; exact chg_setCell _ _ _ _
       have HLa := Lib.hid (hL.chg ch2 (fun k hk => by simp; omega))
       have X1 : W2.heap[w.heap.size]? = some (.cells (machA m (some ⟨g1, 0, none⟩) n1 k1 a2 n2 c2) 24 (0, 0)) := by rw [← hW2, heap_setCell_same _ _ 1 _ _ _ x1]; rfl
       have HX1 := Lib.hid X1
       have HX2 := Lib.hid (ch2.row x2 (by omega))
       have HX3 := Lib.hid (x3.trans (ch2.below (B := w.heap.size) x3.size (fun k hk => by omega)))
       have i3 : W2.cell? ⟨w.heap.size, 3, none⟩ = some (.slice a2 n2 c2) := by rw [cell_of_row _ _ _ _ _ _ X1]; rfl
       clear hL x1 x2 x3 hb ch2 X1)
    | (refine wpList_store_rowC rfl 24 _ _ rfl (w.heap.size + 1) (machA m (some ⟨g1, 0, none⟩) n1 k1 (some ⟨g2, 0, none⟩) n2 k2) rfl rfl 24 _ HX5.out (by kernel_rfl) rfl (machA_one _ _ _ _ _ _ _) ?_
       go_loud (
         intro W5 c3 X3
         have HL5 := Lib.hid (HLb.out.chg c3 (fun k hk => by omega))
         have HL6 := Lib.hid (HLc.out.chg c3 (fun k hk => by simp; omega))
         have HX7 := Lib.hid (HX6.out.trans (c3.below (B := w.heap.size) HX6.out.size (fun k hk => by omega)))
         have j0 : W5.cell? ⟨w.heap.size + 1, 0, none⟩ = some (.int .i64 m.regs) := by rw [cell_of_row _ _ _ _ _ _ X3]; rfl
         have j1 : W5.cell? ⟨w.heap.size + 1, 1, none⟩ = some (.slice (some ⟨g1, 0, none⟩) n1 k1) := by rw [cell_of_row _ _ _ _ _ _ X3]; rfl
         have j2 : W5.cell? ⟨w.heap.size + 1, 2, none⟩ = some (.int .i64 m.ret) := by rw [cell_of_row _ _ _ _ _ _ X3]; rfl
         have j3 : W5.cell? ⟨w.heap.size + 1, 3, none⟩ = some (.slice (some ⟨g2, 0, none⟩) n2 k2) := by rw [cell_of_row _ _ _ _ _ _ X3]; rfl
         clear c3 X3)))
  refine bodyPost_ret (v := machV m (some ⟨g1, 0, none⟩) n1 k1 (some ⟨g2, 0, none⟩) n2 k2) (by simp [results, Try.results8, go_sem, j0, j1, j2, j3]) rfl ?_
  have e1 := HL6.out.mono (base' := w.heap.size) (by simp; omega)
  have e2 := HL5.out.mono (base' := w.heap.size) hs2
  exact ⟨g1, k1, g2, k2, rfl, ⟨e1, e2⟩, HX7.out⟩

open Go.RowKit

theorem boxes2 (w : World) (o1 o2 : Obj) : ∃ W0, Hid (Below w.heap.size w W0) ∧ W0.heap[w.heap.size]? = some o1 ∧ W0.heap[w.heap.size + 1]? = some o2 ∧ (w.alloc o1).alloc o2 = W0 := by
  obtain ⟨x1, x2, x3⟩ := box2 w o1 o2 _ (Below.refl _ _)
  exact ⟨_, x3, x1, x2, rfl⟩

set_option maxRecDepth 100000 in
set_option maxHeartbeats 4000000 in
theorem sameIns_any (r s : InsR) (w : World) (hd : r.d = s.d) (hr : InsOK w r) (hs : InsOK w s) :
    Calls Try.prog 56 #[insVR r, insVR s] w fun e w' => e = .returned (.bool true) ∧ Below w.heap.size w w' := by
  obtain ⟨dr, ra, rn, rc⟩ := r
  obtain rfl : dr = s.d := hd
  have HR := Lib.hid hr.1
  have HS := Lib.hid hs.1
  clear hr hs
  obtain ⟨W0, HW0, hR, hS, hW0⟩ := boxes2 w (insO s.d ra rn rc) (insO s.d s.aa s.na s.ca)
  have x0 : ∀ w', Below W0.heap.size W0 w' → w'.cell? ⟨w.heap.size, 0, none⟩ = some (.int .i64 s.d.op) := fun w' hb => by rw [cell_of_row _ _ _ _ _ _ (block_ext hb hR)]; rfl
  have x1 : ∀ w', Below W0.heap.size W0 w' → w'.cell? ⟨w.heap.size, 1, none⟩ = some (.int .i64 s.d.dst) := fun w' hb => by rw [cell_of_row _ _ _ _ _ _ (block_ext hb hR)]; rfl
  have x2 : ∀ w', Below W0.heap.size W0 w' → w'.cell? ⟨w.heap.size, 2, none⟩ = some (.int .i64 s.d.a) := fun w' hb => by rw [cell_of_row _ _ _ _ _ _ (block_ext hb hR)]; rfl
  have x3 : ∀ w', Below W0.heap.size W0 w' → w'.cell? ⟨w.heap.size, 3, none⟩ = some (.int .i64 s.d.b) := fun w' hb => by rw [cell_of_row _ _ _ _ _ _ (block_ext hb hR)]; rfl
  have x4 : ∀ w', Below W0.heap.size W0 w' → w'.cell? ⟨w.heap.size, 4, none⟩ = some (.int .i64 s.d.imm) := fun w' hb => by rw [cell_of_row _ _ _ _ _ _ (block_ext hb hR)]; rfl
  have x5 : ∀ w', Below W0.heap.size W0 w' → w'.cell? ⟨w.heap.size, 5, none⟩ = some (.int .i64 s.d.callee) := fun w' hb => by rw [cell_of_row _ _ _ _ _ _ (block_ext hb hR)]; rfl
  have x6 : ∀ w', Below W0.heap.size W0 w' → w'.cell? ⟨w.heap.size, 6, none⟩ = some (.slice ra rn rc) := fun w' hb => by rw [cell_of_row _ _ _ _ _ _ (block_ext hb hR)]; rfl
  have x7 : ∀ w', Below W0.heap.size W0 w' → w'.cell? ⟨w.heap.size, 7, none⟩ = some (.int .i64 s.d.many) := fun w' hb => by rw [cell_of_row _ _ _ _ _ _ (block_ext hb hR)]; rfl
  have y0 : ∀ w', Below W0.heap.size W0 w' → w'.cell? ⟨w.heap.size + 1, 0, none⟩ = some (.int .i64 s.d.op) := fun w' hb => by rw [cell_of_row _ _ _ _ _ _ (block_ext hb hS)]; rfl
  have y1 : ∀ w', Below W0.heap.size W0 w' → w'.cell? ⟨w.heap.size + 1, 1, none⟩ = some (.int .i64 s.d.dst) := fun w' hb => by rw [cell_of_row _ _ _ _ _ _ (block_ext hb hS)]; rfl
  have y2 : ∀ w', Below W0.heap.size W0 w' → w'.cell? ⟨w.heap.size + 1, 2, none⟩ = some (.int .i64 s.d.a) := fun w' hb => by rw [cell_of_row _ _ _ _ _ _ (block_ext hb hS)]; rfl
  have y3 : ∀ w', Below W0.heap.size W0 w' → w'.cell? ⟨w.heap.size + 1, 3, none⟩ = some (.int .i64 s.d.b) := fun w' hb => by rw [cell_of_row _ _ _ _ _ _ (block_ext hb hS)]; rfl
  have y4 : ∀ w', Below W0.heap.size W0 w' → w'.cell? ⟨w.heap.size + 1, 4, none⟩ = some (.int .i64 s.d.imm) := fun w' hb => by rw [cell_of_row _ _ _ _ _ _ (block_ext hb hS)]; rfl
  have y5 : ∀ w', Below W0.heap.size W0 w' → w'.cell? ⟨w.heap.size + 1, 5, none⟩ = some (.int .i64 s.d.callee) := fun w' hb => by rw [cell_of_row _ _ _ _ _ _ (block_ext hb hS)]; rfl
  have y6 : ∀ w', Below W0.heap.size W0 w' → w'.cell? ⟨w.heap.size + 1, 6, none⟩ = some (.slice s.aa s.na s.ca) := fun w' hb => by rw [cell_of_row _ _ _ _ _ _ (block_ext hb hS)]; rfl
  have y7 : ∀ w', Below W0.heap.size W0 w' → w'.cell? ⟨w.heap.size + 1, 7, none⟩ = some (.int .i64 s.d.many) := fun w' hb => by rw [cell_of_row _ _ _ _ _ _ (block_ext hb hS)]; rfl
  have E0 : Below W0.heap.size W0 W0 := Below.refl _ _
  clear hR hS
  go_enter Try.func56, Try.ntmps56
  go_wp2_with (first
    | (go_at_call 53
       go_loud (
         refine (sameInts_any ra s.aa rn s.na rc s.ca s.d.args s.d.args W0 (HR.out.ext HW0.out) (HS.out.ext HW0.out)).mono ?_
         rw [decide_eq_true rfl]
         rintro e w1 ⟨rfl, q, rfl⟩
         have E1 : Below W0.heap.size W0 (W0.drewN q) := ext_drewN (Below.refl _ _) q)))
  go_ret
  exact ⟨rfl, ext_trans HW0.out E1⟩
set_option maxRecDepth 100000 in
set_option maxHeartbeats 4000000 in
theorem keptIns_any (r s : InsR) (base : Nat) (w : World) (h : LentR w base s r) (hs : InsOK w s) (hn : s.na ≤ 1000000) :
    Calls Try.prog 55 #[insVR r, insVR s] w fun e w' => e = .returned (.bool true) ∧ Below w.heap.size w w' := by
  have HR := Lib.hid (h.ok hs)
  have HS := Lib.hid hs
  have HH := Lib.hid h
  have HD := Lib.hid h.1
  clear hs h
  obtain ⟨W0, HW0, hR, hS, hW0⟩ := boxes2 w (insO r.d r.aa r.na r.ca) (insO s.d s.aa s.na s.ca)
  have x0 : ∀ w', Below W0.heap.size W0 w' → w'.cell? ⟨w.heap.size, 0, none⟩ = some (.int .i64 r.d.op) := fun w' hb => by rw [cell_of_row _ _ _ _ _ _ (block_ext hb hR)]; rfl
  have x1 : ∀ w', Below W0.heap.size W0 w' → w'.cell? ⟨w.heap.size, 1, none⟩ = some (.int .i64 r.d.dst) := fun w' hb => by rw [cell_of_row _ _ _ _ _ _ (block_ext hb hR)]; rfl
  have x2 : ∀ w', Below W0.heap.size W0 w' → w'.cell? ⟨w.heap.size, 2, none⟩ = some (.int .i64 r.d.a) := fun w' hb => by rw [cell_of_row _ _ _ _ _ _ (block_ext hb hR)]; rfl
  have x3 : ∀ w', Below W0.heap.size W0 w' → w'.cell? ⟨w.heap.size, 3, none⟩ = some (.int .i64 r.d.b) := fun w' hb => by rw [cell_of_row _ _ _ _ _ _ (block_ext hb hR)]; rfl
  have x4 : ∀ w', Below W0.heap.size W0 w' → w'.cell? ⟨w.heap.size, 4, none⟩ = some (.int .i64 r.d.imm) := fun w' hb => by rw [cell_of_row _ _ _ _ _ _ (block_ext hb hR)]; rfl
  have x5 : ∀ w', Below W0.heap.size W0 w' → w'.cell? ⟨w.heap.size, 5, none⟩ = some (.int .i64 r.d.callee) := fun w' hb => by rw [cell_of_row _ _ _ _ _ _ (block_ext hb hR)]; rfl
  have x6 : ∀ w', Below W0.heap.size W0 w' → w'.cell? ⟨w.heap.size, 6, none⟩ = some (.slice r.aa r.na r.ca) := fun w' hb => by rw [cell_of_row _ _ _ _ _ _ (block_ext hb hR)]; rfl
  have x7 : ∀ w', Below W0.heap.size W0 w' → w'.cell? ⟨w.heap.size, 7, none⟩ = some (.int .i64 r.d.many) := fun w' hb => by rw [cell_of_row _ _ _ _ _ _ (block_ext hb hR)]; rfl
  have y0 : ∀ w', Below W0.heap.size W0 w' → w'.cell? ⟨w.heap.size + 1, 0, none⟩ = some (.int .i64 s.d.op) := fun w' hb => by rw [cell_of_row _ _ _ _ _ _ (block_ext hb hS)]; rfl
  have y1 : ∀ w', Below W0.heap.size W0 w' → w'.cell? ⟨w.heap.size + 1, 1, none⟩ = some (.int .i64 s.d.dst) := fun w' hb => by rw [cell_of_row _ _ _ _ _ _ (block_ext hb hS)]; rfl
  have y2 : ∀ w', Below W0.heap.size W0 w' → w'.cell? ⟨w.heap.size + 1, 2, none⟩ = some (.int .i64 s.d.a) := fun w' hb => by rw [cell_of_row _ _ _ _ _ _ (block_ext hb hS)]; rfl
  have y3 : ∀ w', Below W0.heap.size W0 w' → w'.cell? ⟨w.heap.size + 1, 3, none⟩ = some (.int .i64 s.d.b) := fun w' hb => by rw [cell_of_row _ _ _ _ _ _ (block_ext hb hS)]; rfl
  have y4 : ∀ w', Below W0.heap.size W0 w' → w'.cell? ⟨w.heap.size + 1, 4, none⟩ = some (.int .i64 s.d.imm) := fun w' hb => by rw [cell_of_row _ _ _ _ _ _ (block_ext hb hS)]; rfl
  have y5 : ∀ w', Below W0.heap.size W0 w' → w'.cell? ⟨w.heap.size + 1, 5, none⟩ = some (.int .i64 s.d.callee) := fun w' hb => by rw [cell_of_row _ _ _ _ _ _ (block_ext hb hS)]; rfl
  have y6 : ∀ w', Below W0.heap.size W0 w' → w'.cell? ⟨w.heap.size + 1, 6, none⟩ = some (.slice s.aa s.na s.ca) := fun w' hb => by rw [cell_of_row _ _ _ _ _ _ (block_ext hb hS)]; rfl
  have y7 : ∀ w', Below W0.heap.size W0 w' → w'.cell? ⟨w.heap.size + 1, 7, none⟩ = some (.int .i64 s.d.many) := fun w' hb => by rw [cell_of_row _ _ _ _ _ _ (block_ext hb hS)]; rfl
  have E0 : Below W0.heap.size W0 W0 := Below.refl _ _
  clear hR hS
  go_enter Try.func55, Try.ntmps55
  go_wp2_with (first
    | (go_at_call 56
       go_loud (
         refine (sameIns_any r s W0 HD.out (HR.out.ext HW0.out) (HS.out.ext HW0.out)).mono ?_
         rintro e w1 ⟨rfl, E1⟩))
    | (go_at_call 27
       go_loud (
         refine (keptInts_any _ _ _ _ _ _ _ ((HH.out.ext HW0.out).ext E1).2 ((HS.out.ext HW0.out).ext E1).1 hn).mono ?_
         rintro e w2 ⟨rfl, q, rfl⟩
         have E2 : Below W0.heap.size W0 (w1.drewN q) := ext_drewN E1 q)))
  go_ret
  exact ⟨rfl, ext_trans HW0.out E2⟩

/-- rows of instructions that are the same -/
def SameR (rs ss : List InsR) : Prop := rs.length = ss.length ∧ ∀ (k : Nat) r s, rs[k]? = some r → ss[k]? = some s → r.d = s.d
set_option maxRecDepth 100000 in
set_option maxHeartbeats 4000000 in
theorem sameRow_any (a b : Option Addr) (n c d : Nat) (rs ss : List InsR) (w : World) (hr : InsS w a n rs) (hs : InsS w b n ss) (h : SameR rs ss) :
    Calls Try.prog 54 #[.slice a n c, .slice b n d] w fun e w' => e = .returned (.bool true) ∧ Below w.heap.size w w' := by
  have HR := Lib.hid hr
  have HS := Lib.hid hs
  have HH := Lib.hid h
  have hn := hr.1.2.1
  clear hr hs h
  have hne : ((n : Int) != (n : Int)) = false := by simp
  go_enter Try.func54, Try.ntmps54
  go_wp2
  go_loopw [5] (fun i wr => ∃ (k : Nat), k ≤ n ∧ i = .int .i64 k ∧ Hid (Below w.heap.size w wr)) (fun i _ => n - (intOf i).toNat)
  case atStart => exact ⟨0, by omega, rfl, Below.refl _ _⟩
  case round =>
    obtain ⟨k, hk, rfl, HB⟩ := hrel
    by_cases hlt : k < n
    · obtain ⟨r, b1, o1, hr, hokr, rfl, x0, x1, x2, x3, x4, x5, x6, x7⟩ := (HR.out.ext HB.out).cells hlt
      obtain ⟨s, b2, o2, hs, hoks, rfl, y0, y1, y2, y3, y4, y5, y6, y7⟩ := (HS.out.ext HB.out).cells hlt
      have HD := Lib.hid (HH.out.2 k r s hr hs)
      have HOr := Lib.hid hokr
      have HOs := Lib.hid hoks
      have hk0 : (0 : Int) ≤ (k : Int) := by omega
      have hk1 : (k : Int) < (n : Int) := by omega
      have kx : ∀ w', Below wr.heap.size wr w' → ∀ {p v}, wr.cell? p = some v → w'.cell? p = some v := fun w' hb p v h => cell_ext hb h
      have kx0 : ∀ w', Below wr.heap.size wr w' → w'.cell? ⟨b1, o1 + k * 8, none⟩ = some (.int .i64 r.d.op) := fun w' hb => cell_ext hb x0
      have kx1 : ∀ w', Below wr.heap.size wr w' → w'.cell? ⟨b1, o1 + k * 8 + 1, none⟩ = some (.int .i64 r.d.dst) := fun w' hb => cell_ext hb x1
      have kx2 : ∀ w', Below wr.heap.size wr w' → w'.cell? ⟨b1, o1 + k * 8 + 2, none⟩ = some (.int .i64 r.d.a) := fun w' hb => cell_ext hb x2
      have kx3 : ∀ w', Below wr.heap.size wr w' → w'.cell? ⟨b1, o1 + k * 8 + 3, none⟩ = some (.int .i64 r.d.b) := fun w' hb => cell_ext hb x3
      have kx4 : ∀ w', Below wr.heap.size wr w' → w'.cell? ⟨b1, o1 + k * 8 + 4, none⟩ = some (.int .i64 r.d.imm) := fun w' hb => cell_ext hb x4
      have kx5 : ∀ w', Below wr.heap.size wr w' → w'.cell? ⟨b1, o1 + k * 8 + 5, none⟩ = some (.int .i64 r.d.callee) := fun w' hb => cell_ext hb x5
      have kx6 : ∀ w', Below wr.heap.size wr w' → w'.cell? ⟨b1, o1 + k * 8 + 6, none⟩ = some (.slice r.aa r.na r.ca) := fun w' hb => cell_ext hb x6
      have kx7 : ∀ w', Below wr.heap.size wr w' → w'.cell? ⟨b1, o1 + k * 8 + 7, none⟩ = some (.int .i64 r.d.many) := fun w' hb => cell_ext hb x7
      have ky0 : ∀ w', Below wr.heap.size wr w' → w'.cell? ⟨b2, o2 + k * 8, none⟩ = some (.int .i64 s.d.op) := fun w' hb => cell_ext hb y0
      have ky1 : ∀ w', Below wr.heap.size wr w' → w'.cell? ⟨b2, o2 + k * 8 + 1, none⟩ = some (.int .i64 s.d.dst) := fun w' hb => cell_ext hb y1
      have ky2 : ∀ w', Below wr.heap.size wr w' → w'.cell? ⟨b2, o2 + k * 8 + 2, none⟩ = some (.int .i64 s.d.a) := fun w' hb => cell_ext hb y2
      have ky3 : ∀ w', Below wr.heap.size wr w' → w'.cell? ⟨b2, o2 + k * 8 + 3, none⟩ = some (.int .i64 s.d.b) := fun w' hb => cell_ext hb y3
      have ky4 : ∀ w', Below wr.heap.size wr w' → w'.cell? ⟨b2, o2 + k * 8 + 4, none⟩ = some (.int .i64 s.d.imm) := fun w' hb => cell_ext hb y4
      have ky5 : ∀ w', Below wr.heap.size wr w' → w'.cell? ⟨b2, o2 + k * 8 + 5, none⟩ = some (.int .i64 s.d.callee) := fun w' hb => cell_ext hb y5
      have ky6 : ∀ w', Below wr.heap.size wr w' → w'.cell? ⟨b2, o2 + k * 8 + 6, none⟩ = some (.slice s.aa s.na s.ca) := fun w' hb => cell_ext hb y6
      have ky7 : ∀ w', Below wr.heap.size wr w' → w'.cell? ⟨b2, o2 + k * 8 + 7, none⟩ = some (.int .i64 s.d.many) := fun w' hb => cell_ext hb y7
      have Er : Below wr.heap.size wr wr := Below.refl _ _
      clear hr hs hokr hoks x0 x1 x2 x3 x4 x5 x6 x7 y0 y1 y2 y3 y4 y5 y6 y7 kx
      go_wp2
      go_region_held3 (fun w' => Below wr.heap.size wr w')
        (first
          | exact ext_drewN (Below.refl _ _) 1
          | exact ext_trans (by assumption) hb1
          | assumption)
        (first
          | (go_at_call 56
             refine (sameIns_any r s _ HD.out (HOr.out.ext (by assumption)) (HOs.out.ext (by assumption))).mono ?_
             rintro e w1 ⟨rfl, hb1⟩))
      go_wp2_with fail
      go_roundw
      case rel => exact ⟨k + 1, by omega, by go_num, ext_trans HB.out (by assumption)⟩
      case measure => simp [intOf]; omega
    · go_wp2
      go_ret
      exact ⟨rfl, HB.out⟩

theorem markR_ok (w : World) (k : Nat) (hk : k < 12) : InsOK w (markR k) := by
  have hm : I64 (markV 1 (k : Int)) := by unfold I64 markV; omega
  have z : I64 0 := by unfold I64; omega
  exact ⟨⟨rfl, Nat.zero_le _, fun j hj => absurd hj (by simp [markR])⟩, Nat.le_refl _, z, z, z, z, hm, z, z⟩
theorem LentRow.insS {w : World} {base : Nat} {g n cap : Nat} {rs rs' : List InsR} {a : Option Addr} (h : LentRow w base (.slice (some ⟨g, 0, none⟩) n cap) rs rs') (hs : InsS w a n rs) (hn : n ≤ 1000000) :
    InsS w (some ⟨g, 0, none⟩) (n + 12) (rs' ++ insMarks) ∧ rs'.length = n ∧ n + 12 ≤ cap ∧ cap ≤ maxLen ∧ LentRs w base rs rs' := by
  obtain ⟨g', cap', e, hown, hl⟩ := h
  injection e with e1 e2 e3
  injection e1 with e1
  injection e1 with e1 _ _
  subst e1
  subst e3
  have hrl : rs.length = n := hs.1.1
  have hlen : rs'.length = n := by rw [hl.1, hrl]
  have hll : (rs' ++ insMarks).length = n + 12 := by rw [List.length_append, insMarks_len, hlen]
  have hc : n + 12 ≤ cap ∧ cap ≤ maxLen := by
    rcases hown.2 with ⟨_, h0⟩ | ⟨g', cap', cur, hv, _, _, h1, h2, _⟩
    · omega
    · injection hv with _ _ hcc
      subst hcc
      rw [hrl] at h1
      exact ⟨h1, h2⟩
  rw [hrl, ← hll] at hown
  obtain ⟨a2, c2, e, hr, _⟩ := recs_of_own insC_len hown (by rw [hll]; omega)
  injection e with e1 _ _
  subst e1
  rw [hll] at hr
  refine ⟨⟨hr, fun r hm => ?_⟩, hlen, hc.1, hc.2, hl⟩
  rcases List.mem_append.1 hm with hm | hm
  · obtain ⟨k, hk, e⟩ := List.mem_iff_getElem.1 hm
    have hk2 : k < rs.length := by rw [← hl.1]; exact hk
    exact (hl.2 k rs[k] r (List.getElem?_eq_getElem hk2) (by rw [List.getElem?_eq_getElem hk, e])).ok (hs.2 _ (List.getElem_mem hk2))
  · obtain ⟨k, hk, e⟩ := List.mem_iff_getElem.1 hm
    rw [insMarks_len] at hk
    have : r = markR k := by rw [← e]; simp [insMarks]
    rw [this]
    exact markR_ok w k hk
theorem LentRow.same {w : World} {base : Nat} {v : Value} {rs rs' : List InsR} (h : LentRow w base v rs rs') : SameR rs' rs := by
  obtain ⟨_, _, _, _, hl⟩ := h
  exact ⟨hl.1, fun k r s hr hs => (hl.2 k s r hs hr).1⟩
theorem InsS.takeN {w : World} {a : Option Addr} {n m : Nat} {rs : List InsR} (h : InsS w a n rs) (hm : m ≤ n) : InsS w a m (rs.take m) :=
  ⟨⟨by rw [List.length_take, h.1.1]; omega, by have := h.1.2.1; omega, fun j x hx => by
    refine h.1.2.2 j x ?_
    have hj := (List.getElem?_eq_some_iff.1 hx).1
    rw [List.length_take] at hj
    rwa [List.getElem?_take, if_pos (by omega)] at hx⟩, fun r hr => h.2 r (List.mem_of_mem_take hr)⟩
theorem LentRow.insN {w : World} {base : Nat} {g n cap : Nat} {rs rs' : List InsR} {a : Option Addr} (h : LentRow w base (.slice (some ⟨g, 0, none⟩) n cap) rs rs') (hs : InsS w a n rs) (hn : n ≤ 1000000) : InsS w (some ⟨g, 0, none⟩) n rs' := by
  obtain ⟨h1, h2, _⟩ := h.insS hs hn
  have := h1.takeN (m := n) (by omega)
  rwa [List.take_append_of_le_length (by omega), List.take_of_length_le (by omega)] at this
set_option maxRecDepth 100000 in
set_option maxHeartbeats 4000000 in
theorem keptRow_any (base g cap : Nat) (a : Option Addr) (n c : Nat) (rs rs' : List InsR) (w : World) (h : LentRow w base (.slice (some ⟨g, 0, none⟩) n cap) rs rs') (hs : InsS w a n rs) (hn : n ≤ 1000000) (hna : ∀ r ∈ rs, r.na ≤ 1000000) :
    Calls Try.prog 29 #[.slice (some ⟨g, 0, none⟩) n cap, .slice a n c] w fun e w' => e = .returned (.bool true) ∧ Below w.heap.size w w' := by
  obtain ⟨h1, hlen, hc1, hc2, hl⟩ := h.insS hs hn
  have HA := Lib.hid h1
  have HS := Lib.hid hs
  have HL := Lib.hid hl
  have HLen := Lib.hid hlen
  have HNA := Lib.hid hna
  clear h hs h1 hl hlen hna
  unfold maxLen at hc2
  have hne : ((n : Int) != (n : Int)) = false := by simp
  go_enter Try.func29, Try.ntmps29
  go_wp2
  go_loopw [6] (fun i wr => ∃ (k : Nat), k ≤ n + 12 ∧ i = .int .i64 k ∧ Hid (Below w.heap.size w wr)) (fun i _ => n + 12 - (intOf i).toNat)
  case atStart => exact ⟨0, by omega, rfl, Below.refl _ _⟩
  case round =>
    obtain ⟨k, hk, rfl, HB⟩ := hrel
    by_cases hlt : k < n + 12
    · obtain ⟨r, b1, o1, hr, hokr, hab, x0, x1, x2, x3, x4, x5, x6, x7⟩ := (HA.out.ext HB.out).cells hlt
      injection hab with hab
      injection hab with hab1 hab2 _
      subst hab1
      subst hab2
      have Er : Below wr.heap.size wr wr := Below.refl _ _
      have HOr := Lib.hid hokr
      rw [Nat.zero_add] at x0 x1 x2 x3 x4 x5 x6 x7
      have kx0 : ∀ n : ExtW wr, n.val.cell? ⟨g, k * 8, none⟩ = some (.int .i64 r.d.op) := fun n => cell_ext n.ext x0
      have kx1 : ∀ n : ExtW wr, n.val.cell? ⟨g, k * 8 + 1, none⟩ = some (.int .i64 r.d.dst) := fun n => cell_ext n.ext x1
      have kx2 : ∀ n : ExtW wr, n.val.cell? ⟨g, k * 8 + 2, none⟩ = some (.int .i64 r.d.a) := fun n => cell_ext n.ext x2
      have kx3 : ∀ n : ExtW wr, n.val.cell? ⟨g, k * 8 + 3, none⟩ = some (.int .i64 r.d.b) := fun n => cell_ext n.ext x3
      have kx4 : ∀ n : ExtW wr, n.val.cell? ⟨g, k * 8 + 4, none⟩ = some (.int .i64 r.d.imm) := fun n => cell_ext n.ext x4
      have kx5 : ∀ n : ExtW wr, n.val.cell? ⟨g, k * 8 + 5, none⟩ = some (.int .i64 r.d.callee) := fun n => cell_ext n.ext x5
      have kx6 : ∀ n : ExtW wr, n.val.cell? ⟨g, k * 8 + 6, none⟩ = some (.slice r.aa r.na r.ca) := fun n => cell_ext n.ext x6
      have kx7 : ∀ n : ExtW wr, n.val.cell? ⟨g, k * 8 + 7, none⟩ = some (.int .i64 r.d.many) := fun n => cell_ext n.ext x7
      by_cases hkn : k < n
      · rw [List.getElem?_append_left (by rw [HLen.out]; exact hkn)] at hr
        obtain ⟨s, b2, o2, hs, hoks, rfl, y0, y1, y2, y3, y4, y5, y6, y7⟩ := (HS.out.ext HB.out).cells hkn
        have HLk := Lib.hid ((HL.out.2 k s r hs hr).ext HB.out)
        have HOs := Lib.hid hoks
        have HNs := Lib.hid (HNA.out s (List.mem_of_getElem? hs))
        have ky0 : ∀ n : ExtW wr, n.val.cell? ⟨b2, o2 + k * 8, none⟩ = some (.int .i64 s.d.op) := fun n => cell_ext n.ext y0
        have ky1 : ∀ n : ExtW wr, n.val.cell? ⟨b2, o2 + k * 8 + 1, none⟩ = some (.int .i64 s.d.dst) := fun n => cell_ext n.ext y1
        have ky2 : ∀ n : ExtW wr, n.val.cell? ⟨b2, o2 + k * 8 + 2, none⟩ = some (.int .i64 s.d.a) := fun n => cell_ext n.ext y2
        have ky3 : ∀ n : ExtW wr, n.val.cell? ⟨b2, o2 + k * 8 + 3, none⟩ = some (.int .i64 s.d.b) := fun n => cell_ext n.ext y3
        have ky4 : ∀ n : ExtW wr, n.val.cell? ⟨b2, o2 + k * 8 + 4, none⟩ = some (.int .i64 s.d.imm) := fun n => cell_ext n.ext y4
        have ky5 : ∀ n : ExtW wr, n.val.cell? ⟨b2, o2 + k * 8 + 5, none⟩ = some (.int .i64 s.d.callee) := fun n => cell_ext n.ext y5
        have ky6 : ∀ n : ExtW wr, n.val.cell? ⟨b2, o2 + k * 8 + 6, none⟩ = some (.slice s.aa s.na s.ca) := fun n => cell_ext n.ext y6
        have ky7 : ∀ n : ExtW wr, n.val.cell? ⟨b2, o2 + k * 8 + 7, none⟩ = some (.int .i64 s.d.many) := fun n => cell_ext n.ext y7
        have hk0 : (0 : Int) ≤ (k : Int) := by omega
        have hk1 : (k : Int) < (n : Int) := by omega
        have hk2 : (k : Int) < (n : Int) + 12 := by omega
        have d1 : decide ((k : Int) < (n : Int)) = true := by simpa using hkn
        have d2 : decide ((n : Int) ≤ (k : Int)) = false := by simp; omega
        have d3 : decide (k < n) = true := by simpa using hkn
        have d4 : decide (n ≤ k) = false := by simp; omega
        clear hr hs hoks hokr x0 x1 x2 x3 x4 x5 x6 x7 y0 y1 y2 y3 y4 y5 y6 y7 hkn
        go_wp2
        refine region_ext (by kernel_rfl) (by kernel_rfl) ?_
        repeat (go_big_quiet_step (first
          | (go_at_call 55; exact quiet_ext (keptIns_any r s base _ (HLk.out.ext (ExtW.ext _)) (HOs.out.ext (ExtW.ext _)) HNs.out))))
        refine wpQuiet_nil ?_
        rintro _ ⟨mm, rfl⟩
        have HM := Lib.hid (ext_trans HB.out mm.ext)
        generalize mm.val = W8 at *
        clear kx0 kx1 kx2 kx3 kx4 kx5 kx6 kx7 ky0 ky1 ky2 ky3 ky4 ky5 ky6 ky7
        go_wp2
        go_roundw
        case rel => exact ⟨k + 1, by omega, by go_num, HM⟩
        case measure => simp [intOf]; omega
      · obtain ⟨j, rfl⟩ : ∃ j, k = n + j := ⟨k - n, by omega⟩
        have hj : j < 12 := by omega
        have hrm : r = markR j := by
          rw [List.getElem?_append_right (by rw [HLen.out]; omega), HLen.out, Nat.add_sub_cancel_left, insMarks_at j hj] at hr
          exact (Option.some.inj hr).symm
        have HRM := Lib.hid hrm
        have d1 : decide (n + j < n) = false := by simp
        have d2 : decide (n ≤ n + j) = true := by simp
        have d3 : decide ((n : Int) + (j : Int) < (n : Int)) = false := by simp; omega
        have d4 : decide ((n : Int) ≤ (n : Int) + (j : Int)) = true := by simp; omega
        have d5 : IntKind.i64.wrap ((n : Int) + (j : Int) - (n : Int)) = (j : Int) := by rw [IntKind.wrap_i64]; omega
        have hk0 : (0 : Int) ≤ (n : Int) + (j : Int) := by omega
        have hk2 : (n : Int) + (j : Int) < (n : Int) + 12 := by omega
        clear hr hrm hokr x0 x1 x2 x3 x4 x5 x6 x7 hkn
        go_wp2
        refine region_ext (by kernel_rfl) (by kernel_rfl) ?_
        repeat (go_big_quiet_step (first
          | (go_at_call 42; exact quiet_ext (markIns_any j _ (by omega)))
          | (go_at_call 56; exact quiet_ext (sameIns_any r (markR j) _ (by rw [HRM.out]) (HOr.out.ext (ExtW.ext _)) (markR_ok _ j hj)))))
        refine wpQuiet_nil ?_
        rintro _ ⟨mm, rfl⟩
        have HM := Lib.hid (ext_trans HB.out mm.ext)
        generalize mm.val = W8 at *
        clear kx0 kx1 kx2 kx3 kx4 kx5 kx6 kx7
        go_wp2
        go_roundw
        case rel => exact ⟨n + j + 1, by omega, by go_num, HM⟩
        case measure => simp [intOf]; omega
    · go_wp2
      go_ret
      exact ⟨rfl, HB.out⟩

set_option maxRecDepth 100000 in
set_option maxHeartbeats 4000000 in
theorem sameMach_any (m : MachD) (x1 x2 y1 y2 : Option Addr) (n1 n2 k1 k2 c1 c2 : Nat) (w : World) (hx1 : Ints w x1 n1 m.args) (hx2 : Ints w x2 n2 m.saved) (hy1 : Ints w y1 n1 m.args) (hy2 : Ints w y2 n2 m.saved) :
    Calls Try.prog 26 #[machV m x1 n1 k1 x2 n2 k2, machV m y1 n1 c1 y2 n2 c2] w fun e w' => e = .returned (.bool true) ∧ Below w.heap.size w w' := by
  have HX1 := Lib.hid hx1
  have HX2 := Lib.hid hx2
  have HY1 := Lib.hid hy1
  have HY2 := Lib.hid hy2
  clear hx1 hx2 hy1 hy2
  obtain ⟨W0, HW0, hR, hS, hW0⟩ := boxes2 w (machO m x1 n1 k1 x2 n2 k2) (machO m y1 n1 c1 y2 n2 c2)
  have f0 : ∀ w', Below W0.heap.size W0 w' → w'.cell? ⟨w.heap.size, 0, none⟩ = some (.int .i64 m.regs) := fun w' hb => by rw [cell_of_row _ _ _ _ _ _ (block_ext hb hR)]; rfl
  have f1 : ∀ w', Below W0.heap.size W0 w' → w'.cell? ⟨w.heap.size, 1, none⟩ = some (.slice x1 n1 k1) := fun w' hb => by rw [cell_of_row _ _ _ _ _ _ (block_ext hb hR)]; rfl
  have f2 : ∀ w', Below W0.heap.size W0 w' → w'.cell? ⟨w.heap.size, 2, none⟩ = some (.int .i64 m.ret) := fun w' hb => by rw [cell_of_row _ _ _ _ _ _ (block_ext hb hR)]; rfl
  have f3 : ∀ w', Below W0.heap.size W0 w' → w'.cell? ⟨w.heap.size, 3, none⟩ = some (.slice x2 n2 k2) := fun w' hb => by rw [cell_of_row _ _ _ _ _ _ (block_ext hb hR)]; rfl
  have g0 : ∀ w', Below W0.heap.size W0 w' → w'.cell? ⟨w.heap.size + 1, 0, none⟩ = some (.int .i64 m.regs) := fun w' hb => by rw [cell_of_row _ _ _ _ _ _ (block_ext hb hS)]; rfl
  have g1 : ∀ w', Below W0.heap.size W0 w' → w'.cell? ⟨w.heap.size + 1, 1, none⟩ = some (.slice y1 n1 c1) := fun w' hb => by rw [cell_of_row _ _ _ _ _ _ (block_ext hb hS)]; rfl
  have g2 : ∀ w', Below W0.heap.size W0 w' → w'.cell? ⟨w.heap.size + 1, 2, none⟩ = some (.int .i64 m.ret) := fun w' hb => by rw [cell_of_row _ _ _ _ _ _ (block_ext hb hS)]; rfl
  have g3 : ∀ w', Below W0.heap.size W0 w' → w'.cell? ⟨w.heap.size + 1, 3, none⟩ = some (.slice y2 n2 c2) := fun w' hb => by rw [cell_of_row _ _ _ _ _ _ (block_ext hb hS)]; rfl
  have E0 : Below W0.heap.size W0 W0 := Below.refl _ _
  clear hR hS
  go_enter Try.func26, Try.ntmps26
  go_wp2_with (first
    | (go_at_call 53
       refine (sameInts_any x2 y2 n2 n2 k2 c2 m.saved m.saved w1 (HX2.out.ext (ext_trans HW0.out E1)) (HY2.out.ext (ext_trans HW0.out E1))).mono ?_
       rw [decide_eq_true rfl]
       rintro e w2 ⟨rfl, q', hq⟩
       have E2 : Below W0.heap.size W0 w2 := by rw [hq]; exact ext_drewN E1 q'
       clear hq)
    | (go_at_call 53
       refine (sameInts_any x1 y1 n1 n1 k1 c1 m.args m.args W0 (HX1.out.ext HW0.out) (HY1.out.ext HW0.out)).mono ?_
       rw [decide_eq_true rfl]
       rintro e w1 ⟨rfl, q, hq⟩
       have E1 : Below W0.heap.size W0 w1 := by rw [hq]; exact ext_drewN (Below.refl _ _) q
       clear hq))
  go_ret
  exact ⟨rfl, ext_trans HW0.out E2⟩
set_option maxRecDepth 100000 in
set_option maxHeartbeats 4000000 in
theorem keptMach_any (m : MachD) (base g1 g2 : Nat) (y1 y2 : Option Addr) (n1 n2 k1 k2 c1 c2 : Nat) (w : World) (h : LentM w base m (.slice (some ⟨g1, 0, none⟩) n1 k1) (.slice (some ⟨g2, 0, none⟩) n2 k2)) (hm : MachOK w m y1 n1 c1 y2 n2 c2) :
    Calls Try.prog 14 #[machV m (some ⟨g1, 0, none⟩) n1 k1 (some ⟨g2, 0, none⟩) n2 k2, machV m y1 n1 c1 y2 n2 c2] w fun e w' => e = .returned (.bool true) ∧ Below w.heap.size w w' := by
  have HH := Lib.hid h
  have HM := Lib.hid hm
  have hn1 := hm.2.2.2.2.1
  have hn2 := hm.2.2.2.2.2.1
  have hi1 : Ints w (some ⟨g1, 0, none⟩) n1 m.args := by
    obtain ⟨a, c, e, hi⟩ := h.1.ints (by rw [hm.1.1]; exact hm.1.2.1) hm.1.mem
    rw [hm.1.1] at e hi
    injection e with e1 _ _
    rw [e1]; exact hi
  have hi2 : Ints w (some ⟨g2, 0, none⟩) n2 m.saved := by
    obtain ⟨a, c, e, hi⟩ := h.2.ints (by rw [hm.2.1.1]; exact hm.2.1.2.1) hm.2.1.mem
    rw [hm.2.1.1] at e hi
    injection e with e1 _ _
    rw [e1]; exact hi
  have HI1 := Lib.hid hi1
  have HI2 := Lib.hid hi2
  clear h hm hi1 hi2
  obtain ⟨W0, HW0, hR, hS, hW0⟩ := boxes2 w (machO m (some ⟨g1, 0, none⟩) n1 k1 (some ⟨g2, 0, none⟩) n2 k2) (machO m y1 n1 c1 y2 n2 c2)
  have f0 : ∀ w', Below W0.heap.size W0 w' → w'.cell? ⟨w.heap.size, 0, none⟩ = some (.int .i64 m.regs) := fun w' hb => by rw [cell_of_row _ _ _ _ _ _ (block_ext hb hR)]; rfl
  have f1 : ∀ w', Below W0.heap.size W0 w' → w'.cell? ⟨w.heap.size, 1, none⟩ = some (.slice (some ⟨g1, 0, none⟩) n1 k1) := fun w' hb => by rw [cell_of_row _ _ _ _ _ _ (block_ext hb hR)]; rfl
  have f2 : ∀ w', Below W0.heap.size W0 w' → w'.cell? ⟨w.heap.size, 2, none⟩ = some (.int .i64 m.ret) := fun w' hb => by rw [cell_of_row _ _ _ _ _ _ (block_ext hb hR)]; rfl
  have f3 : ∀ w', Below W0.heap.size W0 w' → w'.cell? ⟨w.heap.size, 3, none⟩ = some (.slice (some ⟨g2, 0, none⟩) n2 k2) := fun w' hb => by rw [cell_of_row _ _ _ _ _ _ (block_ext hb hR)]; rfl
  have h0' : ∀ w', Below W0.heap.size W0 w' → w'.cell? ⟨w.heap.size + 1, 0, none⟩ = some (.int .i64 m.regs) := fun w' hb => by rw [cell_of_row _ _ _ _ _ _ (block_ext hb hS)]; rfl
  have h1' : ∀ w', Below W0.heap.size W0 w' → w'.cell? ⟨w.heap.size + 1, 1, none⟩ = some (.slice y1 n1 c1) := fun w' hb => by rw [cell_of_row _ _ _ _ _ _ (block_ext hb hS)]; rfl
  have h2' : ∀ w', Below W0.heap.size W0 w' → w'.cell? ⟨w.heap.size + 1, 2, none⟩ = some (.int .i64 m.ret) := fun w' hb => by rw [cell_of_row _ _ _ _ _ _ (block_ext hb hS)]; rfl
  have h3' : ∀ w', Below W0.heap.size W0 w' → w'.cell? ⟨w.heap.size + 1, 3, none⟩ = some (.slice y2 n2 c2) := fun w' hb => by rw [cell_of_row _ _ _ _ _ _ (block_ext hb hS)]; rfl
  have E0 : Below W0.heap.size W0 W0 := Below.refl _ _
  clear hR hS
  go_enter Try.func14, Try.ntmps14
  go_wp2_with (first
    | (go_at_call 26
       refine (sameMach_any m _ _ _ _ _ _ _ _ _ _ _ (HI1.out.ext HW0.out) (HI2.out.ext HW0.out) (HM.out.ext HW0.out).1 (HM.out.ext HW0.out).2.1).mono ?_
       rintro e w1 ⟨rfl, E1⟩)
    | (go_at_call 27
       refine (keptInts_any base (.slice (some ⟨g2, 0, none⟩) n2 k2) y2 n2 c2 m.saved w2 ((HH.out.2.ext HW0.out).ext E2) ((HM.out.ext HW0.out).ext E2).2.1 hn2).mono ?_
       rintro e w3 ⟨rfl, q', hq⟩
       have E3 : Below W0.heap.size W0 w3 := by rw [hq]; exact ext_drewN E2 q'
       clear hq)
    | (go_at_call 27
       refine (keptInts_any base (.slice (some ⟨g1, 0, none⟩) n1 k1) y1 n1 c1 m.args w1 ((HH.out.1.ext HW0.out).ext E1) ((HM.out.ext HW0.out).ext E1).1 hn1).mono ?_
       rintro e w2 ⟨rfl, q, hq⟩
       have E2 : Below W0.heap.size W0 w2 := by rw [hq]; exact ext_drewN E1 q
       clear hq))
  go_ret
  exact ⟨rfl, ext_trans HW0.out E3⟩
theorem part_kind (cs : Array Value) (o : Nat) (v : Value) (w : World) (h : cs[o]? = some v) : (part 26 cs o).run Try.prog w = .ok v w := by
  have hu : (underlying 26).run Try.prog w = .ok (.int .i64) w := run_underlying Try.underlying26 w
  simp [part, isAgg, hu, h]
theorem info_to : (Try.prog.info? 27).map (fun i => (i.zero, i.size, i.bytes)) = some (some (.agg #[.int .i64 0, .int .i64 0]), 2, 16) := by kernel_rfl
theorem part_to (cs : Array Value) (o : Nat) (u v : Value) (w : World) (h : cs.extract o (o + 2) = #[u, v]) : (part 27 cs o).run Try.prog w = .ok (.agg #[u, v]) w := by
  have hu : (underlying 27).run Try.prog w = .ok _ w := run_underlying Try.underlying27 w
  obtain ⟨i, hi, -, hs, -⟩ := info_parts info_to
  have hz : (sizeOf 27).run Try.prog w = .ok 2 w := by simp [sizeOf, typeInfo, hi, hs]
  simp [part, isAgg, hu, hz, h]
theorem equal_toD (w : World) (d : Nat) (x0 x1 y0 y1 : Int) : (Op.equalIn (d + 2) 27 (.agg #[.int .i64 x0, .int .i64 x1]) (.agg #[.int .i64 y0, .int .i64 y1])).run Try.prog w = .ok (x0 == y0 && x1 == y1) w := by
  obtain ⟨i, hi, -, -, -⟩ := info_parts info_int
  have h1 : Try.prog.cellsOf 3 = 1 := by kernel_rfl
  have e0 := run_equalIn_int w d 3 .i64 .i64 x0 y0 Try.underlying3
  have e1 := run_equalIn_int w d 3 .i64 .i64 x1 y1 Try.underlying3
  rw [run_equalIn_array w (d + 1) _ _ Try.underlying27 hi, h1]
  simp only [List.range, List.range.loop, Op.eqItems, Sem.run_bind, Nat.zero_mul, Nat.one_mul]
  rw [part_int _ 0 (.int .i64 x0) w rfl]
  simp only [Result.andThen_ok]
  rw [part_int _ 0 (.int .i64 y0) w rfl]
  simp only [Result.andThen_ok]
  rw [e0]
  simp only [Result.andThen_ok]
  cases hq : (x0 == y0) with
  | false => simp
  | true =>
    simp only [Bool.not_true, Bool.false_eq_true, if_false, Sem.run_bind]
    rw [part_int _ 1 (.int .i64 x1) w rfl]
    simp only [Result.andThen_ok]
    rw [part_int _ 1 (.int .i64 y1) w rfl]
    simp only [Result.andThen_ok]
    rw [e1]
    simp only [Result.andThen_ok]
    cases hq : (x1 == y1) <;> simp
theorem fields_term : (Try.prog.fieldsOf 29).toList.map (fun f => (f.name, f.type, f.offset)) = [("Kind", 26, 0), ("A", 3, 1), ("To", 27, 2)] := by kernel_rfl
theorem under_term : Try.prog.underlying 29 = some (.struct (Try.prog.fieldsOf 29)) := by kernel_rfl
theorem stood_term : Try.prog.stoodInHeld 29 = false := by kernel_rfl
/-- three fields, compared -/
theorem eqFields3 (w : World) (d : Nat) (xs ys : Array Value) (fs : List Field) (n0 n1 n2 : String) (t0 t1 t2 : TypeId) (o0 o1 o2 : Nat) (hf : fs.map (fun f => (f.name, f.type, f.offset)) = [(n0, t0, o0), (n1, t1, o1), (n2, t2, o2)]) (h0 : n0 ≠ "_") (h1 : n1 ≠ "_") (h2 : n2 ≠ "_")
    (x0 y0 x1 y1 x2 y2 : Value) (b0 b1 b2 : Bool) (px0 : (part t0 xs o0).run Try.prog w = .ok x0 w) (py0 : (part t0 ys o0).run Try.prog w = .ok y0 w) (px1 : (part t1 xs o1).run Try.prog w = .ok x1 w) (py1 : (part t1 ys o1).run Try.prog w = .ok y1 w) (px2 : (part t2 xs o2).run Try.prog w = .ok x2 w) (py2 : (part t2 ys o2).run Try.prog w = .ok y2 w)
    (e0 : (Op.equalIn d t0 x0 y0).run Try.prog w = .ok b0 w) (e1 : (Op.equalIn d t1 x1 y1).run Try.prog w = .ok b1 w) (e2 : (Op.equalIn d t2 x2 y2).run Try.prog w = .ok b2 w) : (Op.eqFields d xs ys fs).run Try.prog w = .ok (b0 && (b1 && b2)) w := by
  match fs, hf with
  | [f, g, h], hf =>
    simp only [List.map_cons, List.map_nil, List.cons.injEq, Prod.mk.injEq, and_true] at hf
    obtain ⟨⟨rfl, rfl, rfl⟩, ⟨rfl, rfl, rfl⟩, ⟨rfl, rfl, rfl⟩⟩ := hf
    simp only [Op.eqFields, Sem.run_bind, Sem.run_ite, h0, h1, h2, ne_eq, not_false_eq_true, if_true, px0, py0, e0, Result.andThen_ok]
    cases b0 with
    | false => simp
    | true =>
      cases b1 with
      | false => simp [px1, py1, e1]
      | true => cases b2 <;> simp [px1, py1, e1, px2, py2, e2]
theorem eql_term (w : World) (x0 x1 x2 x3 : Int) : (binOp .eql 29 (.agg #[.int .i64 x0, .int .i64 x1, .int .i64 x2, .int .i64 x3]) (.agg #[.int .i64 x0, .int .i64 x1, .int .i64 x2, .int .i64 x3])).run Try.prog w = .ok (.bool true) w := by
  rw [run_eql_struct, run_equalIn_struct w 9999 _ _ _ under_term stood_term]
  rw [eqFields3 w 9999 _ _ _ _ _ _ _ _ _ _ _ _ fields_term (by decide) (by decide) (by decide) (.int .i64 x0) (.int .i64 x0) (.int .i64 x1) (.int .i64 x1) (.agg #[.int .i64 x2, .int .i64 x3]) (.agg #[.int .i64 x2, .int .i64 x3]) _ _ _ (part_kind _ _ _ w rfl) (part_kind _ _ _ w rfl) (part_int _ _ _ w rfl) (part_int _ _ _ w rfl) (part_to _ _ _ _ w rfl) (part_to _ _ _ _ w rfl) (run_equalIn_int w 9998 _ .i64 .i64 _ _ Try.underlying26) (run_equalIn_int w 9998 _ .i64 .i64 _ _ Try.underlying3) (equal_toD w 9997 _ _ _ _)]
  simp
set_option maxRecDepth 100000 in
set_option maxHeartbeats 4000000 in
theorem sameBlk_any (s : BlkD) (rs : List InsR) (sa ta : Option Addr) (n k c : Nat) (w : World) (h1 : InsS w sa n rs) (h2 : InsS w ta n s.ins) (h : SameR rs s.ins) :
    Calls Try.prog 28 #[blkV s sa n k, blkV s ta n c] w fun e w' => e = .returned (.bool true) ∧ Below w.heap.size w w' := by
  have H1 := Lib.hid h1
  have H2 := Lib.hid h2
  have HH := Lib.hid h
  clear h1 h2 h
  obtain ⟨W0, HW0, hR, hS, hW0⟩ := boxes2 w (blkO s sa n k) (blkO s ta n c)
  have f0 : ∀ w', Below W0.heap.size W0 w' → w'.cell? ⟨w.heap.size, 0, none⟩ = some (.slice sa n k) := fun w' hb => by rw [cell_of_row _ _ _ _ _ _ (block_ext hb hR)]; rfl
  have f1 : ∀ w', Below W0.heap.size W0 w' → w'.cell? ⟨w.heap.size, 1, none⟩ = some (.int .i64 s.kind) := fun w' hb => by rw [cell_of_row _ _ _ _ _ _ (block_ext hb hR)]; rfl
  have f2 : ∀ w', Below W0.heap.size W0 w' → w'.cell? ⟨w.heap.size, 2, none⟩ = some (.int .i64 s.a) := fun w' hb => by rw [cell_of_row _ _ _ _ _ _ (block_ext hb hR)]; rfl
  have f3 : ∀ w', Below W0.heap.size W0 w' → w'.cell? ⟨w.heap.size, 3, none⟩ = some (.int .i64 s.to0) := fun w' hb => by rw [cell_of_row _ _ _ _ _ _ (block_ext hb hR)]; rfl
  have f4 : ∀ w', Below W0.heap.size W0 w' → w'.cell? ⟨w.heap.size, 4, none⟩ = some (.int .i64 s.to1) := fun w' hb => by rw [cell_of_row _ _ _ _ _ _ (block_ext hb hR)]; rfl
  have g0 : ∀ w', Below W0.heap.size W0 w' → w'.cell? ⟨w.heap.size + 1, 0, none⟩ = some (.slice ta n c) := fun w' hb => by rw [cell_of_row _ _ _ _ _ _ (block_ext hb hS)]; rfl
  have g1 : ∀ w', Below W0.heap.size W0 w' → w'.cell? ⟨w.heap.size + 1, 1, none⟩ = some (.int .i64 s.kind) := fun w' hb => by rw [cell_of_row _ _ _ _ _ _ (block_ext hb hS)]; rfl
  have g2 : ∀ w', Below W0.heap.size W0 w' → w'.cell? ⟨w.heap.size + 1, 2, none⟩ = some (.int .i64 s.a) := fun w' hb => by rw [cell_of_row _ _ _ _ _ _ (block_ext hb hS)]; rfl
  have g3 : ∀ w', Below W0.heap.size W0 w' → w'.cell? ⟨w.heap.size + 1, 3, none⟩ = some (.int .i64 s.to0) := fun w' hb => by rw [cell_of_row _ _ _ _ _ _ (block_ext hb hS)]; rfl
  have g4 : ∀ w', Below W0.heap.size W0 w' → w'.cell? ⟨w.heap.size + 1, 4, none⟩ = some (.int .i64 s.to1) := fun w' hb => by rw [cell_of_row _ _ _ _ _ _ (block_ext hb hS)]; rfl
  have E0 : Below W0.heap.size W0 W0 := Below.refl _ _
  have hq := eql_term
  clear hR hS
  go_enter Try.func28, Try.ntmps28
  go_wp2_with (first
    | (go_at_call 54
       refine (sameRow_any sa ta n k c rs s.ins _ (H1.out.ext HW0.out) (H2.out.ext HW0.out) HH.out).mono ?_
       rintro e w1 ⟨rfl, E1⟩))
  go_ret
  exact ⟨rfl, ext_trans HW0.out E1⟩
set_option maxRecDepth 100000 in
set_option maxHeartbeats 4000000 in
theorem keptBlk_any (s : BlkD) (rs' : List InsR) (base g cap : Nat) (ta : Option Addr) (n c : Nat) (w : World) (h : LentRow w base (.slice (some ⟨g, 0, none⟩) n cap) s.ins rs') (ht : BlkOK w s ta n c) (hna : ∀ r ∈ s.ins, r.na ≤ 1000000) :
    Calls Try.prog 15 #[blkV s (some ⟨g, 0, none⟩) n cap, blkV s ta n c] w fun e w' => e = .returned (.bool true) ∧ Below w.heap.size w w' := by
  have HH := Lib.hid h
  have HT := Lib.hid ht
  have hn := ht.2.1
  have HI := Lib.hid (h.insN ht.1 hn)
  have HNA := Lib.hid hna
  clear h ht hna
  obtain ⟨W0, HW0, hR, hS, hW0⟩ := boxes2 w (blkO s (some ⟨g, 0, none⟩) n cap) (blkO s ta n c)
  have f0 : ∀ w', Below W0.heap.size W0 w' → w'.cell? ⟨w.heap.size, 0, none⟩ = some (.slice (some ⟨g, 0, none⟩) n cap) := fun w' hb => by rw [cell_of_row _ _ _ _ _ _ (block_ext hb hR)]; rfl
  have f1 : ∀ w', Below W0.heap.size W0 w' → w'.cell? ⟨w.heap.size, 1, none⟩ = some (.int .i64 s.kind) := fun w' hb => by rw [cell_of_row _ _ _ _ _ _ (block_ext hb hR)]; rfl
  have f2 : ∀ w', Below W0.heap.size W0 w' → w'.cell? ⟨w.heap.size, 2, none⟩ = some (.int .i64 s.a) := fun w' hb => by rw [cell_of_row _ _ _ _ _ _ (block_ext hb hR)]; rfl
  have f3 : ∀ w', Below W0.heap.size W0 w' → w'.cell? ⟨w.heap.size, 3, none⟩ = some (.int .i64 s.to0) := fun w' hb => by rw [cell_of_row _ _ _ _ _ _ (block_ext hb hR)]; rfl
  have f4 : ∀ w', Below W0.heap.size W0 w' → w'.cell? ⟨w.heap.size, 4, none⟩ = some (.int .i64 s.to1) := fun w' hb => by rw [cell_of_row _ _ _ _ _ _ (block_ext hb hR)]; rfl
  have g0 : ∀ w', Below W0.heap.size W0 w' → w'.cell? ⟨w.heap.size + 1, 0, none⟩ = some (.slice ta n c) := fun w' hb => by rw [cell_of_row _ _ _ _ _ _ (block_ext hb hS)]; rfl
  have g1 : ∀ w', Below W0.heap.size W0 w' → w'.cell? ⟨w.heap.size + 1, 1, none⟩ = some (.int .i64 s.kind) := fun w' hb => by rw [cell_of_row _ _ _ _ _ _ (block_ext hb hS)]; rfl
  have g2 : ∀ w', Below W0.heap.size W0 w' → w'.cell? ⟨w.heap.size + 1, 2, none⟩ = some (.int .i64 s.a) := fun w' hb => by rw [cell_of_row _ _ _ _ _ _ (block_ext hb hS)]; rfl
  have g3 : ∀ w', Below W0.heap.size W0 w' → w'.cell? ⟨w.heap.size + 1, 3, none⟩ = some (.int .i64 s.to0) := fun w' hb => by rw [cell_of_row _ _ _ _ _ _ (block_ext hb hS)]; rfl
  have g4 : ∀ w', Below W0.heap.size W0 w' → w'.cell? ⟨w.heap.size + 1, 4, none⟩ = some (.int .i64 s.to1) := fun w' hb => by rw [cell_of_row _ _ _ _ _ _ (block_ext hb hS)]; rfl
  have E0 : Below W0.heap.size W0 W0 := Below.refl _ _
  clear hR hS
  go_enter Try.func15, Try.ntmps15
  go_wp2_with (first
    | (go_at_call 28
       refine (sameBlk_any s rs' _ _ _ _ _ _ (HI.out.ext HW0.out) (HT.out.ext HW0.out).1 HH.out.same).mono ?_
       rintro e w1 ⟨rfl, E1⟩)
    | (go_at_call 29
       refine (keptRow_any base g cap ta n c s.ins rs' w1 ((HH.out.ext HW0.out).ext E1) ((HT.out.ext HW0.out).ext E1).1 hn HNA.out).mono ?_
       rintro e w2 ⟨rfl, hb2⟩
       have E2 : Below W0.heap.size W0 w2 := ext_trans E1 hb2))
  go_ret
  exact ⟨rfl, ext_trans HW0.out E2⟩
end Go.Proofs.Ytdoahpblphlabaa
