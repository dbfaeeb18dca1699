/-
  Stores of whole rows, the world behind under a name of its own; reads in whatever world is grown out of one. No program in sight.
-/
import Derived.Test.YtfpbfdkjcmlimaaGreatIdx
import Derived.Laws.Tables
import Derived.Laws.CopyOwn
import Derived.Test.YtfpbfdkjcmlimaaGreatMix
namespace Go.Proofs.YtfpbfdkjcmlimaaGreat
set_option linter.unusedSimpArgs false
set_option linter.unusedVariables false
set_option linter.unusedSectionVars false
set_option maxRecDepth 100000
set_option maxHeartbeats 40000000
section
open Go.RowKit
section
variable {P : Program} {Q : Exit → Act → World → Prop}
theorem wpList_store_rowB {ops : Array Oper} {rest : List Oper} {o : Oper} {a : Act} {w : World} (hgd : o.guard = none) (ty : TypeId) (x y : Operand) (ho : o.op = .store ty x y)
    (g : Nat) (cells : Array Value) (hx : a.eval x = .pointer (some ⟨g, 0, none⟩)) (hy : a.eval y = .agg cells)
    (t : TypeId) (old : Array Value) (hg : w.heap[g]? = some (.cells old t (0, 0))) (hi : (P.info? ty).map (·.size) = some cells.size)
    (hold : old.size = cells.size) (h1 : cells.all (·.oneCell') = true) (B : Nat) (w0 : World) (hb : Below B w0 w) (hB : B ≤ g)
    (h : ∀ W', Below B w0 W' → W'.heap[g]? = some (.cells cells t (0, 0)) → wpList P ops Q rest (a.put o.dst undef) W') : wpList P ops Q (o :: rest) a w :=
  wpList_store_row hgd ty x y ho g cells hx hy t old hg hi hold h1 (h _ (below_setRow hb hB _) (setRow_heap _ _ _ _ _ _ hg))
theorem op_store_rowB {o : Oper} {a : Act} {K : Act → World → Prop} {w : World} (ty : TypeId) (x y : Operand) (ho : o.op = .store ty x y)
    (g : Nat) (cells : Array Value) (hx : a.eval x = .pointer (some ⟨g, 0, none⟩)) (hy : a.eval y = .agg cells)
    (t : TypeId) (old : Array Value) (hg : w.heap[g]? = some (.cells old t (0, 0))) (hi : (P.info? ty).map (·.size) = some cells.size)
    (hold : old.size = cells.size) (h1 : cells.all (·.oneCell') = true) (B : Nat) (w0 : World) (hb : Below B w0 w) (hB : B ≤ g)
    (h : ∀ W', Below B w0 W' → W'.heap[g]? = some (.cells cells t (0, 0)) → K (a.put o.dst undef) W') : o.wp P a w K Q :=
  wp_store_row ty x y ho g cells hx hy t old hg hi hold h1 (h _ (below_setRow hb hB _) (setRow_heap _ _ _ _ _ _ hg))
theorem op_allocB {o : Oper} {a : Act} {K : Act → World → Prop} {w : World} (ty : TypeId) (ho : o.op = .alloc ty) (z : Value) (hz : ∀ w, (zeroValue ty).run P w = .ok z w)
    (h : ∀ g W', Below w.heap.size w W' → g = w.heap.size → W'.heap[g]? = some (.cells z.cells ty (0, 0)) → K (a.put o.dst (.pointer (some ⟨g, 0, none⟩))) W') : o.wp P a w K Q := by
  have hr : (Instr.alloc ty true (.tuple #[])).run P w = .ok (.pointer (some ⟨w.heap.size, 0, none⟩)) (w.alloc (.cells z.cells ty)) := by
    simp [Instr.alloc, hz, newVar, newRow]
  unfold Oper.wp execOp
  simp only [ho, Sem.run_bind, hr, Result.andThen_ok, Sem.run_pure]
  exact h _ _ ((Below.refl _ w).alloc (Nat.le_refl _) _) rfl (heap_alloc_new w _)
end
theorem unDrewN {w w2 : World} {q : Nat} (h : Below (w.drewN q).heap.size (w.drewN q) w2) : Below w.heap.size w w2 := ⟨h.os, h.tape, h.output, h.size, h.block⟩
theorem unDrew1 {w w2 : World} (h : Below w.drew.heap.size w.drew w2) : Below w.heap.size w w2 := ⟨h.os, h.tape, h.output, h.size, h.block⟩
theorem own_form {w : World} {base : Nat} {e : TypeId} {size : Nat} {v : Value} {n : Nat} {xs : List Value} (h : w.ownsRow base e size v n xs) (hn : 0 < n) : ∃ g c, v = .slice (some ⟨g, 0, none⟩) n c := by
  rcases h.2 with ⟨_, h0⟩ | ⟨g, cap, cur, hv, _⟩
  · omega
  · exact ⟨g, cap, hv⟩
theorem intsOwn {w : World} {base : Nat} {e : TypeId} {g n c : Nat} {xs : List Int} (h : w.ownsRow base e 1 (.slice (some ⟨g, 0, none⟩) n c) n (xs.map (Value.int .i64))) (hx : ∀ x ∈ xs, I64 x) (hn : n ≤ 17592186044416) : Ints w (some ⟨g, 0, none⟩) n xs := by
  have hl : xs.length = n := by have := h.1; simpa using this
  refine ⟨hl, hn, fun k hk => ⟨g, 0, rfl, ?_, ?_⟩⟩
  · rw [Nat.zero_add, World.ownsRow.cellAt h k (by omega)]
    simp [List.getD_eq_getElem?_getD, show k < xs.length by omega]
  · have : xs.getD k 0 ∈ xs := by
      rw [List.getD_eq_getElem?_getD, List.getElem?_eq_getElem (by omega)]
      exact List.getElem_mem _
    exact hx _ this
theorem Ints.mem {w : World} {a : Option Addr} {n : Nat} {xs : List Int} (h : Ints w a n xs) : ∀ x ∈ xs, I64 x := by
  intro x hx
  obtain ⟨k, hk, e⟩ := List.mem_iff_getElem.1 hx
  obtain ⟨_, _, _, _, hi⟩ := h.2.2 k (by rw [← h.1]; exact hk)
  rw [List.getD_eq_getElem?_getD, List.getElem?_eq_getElem hk, Option.getD_some, e] at hi
  exact hi
theorem block_ext {w w' : World} (h : Below w.heap.size w w') {k : Nat} {o : Obj} (hk : w.heap[k]? = some o) : w'.heap[k]? = some o := (h.block k (Array.getElem?_eq_some_iff.1 hk).1).trans hk
end

section
open Go.RowKit
def setRange (listed : Array Bool) (i : Nat) : Nat → Array Bool
  | 0 => listed
  | n + 1 => setRange (listed.setIfInBounds i true) (i + 1) n
def okReadsB (l : List Oper) : Nat → Nat → Array Bool → Bool
  | 0, _, _ => true
  | n + 1, i, listed => (Region.ready .any l.toArray listed).contains i && Region.free .any l.toArray listed i && ((l[i]?).map valOp).getD false && okReadsB l n (i + 1) (listed.setIfInBounds i true)
def closedB (l : List Oper) (listed : Array Bool) : Bool :=
  (List.range l.length).all fun j => !listed.getD j false || ((l[j]?).map fun o => o.after.all fun e => !Region.binds .any e || listed.getD e.on false).getD true
section
variable {P : Program} {l : List Oper} {S : World → Prop} {Q : Exit → Act → World → Prop}
theorem closed_of {listed : Array Bool} (h : closedB l listed = true) : Closed l listed := by
  intro j o ho hl e he hb
  unfold closedB at h
  rw [List.all_eq_true] at h
  have hlt : j < l.length := by
    have := (Array.getElem?_eq_some_iff.1 ho).1
    simpa using this
  have := h j (List.mem_range.2 hlt)
  have ho' : l[j]? = some o := by simpa using ho
  simp only [hl, Bool.not_true, Bool.false_or, ho', Option.map_some, Option.getD_some] at this
  have := (Array.all_eq_true'.1 this) e he
  simpa [hb] using this
theorem okReads_of : ∀ (n i : Nat) (listed : Array Bool), okReadsB l n i listed = true → okReads l n i listed = some (setRange listed i n) := by
  intro n
  induction n with
  | zero => intro i listed _; rfl
  | succ n ih =>
    intro i listed h
    simp only [okReadsB, Bool.and_eq_true] at h
    obtain ⟨⟨⟨h1, h2⟩, h3⟩, h4⟩ := h
    simp only [okReads, setRange]
    rw [if_pos (by simp only [Bool.and_eq_true]; exact ⟨⟨h1, h2⟩, h3⟩)]
    exact ih _ _ h4
theorem z_start {id : Nat} {a : Act} {w : World} (S : World → Prop) (hm : P.follows .mixedOrders = true)
    (h : wpAnyZ P l (NoPanic Q) S l.length (Array.replicate l.length false) a w.drew) : (Code.region id l.toArray true).wp P Q a w := by
  refine wp_region_noPanic (wp_region_any hm ?_)
  have := wpAny_of_Z _ _ _ _ h
  simpa using this
theorem z_reads {fuel : Nat} {listed : Array Bool} {a : Act} {w : World} (i n : Nat) (hok : (okReadsB l n i listed && closedB l listed && Region.noSelect l.toArray) = true) (hS : S w)
    (h : wpQuiet P l.toArray S (fun a' => wpAnyZ P l (NoPanic Q) S fuel (setRange listed i n) a' w) ((l.drop i).take n) a) : wpAnyZ P l (NoPanic Q) S (fuel + n) listed a w := by
  simp only [Bool.and_eq_true] at hok
  exact reads_first hok.2 (fun _ _ _ hp => hp) fuel w hS _ n i listed _ a (closed_of hok.1.2) (okReads_of n i listed hok.1.1) (fun _ a' ha' => ha') h
theorem z_one {fuel : Nat} {listed : Array Bool} {a : Act} {w : World} (e : Nat) (hr : (Region.ready .any l.toArray listed == [e]) = true)
    (h : wpOp P l.toArray (NoPanic Q) e (fun a' w' => (aloneB l e = true ∨ S w') ∧ wpAnyZ P l (NoPanic Q) S fuel (listed.setIfInBounds e true) a' w') a w) : wpAnyZ P l (NoPanic Q) S (fuel + 1) listed a w := by
  have hr := eq_of_beq hr
  refine ⟨fun h0 => ?_, fun i hi => ?_⟩
  · rw [hr] at h0; cases h0
  · rw [hr, List.mem_singleton] at hi
    subst hi
    exact h
theorem z_two {fuel : Nat} {listed : Array Bool} {a : Act} {w : World} (e e' : Nat) (hr : (Region.ready .any l.toArray listed == [e, e']) = true)
    (h : wpOp P l.toArray (NoPanic Q) e (fun a' w' => (aloneB l e = true ∨ S w') ∧ wpAnyZ P l (NoPanic Q) S fuel (listed.setIfInBounds e true) a' w') a w)
    (h' : wpOp P l.toArray (NoPanic Q) e' (fun a' w' => (aloneB l e' = true ∨ S w') ∧ wpAnyZ P l (NoPanic Q) S fuel (listed.setIfInBounds e' true) a' w') a w) : wpAnyZ P l (NoPanic Q) S (fuel + 1) listed a w := by
  have hr := eq_of_beq hr
  refine ⟨fun h0 => ?_, fun i hi => ?_⟩
  · rw [hr] at h0; cases h0
  · rw [hr] at hi
    rcases List.mem_cons.1 hi with rfl | hi
    · exact h
    · rw [List.mem_singleton] at hi
      subst hi
      exact h'
theorem z_done {listed : Array Bool} {a : Act} {w : World} (hr : (Region.ready .any l.toArray listed == []) = true) (h : Q .normal a w) : wpAnyZ P l (NoPanic Q) S 0 listed a w := ⟨eq_of_beq hr, h⟩
end
end
end Go.Proofs.YtfpbfdkjcmlimaaGreat
