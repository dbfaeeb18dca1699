/-
  Flat: slices.IsSorted of ints, mach.of.
-/
import Derived.Test.YtfpbfdkjcmlimaaGreatFK
import Derived.Laws.Tables
import Derived.IntWalk
import Derived.Laws.CopyOwn
namespace Go.Proofs.YtfpbfdkjcmlimaaGreat
set_option linter.unusedSimpArgs false
set_option linter.unusedVariables false
set_option linter.unusedSectionVars false
set_option maxRecDepth 100000
set_option maxHeartbeats 40000000
section
open Go.RowKit
theorem quiet_leftF {P : Program} {f : FuncId} {args : Array Value} {w : World} {n : Nat} {v : Value}
    (h : Calls P f args (w.drewN n) fun e w' => e = .returned v ∧ w.drewN n = w') : Calls P f args (w.drewN n) fun e w'' => e = .returned v ∧ ∃ m, w'' = w.drewN m :=
  h.mono fun _ _ ⟨he, hm⟩ => ⟨he, n, hm.symm⟩
theorem less_any (x y : Int) (w : World) : Calls Tryz.prog 66 #[.int .i64 x, .int .i64 y] w fun e w' => e = .returned (.bool (decide (x < y))) ∧ w = w' := by
  have hx : (x != x) = false := by simp
  have hy : (y != y) = false := by simp
  go_enter Tryz.func66, Tryz.ntmps66
  go_wp2
  go_ret
  exact ⟨rfl, rfl⟩
def sortedB (xs : List Int) : Bool := decide (∀ i : Fin xs.length, ∀ j : Fin xs.length, i.val + 1 = j.val → xs[i] ≤ xs[j])
theorem sortedB_iff (xs : List Int) : sortedB xs = true ↔ ∀ i, i + 1 < xs.length → xs.getD i 0 ≤ xs.getD (i + 1) 0 := by
  rw [sortedB, decide_eq_true_eq]
  constructor
  · intro h i hi
    have := h ⟨i, by omega⟩ ⟨i + 1, hi⟩ rfl
    simpa [List.getD_eq_getElem?_getD, hi, show i < xs.length by omega] using this
  · intro h i j hij
    have := h i.val (by have := j.isLt; omega)
    have hj : i.val + 1 < xs.length := by have := j.isLt; omega
    have e : j = ⟨i.val + 1, hj⟩ := Fin.ext hij.symm
    subst e
    simpa [List.getD_eq_getElem?_getD, hj, show i.val < xs.length by omega] using this
theorem isSorted_any (a : Option Addr) (n c : Nat) (xs : List Int) (w : World) (h : Ints w a n xs) :
    Calls Tryz.prog 45 #[.slice a n c] w fun e w' => e = .returned (.bool (sortedB xs)) ∧ ∃ q, w' = w.drewN q := by
  have HL := Lib.hid h.1
  have hn := h.2.1
  have H := Lib.hid h
  clear h
  go_enter Tryz.func45, Tryz.ntmps45
  go_wp2
  go_loopw [3] (fun i wr => ∃ (k : Int), -1 ≤ k ∧ k < n ∧ i = .int .i64 k ∧ Hid (∀ j : Nat, k ≤ j → j + 1 < n → xs.getD j 0 ≤ xs.getD (j + 1) 0) ∧ Hid (∃ q, wr = w.drewN q)) (fun i _ => (intOf i + 1).toNat)
  case atStart => exact ⟨(n : Int) - 1, by omega, by omega, rfl, fun j h1 h2 => absurd h1 (by omega), ⟨0, rfl⟩⟩
  case round =>
    obtain ⟨k, hk, hkn, rfl, HR, HQ⟩ := hrel
    have HI : Hid (Ints wr a n xs) := by obtain ⟨q, e⟩ := HQ.out; rw [e]; exact H.out.drewN q
    by_cases hlt : 0 < k
    · obtain ⟨m, rfl⟩ : ∃ m : Nat, k = (m : Int) + 1 := ⟨(k - 1).toNat, by omega⟩
      obtain ⟨b, o, rfl, hc1, w1, w2⟩ := HI.out.2.2 (m + 1) (by omega)
      obtain ⟨b', o', e, hc0, w3, w4⟩ := HI.out.2.2 m (by omega)
      simp only [Option.some.injEq, Addr.mk.injEq, and_true] at e
      obtain ⟨rfl, rfl⟩ := e
      have e1 : ((m : Int) + 1).toNat = m + 1 := by omega
      have e2 : ((m : Int) + 1 - 1) = m := by omega
      have e3 : IntKind.i64.wrap ((m : Int) + 1 - 1) = m := by rw [e2]; exact IntWalk.i64_in _ (by omega)
      have e3b : IntKind.i64.wrap (m : Int) = m := IntWalk.i64_in _ (by omega)
      have e4 : 0 ≤ (m : Int) + 1 := by omega
      have e5 : (m : Int) < n := by omega
      have e6 : 0 ≤ (m : Int) := by omega
      by_cases hs : xs.getD (m + 1) 0 < xs.getD m 0
      · have hd : decide (xs.getD (m + 1) 0 < xs.getD m 0) = true := by simpa using hs
        have HE : Hid (sortedB xs = false) := by
          rw [Hid, Bool.eq_false_iff]
          intro h
          have := (sortedB_iff xs).1 h m (by rw [HL.out]; omega)
          omega
        generalize xs.getD (m + 1) 0 = x1 at *
        generalize xs.getD m 0 = x0 at *
        go_wp2
        go_quiet ((go_at_call 66; exact quiet_leftF (less_any _ _ _)))
        go_wp2
        go_ret
        obtain ⟨q, e⟩ := HQ.out
        exact ⟨by rw [HE.out]; rfl, _, by rw [e]; exact World.drewN_drewN _ _ _⟩
      · have hd : decide (xs.getD (m + 1) 0 < xs.getD m 0) = false := by simpa using hs
        have HE : Hid (∀ j : Nat, (m : Int) ≤ j → j + 1 < n → xs.getD j 0 ≤ xs.getD (j + 1) 0) := fun j h1 h2 => by
          by_cases e : j = m
          · subst e; omega
          · exact HR.out j (by omega) h2
        have hs' : xs.getD m 0 ≤ xs.getD (m + 1) 0 := by omega
        clear hs
        generalize hx1 : xs.getD (m + 1) 0 = x1 at hc1 w1 w2 hd hs'
        generalize hx0 : xs.getD m 0 = x0 at hc0 w3 w4 hd hs'
        clear hx1 hx0
        go_wp2
        go_quiet ((go_at_call 66; exact quiet_leftF (less_any _ _ _)))
        go_wp2
        go_roundw
        case rel =>
          obtain ⟨q, e⟩ := HQ.out
          exact ⟨m, by omega, by omega, rfl, HE, ⟨_, by rw [e]; exact World.drewN_drewN _ _ _⟩⟩
        case measure => simp [intOf]; omega
    · have HE : Hid (sortedB xs = true) := (sortedB_iff xs).2 (fun i hi => HR.out i (by omega) (by rw [← HL.out]; exact hi))
      go_wp2
      go_ret
      exact ⟨by rw [HE.out]; rfl, HQ.out⟩
def setA (f : Nat → Bool) : Array Value := ((List.range 64).map fun j => Value.bool (f j)).toArray
theorem setA_size (f : Nat → Bool) : (setA f).size = 64 := by simp [setA]
theorem setA_at (f : Nat → Bool) (j : Nat) (h : j < 64) : (setA f)[j]? = some (.bool (f j)) := by simp [setA, h]
theorem setA_set (f : Nat → Bool) (j : Nat) (h : j < 64) : (setA f).setIfInBounds j (.bool true) = setA (fun k => k == j || f k) := by
  apply Array.ext_getElem?
  intro k
  by_cases hk : k < 64
  · rw [Array.getElem?_setIfInBounds, setA_at f k hk, setA_at (fun k => k == j || f k) k hk]
    by_cases e : j = k
    · subst e; simp [setA_size, h]
    · have e' : (k == j) = false := by simpa using fun x => e x.symm
      rw [if_neg e, e']
      rfl
  · rw [Array.getElem?_eq_none (by simp [setA_size]; omega), Array.getElem?_eq_none (by simp [setA_size]; omega)]
theorem setA_all (f : Nat → Bool) : (setA f).all (·.oneCell') = true := by
  rw [Array.all_eq_true_iff_forall_mem]
  intro v hv
  simp [setA] at hv
  obtain ⟨j, _, rfl⟩ := hv
  rfl
def ofB (regs : Int) (l : List Int) : Bool := decide (∀ i : Fin l.length, 0 ≤ l[i] ∧ l[i] < regs ∧ l[i] ∉ l.take i)
theorem ofB_iff (regs : Int) (l : List Int) : ofB regs l = true ↔ ∀ k, k < l.length → 0 ≤ l.getD k 0 ∧ l.getD k 0 < regs ∧ l.getD k 0 ∉ l.take k := by
  rw [ofB, decide_eq_true_eq]
  constructor
  · intro h k hk
    have := h ⟨k, hk⟩
    simpa [List.getD_eq_getElem?_getD, hk] using this
  · intro h i
    have := h i.val i.isLt
    simpa [List.getD_eq_getElem?_getD, i.isLt] using this
def memF (l : List Int) (j : Nat) : Bool := l.contains (j : Int)
def OfPost (w : World) (regs : Int) (l : List Int) (e : Ending) (w' : World) : Prop := ∃ f, e = .returned (.tuple #[.agg (setA f), .bool (ofB regs l)]) ∧ (ofB regs l = true → f = memF l) ∧ Below w.heap.size w w'
theorem size_set : (Tryz.prog.info? 103).map (·.size) = some 64 := by kernel_rfl
theorem of_any5 (regs : Int) (hr : regs ≤ 64) (a : Option Addr) (n c : Nat) (xs : List Int) (w : World) (h : Ints w a n xs) :
    Calls Tryz.prog 46 #[.int .i64 regs, .slice a n c] w (OfPost w regs xs) := by
  have HL := Lib.hid h.1
  have hn := h.2.1
  have H := Lib.hid h
  clear h
  go_enter Tryz.func46, Tryz.ntmps46
  go_wp2
  go_loopw [7, 10] (fun _ i wr => ∃ (k : Nat), k ≤ n ∧ i = .int .i64 k ∧ Hid (wr.heap[w.heap.size]? = some (.cells (setA (memF (xs.take k))) 103 (0, 0))) ∧ Hid (∀ j, j < k → 0 ≤ xs.getD j 0 ∧ xs.getD j 0 < regs ∧ xs.getD j 0 ∉ xs.take j) ∧ Hid (Below w.heap.size w wr)) (fun _ i _ => n - (intOf i).toNat)
  case atStart => exact ⟨0, by omega, rfl, heap_alloc_new _ _, fun j hj => absurd hj (by omega), ext_alloc _ _⟩
  case round =>
    obtain ⟨k, hk, rfl, HS, HR, HB⟩ := hrel
    by_cases hlt : k < n
    · obtain ⟨b, o, rfl, hc, hw1, hw2⟩ := (H.out.ext HB.out).2.2 k hlt
      by_cases hgood : 0 ≤ xs.getD k 0 ∧ xs.getD k 0 < regs ∧ xs.getD k 0 ∉ xs.take k
      · have hx64 : (xs.getD k 0).toNat < 64 := by omega
        have h3 : ((xs.getD k 0).toNat : Int) = xs.getD k 0 := Int.toNat_of_nonneg hgood.1
        have hcell : wr.cell? ⟨w.heap.size, (xs.getD k 0).toNat, none⟩ = some (.bool false) := by
          rw [cell_of_row _ _ _ _ _ _ HS.out, setA_at _ _ hx64, memF, h3]
          simpa using hgood.2.2
        have hfr : wr.frozen? ⟨w.heap.size, (xs.getD k 0).toNat, none⟩ = false := frozen_of_row _ _ _ _ _ HS.out
        have HS2 : Hid ((wr.setCell ⟨w.heap.size, (xs.getD k 0).toNat, none⟩ (.bool true)).heap[w.heap.size]? = some (.cells (setA (memF (xs.take (k + 1)))) 103 (0, 0))) := by
          rw [Hid, heap_setCell_same _ _ _ _ _ _ HS.out, setA_set _ _ hx64]
          congr 3
          funext j
          rw [takeS xs k 0 (by rw [HL.out]; exact hlt), memF, memF, List.contains_append, Bool.or_comm]
          congr 1
          generalize xs.getD k 0 = x at h3 ⊢
          by_cases e : j = x.toNat
          · subst e; simp [h3]
          · have e2 : ¬ (j : Int) = x := by omega
            simp [e, e2]
        have HR2 : Hid (∀ j, j < k + 1 → 0 ≤ xs.getD j 0 ∧ xs.getD j 0 < regs ∧ xs.getD j 0 ∉ xs.take j) := fun j hj => by
          by_cases e : j = k
          · subst e; exact hgood
          · exact HR.out j (by omega)
        obtain ⟨g1, g2, -⟩ := hgood
        clear h3
        generalize xs.getD k 0 = x at *
        go_wp2
        go_roundw
        case rel => exact ⟨k + 1, by omega, by go_num, HS2, HR2, HB.out.setCell (Nat.le_refl _) _⟩
        case measure => simp [intOf]; omega
      · have HE : Hid (ofB regs xs = false) := by
          rw [Hid, Bool.eq_false_iff]
          intro hh
          exact hgood ((ofB_iff regs xs).1 hh k (by rw [HL.out]; exact hlt))
        have hcell : 0 ≤ xs.getD k 0 → xs.getD k 0 < regs → wr.cell? ⟨w.heap.size, (xs.getD k 0).toNat, none⟩ = some (.bool true) := fun h1 h2 => by
          rw [cell_of_row _ _ _ _ _ _ HS.out, setA_at _ _ (by omega)]
          have : xs.getD k 0 ∈ xs.take k := by
            by_cases hm : xs.getD k 0 ∈ xs.take k
            · exact hm
            · exact absurd ⟨h1, h2, hm⟩ hgood
          have h3 : ((xs.getD k 0).toNat : Int) = xs.getD k 0 := Int.toNat_of_nonneg h1
          rw [memF, h3]
          simpa using this
        clear hgood
        generalize xs.getD k 0 = x at *
        go_wp2_with (first
          | (refine wpList_load_row rfl 103 _ rfl w.heap.size rfl 103 _ (0, 0) _ HS.out Tryz.underlying103 rfl (by rw [setA_size]; exact size_set) ?_)
          | (refine wpList_store_row rfl 103 _ _ rfl w.heap.size (setA (memF (xs.take k))) rfl rfl 103 _ HS.out (by rw [setA_size]; exact size_set) rfl (setA_all _) ?_))
        all_goals
          refine bodyPost_ret (v := .tuple #[.agg (setA (memF (xs.take k))), .bool false]) ?_ rfl ⟨_, by rw [HE.out], (fun h => by rw [HE.out] at h; cases h), below_setRow HB.out (Nat.le_refl _) _⟩
          have hl := run_loadVar_row (P := Tryz.prog) (wr.setRow w.heap.size (setA (memF (xs.take k)))) w.heap.size 103 103 _ (0, 0) _ (setRow_heap _ _ _ _ _ _ HS.out) Tryz.underlying103 rfl (by rw [setA_size]; exact size_set)
          simp [results, Tryz.results46, asAddr, hl]
    · obtain rfl : k = n := by omega
      have HE : Hid (ofB regs xs = true) := (ofB_iff regs xs).2 (fun j hj => HR.out j (by rw [HL.out] at hj; exact hj))
      have HT : Hid (xs.take k = xs) := List.take_of_length_le (by rw [HL.out]; omega)
      go_wp2_with (first
        | (refine wpList_load_row rfl 103 _ rfl w.heap.size rfl 103 _ (0, 0) _ HS.out Tryz.underlying103 rfl (by rw [setA_size]; exact size_set) ?_)
        | (refine wpList_store_row rfl 103 _ _ rfl w.heap.size (setA (memF (xs.take k))) rfl rfl 103 _ HS.out (by rw [setA_size]; exact size_set) rfl (setA_all _) ?_))
      refine bodyPost_ret (v := .tuple #[.agg (setA (memF (xs.take k))), .bool true]) ?_ rfl ⟨_, by rw [HE.out], (fun _ => by rw [HT.out]), below_setRow HB.out (Nat.le_refl _) _⟩
      have hl := run_loadVar_row (P := Tryz.prog) (wr.setRow w.heap.size (setA (memF (xs.take k)))) w.heap.size 103 103 _ (0, 0) _ (setRow_heap _ _ _ _ _ _ HS.out) Tryz.underlying103 rfl (by rw [setA_size]; exact size_set)
      simp [results, Tryz.results46, asAddr, hl]
end
end Go.Proofs.YtfpbfdkjcmlimaaGreat
