/-
  Tile: sets of numbers, all blocks but one, all blocks.
-/
import Derived.Test.YtblhmdhfhaencaaGreatTD
import Derived.Deep.DeepCutAuto
namespace Go.Proofs.YtblhmdhfhaencaaGreat
set_option linter.unusedSimpArgs false
set_option linter.unusedVariables false
open Go.RowKit

theorem size_set : (Tryz.prog.info? 124).map (·.size) = some 200 := by kernel_rfl
theorem zero_set : Tryz.zeroCells124 = setA fun _ => false := by kernel_rfl
def SetPost (w : World) (f : Nat → Bool) (e : Ending) (w' : World) : Prop := e = .returned (.agg (setA f)) ∧ Below w.heap.size w w'
/-- the result of a function whose result is a set, in a variable of its own -/
theorem load_set {W : World} {g : Nat} {f : Nat → Bool} (hg : W.heap[g]? = some (setO f)) : (loadVar 124 ⟨g, 0, none⟩).run Tryz.prog W = .ok (.agg (setA f)) W :=
  run_loadVar_row (P := Tryz.prog) W g 124 124 _ (0, 0) _ hg Tryz.underlying124 rfl (by rw [setA_size]; exact size_set)
theorem set_put {W : World} {g : Nat} {f : Nat → Bool} (hg : W.heap[g]? = some (setO f)) (j : Nat) (hj : j < 200) (b : Bool) : (W.setCell ⟨g, j, none⟩ (.bool b)).heap[g]? = some (setO fun k => if k = j then b else f k) := by
  rw [heap_setCell_same _ _ _ _ _ _ hg, setA_put _ _ hj]
theorem set_cell {W : World} {g : Nat} {f : Nat → Bool} (hg : W.heap[g]? = some (setO f)) (j : Nat) (hj : j < 200) : W.cell? ⟨g, j, none⟩ = some (.bool (f j)) := by rw [cell_of_row _ _ _ _ _ _ hg, setA_at _ _ hj]
theorem set_free {W : World} {g : Nat} {f : Nat → Bool} (hg : W.heap[g]? = some (setO f)) (j : Nat) : W.frozen? ⟨g, j, none⟩ = false := frozen_of_row _ _ _ _ _ hg
theorem lt_of_heap {W : World} {g : Nat} {o : Obj} (h : W.heap[g]? = some o) : g < W.heap.size := (Array.getElem?_eq_some_iff.1 h).1
theorem lessS_put (f : Nat → Bool) (b : Nat) : (fun k => if k = b then false else f k) = lessS f b := by
  funext k
  by_cases e : k = b <;> simp [lessS, e]
set_option maxRecDepth 100000 in
set_option maxHeartbeats 1000000 in
theorem less_any (f : Nat → Bool) (b : Nat) (hb : b < 200) (w : World) : Calls Tryz.prog 131 #[.agg (setA f), .int .i64 (b : Int)] w (SetPost w (lessS f b)) := by
  go_enter Tryz.func131, Tryz.ntmps131
  go_upto_region 1 with (fail)
  obtain ⟨W, hW⟩ : ∃ W, W = (w.alloc (setO f)).alloc (.cells Tryz.zeroCells124 124) := ⟨_, rfl⟩
  rw [← hW]
  have hs : W.heap[w.heap.size]? = some (setO f) := by rw [hW, Below.heap_alloc _ _ _ (by simp)]; exact heap_alloc_new _ _
  have hr : W.heap[w.heap.size + 1]? = some (setO fun _ => false) := by rw [hW, heap_at _ _ _ (by simp), zero_set]
  have hB : Below w.heap.size w W := by rw [hW]; exact (ext_alloc _ _).alloc (by simp) _
  have HW := Lib.hid hW
  clear hW
  have hc := set_cell hs b hb
  have hf := set_free hs b
  have hs2 := set_put hs b hb false
  rw [lessS_put] at hs2
  have hr2 := (grown_row (grown_setCell W w.heap.size b (.bool false)) hr (by simp))
  have hB2 := hB.setCell (p := ⟨w.heap.size, b, none⟩) (Nat.le_refl _) (.bool false)
  have HS2 := Lib.hid hs2
  have HR2 := Lib.hid hr2
  have HB2 := Lib.hid hB2
  have hl := lt_of_heap hs
  clear hs hr hB hs2 hr2 hB2
  go_wp2_with (first
    | (refine wpList_load_row rfl 124 _ rfl w.heap.size rfl 124 _ (0, 0) _ HS2.out Tryz.underlying124 rfl (by rw [setA_size]; exact size_set) ?_)
    | (refine wpList_store_row rfl 124 _ _ rfl (w.heap.size + 1) (setA (lessS f b)) rfl rfl 124 _ HR2.out (by rw [setA_size]; exact size_set) rfl (setA_all _) ?_))
  exact bodyPost_ret (v := .agg (setA (lessS f b))) (by simp [results, Tryz.results131, asAddr, Act.put, load_set (setRow_heap _ _ _ _ _ _ HR2.out)]) rfl ⟨rfl, below_setRow HB2.out (by omega) _⟩

theorem ofS_put (xs : List Int) (k : Nat) (hk : k < xs.length) (h0 : 0 ≤ xs.getD k 0) (h1 : xs.getD k 0 < 200) : (fun j => if j = (xs.getD k 0).toNat then true else ofS (xs.take k) j) = ofS (xs.take (k + 1)) := by
  funext j
  rw [takeS xs k 0 hk, ofS, ofS, List.contains_append]
  generalize xs.getD k 0 = x at h0 h1
  by_cases e : j = x.toNat
  · subst e
    have h3 : ((x.toNat : Nat) : Int) = x := Int.toNat_of_nonneg h0
    have h4 : x.toNat < 200 := by omega
    simp [h3, h4]
  · have e2 : ¬ (j : Int) = x := by omega
    simp [e, e2]
theorem ofS_skip (xs : List Int) (k : Nat) (hk : k < xs.length) (h : xs.getD k 0 < 0 ∨ 200 ≤ xs.getD k 0) : ofS (xs.take k) = ofS (xs.take (k + 1)) := by
  funext j
  rw [takeS xs k 0 hk, ofS, ofS, List.contains_append]
  generalize xs.getD k 0 = x at h
  by_cases hj : j < 200
  · have e2 : ¬ (j : Int) = x := by omega
    simp [e2]
  · simp [hj]
theorem store_to {W : World} {g : Nat} {f h : Nat → Bool} {j : Nat} {b : Bool} (hg : W.heap[g]? = some (setO f)) (hj : j < 200) (e : (fun k => if k = j then b else f k) = h) : (W.setCell ⟨g, j, none⟩ (.bool b)).heap[g]? = some (setO h) := by rw [← e]; exact set_put hg j hj b
set_option maxRecDepth 100000 in
set_option maxHeartbeats 1000000 in
theorem of_any (a : Option Addr) (n c : Nat) (xs : List Int) (w : World) (h : Ints w a n xs) : Calls Tryz.prog 102 #[.slice a n c] w (SetPost w (ofS xs)) := by
  have HL := Lib.hid h.1
  have hn := h.2.1
  have H := Lib.hid h
  clear h
  go_enter Tryz.func102, Tryz.ntmps102
  go_wp2
  go_loopw [4, 7] (fun _ i wr => ∃ (k : Nat), k ≤ n ∧ i = .int .i64 k ∧ Hid (wr.heap[w.heap.size]? = some (setO (ofS (xs.take k)))) ∧ Hid (Below w.heap.size w wr)) (fun _ i _ => n - (intOf i).toNat)
  case atStart => exact ⟨0, by omega, rfl, by rw [Hid, heap_alloc_new, zero_set]; congr 3; funext j; simp [ofS], ext_alloc _ _⟩
  case round =>
    obtain ⟨k, hk, rfl, HS, HB⟩ := hrel
    by_cases hlt : k < n
    · obtain ⟨b, o, rfl, hc, hw1, hw2⟩ := (H.out.ext HB.out).2.2 k hlt
      have hkx : k < xs.length := by rw [HL.out]; exact hlt
      by_cases h0 : 0 ≤ xs.getD k 0
      · by_cases h1 : xs.getD k 0 < 200
        · have hx : (xs.getD k 0).toNat < 200 := by omega
          have hcell := set_cell HS.out _ hx
          have hfr := set_free HS.out (xs.getD k 0).toNat
          have HS2 := Lib.hid (store_to HS.out hx (ofS_put xs k hkx h0 h1))
          have hl := lt_of_heap HS.out
          generalize xs.getD k 0 = x at *
          generalize ofS (xs.take k) x.toNat = bb at *
          go_wp2
          go_roundw
          case rel => exact ⟨k + 1, by omega, by go_num, HS2, HB.out.setCell (Nat.le_refl _) _⟩
          case measure => simp [intOf]; omega
        · have HS2 : Hid (wr.heap[w.heap.size]? = some (setO (ofS (xs.take (k + 1))))) := by rw [Hid, ← ofS_skip xs k hkx (.inr (by omega))]; exact HS.out
          generalize xs.getD k 0 = x at *
          go_wp2
          go_roundw
          case rel => exact ⟨k + 1, by omega, by go_num, HS2, HB⟩
          case measure => simp [intOf]; omega
      · have HS2 : Hid (wr.heap[w.heap.size]? = some (setO (ofS (xs.take (k + 1))))) := by rw [Hid, ← ofS_skip xs k hkx (.inl (by omega))]; exact HS.out
        generalize xs.getD k 0 = x at *
        go_wp2
        go_roundw
        case rel => exact ⟨k + 1, by omega, by go_num, HS2, HB⟩
        case measure => simp [intOf]; omega
    · have HT : Hid (xs.take k = xs) := List.take_of_length_le (by rw [HL.out]; omega)
      have HSx : Hid (wr.heap[w.heap.size]? = some (setO (ofS xs))) := by have := HS.out; rwa [HT.out] at this
      go_wp2_with (first
        | (refine wpList_load_row rfl 124 _ rfl w.heap.size rfl 124 _ (0, 0) _ HSx.out Tryz.underlying124 rfl (by rw [setA_size]; exact size_set) ?_)
        | (refine wpList_store_row rfl 124 _ _ rfl w.heap.size (setA (ofS xs)) rfl rfl 124 _ HSx.out (by rw [setA_size]; exact size_set) rfl (setA_all _) ?_))
      exact bodyPost_ret (v := .agg (setA (ofS xs))) (by simp [results, Tryz.results102, asAddr, Act.put, load_set (setRow_heap _ _ _ _ _ _ HSx.out)]) rfl ⟨rfl, below_setRow HB.out (by omega) _⟩

/-! ### walkers -/
/-- a slice of slices of ints -/
def NRows (w : World) (a : Option Addr) (n : Nat) (L : List (List Nat)) : Prop :=
  L.length = n ∧ n ≤ 1000 ∧ ∀ k xs, L[k]? = some xs → ∃ b o ra rc, a = some ⟨b, o, none⟩ ∧ w.cell? ⟨b, o + k, none⟩ = some (.slice ra xs.length rc) ∧ Ints w ra xs.length (intsN xs)
theorem NRows.ext {w w' : World} {a : Option Addr} {n : Nat} {L : List (List Nat)} (h : NRows w a n L) (hb : Below w.heap.size w w') : NRows w' a n L :=
  ⟨h.1, h.2.1, fun k xs hx => by
    obtain ⟨b, o, ra, rc, e, hc, hi⟩ := h.2.2 k xs hx
    exact ⟨b, o, ra, rc, e, cell_ext hb hc, hi.ext hb⟩⟩
/-- how a walker is handed over -/
structure WalkD where
  pa : Option Addr
  pn : Nat
  pc : Nat
  ba : Option Addr
  bn : Nat
  bc : Nat
  ta : Option Addr
  tc : Nat
  fa : Option Addr
  fc : Nat
abbrev walkV (d : WalkD) : Value := .agg #[.slice d.pa d.pn d.pc, .slice d.ba d.bn d.bc, .slice d.ta d.bn d.tc, .slice d.fa d.bn d.fc]
abbrev walkO (d : WalkD) : Obj := .cells #[.slice d.pa d.pn d.pc, .slice d.ba d.bn d.bc, .slice d.ta d.bn d.tc, .slice d.fa d.bn d.fc] 116
/-- the rows of ways on, of ways back -/
def toRows (ts : List TermD) : List (List Nat) := (List.range ts.length).map (nx ts)
def fromRows (ts : List TermD) : List (List Nat) := (List.range ts.length).map (pv ts)
def WalkOK (w : World) (d : WalkD) (ts : List TermD) : Prop := ts.length = d.bn ∧ d.bn ≤ 200 ∧ NRows w d.ta d.bn (toRows ts) ∧ NRows w d.fa d.bn (fromRows ts)
theorem WalkOK.ext {w w' : World} {d : WalkD} {ts : List TermD} (h : WalkOK w d ts) (hb : Below w.heap.size w w') : WalkOK w' d ts := ⟨h.1, h.2.1, h.2.2.1.ext hb, h.2.2.2.ext hb⟩
set_option maxRecDepth 100000 in
set_option maxHeartbeats 1000000 in
theorem whole_any (d : WalkD) (hd : d.bn ≤ 200) (w : World) : Calls Tryz.prog 80 #[walkV d] w (SetPost w (wholeS d.bn)) := by
  go_enter Tryz.func80, Tryz.ntmps80
  go_wp2
  go_loopw [3, 8] (fun _ i wr => ∃ (k : Nat), k ≤ d.bn ∧ i = .int .i64 k ∧ Hid (wr.heap[w.heap.size + 1]? = some (setO (wholeS k))) ∧ Hid (Below w.heap.size w wr)) (fun _ i _ => d.bn - (intOf i).toNat)
  case atStart => exact ⟨0, by omega, rfl, by rw [Hid, heap_at _ _ _ (by simp), zero_set]; rfl, (ext_alloc _ _).alloc (by simp) _⟩
  case round =>
    obtain ⟨k, hk, rfl, HS, HB⟩ := hrel
    by_cases hlt : k < d.bn
    · have hcell := set_cell HS.out k (by omega)
      have hfr := set_free HS.out k
      have HS2 := Lib.hid (store_to (h := wholeS (k + 1)) (b := true) HS.out (show k < 200 by omega) (by funext j; by_cases e : j = k <;> simp [wholeS, e] <;> omega))
      have hl := lt_of_heap HS.out
      generalize wholeS k k = bb at *
      go_wp2
      go_roundw
      case rel => exact ⟨k + 1, by omega, by go_num, HS2, HB.out.setCell (by simp) _⟩
      case measure => simp [intOf]; omega
    · obtain rfl : k = d.bn := by omega
      go_wp2_with (first
        | (refine wpList_load_row rfl 124 _ rfl (w.heap.size + 1) rfl 124 _ (0, 0) _ HS.out Tryz.underlying124 rfl (by rw [setA_size]; exact size_set) ?_)
        | (refine wpList_store_row rfl 124 _ _ rfl (w.heap.size + 1) (setA (wholeS d.bn)) rfl rfl 124 _ HS.out (by rw [setA_size]; exact size_set) rfl (setA_all _) ?_))
      exact bodyPost_ret (v := .agg (setA (wholeS d.bn))) (by simp [results, Tryz.results80, asAddr, Act.put, load_set (setRow_heap _ _ _ _ _ _ HS.out)]) rfl ⟨rfl, below_setRow HB.out (by omega) _⟩
end Go.Proofs.YtblhmdhfhaencaaGreat
