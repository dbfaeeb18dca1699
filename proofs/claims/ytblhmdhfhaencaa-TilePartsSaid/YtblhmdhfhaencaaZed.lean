/-
 Tile: sets of numbers, all blocks but one, all blocks.
-/
import Derived.Test.YtblhmdhfhaencaaTD
import Derived.Deep.DeepCutAuto
import Derived.Deep.LoopGhost
import Derived.Test.YtblhmdhfhaencaaRecs
namespace Go.Proofs.Ytblhmdhfhaencaa
set_option linter.unusedSimpArgs false
set_option linter.unusedVariables false
set_option linter.unusedSectionVars false
set_option maxRecDepth 100000
set_option maxHeartbeats 40000000
section
open Go.RowKit

theorem size_set : (Try.prog.info? 78).map (·.size) = some 200 := by kernel_rfl
theorem zero_set : Try.zeroCells78 = setA fun _ => false := by kernel_rfl
def SetPost (w : World) (f : Nat → Bool) (e : Ending) (w' : World) : Prop := e = .returned (.agg (setA f)) ∧ Below w.heap.size w w'
/-- the result of a function whose result is a set, in a variable of its own -/
theorem load_set {W : World} {g : Nat} {f : Nat → Bool} (hg : W.heap[g]? = some (setO f)) : (loadVar 78 ⟨g, 0, none⟩).run Try.prog W = .ok (.agg (setA f)) W :=
 run_loadVar_row (P := Try.prog) W g 78 78 _ (0, 0) _ hg Try.underlying78 rfl (by rw [setA_size]; exact size_set)
theorem set_put {W : World} {g : Nat} {f : Nat → Bool} (hg : W.heap[g]? = some (setO f)) (j : Nat) (hj : j < 200) (b : Bool) : (W.setCell ⟨g, j, none⟩ (.bool b)).heap[g]? = some (setO fun k => if k = j then b else f k) := by
 rw [heap_setCell_same _ _ _ _ _ _ hg, setA_put _ _ hj]
theorem set_cell {W : World} {g : Nat} {f : Nat → Bool} (hg : W.heap[g]? = some (setO f)) (j : Nat) (hj : j < 200) : W.cell? ⟨g, j, none⟩ = some (.bool (f j)) := by rw [cell_of_row _ _ _ _ _ _ hg, setA_at _ _ hj]
theorem set_free {W : World} {g : Nat} {f : Nat → Bool} (hg : W.heap[g]? = some (setO f)) (j : Nat) : W.frozen? ⟨g, j, none⟩ = false := frozen_of_row _ _ _ _ _ hg
theorem lt_of_heap {W : World} {g : Nat} {o : Obj} (h : W.heap[g]? = some o) : g < W.heap.size := (Array.getElem?_eq_some_iff.1 h).1
theorem lessS_put (f : Nat → Bool) (b : Nat) : (fun k => if k = b then false else f k) = lessS f b := by
 funext k
 by_cases e : k = b <;> simp [lessS, e]
theorem less_any (f : Nat → Bool) (b : Nat) (hb : b < 200) (w : World) : Calls Try.prog 73 #[.agg (setA f), .int .i64 (b : Int)] w (SetPost w (lessS f b)) := by
 go_enter Try.func73, Try.ntmps73
 go_upto_region 1 with (fail)
 obtain ⟨W, hW⟩ : ∃ W, W = (w.alloc (setO f)).alloc (.cells Try.zeroCells78 78) := ⟨_, rfl⟩
 rw [← hW]
 have hs : W.heap[w.heap.size]? = some (setO f) := by rw [hW, Below.heap_alloc _ _ _ (by simp)]; exact heap_alloc_new _ _
 have hr : W.heap[w.heap.size + 1]? = some (setO fun _ => false) := by rw [hW, heap_at _ _ _ (by simp), zero_set]
 have hB : Below w.heap.size w W := by rw [hW]; exact (ext_alloc _ _).alloc (by simp) _
 have HW := Lib.hid hW
 clear hW
 have hc := set_cell hs b hb
 have hf := set_free hs b
 have hs2 := set_put hs b hb false
 rw [lessS_put] at hs2
 have hr2 := (grown_row (grown_setCell W w.heap.size b (.bool false)) hr (by simp))
 have hB2 := hB.setCell (p := ⟨w.heap.size, b, none⟩) (Nat.le_refl _) (.bool false)
 have HS2 := Lib.hid hs2
 have HR2 := Lib.hid hr2
 have HB2 := Lib.hid hB2
 have hl := lt_of_heap hs
 clear hs hr hB hs2 hr2 hB2
 go_wp2_with (first
  | (refine wpList_load_row rfl 78 _ rfl w.heap.size rfl 78 _ (0, 0) _ HS2.out Try.underlying78 rfl (by rw [setA_size]; exact size_set) ?_)
  | (refine wpList_store_row rfl 78 _ _ rfl (w.heap.size + 1) (setA (lessS f b)) rfl rfl 78 _ HR2.out (by rw [setA_size]; exact size_set) rfl (setA_all _) ?_))
 exact bodyPost_ret (v := .agg (setA (lessS f b))) (by simp [results, Try.results73, asAddr, Act.put, load_set (setRow_heap _ _ _ _ _ _ HR2.out)]) rfl ⟨rfl, below_setRow HB2.out (by omega) _⟩

theorem ofS_put (xs : List Int) (k : Nat) (hk : k < xs.length) (h0 : 0 ≤ xs.getD k 0) (h1 : xs.getD k 0 < 200) : (fun j => if j = (xs.getD k 0).toNat then true else ofS (xs.take k) j) = ofS (xs.take (k + 1)) := by
 funext j
 rw [takeS xs k 0 hk, ofS, ofS, List.contains_append]
 generalize xs.getD k 0 = x at h0 h1
 by_cases e : j = x.toNat
 · subst e
   have h3 : ((x.toNat : Nat) : Int) = x := Int.toNat_of_nonneg h0
   have h4 : x.toNat < 200 := by omega
   simp [h3, h4]
 · have e2 : ¬ (j : Int) = x := by omega
   simp [e, e2]
theorem ofS_skip (xs : List Int) (k : Nat) (hk : k < xs.length) (h : xs.getD k 0 < 0 ∨ 200 ≤ xs.getD k 0) : ofS (xs.take k) = ofS (xs.take (k + 1)) := by
 funext j
 rw [takeS xs k 0 hk, ofS, ofS, List.contains_append]
 generalize xs.getD k 0 = x at h
 by_cases hj : j < 200
 · have e2 : ¬ (j : Int) = x := by omega
   simp [e2]
 · simp [hj]
theorem store_to {W : World} {g : Nat} {f h : Nat → Bool} {j : Nat} {b : Bool} (hg : W.heap[g]? = some (setO f)) (hj : j < 200) (e : (fun k => if k = j then b else f k) = h) : (W.setCell ⟨g, j, none⟩ (.bool b)).heap[g]? = some (setO h) := by rw [← e]; exact set_put hg j hj b
theorem of_any (a : Option Addr) (n c : Nat) (xs : List Int) (w : World) (h : Ints w a n xs) : Calls Try.prog 38 #[.slice a n c] w (SetPost w (ofS xs)) := by
 have HL := Lib.hid h.1
 have hn := h.2.1
 have H := Lib.hid h
 clear h
 go_enter Try.func38, Try.ntmps38
 go_wp2
 go_loopw [4, 7] (fun _ i wr => ∃ (k : Nat), k ≤ n ∧ i = .int .i64 k ∧ Hid (wr.heap[w.heap.size]? = some (setO (ofS (xs.take k)))) ∧ Hid (Below w.heap.size w wr)) (fun _ i _ => n - (intOf i).toNat)
 case atStart => exact ⟨0, by omega, rfl, by rw [Hid, heap_alloc_new, zero_set]; congr 3; funext j; simp [ofS], ext_alloc _ _⟩
 case round =>
  obtain ⟨k, hk, rfl, HS, HB⟩ := hrel
  by_cases hlt : k < n
  · obtain ⟨b, o, rfl, hc, hw1, hw2⟩ := (H.out.ext HB.out).2.2 k hlt
    have hkx : k < xs.length := by rw [HL.out]; exact hlt
    by_cases h0 : 0 ≤ xs.getD k 0
    · by_cases h1 : xs.getD k 0 < 200
      · have hx : (xs.getD k 0).toNat < 200 := by omega
        have hcell := set_cell HS.out _ hx
        have hfr := set_free HS.out (xs.getD k 0).toNat
        have HS2 := Lib.hid (store_to HS.out hx (ofS_put xs k hkx h0 h1))
        have hl := lt_of_heap HS.out
        generalize xs.getD k 0 = x at *
        generalize ofS (xs.take k) x.toNat = bb at *
        go_wp2
        go_roundw
        case rel => exact ⟨k + 1, by omega, by go_num, HS2, HB.out.setCell (Nat.le_refl _) _⟩
        case measure => simp [intOf]; omega
      · have HS2 : Hid (wr.heap[w.heap.size]? = some (setO (ofS (xs.take (k + 1))))) := by rw [Hid, ← ofS_skip xs k hkx (.inr (by omega))]; exact HS.out
        generalize xs.getD k 0 = x at *
        go_wp2
        go_roundw
        case rel => exact ⟨k + 1, by omega, by go_num, HS2, HB⟩
        case measure => simp [intOf]; omega
    · have HS2 : Hid (wr.heap[w.heap.size]? = some (setO (ofS (xs.take (k + 1))))) := by rw [Hid, ← ofS_skip xs k hkx (.inl (by omega))]; exact HS.out
      generalize xs.getD k 0 = x at *
      go_wp2
      go_roundw
      case rel => exact ⟨k + 1, by omega, by go_num, HS2, HB⟩
      case measure => simp [intOf]; omega
  · have HT : Hid (xs.take k = xs) := List.take_of_length_le (by rw [HL.out]; omega)
    have HSx : Hid (wr.heap[w.heap.size]? = some (setO (ofS xs))) := by have := HS.out; rwa [HT.out] at this
    go_wp2_with (first
     | (refine wpList_load_row rfl 78 _ rfl w.heap.size rfl 78 _ (0, 0) _ HSx.out Try.underlying78 rfl (by rw [setA_size]; exact size_set) ?_)
     | (refine wpList_store_row rfl 78 _ _ rfl w.heap.size (setA (ofS xs)) rfl rfl 78 _ HSx.out (by rw [setA_size]; exact size_set) rfl (setA_all _) ?_))
    exact bodyPost_ret (v := .agg (setA (ofS xs))) (by simp [results, Try.results38, asAddr, Act.put, load_set (setRow_heap _ _ _ _ _ _ HSx.out)]) rfl ⟨rfl, below_setRow HB.out (by omega) _⟩

/-! ### walkers -/
/-- a slice of slices of ints -/
def NRows (w : World) (a : Option Addr) (n : Nat) (L : List (List Nat)) : Prop :=
 L.length = n ∧ n ≤ 1000 ∧ ∀ k xs, L[k]? = some xs → ∃ b o ra rc, a = some ⟨b, o, none⟩ ∧ w.cell? ⟨b, o + k, none⟩ = some (.slice ra xs.length rc) ∧ Ints w ra xs.length (intsN xs)
theorem NRows.ext {w w' : World} {a : Option Addr} {n : Nat} {L : List (List Nat)} (h : NRows w a n L) (hb : Below w.heap.size w w') : NRows w' a n L :=
 ⟨h.1, h.2.1, fun k xs hx => by
  obtain ⟨b, o, ra, rc, e, hc, hi⟩ := h.2.2 k xs hx
  exact ⟨b, o, ra, rc, e, cell_ext hb hc, hi.ext hb⟩⟩
/-- how a walker is handed over -/
structure WalkD where
 pa : Option Addr
 pn : Nat
 pc : Nat
 ba : Option Addr
 bn : Nat
 bc : Nat
 ta : Option Addr
 tc : Nat
 fa : Option Addr
 fc : Nat
abbrev walkV (d : WalkD) : Value := .agg #[.slice d.pa d.pn d.pc, .slice d.ba d.bn d.bc, .slice d.ta d.bn d.tc, .slice d.fa d.bn d.fc]
abbrev walkO (d : WalkD) : Obj := .cells #[.slice d.pa d.pn d.pc, .slice d.ba d.bn d.bc, .slice d.ta d.bn d.tc, .slice d.fa d.bn d.fc] 70
/-- the rows of ways on, of ways back -/
def toRows (ts : List TermD) : List (List Nat) := (List.range ts.length).map (nx ts)
def fromRows (ts : List TermD) : List (List Nat) := (List.range ts.length).map (pv ts)
def WalkOK (w : World) (d : WalkD) (ts : List TermD) : Prop := ts.length = d.bn ∧ d.bn ≤ 200 ∧ NRows w d.ta d.bn (toRows ts) ∧ NRows w d.fa d.bn (fromRows ts)
theorem WalkOK.ext {w w' : World} {d : WalkD} {ts : List TermD} (h : WalkOK w d ts) (hb : Below w.heap.size w w') : WalkOK w' d ts := ⟨h.1, h.2.1, h.2.2.1.ext hb, h.2.2.2.ext hb⟩
theorem whole_any (d : WalkD) (hd : d.bn ≤ 200) (w : World) : Calls Try.prog 51 #[walkV d] w (SetPost w (wholeS d.bn)) := by
 go_enter Try.func51, Try.ntmps51
 go_wp2
 go_loopw [3, 8] (fun _ i wr => ∃ (k : Nat), k ≤ d.bn ∧ i = .int .i64 k ∧ Hid (wr.heap[w.heap.size + 1]? = some (setO (wholeS k))) ∧ Hid (Below w.heap.size w wr)) (fun _ i _ => d.bn - (intOf i).toNat)
 case atStart => exact ⟨0, by omega, rfl, by rw [Hid, heap_at _ _ _ (by simp), zero_set]; rfl, (ext_alloc _ _).alloc (by simp) _⟩
 case round =>
  obtain ⟨k, hk, rfl, HS, HB⟩ := hrel
  by_cases hlt : k < d.bn
  · have hcell := set_cell HS.out k (by omega)
    have hfr := set_free HS.out k
    have HS2 := Lib.hid (store_to (h := wholeS (k + 1)) (b := true) HS.out (show k < 200 by omega) (by funext j; by_cases e : j = k <;> simp [wholeS, e] <;> omega))
    have hl := lt_of_heap HS.out
    generalize wholeS k k = bb at *
    go_wp2
    go_roundw
    case rel => exact ⟨k + 1, by omega, by go_num, HS2, HB.out.setCell (by simp) _⟩
    case measure => simp [intOf]; omega
  · obtain rfl : k = d.bn := by omega
    go_wp2_with (first
     | (refine wpList_load_row rfl 78 _ rfl (w.heap.size + 1) rfl 78 _ (0, 0) _ HS.out Try.underlying78 rfl (by rw [setA_size]; exact size_set) ?_)
     | (refine wpList_store_row rfl 78 _ _ rfl (w.heap.size + 1) (setA (wholeS d.bn)) rfl rfl 78 _ HS.out (by rw [setA_size]; exact size_set) rfl (setA_all _) ?_))
    exact bodyPost_ret (v := .agg (setA (wholeS d.bn))) (by simp [results, Try.results51, asAddr, Act.put, load_set (setRow_heap _ _ _ _ _ _ HS.out)]) rfl ⟨rfl, below_setRow HB.out (by omega) _⟩
end

section
open Go.RowKit

theorem ownI_pop {w : World} {base : Nat} {g c : Nat} {xs : List Int} {x : Int} (h : OwnI w base (.slice (some ⟨g, 0, none⟩) (xs.length + 1) c) (xs ++ [x])) : OwnI w base (.slice (some ⟨g, 0, none⟩) xs.length c) xs := by
 refine ⟨⟨by simp [intVals], ?_⟩, fun z hz => h.2.1 z (by simp [hz]), by have := h.2.2; simp at this; omega⟩
 rcases h.1.2 with ⟨hv, _⟩ | ⟨g', cap, cur, hv, hb, hh, h1, h2, h3, h4⟩
 · cases hv
 · injection hv with e1 e2 e3
   injection e1 with e1
   injection e1 with e1 _ _
   subst e1 e3
   refine .inr ⟨g, c, cur, rfl, hb, hh, by simp at h1; omega, h2, h3, ?_⟩
   have h5 : (cur.toList.take ((xs ++ [x]).length * 1)).take xs.length = (intVals (xs ++ [x])).take xs.length := by rw [h4]
   rw [List.take_take] at h5
   simpa [intVals] using h5
theorem ownI_last {w : World} {base : Nat} {g c : Nat} {xs : List Int} {x : Int} (h : OwnI w base (.slice (some ⟨g, 0, none⟩) (xs.length + 1) c) (xs ++ [x])) : w.cell? ⟨g, xs.length, none⟩ = some (.int .i64 x) := by
 have h1 := h.ints
 obtain ⟨b, o, e, hc, _⟩ := h1.2.2 xs.length (by omega)
 injection e with e
 injection e with e1 e2
 subst e1 e2
 rw [Nat.zero_add] at hc
 rw [hc]
 simp [List.getD_eq_getElem?_getD]
/-- what holds between the rounds of a walk -/
def WJ (next : Nat → List Nat) (f : Nat → Bool) (b : Nat) (w : World) (st seen : List Nat) (x : Option (Nat × Nat)) (v : Value) (wr : World) : Prop :=
 WInv next f b st (fun y => seen.contains y) x ∧ seen.Nodup ∧ (∀ y ∈ seen, y < 200) ∧ wr.heap[w.heap.size + 1]? = some (setO f) ∧ wr.heap[w.heap.size + 1 + 1]? = some (setO fun y => seen.contains y) ∧
  OwnI wr (w.heap.size + 1 + 1 + 1) v (intsN st) ∧ Below w.heap.size w wr
theorem Reach.lt {next : Nat → List Nat} {inn : Nat → Bool} {b y n : Nat} (h : Reach next inn b y) (hx : ∀ k y, y ∈ next k → y < 200 ∧ (inn y = true → y < n)) : y < n := by
 cases h with
 | one h1 h2 => exact (hx _ _ h1).2 h2
 | step _ h1 h2 => exact (hx _ _ h1).2 h2
theorem walk_at (d : WalkD) (b : Nat) (f : Nat → Bool) (ra : Option Addr) (rn rc : Nat) (L : List (List Nat)) (next : Nat → List Nat) (w : World) (hb : b < 200) (hrn : rn ≤ 200) (hcf : Canon f) (hf : f b = true → b < rn)
  (hL : ∀ k, k < rn → L[k]? = some (next k)) (hx : ∀ k y, y ∈ next k → y < 200 ∧ (f y = true → y < rn)) (hw : NRows w ra rn L) :
  Calls Try.prog 68 #[walkV d, .int .i64 (b : Int), .agg (setA f), .slice ra rn rc] w (SetPost w (walkF next f b)) := by
 have HC := Lib.hid hcf
 have HF := Lib.hid hf
 have HL := Lib.hid hL
 have HX := Lib.hid hx
 have HW := Lib.hid hw
 clear hcf hf hL hx hw
 go_enter Try.func68, Try.ntmps68
 go_upto_region 1 with (fail)
 obtain ⟨W, hW⟩ : ∃ W, W = ((w.alloc (walkO d)).alloc (setO f)).alloc (.cells Try.zeroCells78 78) := ⟨_, rfl⟩
 rw [← hW]
 have hs : W.heap[w.heap.size + 1]? = some (setO f) := by rw [hW, Below.heap_alloc _ _ _ (by simp)]; exact heap_at _ _ _ (by simp)
 have hr : W.heap[w.heap.size + 1 + 1]? = some (setO fun _ => false) := by rw [hW, heap_at _ _ _ (by simp), zero_set]
 have hB : Below w.heap.size w W := by rw [hW]; exact ((ext_alloc _ _).alloc (by simp) _).alloc (by simp; omega) _
 have hWs : W.heap.size = w.heap.size + 1 + 1 + 1 := by rw [hW]; simp
 have HWs := Lib.hid hWs
 have hc := set_cell hs b hb
 clear hW hWs
 by_cases hfb : f b = true
 · rw [hfb] at hc
   have HS := Lib.hid hs
   have HR := Lib.hid hr
   have HB := Lib.hid hB
   have HFB := Lib.hid hfb
   clear hs hr hB hfb
   go_wp2
   go_loopg [9] 201 (fun gg v wr => ∃ (st seen : List Nat), st.length + 200 ≤ gg + seen.length ∧ st.length ≤ seen.length + 1 ∧ Hid (WJ next f b w st seen none v wr))
   case atStart =>
    refine ⟨[b], [], by simp, by simp, by simpa using WInv.start next f b, by simp, by simp, ?_, ?_, ?_, ?_⟩
    · exact (Below.heap_alloc _ _ _ (by rw [HWs.out]; omega)).trans HS.out
    · exact (Below.heap_alloc _ _ _ (by rw [HWs.out]; omega)).trans HR.out
    · exact ownI_lit (xs := intsN [b]) rfl _ (by rw [HWs.out]; omega) (intsN_ok [b] (by simp; omega)) (by simp [intsN])
    · exact HB.out.alloc (by rw [HWs.out]; omega) _
   case round =>
    obtain ⟨st, seen, hm, hm2, HJ⟩ := hrel
    clear hc HS HR HB HWs
    rcases List.eq_nil_or_concat st with rfl | ⟨st', x, rfl⟩
    · obtain ⟨h1, h2, h3, h4, h5, h6, h7⟩ := HJ.out
      obtain ⟨av, cv, rfl⟩ := h6.form
      have HE : Hid ((fun y => seen.contains y) = walkF next f b) := walkF_of HC.out HFB.out h1
      rw [HE.out] at h5
      have HS := Lib.hid h5
      have HB := Lib.hid h7
      clear h1 h2 h3 h4 h5 h6 h7 HJ hm
      go_wp2_with (first
       | (refine wpList_load_row rfl 78 _ rfl (w.heap.size + 1 + 1) rfl 78 _ (0, 0) _ HS.out Try.underlying78 rfl (by rw [setA_size]; exact size_set) ?_)
       | (refine wpList_store_row rfl 78 _ _ rfl (w.heap.size + 1 + 1) (setA (walkF next f b)) rfl rfl 78 _ HS.out (by rw [setA_size]; exact size_set) rfl (setA_all _) ?_))
      exact bodyPost_ret (v := .agg (setA (walkF next f b))) (by simp [results, Try.results68, asAddr, Act.put, load_set (setRow_heap _ _ _ _ _ _ HS.out)]) rfl ⟨rfl, below_setRow HB.out (by omega) _⟩
    · obtain ⟨h1, h2, h3, h4, h5, h6, h7⟩ := id HJ.out
      rw [List.concat_eq_append] at h1 h6 hm hm2
      have hst : intsN (st' ++ [x]) = intsN st' ++ [(x : Int)] := by simp [intsN]
      rw [hst] at h6
      obtain ⟨gb, cb, hv⟩ := own_form h6.1 (by simp)
      have hlen' : (intsN st' ++ [(x : Int)]).length = st'.length + 1 := by simp [intsN]
      have hlen2 : (intsN st').length = st'.length := by simp [intsN]
      rw [hlen'] at hv
      subst hv
      rw [← hlen2] at h6
      have hpop := ownI_pop h6
      have hlast := ownI_last h6
      rw [hlen2] at hpop hlast
      have hcap := h6.cap
      have hxf : f x = true := by
       rcases h1.src x (by simp) with e | e
       · rw [e]; exact HFB.out
       · exact (h1.sound x e).inn
      have hxr : x < rn := by
       rcases h1.src x (by simp) with e | e
       · rw [e]; exact HF.out HFB.out
       · exact (h1.sound x e).lt HX.out
      obtain ⟨bb, oo, xa, xc, rfl, hcr0, hir⟩ := HW.out.2.2 x (next x) (HL.out x hxr)
      have hcr := cell_ext h7 hcr0
      have hseen : seen.length ≤ 200 := nodup_len 200 seen h2 h3
      have hstl := hm
      simp only [List.length_append, List.length_cons, List.length_nil, Nat.zero_add] at hstl hm2
      have HJ2 : Hid (WJ next f b w st' seen (some (x, 0)) (.slice (some ⟨gb, 0, none⟩) st'.length cb) wr) :=
       ⟨h1.take x st' (fun z => by simp [or_comm]), h2, h3, h4, h5, hpop, h7⟩
      have HIR := Lib.hid hir
      have hnl : (next x).length ≤ 17592186044416 := hir.2.1
      have hcb : st'.length + 1 ≤ cb := by have := hcap.1; omega
      have hcb2 : cb ≤ 9223372036854775807 := hcap.2.1
      have hstn : st'.length ≤ 1000 := by omega
      clear h1 h2 h3 h4 h5 h6 h7 HJ hm hst hlen' hlen2 hpop hir hxf hcap hcr0
      go_wp2
      obtain ⟨wo, rfl⟩ : ∃ wo : World, wo = wr := ⟨_, rfl⟩
      go_loopg [9, 12, 39] (next x).length (fun g2 v2 _ j wi => ∃ (j' : Nat) (st2 seen2 : List Nat), j = .int .i64 (j' : Int) ∧ j' ≤ (next x).length ∧ (next x).length ≤ g2 + j' ∧ st2.length + seen.length = st'.length + seen2.length ∧ Hid (WJ next f b w st2 seen2 (some (x, j')) v2 wi))
      case atStart => exact ⟨0, st', seen, rfl, Nat.zero_le _, Nat.le_refl _, rfl, HJ2⟩
      case round =>
       obtain ⟨j', st2, seen2, rfl, hj, hg2, hcnt, HJ⟩ := hrel
       clear HJ2 hlast
       obtain ⟨h1, h2, h3, h4, h5, h6, h7⟩ := id HJ.out
       obtain ⟨va, vc, rfl⟩ := h6.form
       have hseen2 : seen2.length ≤ 200 := nodup_len 200 seen2 h2 h3
       by_cases hjl : j' < (next x).length
       · have hyx : (next x).getD j' 0 ∈ next x := by rw [List.getD_eq_getElem?_getD, List.getElem?_eq_getElem hjl]; exact List.getElem_mem _
         have hy := (HX.out x _ hyx).1
         obtain ⟨b3, o3, rfl, hcy, _⟩ := (HIR.out.ext h7).2.2 j' hjl
         have hey : (intsN (next x)).getD j' 0 = (((next x).getD j' 0 : Nat) : Int) := by simp [intsN, List.getD_eq_getElem?_getD, hjl]
         rw [hey] at hcy
         have hcf := set_cell h4 _ hy
         have hcs := set_cell h5 _ hy
         have hfs := set_free h5 ((next x).getD j' 0)
         have hlS := lt_of_heap h5
         have hjl' : (j' : Int) < ((next x).length : Int) := by omega
         clear hey hyx
         by_cases hgo : f ((next x).getD j' 0) = true ∧ seen2.contains ((next x).getD j' 0) = false
         · obtain ⟨hg1, hg2'⟩ := hgo
           have hns : (next x).getD j' 0 ∉ seen2 := by simpa using hg2'
           have hP := h1.push hjl hg1 (st2 ++ [(next x).getD j' 0]) (fun z => by simp [or_comm]) (fun z => ((next x).getD j' 0 :: seen2).contains z) (fun z => by simp)
           rw [hg1] at hcf
           simp only [hg2'] at hcs
           have HP := Lib.hid hP
           have HN := Lib.hid hns
           have e1 : (fun k => if k = (next x).getD j' 0 then true else seen2.contains k) = (fun z => ((next x).getD j' 0 :: seen2).contains z) := by
            funext k
            by_cases e : k = (next x).getD j' 0
            · simp [e]
            · simp [e, List.contains_cons]
           have HS1 := Lib.hid (store_to (b := true) h5 hy e1)
           have HF1 := Lib.hid (grown_row (grown_setCell wr (w.heap.size + 1 + 1) ((next x).getD j' 0) (.bool true)) h4 (by simp))
           have HO1 := Lib.hid (h6.kept (grown_setCell wr (w.heap.size + 1 + 1) ((next x).getD j' 0) (.bool true)) (by
            rcases hvb : (Value.slice va (intsN st2).length vc).ownBlock with _ | kb
            · exact .inl rfl
            · have := (h6.1.lt kb hvb).1
              refine .inr ?_
              intro e
              injection e with e
              omega))
           have HB1 := Lib.hid (h7.setCell (p := ⟨w.heap.size + 1 + 1, (next x).getD j' 0, none⟩) (by simp; omega) (.bool true))
           have H2 := Lib.hid h2
           have H3 := Lib.hid h3
           have hst2 : (intsN st2).length = st2.length := by simp [intsN]
           have hsl : st2.length ≤ 1000 := by omega
           have hsl2 : (intsN st2).length ≤ 1000 := by omega
           clear hg1 hg2' hns hP e1 h1 h2 h3 h4 h5 h6 h7 HJ
           generalize hyy : (next x).getD j' 0 = y at *
           go_wp2_with (
            (at_builtin
             refine wpList_append1 rfl (wr.setCell ⟨w.heap.size + 1 + 1, y, none⟩ (.bool true)) (.tmp 54) (.tmp 56) 22 3 rfl (w.heap.size + 1 + 1 + 1) _ 1 8 Try.underlying22 infoI rfl (by omega) (.slice va (intsN st2).length vc) (intsN st2).length _ [.int .i64 (y : Int)] rfl HO1.out.1 wr.heap.size (by simp) rfl rfl (by simp [Value.oneCell']) (by simp only [maxLen]; omega) (by omega) (by simp; omega) ?_
             intro g cap w2 hown2 hg2 hat2
             have HO2 := Lib.hid hown2
             have HG2 := Lib.hid hg2
             clear hown2 hg2 hat2))
           have hrow : ∀ (k : Nat), k < w.heap.size + 1 + 1 + 1 → ¬ (Value.slice va (intsN st2).length vc).ownBlock = some k := fun k hk e => by
            have := (HO1.out.1.lt k e).1
            omega
           go_roundg ((next x).length - (j' + 1))
           case measure => omega
           case rel =>
            refine ⟨j' + 1, st2 ++ [y], y :: seen2, by go_num, by omega, by omega, by simp; omega, HP.out, List.nodup_cons.2 ⟨HN.out, H2.out⟩, ?_, ?_, ?_, ?_, ?_⟩
            · intro z hz
              rcases List.mem_cons.1 hz with rfl | hz
              · exact hy
              · exact H3.out z hz
            · exact grown_row HG2.out HF1.out (hrow _ (by omega))
            · exact grown_row HG2.out HS1.out (hrow _ (by omega))
            · have e2 : intsN (st2 ++ [y]) = intsN st2 ++ [(y : Int)] := by simp [intsN]
              rw [e2]
              refine ⟨?_, ?_, by simp; omega⟩
              · have e3 : (intsN st2 ++ [(y : Int)]).length = (intsN st2).length + 1 := by simp
                have e4 : intVals (intsN st2 ++ [(y : Int)]) = intVals (intsN st2) ++ [.int .i64 (y : Int)] := by simp [intVals]
                rw [e3, e4]
                have h9 := HO2.out
                rw [hst2] at h9 ⊢
                exact h9
              · intro z hz
                rcases List.mem_append.1 hz with h | h
                · exact HO1.out.2.1 z h
                · simp only [List.mem_singleton] at h
                  subst h
                  unfold I64
                  omega
            · exact HB1.out.grown HG2.out (by simp; omega) (fun k e => by have := (HO1.out.1.lt k e).1; omega)
         · have HJ3 : Hid (WJ next f b w st2 seen2 (some (x, j' + 1)) (.slice va (intsN st2).length vc) wr) := by
            refine ⟨h1.skip hjl (fun hi => ?_), h2, h3, h4, h5, h6, h7⟩
            cases hb2 : seen2.contains ((next x).getD j' 0) with
            | true => rfl
            | false => exact absurd ⟨hi, hb2⟩ hgo
           have hgo' : f ((next x).getD j' 0) = true → seen2.contains ((next x).getD j' 0) = true := fun hi => by
            cases hb2 : seen2.contains ((next x).getD j' 0) with
            | true => rfl
            | false => exact absurd ⟨hi, hb2⟩ hgo
           clear h1 h2 h3 h4 h5 h6 h7 HJ hgo
           generalize hyy : (next x).getD j' 0 = y at *
           cases hfy : f y with
           | true =>
             have hsy := hgo' hfy
             rw [hfy] at hcf
             simp only [hsy] at hcs
             clear hgo' hsy hfy
             go_wp2
             go_roundg ((next x).length - (j' + 1))
             case measure => omega
             case rel => exact ⟨j' + 1, st2, seen2, by go_num, by omega, by omega, by omega, HJ3⟩
           | false =>
             rw [hfy] at hcf
             clear hgo' hfy
             go_wp2
             go_roundg ((next x).length - (j' + 1))
             case measure => omega
             case rel => exact ⟨j' + 1, st2, seen2, by go_num, by omega, by omega, by omega, HJ3⟩
       · obtain rfl : j' = (next x).length := by omega
         have HJ3 : Hid (WJ next f b w st2 seen2 none (.slice va (intsN st2).length vc) wr) := ⟨h1.fin (Nat.le_refl _), h2, h3, h4, h5, h6, h7⟩
         clear h1 h2 h3 h4 h5 h6 h7 HJ
         go_wp2
         go_roundg (st2.length + 200 - seen2.length)
         case measure => omega
         case rel => exact ⟨st2, seen2, by omega, by omega, HJ3⟩
 · have hfb' : f b = false := by simpa using hfb
   rw [hfb'] at hc
   have HE : Hid (walkF next f b = fun _ => false) := walkF_no hfb'
   have HR := Lib.hid hr
   have HB := Lib.hid hB
   clear hfb hfb' hs hr hB
   go_wp2_with (first
    | (refine wpList_load_row rfl 78 _ rfl (w.heap.size + 1 + 1) rfl 78 _ (0, 0) _ HR.out Try.underlying78 rfl (by rw [setA_size]; exact size_set) ?_)
    | (refine wpList_store_row rfl 78 _ _ rfl (w.heap.size + 1 + 1) (setA fun _ => false) rfl rfl 78 _ HR.out (by rw [setA_size]; exact size_set) rfl (setA_all _) ?_))
   exact bodyPost_ret (v := .agg (setA fun _ => false)) (by simp [results, Try.results68, asAddr, Act.put, load_set (setRow_heap _ _ _ _ _ _ HR.out)]) rfl ⟨by rw [HE.out], below_setRow HB.out (by omega) _⟩
theorem walk_any (d : WalkD) (b : Nat) (f : Nat → Bool) (ra : Option Addr) (rn rc : Nat) (L : List (List Nat)) (next : Nat → List Nat) (w : World) (hb : b < 200) (hrn : rn ≤ 200) (hf : ∀ y, f y = true → y < rn)
  (hL : ∀ k, k < rn → L[k]? = some (next k)) (hx : ∀ k y, y ∈ next k → y < 200) (hw : NRows w ra rn L) :
  Calls Try.prog 68 #[walkV d, .int .i64 (b : Int), .agg (setA f), .slice ra rn rc] w (SetPost w (walkF next f b)) :=
 walk_at d b f ra rn rc L next w hb hrn (fun y hy => by have := hf y hy; omega) (hf b) hL (fun k y hy => ⟨hx k y hy, hf y⟩) hw
end

section
open Go.RowKit

def setRange (listed : Array Bool) (i : Nat) : Nat → Array Bool
 | 0 => listed
 | n + 1 => setRange (listed.setIfInBounds i true) (i + 1) n
def okReadsB (l : List Oper) : Nat → Nat → Array Bool → Bool
 | 0, _, _ => true
 | n + 1, i, listed => (Region.ready .any l.toArray listed).contains i && Region.free .any l.toArray listed i && ((l[i]?).map valOp).getD false && okReadsB l n (i + 1) (listed.setIfInBounds i true)
def closedB (l : List Oper) (listed : Array Bool) : Bool :=
 (List.range l.length).all fun j => !listed.getD j false || ((l[j]?).map fun o => o.after.all fun e => !Region.binds .any e || listed.getD e.on false).getD true

section
variable {P : Program} {l : List Oper} {S : World → Prop} {Q : Exit → Act → World → Prop}

theorem closed_of {listed : Array Bool} (h : closedB l listed = true) : Closed l listed := by
 intro j o ho hl e he hb
 unfold closedB at h
 rw [List.all_eq_true] at h
 have hlt : j < l.length := by
  have := (Array.getElem?_eq_some_iff.1 ho).1
  simpa using this
 have := h j (List.mem_range.2 hlt)
 have ho' : l[j]? = some o := by simpa using ho
 simp only [hl, Bool.not_true, Bool.false_or, ho', Option.map_some, Option.getD_some] at this
 have := (Array.all_eq_true'.1 this) e he
 simpa [hb] using this

theorem okReads_of : ∀ (n i : Nat) (listed : Array Bool), okReadsB l n i listed = true → okReads l n i listed = some (setRange listed i n) := by
 intro n
 induction n with
 | zero => intro i listed _; rfl
 | succ n ih =>
   intro i listed h
   simp only [okReadsB, Bool.and_eq_true] at h
   obtain ⟨⟨⟨h1, h2⟩, h3⟩, h4⟩ := h
   simp only [okReads, setRange]
   rw [if_pos (by simp only [Bool.and_eq_true]; exact ⟨⟨h1, h2⟩, h3⟩)]
   exact ih _ _ h4

theorem z_start {id : Nat} {a : Act} {w : World} (S : World → Prop) (hm : P.follows .mixedOrders = true)
  (h : wpAnyZ P l (NoPanic Q) S l.length (Array.replicate l.length false) a w.drew) : (Code.region id l.toArray true).wp P Q a w := by
 refine wp_region_noPanic (wp_region_any hm ?_)
 have := wpAny_of_Z _ _ _ _ h
 simpa using this

theorem z_reads {fuel : Nat} {listed : Array Bool} {a : Act} {w : World} (i n : Nat) (hok : (okReadsB l n i listed && closedB l listed && Region.noSelect l.toArray) = true) (hS : S w)
  (h : wpQuiet P l.toArray S (fun a' => wpAnyZ P l (NoPanic Q) S fuel (setRange listed i n) a' w) ((l.drop i).take n) a) : wpAnyZ P l (NoPanic Q) S (fuel + n) listed a w := by
 simp only [Bool.and_eq_true] at hok
 exact reads_first hok.2 (fun _ _ _ hp => hp) fuel w hS _ n i listed _ a (closed_of hok.1.2) (okReads_of n i listed hok.1.1) (fun _ a' ha' => ha') h

theorem z_one {fuel : Nat} {listed : Array Bool} {a : Act} {w : World} (e : Nat) (hr : (Region.ready .any l.toArray listed == [e]) = true)
  (h : wpOp P l.toArray (NoPanic Q) e (fun a' w' => (aloneB l e = true ∨ S w') ∧ wpAnyZ P l (NoPanic Q) S fuel (listed.setIfInBounds e true) a' w') a w) : wpAnyZ P l (NoPanic Q) S (fuel + 1) listed a w := by
 have hr := eq_of_beq hr
 refine ⟨fun h0 => ?_, fun i hi => ?_⟩
 · rw [hr] at h0; cases h0
 · rw [hr, List.mem_singleton] at hi
   subst hi
   exact h
theorem z_two {fuel : Nat} {listed : Array Bool} {a : Act} {w : World} (e e' : Nat) (hr : (Region.ready .any l.toArray listed == [e, e']) = true)
  (h : wpOp P l.toArray (NoPanic Q) e (fun a' w' => (aloneB l e = true ∨ S w') ∧ wpAnyZ P l (NoPanic Q) S fuel (listed.setIfInBounds e true) a' w') a w)
  (h' : wpOp P l.toArray (NoPanic Q) e' (fun a' w' => (aloneB l e' = true ∨ S w') ∧ wpAnyZ P l (NoPanic Q) S fuel (listed.setIfInBounds e' true) a' w') a w) : wpAnyZ P l (NoPanic Q) S (fuel + 1) listed a w := by
 have hr := eq_of_beq hr
 refine ⟨fun h0 => ?_, fun i hi => ?_⟩
 · rw [hr] at h0; cases h0
 · rw [hr] at hi
   rcases List.mem_cons.1 hi with rfl | hi
   · exact h
   · rw [List.mem_singleton] at hi
     subst hi
     exact h'
theorem z_done {listed : Array Bool} {a : Act} {w : World} (hr : (Region.ready .any l.toArray listed == []) = true) (h : Q .normal a w) : wpAnyZ P l (NoPanic Q) S 0 listed a w := ⟨eq_of_beq hr, h⟩
end
end
end Go.Proofs.Ytblhmdhfhaencaa
