/-
 Tile: sets of numbers, all blocks but one, all blocks.
-/
import Derived.Test.YtblhmdhfhaencaaGreatTD
import Derived.Deep.DeepCutAuto
import Derived.Deep.LoopGhost
import Derived.Test.YtblhmdhfhaencaaGreatBP
import Derived.Laws.StructEq
import Derived.ChangeKeysEq
import Derived.Deep.OwnRows
namespace Go.Proofs.YtblhmdhfhaencaaGreat
set_option linter.unusedSimpArgs false
set_option linter.unusedVariables false
set_option linter.unusedSectionVars false
set_option maxRecDepth 100000
set_option maxHeartbeats 40000000
section
open Go.RowKit
theorem size_set : (Tryz.prog.info? 124).map (·.size) = some 200 := by kernel_rfl
theorem zero_set : Tryz.zeroCells124 = setA fun _ => false := by kernel_rfl
def SetPost (w : World) (f : Nat → Bool) (e : Ending) (w' : World) : Prop := e = .returned (.agg (setA f)) ∧ Below w.heap.size w w'
theorem load_set {W : World} {g : Nat} {f : Nat → Bool} (hg : W.heap[g]? = some (setO f)) : (loadVar 124 ⟨g, 0, none⟩).run Tryz.prog W = .ok (.agg (setA f)) W :=
 run_loadVar_row (P := Tryz.prog) W g 124 124 _ (0, 0) _ hg Tryz.underlying124 rfl (by rw [setA_size]; exact size_set)
theorem set_put {W : World} {g : Nat} {f : Nat → Bool} (hg : W.heap[g]? = some (setO f)) (j : Nat) (hj : j < 200) (b : Bool) : (W.setCell ⟨g, j, none⟩ (.bool b)).heap[g]? = some (setO fun k => if k = j then b else f k) := by
 rw [heap_setCell_same _ _ _ _ _ _ hg, setA_put _ _ hj]
theorem set_cell {W : World} {g : Nat} {f : Nat → Bool} (hg : W.heap[g]? = some (setO f)) (j : Nat) (hj : j < 200) : W.cell? ⟨g, j, none⟩ = some (.bool (f j)) := by rw [cell_of_row _ _ _ _ _ _ hg, setA_at _ _ hj]
theorem set_free {W : World} {g : Nat} {f : Nat → Bool} (hg : W.heap[g]? = some (setO f)) (j : Nat) : W.frozen? ⟨g, j, none⟩ = false := frozen_of_row _ _ _ _ _ hg
theorem lt_of_heap {W : World} {g : Nat} {o : Obj} (h : W.heap[g]? = some o) : g < W.heap.size := (Array.getElem?_eq_some_iff.1 h).1
theorem lessS_put (f : Nat → Bool) (b : Nat) : (fun k => if k = b then false else f k) = lessS f b := by
 funext k
 by_cases e : k = b <;> simp [lessS, e]
theorem less_any (f : Nat → Bool) (b : Nat) (hb : b < 200) (w : World) : Calls Tryz.prog 131 #[.agg (setA f), .int .i64 (b : Int)] w (SetPost w (lessS f b)) := by
 go_enter Tryz.func131, Tryz.ntmps131
 go_upto_region 1 with (fail)
 obtain ⟨W, hW⟩ : ∃ W, W = (w.alloc (setO f)).alloc (.cells Tryz.zeroCells124 124) := ⟨_, rfl⟩
 rw [← hW]
 have hs : W.heap[w.heap.size]? = some (setO f) := by rw [hW, Below.heap_alloc _ _ _ (by simp)]; exact heap_alloc_new _ _
 have hr : W.heap[w.heap.size + 1]? = some (setO fun _ => false) := by rw [hW, heap_at _ _ _ (by simp), zero_set]
 have hB : Below w.heap.size w W := by rw [hW]; exact (ext_alloc _ _).alloc (by simp) _
 have HW := Lib.hid hW
 clear hW
 have hc := set_cell hs b hb
 have hf := set_free hs b
 have hs2 := set_put hs b hb false
 rw [lessS_put] at hs2
 have hr2 := (grown_row (grown_setCell W w.heap.size b (.bool false)) hr (by simp))
 have hB2 := hB.setCell (p := ⟨w.heap.size, b, none⟩) (Nat.le_refl _) (.bool false)
 have HS2 := Lib.hid hs2
 have HR2 := Lib.hid hr2
 have HB2 := Lib.hid hB2
 have hl := lt_of_heap hs
 clear hs hr hB hs2 hr2 hB2
 go_wp2_with (first
  | (refine wpList_load_row rfl 124 _ rfl w.heap.size rfl 124 _ (0, 0) _ HS2.out Tryz.underlying124 rfl (by rw [setA_size]; exact size_set) ?_)
  | (refine wpList_store_row rfl 124 _ _ rfl (w.heap.size + 1) (setA (lessS f b)) rfl rfl 124 _ HR2.out (by rw [setA_size]; exact size_set) rfl (setA_all _) ?_))
 exact bodyPost_ret (v := .agg (setA (lessS f b))) (by simp [results, Tryz.results131, asAddr, Act.put, load_set (setRow_heap _ _ _ _ _ _ HR2.out)]) rfl ⟨rfl, below_setRow HB2.out (by omega) _⟩
theorem ofS_put (xs : List Int) (k : Nat) (hk : k < xs.length) (h0 : 0 ≤ xs.getD k 0) (h1 : xs.getD k 0 < 200) : (fun j => if j = (xs.getD k 0).toNat then true else ofS (xs.take k) j) = ofS (xs.take (k + 1)) := by
 funext j
 rw [takeS xs k 0 hk, ofS, ofS, List.contains_append]
 generalize xs.getD k 0 = x at h0 h1
 by_cases e : j = x.toNat
 · subst e;have h3 : ((x.toNat : Nat) : Int) = x := Int.toNat_of_nonneg h0;have h4 : x.toNat < 200 := by omega
   simp [h3, h4]
 · have e2 : ¬ (j : Int) = x := by omega
   simp [e, e2]
theorem ofS_skip (xs : List Int) (k : Nat) (hk : k < xs.length) (h : xs.getD k 0 < 0 ∨ 200 ≤ xs.getD k 0) : ofS (xs.take k) = ofS (xs.take (k + 1)) := by
 funext j
 rw [takeS xs k 0 hk, ofS, ofS, List.contains_append]
 generalize xs.getD k 0 = x at h
 by_cases hj : j < 200
 · have e2 : ¬ (j : Int) = x := by omega
   simp [e2]
 · simp [hj]
theorem store_to {W : World} {g : Nat} {f h : Nat → Bool} {j : Nat} {b : Bool} (hg : W.heap[g]? = some (setO f)) (hj : j < 200) (e : (fun k => if k = j then b else f k) = h) : (W.setCell ⟨g, j, none⟩ (.bool b)).heap[g]? = some (setO h) := by rw [← e]; exact set_put hg j hj b
theorem of_any (a : Option Addr) (n c : Nat) (xs : List Int) (w : World) (h : Ints w a n xs) : Calls Tryz.prog 102 #[.slice a n c] w (SetPost w (ofS xs)) := by
 have HL := Lib.hid h.1
 have hn := h.2.1
 have H := Lib.hid h
 clear h
 go_enter Tryz.func102, Tryz.ntmps102
 go_wp2
 go_loopw [4, 7] (fun _ i wr => ∃ (k : Nat), k ≤ n ∧ i = .int .i64 k ∧ Hid (wr.heap[w.heap.size]? = some (setO (ofS (xs.take k)))) ∧ Hid (Below w.heap.size w wr)) (fun _ i _ => n - (intOf i).toNat)
 case atStart => exact ⟨0, by omega, rfl, by rw [Hid, heap_alloc_new, zero_set]; congr 3; funext j; simp [ofS], ext_alloc _ _⟩
 case round =>
  obtain ⟨k, hk, rfl, HS, HB⟩ := hrel;by_cases hlt : k < n
  · obtain ⟨b, o, rfl, hc, hw1, hw2⟩ := (H.out.ext HB.out).2.2 k hlt;have hkx : k < xs.length := by rw [HL.out]; exact hlt
    by_cases h0 : 0 ≤ xs.getD k 0
    · by_cases h1 : xs.getD k 0 < 200
      · have hx : (xs.getD k 0).toNat < 200 := by omega
        have hcell := set_cell HS.out _ hx;have hfr := set_free HS.out (xs.getD k 0).toNat;have HS2 := Lib.hid (store_to HS.out hx (ofS_put xs k hkx h0 h1));have hl := lt_of_heap HS.out;generalize xs.getD k 0 = x at *;generalize ofS (xs.take k) x.toNat = bb at *;go_wp2
        go_roundw
        case rel => exact ⟨k + 1, by omega, by go_num, HS2, HB.out.setCell (Nat.le_refl _) _⟩
        case measure => simp [intOf]; omega
      · have HS2 : Hid (wr.heap[w.heap.size]? = some (setO (ofS (xs.take (k + 1))))) := by rw [Hid, ← ofS_skip xs k hkx (.inr (by omega))]; exact HS.out
        generalize xs.getD k 0 = x at *;go_wp2
        go_roundw
        case rel => exact ⟨k + 1, by omega, by go_num, HS2, HB⟩
        case measure => simp [intOf]; omega
    · have HS2 : Hid (wr.heap[w.heap.size]? = some (setO (ofS (xs.take (k + 1))))) := by rw [Hid, ← ofS_skip xs k hkx (.inl (by omega))]; exact HS.out
      generalize xs.getD k 0 = x at *;go_wp2
      go_roundw
      case rel => exact ⟨k + 1, by omega, by go_num, HS2, HB⟩
      case measure => simp [intOf]; omega
  · have HT : Hid (xs.take k = xs) := List.take_of_length_le (by rw [HL.out]; omega);have HSx : Hid (wr.heap[w.heap.size]? = some (setO (ofS xs))) := by have := HS.out; rwa [HT.out] at this
    go_wp2_with (first
     | (refine wpList_load_row rfl 124 _ rfl w.heap.size rfl 124 _ (0, 0) _ HSx.out Tryz.underlying124 rfl (by rw [setA_size]; exact size_set) ?_)
     | (refine wpList_store_row rfl 124 _ _ rfl w.heap.size (setA (ofS xs)) rfl rfl 124 _ HSx.out (by rw [setA_size]; exact size_set) rfl (setA_all _) ?_))
    exact bodyPost_ret (v := .agg (setA (ofS xs))) (by simp [results, Tryz.results102, asAddr, Act.put, load_set (setRow_heap _ _ _ _ _ _ HSx.out)]) rfl ⟨rfl, below_setRow HB.out (by omega) _⟩
def NRows (w : World) (a : Option Addr) (n : Nat) (L : List (List Nat)) : Prop :=
 L.length = n ∧ n ≤ 1000 ∧ ∀ k xs, L[k]? = some xs → ∃ b o ra rc, a = some ⟨b, o, none⟩ ∧ w.cell? ⟨b, o + k, none⟩ = some (.slice ra xs.length rc) ∧ Ints w ra xs.length (intsN xs)
theorem NRows.ext {w w' : World} {a : Option Addr} {n : Nat} {L : List (List Nat)} (h : NRows w a n L) (hb : Below w.heap.size w w') : NRows w' a n L :=
 ⟨h.1, h.2.1, fun k xs hx => by
  obtain ⟨b, o, ra, rc, e, hc, hi⟩ := h.2.2 k xs hx
  exact ⟨b, o, ra, rc, e, cell_ext hb hc, hi.ext hb⟩⟩
structure WalkD where
 pa : Option Addr
 pn : Nat
 pc : Nat
 ba : Option Addr
 bn : Nat
 bc : Nat
 ta : Option Addr
 tc : Nat
 fa : Option Addr
 fc : Nat
abbrev walkV (d : WalkD) : Value := .agg #[.slice d.pa d.pn d.pc, .slice d.ba d.bn d.bc, .slice d.ta d.bn d.tc, .slice d.fa d.bn d.fc]
abbrev walkO (d : WalkD) : Obj := .cells #[.slice d.pa d.pn d.pc, .slice d.ba d.bn d.bc, .slice d.ta d.bn d.tc, .slice d.fa d.bn d.fc] 116
def toRows (ts : List TermD) : List (List Nat) := (List.range ts.length).map (nx ts)
def fromRows (ts : List TermD) : List (List Nat) := (List.range ts.length).map (pv ts)
def WalkOK (w : World) (d : WalkD) (ts : List TermD) : Prop := ts.length = d.bn ∧ d.bn ≤ 200 ∧ NRows w d.ta d.bn (toRows ts) ∧ NRows w d.fa d.bn (fromRows ts)
theorem WalkOK.ext {w w' : World} {d : WalkD} {ts : List TermD} (h : WalkOK w d ts) (hb : Below w.heap.size w w') : WalkOK w' d ts := ⟨h.1, h.2.1, h.2.2.1.ext hb, h.2.2.2.ext hb⟩
theorem whole_any (d : WalkD) (hd : d.bn ≤ 200) (w : World) : Calls Tryz.prog 80 #[walkV d] w (SetPost w (wholeS d.bn)) := by
 go_enter Tryz.func80, Tryz.ntmps80
 go_wp2
 go_loopw [3, 8] (fun _ i wr => ∃ (k : Nat), k ≤ d.bn ∧ i = .int .i64 k ∧ Hid (wr.heap[w.heap.size + 1]? = some (setO (wholeS k))) ∧ Hid (Below w.heap.size w wr)) (fun _ i _ => d.bn - (intOf i).toNat)
 case atStart => exact ⟨0, by omega, rfl, by rw [Hid, heap_at _ _ _ (by simp), zero_set]; rfl, (ext_alloc _ _).alloc (by simp) _⟩
 case round =>
  obtain ⟨k, hk, rfl, HS, HB⟩ := hrel;by_cases hlt : k < d.bn
  · have hcell := set_cell HS.out k (by omega);have hfr := set_free HS.out k;have HS2 := Lib.hid (store_to (h := wholeS (k + 1)) (b := true) HS.out (show k < 200 by omega) (by funext j; by_cases e : j = k <;> simp [wholeS, e] <;> omega));have hl := lt_of_heap HS.out;generalize wholeS k k = bb at *;go_wp2
    go_roundw
    case rel => exact ⟨k + 1, by omega, by go_num, HS2, HB.out.setCell (by simp) _⟩
    case measure => simp [intOf]; omega
  · obtain rfl : k = d.bn := by omega
    go_wp2_with (first
     | (refine wpList_load_row rfl 124 _ rfl (w.heap.size + 1) rfl 124 _ (0, 0) _ HS.out Tryz.underlying124 rfl (by rw [setA_size]; exact size_set) ?_)
     | (refine wpList_store_row rfl 124 _ _ rfl (w.heap.size + 1) (setA (wholeS d.bn)) rfl rfl 124 _ HS.out (by rw [setA_size]; exact size_set) rfl (setA_all _) ?_))
    exact bodyPost_ret (v := .agg (setA (wholeS d.bn))) (by simp [results, Tryz.results80, asAddr, Act.put, load_set (setRow_heap _ _ _ _ _ _ HS.out)]) rfl ⟨rfl, below_setRow HB.out (by omega) _⟩
end

section
open Go.RowKit
theorem ownI_pop {w : World} {base : Nat} {g c : Nat} {xs : List Int} {x : Int} (h : OwnI w base (.slice (some ⟨g, 0, none⟩) (xs.length + 1) c) (xs ++ [x])) : OwnI w base (.slice (some ⟨g, 0, none⟩) xs.length c) xs := by
 refine ⟨⟨by simp [intVals], ?_⟩, fun z hz => h.2.1 z (by simp [hz]), by have := h.2.2; simp at this; omega⟩
 rcases h.1.2 with ⟨hv, _⟩ | ⟨g', cap, cur, hv, hb, hh, h1, h2, h3, h4⟩
 · cases hv
 · injection hv with e1 e2 e3;injection e1 with e1;injection e1 with e1 _ _;subst e1 e3;refine .inr ⟨g, c, cur, rfl, hb, hh, by simp at h1; omega, h2, h3, ?_⟩;have h5 : (cur.toList.take ((xs ++ [x]).length * 1)).take xs.length = (intVals (xs ++ [x])).take xs.length := by rw [h4]
   rw [List.take_take] at h5;simpa [intVals] using h5
theorem ownI_last {w : World} {base : Nat} {g c : Nat} {xs : List Int} {x : Int} (h : OwnI w base (.slice (some ⟨g, 0, none⟩) (xs.length + 1) c) (xs ++ [x])) : w.cell? ⟨g, xs.length, none⟩ = some (.int .i64 x) := by
 have h1 := h.ints
 obtain ⟨b, o, e, hc, _⟩ := h1.2.2 xs.length (by omega)
 injection e with e
 injection e with e1 e2
 subst e1 e2
 rw [Nat.zero_add] at hc
 rw [hc]
 simp [List.getD_eq_getElem?_getD]
def WJ (next : Nat → List Nat) (f : Nat → Bool) (b : Nat) (w : World) (st seen : List Nat) (x : Option (Nat × Nat)) (v : Value) (wr : World) : Prop :=
 WInv next f b st (fun y => seen.contains y) x ∧ seen.Nodup ∧ (∀ y ∈ seen, y < 200) ∧ wr.heap[w.heap.size + 1]? = some (setO f) ∧ wr.heap[w.heap.size + 1 + 1]? = some (setO fun y => seen.contains y) ∧
  OwnI wr (w.heap.size + 1 + 1 + 1) v (intsN st) ∧ Below w.heap.size w wr
theorem Reach.lt {next : Nat → List Nat} {inn : Nat → Bool} {b y n : Nat} (h : Reach next inn b y) (hx : ∀ k y, y ∈ next k → y < 200 ∧ (inn y = true → y < n)) : y < n := by
 cases h with
 | one h1 h2 => exact (hx _ _ h1).2 h2
 | step _ h1 h2 => exact (hx _ _ h1).2 h2
theorem walk_at (d : WalkD) (b : Nat) (f : Nat → Bool) (ra : Option Addr) (rn rc : Nat) (L : List (List Nat)) (next : Nat → List Nat) (w : World) (hb : b < 200) (hrn : rn ≤ 200) (hcf : Canon f) (hf : f b = true → b < rn)
  (hL : ∀ k, k < rn → L[k]? = some (next k)) (hx : ∀ k y, y ∈ next k → y < 200 ∧ (f y = true → y < rn)) (hw : NRows w ra rn L) :
  Calls Tryz.prog 129 #[walkV d, .int .i64 (b : Int), .agg (setA f), .slice ra rn rc] w (SetPost w (walkF next f b)) := by
 have HC := Lib.hid hcf
 have HF := Lib.hid hf
 have HL := Lib.hid hL
 have HX := Lib.hid hx
 have HW := Lib.hid hw
 clear hcf hf hL hx hw
 go_enter Tryz.func129, Tryz.ntmps129
 go_upto_region 1 with (fail)
 obtain ⟨W, hW⟩ : ∃ W, W = ((w.alloc (walkO d)).alloc (setO f)).alloc (.cells Tryz.zeroCells124 124) := ⟨_, rfl⟩
 rw [← hW]
 have hs : W.heap[w.heap.size + 1]? = some (setO f) := by rw [hW, Below.heap_alloc _ _ _ (by simp)]; exact heap_at _ _ _ (by simp)
 have hr : W.heap[w.heap.size + 1 + 1]? = some (setO fun _ => false) := by rw [hW, heap_at _ _ _ (by simp), zero_set]
 have hB : Below w.heap.size w W := by rw [hW]; exact ((ext_alloc _ _).alloc (by simp) _).alloc (by simp; omega) _
 have hWs : W.heap.size = w.heap.size + 1 + 1 + 1 := by rw [hW]; simp
 have HWs := Lib.hid hWs
 have hc := set_cell hs b hb
 clear hW hWs
 by_cases hfb : f b = true
 · rw [hfb] at hc;have HS := Lib.hid hs;have HR := Lib.hid hr;have HB := Lib.hid hB;have HFB := Lib.hid hfb;clear hs hr hB hfb;go_wp2
   go_loopg [9] 201 (fun gg v wr => ∃ (st seen : List Nat), st.length + 200 ≤ gg + seen.length ∧ st.length ≤ seen.length + 1 ∧ Hid (WJ next f b w st seen none v wr))
   case atStart =>
    refine ⟨[b], [], by simp, by simp, by simpa using WInv.start next f b, by simp, by simp, ?_, ?_, ?_, ?_⟩
    · exact (Below.heap_alloc _ _ _ (by rw [HWs.out]; omega)).trans HS.out
    · exact (Below.heap_alloc _ _ _ (by rw [HWs.out]; omega)).trans HR.out
    · exact ownI_lit (xs := intsN [b]) rfl _ (by rw [HWs.out]; omega) (intsN_ok [b] (by simp; omega)) (by simp [intsN])
    · exact HB.out.alloc (by rw [HWs.out]; omega) _
   case round =>
    obtain ⟨st, seen, hm, hm2, HJ⟩ := hrel;clear hc HS HR HB HWs;rcases List.eq_nil_or_concat st with rfl | ⟨st', x, rfl⟩
    · obtain ⟨h1, h2, h3, h4, h5, h6, h7⟩ := HJ.out;obtain ⟨av, cv, rfl⟩ := h6.form;have HE : Hid ((fun y => seen.contains y) = walkF next f b) := walkF_of HC.out HFB.out h1;rw [HE.out] at h5;have HS := Lib.hid h5;have HB := Lib.hid h7;clear h1 h2 h3 h4 h5 h6 h7 HJ hm
      go_wp2_with (first
       | (refine wpList_load_row rfl 124 _ rfl (w.heap.size + 1 + 1) rfl 124 _ (0, 0) _ HS.out Tryz.underlying124 rfl (by rw [setA_size]; exact size_set) ?_)
       | (refine wpList_store_row rfl 124 _ _ rfl (w.heap.size + 1 + 1) (setA (walkF next f b)) rfl rfl 124 _ HS.out (by rw [setA_size]; exact size_set) rfl (setA_all _) ?_))
      exact bodyPost_ret (v := .agg (setA (walkF next f b))) (by simp [results, Tryz.results129, asAddr, Act.put, load_set (setRow_heap _ _ _ _ _ _ HS.out)]) rfl ⟨rfl, below_setRow HB.out (by omega) _⟩
    · obtain ⟨h1, h2, h3, h4, h5, h6, h7⟩ := id HJ.out;rw [List.concat_eq_append] at h1 h6 hm hm2;have hst : intsN (st' ++ [x]) = intsN st' ++ [(x : Int)] := by simp [intsN]
      rw [hst] at h6;obtain ⟨gb, cb, hv⟩ := own_form h6.1 (by simp);have hlen' : (intsN st' ++ [(x : Int)]).length = st'.length + 1 := by simp [intsN]
      have hlen2 : (intsN st').length = st'.length := by simp [intsN]
      rw [hlen'] at hv;subst hv;rw [← hlen2] at h6;have hpop := ownI_pop h6;have hlast := ownI_last h6;rw [hlen2] at hpop hlast;have hcap := h6.cap;have hxf : f x = true := by
       rcases h1.src x (by simp) with e | e
       · rw [e]; exact HFB.out
       · exact (h1.sound x e).inn
      have hxr : x < rn := by
       rcases h1.src x (by simp) with e | e
       · rw [e]; exact HF.out HFB.out
       · exact (h1.sound x e).lt HX.out
      obtain ⟨bb, oo, xa, xc, rfl, hcr0, hir⟩ := HW.out.2.2 x (next x) (HL.out x hxr);have hcr := cell_ext h7 hcr0;have hseen : seen.length ≤ 200 := nodup_len 200 seen h2 h3;have hstl := hm;simp only [List.length_append, List.length_cons, List.length_nil, Nat.zero_add] at hstl hm2
      have HJ2 : Hid (WJ next f b w st' seen (some (x, 0)) (.slice (some ⟨gb, 0, none⟩) st'.length cb) wr) :=
       ⟨h1.take x st' (fun z => by simp [or_comm]), h2, h3, h4, h5, hpop, h7⟩
      have HIR := Lib.hid hir;have hnl : (next x).length ≤ 17592186044416 := hir.2.1;have hcb : st'.length + 1 ≤ cb := by have := hcap.1; omega
      have hcb2 : cb ≤ 9223372036854775807 := hcap.2.1;have hstn : st'.length ≤ 1000 := by omega
      clear h1 h2 h3 h4 h5 h6 h7 HJ hm hst hlen' hlen2 hpop hir hxf hcap hcr0;go_wp2;obtain ⟨wo, rfl⟩ : ∃ wo : World, wo = wr := ⟨_, rfl⟩
      go_loopg [9, 12, 39] (next x).length (fun g2 v2 _ j wi => ∃ (j' : Nat) (st2 seen2 : List Nat), j = .int .i64 (j' : Int) ∧ j' ≤ (next x).length ∧ (next x).length ≤ g2 + j' ∧ st2.length + seen.length = st'.length + seen2.length ∧ Hid (WJ next f b w st2 seen2 (some (x, j')) v2 wi))
      case atStart => exact ⟨0, st', seen, rfl, Nat.zero_le _, Nat.le_refl _, rfl, HJ2⟩
      case round =>
       obtain ⟨j', st2, seen2, rfl, hj, hg2, hcnt, HJ⟩ := hrel;clear HJ2 hlast;obtain ⟨h1, h2, h3, h4, h5, h6, h7⟩ := id HJ.out;obtain ⟨va, vc, rfl⟩ := h6.form;have hseen2 : seen2.length ≤ 200 := nodup_len 200 seen2 h2 h3;by_cases hjl : j' < (next x).length
       · have hyx : (next x).getD j' 0 ∈ next x := by rw [List.getD_eq_getElem?_getD, List.getElem?_eq_getElem hjl]; exact List.getElem_mem _
         have hy := (HX.out x _ hyx).1;obtain ⟨b3, o3, rfl, hcy, _⟩ := (HIR.out.ext h7).2.2 j' hjl;have hey : (intsN (next x)).getD j' 0 = (((next x).getD j' 0 : Nat) : Int) := by simp [intsN, List.getD_eq_getElem?_getD, hjl]
         rw [hey] at hcy;have hcf := set_cell h4 _ hy;have hcs := set_cell h5 _ hy;have hfs := set_free h5 ((next x).getD j' 0);have hlS := lt_of_heap h5;have hjl' : (j' : Int) < ((next x).length : Int) := by omega
         clear hey hyx;by_cases hgo : f ((next x).getD j' 0) = true ∧ seen2.contains ((next x).getD j' 0) = false
         · obtain ⟨hg1, hg2'⟩ := hgo;have hns : (next x).getD j' 0 ∉ seen2 := by simpa using hg2'
           have hP := h1.push hjl hg1 (st2 ++ [(next x).getD j' 0]) (fun z => by simp [or_comm]) (fun z => ((next x).getD j' 0 :: seen2).contains z) (fun z => by simp);rw [hg1] at hcf;simp only [hg2'] at hcs;have HP := Lib.hid hP;have HN := Lib.hid hns;have e1 : (fun k => if k = (next x).getD j' 0 then true else seen2.contains k) = (fun z => ((next x).getD j' 0 :: seen2).contains z) := by
            funext k
            by_cases e : k = (next x).getD j' 0
            · simp [e]
            · simp [e, List.contains_cons]
           have HS1 := Lib.hid (store_to (b := true) h5 hy e1);have HF1 := Lib.hid (grown_row (grown_setCell wr (w.heap.size + 1 + 1) ((next x).getD j' 0) (.bool true)) h4 (by simp))
           have HO1 := Lib.hid (h6.kept (grown_setCell wr (w.heap.size + 1 + 1) ((next x).getD j' 0) (.bool true)) (by
            rcases hvb : (Value.slice va (intsN st2).length vc).ownBlock with _ | kb
            · exact .inl rfl
            · have := (h6.1.lt kb hvb).1;refine .inr ?_;intro e;injection e with e
              omega))
           have HB1 := Lib.hid (h7.setCell (p := ⟨w.heap.size + 1 + 1, (next x).getD j' 0, none⟩) (by simp; omega) (.bool true));have H2 := Lib.hid h2;have H3 := Lib.hid h3;have hst2 : (intsN st2).length = st2.length := by simp [intsN]
           have hsl : st2.length ≤ 1000 := by omega
           have hsl2 : (intsN st2).length ≤ 1000 := by omega
           clear hg1 hg2' hns hP e1 h1 h2 h3 h4 h5 h6 h7 HJ;generalize hyy : (next x).getD j' 0 = y at *
           go_wp2_with (
            (at_builtin
             refine wpList_append1 rfl (wr.setCell ⟨w.heap.size + 1 + 1, y, none⟩ (.bool true)) (.tmp 54) (.tmp 56) 22 3 rfl (w.heap.size + 1 + 1 + 1) _ 1 8 Tryz.underlying22 infoI rfl (by omega) (.slice va (intsN st2).length vc) (intsN st2).length _ [.int .i64 (y : Int)] rfl HO1.out.1 wr.heap.size (by simp) rfl rfl (by simp [Value.oneCell']) (by simp only [maxLen]; omega) (by omega) (by simp; omega) ?_;intro g cap w2 hown2 hg2 hat2;have HO2 := Lib.hid hown2;have HG2 := Lib.hid hg2
             clear hown2 hg2 hat2))
           have hrow : ∀ (k : Nat), k < w.heap.size + 1 + 1 + 1 → ¬ (Value.slice va (intsN st2).length vc).ownBlock = some k := fun k hk e => by
            have := (HO1.out.1.lt k e).1;omega
           go_roundg ((next x).length - (j' + 1))
           case measure => omega
           case rel =>
            refine ⟨j' + 1, st2 ++ [y], y :: seen2, by go_num, by omega, by omega, by simp; omega, HP.out, List.nodup_cons.2 ⟨HN.out, H2.out⟩, ?_, ?_, ?_, ?_, ?_⟩
            · intro z hz;rcases List.mem_cons.1 hz with rfl | hz
              · exact hy
              · exact H3.out z hz
            · exact grown_row HG2.out HF1.out (hrow _ (by omega))
            · exact grown_row HG2.out HS1.out (hrow _ (by omega))
            · have e2 : intsN (st2 ++ [y]) = intsN st2 ++ [(y : Int)] := by simp [intsN]
              rw [e2];refine ⟨?_, ?_, by simp; omega⟩
              · have e3 : (intsN st2 ++ [(y : Int)]).length = (intsN st2).length + 1 := by simp
                have e4 : intVals (intsN st2 ++ [(y : Int)]) = intVals (intsN st2) ++ [.int .i64 (y : Int)] := by simp [intVals]
                rw [e3, e4];have h9 := HO2.out;rw [hst2] at h9 ⊢;exact h9
              · intro z hz;rcases List.mem_append.1 hz with h | h
                · exact HO1.out.2.1 z h
                · simp only [List.mem_singleton] at h;subst h;unfold I64;omega
            · exact HB1.out.grown HG2.out (by simp; omega) (fun k e => by have := (HO1.out.1.lt k e).1; omega)
         · have HJ3 : Hid (WJ next f b w st2 seen2 (some (x, j' + 1)) (.slice va (intsN st2).length vc) wr) := by
            refine ⟨h1.skip hjl (fun hi => ?_), h2, h3, h4, h5, h6, h7⟩;cases hb2 : seen2.contains ((next x).getD j' 0) with
            | true => rfl
            | false => exact absurd ⟨hi, hb2⟩ hgo
           have hgo' : f ((next x).getD j' 0) = true → seen2.contains ((next x).getD j' 0) = true := fun hi => by
            cases hb2 : seen2.contains ((next x).getD j' 0) with
            | true => rfl
            | false => exact absurd ⟨hi, hb2⟩ hgo
           clear h1 h2 h3 h4 h5 h6 h7 HJ hgo;generalize hyy : (next x).getD j' 0 = y at *;cases hfy : f y with
           | true =>
             have hsy := hgo' hfy;rw [hfy] at hcf;simp only [hsy] at hcs;clear hgo' hsy hfy;go_wp2
             go_roundg ((next x).length - (j' + 1))
             case measure => omega
             case rel => exact ⟨j' + 1, st2, seen2, by go_num, by omega, by omega, by omega, HJ3⟩
           | false =>
             rw [hfy] at hcf;clear hgo' hfy;go_wp2
             go_roundg ((next x).length - (j' + 1))
             case measure => omega
             case rel => exact ⟨j' + 1, st2, seen2, by go_num, by omega, by omega, by omega, HJ3⟩
       · obtain rfl : j' = (next x).length := by omega
         have HJ3 : Hid (WJ next f b w st2 seen2 none (.slice va (intsN st2).length vc) wr) := ⟨h1.fin (Nat.le_refl _), h2, h3, h4, h5, h6, h7⟩
         clear h1 h2 h3 h4 h5 h6 h7 HJ;go_wp2
         go_roundg (st2.length + 200 - seen2.length)
         case measure => omega
         case rel => exact ⟨st2, seen2, by omega, by omega, HJ3⟩
 · have hfb' : f b = false := by simpa using hfb
   rw [hfb'] at hc;have HE : Hid (walkF next f b = fun _ => false) := walkF_no hfb';have HR := Lib.hid hr;have HB := Lib.hid hB;clear hfb hfb' hs hr hB
   go_wp2_with (first
    | (refine wpList_load_row rfl 124 _ rfl (w.heap.size + 1 + 1) rfl 124 _ (0, 0) _ HR.out Tryz.underlying124 rfl (by rw [setA_size]; exact size_set) ?_)
    | (refine wpList_store_row rfl 124 _ _ rfl (w.heap.size + 1 + 1) (setA fun _ => false) rfl rfl 124 _ HR.out (by rw [setA_size]; exact size_set) rfl (setA_all _) ?_))
   exact bodyPost_ret (v := .agg (setA fun _ => false)) (by simp [results, Tryz.results129, asAddr, Act.put, load_set (setRow_heap _ _ _ _ _ _ HR.out)]) rfl ⟨by rw [HE.out], below_setRow HB.out (by omega) _⟩
theorem walk_any (d : WalkD) (b : Nat) (f : Nat → Bool) (ra : Option Addr) (rn rc : Nat) (L : List (List Nat)) (next : Nat → List Nat) (w : World) (hb : b < 200) (hrn : rn ≤ 200) (hf : ∀ y, f y = true → y < rn)
  (hL : ∀ k, k < rn → L[k]? = some (next k)) (hx : ∀ k y, y ∈ next k → y < 200) (hw : NRows w ra rn L) :
  Calls Tryz.prog 129 #[walkV d, .int .i64 (b : Int), .agg (setA f), .slice ra rn rc] w (SetPost w (walkF next f b)) :=
 walk_at d b f ra rn rc L next w hb hrn (fun y hy => by have := hf y hy; omega) (hf b) hL (fun k y hy => ⟨hx k y hy, hf y⟩) hw
end

section
open Go.RowKit
def setRange (listed : Array Bool) (i : Nat) : Nat → Array Bool
 | 0 => listed
 | n + 1 => setRange (listed.setIfInBounds i true) (i + 1) n
def okReadsB (l : List Oper) : Nat → Nat → Array Bool → Bool
 | 0, _, _ => true
 | n + 1, i, listed => (Region.ready .any l.toArray listed).contains i && Region.free .any l.toArray listed i && ((l[i]?).map valOp).getD false && okReadsB l n (i + 1) (listed.setIfInBounds i true)
def closedB (l : List Oper) (listed : Array Bool) : Bool :=
 (List.range l.length).all fun j => !listed.getD j false || ((l[j]?).map fun o => o.after.all fun e => !Region.binds .any e || listed.getD e.on false).getD true
section
variable {P : Program} {l : List Oper} {S : World → Prop} {Q : Exit → Act → World → Prop}
theorem closed_of {listed : Array Bool} (h : closedB l listed = true) : Closed l listed := by
 intro j o ho hl e he hb
 unfold closedB at h
 rw [List.all_eq_true] at h
 have hlt : j < l.length := by
  have := (Array.getElem?_eq_some_iff.1 ho).1;simpa using this
 have := h j (List.mem_range.2 hlt)
 have ho' : l[j]? = some o := by simpa using ho
 simp only [hl, Bool.not_true, Bool.false_or, ho', Option.map_some, Option.getD_some] at this
 have := (Array.all_eq_true'.1 this) e he
 simpa [hb] using this
theorem okReads_of : ∀ (n i : Nat) (listed : Array Bool), okReadsB l n i listed = true → okReads l n i listed = some (setRange listed i n) := by
 intro n
 induction n with
 | zero => intro i listed _; rfl
 | succ n ih =>
   intro i listed h;simp only [okReadsB, Bool.and_eq_true] at h;obtain ⟨⟨⟨h1, h2⟩, h3⟩, h4⟩ := h;simp only [okReads, setRange];rw [if_pos (by simp only [Bool.and_eq_true]; exact ⟨⟨h1, h2⟩, h3⟩)];exact ih _ _ h4
theorem z_start {id : Nat} {a : Act} {w : World} (S : World → Prop) (hm : P.follows .mixedOrders = true)
  (h : wpAnyZ P l (NoPanic Q) S l.length (Array.replicate l.length false) a w.drew) : (Code.region id l.toArray true).wp P Q a w := by
 refine wp_region_noPanic (wp_region_any hm ?_)
 have := wpAny_of_Z _ _ _ _ h
 simpa using this
theorem z_reads {fuel : Nat} {listed : Array Bool} {a : Act} {w : World} (i n : Nat) (hok : (okReadsB l n i listed && closedB l listed && Region.noSelect l.toArray) = true) (hS : S w)
  (h : wpQuiet P l.toArray S (fun a' => wpAnyZ P l (NoPanic Q) S fuel (setRange listed i n) a' w) ((l.drop i).take n) a) : wpAnyZ P l (NoPanic Q) S (fuel + n) listed a w := by
 simp only [Bool.and_eq_true] at hok
 exact reads_first hok.2 (fun _ _ _ hp => hp) fuel w hS _ n i listed _ a (closed_of hok.1.2) (okReads_of n i listed hok.1.1) (fun _ a' ha' => ha') h
theorem z_one {fuel : Nat} {listed : Array Bool} {a : Act} {w : World} (e : Nat) (hr : (Region.ready .any l.toArray listed == [e]) = true)
  (h : wpOp P l.toArray (NoPanic Q) e (fun a' w' => (aloneB l e = true ∨ S w') ∧ wpAnyZ P l (NoPanic Q) S fuel (listed.setIfInBounds e true) a' w') a w) : wpAnyZ P l (NoPanic Q) S (fuel + 1) listed a w := by
 have hr := eq_of_beq hr
 refine ⟨fun h0 => ?_, fun i hi => ?_⟩
 · rw [hr] at h0; cases h0
 · rw [hr, List.mem_singleton] at hi;subst hi;exact h
theorem z_done {listed : Array Bool} {a : Act} {w : World} (hr : (Region.ready .any l.toArray listed == []) = true) (h : Q .normal a w) : wpAnyZ P l (NoPanic Q) S 0 listed a w := ⟨eq_of_beq hr, h⟩
end
end

section
open Go.RowKit
def frameGo : Act → List (Option Nat) → Nat → (Nat → Value) → Act
 | a, [], _, _ => a
 | a, none :: ds, k, ν => frameGo a ds (k + 1) ν
 | a, some d :: ds, k, ν => frameGo { tmps := a.tmps.setIfInBounds d (ν k), defers := a.defers } ds (k + 1) ν
def frameOf (a : Act) (ds : List (Option Nat)) (ν : Nat → Value) : Act := frameGo a ds 0 ν
def updN {α : Type} (ν : Nat → α) (i : Nat) (v : α) : Nat → α := fun j => if j = i then v else ν j
theorem put_some (a : Act) (d : Nat) (v : Value) : a.put (some d) v = { tmps := a.tmps.setIfInBounds d v, defers := a.defers } := rfl
theorem put_none (a : Act) (v : Value) : a.put none v = a := rfl
theorem frameGo_congr : ∀ (ds : List (Option Nat)) (a : Act) (k : Nat) (ν ν' : Nat → Value), (∀ j, k ≤ j → ν j = ν' j) → frameGo a ds k ν = frameGo a ds k ν'
 | [], _, _, _, _, _ => rfl
 | none :: ds, a, k, ν, ν', h => frameGo_congr ds a (k + 1) ν ν' (fun j hj => h j (by omega))
 | some d :: ds, a, k, ν, ν', h => by
   simp only [frameGo];rw [h k (Nat.le_refl _)];exact frameGo_congr ds _ (k + 1) ν ν' (fun j hj => h j (by omega))
theorem frameGo_put : ∀ (ds : List (Option Nat)) (a : Act) (k : Nat) (ν : Nat → Value) (d : Nat) (v : Value), some d ∉ ds → (frameGo a ds k ν).put (some d) v = frameGo (a.put (some d) v) ds k ν
 | [], _, _, _, _, _, _ => rfl
 | none :: ds, a, k, ν, d, v, h => frameGo_put ds a (k + 1) ν d v (fun hm => h (by simp [hm]))
 | some d' :: ds, a, k, ν, d, v, h => by
   have hne : d' ≠ d := fun e => h (by simp [e]);simp only [frameGo];rw [frameGo_put ds _ (k + 1) ν d v (fun hm => h (by simp [hm]))]
   congr 1
   simp only [put_some];rw [Array.setIfInBounds_comm _ _ hne]
theorem frameGo_upd : ∀ (ds : List (Option Nat)) (a : Act) (k : Nat) (ν : Nat → Value) (i d : Nat) (v : Value), (ds.filterMap id).Nodup → ds[i]? = some (some d) → (frameGo a ds k ν).put (some d) v = frameGo a ds k (updN ν (k + i) v)
 | [], _, _, _, i, _, _, _, h => by simp at h
 | none :: ds, a, k, ν, i, d, v, hn, h => by
   cases i with
   | zero => simp at h
   | succ i =>
     simp only [List.filterMap_cons_none, id_eq] at hn;have := frameGo_upd ds a (k + 1) ν i d v hn (by simpa using h);simp only [frameGo];rw [this, show k + 1 + i = k + (i + 1) by omega]
 | some d' :: ds, a, k, ν, i, d, v, hn, h => by
   simp only [List.filterMap_cons, id_eq, List.nodup_cons] at hn;have hmem : ∀ x, some x ∈ ds → x ∈ ds.filterMap id := fun x hx => List.mem_filterMap.2 ⟨some x, hx, rfl⟩;cases i with
   | zero =>
     simp only [List.getElem?_cons_zero, Option.some.injEq] at h;subst h;simp only [frameGo];rw [frameGo_put ds _ (k + 1) ν d' v (fun hm => hn.1 (hmem _ hm))];simp only [put_some, Array.setIfInBounds_setIfInBounds];have e : updN ν (k + 0) v k = v := by simp [updN]
     rw [e];exact frameGo_congr ds _ (k + 1) ν _ (fun j hj => by simp only [updN]; rw [if_neg (by omega)])
   | succ i =>
     simp only [frameGo];rw [frameGo_upd ds _ (k + 1) ν i d v hn.2 (by simpa using h), show k + 1 + i = k + (i + 1) by omega];have e : updN ν (k + (i + 1)) v k = ν k := by simp only [updN]; rw [if_neg (by omega)]
     rw [e]
theorem frame_put (a : Act) (ds : List (Option Nat)) (ν : Nat → Value) (i : Nat) (v : Value) (hn : (ds.filterMap id).Nodup) (hi : i < ds.length) : (frameOf a ds ν).put (ds.getD i none) v = frameOf a ds (updN ν i v) := by
 have hg : ds[i]? = some (ds.getD i none) := by rw [List.getD_eq_getElem?_getD, List.getElem?_eq_getElem hi]; rfl
 cases hd : ds.getD i none with
 | some d =>
   rw [hd] at hg;have := frameGo_upd ds a 0 ν i d v hn hg;rw [Nat.zero_add] at this;exact this
 | none =>
   rw [hd] at hg;show frameOf a ds ν = _;unfold frameOf;have key : ∀ (ds : List (Option Nat)) (a : Act) (k i : Nat), ds[i]? = some none → frameGo a ds k ν = frameGo a ds k (updN ν (k + i) v) := by
    intro ds
    induction ds with
    | nil => intro a k i h; simp at h
    | cons x ds ih =>
      intro a k i h;cases i with
      | zero =>
        simp only [List.getElem?_cons_zero, Option.some.injEq] at h;subst h;simp only [frameGo];exact frameGo_congr ds a (k + 1) ν _ (fun j hj => by simp only [updN]; rw [if_neg (by omega)])
      | succ i =>
        have h' : ds[i]? = some none := by simpa using h
        have e2 : k + 1 + i = k + (i + 1) := by omega
        cases x with
        | none => simp only [frameGo]; rw [ih a (k + 1) i h', e2]
        | some d' =>
          simp only [frameGo];have e : updN ν (k + (i + 1)) v k = ν k := by simp only [updN]; rw [if_neg (by omega)]
          rw [ih _ (k + 1) i h', e2, e]
   have := key ds a 0 i hg
   rwa [Nat.zero_add] at this
def frame0 (a : Act) (ds : List (Option Nat)) : Nat → Value := fun k => match ds.getD k none with
 | some d => a.tmps.getD d undef
 | none => undef
theorem set_self (t : Array Value) (d : Nat) : t.setIfInBounds d (t.getD d undef) = t := by
 apply Array.ext_getElem?
 intro k
 rw [Array.getElem?_setIfInBounds]
 by_cases e : d = k
 · subst e;rw [if_pos rfl];by_cases h : d < t.size
   · simp [h, Array.getD_eq_getD_getElem?]
   · rw [if_neg h, Array.getElem?_eq_none (by omega)]
 · rw [if_neg e]
theorem frame_start (a : Act) (ds : List (Option Nat)) : frameOf a ds (frame0 a ds) = a := by
 have key : ∀ (ds : List (Option Nat)) (k : Nat) (ν : Nat → Value), (∀ j d, ds[j]? = some (some d) → ν (k + j) = a.tmps.getD d undef) → frameGo a ds k ν = a := by
  intro ds
  induction ds with
  | nil => intro k ν _; rfl
  | cons x ds ih =>
    intro k ν h;have h' : ∀ j d, ds[j]? = some (some d) → ν (k + 1 + j) = a.tmps.getD d undef := fun j d hj => by
     have := h (j + 1) d (by simpa using hj)
     rwa [show k + (j + 1) = k + 1 + j by omega] at this
    cases x with
    | none => exact ih (k + 1) ν h'
    | some d =>
      have h0 := h 0 d (by simp);rw [Nat.add_zero] at h0;simp only [frameGo];rw [h0, set_self];exact ih (k + 1) ν h'
 refine key ds 0 _ (fun j d hj => ?_)
 rw [Nat.zero_add]
 unfold frame0
 have : ds.getD j none = some d := by rw [List.getD_eq_getElem?_getD, hj]; rfl
 rw [this]
theorem getD_set_at (L : Array Bool) (i : Nat) (h : i < L.size) : (L.setIfInBounds i true).getD i false = true := by
 rw [Array.getD_eq_getD_getElem?, Array.getElem?_setIfInBounds_self_of_lt h]
 rfl
theorem filt_one (p p' : Nat → Bool) (i : Nat) (hp : p i = true) (he : ∀ j, p' j = (j != i && p j)) : ∀ (L : List Nat), L.Nodup → i ∈ L → (L.filter p').length + 1 = (L.filter p).length := by
 intro L
 induction L with
 | nil => intro _ h; cases h
 | cons x L ih =>
   intro hn hm;rw [List.nodup_cons] at hn;by_cases e : x = i
   · subst e;have h1 : L.filter p' = L.filter p := List.filter_congr fun j hj => by
      rw [he];have : j ≠ x := fun e => hn.1 (e ▸ hj);simp [this]
     have h2 : p' x = false := by rw [he]; simp
     simp [List.filter_cons, hp, h2, h1]
   · have h2 : p' x = p x := by rw [he]; simp [e]
     have := ih hn.2 ((List.mem_cons.1 hm).resolve_left (fun h => e h.symm));simp only [List.filter_cons, h2]
     split <;> simp_all
theorem filt_ge (m : Nat) : ∀ n, ((List.range n).filter fun j => !decide (j < m)).length = n - m := by
 intro n
 induction n with
 | zero => simp
 | succ n ih =>
   rw [List.range_succ, List.filter_append, List.length_append, ih];by_cases h : n < m
   · simp [h]; omega
   · simp [h]; omega
def depB (l : List Oper) (i j : Nat) : Bool := ((l[i]?).map fun o => o.after.any fun e => Region.binds .any e && e.on == j).getD false
def freeOK (l : List Oper) (m : Nat) (ds : List (Option Nat)) : Bool :=
 decide (ds.length = m ∧ m ≤ l.length ∧ (ds.filterMap id).Nodup) && ((List.range m).all fun i => ((l[i]?).map fun o => o.dst == ds.getD i none && o.after.all fun e => !Region.binds .any e || decide (e.on < i)).getD false) &&
  ((List.range l.length).all fun j => (decide (j < m) || (List.range j).all fun i => reach l j i) && ((l[j]?).map fun o => o.after.all fun e => !Region.binds .any e || decide (e.on < j)).getD false)
inductive SpecK where
 | val (c : Value)
 | new (o : Obj)
 | any (p : Value → Nat → Nat → World → Prop)
abbrev Spec := Nat → Value → Nat → Nat → World → Prop
def specK : SpecK → Value → Nat → Nat → World → Prop
 | .val c, v, _, _, _ => v = c
 | .new o, v, lo, hi, w => v = .pointer (some ⟨lo, 0, none⟩) ∧ lo < hi ∧ w.heap[lo]? = some o
 | .any p, v, lo, hi, w => p v lo hi w
def specB (ks : List SpecK) : Spec := fun i v lo hi w => specK (ks.getD i (.any fun _ _ _ _ => True)) v lo hi w
def monoK : SpecK → Prop
 | .any p => ∀ v lo hi w w', Below w.heap.size w w' → p v lo hi w → p v lo hi w'
 | _ => True
theorem specB_mono {ks : List SpecK} (h : ∀ k ∈ ks, monoK k) : ∀ i v lo hi w w', Below w.heap.size w w' → specB ks i v lo hi w → specB ks i v lo hi w' := by
 intro i v lo hi w w' hb hs
 unfold specB at *
 have hk : monoK (ks.getD i (.any fun _ _ _ _ => True)) := by
  rw [List.getD_eq_getElem?_getD];cases e : ks[i]? with
  | none => exact fun _ _ _ _ _ _ h => h
  | some k => exact h k (List.mem_of_getElem? e)
 generalize ks.getD i (.any fun _ _ _ _ => True) = k at *
 cases k with
 | val c => exact hs
 | new o => exact ⟨hs.1, hs.2.1, block_ext hb hs.2.2⟩
 | any p => exact hk v lo hi w w' hb hs
section
variable {P : Program} {l : List Oper} {Q : Exit → Act → World → Prop}
theorem free_tail (m : Nat) (hok : ∀ j, m ≤ j → j < l.length → ∀ i, i < j → reach l j i = true) (hup : ∀ j o, l[j]? = some o → ∀ e ∈ o.after, Region.binds .any e = true → e.on < j) :
  ∀ (k j : Nat) (listed : Array Bool) (a : Act) (w : World), l.length - j = k → m ≤ j → j ≤ l.length → listed.size = l.length → (∀ i, i < l.length → listed.getD i false = decide (i < j)) → Closed l listed → wpList P l.toArray Q (l.drop j) a w → wpAny P .any l.toArray Q k listed a w := by
 intro k
 induction k with
 | zero =>
   intro j listed a w hk hm hj hs hL hc h;have hr : Region.ready .any l.toArray listed = [] := by
    cases hr : Region.ready .any l.toArray listed with
    | nil => rfl
    | cons i r =>
      have hi : i ∈ Region.ready .any l.toArray listed := by rw [hr]; simp
      obtain ⟨h1, o, ho, _⟩ := mem_ready.1 hi;have hlt : i < l.length := by have := (Array.getElem?_eq_some_iff.1 ho).1; simpa using this
      have h2 := hL i hlt;have e : listed.getD i true = listed.getD i false := by simp [hs, hlt]
      rw [e, h2] at h1;simp at h1;omega
   rw [List.drop_of_length_le (by omega)] at h;exact ⟨hr, h⟩
 | succ k ih =>
   intro j listed a w hk hm hj hs hL hc h;have hjl : j < l.length := by omega
   have hj0 : l[j]? = some l[j] := List.getElem?_eq_getElem hjl;have only : ∀ i ∈ Region.ready .any l.toArray listed, i = j := fun i hi => by
    obtain ⟨h1, o, ho, _⟩ := mem_ready.1 hi;have hlt : i < l.length := by have := (Array.getElem?_eq_some_iff.1 ho).1; simpa using this
    have h2 := hL i hlt;have e : listed.getD i true = listed.getD i false := by simp [hs, hlt]
    rw [e, h2] at h1;simp at h1;by_cases hij : i = j
    · exact hij
    · obtain ⟨n, hn⟩ := reach_sound (hok i (by omega) hlt j (by omega));have h3 := waits_ready hc hi hn;rw [hL j hjl] at h3;simp at h3
   have hrj : j ∈ Region.ready .any l.toArray listed := by
    refine mem_ready.2 ⟨?_, l[j], by simp [hjl], fun e he hb => ?_⟩
    · have e : listed.getD j true = listed.getD j false := by simp [hs, hjl]
      rw [e, hL j hjl];simp
    · have hon := hup j l[j] hj0 e he hb;rw [hL e.on (by omega)];simpa using hon
   refine ⟨fun h0 => absurd hrj (by rw [h0]; simp), fun i hi => ?_⟩;obtain rfl := only i hi;rw [List.drop_eq_getElem_cons hjl] at h;have hget : l.toArray[i]? = some l[i] := by simp [hjl]
   unfold wpOp;simp only [hget];have hnext : ∀ a' w', wpList P l.toArray Q (l.drop (i + 1)) a' w' → wpAny P .any l.toArray Q k (listed.setIfInBounds i true) a' w' := fun a' w' h' => by
    refine ih (i + 1) _ a' w' (by omega) (by omega) (by omega) (by simpa using hs) (fun q hq => ?_) (hc.set hrj) h';by_cases e : i = q
    · subst e;rw [getD_set_at _ _ (by rw [hs]; exact hjl)];simp
    · rw [getD_set_ne false e, hL q hq];rw [decide_eq_decide];omega
   rw [wpList] at h
   split
   · rename_i hw
     rw [if_pos hw] at h;exact h.imp (fun h => Oper.wp_mono hnext h) id
   · rename_i hw
     rw [if_neg hw] at h;exact hnext _ _ h
theorem free_any {P : Program} {l : List Oper} {Q : Exit → Act → World → Prop} (m : Nat) (ds : List (Option Nat)) (hok : freeOK l m ds = true) (S : Spec) (a0 : Act) (w0 : World)
  (hmono : ∀ i v lo hi w w', Below w.heap.size w w' → S i v lo hi w → S i v lo hi w')
  (hops : ∀ i, i < m → ∀ (ν : Nat → Value) (lo hi : Nat → Nat) (w : World) (K : Act → World → Prop), Below w0.heap.size w0 w → (∀ j, depB l i j = true → S j (ν j) (lo j) (hi j) w) →
    (∀ v w', Below w.heap.size w w' → S i v w.heap.size w'.heap.size w' → K ((frameOf a0 ds ν).put (ds.getD i none) v) w') → wpOp P l.toArray Q i K (frameOf a0 ds ν) w)
  (hend : ∀ (ν : Nat → Value) (lo hi : Nat → Nat) (w : World), Below w0.heap.size w0 w → (∀ i, i < m → S i (ν i) (lo i) (hi i) w) → (∀ i, i < m → w0.heap.size ≤ lo i ∧ lo i ≤ hi i ∧ hi i ≤ w.heap.size) →
    (∀ i j, i < m → j < m → i ≠ j → hi i ≤ lo j ∨ hi j ≤ lo i) → wpList P l.toArray Q (l.drop m) (frameOf a0 ds ν) w) :
  wpAny P .any l.toArray Q l.length (Array.replicate l.length false) a0 w0 := by
 simp only [freeOK, Bool.and_eq_true, decide_eq_true_eq, List.all_eq_true, List.mem_range] at hok
 obtain ⟨⟨⟨hds, hml, hnd⟩, h1⟩, h2⟩ := hok
 have hup : ∀ j o, l[j]? = some o → ∀ e ∈ o.after, Region.binds .any e = true → e.on < j := fun j o hj e he hb => by
  have hlt : j < l.length := (List.getElem?_eq_some_iff.1 hj).1;have := (h2 j hlt).2;rw [hj] at this;simp only [Option.map_some, Option.getD_some] at this;have := (Array.all_eq_true'.1 this) e he;simpa [hb] using this
 have htail : ∀ j, m ≤ j → j < l.length → ∀ i, i < j → reach l j i = true := fun j hj hlt i hi => by
  have := (h2 j hlt).1;simp only [Bool.or_eq_true, decide_eq_true_eq, List.all_eq_true, List.mem_range] at this;exact (this.resolve_left (by omega)) i hi
 have key : ∀ (fuel : Nat) (listed : Array Bool) (ν : Nat → Value) (lo hi : Nat → Nat) (w : World), ((List.range l.length).filter fun j => !listed.getD j true).length = fuel → listed.size = l.length → Closed l listed →
   (∀ j, m ≤ j → listed.getD j false = false) → Below w0.heap.size w0 w → (∀ i, i < m → listed.getD i false = true → S i (ν i) (lo i) (hi i) w ∧ w0.heap.size ≤ lo i ∧ lo i ≤ hi i ∧ hi i ≤ w.heap.size) →
   (∀ i j, i < m → j < m → i ≠ j → listed.getD i false = true → listed.getD j false = true → hi i ≤ lo j ∨ hi j ≤ lo i) → wpAny P .any l.toArray Q fuel listed (frameOf a0 ds ν) w := by
  intro fuel
  induction fuel with
  | zero =>
    intro listed ν lo hi w hf hs hc htl hB hS hD;by_cases hall : ∀ i, i < m → listed.getD i false = true
    · have hL : ∀ i, i < l.length → listed.getD i false = decide (i < m) := fun i _ => by
       by_cases h : i < m
       · rw [hall i h]; simp [h]
       · rw [htl i (by omega)]; simp [h]
      have hcnt : l.length - m = 0 := by
       rw [← hf, ← filt_ge m l.length]
       congr 1
       refine List.filter_congr fun j hj => ?_;have hj := List.mem_range.1 hj;have e : listed.getD j true = listed.getD j false := by simp [hs, hj]
       rw [e, hL j hj]
      exact free_tail m htail hup 0 m listed _ w hcnt (Nat.le_refl _) hml hs hL hc (hend ν lo hi w hB (fun i h => (hS i h (hall i h)).1) (fun i h => (hS i h (hall i h)).2) (fun i j h h' hne => hD i j h h' hne (hall i h) (hall j h')))
    · exfalso;have ⟨i, hi⟩ := Classical.not_forall.1 hall;have ⟨him, hin⟩ := Classical.not_imp.1 hi;have hlt : i < l.length := by omega
      have hmem : i ∈ (List.range l.length).filter fun j => !listed.getD j true := by
       rw [List.mem_filter, List.mem_range];refine ⟨hlt, ?_⟩;have e : listed.getD i true = listed.getD i false := by simp [hs, hlt]
       rw [e];simpa using hin
      rw [List.eq_nil_of_length_eq_zero hf] at hmem;cases hmem
  | succ fuel ih =>
    intro listed ν lo hi w hf hs hc htl hB hS hD;by_cases hall : ∀ i, i < m → listed.getD i false = true
    · have hL : ∀ i, i < l.length → listed.getD i false = decide (i < m) := fun i _ => by
       by_cases h : i < m
       · rw [hall i h]; simp [h]
       · rw [htl i (by omega)]; simp [h]
      have hcnt : l.length - m = fuel + 1 := by
       rw [← hf, ← filt_ge m l.length]
       congr 1
       refine List.filter_congr fun j hj => ?_;have hj := List.mem_range.1 hj;have e : listed.getD j true = listed.getD j false := by simp [hs, hj]
       rw [e, hL j hj]
      exact free_tail m htail hup (fuel + 1) m listed _ w hcnt (Nat.le_refl _) hml hs hL hc (hend ν lo hi w hB (fun i h => (hS i h (hall i h)).1) (fun i h => (hS i h (hall i h)).2) (fun i j h h' hne => hD i j h h' hne (hall i h) (hall j h')))
    · -- the least that is to come
      have hex : ∀ k, (∃ i, i < m ∧ i ≤ k ∧ listed.getD i false = false) → ∃ i, i < m ∧ listed.getD i false = false ∧ ∀ j, j < i → listed.getD j false = true := by
       intro k
       induction k with
       | zero =>
         rintro ⟨i, h1, h2, h3⟩;exact ⟨i, h1, h3, fun j hj => by omega⟩
       | succ k ihk =>
         rintro ⟨i, h1, h2, h3⟩;by_cases h : ∃ i, i < m ∧ i ≤ k ∧ listed.getD i false = false
         · exact ihk h
         · refine ⟨i, h1, h3, fun j hj => ?_⟩;cases e : listed.getD j false with
           | true => rfl
           | false => exact absurd ⟨j, by omega, by omega, e⟩ h
      have ⟨i1, hi1⟩ := Classical.not_forall.1 hall;have ⟨him1, hin1⟩ := Classical.not_imp.1 hi1;obtain ⟨i0, h0m, h0f, h0all⟩ := hex i1 ⟨i1, him1, Nat.le_refl _, by simpa using hin1⟩;have h0l : i0 < l.length := by omega
      have hr0 : i0 ∈ Region.ready .any l.toArray listed := by
       refine mem_ready.2 ⟨?_, l[i0], by simp [h0l], fun e he hb => h0all e.on (hup i0 l[i0] (List.getElem?_eq_getElem h0l) e he hb)⟩;have e : listed.getD i0 true = listed.getD i0 false := by simp [hs, h0l]
       rw [e, h0f]
      refine ⟨fun h => absurd hr0 (by rw [h]; simp), fun i hir => ?_⟩;obtain ⟨hi1', o, ho, hdep⟩ := mem_ready.1 hir;have hil : i < l.length := by have := (Array.getElem?_eq_some_iff.1 ho).1; simpa using this
      have hif : listed.getD i false = false := by
       have e : listed.getD i true = listed.getD i false := by simp [hs, hil]
       rw [← e]; exact hi1'
      have him : i < m := by
       apply Classical.byContradiction;intro hge;obtain ⟨n, hn⟩ := reach_sound (htail i (by omega) hil i0 (by omega));have h9 := waits_ready hc hir hn;rw [h0f] at h9;cases h9
      refine hops i him ν lo hi w _ hB (fun j hj => ?_) (fun v w' hb hsp => ?_)
      · have ho' : l[i]? = some o := by simpa using ho
        simp only [depB, ho', Option.map_some, Option.getD_some] at hj;obtain ⟨e, he, hbe⟩ := Array.any_eq_true'.1 hj;simp only [Bool.and_eq_true, beq_iff_eq] at hbe;have hlj : listed.getD j false = true := hbe.2 ▸ hdep e he hbe.1;have hji : j < i := hbe.2 ▸ hup i o ho' e he hbe.1;exact (hS j (by omega) hlj).1
      · rw [frame_put a0 ds ν i v hnd (by omega)];have hsz := hb.size;refine ih (listed.setIfInBounds i true) (updN ν i v) (updN lo i w.heap.size) (updN hi i w'.heap.size) w' ?_ (by simpa using hs) (hc.set hir) (fun j hj => ?_) (hB.trans (hb.mono hB.size)) (fun j hj hlj => ?_) (fun j k hj hk hne hlj hlk => ?_)
        · have := filt_one (fun j => !listed.getD j true) (fun j => !(listed.setIfInBounds i true).getD j true) i (by simp [hi1']) (fun j => by
           by_cases e : i = j
           · subst e;have : (listed.setIfInBounds i true).getD i true = true := by
              have h1 := getD_set_at listed i (by rw [hs]; exact hil);rw [Array.getD_eq_getD_getElem?] at h1 ⊢;cases h2 : (listed.setIfInBounds i true)[i]? with
              | none => rfl
              | some b => rw [h2] at h1; exact h1
             simp [this]
           · have e' : (j != i) = true := by simpa using fun h => e h.symm
             rw [getD_set_ne true e, e', Bool.true_and]) (List.range l.length) List.nodup_range (List.mem_range.2 hil)
          omega
        · rw [getD_set_ne false (by omega)];exact htl j hj
        · by_cases e : i = j
          · subst e;simp only [updN, if_pos rfl];exact ⟨hsp, hB.size, hsz, Nat.le_refl _⟩
          · have e' : ¬ j = i := fun h => e h.symm;rw [getD_set_ne false e] at hlj;simp only [updN, if_neg e'];obtain ⟨s1, s2, s3, s4⟩ := hS j hj hlj;exact ⟨hmono j _ _ _ w w' hb s1, s2, s3, by omega⟩
        · by_cases ej : i = j
          · subst ej;have e' : ¬ k = i := fun h => hne h.symm;rw [getD_set_ne false hne] at hlk;obtain ⟨_, s2, s3, s4⟩ := hS k hk hlk;simp only [updN, if_pos rfl, if_neg e'];exact .inr s4
          · have ej' : ¬ j = i := fun h => ej h.symm;rw [getD_set_ne false ej] at hlj;obtain ⟨_, s2, s3, s4⟩ := hS j hj hlj;by_cases ek : i = k
            · subst ek;simp only [updN, if_pos rfl, if_neg ej'];exact .inl s4
            · have ek' : ¬ k = i := fun h => ek h.symm;rw [getD_set_ne false ek] at hlk;simp only [updN, if_neg ej', if_neg ek'];exact hD j k hj hk hne hlj hlk
 have h3 := key l.length (Array.replicate l.length false) (frame0 a0 ds) (fun _ => 0) (fun _ => 0) w0 (by
  have : (List.range l.length).filter (fun j => !(Array.replicate l.length false).getD j true) = List.range l.length := by
   rw [List.filter_eq_self];intro j hj;have := List.mem_range.1 hj;simp [this]
  rw [this]; simp) (by simp) (closed_none _) (fun j hj => by
  by_cases h : j < l.length <;> simp [h]) (Below.refl _ _) (fun i hi h => by
  by_cases h' : i < l.length
  · simp [h'] at h
  · omega) (fun i j hi hj _ h => by
  by_cases h' : i < l.length
  · simp [h'] at h
  · omega)
 rwa [frame_start] at h3
theorem region_free {id : Nat} {a : Act} {w : World} (m : Nat) (ds : List (Option Nat)) (hm : P.follows .mixedOrders = true) (hok : freeOK l m ds = true) (S : Spec)
  (hmono : ∀ i v lo hi w w', Below w.heap.size w w' → S i v lo hi w → S i v lo hi w')
  (hops : ∀ i, i < m → ∀ (ν : Nat → Value) (lo hi : Nat → Nat) (w' : World) (K : Act → World → Prop), Below w.heap.size w w' → (∀ j, depB l i j = true → S j (ν j) (lo j) (hi j) w') →
    (∀ v w'', Below w'.heap.size w' w'' → S i v w'.heap.size w''.heap.size w'' → K ((frameOf a ds ν).put (ds.getD i none) v) w'') → wpOp P l.toArray Q i K (frameOf a ds ν) w')
  (hend : ∀ (ν : Nat → Value) (lo hi : Nat → Nat) (w' : World), Below w.heap.size w w' → (∀ i, i < m → S i (ν i) (lo i) (hi i) w') → (∀ i, i < m → w.heap.size ≤ lo i ∧ lo i ≤ hi i ∧ hi i ≤ w'.heap.size) →
    (∀ i j, i < m → j < m → i ≠ j → hi i ≤ lo j ∨ hi j ≤ lo i) → wpList P l.toArray Q (l.drop m) (frameOf a ds ν) w') :
  (Code.region id l.toArray true).wp P Q a w := by
 refine wp_region_any hm ?_
 have := free_any (P := P) (l := l) (Q := Q) m ds hok S a w.drew hmono (fun i hi ν lo hi' w' K hB => hops i hi ν lo hi' w' K (unDrew1 hB)) (fun ν lo hi w' hB => hend ν lo hi w' (unDrew1 hB))
 simpa using this
theorem round_free {id : Nat} {a : Act} {w : World} {lp : Nat} (m : Nat) (ds : List (Option Nat)) (hm : P.follows .mixedOrders = true) (hn : l.all notDefer = true) (hQ : ¬ LetsOut Q) (hok : freeOK l m ds = true) (S : Spec)
  (hmono : ∀ i v lo hi w w', Below w.heap.size w w' → S i v lo hi w → S i v lo hi w')
  (hops : ∀ i, i < m → ∀ (ν : Nat → Value) (lo hi : Nat → Nat) (w' : World) (K : Act → World → Prop), Below w.heap.size w w' → (∀ j, depB l i j = true → S j (ν j) (lo j) (hi j) w') →
    (∀ v w'', Below w'.heap.size w' w'' → S i v w'.heap.size w''.heap.size w'' → K ((frameOf a ds ν).put (ds.getD i none) v) w'') → wpOp P l.toArray Q i K (frameOf a ds ν) w')
  (hend : ∀ (ν : Nat → Value) (lo hi : Nat → Nat) (w' : World), Below w.heap.size w w' → (∀ i, i < m → S i (ν i) (lo i) (hi i) w') → (∀ i, i < m → w.heap.size ≤ lo i ∧ lo i ≤ hi i ∧ hi i ≤ w'.heap.size) →
    (∀ i j, i < m → j < m → i ≠ j → hi i ≤ lo j ∨ hi j ≤ lo i) → wpList P l.toArray Q (l.drop m) (frameOf a ds ν) w') :
  (Code.region id l.toArray true).wpIn (Fence.wide.inRound lp) 0 P Q a w := by
 refine wpIn_region_draw fun t => ?_
 refine wpOpsIn_of lp (fun i o ho => ?_) hQ _ _ _ ?_
 · rw [List.all_eq_true] at hn
   exact hn o (by
    have : l[i]? = some o := by simpa using ho
    exact List.mem_of_getElem? this)
 · simp only [Region.schedule, hm, Bool.true_or, if_true];refine wpAny_sound _ t _ a _ ?_;have := free_any (P := P) (l := l) (Q := Q) m ds hok S a w.drew hmono (fun i hi ν lo hi' w' K hB => hops i hi ν lo hi' w' K (unDrew1 hB)) (fun ν lo hi w' hB => hend ν lo hi w' (unDrew1 hB));simpa using this
theorem wpOp_atK {e : Nat} {o : Oper} {K : Act → World → Prop} {a : Act} {w : World} (ho : l[e]? = some o) (hg : o.guard = none) (h : o.wp P a w K Q) : wpOp P l.toArray Q e K a w := wpOp_at ho hg h
end
theorem zA (a : Act) (ds : List (Option Nat)) (v : Nat → Value) : frameOf a ds v = frameGo a ds 0 v := rfl
theorem zB (a : Act) (k : Nat) (v : Nat → Value) : frameGo a [] k v = a := rfl
theorem zC (a : Act) (ds : List (Option Nat)) (k : Nat) (v : Nat → Value) : frameGo a (none :: ds) k v = frameGo a ds (k + 1) v := rfl
theorem zD (a : Act) (d : Nat) (ds : List (Option Nat)) (k : Nat) (v : Nat → Value) : frameGo a (some d :: ds) k v = frameGo { tmps := a.tmps.setIfInBounds d (v k), defers := a.defers } ds (k + 1) v := rfl
theorem zE {α : Type} (x d : α) (l : List α) : (x :: l).getD 0 d = x := rfl
theorem zF {α : Type} (x d : α) (l : List α) (n : Nat) : (x :: l).getD (n + 1) d = l.getD n d := rfl
theorem zG {α : Type} (l : List α) (i : Nat) (x : α) : l.toArray.setIfInBounds i x = (l.set i x).toArray := List.setIfInBounds_toArray l i x
theorem zH {α : Type} (a : α) (l : List α) (n : Nat) (b : α) : (a :: l).set (n + 1) b = a :: l.set n b := rfl
theorem zJ (a : Act) (d : Nat) (v : Value) : a.put (some d) v = { tmps := a.tmps.setIfInBounds d v, defers := a.defers } := rfl
theorem zK (a : Act) (v : Value) : a.put none v = a := rfl
theorem zI {α : Type} (a : α) (l : List α) (b : α) : (a :: l).set 0 b = b :: l := rfl
end

section
open Go.RowKit
theorem size_walk : (Tryz.prog.info? 116).map (·.size) = some 4 := by kernel_rfl
theorem WalkOK.nx_lt {w : World} {d : WalkD} {ts : List TermD} (h : goodB ts = true) : (∀ k y, y ∈ nx ts k → y < 200) ∧ (∀ k y, y ∈ pv ts k → y < 200) := by
 have hl := ((goodB_iff ts).1 h).1
 refine ⟨fun k y hy => ?_, fun k y hy => ?_⟩
 · have := good_nx h hy; omega
 · have hk := (mem_pv ts k y).1 hy;by_cases hy2 : y < ts.length
   · omega
   · rw [nx_none ts y (by omega)] at hk; cases hk
theorem WalkOK.nx_to {w : World} {d : WalkD} {ts : List TermD} (h : goodB ts = true) (hok : WalkOK w d ts) (f : Nat → Bool) : (∀ k y, y ∈ nx ts k → y < 200 ∧ (f y = true → y < d.bn)) ∧ (∀ k y, y ∈ pv ts k → y < 200 ∧ (f y = true → y < d.bn)) := by
 have hl := ((goodB_iff ts).1 h).1
 rw [← hok.1]
 refine ⟨fun k y hy => ?_, fun k y hy => ?_⟩
 · have := good_nx h hy; exact ⟨by omega, fun _ => by omega⟩
 · have hk := (mem_pv ts k y).1 hy;by_cases hy2 : y < ts.length
   · exact ⟨by omega, fun _ => hy2⟩
   · rw [nx_none ts y (by omega)] at hk; cases hk
theorem knot_any (d : WalkD) (ts : List TermD) (b : Nat) (f : Nat → Bool) (w : World) (hb : b < 200) (hok : WalkOK w d ts) (hg : goodB ts = true) (hcf : Canon f) (hf : f b = true → b < d.bn) :
  Calls Tryz.prog 130 #[walkV d, .int .i64 (b : Int), .agg (setA f)] w (SetPost w (knotS ts b f)) := by
 have HOK := Lib.hid hok
 have HF := Lib.hid hf
 have HCF := Lib.hid hcf
 have HX := Lib.hid (WalkOK.nx_to hg hok f)
 clear hok hg hcf hf
 go_enter Tryz.func130, Tryz.ntmps130
 go_upto_region 1 with (fail)
 obtain ⟨W, hW⟩ : ∃ W, W = ((w.alloc (walkO d)).alloc (setO f)).alloc (.cells Tryz.zeroCells124 124) := ⟨_, rfl⟩
 rw [← hW]
 have hk : W.heap[w.heap.size]? = some (walkO d) := by rw [hW, Below.heap_alloc _ _ _ (by simp; omega), Below.heap_alloc _ _ _ (by simp)]; exact heap_alloc_new _ _
 have hs : W.heap[w.heap.size + 1]? = some (setO f) := by rw [hW, Below.heap_alloc _ _ _ (by simp)]; exact heap_at _ _ _ (by simp)
 have hr : W.heap[w.heap.size + 1 + 1]? = some (setO fun _ => false) := by rw [hW, heap_at _ _ _ (by simp), zero_set]
 have hB : Below w.heap.size w W := by rw [hW]; exact ((ext_alloc _ _).alloc (by simp) _).alloc (by simp; omega) _
 have hWs : W.heap.size = w.heap.size + 1 + 1 + 1 := by rw [hW]; simp
 have HWs := Lib.hid hWs
 have HK := Lib.hid hk
 have HS := Lib.hid hs
 have HR := Lib.hid hr
 have HB := Lib.hid hB
 have HC2 : Hid (W.cell? ⟨w.heap.size, 2, none⟩ = some (.slice d.ta d.bn d.tc)) := by rw [Hid, cell_of_row _ _ _ _ _ _ hk]; rfl
 have HC3 : Hid (W.cell? ⟨w.heap.size, 3, none⟩ = some (.slice d.fa d.bn d.fc)) := by rw [Hid, cell_of_row _ _ _ _ _ _ hk]; rfl
 clear hW hWs hk hs hr hB
 go_cut [7, 8] (fun s7 s8 wr => ∃ p7 p8 : Nat, s7 = .pointer (some ⟨p7, 0, none⟩) ∧ s8 = .pointer (some ⟨p8, 0, none⟩) ∧ w.heap.size + 1 + 1 + 1 ≤ p7 ∧ w.heap.size + 1 + 1 + 1 ≤ p8 ∧ p7 ≠ p8 ∧ Hid (wr.heap[p7]? = some (setO (walkF (nx ts) f b))) ∧ Hid (wr.heap[p8]? = some (setO (walkF (pv ts) f b))) ∧ Hid (wr.heap[w.heap.size + 1 + 1]? = some (setO fun _ => false)) ∧ Hid (Below w.heap.size w wr))
 case first =>
  refine region_free 14 [some 10, some 11, some 12, some 13, some 14, some 15, some 16, some 17, some 18, some 19, some 20, some 21, some 7, some 8] (by kernel_rfl) (by kernel_rfl) (specB [.val (walkV d), .val (.int .i64 (b : Int)), .val (.agg (setA f)), .val (.pointer (some ⟨w.heap.size, 2, none⟩)), .val (.slice d.ta d.bn d.tc), .val (.agg (setA (walkF (nx ts) f b))), .val (walkV d), .val (.int .i64 (b : Int)), .val (.agg (setA f)), .val (.pointer (some ⟨w.heap.size, 3, none⟩)), .val (.slice d.fa d.bn d.fc), .val (.agg (setA (walkF (pv ts) f b))), .new (setO fun _ => false), .new (setO fun _ => false)]) (specB_mono ?_) ?_ ?_
  · intro k hk;simp only [List.mem_cons, List.not_mem_nil, or_false] at hk;rcases hk with rfl | rfl | rfl | rfl | rfl | rfl | rfl | rfl | rfl | rfl | rfl | rfl | rfl | rfl
    · exact trivial
    · exact trivial
    · exact trivial
    · exact trivial
    · exact trivial
    · exact trivial
    · exact trivial
    · exact trivial
    · exact trivial
    · exact trivial
    · exact trivial
    · exact trivial
    · exact trivial
    · exact trivial
  · intro i hi ν lo hi' w1 K hB hD hK;have hcase : i = 0 ∨ i = 1 ∨ i = 2 ∨ i = 3 ∨ i = 4 ∨ i = 5 ∨ i = 6 ∨ i = 7 ∨ i = 8 ∨ i = 9 ∨ i = 10 ∨ i = 11 ∨ i = 12 ∨ i = 13 := by omega
    clear hi;rcases hcase with rfl | rfl | rfl | rfl | rfl | rfl | rfl | rfl | rfl | rfl | rfl | rfl | rfl | rfl
    · clear hD;refine wpOp_atK rfl rfl ?_;simp only [zA,zB,zC,zD,zE,zF,zJ,zK,zG,zH,zI] at hK ⊢;refine wp_load_row 116 _ rfl w.heap.size rfl 116 _ (0, 0) _ (block_ext hB HK.out) Tryz.underlying116 rfl size_walk ?_;exact hK _ _ (Below.refl _ _) rfl
    · clear hD;refine wpOp_atK rfl rfl ?_;simp only [zA,zB,zC,zD,zE,zF,zJ,zK,zG,zH,zI] at hK ⊢;go_simp;exact hK _ _ (Below.refl _ _) rfl
    · clear hD;refine wpOp_atK rfl rfl ?_;simp only [zA,zB,zC,zD,zE,zF,zJ,zK,zG,zH,zI] at hK ⊢;refine wp_load_row 124 _ rfl (w.heap.size + 1) rfl 124 _ (0, 0) _ (block_ext hB HS.out) Tryz.underlying124 rfl (by rw [setA_size]; exact size_set) ?_;exact hK _ _ (Below.refl _ _) rfl
    · clear hD;refine wpOp_atK rfl rfl ?_;simp only [zA,zB,zC,zD,zE,zF,zJ,zK,zG,zH,zI] at hK ⊢;go_simp;exact hK _ _ (Below.refl _ _) rfl
    · have e3 := hD 3 (by kernel_rfl)
      replace e3 : ν 3 = (.pointer (some ⟨w.heap.size, 2, none⟩)) := e3
      clear hD;refine wpOp_atK rfl rfl ?_;simp only [zA,zB,zC,zD,zE,zF,zJ,zK,zG,zH,zI, e3] at hK ⊢;have c0 := cell_ext hB HC2.out;go_simp;exact hK _ _ (Below.refl _ _) rfl
    · have e0 := hD 0 (by kernel_rfl)
      replace e0 : ν 0 = (walkV d) := e0
      have e1 := hD 1 (by kernel_rfl)
      replace e1 : ν 1 = (.int .i64 (b : Int)) := e1
      have e2 := hD 2 (by kernel_rfl)
      replace e2 : ν 2 = (.agg (setA f)) := e2
      have e4 := hD 4 (by kernel_rfl)
      replace e4 : ν 4 = (.slice d.ta d.bn d.tc) := e4
      clear hD;refine wpOp_atK rfl rfl ?_;simp only [zA,zB,zC,zD,zE,zF,zJ,zK,zG,zH,zI, e0, e1, e2, e4] at hK ⊢;go_simp;refine (walk_at d b f d.ta d.bn d.tc (toRows ts) (nx ts) w1 hb HOK.out.2.1 HCF.out HF.out (fun k hk => by simp [toRows, HOK.out.1, hk]) HX.out.1 ((HOK.out.2.2.1).ext (ext_trans HB.out hB))).mono ?_;rintro e w2 ⟨rfl, hb2⟩;exact hK _ _ hb2 rfl
    · clear hD;refine wpOp_atK rfl rfl ?_;simp only [zA,zB,zC,zD,zE,zF,zJ,zK,zG,zH,zI] at hK ⊢;refine wp_load_row 116 _ rfl w.heap.size rfl 116 _ (0, 0) _ (block_ext hB HK.out) Tryz.underlying116 rfl size_walk ?_;exact hK _ _ (Below.refl _ _) rfl
    · clear hD;refine wpOp_atK rfl rfl ?_;simp only [zA,zB,zC,zD,zE,zF,zJ,zK,zG,zH,zI] at hK ⊢;go_simp;exact hK _ _ (Below.refl _ _) rfl
    · clear hD;refine wpOp_atK rfl rfl ?_;simp only [zA,zB,zC,zD,zE,zF,zJ,zK,zG,zH,zI] at hK ⊢;refine wp_load_row 124 _ rfl (w.heap.size + 1) rfl 124 _ (0, 0) _ (block_ext hB HS.out) Tryz.underlying124 rfl (by rw [setA_size]; exact size_set) ?_;exact hK _ _ (Below.refl _ _) rfl
    · clear hD;refine wpOp_atK rfl rfl ?_;simp only [zA,zB,zC,zD,zE,zF,zJ,zK,zG,zH,zI] at hK ⊢;go_simp;exact hK _ _ (Below.refl _ _) rfl
    · have e9 := hD 9 (by kernel_rfl)
      replace e9 : ν 9 = (.pointer (some ⟨w.heap.size, 3, none⟩)) := e9
      clear hD;refine wpOp_atK rfl rfl ?_;simp only [zA,zB,zC,zD,zE,zF,zJ,zK,zG,zH,zI, e9] at hK ⊢;have c0 := cell_ext hB HC3.out;go_simp;exact hK _ _ (Below.refl _ _) rfl
    · have e5 := hD 5 (by kernel_rfl)
      replace e5 : ν 5 = (.agg (setA (walkF (nx ts) f b))) := e5
      have e6 := hD 6 (by kernel_rfl)
      replace e6 : ν 6 = (walkV d) := e6
      have e7 := hD 7 (by kernel_rfl)
      replace e7 : ν 7 = (.int .i64 (b : Int)) := e7
      have e8 := hD 8 (by kernel_rfl)
      replace e8 : ν 8 = (.agg (setA f)) := e8
      have e10 := hD 10 (by kernel_rfl)
      replace e10 : ν 10 = (.slice d.fa d.bn d.fc) := e10
      clear hD;refine wpOp_atK rfl rfl ?_;simp only [zA,zB,zC,zD,zE,zF,zJ,zK,zG,zH,zI, e5, e6, e7, e8, e10] at hK ⊢;go_simp;refine (walk_at d b f d.fa d.bn d.fc (fromRows ts) (pv ts) w1 hb HOK.out.2.1 HCF.out HF.out (fun k hk => by simp [fromRows, HOK.out.1, hk]) HX.out.2 ((HOK.out.2.2.2).ext (ext_trans HB.out hB))).mono ?_;rintro e w2 ⟨rfl, hb2⟩;exact hK _ _ hb2 rfl
    · clear hD;refine wpOp_atK rfl rfl ?_;simp only [zA,zB,zC,zD,zE,zF,zJ,zK,zG,zH,zI] at hK ⊢;go_simp;refine hK _ _ (ext_alloc _ _) ⟨rfl, by simp, ?_⟩;rw [heap_alloc_new, zero_set]
    · clear hD;refine wpOp_atK rfl rfl ?_;simp only [zA,zB,zC,zD,zE,zF,zJ,zK,zG,zH,zI] at hK ⊢;go_simp;refine hK _ _ (ext_alloc _ _) ⟨rfl, by simp, ?_⟩;rw [heap_alloc_new, zero_set]
  · intro ν lo hi w1 hB hS hI hD;have e0 : ν 0 = (walkV d) := hS 0 (by omega);have e1 : ν 1 = (.int .i64 (b : Int)) := hS 1 (by omega);have e2 : ν 2 = (.agg (setA f)) := hS 2 (by omega);have e3 : ν 3 = (.pointer (some ⟨w.heap.size, 2, none⟩)) := hS 3 (by omega);have e4 : ν 4 = (.slice d.ta d.bn d.tc) := hS 4 (by omega);have e5 : ν 5 = (.agg (setA (walkF (nx ts) f b))) := hS 5 (by omega);have e6 : ν 6 = (walkV d) := hS 6 (by omega);have e7 : ν 7 = (.int .i64 (b : Int)) := hS 7 (by omega);have e8 : ν 8 = (.agg (setA f)) := hS 8 (by omega);have e9 : ν 9 = (.pointer (some ⟨w.heap.size, 3, none⟩)) := hS 9 (by omega);have e10 : ν 10 = (.slice d.fa d.bn d.fc) := hS 10 (by omega);have e11 : ν 11 = (.agg (setA (walkF (pv ts) f b))) := hS 11 (by omega);obtain ⟨e12, l12, h12⟩ := hS 12 (by omega);obtain ⟨e13, l13, h13⟩ := hS 13 (by omega);clear hS;simp only [List.drop_succ_cons, List.drop_zero, zA,zB,zC,zD,zE,zF,zJ,zK,zG,zH,zI, e0, e1, e2, e3, e4, e5, e6, e7, e8, e9, e10, e11, e12, e13];have i12 := hI 12 (by omega);have i13 := hI 13 (by omega);have hne : lo 12 ≠ lo 13 := by
     have := hD 12 13 (by omega) (by omega) (by omega);omega
    rw [HWs.out] at i12 i13;have hr1 := block_ext hB HR.out;have HBw : Hid (Below w.heap.size w w1) := ext_trans HB.out hB;generalize lo 12 = p7 at *;generalize lo 13 = p8 at *;have h13' : (w1.setRow p7 (setA (walkF (nx ts) f b))).heap[p8]? = some (setO fun _ => false) := (setRow_other _ _ _ _ (by omega)).trans h13;have H12 := Lib.hid h12;have H13 := Lib.hid h13';have HR1 := Lib.hid hr1;have HI12 := i12.1;have HI13 := i13.1;clear hI hD hB e0 e1 e2 e3 e4 e5 e6 e7 e8 e9 e10 e11 e12 e13 h12 h13 h13' hr1 i12 i13
    go_wp2_with (first
     | (refine wpList_store_row rfl 124 _ _ rfl p7 (setA (walkF (nx ts) f b)) rfl rfl 124 _ H12.out (by rw [setA_size]; exact size_set) rfl (setA_all _) ?_)
     | (refine wpList_store_row rfl 124 _ _ rfl p8 (setA (walkF (pv ts) f b)) rfl rfl 124 _ H13.out (by rw [setA_size]; exact size_set) rfl (setA_all _) ?_))
    go_meet
    exact ⟨p7, p8, rfl, rfl, HI12, HI13, hne, (setRow_other _ _ _ _ hne).trans (setRow_heap _ _ _ _ _ _ H12.out), setRow_heap _ _ _ _ _ _ H13.out, (setRow_other _ _ _ _ (by omega)).trans ((setRow_other _ _ _ _ (by omega)).trans HR1.out), below_setRow (below_setRow HBw.out (by omega) _) (by omega) _⟩
 case rest =>
  obtain ⟨p7, p8, rfl, rfl, hp7, hp8, hne, H7, H8, HR, HB⟩ := hcut;clear HK HS HC2 HC3 HWs;go_wp2
  go_loopw [9, 22] (fun _ i wx => ∃ (k : Nat), k ≤ 200 ∧ i = .int .i64 k ∧ Hid (wx.heap[w.heap.size + 1 + 1]? = some (setO fun j => decide (j < k) && knotS ts b f j)) ∧ Hid (wx.heap[p7]? = some (setO (walkF (nx ts) f b))) ∧ Hid (wx.heap[p8]? = some (setO (walkF (pv ts) f b))) ∧ Hid (Below w.heap.size w wx)) (fun _ i _ => 200 - (intOf i).toNat)
  case atStart => exact ⟨0, by omega, rfl, by have e : (fun j => decide (j < 0) && knotS ts b f j) = (fun _ => false) := (by funext j; simp); rw [Hid, e]; exact HR.out, H7, H8, HB⟩
  case round =>
   obtain ⟨k, hk, rfl, HR2, G7, G8, HB2⟩ := hrel;clear HR H7 H8 HB;by_cases hlt : k < 200
   · have c7 := set_cell G7.out k hlt;have c8 := set_cell G8.out k hlt;have cr := set_cell HR2.out k hlt;have fr := set_free HR2.out k;have hl := lt_of_heap HR2.out;have e1 : (fun j => if j = k then (walkF (nx ts) f b k && walkF (pv ts) f b k) else (decide (j < k) && knotS ts b f j)) = (fun j => decide (j < k + 1) && knotS ts b f j) := by
      funext j
      by_cases e : j = k
      · subst e;simp [knotS]
      · rw [if_neg e]
        congr 1
        rw [decide_eq_decide];omega
     have HS2 := Lib.hid (store_to HR2.out hlt e1);have HG7 := Lib.hid (grown_row (grown_setCell _ (w.heap.size + 1 + 1) k (.bool (walkF (nx ts) f b k && walkF (pv ts) f b k))) G7.out (by simp; omega));have HG8 := Lib.hid (grown_row (grown_setCell _ (w.heap.size + 1 + 1) k (.bool (walkF (nx ts) f b k && walkF (pv ts) f b k))) G8.out (by simp; omega));have hlt' : (k : Int) < 200 := by omega
     clear e1 G7 G8 HR2;generalize (decide (k < k) && knotS ts b f k) = x0 at *;cases hx1 : walkF (nx ts) f b k <;> simp only [hx1, Bool.true_and, Bool.false_and] at HS2 HG7 HG8 c7
     all_goals
      generalize walkF (pv ts) f b k = x2 at *;clear hx1;go_wp2
      go_roundw
      case rel => exact ⟨k + 1, by omega, by go_num, HS2, HG7, HG8, HB2.out.setCell (by simp; omega) _⟩
      case measure => simp [intOf]; omega
   · obtain rfl : k = 200 := by omega
     have HE : Hid ((fun j => decide (j < 200) && knotS ts b f j) = knotS ts b f) := by
      have hc : Canon f := HCF.out
      funext j
      cases e : knotS ts b f j with
      | false => simp
      | true => have := knot_canon hc b j e; simp [this]
     rw [HE.out] at HR2
     go_wp2_with (first
      | (refine wpList_load_row rfl 124 _ rfl (w.heap.size + 1 + 1) rfl 124 _ (0, 0) _ HR2.out Tryz.underlying124 rfl (by rw [setA_size]; exact size_set) ?_)
      | (refine wpList_store_row rfl 124 _ _ rfl (w.heap.size + 1 + 1) (setA (knotS ts b f)) rfl rfl 124 _ HR2.out (by rw [setA_size]; exact size_set) rfl (setA_all _) ?_))
     exact bodyPost_ret (v := .agg (setA (knotS ts b f))) (by simp [results, Tryz.results130, asAddr, Act.put, load_set (setRow_heap _ _ _ _ _ _ HR2.out)]) rfl ⟨rfl, below_setRow HB2.out (by omega) _⟩
end

section
open Go.RowKit
theorem part_bool (cs : Array Value) (o : Nat) (v : Value) (w : World) (h : cs[o]? = some v) : (part 4 cs o).run Tryz.prog w = .ok v w := by
 have hu : (underlying 4).run Tryz.prog w = .ok .bool w := run_underlying Tryz.underlying4 w
 simp [part, isAgg, hu, h]
theorem eqItems_bool (w : World) (f g : Nat → Bool) (xs ys : Array Value) : ∀ (is : List Nat), (∀ i ∈ is, xs[i]? = some (.bool (f i)) ∧ ys[i]? = some (.bool (g i))) → (Op.eqItems 9999 4 1 xs ys is).run Tryz.prog w = .ok (is.all fun i => f i == g i) w
 | [], _ => by simp [Op.eqItems]
 | i :: is, h => by
   obtain ⟨h1, h2⟩ := h i (by simp);have ih := eqItems_bool w f g xs ys is (fun j hj => h j (by simp [hj]));simp only [Op.eqItems, Sem.run_bind, Nat.mul_one];rw [part_bool _ i _ w h1];simp only [Result.andThen_ok];rw [part_bool _ i _ w h2];simp only [Result.andThen_ok];rw [run_equalIn_bool' w 9998 4 (f i) (g i) Tryz.underlying4];simp only [Result.andThen_ok];cases hq : (f i == g i) with
   | false => simp [hq]
   | true => simp [hq, ih]
theorem equal_set (w : World) (f g : Nat → Bool) : (Op.equalIn 10000 124 (.agg (setA f)) (.agg (setA g))).run Tryz.prog w = .ok (eqS f g) w := by
 have hi : ∃ i, Tryz.prog.info? 4 = some i := Option.isSome_iff_exists.1 (by kernel_rfl)
 obtain ⟨i, hi⟩ := hi
 have h1 : Tryz.prog.cellsOf 4 = 1 := by kernel_rfl
 rw [run_equalIn_array w 9999 _ _ Tryz.underlying124 hi, h1]
 exact eqItems_bool w f g _ _ _ (fun i hi => ⟨setA_at f i (List.mem_range.1 hi), setA_at g i (List.mem_range.1 hi)⟩)
structure BlkH where
 ia : Option Addr
 n : Nat
 c : Nat
 t : TermD
def blkC (b : BlkH) : List Value := [.slice b.ia b.n b.c, .int .i64 b.t.kind, .int .i64 b.t.a, .int .i64 b.t.t0, .int .i64 b.t.t1]
theorem blkC_len (b : BlkH) : (blkC b).length = 5 := rfl
def BlksOK (w : World) (a : Option Addr) (n : Nat) (bs : List BlkH) : Prop := Recs 5 blkC w a n bs ∧ ∀ b ∈ bs, TermOK b.t
theorem BlksOK.ext {w w' : World} {a : Option Addr} {n : Nat} {bs : List BlkH} (h : BlksOK w a n bs) (hb : Below w.heap.size w w') : BlksOK w' a n bs := ⟨h.1.ext blkC_len hb, h.2⟩
def tsOf (bs : List BlkH) : List TermD := bs.map (·.t)
theorem tsOf_len (bs : List BlkH) : (tsOf bs).length = bs.length := by simp [tsOf]
theorem tsOf_at (bs : List BlkH) (k : Nat) (b : BlkH) (h : bs[k]? = some b) : (tsOf bs).getD k zTerm = b.t := by
 simp [tsOf, List.getD_eq_getElem?_getD, h]
abbrev blkV (b : BlkH) : Value := .agg #[.slice b.ia b.n b.c, .int .i64 b.t.kind, .int .i64 b.t.a, .int .i64 b.t.t0, .int .i64 b.t.t1]
abbrev blkO (b : BlkH) : Obj := .cells #[.slice b.ia b.n b.c, .int .i64 b.t.kind, .int .i64 b.t.a, .int .i64 b.t.t0, .int .i64 b.t.t1] 73
theorem BlksOK.cells {w : World} {a : Option Addr} {n : Nat} {bs : List BlkH} (h : BlksOK w a n bs) {k : Nat} (hk : k < n) : ∃ x b o, bs[k]? = some x ∧ TermOK x.t ∧ a = some ⟨b, o, none⟩ ∧
  w.cell? ⟨b, o + k * 5, none⟩ = some (.slice x.ia x.n x.c) ∧ w.cell? ⟨b, o + k * 5 + 1, none⟩ = some (.int .i64 x.t.kind) ∧ w.cell? ⟨b, o + k * 5 + 2, none⟩ = some (.int .i64 x.t.a) ∧ w.cell? ⟨b, o + k * 5 + 3, none⟩ = some (.int .i64 x.t.t0) ∧ w.cell? ⟨b, o + k * 5 + 4, none⟩ = some (.int .i64 x.t.t1) := by
 have hk' : k < bs.length := by rw [h.1.1]; exact hk
 obtain ⟨b, o, e, hc⟩ := h.1.2.2 k bs[k] (List.getElem?_eq_getElem hk')
 exact ⟨bs[k], b, o, List.getElem?_eq_getElem hk', h.2 _ (List.getElem_mem hk'), e, hc 0 (by omega), hc 1 (by omega), hc 2 (by omega), hc 3 (by omega), hc 4 (by omega)⟩
def Sep (v v' : Value) : Prop := ∀ g, v.ownBlock = some g → v'.ownBlock ≠ some g
theorem Sep.symm {v v' : Value} (h : Sep v v') : Sep v' v := fun g h1 h2 => h g h2 h1
structure Fam (w : World) (B n k : Nat) (hF hT : Nat → Value) (xF xT : Nat → List Int) : Prop where
 F : ∀ y, y < n → OwnI w B (hF y) (xF y)
 T : ∀ j, j < k → OwnI w B (hT j) (xT j)
 FF : ∀ y y', y < n → y' < n → y ≠ y' → Sep (hF y) (hF y')
 FT : ∀ y j, y < n → j < k → Sep (hF y) (hT j)
section
variable {w w' : World} {B n k : Nat} {hF hT : Nat → Value} {xF xT : Nat → List Int}
theorem Fam.kept {row : Option Nat} (h : Fam w B n k hF hT xF xT) (hg : w.grownBy w' row) (hr : ∀ r, row = some r → r < B ∨ w.heap.size ≤ r) : Fam w' B n k hF hT xF xT := by
 have key : ∀ v xs, OwnI w B v xs → OwnI w' B v xs := fun v xs ho => by
  refine ho.kept hg ?_;cases e : v.ownBlock with
  | none => exact .inl rfl
  | some g =>
    have := ho.1.lt g e;refine .inr fun e2 => ?_;have := hr g e2.symm;omega
 exact ⟨fun y hy => key _ _ (h.F y hy), fun j hj => key _ _ (h.T j hj), h.FF, h.FT⟩
theorem Fam.ext (h : Fam w B n k hF hT xF xT) (hb : Below w.heap.size w w') : Fam w' B n k hF hT xF xT :=
 h.kept (row := none) ⟨hb.os, hb.tape, hb.output, hb.size, fun k hk _ => hb.block k hk⟩ (fun r e => by cases e)
theorem Fam.add (h : Fam w B n k hF hT xF xT) (hb : Below w.heap.size w w') (hB : B ≤ w.heap.size) (v : Value) (xs : List Int) (ho : OwnI w' w.heap.size v xs) : Fam w' B n (k + 1) hF (updN hT k v) xF (updN xT k xs) := by
 have h' := h.ext hb
 have hlt : ∀ y, y < n → Sep (hF y) v := fun y hy g e1 e2 => by
  have h1 := (h.F y hy).1.lt g e1;have h2 := ho.1.lt g e2;omega
 refine ⟨h'.F, fun j hj => ?_, h.FF, fun y j hy hj => ?_⟩
 · by_cases e : j = k
   · simp only [updN, if_pos e]; exact ho.mono hB
   · simp only [updN, if_neg e]; exact h'.T j (by omega)
 · by_cases e : j = k
   · simp only [updN, if_pos e]; exact hlt y hy
   · simp only [updN, if_neg e]; exact h.FT y j hy (by omega)
theorem Fam.turn (h : Fam w B n k hF hT xF xT) (y : Nat) (hy : y < n) (hg : w.grownBy w' (hF y).ownBlock) (v : Value) (xs : List Int) (ho : OwnI w' B v xs) (hv : v.ownBlock = (hF y).ownBlock ∨ ∃ g, v.ownBlock = some g ∧ w.heap.size ≤ g) : Fam w' B n k (updN hF y v) hT (updN xF y xs) xT := by
 have keep : ∀ v' xs', OwnI w B v' xs' → Sep (hF y) v' → OwnI w' B v' xs' := fun v' xs' ho' hs => by
  refine ho'.kept hg ?_;cases e : v'.ownBlock with
  | none => exact .inl rfl
  | some g => exact .inr fun e2 => hs g e2.symm e
 have sep : ∀ v' xs', OwnI w B v' xs' → Sep (hF y) v' → Sep v v' := fun v' xs' ho' hs g e1 e2 => by
  rcases hv with e | ⟨g', e, hge⟩
  · exact hs g (by rw [← e]; exact e1) e2
  · rw [e] at e1;injection e1 with e1;have := (ho'.1.lt g e2).2;omega
 refine ⟨fun z hz => ?_, fun j hj => keep _ _ (h.T j hj) (h.FT y j hy hj), fun z z' hz hz' hne => ?_, fun z j hz hj => ?_⟩
 · by_cases e : z = y
   · simp only [updN, if_pos e]; exact ho
   · simp only [updN, if_neg e]; exact keep _ _ (h.F z hz) (h.FF y z hy hz (fun e2 => e e2.symm))
 · by_cases e : z = y
   · have e' : ¬ z' = y := fun e2 => hne (e.trans e2.symm);simp only [updN, if_pos e, if_neg e'];exact sep _ _ (h.F z' hz') (h.FF y z' hy hz' (fun e2 => e' e2.symm))
   · by_cases e' : z' = y
     · simp only [updN, if_pos e', if_neg e];exact (sep _ _ (h.F z hz) (h.FF y z hy hz (fun e2 => e e2.symm))).symm
     · simp only [updN, if_neg e', if_neg e]; exact h.FF z z' hz hz' hne
 · by_cases e : z = y
   · simp only [updN, if_pos e]; exact sep _ _ (h.T j hj) (h.FT y j hy hj)
   · simp only [updN, if_neg e]; exact h.FT z j hz hj
end
def hdrA (n : Nat) (h : Nat → Value) : Array Value := ((List.range n).map h).toArray
abbrev nilV : Value := .slice none 0 0
abbrev hdrO (n : Nat) (h : Nat → Value) : Obj := .cells (hdrA n h) 22 (0, 0)
theorem hdrA_at (n : Nat) (h : Nat → Value) (j : Nat) (hj : j < n) : (hdrA n h)[j]? = some (h j) := by simp [hdrA, hj]
theorem hdrA_size (n : Nat) (h : Nat → Value) : (hdrA n h).size = n := by simp [hdrA]
theorem hdrA_put (n : Nat) (h : Nat → Value) (j : Nat) (v : Value) : (hdrA n h).setIfInBounds j v = hdrA n (updN h j v) := by
 apply Array.ext_getElem?
 intro k
 rw [Array.getElem?_setIfInBounds]
 by_cases hk : k < n
 · rw [hdrA_at n h k hk, hdrA_at n _ k hk, hdrA_size];by_cases e : j = k
   · subst e; simp [updN, hk]
   · have e' : ¬ k = j := fun h => e h.symm;simp [updN, e, e']
 · have h1 : (hdrA n h)[k]? = none := Array.getElem?_eq_none (by rw [hdrA_size]; omega);have h2 : (hdrA n (updN h j v))[k]? = none := Array.getElem?_eq_none (by rw [hdrA_size]; omega);rw [h1, h2];by_cases e : j = k
   · subst e; rw [if_pos rfl, hdrA_size, if_neg hk]
   · rw [if_neg e]
theorem hdr_cell {W : World} {g n : Nat} {h : Nat → Value} (hg : W.heap[g]? = some (hdrO n h)) (j : Nat) (hj : j < n) : W.cell? ⟨g, j, none⟩ = some (h j) := by rw [cell_of_row _ _ _ _ _ _ hg, hdrA_at _ _ _ hj]
theorem hdr_free {W : World} {g n : Nat} {h : Nat → Value} (hg : W.heap[g]? = some (hdrO n h)) (j : Nat) : W.frozen? ⟨g, j, none⟩ = false := frozen_of_row _ _ _ _ _ hg
theorem hdr_put {W : World} {g n : Nat} {h : Nat → Value} (hg : W.heap[g]? = some (hdrO n h)) (j : Nat) (v : Value) : (W.setCell ⟨g, j, none⟩ v).heap[g]? = some (hdrO n (updN h j v)) := by rw [heap_setCell_same _ _ _ _ _ _ hg, hdrA_put]
def pvAt (ts : List TermD) (k i y : Nat) : List Nat := ((List.range k).flatMap fun q => ((nx ts q).filter (fun x => x == y)).map fun _ => q) ++ (((nx ts k).take i).filter (fun x => x == y)).map fun _ => k
theorem pvAt_zero (ts : List TermD) (y : Nat) : pvAt ts 0 0 y = [] := by simp [pvAt]
theorem pvAt_next (ts : List TermD) (k i y : Nat) (h : (nx ts k).length ≤ i) : pvAt ts k i y = pvAt ts (k + 1) 0 y := by
 simp only [pvAt, List.take_of_length_le h, List.range_succ, List.flatMap_append, List.flatMap_cons, List.flatMap_nil, List.append_nil, List.take_zero, List.filter_nil, List.map_nil]
theorem pvAt_end (ts : List TermD) (y : Nat) : pvAt ts ts.length 0 y = pv ts y := by simp [pvAt, pv]
theorem pvAt_step (ts : List TermD) (k i : Nat) (x : Nat) (h : (nx ts k)[i]? = some x) (y : Nat) : pvAt ts k (i + 1) y = if y = x then pvAt ts k i y ++ [k] else pvAt ts k i y := by
 have e : (nx ts k).take (i + 1) = (nx ts k).take i ++ [x] := by rw [List.take_add_one, h]; rfl
 simp only [pvAt, e, List.filter_append, List.map_append]
 by_cases hy : y = x
 · subst hy; simp
 · have : (x == y) = false := by simpa using fun e => hy e.symm
   simp [hy, this]
theorem pvAt_len (ts : List TermD) (k i y : Nat) : (pvAt ts k i y).length ≤ 2 * k + 2 := by
 have hn : ∀ q, (nx ts q).length ≤ 2 := fun q => by rw [nx, List.length_map]; exact toD_len _
 have h1 : ∀ k, ((List.range k).flatMap fun q => ((nx ts q).filter (fun x => x == y)).map fun _ => q).length ≤ 2 * k := by
  intro k
  induction k with
  | zero => simp
  | succ k ih =>
    rw [List.range_succ, List.flatMap_append, List.length_append];have h2 := List.length_filter_le (fun x => x == y) (nx ts k);have h3 := hn k;simp;simp at ih;omega
 have h2 := List.length_filter_le (fun x => x == y) ((nx ts k).take i)
 have h3 : ((nx ts k).take i).length ≤ 2 := by rw [List.length_take]; have := hn k; omega
 have h4 := h1 k
 simp only [pvAt, List.length_append, List.length_map]
 omega
end

section
open Go.RowKit
def zS (f : Nat → Bool) : Nat → Bool := fun q => if q = 0 then true else f q
theorem size_func : (Tryz.prog.info? 25).map (·.size) = some 2 := by kernel_rfl
theorem info_ints : (Tryz.prog.info? 22).map (fun i => (i.zero, i.size, i.bytes)) = some (some nilV, 1, 24) := by kernel_rfl
theorem made_hdr (n : Nat) : madeCells #[nilV] n = hdrA n fun _ => nilV := by
 apply Array.ext_getElem?
 intro k
 by_cases hk : k < n
 · rw [hdrA_at _ _ _ hk]; simp [madeCells, hk, Nat.mod_one]
 · rw [Array.getElem?_eq_none (by simp [madeCells]; omega), Array.getElem?_eq_none (by rw [hdrA_size]; omega)]
abbrev funcV (pa : Option Addr) (pn pc : Nat) (ba : Option Addr) (bn bc : Nat) : Value := .agg #[.slice pa pn pc, .slice ba bn bc]
abbrev funcO (pa : Option Addr) (pn pc : Nat) (ba : Option Addr) (bn bc : Nat) : Obj := .cells #[.slice pa pn pc, .slice ba bn bc] 25
def OverPost (pa : Option Addr) (pn pc : Nat) (ba : Option Addr) (bn bc : Nat) (ts : List TermD) (w : World) (e : Ending) (w' : World) : Prop :=
 ∃ cs : Array Value, e = .returned (.tuple #[.agg cs, .bool (fitsB ts)]) ∧ cs.size = 4 ∧ cs.all (·.oneCell') = true ∧ Below w.heap.size w w' ∧ (fitsB ts = true → ∃ ta tc fa fc, Value.agg cs = walkV ⟨pa, pn, pc, ba, bn, bc, ta, tc, fa, fc⟩ ∧ WalkOK w' ⟨pa, pn, pc, ba, bn, bc, ta, tc, fa, fc⟩ ts)
def OvJ (w : World) (pa : Option Addr) (pn pc : Nat) (ba : Option Addr) (bn bc : Nat) (ts : List TermD) (TA FA B kT k i : Nat) (hF hT : Nat → Value) (wr : World) : Prop :=
 wr.heap[w.heap.size]? = some (funcO pa pn pc ba bn bc) ∧ wr.heap[w.heap.size + 1]? = some (walkO ⟨pa, pn, pc, ba, bn, bc, some ⟨TA, 0, none⟩, bn, some ⟨FA, 0, none⟩, bn⟩) ∧
  wr.heap[TA]? = some (hdrO bn hT) ∧ wr.heap[FA]? = some (hdrO bn hF) ∧ Fam wr B bn kT hF hT (fun y => intsN (pvAt ts k i y)) (fun j => toD (ts.getD j zTerm)) ∧ B ≤ wr.heap.size ∧ Below w.heap.size w wr
section
variable {w wr wr' : World} {pa : Option Addr} {pn pc : Nat} {ba : Option Addr} {bn bc : Nat} {ts : List TermD} {TA FA B kT k i : Nat} {hF hT : Nat → Value}
theorem OvJ.ext (h : OvJ w pa pn pc ba bn bc ts TA FA B kT k i hF hT wr) (hb : Below wr.heap.size wr wr') : OvJ w pa pn pc ba bn bc ts TA FA B kT k i hF hT wr' := by
 obtain ⟨h1, h2, h3, h4, h5, h6, h7⟩ := h
 exact ⟨block_ext hb h1, block_ext hb h2, block_ext hb h3, block_ext hb h4, h5.ext hb, Nat.le_trans h6 hb.size, ext_trans h7 hb⟩
theorem OvJ.to (h : OvJ w pa pn pc ba bn bc ts TA FA B k k 0 hF hT wr) (hb : Below wr.heap.size wr wr') (v : Value) (ho : OwnI wr' wr.heap.size v (toD (ts.getD k zTerm))) (hk : k < bn) (hw1 : w.heap.size + 1 + 1 ≤ TA) (hne : TA ≠ FA) (hTB : TA < B) :
  OvJ w pa pn pc ba bn bc ts TA FA B (k + 1) k 0 hF (updN hT k v) (wr'.setCell ⟨TA, k, none⟩ v) := by
 obtain ⟨h1, h2, h3, h4, h5, h6, h7⟩ := h
 have g := grown_setCell wr' TA k v
 have hsz := hb.size
 refine ⟨grown_row g (block_ext hb h1) (by simp; omega), grown_row g (block_ext hb h2) (by simp; omega), hdr_put (block_ext hb h3) k v, grown_row g (block_ext hb h4) (by simpa using hne), ?_, by simp; omega, (ext_trans h7 hb).setCell (by simp; omega) _⟩
 have h8 := h5.add hb h6 v _ ho
 have e : updN (fun j => toD (ts.getD j zTerm)) k (toD (ts.getD k zTerm)) = fun j => toD (ts.getD j zTerm) := by
  funext j
  by_cases e : j = k <;> simp [updN, e]
 rw [e] at h8
 exact h8.kept g (fun r hr => by simp at hr; omega)
theorem OvJ.from (h : OvJ w pa pn pc ba bn bc ts TA FA B (k + 1) k i hF hT wr) (y : Nat) (hy : y < bn) (hx : (nx ts k)[i]? = some y) (hg : wr.grownBy wr' (hF y).ownBlock) (v : Value) (ho : OwnI wr' B v (intsN (pvAt ts k i y) ++ [(k : Int)])) (hv : v.ownBlock = (hF y).ownBlock ∨ ∃ g, v.ownBlock = some g ∧ wr.heap.size ≤ g)
  (hw1 : w.heap.size + 1 + 1 ≤ FA) (hw2 : w.heap.size + 1 + 1 ≤ TA) (hne : TA ≠ FA) (hTB : TA < B) (hFB : FA < B) : OvJ w pa pn pc ba bn bc ts TA FA B (k + 1) k (i + 1) (updN hF y v) hT (wr'.setCell ⟨FA, y, none⟩ v) := by
 obtain ⟨h1, h2, h3, h4, h5, h6, h7⟩ := h
 have hlt : ∀ r, (hF y).ownBlock = some r → B ≤ r := fun r e => ((h5.F y hy).1.lt r e).1
 have low : ∀ q, q < B → (hF y).ownBlock ≠ some q := fun q hq e => by have := hlt q e; omega
 have g := grown_setCell wr' FA y v
 refine ⟨grown_row g (grown_row hg h1 (low _ (by omega))) (by simp; omega), grown_row g (grown_row hg h2 (low _ (by omega))) (by simp; omega), grown_row g (grown_row hg h3 (low _ hTB)) (by simp; omega), hdr_put (grown_row hg h4 (low _ hFB)) y v, ?_, by have := hg.size; simp; omega, (h7.grown hg h7.size (fun r e => by have := hlt r e; omega)).setCell (by simp; omega) _⟩
 have h8 := h5.turn y hy hg v _ ho hv
 have e : updN (fun y => intsN (pvAt ts k i y)) y (intsN (pvAt ts k i y) ++ [(k : Int)]) = fun y => intsN (pvAt ts k (i + 1) y) := by
  funext z
  rw [pvAt_step ts k i y hx z];by_cases e : z = y
  · subst e; simp [updN, intsN]
  · simp [updN, e]
 rw [e] at h8
 exact h8.kept g (fun r hr => by simp at hr; omega)
end
theorem OvJ.walk {w wr : World} {pa : Option Addr} {pn pc : Nat} {ba : Option Addr} {bn bc : Nat} {ts : List TermD} {TA FA B : Nat} {hF hT : Nat → Value} (h : OvJ w pa pn pc ba bn bc ts TA FA B bn bn 0 hF hT wr) (h2 : bn ≤ 200) (hg : ∀ q, q < bn → termB (ts.getD q zTerm) = true ∧ ∀ x ∈ toD (ts.getD q zTerm), 1 ≤ x ∧ x < bn) (hl : ts.length = bn) :
  WalkOK wr ⟨pa, pn, pc, ba, bn, bc, some ⟨TA, 0, none⟩, bn, some ⟨FA, 0, none⟩, bn⟩ ts := by
 obtain ⟨h1, _, h3, h4, h5, h6, h7⟩ := h
 refine ⟨hl, h2, ⟨by simp [toRows, hl], by show bn ≤ 1000; omega, fun k xs hx => ?_⟩, ⟨by simp [fromRows, hl], by show bn ≤ 1000; omega, fun k xs hx => ?_⟩⟩
 · have hk : k < bn := by
    have := (List.getElem?_eq_some_iff.1 hx).1;simpa [toRows, hl] using this
   have e : xs = nx ts k := by simpa [toRows, hl, hk] using hx.symm
   have e2 : intsN xs = toD (ts.getD k zTerm) := by
    have e3 : (toD (ts.getD k zTerm)).map ((fun (k : Nat) => (k : Int)) ∘ Int.toNat) = (toD (ts.getD k zTerm)).map id := List.map_congr_left fun x hx => by
     have := (hg k hk).2 x hx;simp;omega
    rw [e, nx, intsN, List.map_map, e3, List.map_id]
   have ho := h5.T k hk;obtain ⟨a, c, hv⟩ := ho.form;have hn : (toD (ts.getD k zTerm)).length = xs.length := by rw [← e2]; simp [intsN]
   rw [hv] at ho;rw [hn] at ho hv;refine ⟨TA, 0, a, c, rfl, ?_, ?_⟩
   · rw [Nat.zero_add, hdr_cell h3 k hk, hv]
   · rw [e2]; exact ho.ints
 · have hk : k < bn := by
    have := (List.getElem?_eq_some_iff.1 hx).1;simpa [fromRows, hl] using this
   have e : xs = pv ts k := by simpa [fromRows, hl, hk] using hx.symm
   have ho := h5.F k hk;have e2 : intsN (pvAt ts bn 0 k) = intsN xs := by rw [e, ← hl, pvAt_end]
   simp only [e2] at ho;obtain ⟨a, c, hv⟩ := ho.form;have hn : (intsN xs).length = xs.length := by simp [intsN]
   rw [hv] at ho;rw [hn] at ho hv;refine ⟨FA, 0, a, c, rfl, ?_, ho.ints⟩;rw [Nat.zero_add, hdr_cell h4 k hk, hv]
theorem good_no {ts : List TermD} {k : Nat} (hk : k < ts.length) (h : termB (ts.getD k zTerm) = false ∨ ∃ x ∈ toD (ts.getD k zTerm), x < 1 ∨ (ts.length : Int) ≤ x) : fitsB ts = false := by
 rw [fitsB, Bool.and_eq_false_iff]
 refine .inl (Bool.eq_false_iff.2 fun hg => ?_)
 have hm : ts.getD k zTerm ∈ ts := by rw [List.getD_eq_getElem?_getD, List.getElem?_eq_getElem hk]; exact List.getElem_mem _
 have h1 := ((goodB_iff _).1 hg).2 _ hm
 rcases h with h | ⟨x, hx, h⟩
 · rw [h1.1] at h; cases h
 · have := h1.2 x hx; omega
theorem over_any (pa : Option Addr) (pn pc : Nat) (ba : Option Addr) (bn bc : Nat) (bs : List BlkH) (w : World) (h : BlksOK w ba bn bs) :
  Calls Tryz.prog 78 #[funcV pa pn pc ba bn bc] w (OverPost pa pn pc ba bn bc (tsOf bs) w) := by
 have hbn := h.1.2.1
 have HLn := Lib.hid h.1.1
 have HBS := Lib.hid h
 clear h
 by_cases hgood : 1 ≤ bn ∧ bn ≤ 200
 rotate_left
 · have HE : Hid (fitsB (tsOf bs) = false) := by
    rw [Hid, fitsB, Bool.and_eq_false_iff];refine .inl (Bool.eq_false_iff.2 fun hg => hgood ?_);have := ((goodB_iff _).1 hg).1;rw [tsOf_len, HLn.out] at this;exact this
   go_enter Tryz.func78, Tryz.ntmps78
   go_upto_region 1 with (fail)
   obtain ⟨W, hW⟩ : ∃ W, W = (w.alloc (funcO pa pn pc ba bn bc)).alloc (.cells #[.slice none 0 0, .slice none 0 0, .slice none 0 0, .slice none 0 0] 116) := ⟨_, rfl⟩
   rw [← hW];have hf : W.heap[w.heap.size]? = some (funcO pa pn pc ba bn bc) := by rw [hW, Below.heap_alloc _ _ _ (by simp)]; exact heap_alloc_new _ _
   have hr : W.heap[w.heap.size + 1]? = some (.cells #[.slice none 0 0, .slice none 0 0, .slice none 0 0, .slice none 0 0] 116 (0, 0)) := by rw [hW, heap_at _ _ _ (by simp)]
   have hB : Below w.heap.size w W := by rw [hW]; exact (ext_alloc _ _).alloc (by simp) _
   have hc1 : W.cell? ⟨w.heap.size, 1, none⟩ = some (.slice ba bn bc) := by rw [cell_of_row _ _ _ _ _ _ hf]; rfl
   have HR := Lib.hid hr;have HB := Lib.hid hB;have hz : (bn : Int) < 1 ∨ 200 < (bn : Int) := by omega
   clear hW hf hr hB hgood;rcases hz with hz | hz
   rotate_left
   · have hz1 : ¬ (bn : Int) < 1 := by omega
     go_wp2_with (first
      | (refine wpList_load_row (o := ⟨some _, .load 116 _, _, _, _, _⟩) rfl 116 _ rfl (w.heap.size + 1) rfl 116 _ (0, 0) _ HR.out Tryz.underlying116 rfl size_walk ?_)
      | (refine wpList_store_row (o := ⟨none, .store 116 _ _, _, _, _, _⟩) rfl 116 _ _ rfl (w.heap.size + 1) #[.slice none 0 0, .slice none 0 0, .slice none 0 0, .slice none 0 0] rfl rfl 116 _ HR.out size_walk rfl (by simp [Value.oneCell']) ?_))
     refine bodyPost_ret (v := .tuple #[.agg #[.slice none 0 0, .slice none 0 0, .slice none 0 0, .slice none 0 0], .bool false]) ?_ rfl ⟨_, by rw [HE.out], rfl, by simp [Value.oneCell'], below_setRow HB.out (by omega) _, fun h => by rw [HE.out] at h; cases h⟩;have hl := run_loadVar_row (P := Tryz.prog) _ (w.heap.size + 1) 116 116 _ (0, 0) _ (setRow_heap _ _ _ #[.slice none 0 0, .slice none 0 0, .slice none 0 0, .slice none 0 0] _ _ HR.out) Tryz.underlying116 rfl size_walk;simp [results, Tryz.results78, asAddr, Act.put, hl]
   · go_wp2_with (first
      | (refine wpList_load_row (o := ⟨some _, .load 116 _, _, _, _, _⟩) rfl 116 _ rfl (w.heap.size + 1) rfl 116 _ (0, 0) _ HR.out Tryz.underlying116 rfl size_walk ?_)
      | (refine wpList_store_row (o := ⟨none, .store 116 _ _, _, _, _, _⟩) rfl 116 _ _ rfl (w.heap.size + 1) #[.slice none 0 0, .slice none 0 0, .slice none 0 0, .slice none 0 0] rfl rfl 116 _ HR.out size_walk rfl (by simp [Value.oneCell']) ?_))
     refine bodyPost_ret (v := .tuple #[.agg #[.slice none 0 0, .slice none 0 0, .slice none 0 0, .slice none 0 0], .bool false]) ?_ rfl ⟨_, by rw [HE.out], rfl, by simp [Value.oneCell'], below_setRow HB.out (by omega) _, fun h => by rw [HE.out] at h; cases h⟩;have hl := run_loadVar_row (P := Tryz.prog) _ (w.heap.size + 1) 116 116 _ (0, 0) _ (setRow_heap _ _ _ #[.slice none 0 0, .slice none 0 0, .slice none 0 0, .slice none 0 0] _ _ HR.out) Tryz.underlying116 rfl size_walk;simp [results, Tryz.results78, asAddr, Act.put, hl]
 obtain ⟨hb1, hb2⟩ := hgood
 go_enter Tryz.func78, Tryz.ntmps78
 go_upto_region 1 with (fail)
 obtain ⟨W, hW⟩ : ∃ W, W = (w.alloc (funcO pa pn pc ba bn bc)).alloc (.cells #[.slice none 0 0, .slice none 0 0, .slice none 0 0, .slice none 0 0] 116) := ⟨_, rfl⟩
 rw [← hW]
 have hf : W.heap[w.heap.size]? = some (funcO pa pn pc ba bn bc) := by rw [hW, Below.heap_alloc _ _ _ (by simp)]; exact heap_alloc_new _ _
 have hr : W.heap[w.heap.size + 1]? = some (.cells #[.slice none 0 0, .slice none 0 0, .slice none 0 0, .slice none 0 0] 116 (0, 0)) := by rw [hW, heap_at _ _ _ (by simp)]
 have hB : Below w.heap.size w W := by rw [hW]; exact (ext_alloc _ _).alloc (by simp) _
 have hWs : W.heap.size = w.heap.size + 1 + 1 := by rw [hW]; simp
 have hc1 : W.cell? ⟨w.heap.size, 1, none⟩ = some (.slice ba bn bc) := by rw [cell_of_row _ _ _ _ _ _ hf]; rfl
 have HWs := Lib.hid hWs
 have HF := Lib.hid hf
 have HR := Lib.hid hr
 have HB := Lib.hid hB
 clear hW hWs hf hr hB
 go_upto_region 4 with (fail)
 go_cut [] (fun wr => ∃ TA FA B : Nat, w.heap.size + 1 + 1 ≤ TA ∧ w.heap.size + 1 + 1 ≤ FA ∧ TA ≠ FA ∧ TA < B ∧ FA < B ∧ ∃ hF hT, OvJ w pa pn pc ba bn bc (tsOf bs) TA FA B 0 0 0 hF hT wr)
 case first =>
  refine region_free 5 [some 20, some 21, some 22, some 23, some 24] (by kernel_rfl) (by kernel_rfl) (specB [.val (.agg #[.slice pa pn pc, .slice ba bn bc]), .val (.int .i64 (bn : Int)), (.any fun v lo hi w => v = .slice (some ⟨lo, 0, none⟩) bn bn ∧ lo < hi ∧ w.heap[lo]? = some (hdrO bn fun _ => nilV)), .val (.int .i64 (bn : Int)), (.any fun v lo hi w => v = .slice (some ⟨lo, 0, none⟩) bn bn ∧ lo < hi ∧ w.heap[lo]? = some (hdrO bn fun _ => nilV))]) (specB_mono ?_) ?_ ?_
  · intro k hk;simp only [List.mem_cons, List.not_mem_nil, or_false] at hk;rcases hk with rfl | rfl | rfl | rfl | rfl
    · exact trivial
    · exact trivial
    · exact fun v lo hi w w' hb h => ⟨h.1, h.2.1, block_ext hb h.2.2⟩
    · exact trivial
    · exact fun v lo hi w w' hb h => ⟨h.1, h.2.1, block_ext hb h.2.2⟩
  · intro i hi ν lo hi' w1 K hB hD hK;have hcase : i = 0 ∨ i = 1 ∨ i = 2 ∨ i = 3 ∨ i = 4 := by omega
    clear hi;rcases hcase with rfl | rfl | rfl | rfl | rfl
    · clear hD;refine wpOp_atK rfl rfl ?_;simp only [zA,zB,zC,zD,zE,zF,zJ,zK,zG,zH,zI] at hK ⊢;refine wp_load_row 25 _ rfl w.heap.size rfl 25 _ (0, 0) _ (block_ext hB HF.out) Tryz.underlying25 rfl size_func ?_;exact hK _ _ (Below.refl _ _) rfl
    · clear hD;refine wpOp_atK rfl rfl ?_;simp only [zA,zB,zC,zD,zE,zF,zJ,zK,zG,zH,zI] at hK ⊢;go_simp;exact hK _ _ (Below.refl _ _) rfl
    · have e1 := hD 1 (by kernel_rfl)
      replace e1 : ν 1 = (.int .i64 (bn : Int)) := e1
      clear hD;refine wpOp_atK rfl rfl ?_;simp only [zA,zB,zC,zD,zE,zF,zJ,zK,zG,zH,zI, e1] at hK ⊢;have hmk := run_make_row' (P := Tryz.prog) 53 22 nilV 24 Tryz.underlying53 info_ints rfl .i64 .i64 bn (by omega) (by omega) w1;go_simp;refine hK _ _ (ext_alloc _ _) ⟨rfl, by simp, ?_⟩;rw [heap_alloc_new, made_hdr]
    · clear hD;refine wpOp_atK rfl rfl ?_;simp only [zA,zB,zC,zD,zE,zF,zJ,zK,zG,zH,zI] at hK ⊢;go_simp;exact hK _ _ (Below.refl _ _) rfl
    · have e3 := hD 3 (by kernel_rfl)
      replace e3 : ν 3 = (.int .i64 (bn : Int)) := e3
      clear hD;refine wpOp_atK rfl rfl ?_;simp only [zA,zB,zC,zD,zE,zF,zJ,zK,zG,zH,zI, e3] at hK ⊢;have hmk := run_make_row' (P := Tryz.prog) 53 22 nilV 24 Tryz.underlying53 info_ints rfl .i64 .i64 bn (by omega) (by omega) w1;go_simp;refine hK _ _ (ext_alloc _ _) ⟨rfl, by simp, ?_⟩;rw [heap_alloc_new, made_hdr]
  · intro ν lo hi w1 hB hS hI hD;have e0 : ν 0 = (.agg #[.slice pa pn pc, .slice ba bn bc]) := hS 0 (by omega);have e1 : ν 1 = (.int .i64 (bn : Int)) := hS 1 (by omega);have e2 := hS 2 (by omega);unfold specB at e2;simp only [List.getD_cons_zero, List.getD_cons_succ, specK] at e2;have e3 : ν 3 = (.int .i64 (bn : Int)) := hS 3 (by omega);have e4 := hS 4 (by omega);unfold specB at e4;simp only [List.getD_cons_zero, List.getD_cons_succ, specK] at e4;clear hS;simp only [List.drop_succ_cons, List.drop_zero, zA,zB,zC,zD,zE,zF,zJ,zK,zG,zH,zI, e0, e1, e3];have i2 := hI 2 (by omega);have i4 := hI 4 (by omega);have hne : lo 2 ≠ lo 4 := by
     have := hD 2 4 (by omega) (by omega) (by omega);omega
    obtain ⟨e2, l2, h2⟩ := e2;obtain ⟨e4, l4, h4⟩ := e4;simp only [e2, e4];have hr := block_ext hB HR.out;rw [HWs.out] at i2 i4;have HBw : Hid (Below w.heap.size w w1) := ext_trans HB.out hB;have HFw := Lib.hid (block_ext hB HF.out);generalize lo 2 = TA at *;generalize lo 4 = FA at *;have H2 := Lib.hid h2;have H4 := Lib.hid h4;have HRw := Lib.hid hr;have hTA := i2.1;have hFA := i4.1;have hTB : TA < w1.heap.size := by omega
    have hFB : FA < w1.heap.size := by omega
    clear hI hD hB e0 e1 e2 e3 e4 h2 h4 hr i2 i4 l2 l4
    go_wp2_with (refine wpList_store_row (o := ⟨none, .store _ _ _, _, _, _, _⟩) rfl 116 _ _ rfl (w.heap.size + 1) #[.slice pa pn pc, .slice ba bn bc, .slice (some ⟨TA, 0, none⟩) bn bn, .slice (some ⟨FA, 0, none⟩) bn bn] rfl rfl 116 _ HRw.out size_walk rfl (by simp [Value.oneCell']) ?_)
    go_meet
    refine ⟨TA, FA, w1.heap.size, hTA, hFA, hne, hTB, hFB, fun _ => nilV, fun _ => nilV, ?_⟩;refine ⟨(setRow_other _ _ _ _ (by omega)).trans HFw.out, setRow_heap _ _ _ _ _ _ HRw.out, (setRow_other _ _ _ _ (by omega)).trans H2.out, (setRow_other _ _ _ _ (by omega)).trans H4.out, ?_, by simp, below_setRow HBw.out (by omega) _⟩;have e : (fun y => intsN (pvAt (tsOf bs) 0 0 y)) = fun _ => ([] : List Int) := by funext y; rw [pvAt_zero]; rfl
    rw [e];exact ⟨fun y _ => OwnI.nil _ _, fun j hj => absurd hj (by omega), fun _ _ _ _ _ g h => by simp [Value.ownBlock] at h, fun _ _ _ hj => absurd hj (by omega)⟩
 case rest =>
  obtain ⟨TA, FA, B, hTA, hFA, hne, hTB, hFB, hF0, hT0, HJ0⟩ := hcut
  replace HJ0 := Lib.hid HJ0
  clear HWs HF HR HB hc1;have hcb : wc.cell? ⟨w.heap.size, 1, none⟩ = some (.slice ba bn bc) := by rw [cell_of_row _ _ _ _ _ _ HJ0.out.1]; rfl
  go_wp2
  go_loopg [29] bn (fun gg i wr => ∃ (k : Nat) (hF hT : Nat → Value), i = .int .i64 (k : Int) ∧ k ≤ bn ∧ bn ≤ gg + k ∧ Hid (∀ q, q < k → termB ((tsOf bs).getD q zTerm) = true ∧ ∀ x ∈ toD ((tsOf bs).getD q zTerm), 1 ≤ x ∧ x < bn) ∧ Hid (OvJ w pa pn pc ba bn bc (tsOf bs) TA FA B k k 0 hF hT wr))
  case atStart => exact ⟨0, hF0, hT0, rfl, Nat.zero_le _, Nat.le_refl _, fun q hq => absurd hq (by omega), HJ0⟩
  case round =>
   obtain ⟨k, hF, hT, rfl, hk, hgg, HG, HJ⟩ := hrel;clear hcb HJ0 hF0 hT0;by_cases hlt : k < bn
   · obtain ⟨jF, jR, jT, jA, jM, jS, jB⟩ := HJ.out;obtain ⟨x, b, o, hbx, htx, rfl, c0, c1, c2, c3, c4⟩ := (HBS.out.ext jB).cells hlt;have htk : (tsOf bs).getD k zTerm = x.t := tsOf_at bs k x hbx;have HTK := Lib.hid htk;have HTX := Lib.hid htx;have HBX := Lib.hid hbx;clear jF jR jT jA jM jS jB htk htx hbx;go_upto_region 8 with (fail)
     obtain ⟨W1, hW1⟩ : ∃ W1, W1 = wr.alloc (blkO x) := ⟨_, rfl⟩
     rw [← hW1];have HJ1 : Hid (OvJ w pa pn pc (some ⟨b, o, none⟩) bn bc (tsOf bs) TA FA B k k 0 hF hT W1) := by rw [hW1]; exact HJ.out.ext (ext_alloc _ _)
     have hx1 : W1.heap[wr.heap.size]? = some (blkO x) := by rw [hW1, heap_alloc_new]
     have hs1 : W1.heap.size = wr.heap.size + 1 := by rw [hW1]; simp
     have hB1 : Below w.heap.size w W1 := HJ1.out.2.2.2.2.2.2;have d1 : W1.cell? ⟨wr.heap.size, 1, none⟩ = some (.int .i64 x.t.kind) := by rw [cell_of_row _ _ _ _ _ _ hx1]; rfl
     have d2 : W1.cell? ⟨wr.heap.size, 2, none⟩ = some (.int .i64 x.t.a) := by rw [cell_of_row _ _ _ _ _ _ hx1]; rfl
     have d3 : W1.cell? ⟨wr.heap.size, 3, none⟩ = some (.int .i64 x.t.t0) := by rw [cell_of_row _ _ _ _ _ _ hx1]; rfl
     have d4 : W1.cell? ⟨wr.heap.size, 4, none⟩ = some (.int .i64 x.t.t1) := by rw [cell_of_row _ _ _ _ _ _ hx1]; rfl
     have HX1 := Lib.hid hx1;clear hW1 hx1 c0 c1 c2 c3 c4;generalize hp : wr.heap.size = p at *;have HS1 := Lib.hid hs1;clear hs1 hp HJ;by_cases htB : termB x.t = true
     · have HTB := Lib.hid htB;clear htB
       go_upto_region 10 with (first
        | (go_at_call 128
           refine (isTerm_any x.t _ HTX.out).mono ?_;rintro e w2 ⟨rfl, hb2⟩;rw [HTB.out];have HJ2 := Lib.hid (HJ1.out.ext hb2);have D1 := Lib.hid (cell_ext hb2 d1);have D2 := Lib.hid (cell_ext hb2 d2);have D3 := Lib.hid (cell_ext hb2 d3);have D4 := Lib.hid (cell_ext hb2 d4)
           clear hb2))
       have HC40 : Hid (w2.cell? ⟨w.heap.size + 1, 2, none⟩ = some (.slice (some ⟨TA, 0, none⟩) bn bn)) := by rw [Hid, cell_of_row _ _ _ _ _ _ HJ2.out.2.1]; rfl
       clear d1 d2 d3 d4 HJ1 HX1 hB1 HS1
       go_cut [] (fun wx => ∃ hT2, Hid (OvJ w pa pn pc (some ⟨b, o, none⟩) bn bc (tsOf bs) TA FA B (k + 1) k 0 hF hT2 wx))
       case first =>
        refine region_free 6 [some 39, some 40, some 41, some 42, some 43, some 44] (by kernel_rfl) (by kernel_rfl) (specB [.val (.pointer (some ⟨w.heap.size + 1, 2, none⟩)), .val (.slice (some ⟨TA, 0, none⟩) bn bn), .val (.int .i64 (k : Int)), .val (.pointer (some ⟨p, 1, none⟩)), .val (termV x.t), (.any fun v lo hi w => OwnI w lo v (toD x.t))]) (specB_mono ?_) ?_ ?_
        · intro k hk;simp only [List.mem_cons, List.not_mem_nil, or_false] at hk;rcases hk with rfl | rfl | rfl | rfl | rfl | rfl
          · exact trivial
          · exact trivial
          · exact trivial
          · exact trivial
          · exact trivial
          · exact fun v lo hi w w' hb h => h.ext hb
        · intro i hi ν lo hi' w1 K hB hD hK;have hcase : i = 0 ∨ i = 1 ∨ i = 2 ∨ i = 3 ∨ i = 4 ∨ i = 5 := by omega
          clear hi;rcases hcase with rfl | rfl | rfl | rfl | rfl | rfl
          · clear hD;refine wpOp_atK rfl rfl ?_;simp only [zA,zB,zC,zD,zE,zF,zJ,zK,zG,zH,zI] at hK ⊢;go_simp;exact hK _ _ (Below.refl _ _) rfl
          · have e0 := hD 0 (by kernel_rfl)
            replace e0 : ν 0 = (.pointer (some ⟨w.heap.size + 1, 2, none⟩)) := e0
            clear hD;refine wpOp_atK rfl rfl ?_;simp only [zA,zB,zC,zD,zE,zF,zJ,zK,zG,zH,zI, e0] at hK ⊢;have q0 := cell_ext hB HC40.out;go_simp;exact hK _ _ (Below.refl _ _) rfl
          · clear hD;refine wpOp_atK rfl rfl ?_;simp only [zA,zB,zC,zD,zE,zF,zJ,zK,zG,zH,zI] at hK ⊢;go_simp;exact hK _ _ (Below.refl _ _) rfl
          · clear hD;refine wpOp_atK rfl rfl ?_;simp only [zA,zB,zC,zD,zE,zF,zJ,zK,zG,zH,zI] at hK ⊢;go_simp;exact hK _ _ (Below.refl _ _) rfl
          · have e3 := hD 3 (by kernel_rfl)
            replace e3 : ν 3 = (.pointer (some ⟨p, 1, none⟩)) := e3
            clear hD;refine wpOp_atK rfl rfl ?_;simp only [zA,zB,zC,zD,zE,zF,zJ,zK,zG,zH,zI, e3] at hK ⊢;have q1 := cell_ext hB D1.out;have q2 := cell_ext hB D2.out;have q3 := cell_ext hB D3.out;have q4 := cell_ext hB D4.out;go_simp;exact hK _ _ (Below.refl _ _) rfl
          · have e4 := hD 4 (by kernel_rfl)
            replace e4 : ν 4 = (termV x.t) := e4
            clear hD;refine wpOp_atK rfl rfl ?_;simp only [zA,zB,zC,zD,zE,zF,zJ,zK,zG,zH,zI, e4] at hK ⊢;go_simp;refine (to_any x.t w1 HTX.out).mono ?_;rintro e w3 ⟨v, rfl, ho, hb3⟩;exact hK _ _ hb3 ho
        · intro ν lo hi w1 hB hS hI hD;have e0 : ν 0 = (.pointer (some ⟨w.heap.size + 1, 2, none⟩)) := hS 0 (by omega);have e1 : ν 1 = (.slice (some ⟨TA, 0, none⟩) bn bn) := hS 1 (by omega);have e2 : ν 2 = (.int .i64 (k : Int)) := hS 2 (by omega);have e3 : ν 3 = (.pointer (some ⟨p, 1, none⟩)) := hS 3 (by omega);have e4 : ν 4 = (termV x.t) := hS 4 (by omega);have e5 := hS 5 (by omega);unfold specB at e5;simp only [List.getD_cons_zero, List.getD_cons_succ, specK] at e5;clear hS;simp only [List.drop_succ_cons, List.drop_zero, zA,zB,zC,zD,zE,zF,zJ,zK,zG,zH,zI, e0, e1, e2, e3, e4];obtain ⟨av, cv, hv⟩ := e5.form;simp only [hv];have ho5 := e5.mono (hI 5 (by omega)).1;rw [← HTK.out] at ho5;have HJ4 := Lib.hid (HJ2.out.to hB (ν 5) ho5 hlt hTA hne hTB);rw [hv] at HJ4;have hcw := hdr_cell (block_ext hB HJ2.out.2.2.1) k hlt;have hfw := hdr_free (block_ext hB HJ2.out.2.2.1) k;have hlw : TA < w1.heap.size := lt_of_heap (block_ext hB HJ2.out.2.2.1);clear hI hD e0 e1 e2 e3 e4 e5 ho5 hB;generalize hT k = hTk at hcw;clear hv;go_wp2
          go_meet
          exact ⟨_, HJ4⟩
       case rest =>
        obtain ⟨hT2, HJ3⟩ := hcut;obtain ⟨wo, rfl⟩ : ∃ wo : World, wo = wr := ⟨_, rfl⟩
        have hoT := HJ3.out.2.2.2.2.1.T k (by omega);rw [HTK.out] at hoT;obtain ⟨va, vc, hv⟩ := hoT.form;have hcc := hdr_cell HJ3.out.2.2.1 k hlt;rw [hv] at hcc;have hc2 : wc.cell? ⟨w.heap.size + 1, 2, none⟩ = some (.slice (some ⟨TA, 0, none⟩) bn bn) := by rw [cell_of_row _ _ _ _ _ _ HJ3.out.2.1]; rfl
        have HV := Lib.hid hv;have hlen := toD_len x.t;clear hoT hv D1 D2 D3 D4 HC40 HJ2;go_wp2
        go_loopg [52] (toD x.t).length (fun g2 i wr => ∃ (j : Nat) (hF2 : Nat → Value), i = .int .i64 (j : Int) ∧ j ≤ (toD x.t).length ∧ (toD x.t).length ≤ g2 + j ∧ Hid (∀ q, q < j → 1 ≤ (toD x.t).getD q 0 ∧ (toD x.t).getD q 0 < bn) ∧ Hid (OvJ w pa pn pc (some ⟨b, o, none⟩) bn bc (tsOf bs) TA FA B (k + 1) k j hF2 hT2 wr))
        case atStart => exact ⟨0, hF, rfl, Nat.zero_le _, Nat.le_refl _, fun q hq => absurd hq (by omega), HJ3⟩
        case round =>
         obtain ⟨j, hF2, rfl, hj, hg2, HG2, HJ⟩ := hrel;clear hcc hc2 HJ3;by_cases hjl : j < (toD x.t).length
         · have hoT := HJ.out.2.2.2.2.1.T k (by omega);rw [HTK.out, HV.out] at hoT;obtain ⟨b2, o2, e2, hcy, hy1, hy2⟩ := hoT.ints.2.2 j hjl;subst e2;have hjl' : (j : Int) < ((toD x.t).length : Int) := by omega
           have HG3 : Hid (1 ≤ (toD x.t).getD j 0 ∧ (toD x.t).getD j 0 < bn → ∀ q, q < j + 1 → 1 ≤ (toD x.t).getD q 0 ∧ (toD x.t).getD q 0 < bn) := fun h q hq => by
            by_cases e : q = j
            · subst e; exact h
            · exact HG2.out q (by omega)
           have HNX : Hid (1 ≤ (toD x.t).getD j 0 → (nx (tsOf bs) k)[j]? = some ((toD x.t).getD j 0).toNat) := fun _ => by
            rw [nx, HTK.out, List.getElem?_map, List.getElem?_eq_getElem hjl];simp [List.getD_eq_getElem?_getD, hjl]
           have HNO : Hid ((toD x.t).getD j 0 < 1 ∨ (bn : Int) ≤ (toD x.t).getD j 0 → fitsB (tsOf bs) = false) := fun h => by
            refine good_no (k := k) (by rw [tsOf_len, HLn.out]; exact hlt) (.inr ⟨(toD x.t).getD j 0, ?_, ?_⟩)
            · rw [HTK.out, List.getD_eq_getElem?_getD, List.getElem?_eq_getElem hjl]; exact List.getElem_mem _
            · rw [tsOf_len, HLn.out]; exact h
           clear hoT;generalize (toD x.t).getD j 0 = y at *;by_cases hyg : 1 ≤ y ∧ y < bn
           · obtain ⟨hyg1, hyg2⟩ := hyg;have HG4 := Lib.hid (HG3.out ⟨hyg1, hyg2⟩);have HNY := Lib.hid (HNX.out hyg1);obtain ⟨yn, rfl⟩ : ∃ yn : Nat, y = (yn : Int) := ⟨y.toNat, by omega⟩
             have hyn : yn < bn := by omega
             have HNY2 : Hid ((nx (tsOf bs) k)[j]? = some yn) := by have := HNY.out; rw [Hid]; simpa using this
             obtain ⟨jF, jR, jT, jA, jM, jS, jB⟩ := HJ.out;have hoF := jM.F yn hyn;obtain ⟨fa, fc, hfv⟩ := hoF.form;have hflen : (intsN (pvAt (tsOf bs) k j yn)).length ≤ 1000 := by
              have := pvAt_len (tsOf bs) k j yn;simp [intsN];omega
             have HFV := Lib.hid hfv;have HOF := Lib.hid hoF;have hc0 : wr.cell? ⟨w.heap.size + 1, 3, none⟩ = some (.slice (some ⟨FA, 0, none⟩) bn bn) := by rw [cell_of_row _ _ _ _ _ _ jR]; rfl
             have hc1 := hdr_cell jA yn hyn;rw [hfv] at hc1;have k0 : ∀ q : ClsW (fun q => Below B wr q), q.val.cell? ⟨w.heap.size + 1, 3, none⟩ = some (.slice (some ⟨FA, 0, none⟩) bn bn) := fun q => (q.prop.cell (p := ⟨w.heap.size + 1, 3, none⟩) (show w.heap.size + 1 < B by omega)).trans hc0;have k1 : ∀ q : ClsW (fun q => Below B wr q), q.val.cell? ⟨FA, yn, none⟩ = some (.slice fa (intsN (pvAt (tsOf bs) k j yn)).length fc) := fun q => (q.prop.cell (p := ⟨FA, yn, none⟩) (show FA < B from hFB)).trans hc1;have HA := Lib.hid jA;clear jF jR jT jA jM jB hoF hfv hc0 hc1 HG3 HNX HNO HNY;have hyn0 : (0 : Int) ≤ (yn : Int) := by omega
             have hyn1 : (yn : Int) < (bn : Int) := by omega
             go_upto_region 16 with (fail)
             clear hcy;refine z_start (fun w' => ∃ n : ClsW (fun q => Below B wr q), w' = n.val) (by kernel_rfl) ?_;obtain ⟨v0, F0, E0, hv0⟩ : ∃ v0, Below B wr v0 ∧ Below wr.heap.size wr v0 ∧ wr.drew = v0 := ⟨_, below_drewN (Below.refl _ _) 1, ext_drewN (Below.refl _ _) 1, rfl⟩
             rw [hv0];clear hv0
             haveI : Nonempty (ClsW (fun q => Below B wr q)) := cls_ne (Below.refl _ _)
             refine z_reads 0 9 (by kernel_rfl) ⟨⟨_, F0⟩, rfl⟩ ?_;simp only [List.take_succ_cons, List.take_zero, List.drop_succ_cons, List.drop_zero]
             repeat (go_big_quiet_step (fail))
             refine wpQuiet_nil ?_;refine z_one 9 (by kernel_rfl) ?_;refine wpOp_at rfl rfl ?_;go_simp;have F1 : Below B wr (v0.alloc (.cells #[.int .i64 (k : Int)] 3)) := F0.alloc (by have := E0.size; omega) _;refine ⟨Or.inr ⟨⟨_, F1⟩, rfl⟩, ?_⟩
             try simp only [Act.put, List.setIfInBounds_toArray, List.set_cons_succ, List.set_cons_zero]
             refine z_one 10 (by kernel_rfl) ?_;refine wpOp_at rfl rfl ?_;refine op_append1 v0 (.tmp 71) (.tmp 73) 22 3 rfl B _ 1 8 Tryz.underlying22 infoI rfl (by omega) (.slice fa (intsN (pvAt (tsOf bs) k j yn)).length fc) (intsN (pvAt (tsOf bs) k j yn)).length _ [.int .i64 (k : Int)] rfl (by have := (HOF.out.ext E0).1; rwa [HFV.out] at this) v0.heap.size rfl rfl rfl (by simp [Value.oneCell']) (by simp only [maxLen]; omega) (by omega) (by have := E0.size; omega) ?_;intro g cap w4 ho4 hg4 ha4;have hJv := HJ.out.ext E0;rw [← HFV.out] at hg4 ha4;have hlow : ∀ r, (hF2 yn).ownBlock = some r → B ≤ r := fun r e => (HOF.out.1.lt r e).1;have F2 : Below B wr w4 := F0.grown hg4 (by have := E0.size; omega) hlow;have hA4 : w4.heap[FA]? = some (hdrO bn hF2) := grown_row hg4 (block_ext E0 HA.out) (fun e => by have := hlow _ e; omega);have hoN : OwnI w4 B (.slice (some ⟨g, 0, none⟩) ((intsN (pvAt (tsOf bs) k j yn)).length + 1) cap) (intsN (pvAt (tsOf bs) k j yn) ++ [(k : Int)]) := by
              refine ⟨?_, ?_, by simp; omega⟩
              · have e3 : (intsN (pvAt (tsOf bs) k j yn) ++ [(k : Int)]).length = (intsN (pvAt (tsOf bs) k j yn)).length + 1 := by simp
                have e4 : intVals (intsN (pvAt (tsOf bs) k j yn) ++ [(k : Int)]) = intVals (intsN (pvAt (tsOf bs) k j yn)) ++ [.int .i64 (k : Int)] := by simp [intVals]
                rw [e3, e4];exact ho4
              · intro z hz;rcases List.mem_append.1 hz with h | h
                · exact HOF.out.2.1 z h
                · simp only [List.mem_singleton] at h;subst h;unfold I64;omega
             have HJ5 := Lib.hid (hJv.from yn hyn HNY2.out hg4 _ hoN (by
              rcases ha4 with e | e
              · exact .inl (by simpa [Value.ownBlock] using e)
              · exact .inr ⟨g, by simp [Value.ownBlock], by omega⟩) hFA hTA hne hTB hFB)
             have hc4 := hdr_cell hA4 yn hyn;have hf4 := hdr_free hA4 yn;have hl4 := lt_of_heap hA4;refine ⟨Or.inr ⟨⟨_, F2⟩, rfl⟩, ?_⟩
             try simp only [Act.put, List.setIfInBounds_toArray, List.set_cons_succ, List.set_cons_zero]
             refine z_reads 11 1 (by kernel_rfl) ⟨⟨_, F2⟩, rfl⟩ ?_;simp only [List.take_succ_cons, List.take_zero, List.drop_succ_cons, List.drop_zero]
             repeat (go_big_quiet_step (fail))
             refine wpQuiet_nil ?_;refine z_one 12 (by kernel_rfl) ?_;refine wpOp_at rfl rfl ?_;clear hJv ho4 hg4 ha4 hlow F2 hA4 hoN F0 E0 F1 k0 k1;generalize hF2 yn = hFy at *;go_simp;refine ⟨Or.inl (by kernel_rfl), ?_⟩
             try simp only [Act.put, List.setIfInBounds_toArray, List.set_cons_succ, List.set_cons_zero]
             refine z_done (by kernel_rfl) ?_;clear HA HOF HFV HJ;go_wp2
             go_roundg ((toD x.t).length - (j + 1))
             case measure => omega
             case rel => exact ⟨j + 1, _, by go_num, by omega, by omega, HG4, HJ5⟩
           · have HE : Hid (fitsB (tsOf bs) = false) := HNO.out (by omega);have HR2 := Lib.hid HJ.out.2.1;have HB2 := Lib.hid HJ.out.2.2.2.2.2.2;by_cases hy0 : y < 1
             all_goals
              go_wp2_with (first
               | (refine wpList_load_row (o := ⟨some _, .load 116 _, _, _, _, _⟩) rfl 116 _ rfl (w.heap.size + 1) rfl 116 _ (0, 0) _ HR2.out Tryz.underlying116 rfl size_walk ?_)
               | (refine wpList_store_row (o := ⟨none, .store 116 _ _, _, _, _, _⟩) rfl 116 _ _ rfl (w.heap.size + 1) #[.slice pa pn pc, .slice (some ⟨b, o, none⟩) bn bc, .slice (some ⟨TA, 0, none⟩) bn bn, .slice (some ⟨FA, 0, none⟩) bn bn] rfl rfl 116 _ HR2.out size_walk rfl (by simp [Value.oneCell']) ?_))
              refine bodyPost_ret (v := .tuple #[.agg #[.slice pa pn pc, .slice (some ⟨b, o, none⟩) bn bc, .slice (some ⟨TA, 0, none⟩) bn bn, .slice (some ⟨FA, 0, none⟩) bn bn], .bool false]) ?_ rfl ⟨_, by rw [HE.out], rfl, by simp [Value.oneCell'], below_setRow HB2.out (by omega) _, fun h => by rw [HE.out] at h; cases h⟩;have hl := run_loadVar_row (P := Tryz.prog) _ (w.heap.size + 1) 116 116 _ (0, 0) _ (setRow_heap _ _ _ #[.slice pa pn pc, .slice (some ⟨b, o, none⟩) bn bc, .slice (some ⟨TA, 0, none⟩) bn bn, .slice (some ⟨FA, 0, none⟩) bn bn] _ _ HR2.out) Tryz.underlying116 rfl size_walk;simp [results, Tryz.results78, asAddr, Act.put, hl]
         · obtain rfl : j = (toD x.t).length := by omega
           have HJ4 : Hid (OvJ w pa pn pc (some ⟨b, o, none⟩) bn bc (tsOf bs) TA FA B (k + 1) (k + 1) 0 hF2 hT2 wr) := by
            have e : (fun y => intsN (pvAt (tsOf bs) k (toD x.t).length y)) = fun y => intsN (pvAt (tsOf bs) (k + 1) 0 y) := by
             funext y
             rw [pvAt_next];rw [nx, HTK.out, List.length_map];exact Nat.le_refl _
            have := HJ.out;unfold OvJ at this;rw [e] at this;exact this
           have HG4 : Hid (∀ q, q < k + 1 → termB ((tsOf bs).getD q zTerm) = true ∧ ∀ x ∈ toD ((tsOf bs).getD q zTerm), 1 ≤ x ∧ x < bn) := fun q hq => by
            by_cases e : q = k
            · subst e;rw [HTK.out];refine ⟨HTB.out, fun z hz => ?_⟩;obtain ⟨r, hr, e⟩ := List.mem_iff_getElem.1 hz;have := HG2.out r hr;simpa [List.getD_eq_getElem?_getD, hr, e] using this
            · exact HG.out q (by omega)
           go_wp2
           go_roundg (bn - (k + 1))
           case measure => omega
           case rel => exact ⟨k + 1, hF2, hT2, by go_num, by omega, by omega, HG4, HJ4⟩
     · have htB' : termB x.t = false := by simpa using htB
       have HE : Hid (fitsB (tsOf bs) = false) := good_no (k := k) (by rw [tsOf_len, HLn.out]; exact hlt) (.inl (by rw [HTK.out]; exact htB'));have HTB := Lib.hid htB';clear htB htB';have HR1 := Lib.hid HJ1.out.2.1
       go_wp2_with (first
        | (go_at_call 128
           refine (isTerm_any x.t _ HTX.out).mono ?_;rintro e w2 ⟨rfl, hb2⟩;rw [HTB.out];have HB2 := Lib.hid hb2;have HR2 := Lib.hid (block_ext hb2 HR1.out);have HB2 := Lib.hid (ext_trans hB1 hb2)
           clear hb2)
        | (refine wpList_load_row (o := ⟨some _, .load 116 _, _, _, _, _⟩) rfl 116 _ rfl (w.heap.size + 1) rfl 116 _ (0, 0) _ HR2.out Tryz.underlying116 rfl size_walk ?_)
        | (refine wpList_store_row (o := ⟨none, .store 116 _ _, _, _, _, _⟩) rfl 116 _ _ rfl (w.heap.size + 1) #[.slice pa pn pc, .slice (some ⟨b, o, none⟩) bn bc, .slice (some ⟨TA, 0, none⟩) bn bn, .slice (some ⟨FA, 0, none⟩) bn bn] rfl rfl 116 _ HR2.out size_walk rfl (by simp [Value.oneCell']) ?_))
       refine bodyPost_ret (v := .tuple #[.agg #[.slice pa pn pc, .slice (some ⟨b, o, none⟩) bn bc, .slice (some ⟨TA, 0, none⟩) bn bn, .slice (some ⟨FA, 0, none⟩) bn bn], .bool false]) ?_ rfl ⟨_, by rw [HE.out], rfl, by simp [Value.oneCell'], below_setRow HB2.out (by omega) _, fun h => by rw [HE.out] at h; cases h⟩;have hl := run_loadVar_row (P := Tryz.prog) _ (w.heap.size + 1) 116 116 _ (0, 0) _ (setRow_heap _ _ _ #[.slice pa pn pc, .slice (some ⟨b, o, none⟩) bn bc, .slice (some ⟨TA, 0, none⟩) bn bn, .slice (some ⟨FA, 0, none⟩) bn bn] _ _ HR2.out) Tryz.underlying116 rfl size_walk;simp [results, Tryz.results78, asAddr, Act.put, hl]
   · obtain rfl : k = bn := by omega
     have hl2 : (tsOf bs).length = k := by rw [tsOf_len, HLn.out]
     have HWK := Lib.hid (HJ.out.walk hb2 HG.out hl2);have HGD : Hid (goodB (tsOf bs) = true) := by
      rw [Hid, goodB_iff, hl2];refine ⟨⟨hb1, hb2⟩, fun t ht => ?_⟩;obtain ⟨q, hq, e⟩ := List.mem_iff_getElem.1 ht;have := HG.out q (by omega);rw [List.getD_eq_getElem?_getD, List.getElem?_eq_getElem hq, Option.getD_some, e] at this;exact this
     have HE : Hid (eqS (zS (walkF (nx (tsOf bs)) (wholeS k) 0)) (wholeS k) = fitsB (tsOf bs)) := by
      rw [Hid, fitsB, HGD.out, Bool.true_and, hl2, Bool.eq_iff_iff];simp only [zS, eqS, List.all_eq_true, List.mem_range, beq_iff_eq, Bool.or_eq_true];constructor
      · intro h q hq;have := h q (by omega);by_cases e : q = 0
        · exact .inl e
        · rw [if_neg e] at this;exact .inr (by rw [this]; simpa [wholeS] using hq)
      · intro h q hq;by_cases e : q = 0
        · subst e; simp [wholeS]; omega
        · rw [if_neg e];by_cases hq2 : q < k
          · rw [(h q hq2).resolve_left e]; simp [wholeS, hq2]
          · have h1 : wholeS k q = false := by simp [wholeS]; omega
            rw [h1];cases e2 : walkF (nx (tsOf bs)) (wholeS k) 0 q with
            | false => rfl
            | true =>
              have := ((walkF_iff (whole_canon hb2) 0 q).1 e2).2.inn;rw [h1] at this; cases this
     have HC2 : Hid (wr.cell? ⟨w.heap.size + 1, 2, none⟩ = some (.slice (some ⟨TA, 0, none⟩) k k)) := by rw [Hid, cell_of_row _ _ _ _ _ _ HJ.out.2.1]; rfl
     have hszw : w.heap.size + 1 < wr.heap.size := lt_of_heap HJ.out.2.1;clear hl2;go_upto_region 19 with (fail)
     go_cut [9] (fun s9 wx => ∃ p9 : Nat, s9 = .pointer (some ⟨p9, 0, none⟩) ∧ wr.heap.size ≤ p9 ∧ Hid (wx.heap[p9]? = some (setO (walkF (nx (tsOf bs)) (wholeS k) 0))) ∧ Hid (wx.heap[w.heap.size + 1]? = some (walkO ⟨pa, pn, pc, ba, k, bc, some ⟨TA, 0, none⟩, k, some ⟨FA, 0, none⟩, k⟩)) ∧ Hid (Below wr.heap.size wr wx))
     case first =>
      refine region_free 7 [some 78, some 79, some 80, some 81, some 82, some 83, some 9] (by kernel_rfl) (by kernel_rfl) (specB [.val (walkV ⟨pa, pn, pc, ba, k, bc, some ⟨TA, 0, none⟩, k, some ⟨FA, 0, none⟩, k⟩), .val (walkV ⟨pa, pn, pc, ba, k, bc, some ⟨TA, 0, none⟩, k, some ⟨FA, 0, none⟩, k⟩), .val (.agg (setA (wholeS k))), .val (.pointer (some ⟨w.heap.size + 1, 2, none⟩)), .val (.slice (some ⟨TA, 0, none⟩) k k), .val (.agg (setA (walkF (nx (tsOf bs)) (wholeS k) 0))), .new (setO fun _ => false)]) (specB_mono ?_) ?_ ?_
      · intro k hk;simp only [List.mem_cons, List.not_mem_nil, or_false] at hk;rcases hk with rfl | rfl | rfl | rfl | rfl | rfl | rfl
        · exact trivial
        · exact trivial
        · exact trivial
        · exact trivial
        · exact trivial
        · exact trivial
        · exact trivial
      · intro i hi ν lo hi' w1 K hB hD hK;have hcase : i = 0 ∨ i = 1 ∨ i = 2 ∨ i = 3 ∨ i = 4 ∨ i = 5 ∨ i = 6 := by omega
        clear hi;rcases hcase with rfl | rfl | rfl | rfl | rfl | rfl | rfl
        · clear hD;refine wpOp_atK rfl rfl ?_;simp only [zA,zB,zC,zD,zE,zF,zJ,zK,zG,zH,zI] at hK ⊢;refine wp_load_row 116 _ rfl (w.heap.size + 1) rfl 116 _ (0, 0) _ (block_ext hB HJ.out.2.1) Tryz.underlying116 rfl size_walk ?_;exact hK _ _ (Below.refl _ _) rfl
        · clear hD;refine wpOp_atK rfl rfl ?_;simp only [zA,zB,zC,zD,zE,zF,zJ,zK,zG,zH,zI] at hK ⊢;refine wp_load_row 116 _ rfl (w.heap.size + 1) rfl 116 _ (0, 0) _ (block_ext hB HJ.out.2.1) Tryz.underlying116 rfl size_walk ?_;exact hK _ _ (Below.refl _ _) rfl
        · have e1 := hD 1 (by kernel_rfl)
          replace e1 : ν 1 = (walkV ⟨pa, pn, pc, ba, k, bc, some ⟨TA, 0, none⟩, k, some ⟨FA, 0, none⟩, k⟩) := e1
          clear hD;refine wpOp_atK rfl rfl ?_;simp only [zA,zB,zC,zD,zE,zF,zJ,zK,zG,zH,zI, e1] at hK ⊢;go_simp;refine (whole_any ⟨pa, pn, pc, ba, k, bc, some ⟨TA, 0, none⟩, k, some ⟨FA, 0, none⟩, k⟩ hb2 w1).mono ?_;rintro e w3 ⟨rfl, hb3⟩;exact hK _ _ hb3 rfl
        · clear hD;refine wpOp_atK rfl rfl ?_;simp only [zA,zB,zC,zD,zE,zF,zJ,zK,zG,zH,zI] at hK ⊢;go_simp;exact hK _ _ (Below.refl _ _) rfl
        · have e3 := hD 3 (by kernel_rfl)
          replace e3 : ν 3 = (.pointer (some ⟨w.heap.size + 1, 2, none⟩)) := e3
          clear hD;refine wpOp_atK rfl rfl ?_;simp only [zA,zB,zC,zD,zE,zF,zJ,zK,zG,zH,zI, e3] at hK ⊢;have q0 := cell_ext hB HC2.out;go_simp;exact hK _ _ (Below.refl _ _) rfl
        · have e0 := hD 0 (by kernel_rfl)
          replace e0 : ν 0 = (walkV ⟨pa, pn, pc, ba, k, bc, some ⟨TA, 0, none⟩, k, some ⟨FA, 0, none⟩, k⟩) := e0
          have e2 := hD 2 (by kernel_rfl)
          replace e2 : ν 2 = (.agg (setA (wholeS k))) := e2
          have e4 := hD 4 (by kernel_rfl)
          replace e4 : ν 4 = (.slice (some ⟨TA, 0, none⟩) k k) := e4
          clear hD;refine wpOp_atK rfl rfl ?_;simp only [zA,zB,zC,zD,zE,zF,zJ,zK,zG,zH,zI, e0, e2, e4] at hK ⊢;go_simp;refine (walk_any ⟨pa, pn, pc, ba, k, bc, some ⟨TA, 0, none⟩, k, some ⟨FA, 0, none⟩, k⟩ 0 (wholeS k) (some ⟨TA, 0, none⟩) k k (toRows (tsOf bs)) (nx (tsOf bs)) w1 (by omega) hb2 (fun y hy => by simpa [wholeS] using hy) (fun k hk => by simp [toRows, tsOf_len, HLn.out, hk]) (WalkOK.nx_lt (w := w) (d := ⟨pa, pn, pc, ba, k, bc, some ⟨TA, 0, none⟩, k, some ⟨FA, 0, none⟩, k⟩) HGD.out).1 (HWK.out.2.2.1.ext hB)).mono ?_;rintro e w3 ⟨rfl, hb3⟩;exact hK _ _ hb3 rfl
        · clear hD;refine wpOp_atK rfl rfl ?_;simp only [zA,zB,zC,zD,zE,zF,zJ,zK,zG,zH,zI] at hK ⊢;go_simp;refine hK _ _ (ext_alloc _ _) ⟨rfl, by simp, ?_⟩;rw [heap_alloc_new, zero_set]
      · intro ν lo hi w1 hB hS hI hD;have e0 : ν 0 = (walkV ⟨pa, pn, pc, ba, k, bc, some ⟨TA, 0, none⟩, k, some ⟨FA, 0, none⟩, k⟩) := hS 0 (by omega);have e1 : ν 1 = (walkV ⟨pa, pn, pc, ba, k, bc, some ⟨TA, 0, none⟩, k, some ⟨FA, 0, none⟩, k⟩) := hS 1 (by omega);have e2 : ν 2 = (.agg (setA (wholeS k))) := hS 2 (by omega);have e3 : ν 3 = (.pointer (some ⟨w.heap.size + 1, 2, none⟩)) := hS 3 (by omega);have e4 : ν 4 = (.slice (some ⟨TA, 0, none⟩) k k) := hS 4 (by omega);have e5 : ν 5 = (.agg (setA (walkF (nx (tsOf bs)) (wholeS k) 0))) := hS 5 (by omega);obtain ⟨e6, l6, h6⟩ := hS 6 (by omega);clear hS;simp only [List.drop_succ_cons, List.drop_zero, zA,zB,zC,zD,zE,zF,zJ,zK,zG,zH,zI, e0, e1, e2, e3, e4, e5, e6];have i6 := hI 6 (by omega);generalize lo 6 = p9 at *;have H6 := Lib.hid h6;have hp9 := i6.1;have HBx := Lib.hid (below_setRow (g := p9) hB hp9 (setA (walkF (nx (tsOf bs)) (wholeS k) 0)));clear hI hD hB e0 e1 e2 e3 e4 e5 e6 l6 h6 i6
        go_wp2_with (refine wpList_store_row (o := ⟨none, .store 124 _ _, _, _, _, _⟩) rfl 124 _ _ rfl p9 (setA (walkF (nx (tsOf bs)) (wholeS k) 0)) rfl rfl 124 _ H6.out (by rw [setA_size]; exact size_set) rfl (setA_all _) ?_)
        go_meet
        exact ⟨p9, rfl, hp9, setRow_heap _ _ _ _ _ _ H6.out, block_ext HBx.out HJ.out.2.1, HBx.out⟩
     case rest =>
      obtain ⟨p9, rfl, hp9, HS0, HR0, HB0⟩ := hcut;have hc9 := set_cell HS0.out 0 (by omega);have hf9 := set_free HS0.out 0;have hl9 := lt_of_heap HS0.out;have HS : Hid ((wc.setCell ⟨p9, 0, none⟩ (.bool true)).heap[p9]? = some (setO (zS (walkF (nx (tsOf bs)) (wholeS k) 0)))) := set_put HS0.out 0 (by omega) true;have hg9 := grown_setCell wc p9 0 (.bool true);have HR := Lib.hid (grown_row hg9 HR0.out (by simp; omega));have HBs := HB0.out.setCell (p := ⟨p9, 0, none⟩) hp9 (.bool true);have HWK2 := Lib.hid (HWK.out.ext HBs);have HB := Lib.hid (ext_trans HJ.out.2.2.2.2.2.2 HBs);clear HC2 hg9 HBs HS0 HR0 HB0;generalize walkF (nx (tsOf bs)) (wholeS k) 0 0 = b9 at hc9;go_upto_region 21 with (fail)
      obtain ⟨W2, hW2⟩ : ∃ W2, W2 = wc.setCell ⟨p9, 0, none⟩ (.bool true) := ⟨_, rfl⟩
      rw [← hW2] at HS HR HWK2 HB ⊢;clear hc9 hf9 hl9 hW2;refine region_free 6 [some 85, some 86, some 87, some 88, some 89, none] (by kernel_rfl) (by kernel_rfl) (specB [.val (walkV ⟨pa, pn, pc, ba, k, bc, some ⟨TA, 0, none⟩, k, some ⟨FA, 0, none⟩, k⟩), .val (.agg (setA (zS (walkF (nx (tsOf bs)) (wholeS k) 0)))), .val (walkV ⟨pa, pn, pc, ba, k, bc, some ⟨TA, 0, none⟩, k, some ⟨FA, 0, none⟩, k⟩), .val (.agg (setA (wholeS k))), .val (.bool (eqS (zS (walkF (nx (tsOf bs)) (wholeS k) 0)) (wholeS k))), (.any fun _ _ _ _ => True)]) (specB_mono ?_) ?_ ?_
      · intro k hk;simp only [List.mem_cons, List.not_mem_nil, or_false] at hk;rcases hk with rfl | rfl | rfl | rfl | rfl | rfl
        · exact trivial
        · exact trivial
        · exact trivial
        · exact trivial
        · exact trivial
        · exact fun _ _ _ _ _ _ h => h
      · intro i hi ν lo hi' w1 K hB hD hK;have hcase : i = 0 ∨ i = 1 ∨ i = 2 ∨ i = 3 ∨ i = 4 ∨ i = 5 := by omega
        clear hi;rcases hcase with rfl | rfl | rfl | rfl | rfl | rfl
        · clear hD;refine wpOp_atK rfl rfl ?_;simp only [zA,zB,zC,zD,zE,zF,zJ,zK,zG,zH,zI] at hK ⊢;refine wp_load_row 116 _ rfl (w.heap.size + 1) rfl 116 _ (0, 0) _ (block_ext hB HR.out) Tryz.underlying116 rfl size_walk ?_;exact hK _ _ (Below.refl _ _) rfl
        · clear hD;refine wpOp_atK rfl rfl ?_;simp only [zA,zB,zC,zD,zE,zF,zJ,zK,zG,zH,zI] at hK ⊢;refine wp_load_row 124 _ rfl p9 rfl 124 _ (0, 0) _ (block_ext hB HS.out) Tryz.underlying124 rfl (by rw [setA_size]; exact size_set) ?_;exact hK _ _ (Below.refl _ _) rfl
        · clear hD;refine wpOp_atK rfl rfl ?_;simp only [zA,zB,zC,zD,zE,zF,zJ,zK,zG,zH,zI] at hK ⊢;refine wp_load_row 116 _ rfl (w.heap.size + 1) rfl 116 _ (0, 0) _ (block_ext hB HR.out) Tryz.underlying116 rfl size_walk ?_;exact hK _ _ (Below.refl _ _) rfl
        · have e2 := hD 2 (by kernel_rfl)
          replace e2 : ν 2 = (walkV ⟨pa, pn, pc, ba, k, bc, some ⟨TA, 0, none⟩, k, some ⟨FA, 0, none⟩, k⟩) := e2
          clear hD;refine wpOp_atK rfl rfl ?_;simp only [zA,zB,zC,zD,zE,zF,zJ,zK,zG,zH,zI, e2] at hK ⊢;go_simp;refine (whole_any ⟨pa, pn, pc, ba, k, bc, some ⟨TA, 0, none⟩, k, some ⟨FA, 0, none⟩, k⟩ hb2 w1).mono ?_;rintro e w3 ⟨rfl, hb3⟩;exact hK _ _ hb3 rfl
        · have e1 := hD 1 (by kernel_rfl)
          replace e1 : ν 1 = (.agg (setA (zS (walkF (nx (tsOf bs)) (wholeS k) 0)))) := e1
          have e3 := hD 3 (by kernel_rfl)
          replace e3 : ν 3 = (.agg (setA (wholeS k))) := e3
          clear hD;refine wpOp_atK rfl rfl ?_;simp only [zA,zB,zC,zD,zE,zF,zJ,zK,zG,zH,zI, e1, e3] at hK ⊢;have heq := equal_set w1 (zS (walkF (nx (tsOf bs)) (wholeS k) 0)) (wholeS k);go_simp;exact hK _ _ (Below.refl _ _) rfl
        · have e0 := hD 0 (by kernel_rfl)
          replace e0 : ν 0 = (walkV ⟨pa, pn, pc, ba, k, bc, some ⟨TA, 0, none⟩, k, some ⟨FA, 0, none⟩, k⟩) := e0
          have e2 := hD 2 (by kernel_rfl)
          replace e2 : ν 2 = (walkV ⟨pa, pn, pc, ba, k, bc, some ⟨TA, 0, none⟩, k, some ⟨FA, 0, none⟩, k⟩) := e2
          have e3 := hD 3 (by kernel_rfl)
          replace e3 : ν 3 = (.agg (setA (wholeS k))) := e3
          clear hD;refine wpOp_atK rfl rfl ?_;simp only [zA,zB,zC,zD,zE,zF,zJ,zK,zG,zH,zI, e0, e2, e3] at hK ⊢;have hr1 := block_ext hB HR.out;refine wp_store_row 116 _ _ rfl (w.heap.size + 1) _ rfl rfl 116 _ hr1 size_walk rfl (by simp [Value.oneCell']) ?_;rw [setRow_self _ _ _ _ _ hr1];exact hK undef _ (Below.refl _ _) trivial
      · intro ν lo hi w1 hB hS hI hD;have e0 : ν 0 = (walkV ⟨pa, pn, pc, ba, k, bc, some ⟨TA, 0, none⟩, k, some ⟨FA, 0, none⟩, k⟩) := hS 0 (by omega);have e1 : ν 1 = (.agg (setA (zS (walkF (nx (tsOf bs)) (wholeS k) 0)))) := hS 1 (by omega);have e2 : ν 2 = (walkV ⟨pa, pn, pc, ba, k, bc, some ⟨TA, 0, none⟩, k, some ⟨FA, 0, none⟩, k⟩) := hS 2 (by omega);have e3 : ν 3 = (.agg (setA (wholeS k))) := hS 3 (by omega);have e4 : ν 4 = (.bool (eqS (zS (walkF (nx (tsOf bs)) (wholeS k) 0)) (wholeS k))) := hS 4 (by omega);have e5 := hS 5 (by omega);unfold specB at e5;simp only [List.getD_cons_zero, List.getD_cons_succ, specK] at e5;clear hS;simp only [List.drop_succ_cons, List.drop_zero, zA,zB,zC,zD,zE,zF,zJ,zK,zG,zH,zI, e0, e1, e2, e3, e4];have hB9 := ext_trans HB.out hB;have hR9 := block_ext hB HR.out;have hW9 := HWK2.out.ext hB;clear hI hD hB e0 e1 e2 e3 e4 e5;go_wp2;refine bodyPost_ret (v := .tuple #[walkV ⟨pa, pn, pc, ba, k, bc, some ⟨TA, 0, none⟩, k, some ⟨FA, 0, none⟩, k⟩, .bool (eqS (zS (walkF (nx (tsOf bs)) (wholeS k) 0)) (wholeS k))]) ?_ rfl ⟨_, by rw [HE.out], rfl, by simp [Value.oneCell'], hB9, fun _ => ⟨_, _, _, _, rfl, hW9⟩⟩;have hl := run_loadVar_row (P := Tryz.prog) _ (w.heap.size + 1) 116 116 _ (0, 0) _ hR9 Tryz.underlying116 rfl size_walk;simp [results, Tryz.results78, asAddr, Act.put, hl]
end

section
open Go.RowKit Go.Shelf
attribute [local go_sem] Oper.semAt_some wide_fn wide_depth wide_fnR wide_depthR
def encE (x : EdgeD) : Array Value := #[.agg #[.int .i64 x.fr, .int .i64 x.arm, .int .i64 x.to]]
theorem cell_heap {w w' : World} {b o : Nat} (h : w'.heap[b]? = w.heap[b]?) : w'.cell? ⟨b, o, none⟩ = w.cell? ⟨b, o, none⟩ := by
 unfold World.cell?
 simp only [h]
theorem Ints.heap {w w' : World} {a : Option Addr} {n : Nat} {xs : List Int} (h : Ints w a n xs) (hb : ∀ b o, a = some ⟨b, o, none⟩ → w'.heap[b]? = w.heap[b]?) : Ints w' a n xs :=
 ⟨h.1, h.2.1, fun k hk => by
  obtain ⟨b, o, e, hc, hi⟩ := h.2.2 k hk
  exact ⟨b, o, e, (cell_heap (hb b o e)).trans hc, hi⟩⟩
theorem each40_any (pa : Option Addr) (pn pc : Nat) (ba : Option Addr) (bn bc : Nat) (w : World) : Calls Tryz.prog 70 #[funcV pa pn pc ba bn bc] w fun e w' => e = .returned (.func (.func 123) #[] #[.pointer (some ⟨w.heap.size, 0, none⟩)]) ∧ w' = w.alloc (funcO pa pn pc ba bn bc) := by
 go_enter Tryz.func70, Tryz.ntmps70
 go_wp2
 go_ret
 exact ⟨rfl, rfl⟩
theorem eachE_iterTI (pa : Option Addr) (pn pc : Nat) (ba : Option Addr) (bn bc : Nat) (bs : List BlkH) (G : Nat) : IterTI Tryz.prog 123 #[.pointer (some ⟨G, 0, none⟩)] encE (edgesL (tsOf bs)) (fun W => W.heap[G]? = some (funcO pa pn pc ba bn bc) ∧ BlksOK W ba bn bs) := by
 intro l K Kx T W hK hKx hInv hT0 hTg hY h0
 refine callsIn_of_wp Tryz.func123 rfl trivial ?_ rfl
 simp only [Tryz.ntmps123, List.size_toArray, List.length_cons, List.length_nil, Nat.reduceAdd, Nat.reduceSub, Array.replicate_succ, Array.replicate_zero, List.push_toArray, List.append_toArray, List.nil_append, List.cons_append]
 have HY := Lib.hid hY
 have HI := Lib.hid hInv
 have HK0 := Lib.hid hK
 have HT0 := Lib.hid hT0
 have HTG := Lib.hid hTg
 have H0 : Hid (K (edgesFrom (tsOf bs) 0) W) := h0
 have hg0 : W.cell? ⟨G, 1, none⟩ = some (.slice ba bn bc) := by rw [cell_of_row _ _ _ _ _ _ (hInv _ _ h0).1]; rfl
 have hbn := (hInv _ _ h0).2.1.2.1
 have HLN := Lib.hid (hInv _ _ h0).2.1.1
 clear hY hInv hK hKx h0 hT0 hTg
 gi_wp2
 gi_loopw [3, 4, 5, 6, 10] (fun _ _ _ _ i wr => ∃ k : Nat, i = .int .i64 k ∧ k ≤ bn ∧ Hid (K (edgesFrom (tsOf bs) k) wr)) (fun _ _ _ _ i _ => bn - (intOf i).toNat)
 case atStart => exact ⟨0, rfl, by omega, H0.out⟩
 case round =>
  obtain ⟨k, rfl, hk, HK⟩ := hrel;clear hg0;by_cases hlt : k < bn
  · obtain ⟨x, b, o, hbx, hxo, rfl, c0, c1, c2, c3, c4⟩ := (HI.out _ _ HK.out).2.cells hlt;have htd := tsOf_at bs k x hbx;have HES : Hid (edgesFrom (tsOf bs) k = armsF k 0 (toD x.t) ++ edgesFrom (tsOf bs) (k + 1)) := by
     rw [Hid, edgesFrom_step _ _ (by rw [tsOf_len, HLN.out]; exact hlt), edgesAt, htd]
    have HXO := Lib.hid hxo;have hlt' : (k : Int) < (bn : Int) := by omega
    clear hbx htd hxo
    gi_wp2_with (
     (gi_at_call 124
      refine (callsIn_wide.2 (to_any x.t _ HXO.out)).mono ?_;rintro e w2 ⟨v, rfl, ho, hb⟩;obtain ⟨va, vc, rfl⟩ := ho.form;have hbw := ext_trans (ext_alloc wr (blkO x)) hb;have HV := Lib.hid ho.ints;have HK2 := Lib.hid (HK0.out _ _ _ HK.out hbw)
      have HNT : Hid (∀ q o, va = some ⟨q, o, none⟩ → ¬ T w2 q) := (fun q o e ht => by
       have h1 := HT0.out _ _ _ HK.out (HTG.out _ _ _ _ HK.out hbw ht);have h2 := (ho.1.lt q (by rw [e]; rfl)).1;simp at h2
       omega)
      clear ho hb hbw))
    obtain ⟨wo, rfl⟩ : ∃ wo : World, wo = wr := ⟨_, rfl⟩
    gi_loopw [5, 6, 19] (fun _ _ i wi => ∃ j : Nat, i = .int .i64 j ∧ j ≤ (toD x.t).length ∧ Hid (K (armsF k j ((toD x.t).drop j) ++ edgesFrom (tsOf bs) (k + 1)) wi) ∧ Hid (Ints wi va (toD x.t).length (toD x.t)) ∧ Hid (∀ q o, va = some ⟨q, o, none⟩ → ¬ T wi q)) (fun _ _ i _ => (toD x.t).length - (intOf i).toNat)
    case atStart => exact ⟨0, rfl, by omega, by rw [Hid, List.drop_zero, ← HES.out]; exact HK2.out, HV, HNT⟩
    case round =>
     obtain ⟨j, rfl, hj, HKj, HVj, HNTj⟩ := hrel;clear HK2 HV HNT;by_cases hjl : j < (toD x.t).length
     · obtain ⟨b3, o3, rfl, hcy, _⟩ := HVj.out.2.2 j hjl;have HL : Hid (armsF k j ((toD x.t).drop j) ++ edgesFrom (tsOf bs) (k + 1) = ⟨k, j, (toD x.t).getD j 0⟩ :: (armsF k (j + 1) ((toD x.t).drop (j + 1)) ++ edgesFrom (tsOf bs) (k + 1))) := by
        rw [Hid, List.drop_eq_getElem_cons hjl];simp [armsF, List.getD_eq_getElem?_getD, hjl]
       have hjl' : (j : Int) < ((toD x.t).length : Int) := by omega
       obtain ⟨fn, tmps, assign, body, hy, hR⟩ := HY.out _ ⟨k, j, (toD x.t).getD j 0⟩ wr (by rw [HL.out]; rfl) HKj.out;unfold encE at hy;have hT : nxL (armsF k j ((toD x.t).drop j) ++ edgesFrom (tsOf bs) (k + 1)) ⟨k, j, (toD x.t).getD j 0⟩ = armsF k (j + 1) ((toD x.t).drop (j + 1)) ++ edgesFrom (tsOf bs) (k + 1) := by rw [HL.out]; rfl
       rw [hT] at hR;have HR2 := Lib.hid hR;clear hT hR;have hj2 := toD_len x.t;generalize (toD x.t).getD j 0 = y at *
       gi_wp2
       refine HR2.out.mono ?_;rintro e W' (⟨rfl, hJ', hT'⟩ | ⟨rfl, hX'⟩)
       · have HKn := Lib.hid hJ'
         have HVn := Lib.hid (HVj.out.heap fun b o e => hT'.2.1 b (by
          obtain ⟨b4, o4, e4, hc4, _⟩ := HVj.out.2.2 j hjl;rw [e4] at e;injection e with e;injection e with e _ _;subst e
          exact World.block_lt_of_cell? _ _ hc4) (HNTj.out b o e))
         have HNn : Hid (∀ q o, some (⟨b3, o3, none⟩ : Addr) = some ⟨q, o, none⟩ → ¬ T W' q) := fun q o e ht => by
          rcases hT'.2.2 q ht with h | h
          · exact HNTj.out q o e h
          · have := World.block_lt_of_cell? _ _ hcy;injection e with e;injection e with e _ _;subst e;simp at this;omega
         clear hJ' hT' hy HR2 hcy
         gi_wp2
         go_roundw
         case rel => exact ⟨j + 1, by go_num, by omega, HKn, HVn, HNn⟩
         case measure => simp [intOf]; omega
       · have HX := Lib.hid hX';clear hX' hy HR2
         gi_wp2
         exact bodyPost_ret (v := .tuple #[]) (by simp [results, Tryz.results123, go_sem]) rfl ⟨⟨_, rfl⟩, Or.inr HX.out⟩
     · obtain rfl : j = (toD x.t).length := by omega
       have HKe : Hid (K (edgesFrom (tsOf bs) (k + 1)) wr) := by
        have := HKj.out;rw [List.drop_length] at this;exact this
       clear HKj HVj HNTj
       gi_wp2
       go_roundw
       case rel => exact ⟨k + 1, by go_num, by omega, HKe⟩
       case measure => simp [intOf]; omega
  · obtain rfl : k = bn := by omega
    have HE : Hid (edgesFrom (tsOf bs) k = []) := edgesFrom_end _ _ (by rw [tsOf_len, HLN.out]; omega)
    gi_wp2
    go_end0
    exact ⟨⟨_, rfl⟩, Or.inl ⟨_, HE.out, HK.out⟩⟩
end
end Go.Proofs.YtblhmdhfhaencaaGreat
