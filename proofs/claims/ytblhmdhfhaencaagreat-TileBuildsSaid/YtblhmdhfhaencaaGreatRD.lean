/-
  The document's answer to layer 17: where a block goes, sets, what is behind a block.
-/
import Derived.Test.YtblhmdhfhaencaaGreatQueue
import Derived.Test.YtblhmdhfhaencaaGreatTV
import Derived.Deep.LoopGhost
import Derived.Test.YtblhmdhfhaencaaGreatSortI
import Derived.Test.YtblhmdhfhaencaaGreatTR
namespace Go.Proofs.YtblhmdhfhaencaaGreat
set_option linter.unusedSimpArgs false
set_option linter.unusedVariables false
set_option linter.unusedSectionVars false
set_option maxRecDepth 100000
set_option maxHeartbeats 40000000
section
open Go.RowKit
abbrev rsetO (f : Nat → Bool) : Obj := .cells (setA f) 107 (0, 0)
theorem size_rset : (Tryz.prog.info? 107).map (·.size) = some 200 := by kernel_rfl
theorem zero_rset : Tryz.zeroCells107 = setA fun _ => false := by kernel_rfl
theorem load_rset {W : World} {g : Nat} {f : Nat → Bool} (hg : W.heap[g]? = some (rsetO f)) : (loadVar 107 ⟨g, 0, none⟩).run Tryz.prog W = .ok (.agg (setA f)) W :=
  run_loadVar_row (P := Tryz.prog) W g 107 107 _ (0, 0) _ hg Tryz.underlying107 rfl (by rw [setA_size]; exact size_rset)
theorem rset_cell {W : World} {g : Nat} {f : Nat → Bool} (hg : W.heap[g]? = some (rsetO f)) (j : Nat) (hj : j < 200) : W.cell? ⟨g, j, none⟩ = some (.bool (f j)) := by rw [cell_of_row _ _ _ _ _ _ hg, setA_at _ _ hj]
theorem rset_free {W : World} {g : Nat} {f : Nat → Bool} (hg : W.heap[g]? = some (rsetO f)) (j : Nat) : W.frozen? ⟨g, j, none⟩ = false := frozen_of_row _ _ _ _ _ hg
theorem rset_to {W : World} {g : Nat} {f h : Nat → Bool} {j : Nat} {b : Bool} (hg : W.heap[g]? = some (rsetO f)) (hj : j < 200) (e : (fun k => if k = j then b else f k) = h) : (W.setCell ⟨g, j, none⟩ (.bool b)).heap[g]? = some (rsetO h) := by
  rw [heap_setCell_same _ _ _ _ _ _ hg, setA_put _ _ hj, e]
theorem to17_any (pa : Option Addr) (pn pc : Nat) (ba : Option Addr) (bn bc : Nat) (bs : List BlkH) (k : Nat) (w : World) (h : BlksOK w ba bn bs) (hk : k < bn) :
    Calls Tryz.prog 96 #[funcV pa pn pc ba bn bc, .int .i64 (k : Int)] w (IntsPost w (toD ((tsOf bs).getD k zTerm))) := by
  have hbn := h.1.2.1
  obtain ⟨x, b, o, hx, ht, rfl, c0, c1, c2, c3, c4⟩ := (h.ext (ext_alloc w (funcO pa pn pc ba bn bc))).cells hk
  rw [tsOf_at _ _ _ hx]
  have HT := Lib.hid ht
  have hk2 : (k : Int) < (bn : Int) := by omega
  clear h hx ht c0
  go_enter Tryz.func96, Tryz.ntmps96
  go_wp2_with (
    (go_at_call 71
     refine (to03_any x.t _ HT.out).mono ?_;rintro e w1 ⟨v, rfl, ho, hb⟩;have HO := Lib.hid (ho.mono (show w.heap.size ≤ _ by simp));have HB := Lib.hid (ext_trans (ext_alloc _ _) hb)
     clear ho hb c1 c2 c3 c4))
  go_ret
  exact ⟨v, rfl, HO.out, HB.out⟩
theorem whole17_any (pa : Option Addr) (pn pc : Nat) (ba : Option Addr) (bn bc : Nat) (hd : bn ≤ 200) (w : World) : Calls Tryz.prog 73 #[funcV pa pn pc ba bn bc] w (SetPost w (wholeS bn)) := by
  go_enter Tryz.func73, Tryz.ntmps73
  go_upto_region 2 with (fail)
  obtain ⟨W, hW⟩ : ∃ W, W = ((w.alloc (funcO pa pn pc ba bn bc)).alloc (.cells Tryz.zeroCells107 107)).alloc (.cells Tryz.zeroCells107 107) := ⟨_, rfl⟩
  rw [← hW]
  have hf : W.heap[w.heap.size]? = some (funcO pa pn pc ba bn bc) := by rw [hW, Below.heap_alloc _ _ _ (by simp; omega), Below.heap_alloc _ _ _ (by simp)]; exact heap_alloc_new _ _
  have hr : W.heap[w.heap.size + 1]? = some (rsetO fun _ => false) := by rw [hW, Below.heap_alloc _ _ _ (by simp), heap_at _ _ _ (by simp), zero_rset]
  have hs : W.heap[w.heap.size + 1 + 1]? = some (rsetO (wholeS 0)) := by rw [hW, heap_at _ _ _ (by simp), zero_rset]; rfl
  have HF := Lib.hid hf
  have HR := Lib.hid hr
  have HS := Lib.hid hs
  have HB : Hid (Below w.heap.size w W) := by rw [Hid, hW]; exact ((ext_alloc _ _).alloc (by simp) _).alloc (by simp; omega) _
  clear hW hf hr hs
  go_wp2
  go_loopw [4] (fun i wr => ∃ (k : Nat), k ≤ bn ∧ i = .int .i64 k ∧ Hid (wr.heap[w.heap.size]? = some (funcO pa pn pc ba bn bc)) ∧ Hid (wr.heap[w.heap.size + 1]? = some (rsetO fun _ => false)) ∧ Hid (wr.heap[w.heap.size + 1 + 1]? = some (rsetO (wholeS k))) ∧ Hid (Below w.heap.size w wr)) (fun i _ => bn - (intOf i).toNat)
  case atStart => exact ⟨0, by omega, rfl, HF, HR, HS, HB⟩
  case round =>
    clear HF HR HS HB;obtain ⟨k, hk, rfl, HF, HR, HS, HB⟩ := hrel;have kf := HF.out;have k1 : wr.cell? ⟨w.heap.size, 1, none⟩ = some (.slice ba bn bc) := by rw [cell_of_row _ _ _ _ _ _ kf]; rfl
    clear kf;by_cases hlt : k < bn
    · have hcell := rset_cell HS.out k (by omega);have hfr := rset_free HS.out k;have HS2 := Lib.hid (rset_to (h := wholeS (k + 1)) (b := true) HS.out (show k < 200 by omega) (by funext j; by_cases e : j = k <;> simp [wholeS, e] <;> omega));have HF2 := Lib.hid (grown_row (grown_setCell wr (w.heap.size + 1 + 1) k (.bool true)) HF.out (by simp; omega));have HR2 := Lib.hid (grown_row (grown_setCell wr (w.heap.size + 1 + 1) k (.bool true)) HR.out (by simp));have hl := lt_of_heap HS.out;have hlt' : (k : Int) < (bn : Int) := by omega
      generalize wholeS k k = bb at *;go_wp2
      go_roundw
      case rel => exact ⟨k + 1, by omega, by go_num, HF2, HR2, HS2, HB.out.setCell (by simp; omega) _⟩
      case measure => simp [intOf]; omega
    · obtain rfl : k = bn := by omega
      go_wp2_with (first
        | (refine wpList_load_row rfl 107 _ rfl (w.heap.size + 1 + 1) rfl 107 _ (0, 0) _ HS.out Tryz.underlying107 rfl (by rw [setA_size]; exact size_rset) ?_)
        | (refine wpList_store_row rfl 107 _ _ rfl (w.heap.size + 1) (setA (wholeS k)) rfl rfl 107 _ HR.out (by rw [setA_size]; exact size_rset) rfl (setA_all _) ?_))
      exact bodyPost_ret (v := .agg (setA (wholeS k))) (by simp [results, Tryz.results73, asAddr, Act.put, load_rset (setRow_heap _ _ _ _ _ _ HR.out)]) rfl ⟨rfl, below_setRow HB.out (by omega) _⟩
def cntS (f : Nat → Bool) (k : Nat) : Nat := ((List.range k).filter f).length
theorem cntS_step (f : Nat → Bool) (k : Nat) : cntS f (k + 1) = cntS f k + if f k then 1 else 0 := by
  rw [cntS, cntS, List.range_succ, List.filter_append, List.length_append]
  cases h : f k <;> simp [h]
theorem cntS_le (f : Nat → Bool) (k : Nat) : cntS f k ≤ k := by
  have := List.length_filter_le f (List.range k)
  simpa [cntS] using this
theorem many17_any (f : Nat → Bool) (w : World) : Calls Tryz.prog 99 #[.agg (setA f)] w fun e w' => e = .returned (.int .i64 (cntS f 200 : Nat)) ∧ Below w.heap.size w w' := by
  have HK0 : Hid ((w.alloc (rsetO f)).heap[w.heap.size]? = some (rsetO f)) := heap_alloc_new _ _
  go_enter Tryz.func99, Tryz.ntmps99
  go_wp2
  go_loopw [3, 4] (fun s3 i wr => ∃ (k : Nat), k ≤ 200 ∧ i = .int .i64 k ∧ s3 = .int .i64 (cntS f k : Nat) ∧ Hid (wr = w.alloc (rsetO f))) (fun _ i _ => 200 - (intOf i).toNat)
  case atStart => exact ⟨0, by omega, rfl, rfl, rfl⟩
  case round =>
    obtain ⟨k, hk, rfl, rfl, HW⟩ := hrel;have hle := cntS_le f k;have HST := Lib.hid (cntS_step f k);by_cases hlt : k < 200
    · have hk0 : wr.heap[w.heap.size]? = some (rsetO f) := by rw [HW.out]; exact HK0.out
      have hcell := rset_cell hk0 k hlt;clear hk0;cases hf : f k with
      | true =>
        rw [hf] at hcell HST;have HST2 : Hid (cntS f (k + 1) = cntS f k + 1) := HST.out;clear HST hf;generalize cntS f k = z at *;go_wp2
        go_roundw
        case rel => exact ⟨k + 1, by omega, by go_num, by rw [HST2.out]; go_num, HW⟩
        case measure => simp [intOf]; omega
      | false =>
        rw [hf] at hcell HST;have HST2 : Hid (cntS f (k + 1) = cntS f k) := HST.out;clear HST hf;go_wp2
        go_roundw
        case rel => exact ⟨k + 1, by omega, by go_num, by rw [HST2.out], HW⟩
        case measure => simp [intOf]; omega
    · obtain rfl : k = 200 := by omega
      go_wp2
      go_ret
      exact ⟨rfl, by rw [HW.out]; exact ext_alloc _ _⟩
end

section
open Go.RowKit
def BJ (fo : Obj) (next : Nat → List Nat) (f : Nat → Bool) (b : Nat) (w : World) (st seen : List Nat) (x : Option (Nat × Nat)) (v : Value) (wr : World) : Prop :=
  WInv next f b st (fun y => seen.contains y) x ∧ seen.Nodup ∧ (∀ y ∈ seen, y < 200) ∧ wr.heap[w.heap.size]? = some fo ∧ wr.heap[w.heap.size + 1]? = some (rsetO f) ∧ wr.heap[w.heap.size + 1 + 1]? = some (rsetO fun _ => false) ∧
    wr.heap[w.heap.size + 1 + 1 + 1]? = some (rsetO fun y => seen.contains y) ∧ QueI wr (w.heap.size + 1 + 1 + 1 + 1) v (intsN st) ∧ Below w.heap.size w wr
theorem BJ.ext {fo : Obj} {next : Nat → List Nat} {f : Nat → Bool} {b : Nat} {w : World} {st seen : List Nat} {x : Option (Nat × Nat)} {v : Value} {wr w' : World} (h : BJ fo next f b w st seen x v wr) (hb : Below wr.heap.size wr w') : BJ fo next f b w st seen x v w' := by
  obtain ⟨h1, h2, h3, h4, h5, h6, h7, h8, h9⟩ := h
  exact ⟨h1, h2, h3, block_ext hb h4, block_ext hb h5, block_ext hb h6, block_ext hb h7, h8.ext hb, ext_trans h9 hb⟩
theorem toD_nx {ts : List TermD} (hg : goodB ts = true) (k : Nat) : toD (ts.getD k zTerm) = intsN (nx ts k) := by
  rw [nx, intsN, List.map_map]
  by_cases hk : k < ts.length
  · have hm : ts.getD k zTerm ∈ ts := by rw [List.getD_eq_getElem?_getD, List.getElem?_eq_getElem hk]; exact List.getElem_mem _
    have h := ((goodB_iff ts).1 hg).2 _ hm
    conv => lhs; rw [← List.map_id (toD (ts.getD k zTerm))]
    refine List.map_congr_left fun x hx => ?_;have := h.2 x hx;simp only [id, Function.comp];omega
  · have : ts.getD k zTerm = zTerm := by rw [List.getD_eq_getElem?_getD, List.getElem?_eq_none (by omega)]; rfl
    rw [this]; rfl
theorem behind17_any (pa : Option Addr) (pn pc : Nat) (ba : Option Addr) (bn bc : Nat) (bs : List BlkH) (b : Nat) (f : Nat → Bool) (w : World) (h : BlksOK w ba bn bs) (hg : goodB (tsOf bs) = true) (hb : b < 200) (hcf : Canon f) (hf : f b = true → b < bn) :
    Calls Tryz.prog 98 #[funcV pa pn pc ba bn bc, .int .i64 (b : Int), .agg (setA f)] w (SetPost w (walkF (nx (tsOf bs)) f b)) := by
  have hbl : (tsOf bs).length = bn := by rw [tsOf_len]; exact h.1.1
  have hbn : bn ≤ 200 := by have := ((goodB_iff _).1 hg).1.2; omega
  have H := Lib.hid h
  have HG := Lib.hid hg
  have HC := Lib.hid hcf
  have HF := Lib.hid hf
  have HX : Hid (∀ k y, y ∈ nx (tsOf bs) k → y < bn) := fun k y hy => by have := good_nx hg hy; omega
  clear h hg hcf hf
  go_enter Tryz.func98, Tryz.ntmps98
  go_upto_region 2 with (fail)
  obtain ⟨W, hW⟩ : ∃ W, W = (((w.alloc (funcO pa pn pc ba bn bc)).alloc (rsetO f)).alloc (.cells Tryz.zeroCells107 107)).alloc (.cells Tryz.zeroCells107 107) := ⟨_, rfl⟩
  rw [← hW]
  have ho : W.heap[w.heap.size]? = some (funcO pa pn pc ba bn bc) := by rw [hW, Below.heap_alloc _ _ _ (by simp <;> omega), Below.heap_alloc _ _ _ (by simp <;> omega), Below.heap_alloc _ _ _ (by simp)]; exact heap_alloc_new _ _
  have hi : W.heap[w.heap.size + 1]? = some (rsetO f) := by rw [hW, Below.heap_alloc _ _ _ (by simp <;> omega), Below.heap_alloc _ _ _ (by simp), heap_at _ _ _ (by simp)]
  have hr : W.heap[w.heap.size + 1 + 1]? = some (rsetO fun _ => false) := by rw [hW, Below.heap_alloc _ _ _ (by simp), heap_at _ _ _ (by simp), zero_rset]
  have hs : W.heap[w.heap.size + 1 + 1 + 1]? = some (rsetO fun _ => false) := by rw [hW, heap_at _ _ _ (by simp), zero_rset]
  have hB : Below w.heap.size w W := by rw [hW]; exact (((ext_alloc _ _).alloc (by simp) _).alloc (by simp; omega) _).alloc (by simp; omega) _
  have hWs : W.heap.size = w.heap.size + 1 + 1 + 1 + 1 := by rw [hW]; simp
  have HWs := Lib.hid hWs
  have hc := rset_cell hi b hb
  have HO := Lib.hid ho
  have HI := Lib.hid hi
  have HR := Lib.hid hr
  have HS := Lib.hid hs
  have HB := Lib.hid hB
  clear hW hWs ho hi hr hs hB
  by_cases hfb : f b = true
  · rw [hfb] at hc;have HFB := Lib.hid hfb;clear hfb;go_wp2
    go_loopg [8, 9, 10, 11] 201 (fun gg v _ _ _ wr => ∃ (st seen : List Nat), st.length + 200 ≤ gg + seen.length ∧ st.length ≤ seen.length + 1 ∧ Hid (BJ (funcO pa pn pc ba bn bc) (nx (tsOf bs)) f b w st seen none v wr))
    case atStart =>
      refine ⟨[b], [], by simp, by simp, by simpa using WInv.start (nx (tsOf bs)) f b, by simp, by simp, ?_, ?_, ?_, ?_, ?_, ?_⟩
      · exact (Below.heap_alloc _ _ _ (by rw [HWs.out]; omega)).trans HO.out
      · exact (Below.heap_alloc _ _ _ (by rw [HWs.out]; omega)).trans HI.out
      · exact (Below.heap_alloc _ _ _ (by rw [HWs.out]; omega)).trans HR.out
      · exact (Below.heap_alloc _ _ _ (by rw [HWs.out]; omega)).trans HS.out
      · exact QueI.of_own (ownI_lit (xs := intsN [b]) rfl _ (by rw [HWs.out]; omega) (intsN_ok [b] (by simp; omega)) (by simp [intsN]))
      · exact HB.out.alloc (by rw [HWs.out]; omega) _
    case round =>
      obtain ⟨st, seen, hm, hm2, HJ⟩ := hrel;clear hc HO HI HS HR HB HWs;rcases st with _ | ⟨x, st'⟩
      · obtain ⟨h1, h2, h3, h4, h5, h6, h7, h8, h9⟩ := HJ.out;obtain ⟨g, o, cap, rfl, hl1, hl2, _⟩ := h8.form;have HE : Hid ((fun y => seen.contains y) = walkF (nx (tsOf bs)) f b) := walkF_of HC.out HFB.out h1;rw [HE.out] at h7;have HS := Lib.hid h7;have HR := Lib.hid h6;have HB := Lib.hid h9;clear h1 h2 h3 h4 h5 h6 h7 h8 h9 HJ hm
        go_wp2_with (first
          | (refine wpList_load_row rfl 107 _ rfl (w.heap.size + 1 + 1 + 1) rfl 107 _ (0, 0) _ HS.out Tryz.underlying107 rfl (by rw [setA_size]; exact size_rset) ?_)
          | (refine wpList_store_row rfl 107 _ _ rfl (w.heap.size + 1 + 1) (setA (walkF (nx (tsOf bs)) f b)) rfl rfl 107 _ HR.out (by rw [setA_size]; exact size_rset) rfl (setA_all _) ?_))
        exact bodyPost_ret (v := .agg (setA (walkF (nx (tsOf bs)) f b))) (by simp [results, Tryz.results98, asAddr, Act.put, load_rset (setRow_heap _ _ _ _ _ _ HR.out)]) rfl ⟨rfl, below_setRow HB.out (by omega) _⟩
      · obtain ⟨h1, h2, h3, h4, h5, h6, h7, h8, h9⟩ := id HJ.out;have hst : intsN (x :: st') = (x : Int) :: intsN st' := rfl;rw [hst] at h8;obtain ⟨g, o, cap, rfl, hl1, hl2, hints⟩ := h8.form;have hlen2 : (intsN st').length = st'.length := by simp [intsN]
        have hlen' : ((x : Int) :: intsN st').length = st'.length + 1 := by simp [intsN]
        have hpop := h8.tail;obtain ⟨b1, o1, e1, hx0, _⟩ := hints.2.2 0 (by simp);injection e1 with e1;injection e1 with e1 e2;subst e1 e2;rw [Nat.add_zero] at hx0;have hx0' : wr.cell? ⟨g, o, none⟩ = some (.int .i64 (x : Int)) := hx0;have hxf : f x = true := by
          rcases h1.src x (by simp) with e | e
          · rw [e]; exact HFB.out
          · exact (h1.sound x e).inn
        have hxr : x < bn := by
          rcases h1.src x (by simp) with e | e
          · rw [e]; exact HF.out HFB.out
          · cases h1.sound x e with
            | one h _ => exact HX.out _ _ h
            | step _ h _ => exact HX.out _ _ h
        have hseen : seen.length ≤ 200 := nodup_len 200 seen h2 h3;have hstl := hm;simp only [List.length_cons] at hstl hm2;rw [hlen'] at hl1;rw [hlen2] at hpop;rw [hlen'];have hcc : (cap = 1 ∧ st' = []) ∨ ∃ c2, cap = c2 + 2 := by
          by_cases e : cap = 1
          · exact .inl ⟨e, List.eq_nil_of_length_eq_zero (by omega)⟩
          · exact .inr ⟨cap - 2, by omega⟩
        have hj2 : ∀ v2, QueI wr (w.heap.size + 1 + 1 + 1 + 1) v2 (intsN st') → BJ (funcO pa pn pc ba bn bc) (nx (tsOf bs)) f b w st' seen (some (x, 0)) v2 wr := fun v2 hp =>
          ⟨h1.take x st' (fun z => by simp), h2, h3, h4, h5, h6, h7, hp, h9⟩
        have hpop1 : cap = 1 → st' = [] → QueI wr (w.heap.size + 1 + 1 + 1 + 1) (.slice (some ⟨g, o, none⟩) 0 0) (intsN []) := fun e1 e2 => by
          obtain ⟨g', o', cap', cur, e, k1, k2, k3, k4, k5, k6, k7, k8⟩ := h8;injection e with e1 e2 e3;injection e1 with e1;injection e1 with e1 e4 _;subst e1 e3 e4;exact ⟨g, o, 0, cur, rfl, k1, by simp [intsN], by simp [maxLen], k4, by omega, fun k hk => by simp [intsN] at hk, fun z hz => by simp [intsN] at hz, by simp [intsN]⟩
        have HK := Lib.hid h4;have HBw := Lib.hid h9;unfold maxLen at hl2;have hstn : st'.length ≤ 1000 := by omega
        have hwq : w.heap.size + 1 + 1 + 1 + 1 ≤ wr.heap.size := by have := lt_of_heap h7; omega
        have hqlow : ∀ v2, QueI wr (w.heap.size + 1 + 1 + 1 + 1) v2 (intsN st') → ∀ k, v2.ownBlock = some k → k < wr.heap.size := fun v2 h k hk => (h.low hk).2;obtain ⟨wq, rfl⟩ : ∃ wq : World, wq = wr := ⟨_, rfl⟩
        rcases hcc with ⟨rfl, hs0⟩ | ⟨c2, rfl⟩
        case' inl => have HJ2 := Lib.hid (hj2 (.slice (some ⟨g, o, none⟩) 0 0) (by rw [hs0]; exact hpop1 rfl hs0)); have HQL := Lib.hid (hqlow (.slice (some ⟨g, o, none⟩) 0 0) (by rw [hs0]; exact hpop1 rfl hs0)); clear hs0
        case' inr => have HJ2 := Lib.hid (hj2 _ hpop); have HQL := Lib.hid (hqlow _ hpop)
        all_goals
          clear h1 h2 h3 h4 h5 h6 h7 h8 h9 HJ hm hst hlen' hlen2 hpop hxf hints hx0 hj2 hpop1 hqlow
          go_wp2_with (first
            | (refine wpList_load_row (o := ⟨some 27, .load 25 _, _, _, _, _⟩) rfl 25 _ rfl w.heap.size rfl 25 _ (0, 0) _ HK.out Tryz.underlying25 rfl size_func ?_)
            | (go_at_call 96
               refine (to17_any pa pn pc ba bn bc bs x wq (H.out.ext HBw.out) hxr).mono ?_;rintro e w1 ⟨v, rfl, ho, hb⟩;rw [toD_nx HG.out] at ho;obtain ⟨va, vc, rfl⟩ := ho.form;have HNX := Lib.hid (ho.mono (show w.heap.size + 1 + 1 + 1 + 1 ≤ wq.heap.size from hwq));have HSP : Hid (∀ k, (Value.slice va (intsN (nx (tsOf bs) x)).length vc).ownBlock = some k → wq.heap.size ≤ k) := fun k hk => (ho.1.lt k hk).1;have HJ3 := Lib.hid (HJ2.out.ext hb)
               clear ho hb hx0' HK HBw))
          have hnl : (intsN (nx (tsOf bs) x)).length = (nx (tsOf bs) x).length := by simp [intsN]
          have hnl2 : (nx (tsOf bs) x).length ≤ 2 := by simp only [nx, List.length_map]; exact toD_len _
          rw [hnl];rw [hnl] at HNX HSP;clear hnl HJ2;obtain ⟨wo, rfl⟩ : ∃ wo : World, wo = w1 := ⟨_, rfl⟩
          go_loopg [8, 11] (nx (tsOf bs) x).length (fun g2 v2 j wi => ∃ (j' : Nat) (st2 seen2 : List Nat), j = .int .i64 (j' : Int) ∧ j' ≤ (nx (tsOf bs) x).length ∧ (nx (tsOf bs) x).length ≤ g2 + j' ∧ st2.length + seen.length = st'.length + seen2.length ∧ Hid (OwnI wi (w.heap.size + 1 + 1 + 1 + 1) (.slice va (nx (tsOf bs) x).length vc) (intsN (nx (tsOf bs) x))) ∧ Hid (∀ k, v2.ownBlock = some k → (Value.slice va (nx (tsOf bs) x).length vc).ownBlock ≠ some k) ∧ Hid (BJ (funcO pa pn pc ba bn bc) (nx (tsOf bs)) f b w st2 seen2 (some (x, j')) v2 wi))
          case atStart => exact ⟨0, _, seen, rfl, Nat.zero_le _, Nat.le_refl _, rfl, HNX, fun k hk e => by have := HSP.out k e; have := HQL.out k hk; omega, HJ3⟩
          case round =>
            obtain ⟨j', st2, seen2, rfl, hj, hg2, hcnt, HN, HSE, HJ⟩ := hrel;clear HJ3 HNX HQL HSP;obtain ⟨h1, h2, h3, h4, h5, h6, h7, h8, h9⟩ := id HJ.out;obtain ⟨g3, o3, cap3, rfl, hl3, hl4, _⟩ := h8.form;have hseen2 : seen2.length ≤ 200 := nodup_len 200 seen2 h2 h3;unfold maxLen at hl4;by_cases hjl : j' < (nx (tsOf bs) x).length
            · have hyx : (nx (tsOf bs) x).getD j' 0 ∈ nx (tsOf bs) x := by rw [List.getD_eq_getElem?_getD, List.getElem?_eq_getElem hjl]; exact List.getElem_mem _
              have hyb := HX.out x _ hyx;have hy : (nx (tsOf bs) x).getD j' 0 < 200 := by omega
              obtain ⟨b3, o4, rfl, hcy, _⟩ := HN.out.ints.2.2 j' hjl;have hey : (intsN (nx (tsOf bs) x)).getD j' 0 = (((nx (tsOf bs) x).getD j' 0 : Nat) : Int) := by simp [intsN, List.getD_eq_getElem?_getD, hjl]
              rw [hey] at hcy;have hcf := rset_cell h5 _ hy;have hcs := rset_cell h7 _ hy;have hfs := rset_free h7 ((nx (tsOf bs) x).getD j' 0);have hlS := lt_of_heap h7;have hjl' : (j' : Int) < ((nx (tsOf bs) x).length : Int) := by omega
              clear hey hyx;by_cases hgo : f ((nx (tsOf bs) x).getD j' 0) = true ∧ seen2.contains ((nx (tsOf bs) x).getD j' 0) = false
              · obtain ⟨hg1, hg2'⟩ := hgo;have hns : (nx (tsOf bs) x).getD j' 0 ∉ seen2 := by simpa using hg2'
                have hP := h1.push hjl hg1 (st2 ++ [(nx (tsOf bs) x).getD j' 0]) (fun z => by simp [or_comm]) (fun z => ((nx (tsOf bs) x).getD j' 0 :: seen2).contains z) (fun z => by simp);rw [hg1] at hcf;simp only [hg2'] at hcs;have HP := Lib.hid hP;have HNS := Lib.hid hns;have e1 : (fun k => if k = (nx (tsOf bs) x).getD j' 0 then true else seen2.contains k) = (fun z => ((nx (tsOf bs) x).getD j' 0 :: seen2).contains z) := by
                  funext k
                  by_cases e : k = (nx (tsOf bs) x).getD j' 0
                  · simp [e]
                  · simp [e, List.contains_cons]
                have hgr := grown_setCell wr (w.heap.size + 1 + 1 + 1) ((nx (tsOf bs) x).getD j' 0) (.bool true);have HS1 := Lib.hid (rset_to (b := true) h7 hy e1);have HO1 := Lib.hid (grown_row hgr h4 (by simp; omega));have HI1 := Lib.hid (grown_row hgr h5 (by simp; omega));have HR1 := Lib.hid (grown_row hgr h6 (by simp));have HQ1 := Lib.hid (h8.chg (chg_setCell wr (w.heap.size + 1 + 1 + 1) ((nx (tsOf bs) x).getD j' 0) (.bool true)) (fun k hk e => by have := (h8.low hk).1; omega));have HB1 := Lib.hid (h9.setCell (p := ⟨w.heap.size + 1 + 1 + 1, (nx (tsOf bs) x).getD j' 0, none⟩) (by simp; omega) (.bool true));have HN1 := Lib.hid (HN.out.kept hgr (.inr (by simp only [Value.ownBlock, ne_eq, Option.some.injEq]; have := (HN.out.1.lt b3 rfl).1; omega)))
                have hcy2 : (wr.setCell ⟨w.heap.size + 1 + 1 + 1, (nx (tsOf bs) x).getD j' 0, none⟩ (.bool true)).cell? ⟨b3, o4 + j', none⟩ = some (.int .i64 (((nx (tsOf bs) x).getD j' 0 : Nat) : Int)) :=
                  (World.cell?_of_block (Below.heap_setCell _ _ _ _ (fun e => by have := (HN.out.1.lt b3 rfl).1; simp only at e; omega))).trans hcy
                have H2 := Lib.hid h2;have H3 := Lib.hid h3;have hst2 : (intsN st2).length = st2.length := by simp [intsN]
                have hsl2 : (intsN st2).length ≤ 1000 := by omega
                clear hg1 hg2' hns hP e1 h1 h2 h3 h4 h5 h6 h7 h8 h9 HJ hgr HN;generalize hyy : (nx (tsOf bs) x).getD j' 0 = y at *;have hyI : I64 (y : Int) := by unfold I64; omega
                go_wp2_with (
                  (at_builtin
                   refine wpList_append_que rfl (wr.setCell ⟨w.heap.size + 1 + 1 + 1, y, none⟩ (.bool true)) (.tmp 56) (.tmp 61) 22 rfl (w.heap.size + 1 + 1 + 1 + 1) _ 8 Tryz.underlying22 infoI rfl (.slice (some ⟨g3, o3, none⟩) (intsN st2).length cap3) (intsN st2) rfl HQ1.out (y : Int) hyI wr.heap.size (by simp) rfl (by omega) (by omega) (by simp; omega) ?_;intro v5 w5 hq5 hg5 hb5;have HQ5 := Lib.hid hq5;have HG5 := Lib.hid hg5;have HB5 := Lib.hid hb5
                   clear hq5 hg5 hb5))
                have hrow : ∀ (k : Nat), k < w.heap.size + 1 + 1 + 1 + 1 → ¬ (Value.slice (some ⟨g3, o3, none⟩) (intsN st2).length cap3).ownBlock = some k := fun k hk e => by
                  have := (HQ1.out.low e).1;omega
                go_roundg ((nx (tsOf bs) x).length - (j' + 1))
                case measure => omega
                case rel =>
                  refine ⟨j' + 1, st2 ++ [y], y :: seen2, by go_num, by omega, by omega, by simp; omega, HN1.out.kept HG5.out (.inr fun e => HSE.out _ e.symm rfl), ?_, HP.out, List.nodup_cons.2 ⟨HNS.out, H2.out⟩, ?_, ?_, ?_, ?_, ?_, ?_, ?_⟩
                  · intro k hk;rcases HB5.out with e | ⟨q, e, hq⟩
                    · exact HSE.out k (by rw [← e]; exact hk)
                    · rw [e] at hk;injection hk with hk;intro e2;have := (HN1.out.1.lt k e2).2;omega
                  · intro z hz;rcases List.mem_cons.1 hz with rfl | hz
                    · exact hy
                    · exact H3.out z hz
                  · exact grown_row HG5.out HO1.out (hrow _ (by omega))
                  · exact grown_row HG5.out HI1.out (hrow _ (by omega))
                  · exact grown_row HG5.out HR1.out (hrow _ (by omega))
                  · exact grown_row HG5.out HS1.out (hrow _ (by omega))
                  · have e2 : intsN (st2 ++ [y]) = intsN st2 ++ [(y : Int)] := by simp [intsN]
                    rw [e2];exact HQ5.out
                  · exact HB1.out.grown HG5.out (by simp; omega) (fun k e => by have := (HQ1.out.low e).1; omega)
              · have HJ3 : Hid (BJ (funcO pa pn pc ba bn bc) (nx (tsOf bs)) f b w st2 seen2 (some (x, j' + 1)) (.slice (some ⟨g3, o3, none⟩) (intsN st2).length cap3) wr) := by
                  refine ⟨h1.skip hjl (fun hi => ?_), h2, h3, h4, h5, h6, h7, h8, h9⟩;cases hb2 : seen2.contains ((nx (tsOf bs) x).getD j' 0) with
                  | true => rfl
                  | false => exact absurd ⟨hi, hb2⟩ hgo
                have hgo' : f ((nx (tsOf bs) x).getD j' 0) = true → seen2.contains ((nx (tsOf bs) x).getD j' 0) = true := fun hi => by
                  cases hb2 : seen2.contains ((nx (tsOf bs) x).getD j' 0) with
                  | true => rfl
                  | false => exact absurd ⟨hi, hb2⟩ hgo
                clear h1 h2 h3 h4 h5 h6 h7 h8 h9 HJ hgo;generalize hyy : (nx (tsOf bs) x).getD j' 0 = y at *;cases hfy : f y with
                | true =>
                  have hsy := hgo' hfy;rw [hfy] at hcf;simp only [hsy] at hcs;clear hgo' hsy hfy;go_wp2
                  go_roundg ((nx (tsOf bs) x).length - (j' + 1))
                  case measure => omega
                  case rel => exact ⟨j' + 1, st2, seen2, by go_num, by omega, by omega, by omega, HN, HSE, HJ3⟩
                | false =>
                  rw [hfy] at hcf;clear hgo' hfy;go_wp2
                  go_roundg ((nx (tsOf bs) x).length - (j' + 1))
                  case measure => omega
                  case rel => exact ⟨j' + 1, st2, seen2, by go_num, by omega, by omega, by omega, HN, HSE, HJ3⟩
            · obtain rfl : j' = (nx (tsOf bs) x).length := by omega
              have HJ3 : Hid (BJ (funcO pa pn pc ba bn bc) (nx (tsOf bs)) f b w st2 seen2 none (.slice (some ⟨g3, o3, none⟩) (intsN st2).length cap3) wr) := ⟨h1.fin (Nat.le_refl _), h2, h3, h4, h5, h6, h7, h8, h9⟩
              clear h1 h2 h3 h4 h5 h6 h7 h8 h9 HJ;go_wp2
              go_roundg (st2.length + 200 - seen2.length)
              case measure => omega
              case rel => exact ⟨st2, seen2, by omega, by omega, HJ3⟩
  · have hfb' : f b = false := by simpa using hfb
    rw [hfb'] at hc;have HE : Hid (walkF (nx (tsOf bs)) f b = fun _ => false) := walkF_no hfb';clear hfb hfb'
    go_wp2_with (first
      | (refine wpList_load_row rfl 107 _ rfl (w.heap.size + 1 + 1 + 1) rfl 107 _ (0, 0) _ HS.out Tryz.underlying107 rfl (by rw [setA_size]; exact size_rset) ?_)
      | (refine wpList_store_row rfl 107 _ _ rfl (w.heap.size + 1 + 1) (setA fun _ => false) rfl rfl 107 _ HR.out (by rw [setA_size]; exact size_rset) rfl (setA_all _) ?_))
    exact bodyPost_ret (v := .agg (setA fun _ => false)) (by simp [results, Tryz.results98, asAddr, Act.put, load_rset (setRow_heap _ _ _ _ _ _ HR.out)]) rfl ⟨by rw [HE.out], below_setRow HB.out (by omega) _⟩
end

section
open Go.RowKit
attribute [local go_sem] Oper.semAt_some wide_fn wide_depth wide_fnR wide_depthR
def GoodT (n : Nat) (t : TermD) : Prop := termB t = true ∧ ∀ x ∈ toD t, 1 ≤ x ∧ x < n
theorem good_iff2 (ts : List TermD) : goodB ts = true ↔ (1 ≤ ts.length ∧ ts.length ≤ 200) ∧ ∀ k, k < ts.length → GoodT ts.length (ts.getD k zTerm) := by
  rw [goodB_iff]
  constructor
  · rintro ⟨h1, h2⟩;exact ⟨h1, fun k hk => h2 _ (by rw [List.getD_eq_getElem?_getD, List.getElem?_eq_getElem hk]; exact List.getElem_mem _)⟩
  · rintro ⟨h1, h2⟩;refine ⟨h1, fun t ht => ?_⟩;obtain ⟨k, hk, e⟩ := List.mem_iff_getElem.1 ht;have := h2 k hk;rw [List.getD_eq_getElem?_getD, List.getElem?_eq_getElem hk, e] at this;exact this
theorem fits_no {ts : List TermD} (h : goodB ts = false) : fitsB ts = false := by rw [fitsB, h]; rfl
theorem fits_bad {ts : List TermD} {k : Nat} (hk : k < ts.length) (h : ¬ GoodT ts.length (ts.getD k zTerm)) : fitsB ts = false := fits_no (by
  rw [Bool.eq_false_iff]
  intro hg
  exact h (((good_iff2 ts).1 hg).2 k hk))
theorem cntS_all (f : Nat → Bool) : ∀ n, cntS f n = n ↔ ∀ k, k < n → f k = true
  | 0 => by simp [cntS]
  | n + 1 => by
    have ih := cntS_all f n;have hl := cntS_le f n;rw [cntS_step];cases h : f n with
    | true =>
      simp only [if_true, Nat.add_right_cancel_iff];rw [ih];constructor
      · intro h1 k hk;by_cases e : k = n
        · rw [e]; exact h
        · exact h1 k (by omega)
      · intro h1 k hk; exact h1 k (by omega)
    | false =>
      simp only [Bool.false_eq_true, if_false, Nat.add_zero];constructor
      · intro e; omega
      · intro h1; rw [h1 n (by omega)] at h; cases h
theorem cntS_cut (f : Nat → Bool) (n : Nat) (h : ∀ k, f k = true → k < n) : ∀ m, n ≤ m → cntS f m = cntS f n := by
  intro m
  induction m with
  | zero => intro hm; rw [show n = 0 by omega]
  | succ m ih =>
    intro hm;by_cases e : n = m + 1
    · rw [e]
    · rw [cntS_step, ih (by omega)];cases hf : f m with
      | true => have := h m hf; omega
      | false => rfl
theorem fits_count {ts : List TermD} (hg : goodB ts = true) : fitsB ts = ((cntS (fun k => if k = 0 then true else walkF (nx ts) (wholeS ts.length) 0 k) 200 : Int) == (ts.length : Int)) := by
  have hl := ((goodB_iff ts).1 hg).1
  rw [fitsB, hg, Bool.true_and, Bool.eq_iff_iff]
  rw [cntS_cut _ ts.length (fun k hk => by
    by_cases e : k = 0
    · omega
    · rw [if_neg e, walkF_iff (whole_canon hl.2)] at hk;have := hk.2.inn
      simpa [wholeS] using this) 200 hl.2]
  simp only [List.all_eq_true, List.mem_range, Bool.or_eq_true, beq_iff_eq]
  have h := cntS_all (fun k => if k = 0 then true else walkF (nx ts) (wholeS ts.length) 0 k) ts.length
  constructor
  · intro h1;have := h.2 fun k hk => by
      by_cases e : k = 0
      · rw [if_pos e]
      · rw [if_neg e]; exact (h1 k hk).resolve_left e
    omega
  · intro h1 k hk;by_cases e : k = 0
    · exact .inl e
    · have := h.1 (by omega) k hk;rw [if_neg e] at this;exact .inr this
theorem fits17_any (pa : Option Addr) (pn pc : Nat) (ba : Option Addr) (bn bc : Nat) (bs : List BlkH) (w : World) (h : BlksOK w ba bn bs) :
    Calls Tryz.prog 41 #[funcV pa pn pc ba bn bc] w fun e w' => e = .returned (.bool (fitsB (tsOf bs))) ∧ Below w.heap.size w w' := by
  have hbl : (tsOf bs).length = bn := by rw [tsOf_len]; exact h.1.1
  have H := Lib.hid h
  clear h
  go_enter Tryz.func41, Tryz.ntmps41
  go_upto_region 1 with (fail)
  obtain ⟨W, hW⟩ : ∃ W, W = w.alloc (funcO pa pn pc ba bn bc) := ⟨_, rfl⟩
  rw [← hW]
  have hk0 : W.heap[w.heap.size]? = some (funcO pa pn pc ba bn bc) := by rw [hW]; exact heap_alloc_new _ _
  have hB : Below w.heap.size w W := by rw [hW]; exact ext_alloc _ _
  have k1 : W.cell? ⟨w.heap.size, 1, none⟩ = some (.slice ba bn bc) := by rw [cell_of_row _ _ _ _ _ _ hk0]; rfl
  have HK := Lib.hid hk0
  have HB := Lib.hid hB
  clear hW hk0 hB
  by_cases hn0 : bn < 1
  · have d0 : (bn : Int) < 1 := by omega
    have HE : Hid (fitsB (tsOf bs) = false) := fits_no (by rw [Bool.eq_false_iff]; intro hg; have := ((goodB_iff _).1 hg).1; omega);go_wp2
    go_ret
    exact ⟨ret_bool HE.out.symm, HB.out⟩
  · have d0 : ¬ (bn : Int) < 1 := by omega
    by_cases hn1 : 200 < bn
    · have d1 : (200 : Int) < (bn : Int) := by omega
      have HE : Hid (fitsB (tsOf bs) = false) := fits_no (by rw [Bool.eq_false_iff]; intro hg; have := ((goodB_iff _).1 hg).1; omega);go_wp2
      go_ret
      exact ⟨ret_bool HE.out.symm, HB.out⟩
    · have d1 : ¬ (200 : Int) < (bn : Int) := by omega
      go_wp2;clear k1
      go_loopw [3, 4, 5] (fun i _ _ wr => ∃ k : Nat, k ≤ bn ∧ i = .int .i64 k ∧ Hid (∀ j, j < k → GoodT bn ((tsOf bs).getD j zTerm)) ∧ Hid (Below W.heap.size W wr)) (fun i _ _ _ => bn - (intOf i).toNat)
      case atStart => exact ⟨0, by omega, rfl, fun j hj => absurd hj (by omega), Below.refl _ _⟩
      case round =>
        obtain ⟨k, hk, rfl, HR, HBr⟩ := hrel;have HKr := Lib.hid (block_ext HBr.out HK.out);have kf := HKr.out;have k1 : wr.cell? ⟨w.heap.size, 1, none⟩ = some (.slice ba bn bc) := by rw [cell_of_row _ _ _ _ _ _ kf]; rfl
        clear kf;by_cases hlt : k < bn
        · have hlt' : (k : Int) < (bn : Int) := by omega
          obtain ⟨x, b0, o0, hx, htm, hbe, _, c1, c2, c3, c4⟩ := (H.out.ext (ext_trans HB.out HBr.out)).cells hlt;have hxt := tsOf_at _ _ _ hx;obtain ⟨t, ht⟩ : ∃ t, t = x.t := ⟨_, rfl⟩
          rw [← ht] at hxt htm c1 c2 c3 c4;have HXT := Lib.hid hxt;have HTM := Lib.hid htm;have C1 := Lib.hid c1;have C2 := Lib.hid c2;have C3 := Lib.hid c3;have C4 := Lib.hid c4;have HBE := Lib.hid hbe;clear hx ht hxt htm c1 c2 c3 c4 hbe;have HNO : Hid (¬ GoodT bn t → fitsB (tsOf bs) = false) := fun hno => by
            refine fits_bad (k := k) (by omega) ?_;rw [HXT.out, hbl]; exact hno
          cases hTB : termB t with
          | false =>
            have HE : Hid (fitsB (tsOf bs) = false) := HNO.out fun h => by have h1 := h.1; rw [hTB] at h1; cases h1
            have HTB := Lib.hid hTB;clear hTB
            go_wp2_with (first
              | (refine wpList_load_row (o := ⟨some 24, .load 25 _, _, _, _, _⟩) rfl 25 _ rfl w.heap.size rfl 25 _ (0, 0) _ HKr.out Tryz.underlying25 rfl size_func ?_)
              | (go_at_call 96
                 refine (to17_any pa pn pc ba bn bc bs k wr (H.out.ext (ext_trans HB.out HBr.out)) hlt).mono ?_;rintro e w1 ⟨v, rfl, ho, hb⟩;have hbe := HBE.out;subst hbe;have d1' := cell_ext hb C1.out;have d2' := cell_ext hb C2.out;have d3' := cell_ext hb C3.out;have d4' := cell_ext hb C4.out;have kf1 := block_ext hb HKr.out;have k11 : w1.cell? ⟨w.heap.size, 1, none⟩ = some (.slice (some ⟨b0, o0, none⟩) bn bc) := (by rw [cell_of_row _ _ _ _ _ _ kf1]; rfl)
                 have HB1 := Lib.hid (ext_trans HB.out (ext_trans HBr.out hb))
                 clear ho hb k1 kf1)
              | (go_at_call 97
                 refine (isTerm03_any t _).mono ?_;rintro e w2 ⟨rfl, hb⟩;rw [HTB.out];have HB2 := Lib.hid (ext_trans HB1.out hb)
                 clear hb))
            go_ret
            exact ⟨ret_bool HE.out.symm, HB2.out⟩
          | true =>
            have HTB := Lib.hid hTB;clear hTB
            go_wp2_with (first
              | (refine wpList_load_row (o := ⟨some 24, .load 25 _, _, _, _, _⟩) rfl 25 _ rfl w.heap.size rfl 25 _ (0, 0) _ HKr.out Tryz.underlying25 rfl size_func ?_)
              | (go_at_call 96
                 refine (to17_any pa pn pc ba bn bc bs k wr (H.out.ext (ext_trans HB.out HBr.out)) hlt).mono ?_;rintro e w1 ⟨v, rfl, ho, hb⟩;rw [HXT.out] at ho;obtain ⟨va, vc, rfl⟩ := ho.form;have HNX := Lib.hid (ho.ints.ext (Below.refl _ _));have hbe := HBE.out;subst hbe;have d1' := cell_ext hb C1.out;have d2' := cell_ext hb C2.out;have d3' := cell_ext hb C3.out;have d4' := cell_ext hb C4.out;have kf1 := block_ext hb HKr.out;have k11 : w1.cell? ⟨w.heap.size, 1, none⟩ = some (.slice (some ⟨b0, o0, none⟩) bn bc) := (by rw [cell_of_row _ _ _ _ _ _ kf1]; rfl)
                 have HB1 := Lib.hid (ext_trans HBr.out hb)
                 clear ho hb k1 kf1)
              | (go_at_call 97
                 refine (isTerm03_any t _).mono ?_;rintro e w2 ⟨rfl, hb⟩;rw [HTB.out];have HNX2 := Lib.hid (HNX.out.ext hb);have HB2 := Lib.hid (ext_trans HB1.out hb);have kf2 := block_ext HB2.out HK.out;have k12 : w2.cell? ⟨w.heap.size, 1, none⟩ = some (.slice (some ⟨b0, o0, none⟩) bn bc) := (by rw [cell_of_row _ _ _ _ _ _ kf2]; rfl)
                 clear hb d1' d2' d3' d4' k11 kf2))
            obtain ⟨wq, rfl⟩ : ∃ wq : World, wq = wr := ⟨_, rfl⟩
            have hl2 : (toD t).length ≤ 2 := toD_len t
            go_loopw [5] (fun j wi => ∃ j' q : Nat, j = .int .i64 (j' : Int) ∧ j' ≤ (toD t).length ∧ Hid (∀ q, q < j' → 1 ≤ (toD t).getD q 0 ∧ (toD t).getD q 0 < bn) ∧ wi = w2.drewN q) (fun j _ => (toD t).length - (intOf j).toNat)
            case atStart => exact ⟨0, 0, rfl, by omega, fun q hq => absurd hq (by omega), rfl⟩
            case round =>
              obtain ⟨j', q, rfl, hj, HRj, rfl⟩ := hrel;by_cases hjl : j' < (toD t).length
              · obtain ⟨b3, o3, rfl, hcy, _⟩ := HNX2.out.2.2 j' hjl;have hmem : (toD t).getD j' 0 ∈ toD t := by rw [List.getD_eq_getElem?_getD, List.getElem?_eq_getElem hjl]; exact List.getElem_mem _
                have HM := Lib.hid hmem;have hjl' : (j' : Int) < ((toD t).length : Int) := by omega
                have HRj2 : Hid (1 ≤ (toD t).getD j' 0 ∧ (toD t).getD j' 0 < bn → ∀ q, q < j' + 1 → 1 ≤ (toD t).getD q 0 ∧ (toD t).getD q 0 < bn) := fun h q hq => by
                  by_cases e : q = j'
                  · subst e; exact h
                  · exact HRj.out q (by omega)
                clear hmem;generalize (toD t).getD j' 0 = y at *;by_cases hy1 : y < 1
                · have HE : Hid (fitsB (tsOf bs) = false) := HNO.out fun h => by have := h.2 y HM.out; omega
                  go_wp2
                  go_quiet (fail)
                  go_wp2
                  go_ret
                  exact ⟨ret_bool HE.out.symm, ext_drewN (ext_drewN (ext_trans HB.out HB2.out) _) _⟩
                · by_cases hy2 : (bn : Int) ≤ y
                  · have HE : Hid (fitsB (tsOf bs) = false) := HNO.out fun h => by have := h.2 y HM.out; omega
                    go_wp2
                    go_quiet (fail)
                    go_wp2
                    go_ret
                    exact ⟨ret_bool HE.out.symm, ext_drewN (ext_drewN (ext_trans HB.out HB2.out) _) _⟩
                  · go_wp2
                    go_quiet (fail)
                    go_wp2
                    go_roundw
                    case rel => exact ⟨j' + 1, _, by go_num, by omega, HRj2.out (by omega), rfl⟩
                    case measure => simp [intOf]; omega
              · obtain rfl : j' = (toD t).length := by omega
                have HGT : Hid (∀ j, j < k + 1 → GoodT bn ((tsOf bs).getD j zTerm)) := fun j hj => by
                  by_cases e : j = k
                  · subst e;rw [HXT.out];refine ⟨HTB.out, fun x hx => ?_⟩;obtain ⟨q, hq, e⟩ := List.mem_iff_getElem.1 hx;have := HRj.out q hq;rw [List.getD_eq_getElem?_getD, List.getElem?_eq_getElem hq, e] at this;exact this
                  · exact HR.out j (by omega)
                go_wp2
                go_roundw
                case rel => exact ⟨k + 1, by omega, by go_num, HGT, ext_drewN HB2.out _⟩
                case measure => simp [intOf]; omega
        · obtain rfl : k = bn := by omega
          have HG : Hid (goodB (tsOf bs) = true) := (good_iff2 _).2 ⟨by omega, fun j hj => by rw [hbl]; exact HR.out j (by omega)⟩;obtain ⟨bn, rfl⟩ : ∃ b, b = k := ⟨_, rfl⟩
          go_upto_region 14 with (fail)
          refine region_free 5 [some 56, some 57, some 58, some 59, some 6] (by kernel_rfl) (by kernel_rfl) (specB [.val (funcV pa pn pc ba bn bc), .val (funcV pa pn pc ba bn bc), .val (.agg (setA (wholeS bn))), .val (.agg (setA (walkF (nx (tsOf bs)) (wholeS bn) 0))), .new (rsetO fun _ => false)]) (specB_mono ?_) ?_ ?_
          · intro k hk;simp only [List.mem_cons, List.not_mem_nil, or_false] at hk;rcases hk with rfl | rfl | rfl | rfl | rfl
            · exact trivial
            · exact trivial
            · exact trivial
            · exact trivial
            · exact trivial
          · intro i hi ν lo hi' w1 K hB hD hK;have hcase : i = 0 ∨ i = 1 ∨ i = 2 ∨ i = 3 ∨ i = 4 := by omega
            clear hi;rcases hcase with rfl | rfl | rfl | rfl | rfl
            · clear hD;refine wpOp_atK rfl rfl ?_;simp only [zA,zB,zC,zD,zE,zF,zJ,zK,zG,zH,zI] at hK ⊢;refine wp_load_row 25 _ rfl w.heap.size rfl 25 _ (0, 0) _ (block_ext hB HKr.out) Tryz.underlying25 rfl size_func ?_;exact hK _ _ (Below.refl _ _) rfl
            · clear hD;refine wpOp_atK rfl rfl ?_;simp only [zA,zB,zC,zD,zE,zF,zJ,zK,zG,zH,zI] at hK ⊢;refine wp_load_row 25 _ rfl w.heap.size rfl 25 _ (0, 0) _ (block_ext hB HKr.out) Tryz.underlying25 rfl size_func ?_;exact hK _ _ (Below.refl _ _) rfl
            · have e1 := hD 1 (by kernel_rfl)
              replace e1 : ν 1 = (funcV pa pn pc ba bn bc) := e1
              clear hD;refine wpOp_atK rfl rfl ?_;simp only [zA,zB,zC,zD,zE,zF,zJ,zK,zG,zH,zI, e1] at hK ⊢;go_simp;refine (whole17_any pa pn pc ba bn bc (by omega) w1).mono ?_;rintro e w3 ⟨rfl, hb3⟩;exact hK _ _ hb3 rfl
            · have e0 := hD 0 (by kernel_rfl)
              replace e0 : ν 0 = (funcV pa pn pc ba bn bc) := e0
              have e2 := hD 2 (by kernel_rfl)
              replace e2 : ν 2 = (.agg (setA (wholeS bn))) := e2
              clear hD;refine wpOp_atK rfl rfl ?_;simp only [zA,zB,zC,zD,zE,zF,zJ,zK,zG,zH,zI, e0, e2] at hK ⊢;go_simp;refine (behind17_any pa pn pc ba bn bc bs 0 (wholeS bn) w1 (H.out.ext (ext_trans HB.out (ext_trans HBr.out hB))) HG.out (by omega) (whole_canon (by omega)) (fun _ => by omega)).mono ?_;rintro e w3 ⟨rfl, hb3⟩;exact hK _ _ hb3 rfl
            · clear hD;refine wpOp_atK rfl rfl ?_;simp only [zA,zB,zC,zD,zE,zF,zJ,zK,zG,zH,zI] at hK ⊢;go_simp;refine hK _ _ (ext_alloc _ _) ⟨rfl, by simp, ?_⟩;rw [heap_alloc_new, zero_rset]
          · intro ν lo hi w1 hB hS hI hD;have e0 : ν 0 = (funcV pa pn pc ba bn bc) := hS 0 (by omega);have e1 : ν 1 = (funcV pa pn pc ba bn bc) := hS 1 (by omega);have e2 : ν 2 = (.agg (setA (wholeS bn))) := hS 2 (by omega);have e3 : ν 3 = (.agg (setA (walkF (nx (tsOf bs)) (wholeS bn) 0))) := hS 3 (by omega);obtain ⟨e4, l4, h4⟩ := hS 4 (by omega);clear hS;simp only [List.drop_succ_cons, List.drop_zero, zA,zB,zC,zD,zE,zF,zJ,zK,zG,zH,zI, e0, e1, e2, e3, e4];have i4 := hI 4 (by omega);have HBw : Hid (Below W.heap.size W w1) := ext_trans HBr.out hB;have hk1 := block_ext hB HKr.out;have hwl := lt_of_heap HKr.out;have hsw := HBr.out.size;have hkl := lt_of_heap HK.out;generalize lo 4 = p6 at *;have H4 := Lib.hid h4;have HK1 := Lib.hid hk1;clear hI hD hB e0 e1 e2 e3 e4 h4 hk1
            go_wp2_with (
              (refine wpList_store_row rfl 107 _ _ rfl p6 (setA (walkF (nx (tsOf bs)) (wholeS bn) 0)) rfl rfl 107 _ H4.out (by rw [setA_size]; exact size_rset) rfl (setA_all _) ?_
               go_loud (
                 have h5 : (w1.setRow p6 (setA (walkF (nx (tsOf bs)) (wholeS bn) 0))).heap[p6]? = some (rsetO (walkF (nx (tsOf bs)) (wholeS bn) 0)) := setRow_heap _ _ _ _ _ _ H4.out;have hcz := rset_cell h5 0 (by omega);have hfz := rset_free h5 0;have H5 := Lib.hid h5;have HB5 : Hid (Below W.heap.size W (w1.setRow p6 (setA (walkF (nx (tsOf bs)) (wholeS bn) 0)))) := below_setRow HBw.out (by omega) _;have HK5 : Hid ((w1.setRow p6 (setA (walkF (nx (tsOf bs)) (wholeS bn) 0))).heap[w.heap.size]? = some (funcO pa pn pc ba bn bc)) := (setRow_other _ _ _ _ (by omega)).trans HK1.out;generalize w1.setRow p6 (setA (walkF (nx (tsOf bs)) (wholeS bn) 0)) = W5 at *;generalize walkF (nx (tsOf bs)) (wholeS bn) 0 0 = z0 at *
                 clear h5)))
            have HS6 := Lib.hid (rset_to (h := fun k => if k = 0 then true else walkF (nx (tsOf bs)) (wholeS bn) 0 k) (b := true) H5.out (by omega) rfl);have HB6 : Hid (Below W.heap.size W (W5.setCell ⟨p6, 0, none⟩ (.bool true))) := HB5.out.setCell (by simp; omega) _;have HK6 : Hid ((W5.setCell ⟨p6, 0, none⟩ (.bool true)).heap[w.heap.size]? = some (funcO pa pn pc ba bn bc)) := grown_row (grown_setCell _ _ _ _) HK5.out (by simp; omega);generalize W5.setCell ⟨p6, 0, none⟩ (.bool true) = W6 at *;have hk6 := HK6.out;have q1 : ∀ n' : ExtW W6, n'.val.cell? ⟨w.heap.size, 1, none⟩ = some (.slice ba bn bc) := fun n' => cell_ext n'.ext (by rw [cell_of_row _ _ _ _ _ _ hk6]; rfl);have qs : ∀ w', (∃ n : ExtW W6, w' = n.val) → w'.heap[p6]? = some (rsetO fun k => if k = 0 then true else walkF (nx (tsOf bs)) (wholeS bn) 0 k) := fun w' ⟨n, e⟩ => by rw [e]; exact block_ext n.ext HS6.out
            have HMANY : Hid (∀ n' : ExtW W6, Calls Tryz.prog 99 #[.agg (setA fun k => if k = 0 then true else walkF (nx (tsOf bs)) (wholeS bn) 0 k)] n'.val fun e w'' => e = .returned (.int .i64 (cntS (fun k => if k = 0 then true else walkF (nx (tsOf bs)) (wholeS bn) 0 k) 200 : Nat)) ∧ ∃ m : ExtW W6, w'' = m.val) := fun n' => quiet_ext (many17_any _ _);have HE : Hid (fitsB (tsOf bs) = ((cntS (fun k => if k = 0 then true else walkF (nx (tsOf bs)) (wholeS bn) 0 k) 200 : Int) == (bn : Int))) := by rw [Hid]; subst hbl; exact fits_count HG.out
            have HNE : Nonempty (ExtW W6) := ⟨⟨W6, Below.refl _ _⟩⟩
            generalize (fun k => if k = 0 then true else walkF (nx (tsOf bs)) (wholeS bn) 0 k) = sf at *;clear hk6 hcz hfz H5 HB5 HK5 HS6 HK6;refine region_ext (by kernel_rfl) (by kernel_rfl) ?_;refine wpQuiet_load_row (o := ⟨some 61, .load 107 _, _, _, _, _⟩) (by rfl) 107 _ rfl p6 rfl 107 _ (0, 0) _ qs Tryz.underlying107 rfl (by rw [setA_size]; exact size_rset) ?_;simp only [zJ,zG,zH,zI]
            repeat (first
              | go_big_quiet_skip
              | go_big_quiet_step (first
                | (go_at_call 99; exact HMANY.out _)))
            refine wpQuiet_nil ?_;intro _ hw';obtain ⟨n', rfl⟩ := hw';have HB8 : Hid (Below w.heap.size w n'.val) := ext_trans HB.out (HB6.out.trans (n'.ext.mono HB6.out.size));generalize n'.val = W8 at *;clear q1 qs HMANY;go_wp2
            go_ret
            exact ⟨ret_bool HE.out.symm, HB8.out⟩
end
end Go.Proofs.YtblhmdhfhaencaaGreat
