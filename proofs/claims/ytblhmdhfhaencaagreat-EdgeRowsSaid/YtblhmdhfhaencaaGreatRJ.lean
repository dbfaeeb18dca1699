/-
  The document's answer to layer 17: sets of numbers, lists of sets, parents, has.
-/
import Derived.Test.YtblhmdhfhaencaaGreatRF
import Derived.Test.YtblhmdhfhaencaaGreatTL
import Derived.Test.YtblhmdhfhaencaaGreatAppend
namespace Go.Proofs.YtblhmdhfhaencaaGreat
set_option linter.unusedSimpArgs false
set_option linter.unusedVariables false
open Go.RowKit

set_option maxRecDepth 100000 in
set_option maxHeartbeats 1000000 in
theorem setOf17_any (a : Option Addr) (n c : Nat) (xs : List Int) (w : World) (h : Ints w a n xs) : Calls Tryz.prog 108 #[.slice a n c] w (SetPost w (ofS xs)) := by
  have HL := Lib.hid h.1
  have hn := h.2.1
  have H := Lib.hid h
  clear h
  go_enter Tryz.func108, Tryz.ntmps108
  go_wp2
  go_loopw [4] (fun i wr => ∃ (k : Nat), k ≤ n ∧ i = .int .i64 k ∧ Hid (wr.heap[w.heap.size]? = some (rsetO fun _ => false)) ∧ Hid (wr.heap[w.heap.size + 1]? = some (rsetO (ofS (xs.take k)))) ∧ Hid (Below w.heap.size w wr)) (fun i _ => n - (intOf i).toNat)
  case atStart =>
    refine ⟨0, by omega, rfl, ?_, ?_, (ext_alloc _ _).alloc (by simp) _⟩
    · rw [Hid, Below.heap_alloc _ _ _ (by simp), heap_alloc_new, zero_rset]
    · rw [Hid, heap_at _ _ _ (by simp), zero_rset]; congr 3; funext j; simp [ofS]
  case round =>
    obtain ⟨k, hk, rfl, HR, HS, HB⟩ := hrel
    by_cases hlt : k < n
    · obtain ⟨b, o, rfl, hc, hw1, hw2⟩ := (H.out.ext HB.out).2.2 k hlt
      have hkx : k < xs.length := by rw [HL.out]; exact hlt
      have hlt' : (k : Int) < (n : Int) := by omega
      by_cases h0 : 0 ≤ xs.getD k 0
      · by_cases h1 : xs.getD k 0 < 200
        · have hx : (xs.getD k 0).toNat < 200 := by omega
          have hcell := rset_cell HS.out _ hx
          have hfr := rset_free HS.out (xs.getD k 0).toNat
          have HS2 := Lib.hid (rset_to HS.out hx (ofS_put xs k hkx h0 h1))
          have HR2 := Lib.hid (grown_row (grown_setCell wr (w.heap.size + 1) (xs.getD k 0).toNat (.bool true)) HR.out (by simp))
          have hl := lt_of_heap HS.out
          generalize xs.getD k 0 = x at *
          generalize ofS (xs.take k) x.toNat = bb at *
          go_wp2
          go_roundw
          case rel => exact ⟨k + 1, by omega, by go_num, HR2, HS2, HB.out.setCell (by simp) _⟩
          case measure => simp [intOf]; omega
        · have HS2 : Hid (wr.heap[w.heap.size + 1]? = some (rsetO (ofS (xs.take (k + 1))))) := by rw [Hid, ← ofS_skip xs k hkx (.inr (by omega))]; exact HS.out
          generalize xs.getD k 0 = x at *
          go_wp2
          go_roundw
          case rel => exact ⟨k + 1, by omega, by go_num, HR, HS2, HB⟩
          case measure => simp [intOf]; omega
      · have HS2 : Hid (wr.heap[w.heap.size + 1]? = some (rsetO (ofS (xs.take (k + 1))))) := by rw [Hid, ← ofS_skip xs k hkx (.inl (by omega))]; exact HS.out
        generalize xs.getD k 0 = x at *
        go_wp2
        go_roundw
        case rel => exact ⟨k + 1, by omega, by go_num, HR, HS2, HB⟩
        case measure => simp [intOf]; omega
    · obtain rfl : k = n := by omega
      have HT : Hid (xs.take k = xs) := List.take_of_length_le (by rw [HL.out]; omega)
      have HSx : Hid (wr.heap[w.heap.size + 1]? = some (rsetO (ofS xs))) := by have := HS.out; rwa [HT.out] at this
      go_wp2_with (first
        | (refine wpList_load_row rfl 107 _ rfl (w.heap.size + 1) rfl 107 _ (0, 0) _ HSx.out Tryz.underlying107 rfl (by rw [setA_size]; exact size_rset) ?_)
        | (refine wpList_store_row rfl 107 _ _ rfl w.heap.size (setA (ofS xs)) rfl rfl 107 _ HR.out (by rw [setA_size]; exact size_rset) rfl (setA_all _) ?_))
      exact bodyPost_ret (v := .agg (setA (ofS xs))) (by simp [results, Tryz.results108, asAddr, Act.put, load_rset (setRow_heap _ _ _ _ _ _ HR.out)]) rfl ⟨rfl, below_setRow HB.out (by omega) _⟩
theorem listTo_step (f : Nat → Bool) (k : Nat) : (List.range (k + 1)).filter f = (List.range k).filter f ++ if f k then [k] else [] := by
  rw [List.range_succ, List.filter_append]
  cases h : f k <;> simp [h]
set_option maxRecDepth 100000 in
set_option maxHeartbeats 1000000 in
theorem list17_any (f : Nat → Bool) (w : World) : Calls Tryz.prog 76 #[.agg (setA f)] w (IntsPost w (intsN (listS f))) := by
  have HK0 : Hid ((w.alloc (rsetO f)).heap[w.heap.size]? = some (rsetO f)) := heap_alloc_new _ _
  go_enter Tryz.func76, Tryz.ntmps76
  go_wp2
  go_loopw [3, 4] (fun s3 i wr => ∃ (k : Nat), k ≤ 200 ∧ i = .int .i64 k ∧ Hid (OwnI wr (w.heap.size + 1) s3 (intsN ((List.range k).filter f))) ∧ Hid (wr.heap[w.heap.size]? = some (rsetO f)) ∧ Hid (Below w.heap.size w wr)) (fun _ i _ => 200 - (intOf i).toNat)
  case atStart => exact ⟨0, by omega, rfl, OwnI.nil _ _, HK0, ext_alloc _ _⟩
  case round =>
    obtain ⟨k, hk, rfl, HO, HK, HB⟩ := hrel
    obtain ⟨va, vc, rfl⟩ := HO.out.form
    have HST := Lib.hid (listTo_step f k)
    have hlen : (intsN ((List.range k).filter f)).length ≤ 200 := by
      have := List.length_filter_le f (List.range k)
      simp [intsN] at this ⊢; omega
    by_cases hlt : k < 200
    · have hcell := rset_cell HK.out k hlt
      have hl := lt_of_heap HK.out
      cases hf : f k with
      | true =>
        rw [hf] at hcell HST
        have HST2 : Hid (intsN ((List.range (k + 1)).filter f) = intsN ((List.range k).filter f) ++ [(k : Int)]) := by rw [Hid, HST.out]; simp [intsN]
        clear HST hf
        generalize intsN ((List.range k).filter f) = xs at *
        go_wp2_with (
          (at_builtin
           refine wpList_append1 rfl wr (.tmp 12) (.tmp 14) 22 3 rfl (w.heap.size + 1) _ 1 8 Tryz.underlying22 infoI rfl (by omega) (.slice va xs.length vc) xs.length _ [.int .i64 (k : Int)] rfl HO.out.1 wr.heap.size rfl rfl rfl (by simp [Value.oneCell']) (by simp only [maxLen]; omega) (by omega) (by omega) ?_
           intro g cap w2 hown2 hg2 hat2
           have HO2 : Hid (OwnI w2 (w.heap.size + 1) (.slice (some ⟨g, 0, none⟩) (xs.length + 1) cap) (xs ++ [(k : Int)])) := (by
             refine ⟨?_, fun z hz => ?_, by simp; omega⟩
             · have e4 : intVals (xs ++ [(k : Int)]) = intVals xs ++ [.int .i64 (k : Int)] := by simp [intVals]
               rw [e4, List.length_append]
               exact hown2
             · rcases List.mem_append.1 hz with h | h
               · exact HO.out.2.1 z h
               · simp only [List.mem_singleton] at h
                 subst h
                 unfold I64
                 omega)
           have HK2 := Lib.hid (grown_row hg2 HK.out (fun e => by have := (HO.out.1.lt _ e).1; omega))
           have HB2 := Lib.hid (HB.out.grown hg2 (by omega) (fun q e => by have := (HO.out.1.lt q e).1; omega))
           clear hown2 hg2 hat2))
        go_roundw
        case rel => exact ⟨k + 1, by omega, by go_num, by rw [HST2.out]; exact HO2, HK2, HB2⟩
        case measure => simp [intOf]; omega
      | false =>
        rw [hf] at hcell HST
        have HST2 : Hid (intsN ((List.range (k + 1)).filter f) = intsN ((List.range k).filter f)) := by rw [Hid, HST.out]; simp
        clear HST hf
        go_wp2
        go_roundw
        case rel => exact ⟨k + 1, by omega, by go_num, by rw [HST2.out]; exact HO, HK, HB⟩
        case measure => simp [intOf]; omega
    · obtain rfl : k = 200 := by omega
      go_wp2
      go_ret
      exact ⟨_, rfl, HO.out.mono (by omega), HB.out⟩
set_option maxHeartbeats 1000000 in
theorem parents17_any (a : Option Addr) (n c : Nat) (ls : List TileR) (w : World) (h : TilesOK w a n ls) :
    Calls Tryz.prog 103 #[.slice a n c] w fun e w' => e = .returned (.bool (parentsB (tdOf ls))) ∧ w = w' := by
  have hn := h.1.2.1
  have HL := Lib.hid h.1.1
  have H := Lib.hid h
  clear h
  go_enter Tryz.func103, Tryz.ntmps103
  go_wp2
  go_loopw [3] (fun i wr => ∃ (k : Nat), k ≤ n ∧ i = .int .i64 k ∧ Hid (∀ j, j < k → -1 ≤ parL (tdOf ls) j ∧ parL (tdOf ls) j < j) ∧ Hid (wr = w)) (fun i _ => n - (intOf i).toNat)
  case atStart => exact ⟨0, by omega, rfl, fun j hj => absurd hj (by omega), rfl⟩
  case round =>
    obtain ⟨k, hk, rfl, HR, HW⟩ := hrel
    obtain rfl : wr = w := HW.out
    by_cases hlt : k < n
    · obtain ⟨t, b, o, hlk, hok, rfl, c0, c1, c2⟩ := H.out.cells hlt
      obtain ⟨_, _, _, hp1, hp2⟩ := hok
      have htd := tdOf_at ls k t hlk
      have HTD : Hid (parL (tdOf ls) k = t.d.parent) := by rw [Hid, parL, htd]
      clear hlk htd
      have hlt' : (k : Int) < (n : Int) := by omega
      by_cases hg1 : t.d.parent < -1
      · have HE : Hid (parentsB (tdOf ls) = false) := by
          rw [Hid, Bool.eq_false_iff]
          intro h
          have := (parentsB_iff _).1 h k (by rw [tdOf_len, HL.out]; exact hlt)
          rw [HTD.out] at this
          omega
        go_wp2
        go_ret
        exact ⟨by rw [HE.out]; rfl, rfl⟩
      · by_cases hg2 : t.d.parent < k
        · have HR2 : Hid (∀ j, j < k + 1 → -1 ≤ parL (tdOf ls) j ∧ parL (tdOf ls) j < j) := fun j hj => by
            by_cases e : j = k
            · subst e; rw [HTD.out]; omega
            · exact HR.out j (by omega)
          go_wp2
          go_roundw
          case rel => exact ⟨k + 1, by omega, by go_num, HR2, trivial⟩
          case measure => simp [intOf]; omega
        · have HE : Hid (parentsB (tdOf ls) = false) := by
            rw [Hid, Bool.eq_false_iff]
            intro h
            have := (parentsB_iff _).1 h k (by rw [tdOf_len, HL.out]; exact hlt)
            rw [HTD.out] at this
            omega
          go_wp2
          go_ret
          exact ⟨by rw [HE.out]; rfl, rfl⟩
    · obtain rfl : k = n := by omega
      have HE : Hid (parentsB (tdOf ls) = true) := by
        rw [Hid, parentsB_iff, tdOf_len, HL.out]
        exact HR.out
      go_wp2
      go_ret
      exact ⟨by rw [HE.out]; rfl, rfl⟩
theorem has_yes (l : List Int) (n : Int) (k : Nat) (h : k < l.length) (he : l.getD k 0 = n) : l.contains n = true := by
  rw [List.contains_iff_mem, ← he, List.getD_eq_getElem?_getD, List.getElem?_eq_getElem h]
  exact List.getElem_mem _
theorem has_no (l : List Int) (n : Int) (h : ∀ k, k < l.length → l.getD k 0 ≠ n) : l.contains n = false := by
  rw [Bool.eq_false_iff]
  intro hc
  rw [List.contains_iff_mem] at hc
  obtain ⟨j, hj, e⟩ := List.getElem_of_mem hc
  have := h j hj
  rw [List.getD_eq_getElem?_getD, List.getElem?_eq_getElem hj, Option.getD_some] at this
  exact this e
theorem has17_any (a : Option Addr) (n c : Nat) (xs : List Int) (x : Int) (w : World) (h : Ints w a n xs) :
    Calls Tryz.prog 165 #[.slice a n c, .int .i64 x] w fun e w' => e = .returned (.bool (xs.contains x)) ∧ w = w' := by
  obtain ⟨hl, hn, hc⟩ := h
  have HL := Lib.hid hl
  have HC := Lib.hid hc
  clear hl hc
  go_enter Tryz.func165, Tryz.ntmps165
  go_wp2
  go_loopw [5] (fun i wr => ∃ (k : Nat), k ≤ n ∧ i = .int .i64 k ∧ wr = w ∧ Hid (∀ j, j < k → xs.getD j 0 ≠ x)) (fun i _ => n - (intOf i).toNat)
  case atStart => exact ⟨0, by omega, rfl, rfl, fun j hj => absurd hj (by omega)⟩
  case round =>
    obtain ⟨k, hk, rfl, rfl, HR⟩ := hrel
    by_cases hlt : k < n
    · obtain ⟨b, o, rfl, hcell, _⟩ := HC.out k hlt
      by_cases he : xs.getD k 0 = x
      · have HE : Hid (xs.contains x = true) := has_yes xs x k (by rw [HL.out]; exact hlt) he
        rw [he] at hcell
        clear he
        go_wp2
        go_ret
        exact ⟨by rw [HE.out]; rfl, rfl⟩
      · have HE : Hid (∀ j, j < k + 1 → xs.getD j 0 ≠ x) := fun j hj => by
          by_cases hjk : j = k
          · subst hjk; exact he
          · exact HR.out j (by omega)
        generalize xs.getD k 0 = y at *
        go_wp2
        go_roundw
        case rel => exact ⟨k + 1, by omega, by go_num, trivial, HE⟩
        case measure => simp [intOf]; omega
    · have HE : Hid (xs.contains x = false) := has_no xs x fun j h1 => HR.out j (by rw [HL.out] at h1; omega)
      go_wp2
      go_ret
      exact ⟨by rw [HE.out]; rfl, rfl⟩


def chilTo (l : List TileD) (k m : Nat) : List Nat := (List.range m).filter fun i => decide (k < i) && (parL l i == (k : Int))
def idxT (l : List TileD) : Nat → Nat → List Nat
  | 0, k => [k]
  | f + 1, k => k :: (chilTo l k l.length).flatMap (idxT l f)
def rawI (l : List TileD) (f k : Nat) : List Int := (idxT l f k).flatMap (blkL l)
theorem chilTo_step (l : List TileD) (k m : Nat) : chilTo l k (m + 1) = chilTo l k m ++ if (decide (k < m) && (parL l m == (k : Int))) = true then [m] else [] := by
  rw [chilTo, chilTo, List.range_succ, List.filter_append]
  cases h : (decide (k < m) && (parL l m == (k : Int))) <;> simp [h]
theorem chilTo_zero (l : List TileD) (k : Nat) : chilTo l k (k + 1) = [] := by
  rw [chilTo, List.filter_eq_nil_iff]
  intro i hi
  rw [List.mem_range] at hi
  simp; omega
theorem rawI_step (l : List TileD) (f k : Nat) : rawI l (f + 1) k = blkL l k ++ (chilTo l k l.length).flatMap (rawI l f) := by
  rw [rawI, idxT, List.flatMap_cons]
  congr 1
  simp only [List.flatMap_assoc]
  rfl
theorem mem_chil (l : List TileD) (k m i : Nat) : i ∈ chilTo l k m ↔ i < m ∧ k < i ∧ parL l i = (k : Int) := by
  simp [chilTo]
section
variable {l : List TileD} (hp : parentsB l = true)
include hp
theorem mem_idx : ∀ (f k n : Nat), k < l.length → l.length - k ≤ f → (n ∈ idxT l f k ↔ n < l.length ∧ descB l k n = true) := by
  intro f
  induction f with
  | zero => intro k n hk hf; omega
  | succ f ih =>
    intro k n hk hf
    rw [idxT, List.mem_cons, List.mem_flatMap]
    constructor
    · rintro (rfl | ⟨i, hi, hn⟩)
      · exact ⟨hk, descB_self l n⟩
      · obtain ⟨h1, h2, h3⟩ := (mem_chil l k _ i).1 hi
        obtain ⟨h4, h5⟩ := (ih i n h1 (by omega)).1 hn
        refine ⟨h4, descB_trans hp k i ?_ n h4 h5⟩
        rw [descB_eq hp k i h1, h3, Int.toNat_natCast, descB_self]
        simp
    · rintro ⟨h1, h2⟩
      by_cases e : n = k
      · exact .inl e
      · right
        have key : ∀ n, n < l.length → n ≠ k → descB l k n = true → ∃ i, i ∈ chilTo l k l.length ∧ descB l i n = true := by
          intro n
          induction n using Nat.strongRecOn with
          | _ n ihn =>
            intro hn hne hd
            rw [descB_eq hp k n hn] at hd
            have hp1 := (parentsB_iff l).1 hp n hn
            simp only [Bool.or_eq_true, beq_iff_eq, Bool.and_eq_true, decide_eq_true_eq] at hd
            obtain ⟨h0, hd⟩ := hd.resolve_left hne
            by_cases e : (parL l n).toNat = k
            · have hkn : k < n := by omega
              exact ⟨n, (mem_chil l k _ n).2 ⟨hn, hkn, by omega⟩, descB_self l n⟩
            · obtain ⟨i, hi, hdi⟩ := ihn (parL l n).toNat (by omega) (by omega) e hd
              refine ⟨i, hi, ?_⟩
              rw [descB_eq hp i n hn, hdi, decide_eq_true h0]
              simp
        obtain ⟨i, hi, hd⟩ := key n h1 e h2
        obtain ⟨h3, h4, _⟩ := (mem_chil l k _ i).1 hi
        exact ⟨i, hi, (ih i n h3 (by omega)).2 ⟨h1, hd⟩⟩
theorem nodup_idx : ∀ (f k : Nat), k < l.length → l.length - k ≤ f → (idxT l f k).Nodup := by
  intro f
  induction f with
  | zero => intro k hk hf; omega
  | succ f ih =>
    intro k hk hf
    have hge : ∀ i, i ∈ chilTo l k l.length → ∀ n, n ∈ idxT l f i → i ≤ n ∧ n < l.length ∧ descB l i n = true := fun i hi n hn => by
      obtain ⟨h1, h2, _⟩ := (mem_chil l k _ i).1 hi
      obtain ⟨h3, h4⟩ := (mem_idx hp f i n h1 (by omega)).1 hn
      exact ⟨descB_ge hp i n h3 h4, h3, h4⟩
    rw [idxT, List.nodup_cons]
    refine ⟨fun hm => ?_, ?_⟩
    · obtain ⟨i, hi, hn⟩ := List.mem_flatMap.1 hm
      have := (hge i hi k hn).1
      have := ((mem_chil l k _ i).1 hi).2.1
      omega
    · have hsub : ∀ L : List Nat, L.Pairwise (· < ·) → (∀ i ∈ L, i ∈ chilTo l k l.length) → (L.flatMap (idxT l f)).Nodup := by
        intro L
        induction L with
        | nil => intro _ _; simp
        | cons i L ihL =>
          intro hs hL
          obtain ⟨hs1, hs2⟩ := List.pairwise_cons.1 hs
          rw [List.flatMap_cons, List.nodup_append]
          have hi := hL i (by simp)
          obtain ⟨h1, h2, h3⟩ := (mem_chil l k _ i).1 hi
          refine ⟨ih i h1 (by omega), ihL hs2 (fun j hj => hL j (by simp [hj])), fun x hx y hy e => ?_⟩
          subst e
          obtain ⟨j, hj, hy⟩ := List.mem_flatMap.1 hy
          have hij := hs1 j hj
          obtain ⟨g1, g2, g3⟩ := (mem_chil l k _ j).1 (hL j (by simp [hj]))
          obtain ⟨_, hx1, hx2⟩ := hge i hi x hx
          obtain ⟨_, _, hy2⟩ := hge j (hL j (by simp [hj])) x hy
          have hd := descB_chain hp i j (by omega) x hx1 hx2 hy2
          rw [descB_eq hp i j g1, g3] at hd
          simp only [Bool.or_eq_true, beq_iff_eq, Bool.and_eq_true, decide_eq_true_eq, Int.toNat_natCast] at hd
          rcases hd with hd | ⟨_, hd⟩
          · omega
          · have := descB_ge hp i k hk hd; omega
      refine hsub _ ?_ (fun i hi => hi)
      exact List.Pairwise.filter _ List.pairwise_lt_range
theorem mem_rawI {k : Nat} (hk : k < l.length) (f : Nat) (hf : l.length - k ≤ f) (x : Int) : x ∈ rawI l f k ↔ x ∈ rawL l k l.length := by
  rw [mem_rawL l k hk, rawI, List.mem_flatMap]
  constructor
  · rintro ⟨n, hn, hx⟩
    obtain ⟨h1, h2⟩ := (mem_idx hp f k n hk hf).1 hn
    exact ⟨n, h1, h2, hx⟩
  · rintro ⟨n, h1, h2, hx⟩
    exact ⟨n, (mem_idx hp f k n hk hf).2 ⟨h1, h2⟩, hx⟩
end
theorem sum_erase {g : Nat → Nat} {x : Nat} : ∀ {L : List Nat}, x ∈ L → (L.map g).sum = g x + ((L.erase x).map g).sum
  | y :: L, h => by
    by_cases e : y = x
    · subst e; simp
    · have h2 : x ∈ L := by
        rcases List.mem_cons.1 h with h | h
        · exact absurd h.symm e
        · exact h
      have := sum_erase (g := g) h2
      rw [List.erase_cons_tail (by simpa using e)]
      simp only [List.map_cons, List.sum_cons]
      omega
theorem sum_nodup (g : Nat → Nat) : ∀ (N : Nat) (L : List Nat), L.Nodup → (∀ x ∈ L, x < N) → (L.map g).sum ≤ ((List.range N).map g).sum := by
  intro N
  induction N with
  | zero =>
    intro L _ h
    cases L with
    | nil => simp
    | cons x L => have := h x (by simp); omega
  | succ N ih =>
    intro L hn h
    rw [List.range_succ, List.map_append, List.sum_append]
    simp only [List.map_cons, List.map_nil, List.sum_cons, List.sum_nil, Nat.add_zero]
    by_cases hm : N ∈ L
    · rw [sum_erase hm]
      have := ih (L.erase N) (hn.erase N) (fun x hx => by
        have h1 := h x (List.mem_of_mem_erase hx)
        have h2 : x ≠ N := fun e => by subst e; exact absurd hx (hn.not_mem_erase)
        omega)
      omega
    · have := ih L hn (fun x hx => by
        have h1 := h x hx
        have h2 : x ≠ N := fun e => by subst e; exact hm hx
        omega)
      omega
theorem len_flat (g : Nat → List Int) : ∀ L : List Nat, (L.flatMap g).length = (L.map fun n => (g n).length).sum
  | [] => rfl
  | x :: L => by simp [len_flat g L]
theorem rangeSum (l : List TileD) : ((List.range l.length).map fun n => (blkL l n).length).sum = totL l := by
  rw [totL]
  congr 1
  apply List.ext_getElem?
  intro k
  simp only [List.getElem?_map]
  by_cases hk : k < l.length
  · rw [List.getElem?_range hk, List.getElem?_eq_getElem hk]
    simp [blkL, List.getD_eq_getElem?_getD, hk]
  · rw [List.getElem?_eq_none (by simp; omega), List.getElem?_eq_none (by omega)]; rfl
theorem rawI_len {l : List TileD} (hp : parentsB l = true) {k : Nat} (hk : k < l.length) (f : Nat) (hf : l.length - k ≤ f) : (rawI l f k).length ≤ totL l := by
  rw [rawI, len_flat, ← rangeSum]
  exact sum_nodup _ _ _ (nodup_idx hp f k hk hf) fun x hx => ((mem_idx hp f k x hk hf).1 hx).1
/-- while they are put together there are no more -/
theorem rawI_part {l : List TileD} (hp : parentsB l = true) {k m : Nat} (hk : k < l.length) (hm : m ≤ l.length) (f : Nat) (hf : l.length - k ≤ f + 1) : (blkL l k ++ (chilTo l k m).flatMap (rawI l f)).length ≤ totL l := by
  have h := rawI_len hp hk (f + 1) hf
  rw [rawI_step, List.length_append] at h
  rw [List.length_append]
  have e : List.range l.length = List.range m ++ List.range' m (l.length - m) := by
    rw [List.range_eq_range', List.range_eq_range', show l.length = m + (l.length - m) by omega, ← List.range'_append]
    simp
  have e2 : chilTo l k l.length = chilTo l k m ++ (List.range' m (l.length - m)).filter fun i => decide (k < i) && (parL l i == (k : Int)) := by
    rw [chilTo, chilTo, e, List.filter_append]
  rw [e2, List.flatMap_append, List.length_append] at h
  omega

open Go.RowKit

section
variable {P : Program} {Q : Exit → Act → World → Prop}
/-- append of a slice of ints onto a slice of ints of the call's own -/
theorem wpList_appendI {ops : Array Oper} {rest : List Oper} {o : Oper} {a : Act} (w : World) (hgd : o.guard = none) (s x : Operand) (t : TypeId) (ho : o.op = .call { callee := .builtin .append, args := #[s, x], argTypes := #[t, t] })
    (base : Nat) (z : Value) (bytes : Nat) (ht : P.underlying t = some (.slice 3)) (hinfo : (P.info? 3).map (fun i => (i.zero, i.size, i.bytes)) = some (some z, 1, bytes)) (hzs : z.cells.size = 1) (hb8 : bytes ≤ 16)
    (v : Value) (xs : List Int) (hs : a.eval s = v) (hown : OwnI w base v xs) (A : Option Addr) (m c : Nat) (hx : a.eval x = .slice A m c) (ys : List Int) (hy : Ints w A m ys) (hlen : xs.length + ys.length ≤ 10000000) (hbase : base ≤ w.heap.size)
    (h : ∀ v' w', OwnI w' base v' (xs ++ ys) → w.grownBy w' v.ownBlock → (v'.ownBlock = v.ownBlock ∨ v'.ownBlock = some w.heap.size) → wpList P ops Q rest (a.put o.dst v') w') :
    wpList P ops Q (o :: rest) a w := by
  have hm : ys.length = m := hy.1
  refine wpList_appendR w hgd s x t 3 ho base z 1 bytes ht hinfo hzs (by omega) v xs.length (intVals xs) hs hown.1 A m c hx (intVals ys) (by simp [intVals, hm]) (fun j u hu => ?_) (intVals_one ys) (by simp only [maxLen]; omega) (by
    have : (xs.length + m) * bytes ≤ (xs.length + m) * 16 := Nat.mul_le_mul_left _ hb8
    omega) hbase fun v' w' h1 h2 h3 => h v' w' ⟨?_, fun q hq => ?_, by simp; omega⟩ h2 h3
  · have hj : j < ys.length := by have := (List.getElem?_eq_some_iff.1 hu).1; simpa [intVals] using this
    obtain ⟨b, o, e, hc, _⟩ := hy.2.2 j (by omega)
    refine ⟨⟨b, o, none⟩, e, ?_⟩
    rw [addr_add, hc, ← hu]
    simp [intVals, List.getD_eq_getElem?_getD, hj]
  · have e : intVals (xs ++ ys) = intVals xs ++ intVals ys := by simp [intVals]
    rw [e, List.length_append, hm]
    exact h1
  · rcases List.mem_append.1 hq with hq | hq
    · exact hown.2.1 q hq
    · obtain ⟨j, hj, e⟩ := List.mem_iff_getElem.1 hq
      obtain ⟨_, _, _, _, hw⟩ := hy.2.2 j (by omega)
      rw [List.getD_eq_getElem?_getD, List.getElem?_eq_getElem hj, e] at hw
      exact hw
end
set_option maxRecDepth 100000 in
set_option maxHeartbeats 4000000 in
theorem all17_any (a : Option Addr) (n c : Nat) (ls : List TileR) (hT : totL (tdOf ls) ≤ 1000000) (hP : parentsB (tdOf ls) = true) : ∀ (f k : Nat) (w : World), TilesOK w a n ls → k < n → n - k ≤ f →
    Calls Tryz.prog 105 #[.slice a n c, .int .i64 (k : Int)] w (IntsPost w (rawI (tdOf ls) f k)) := by
  intro f
  induction f with
  | zero => intro k w h hk hf; omega
  | succ f ih =>
    intro k w h hk hf
    have hn := h.1.2.1
    have HLL : Hid ((tdOf ls).length = n) := by rw [Hid, tdOf_len, h.1.1]
    have H := Lib.hid h
    have HP := Lib.hid hP
    have IH := Lib.hid ih
    clear h ih
    obtain ⟨t, b, o, hlk, hok, rfl, c0, c1, c2⟩ := (H.out.ext (ext_alloc w (.cells #[] 3))).cells hk
    have HTK : Hid (blkL (tdOf ls) k = t.d.blocks) := by rw [Hid, blkL, tdOf_at ls k t hlk]
    have HOK := Lib.hid hok.1
    have hbl := blkL_le (tdOf ls) k
    rw [HTK.out] at hbl
    have hk2 : (k : Int) < (n : Int) := by omega
    clear hlk hok
    go_enter Tryz.func105, Tryz.ntmps105
    go_wp2_with (
      (at_builtin
       go_loud (
         refine wpList_appendI _ rfl (.tmp 7) (.tmp 12) 22 rfl w.heap.size _ 8 Tryz.underlying22 infoI rfl (by omega) _ [] rfl (ownI_lit (W := w) (xs := []) rfl _ (Nat.le_refl _) (fun z hz => by cases hz) (by simp)) t.ba t.bn t.bc rfl t.d.blocks HOK.out (by simp; omega) (by simp) ?_
         intro v1 w1 ho1 hg1 _
         have HO1 : Hid (OwnI w1 w.heap.size v1 t.d.blocks) := ho1
         have HB1 : Hid (Below w.heap.size w w1) := (ext_alloc w _).grown hg1 (by simp) (fun q e => by have e2 : some w.heap.size = some q := e; injection e2 with e2; omega)
         clear ho1 hg1 c0 c1 c2)))
    go_loopw [5, 6] (fun s5 s6 wr => ∃ i : Nat, k + 1 ≤ i ∧ i ≤ n ∧ s6 = .int .i64 (i : Int) ∧ Hid (OwnI wr w.heap.size s5 (blkL (tdOf ls) k ++ (chilTo (tdOf ls) k i).flatMap (rawI (tdOf ls) f))) ∧ Hid (Below w.heap.size w wr)) (fun _ s6 _ => n - (intOf s6).toNat)
    case atStart => exact ⟨k + 1, by omega, by omega, by go_num, by rw [Hid, chilTo_zero, HTK.out]; simpa using HO1.out, HB1⟩
    case round =>
      obtain ⟨i, hi1, hi2, rfl, HO, HB⟩ := hrel
      obtain ⟨va, vc, rfl⟩ := HO.out.form
      have hlen := rawI_part HP.out (k := k) (m := i) (by rw [HLL.out]; omega) (by rw [HLL.out]; omega) f (by rw [HLL.out]; omega)
      have HST := Lib.hid (chilTo_step (tdOf ls) k i)
      clear HO1 HB1
      by_cases hlt : i < n
      · obtain ⟨t2, b2, o2, hlk, _, e2, d0, d1, d2⟩ := (H.out.ext HB.out).cells hlt
        injection e2 with e2
        injection e2 with e2 e3
        subst e2 e3
        have htd : parL (tdOf ls) i = t2.d.parent := by rw [parL, tdOf_at ls i t2 hlk]
        have hlt' : (i : Int) < (n : Int) := by omega
        have hki : decide (k < i) = true := by simp; omega
        have hlen2 := rawI_part HP.out (k := k) (m := i + 1) (by rw [HLL.out]; omega) (by rw [HLL.out]; omega) f (by rw [HLL.out]; omega)
        rw [hki, htd, Bool.true_and] at HST
        clear htd hlk d0 d2 hki
        cases hb : (t2.d.parent == (k : Int)) with
        | true =>
          have HST2 : Hid ((chilTo (tdOf ls) k (i + 1)).flatMap (rawI (tdOf ls) f) = (chilTo (tdOf ls) k i).flatMap (rawI (tdOf ls) f) ++ rawI (tdOf ls) f i) := by rw [Hid, HST.out, hb, if_pos rfl, List.flatMap_append]; simp
          rw [HST2.out, ← List.append_assoc] at hlen2
          clear HST
          generalize hLL : blkL (tdOf ls) k ++ (chilTo (tdOf ls) k i).flatMap (rawI (tdOf ls) f) = L at *
          have HLE := Lib.hid hLL
          have hl3 : L.length + (rawI (tdOf ls) f i).length ≤ 10000000 := by rw [List.length_append] at hlen2; omega
          clear hLL hlen2
          go_wp2_with (first
            | (go_at_call 105
               refine (IH.out i wr (H.out.ext HB.out) hlt (by omega)).mono ?_
               rintro e w2 ⟨v2, rfl, ho, hb2⟩
               obtain ⟨ua, uc, rfl⟩ := ho.form
               have HV2 := Lib.hid ho.ints
               have HO2 := Lib.hid (HO.out.ext hb2)
               have HB2 := Lib.hid (ext_trans HB.out hb2)
               clear ho hb2 d1)
            | (at_builtin
               refine wpList_appendI w2 rfl (.tmp 29) (.tmp 32) 22 rfl w.heap.size _ 8 Tryz.underlying22 infoI rfl (by omega) _ L rfl HO2.out ua _ uc rfl (rawI (tdOf ls) f i) HV2.out hl3 HB2.out.size ?_
               intro v3 w3 ho3 hg3 _
               have HO3 := Lib.hid ho3
               have HB3 : Hid (Below w.heap.size w w3) := HB2.out.grown hg3 HB2.out.size (fun q e => (HO2.out.1.lt q e).1)
               clear ho3 hg3))
          go_roundw
          case rel => exact ⟨i + 1, by omega, by omega, by go_num, by rw [HST2.out, ← List.append_assoc, HLE.out]; exact HO3, HB3⟩
          case measure => simp [intOf]; omega
        | false =>
          have HST2 : Hid (chilTo (tdOf ls) k (i + 1) = chilTo (tdOf ls) k i) := by rw [Hid, HST.out, hb]; simp
          clear HST hlen2
          go_wp2
          go_roundw
          case rel => exact ⟨i + 1, by omega, by omega, by go_num, by rw [HST2.out]; exact HO, HB⟩
          case measure => simp [intOf]; omega
      · obtain rfl : i = n := by omega
        have HE : Hid (rawI (tdOf ls) (f + 1) k = blkL (tdOf ls) k ++ (chilTo (tdOf ls) k i).flatMap (rawI (tdOf ls) f)) := by rw [Hid, rawI_step, HLL.out]
        go_wp2
        go_ret
        exact ⟨_, rfl, by rw [HE.out]; exact HO.out, HB.out⟩
/-! ### the least number above -/
def abB (S : List Int) (p : Nat) (x : Int) : Prop := p = 0 ∨ S.getD (p - 1) 0 < x
def bestOK (R S : List Int) (p j : Nat) (b : Int) : Prop := (b = -1 ∧ ∀ i, i < j → ¬ abB S p (R.getD i 0)) ∨ ∃ bn : Nat, b = bn ∧ bn < j ∧ abB S p (R.getD bn 0) ∧ ∀ i, i < j → abB S p (R.getD i 0) → R.getD bn 0 ≤ R.getD i 0
theorem bestOK.start (R S : List Int) (p : Nat) : bestOK R S p 0 (-1) := .inl ⟨rfl, fun i hi => absurd hi (by omega)⟩
theorem bestOK.skip {R S : List Int} {p j : Nat} {b : Int} (h : bestOK R S p j b) (hn : ¬ abB S p (R.getD j 0)) : bestOK R S p (j + 1) b := by
  have key : ∀ i, i < j + 1 → i < j ∨ i = j := fun i hi => by omega
  rcases h with ⟨h1, h2⟩ | ⟨bn, h1, h2, h3, h4⟩
  · exact .inl ⟨h1, fun i hi => (key i hi).elim (h2 i) fun e => e ▸ hn⟩
  · exact .inr ⟨bn, h1, by omega, h3, fun i hi ha => (key i hi).elim (fun e => h4 i e ha) fun e => absurd (e ▸ ha) hn⟩
theorem bestOK.keep {R S : List Int} {p j : Nat} {bn : Nat} (h : bestOK R S p j (bn : Int)) (hn : R.getD bn 0 ≤ R.getD j 0) : bestOK R S p (j + 1) (bn : Int) := by
  rcases h with ⟨h1, _⟩ | ⟨b2, h1, h2, h3, h4⟩
  · omega
  · obtain rfl : bn = b2 := by omega
    refine .inr ⟨bn, rfl, by omega, h3, fun i hi ha => ?_⟩
    by_cases e : i = j
    · rw [e]; exact hn
    · exact h4 i (by omega) ha
theorem bestOK.take {R S : List Int} {p j : Nat} {b : Int} (h : bestOK R S p j b) (ha : abB S p (R.getD j 0)) (hn : ∀ bn : Nat, b = bn → R.getD j 0 ≤ R.getD bn 0) : bestOK R S p (j + 1) (j : Int) := by
  refine .inr ⟨j, rfl, by omega, ha, fun i hi hai => ?_⟩
  by_cases e : i = j
  · rw [e]; exact Int.le_refl _
  · rcases h with ⟨_, h2⟩ | ⟨bn, h1, h2, h3, h4⟩
    · exact absurd hai (h2 i (by omega))
    · exact Int.le_trans (hn bn h1) (h4 i (by omega) hai)
theorem getD_in {L : List Int} {i : Nat} (h : i < L.length) : L.getD i 0 ∈ L := by rw [List.getD_eq_getElem?_getD, List.getElem?_eq_getElem h]; exact List.getElem_mem _
theorem getD_of {L : List Int} {x : Int} (h : x ∈ L) : ∃ i, i < L.length ∧ L.getD i 0 = x := by
  obtain ⟨i, hi, e⟩ := List.mem_iff_getElem.1 h
  exact ⟨i, hi, by rw [List.getD_eq_getElem?_getD, List.getElem?_eq_getElem hi, e]; rfl⟩
theorem getD_lt {S : List Int} (hs : S.Pairwise (· < ·)) {i j : Nat} (hij : i < j) (hj : j < S.length) : S.getD i 0 < S.getD j 0 := by
  have := List.pairwise_iff_getElem.1 hs i j (by omega) hj hij
  simpa [List.getD_eq_getElem?_getD, show i < S.length by omega, hj] using this
section
variable {R S : List Int} (hs : S.Pairwise (· < ·)) (hm : ∀ x, x ∈ S ↔ x ∈ R)
include hs hm
theorem best_none {p : Nat} (hp : p ≤ S.length) (h : bestOK R S p R.length (-1)) : p = S.length := by
  apply Classical.byContradiction
  intro hne
  have hlt : p < S.length := by omega
  obtain ⟨i, hi, e⟩ := getD_of ((hm _).1 (getD_in hlt))
  have ha : abB S p (R.getD i 0) := by
    rw [e]
    by_cases h0 : p = 0
    · exact .inl h0
    · exact .inr (getD_lt hs (by omega) hlt)
  rcases h with ⟨_, h2⟩ | ⟨bn, h1, _⟩
  · exact h2 i hi ha
  · omega
theorem best_some {p bn : Nat} (hp : p ≤ S.length) (h : bestOK R S p R.length (bn : Int)) : p < S.length ∧ R.getD bn 0 = S.getD p 0 ∧ bn < R.length := by
  rcases h with ⟨h1, _⟩ | ⟨b2, h1, h2, h3, h4⟩
  · omega
  · obtain rfl : bn = b2 := by omega
    obtain ⟨q, hq, e⟩ := getD_of ((hm _).2 (getD_in h2))
    have hpq : p ≤ q := by
      rcases h3 with h3 | h3
      · omega
      · rw [← e] at h3
        apply Classical.byContradiction
        intro hlt
        by_cases e2 : q = p - 1
        · rw [e2] at h3; omega
        · have := getD_lt hs (show q < p - 1 by omega) (by omega); omega
    have hlt : p < S.length := by omega
    obtain ⟨i, hi, e2⟩ := getD_of ((hm _).1 (getD_in hlt))
    have ha : abB S p (R.getD i 0) := by
      rw [e2]
      by_cases h0 : p = 0
      · exact .inl h0
      · exact .inr (getD_lt hs (by omega) hlt)
    have hle := h4 i hi ha
    rw [e2, ← e] at hle
    have hqp : q = p := by
      apply Classical.byContradiction
      intro hne
      have := getD_lt hs (show p < q by omega) hq
      omega
    rw [← e, hqp]
    exact ⟨hlt, rfl, h2⟩
end
theorem sub_len : ∀ {S R : List Int}, S.Nodup → (∀ x ∈ S, x ∈ R) → S.length ≤ R.length
  | [], _, _, _ => Nat.zero_le _
  | x :: S, R, hn, h => by
    obtain ⟨h1, h2⟩ := List.nodup_cons.1 hn
    have hx := h x (by simp)
    have := sub_len (R := R.erase x) h2 fun y hy => (List.mem_erase_of_ne (fun e => h1 (by rw [← e]; exact hy))).2 (h y (by simp [hy]))
    rw [List.length_erase_of_mem hx] at this
    have := List.length_pos_of_mem hx
    simp only [List.length_cons]
    omega
theorem take_next {S : List Int} {p : Nat} (hp : p < S.length) : S.take (p + 1) = S.take p ++ [S.getD p 0] := by
  rw [List.take_add_one, List.getElem?_eq_getElem hp]
  simp [List.getD_eq_getElem?_getD, hp]
set_option maxRecDepth 100000 in
set_option maxHeartbeats 8000000 in
theorem all17T_any (a : Option Addr) (n c : Nat) (ls : List TileR) (k : Int) (w : World) (h : TilesOK w a n ls) (hk : I64 k) (hT : totL (tdOf ls) ≤ 1000000) :
    Calls Tryz.prog 45 #[.slice a n c, .int .i64 k] w (IntsPost w (allL (tdOf ls) k)) := by
  have hn := h.1.2.1
  have HL := Lib.hid h.1.1
  have H := Lib.hid h
  have HTOT := Lib.hid hT
  obtain ⟨hk1, hk2⟩ := hk
  clear h
  by_cases hr : 0 ≤ k ∧ k < n
  rotate_left
  · have HE : Hid (allL (tdOf ls) k = []) := by
      rw [Hid, allL, if_neg]
      rw [tdOf_len, HL.out]
      exact fun h => hr ⟨h.1, h.2.1⟩
    by_cases h0 : k < 0
    all_goals
      go_enter Tryz.func45, Tryz.ntmps45
      go_wp2
      go_ret
      rw [HE.out]
      exact ⟨_, rfl, OwnI.nil _ _, Below.refl _ _⟩
  obtain ⟨hr1, hr2⟩ := hr
  have hr3 : ¬ k < 0 := by omega
  obtain ⟨kn, rfl⟩ : ∃ kn : Nat, k = (kn : Int) := ⟨k.toNat, by omega⟩
  by_cases hp : parentsB (tdOf ls) = true
  rotate_left
  · have HE : Hid (allL (tdOf ls) (kn : Int) = []) := by
      rw [Hid, allL, if_neg]
      exact fun h => hp h.2.2
    have hp' : parentsB (tdOf ls) = false := by simpa using hp
    have HP := Lib.hid hp'
    clear hp hp'
    go_enter Tryz.func45, Tryz.ntmps45
    go_wp2_with (go_at_call 103; refine (parents17_any a n c ls w H.out).mono ?_; rintro e w1 ⟨rfl, rfl⟩; rw [HP.out])
    go_ret
    rw [HE.out]
    exact ⟨_, rfl, OwnI.nil _ _, Below.refl _ _⟩
  have HP := Lib.hid hp
  have hkl : kn < (tdOf ls).length := by rw [tdOf_len, HL.out]; omega
  have HEA : Hid (allL (tdOf ls) (kn : Int) = sortD (rawL (tdOf ls) kn (tdOf ls).length)) := by
    rw [Hid, allL, if_pos ⟨by omega, by omega, hp⟩, Int.toNat_natCast]
  have HS : Hid ((allL (tdOf ls) (kn : Int)).Pairwise (· < ·)) := by rw [Hid, HEA.out]; exact sorted_sortD _
  have HM : Hid (∀ x, x ∈ allL (tdOf ls) (kn : Int) ↔ x ∈ rawI (tdOf ls) n kn) := fun x => by
    rw [HEA.out, mem_sortD, mem_rawI hp hkl n (by rw [tdOf_len, HL.out]; omega)]
  have hRL : (rawI (tdOf ls) n kn).length ≤ 1000000 := Nat.le_trans (rawI_len hp hkl n (by rw [tdOf_len, HL.out]; omega)) hT
  have hSL : (allL (tdOf ls) (kn : Int)).length ≤ (rawI (tdOf ls) n kn).length := by
    refine sub_len (HS.out.imp fun h e => by omega) fun x hx => (HM.out x).1 hx
  clear hp hkl
  go_enter Tryz.func45, Tryz.ntmps45
  go_wp2_with (first
    | (go_at_call 103
       refine (parents17_any a n c ls w H.out).mono ?_
       rintro e w1 ⟨rfl, rfl⟩
       rw [HP.out])
    | (go_at_call 105
       refine (all17_any a n c ls HTOT.out HP.out n kn w H.out (by omega) (by omega)).mono ?_
       rintro e w1 ⟨v, rfl, ho, hb⟩
       obtain ⟨ra, rc, rfl⟩ := ho.form
       have HR1 := Lib.hid ho
       have HB1 := Lib.hid hb
       clear ho hb))
  have HRL : Hid (∀ q, (Value.slice ra (rawI (tdOf ls) n kn).length rc).ownBlock = some q → q < w1.heap.size) := fun q e => (HR1.out.1.lt q e).2
  have hs1 := HB1.out.size
  clear HEA
  generalize allL (tdOf ls) (kn : Int) = S at *
  generalize rawI (tdOf ls) n kn = R at *
  go_loopg [5, 7, 8, 9] (S.length + 1) (fun gg s5 _ _ _ wr => ∃ p : Nat, p ≤ S.length ∧ S.length + 1 ≤ gg + p ∧ Hid (OwnI wr w1.heap.size s5 (S.take p)) ∧ Hid (OwnI wr w.heap.size (.slice ra R.length rc) R) ∧ Hid (Below w.heap.size w wr) ∧ w1.heap.size ≤ wr.heap.size)
  case atStart => exact ⟨0, by omega, by omega, OwnI.nil _ _, HR1, HB1, Nat.le_refl _⟩
  case round =>
    obtain ⟨p, hp, hgg, HO, HR, HB, hsw⟩ := hrel
    clear HR1 HB1
    obtain ⟨oa, oc, hov⟩ := HO.out.form
    have htl : (S.take p).length = p := List.length_take_of_le hp
    rw [htl] at hov
    subst hov
    obtain ⟨wo, rfl⟩ : ∃ wo : World, wo = wr := ⟨_, rfl⟩
    have hpr : (p : Int) ≤ (R.length : Int) := by omega
    have HRI := Lib.hid HR.out.ints
    have HOI : Hid (Ints wo oa p (S.take p)) := by have h1 := HO.out.ints; exact h1
    go_wp2
    go_loopw [7, 8, 9] (fun s7 s8 _ wi => ∃ (j q : Nat) (b : Int), j ≤ R.length ∧ s8 = .int .i64 (j : Int) ∧ s7 = .int .i64 b ∧ -1 ≤ b ∧ b < j ∧ Hid (bestOK R S p j b) ∧ wi = wo.drewN q) (fun _ s8 _ _ => R.length - (intOf s8).toNat)
    case atStart => exact ⟨0, 0, -1, by omega, rfl, rfl, by omega, by omega, bestOK.start R S p, rfl⟩
    case round =>
      obtain ⟨j, q, b, hj, rfl, rfl, hb0, hb1, HBO, rfl⟩ := hrel
      by_cases hjl : j < R.length
      · obtain ⟨b1, o1, e1, hc1, hx1, hx2⟩ := HRI.out.2.2 j hjl
        have hjl' : (j : Int) < (R.length : Int) := by omega
        by_cases hp0 : p = 0
        · -- all are above
          have HA : Hid (abB S p (R.getD j 0)) := .inl hp0
          have hpz : ((p : Int) == 0) = true := by simp [hp0]
          subst e1
          clear hp0
          by_cases hbn : b < 0
          · have HN : Hid (bestOK R S p (j + 1) (j : Int)) := HBO.out.take HA.out (fun bn e => by omega)
            generalize R.getD j 0 = x at *
            go_wp2
            go_quiet (fail)
            go_wp2
            go_quiet (fail)
            go_wp2
            go_roundw
            case rel => exact ⟨j + 1, _, j, by omega, by go_num, by go_num, by omega, by omega, HN, rfl⟩
            case measure => simp [intOf]; omega
          · obtain ⟨bn, rfl⟩ : ∃ bn : Nat, b = bn := ⟨b.toNat, by omega⟩
            obtain ⟨b2, o2, e2, hc2, _⟩ := HRI.out.2.2 bn (by omega)
            injection e2 with e2
            injection e2 with e2 e3
            subst e2 e3
            have hbl : (bn : Int) < (R.length : Int) := by omega
            by_cases hxy : R.getD j 0 < R.getD bn 0
            · have HN : Hid (bestOK R S p (j + 1) (j : Int)) := HBO.out.take HA.out (fun b3 e => by have e3 : b3 = bn := (by omega); rw [e3]; omega)
              generalize R.getD j 0 = x at *
              generalize R.getD bn 0 = y at *
              have dxy : decide (x < y) = true := by simp; omega
              go_wp2
              go_quiet (fail)
              go_wp2
              go_quiet (fail)
              go_wp2
              go_roundw
              case rel => exact ⟨j + 1, _, j, by omega, by go_num, by go_num, by omega, by omega, HN, rfl⟩
              case measure => simp [intOf]; omega
            · have HN : Hid (bestOK R S p (j + 1) (bn : Int)) := HBO.out.keep (by omega)
              generalize R.getD j 0 = x at *
              generalize R.getD bn 0 = y at *
              have dxy : decide (x < y) = false := by simp; omega
              go_wp2
              go_quiet (fail)
              go_wp2
              go_quiet (fail)
              go_wp2
              go_roundw
              case rel => exact ⟨j + 1, _, bn, by omega, by go_num, by go_num, by omega, by omega, HN, rfl⟩
              case measure => simp [intOf]; omega
        · obtain ⟨b4, o4, e4, hc4, _⟩ := HOI.out.2.2 (p - 1) (by omega)
          have hsp : (S.take p).getD (p - 1) 0 = S.getD (p - 1) 0 := by
            rw [List.getD_eq_getElem?_getD, List.getD_eq_getElem?_getD, List.getElem?_take, if_pos (by omega)]
          rw [hsp] at hc4
          subst e1 e4
          have hpz : ((p : Int) == 0) = false := by simp; omega
          have hpi : ((p : Int) - 1).toNat = p - 1 := by omega
          have hpj : (0 : Int) ≤ (p : Int) - 1 := by omega
          have hpk : (p : Int) - 1 < (p : Int) := by omega
          clear hsp
          have HP0 : Hid (p ≠ 0) := hp0
          clear hp0
          by_cases hab : S.getD (p - 1) 0 < R.getD j 0
          · have HA : Hid (abB S p (R.getD j 0)) := .inr hab
            by_cases hbn : b < 0
            · have HN : Hid (bestOK R S p (j + 1) (j : Int)) := HBO.out.take HA.out (fun bn e => by omega)
              generalize R.getD j 0 = x at *
              generalize S.getD (p - 1) 0 = s at *
              have dsx : decide (s < x) = true := by simp; omega
              go_wp2
              go_quiet (fail)
              go_wp2
              go_quiet (fail)
              go_wp2
              go_roundw
              case rel => exact ⟨j + 1, _, j, by omega, by go_num, by go_num, by omega, by omega, HN, rfl⟩
              case measure => simp [intOf]; omega
            · obtain ⟨bn, rfl⟩ : ∃ bn : Nat, b = bn := ⟨b.toNat, by omega⟩
              obtain ⟨b2, o2, e2, hc2, _⟩ := HRI.out.2.2 bn (by omega)
              injection e2 with e2
              injection e2 with e2 e3
              subst e2 e3
              have hbl : (bn : Int) < (R.length : Int) := by omega
              by_cases hxy : R.getD j 0 < R.getD bn 0
              · have HN : Hid (bestOK R S p (j + 1) (j : Int)) := HBO.out.take HA.out (fun b3 e => by have e3 : b3 = bn := (by omega); rw [e3]; omega)
                generalize R.getD j 0 = x at *
                generalize R.getD bn 0 = y at *
                generalize S.getD (p - 1) 0 = s at *
                have dxy : decide (x < y) = true := by simp; omega
                have dsx : decide (s < x) = true := by simp; omega
                go_wp2
                go_quiet (fail)
                go_wp2
                go_quiet (fail)
                go_wp2
                go_roundw
                case rel => exact ⟨j + 1, _, j, by omega, by go_num, by go_num, by omega, by omega, HN, rfl⟩
                case measure => simp [intOf]; omega
              · have HN : Hid (bestOK R S p (j + 1) (bn : Int)) := HBO.out.keep (by omega)
                generalize R.getD j 0 = x at *
                generalize R.getD bn 0 = y at *
                generalize S.getD (p - 1) 0 = s at *
                have dxy : decide (x < y) = false := by simp; omega
                have dsx : decide (s < x) = true := by simp; omega
                go_wp2
                go_quiet (fail)
                go_wp2
                go_quiet (fail)
                go_wp2
                go_roundw
                case rel => exact ⟨j + 1, _, bn, by omega, by go_num, by go_num, by omega, by omega, HN, rfl⟩
                case measure => simp [intOf]; omega
          · have HN : Hid (bestOK R S p (j + 1) b) := HBO.out.skip (by
              intro h
              rcases h with h | h
              · exact HP0.out h
              · exact hab h)
            generalize R.getD j 0 = x at *
            generalize S.getD (p - 1) 0 = s at *
            have dsx : decide (s < x) = false := by simp; omega
            go_wp2
            go_quiet (fail)
            go_wp2
            go_quiet (fail)
            go_wp2
            go_roundw
            case rel => exact ⟨j + 1, _, b, by omega, by go_num, by go_num, by omega, by omega, HN, rfl⟩
            case measure => simp [intOf]; omega
      · obtain rfl : j = R.length := by omega
        by_cases hbn : b < 0
        · obtain rfl : b = -1 := by omega
          have hpS := best_none HS.out HM.out hp HBO.out
          have HE : Hid (S.take p = S) := List.take_of_length_le (by omega)
          clear hpS
          go_wp2
          go_ret
          exact ⟨_, rfl, by have h1 := HO.out.mono (show w.heap.size ≤ w1.heap.size from hs1); rw [HE.out] at h1; exact h1.ext (ext_drewN (Below.refl _ _) _), ext_drewN HB.out _⟩
        · obtain ⟨bn, rfl⟩ : ∃ bn : Nat, b = bn := ⟨b.toNat, by omega⟩
          obtain ⟨hlt, hev, hbl⟩ := best_some HS.out HM.out hp HBO.out
          obtain ⟨b2, o2, e2, hc2, hi1, hi2⟩ := HRI.out.2.2 bn hbl
          subst e2
          rw [hev] at hc2 hi1 hi2
          have HST : Hid (S.take (p + 1) = S.take p ++ [S.getD p 0]) := take_next hlt
          have hbl' : (bn : Int) < (R.length : Int) := by omega
          have HOd := Lib.hid (HO.out.ext (ext_drewN (Below.refl _ wo) q))
          have HRd := Lib.hid (HR.out.ext (ext_drewN (Below.refl _ wo) q))
          clear hev
          generalize S.getD p 0 = s at *
          go_wp2_with (
            (at_builtin
             refine wpList_append1 rfl (wo.drewN q) (.tmp 73) (.tmp 78) 22 3 rfl w1.heap.size _ 1 8 Tryz.underlying22 infoI rfl (by omega) (.slice oa p oc) p _ [.int .i64 s] rfl (by have h9 := HOd.out.1; rw [htl] at h9; exact h9) wo.heap.size rfl rfl rfl (by simp [Value.oneCell']) (by simp only [maxLen]; omega) (by omega) hsw ?_
             intro g2 cap w5 hown2 hg2 hat2
             have HO5 : Hid (OwnI w5 w1.heap.size (.slice (some ⟨g2, 0, none⟩) (p + 1) cap) (S.take (p + 1))) := (by
               rw [Hid, HST.out]
               refine ⟨?_, fun z hz => ?_, by rw [List.length_append, htl]; simp; omega⟩
               · have e4 : intVals (S.take p ++ [s]) = intVals (S.take p) ++ [.int .i64 s] := by simp [intVals]
                 rw [e4, List.length_append, htl]
                 exact hown2
               · rcases List.mem_append.1 hz with h | h
                 · exact HO.out.2.1 z h
                 · simp only [List.mem_singleton] at h
                   subst h
                   exact ⟨hi1, hi2⟩)
             have hol : ∀ qq, (Value.slice oa p oc).ownBlock = some qq → w1.heap.size ≤ qq := fun qq e => by have h9 := HOd.out.1; rw [htl] at h9; exact (h9.lt qq e).1
             have HR5 : Hid (OwnI w5 w.heap.size (.slice (some ⟨b2, o2, none⟩) R.length rc) R) := HRd.out.kept hg2 (.inr (fun e => by have := hol b2 e.symm; have := HRL.out b2 rfl; omega))
             have HB5 : Hid (Below w.heap.size w w5) := (ext_drewN HB.out q).grown hg2 (ext_drewN HB.out q).size (fun qq e => by have := hol qq e; omega)
             have hs5 : w1.heap.size ≤ w5.heap.size := Nat.le_trans hsw hg2.size
             clear hown2 hg2 hat2 hol))
          go_roundg (S.length - p)
          case measure => omega
          case rel => exact ⟨p + 1, by omega, by omega, HO5, HR5, HB5, hs5⟩
end Go.Proofs.YtblhmdhfhaencaaGreat
