/-
  Building tiles: the smallest part in which a block is.
-/
import Derived.Test.YtblhmdhfhaencaaGreatQH
import Derived.Test.YtblhmdhfhaencaaGreatTR
import Derived.RangeFuncLeaves
import Derived.Test.YtblhmdhfhaencaaGreatSortI
namespace Go.Proofs.YtblhmdhfhaencaaGreat
set_option linter.unusedSimpArgs false
set_option linter.unusedVariables false
set_option linter.unusedSectionVars false
set_option maxRecDepth 100000
set_option maxHeartbeats 40000000
section
open Go.RowKit Go.Shelf
theorem small_take (n : Nat) (L : List PartD) (k j : Nat) (hj : j < L.length) : smallestP n (L.take (j + 1)) k = smallStep k (smallestP n (L.take j) k) (L.getD j zPart) := by
  rw [smallestP, smallestP, takeS L j zPart hj, List.foldl_append]
  rfl
theorem part_cell {W : World} {B : Nat} {p : PartD} (h : W.heap[B]? = some (partO p)) {k : Nat} (hk : k < 200) : W.cell? ⟨B, k, none⟩ = some (.bool (p.s k)) := by
  rw [cell_of_row _ _ _ _ _ _ h, partC_at]
  rw [Array.getElem?_push, if_neg (by simp [setA_size]; omega), Array.getElem?_push, if_neg (by rw [setA_size]; omega)]
  exact setA_at _ _ hk
theorem smallest_any (P base : Nat) (a : Option Addr) (n c : Nat) (d : WalkD) (L : List PartD) (k : Nat) (w : World) (hB : w.heap[P]? = some (bldO d (.slice a n c))) (hL : PartsIn w base (.slice a n c) L) (hn : n ≤ 1000000) (hk : k < 200) (hd : d.bn ≤ 200) :
    Calls Tryz.prog 132 #[.pointer (some ⟨P, 0, none⟩), .int .i64 (k : Int)] w fun e w' => e = .returned (partV (smallestP d.bn L k)) ∧ Below w.heap.size w w' := by
  have hlen : L.length = n := by
    obtain ⟨_, _, e⟩ := OwnR.form hL;injection e with _ e _;exact e.symm
  have HBL := Lib.hid hB
  have HL := Lib.hid hL
  clear hB hL
  go_enter Tryz.func132, Tryz.ntmps132
  go_upto_region 1 with (fail)
  obtain ⟨W0, hW0⟩ : ∃ W, W = w.alloc (.cells Tryz.zeroCells128 128) := ⟨_, rfl⟩
  rw [← hW0]
  have hz0 : W0.heap[w.heap.size]? = some (.cells Tryz.zeroCells128 128 (0, 0)) := by rw [hW0]; exact heap_alloc_new _ _
  have hb0 : Below w.heap.size w W0 := by rw [hW0]; exact ext_alloc _ _
  have hg0 := bld_walk (block_ext hb0 HBL.out)
  have HZ0 := Lib.hid hz0
  have HB0 := Lib.hid hb0
  clear hW0 hz0 hb0
  go_upto_region 2 with (first
    | (refine wpList_load_mid (op := ⟨some 11, .load 116 _, _, _, _, _⟩) rfl 116 _ rfl P 0 rfl _ _ hg0 Tryz.underlying116 rfl size_walk ?_)
    | (refine wpList_part (o := ⟨some 13, .build 128 _, _, _, _, _⟩) rfl _ _ _ (wholeS d.bn) 1 0 rfl rfl rfl rfl ?_)
    | (refine wpList_store_row (o := ⟨none, .store 128 _ _, _, _, _, _⟩) rfl 128 _ _ rfl W1.heap.size (partC (wholeP d.bn)).toArray rfl rfl 128 Tryz.zeroCells128 (heap_alloc_new _ _) (size_partA _) (by rw [zero_part, List.size_toArray, partC_len]) (all_oneCell_toArray (partC_one _)) ?_)
    | (go_at_call 80
       refine (whole_any d hd W0).mono ?_;rintro e W1 ⟨rfl, hb1⟩;have HB1 := Lib.hid hb1;clear hb1))
  obtain ⟨W2, hW2⟩ : ∃ W, W = (W1.alloc (.cells Tryz.zeroCells128 128)).setRow W1.heap.size (partC (wholeP d.bn)).toArray := ⟨_, rfl⟩
  rw [← hW2, put_none]
  have hz2 : W2.heap[W1.heap.size]? = some (partO (wholeP d.bn)) := by rw [hW2]; exact setRow_heap _ _ _ _ _ _ (heap_alloc_new _ _)
  have hb2 : Below w.heap.size w W2 := by
    have h1 := ext_trans HB0.out HB1.out;rw [hW2];exact below_setRow (ext_trans h1 (ext_alloc _ _)) h1.size _
  have hbl : w.heap.size < W1.heap.size := by have := lt_of_heap HZ0.out; have := HB1.out.size; omega
  have hz3 : W2.heap[w.heap.size]? = some (.cells Tryz.zeroCells128 128 (0, 0)) := by
    rw [hW2, setRow_other _ _ _ _ (by omega)];exact block_ext (ext_trans HB1.out (ext_alloc _ _)) HZ0.out
  have hc2 : W2.cell? ⟨P, 4, none⟩ = some (.slice a n c) := by rw [cell_of_row _ _ _ _ _ _ (block_ext hb2 HBL.out)]; rfl
  have HZ2 := Lib.hid hz2
  have HZ3 := Lib.hid hz3
  have HB2 := Lib.hid hb2
  clear hW2 hz2 hz3 hb2 HB0 HB1 HZ0 hg0
  generalize W1.heap.size = bb at *
  go_wp2
  go_loopw [19] (fun s19 wr => ∃ j : Nat, j ≤ n ∧ s19 = .int .i64 (j : Int) ∧ Hid (wr.heap[bb]? = some (partO (smallestP d.bn (L.take j) k)) ∧ wr.heap[w.heap.size]? = some (.cells Tryz.zeroCells128 128 (0, 0)) ∧ Below w.heap.size w wr)) (fun s19 _ => n - (intOf s19).toNat)
  case atStart => exact ⟨0, by omega, rfl, HZ2.out, HZ3.out, HB2.out⟩
  case round =>
    obtain ⟨j, hj, rfl, HR⟩ := hrel;clear HZ2 HZ3 HB2;by_cases hlt : j < n
    · have hlt' : (j : Int) < (n : Int) := by omega
      have hLr : PartsIn wr base (.slice a n c) L := HL.out.ext HR.out.2.2;have hform : ∃ g, a = some ⟨g, 0, none⟩ := by
        obtain ⟨g, c', e⟩ := own_form hLr.1 (by omega);injection e with e _ _;exact ⟨g, e⟩
      obtain ⟨g, rfl⟩ := hform;have hr := part_range hLr hlt;have HTK := Lib.hid (small_take d.bn L k j (by omega));have hbw := lt_of_heap HR.out.1;clear hLr;obtain ⟨q, hq⟩ : ∃ q, q = L.getD j zPart := ⟨_, rfl⟩
      obtain ⟨best, hbest⟩ : ∃ q, q = smallestP d.bn (L.take j) k := ⟨_, rfl⟩
      rw [← hq] at hr HTK;rw [← hbest] at HR HTK;clear hq hbest;go_upto_region 5 with (first
        | (refine wpList_load_mid rfl 128 _ rfl g (j * 202) rfl (partC q) _ hr Tryz.underlying128 rfl (size_partC _) ?_)
        | (refine wpList_store_row rfl 128 _ _ rfl wr.heap.size (partC q).toArray rfl rfl 128 Tryz.zeroCells128 (heap_alloc_new _ _) (size_partA _) (by rw [zero_part, List.size_toArray, partC_len]) (all_oneCell_toArray (partC_one _)) ?_))
      obtain ⟨W5, hW5⟩ : ∃ W, W = (wr.alloc (.cells Tryz.zeroCells128 128)).setRow wr.heap.size (partC q).toArray := ⟨_, rfl⟩
      rw [← hW5, put_none];have hq5 : W5.heap[wr.heap.size]? = some (partO q) := by rw [hW5]; exact setRow_heap _ _ _ _ _ _ (heap_alloc_new _ _)
      have hb5 : Below wr.heap.size wr W5 := by rw [hW5]; exact below_setRow (ext_alloc _ _) (Nat.le_refl _) _
      have HQ5 := Lib.hid hq5;have HP5 := Lib.hid (block_ext hb5 HR.out.1);have HZ5 := Lib.hid (block_ext hb5 HR.out.2.1);have HB5 := Lib.hid (ext_trans HR.out.2.2 hb5);have h1 := part_set0 hq5;have h2 := part_set0 HP5.out;have hc5 := part_cell hq5 hk;clear hW5 hb5 hq5 hr HR;generalize wr.heap.size = gq at *;obtain ⟨kb, hkb⟩ : ∃ b, b = q.s k := ⟨_, rfl⟩
      rw [← hkb] at hc5;have HKB := Lib.hid hkb;clear hkb;cases kb with
      | false =>
        have HN : Hid (smallestP d.bn (L.take (j + 1)) k = best) := by rw [Hid, HTK.out, smallStep, ← HKB.out]; rfl
        clear h1 h2;go_wp2
        go_roundw
        case rel => exact ⟨j + 1, by omega, by go_num, by rw [HN.out]; exact HP5.out, HZ5.out, HB5.out⟩
        case measure => simp [intOf]; omega
      | true =>
        obtain ⟨wb, hwb⟩ : ∃ b, b = withinB q.s best.s := ⟨_, rfl⟩
        have HWB := Lib.hid hwb;clear hwb;cases wb with
        | false =>
          have HN : Hid (smallestP d.bn (L.take (j + 1)) k = best) := by rw [Hid, HTK.out, smallStep, ← HKB.out, ← HWB.out]; rfl
          go_wp2_with (first
            | (refine wpList_load_midW (o := ⟨some 29, .load 124 _, _, _, _, _⟩) (by rfl) 124 _ rfl gq 0 rfl (setA q.s).toList _ h1 Tryz.underlying124 rfl (by rw [Array.length_toList, setA_size]; exact size_set) ?_)
            | (refine wpList_load_midW (o := ⟨some 31, .load 124 _, _, _, _, _⟩) (by rfl) 124 _ rfl bb 0 rfl (setA best.s).toList _ h2 Tryz.underlying124 rfl (by rw [Array.length_toList, setA_size]; exact size_set) ?_)
            | (go_at_call 137
               refine (within_any q.s best.s W5).mono ?_;rintro e w6 ⟨rfl, hb6⟩;rw [← HWB.out];have HP6 := Lib.hid (block_ext hb6 HP5.out);have HZ6 := Lib.hid (block_ext hb6 HZ5.out);have HB6 := Lib.hid (ext_trans HB5.out hb6);clear hb6))
          go_roundw
          case rel => exact ⟨j + 1, by omega, by go_num, by rw [HN.out]; exact HP6.out, HZ6.out, HB6.out⟩
          case measure => simp [intOf]; omega
        | true =>
          have HN : Hid (smallestP d.bn (L.take (j + 1)) k = q) := by rw [Hid, HTK.out, smallStep, ← HKB.out, ← HWB.out]; rfl
          go_wp2_with (first
            | (refine wpList_load_midW (o := ⟨some 29, .load 124 _, _, _, _, _⟩) (by rfl) 124 _ rfl gq 0 rfl (setA q.s).toList _ h1 Tryz.underlying124 rfl (by rw [Array.length_toList, setA_size]; exact size_set) ?_)
            | (refine wpList_load_midW (o := ⟨some 31, .load 124 _, _, _, _, _⟩) (by rfl) 124 _ rfl bb 0 rfl (setA best.s).toList _ h2 Tryz.underlying124 rfl (by rw [Array.length_toList, setA_size]; exact size_set) ?_)
            | (refine wpList_store_row (o := ⟨none, .store 128 _ _, _, _, _, _⟩) rfl 128 _ _ rfl bb (partC q).toArray rfl rfl 128 (partC best).toArray HP6.out (size_partA _) (by rw [List.size_toArray, List.size_toArray, partC_len, partC_len]) (all_oneCell_toArray (partC_one _)) ?_)
            | (refine wpList_load_row (o := ⟨some 34, .load 128 _, _, _, _, _⟩) rfl 128 _ rfl gq rfl 128 (partC q).toArray (0, 0) _ HQ6.out Tryz.underlying128 rfl (size_partA _) ?_)
            | (go_at_call 137
               refine (within_any q.s best.s W5).mono ?_;rintro e w6 ⟨rfl, hb6⟩;rw [← HWB.out];have HQ6 := Lib.hid (block_ext hb6 HQ5.out);have HP6 := Lib.hid (block_ext hb6 HP5.out);have HZ6 := Lib.hid (block_ext hb6 HZ5.out);have HB6 := Lib.hid (ext_trans HB5.out hb6);clear hb6))
          have hp9 := setRow_heap w6 bb _ (partC q).toArray _ _ HP6.out;have hz9 := (setRow_other w6 bb w.heap.size (partC q).toArray (by omega)).trans HZ6.out;have hb9 := below_setRow HB6.out (by omega) (g := bb) (partC q).toArray;generalize w6.setRow bb (partC q).toArray = w9 at *
          go_roundw
          case rel => exact ⟨j + 1, by omega, by go_num, by rw [HN.out]; exact hp9, hz9, hb9⟩
          case measure => simp [intOf]; omega
    · obtain rfl : j = n := by omega
      have HT : Hid (L.take j = L) := List.take_of_length_le (by omega);have hp := HR.out.1;rw [HT.out] at hp;have HP := Lib.hid hp;have HZ := Lib.hid HR.out.2.1;have HB9 := Lib.hid HR.out.2.2;clear hp HR;obtain ⟨best, hbest⟩ : ∃ q, q = smallestP d.bn L k := ⟨_, rfl⟩
      rw [← hbest] at HP;have HBE := Lib.hid hbest;clear hbest
      go_wp2_with (first
        | (refine wpList_store_row (o := ⟨none, .store 128 _ _, _, _, _, _⟩) rfl 128 _ _ rfl w.heap.size (partC best).toArray rfl rfl 128 Tryz.zeroCells128 HZ.out (size_partA _) (by rw [zero_part, List.size_toArray, partC_len]) (all_oneCell_toArray (partC_one _)) ?_)
        | (refine wpList_load_row (o := ⟨some 36, .load 128 _, _, _, _, _⟩) rfl 128 _ rfl bb rfl 128 (partC best).toArray (0, 0) _ HP.out Tryz.underlying128 rfl (size_partA _) ?_))
      have hl := run_loadVar_row (P := Tryz.prog) _ w.heap.size 128 128 _ (0, 0) _ (setRow_heap wr w.heap.size _ (partC best).toArray _ _ HZ.out) Tryz.underlying128 rfl (size_partA _);refine bodyPost_ret (v := partV best) ?_ rfl ⟨by rw [HBE.out], below_setRow HB9.out (Nat.le_refl _) _⟩;simp [results, Tryz.results132, asAddr, Act.put, hl]
end

section
open Go.RowKit
abbrev markD (D : Nat) : Deferred := { target := .collected D, args := #[] }
def Marks (lo hi : Nat) (ds : List Deferred) (w : World) : Prop :=
  ∃ Ds : List Nat, ds = Ds.map markD ∧ Ds.Nodup ∧ ∀ D ∈ Ds, lo ≤ D ∧ D < hi ∧ w.heap[D]? = some (.deferred (some []))
theorem Marks.nil (lo hi : Nat) (w : World) : Marks lo hi [] w := ⟨[], rfl, List.nodup_nil, fun _ h => by cases h⟩
theorem Marks.cons {lo hi hi' D : Nat} {ds : List Deferred} {w : World} (h : Marks lo hi ds w) (h1 : hi ≤ D) (h0 : lo ≤ D) (h2 : D < hi') (hk : w.heap[D]? = some (.deferred (some []))) : Marks lo hi' (markD D :: ds) w := by
  obtain ⟨Ds, rfl, hn, hD⟩ := h
  refine ⟨D :: Ds, rfl, List.nodup_cons.2 ⟨fun hm => ?_, hn⟩, fun E hE => ?_⟩
  · have := (hD D hm).2.1; omega
  · rcases List.mem_cons.1 hE with rfl | hE
    · exact ⟨h0, h2, hk⟩
    · obtain ⟨a, b, c⟩ := hD E hE;exact ⟨a, by omega, c⟩
theorem Marks.keep {lo hi : Nat} {ds : List Deferred} {w w' : World} (h : Marks lo hi ds w) (hk : Keep w w') : Marks lo hi ds w' := by
  obtain ⟨Ds, e, hn, hD⟩ := h
  exact ⟨Ds, e, hn, fun D hm => ⟨(hD D hm).1, (hD D hm).2.1, hk D _ (hD D hm).2.2 rfl⟩⟩
theorem Marks.mono {lo hi hi' : Nat} {ds : List Deferred} {w : World} (h : Marks lo hi ds w) (hh : hi ≤ hi') : Marks lo hi' ds w := by
  obtain ⟨Ds, e, hn, hD⟩ := h
  exact ⟨Ds, e, hn, fun D hm => ⟨(hD D hm).1, by have := (hD D hm).2.1; omega, (hD D hm).2.2⟩⟩
theorem Steady.marks {lo hi B : Nat} (hB : hi ≤ B) (ds : List Deferred) : Steady B (fun W => Marks lo hi ds W) := by
  rintro W W' row ⟨Ds, e, hn, hD⟩ hg hr
  refine ⟨Ds, e, hn, fun D hm => ⟨(hD D hm).1, (hD D hm).2.1, ?_⟩⟩
  have h2 := (hD D hm).2.2
  refine (hg.block D (Array.getElem?_eq_some_iff.1 h2).1 fun e => ?_).trans h2
  have h3 := (hr D e.symm).1
  have h4 := (hD D hm).2.1
  omega
theorem leaves_marks {P : Program} {F : Fence} {n : Nat} {fn : Func} {tmps : Array Value} {R : Ending → World → Prop} {u : FrameMode} (hu : u ≠ .run) {lo hi : Nat} (J : World → Prop) (hJ : Steady lo J) (h : ∀ w, J w → LeavesIn F n P fn tmps R [] u w) :
    ∀ (ds : List Deferred) (w : World), Marks lo hi ds w → J w → LeavesInM F n P fn tmps R ds u w := by
  intro ds
  induction ds with
  | nil => exact fun w _ hj => h w hj
  | cons d ds ih =>
    rintro w ⟨Ds, e, hn, hD⟩ hj;cases Ds with
    | nil => cases e
    | cons D Ds =>
      simp only [List.map_cons, List.cons.injEq] at e;obtain ⟨rfl, rfl⟩ := e;have h1 := (hD D (by simp)).2.2;have hne := (List.nodup_cons.1 hn).1;refine ⟨hu, .inl ⟨D, _, rfl, run_takeDeferred h1, ih _ ⟨Ds, rfl, (List.nodup_cons.1 hn).2, fun E hE => ?_⟩ (hJ.put (.deferred none) hj (hD D (by simp)).1 h1 rfl)⟩⟩;obtain ⟨a, b, c⟩ := hD E (by simp [hE]);refine ⟨a, b, (World.putObj_heap_other ?_).trans c⟩;rintro rfl;exact hne hE
end

section
open Go.RowKit Go.Shelf
attribute [local go_sem] Oper.semAt_some wide_fn wide_depth wide_fnR wide_depthR
def onL (fr : Nat → Bool) (dn : List Nat) : Nat → Bool := fun x => dn.contains x && !fr x
theorem onL_nil (fr : Nat → Bool) : onL fr [] = fun _ => false := by funext x; simp [onL]
theorem onL_snoc (fr : Nat → Bool) (dn : List Nat) (x : Nat) : (fun k => if k = x then !fr x else onL fr dn k) = onL fr (dn ++ [x]) := by
  funext k
  simp only [onL, List.contains_eq_mem, List.mem_append, List.mem_singleton]
  by_cases e : k = x
  · subst e; simp
  · simp [e]
def zeroS (f : Nat → Bool) : Nat → Bool := fun q => if q = 0 then true else f q
theorem onL_end (ts : List TermD) (k : Nat) {of : Nat → Bool} (hc : Canon of) : onL (zeroS (walkF (nx ts) (lessS (wholeS ts.length) k) 0)) (listS of) = guardedP ts k of := by
  funext x
  simp only [onL, guardedP, List.contains_eq_mem, mem_listS hc, zeroS]
  by_cases e : x = 0
  · subst e; simp
  · have e' : (x == 0) = false := by simpa using e
    simp [e, e']
def GuJ (w : World) (of fr s : Nat → Bool) (S7 G : Nat) (W : World) : Prop :=
  W.heap[w.heap.size]? = some (setO of) ∧ W.heap[w.heap.size + 1]? = some (setO s) ∧ W.heap[S7]? = some (setO fr) ∧ W.heap[G]? = some (.cells #[.pointer (some ⟨w.heap.size, 0, none⟩)] 189 (0, 0)) ∧ Below w.heap.size w W
theorem GuJ.steady {w : World} {of fr s : Nat → Bool} {S7 G D : Nat} (hD : w.heap.size ≤ D) : Steady D (GuJ w of fr s S7 G) := by
  unfold GuJ
  exact (Steady.block _ _ rfl).and ((Steady.block _ _ rfl).and ((Steady.block _ _ rfl).and ((Steady.block _ _ rfl).and (Steady.below (Nat.le_refl _) hD))))
theorem guarded_any (P : Nat) (d : WalkD) (ts : List TermD) (v : Value) (k : Nat) (of : Nat → Bool) (w : World) (hB : w.heap[P]? = some (bldO d v)) (hok : WalkOK w d ts) (hf : fitsB ts = true) (hk : k < 200) (hc : Canon of) :
    Calls Tryz.prog 133 #[.pointer (some ⟨P, 0, none⟩), .int .i64 (k : Int), .agg (setA of)] w (SetPost w (guardedP ts k of)) := by
  have HOK := Lib.hid hok
  have HGD := Lib.hid (fits_facts hf).1
  have HC := Lib.hid hc
  have hbn : d.bn ≤ 200 := hok.2.1
  have HLN : Hid (ts.length = d.bn) := hok.1
  refine (callsIn_wide (n := 0)).1 ?_
  refine callsIn_of_wp_marks Tryz.func133 rfl trivial ?_
  simp only [Tryz.ntmps133, List.size_toArray, List.length_cons, List.length_nil, Nat.reduceAdd, Nat.reduceSub, Array.replicate_succ, Array.replicate_zero, List.push_toArray, List.append_toArray, List.nil_append, List.cons_append]
  gi_wp2
  obtain ⟨W1, hW1⟩ : ∃ W, W = (w.alloc (setO of)).alloc (.cells Tryz.zeroCells124 124) := ⟨_, rfl⟩
  rw [← hW1]
  have hb1 : Below w.heap.size w W1 := by rw [hW1]; exact ext_trans (ext_alloc _ _) (ext_alloc _ _)
  have h5 : W1.heap[w.heap.size]? = some (setO of) := by rw [hW1]; exact block_ext (ext_alloc _ _) (heap_alloc_new _ _)
  have h6 : W1.heap[w.heap.size + 1]? = some (setO fun _ => false) := by rw [hW1, heap_at _ _ _ (by simp), zero_set]
  have hs1 : W1.heap.size = w.heap.size + 1 + 1 := by rw [hW1]; simp
  have HB1 := Lib.hid (block_ext hb1 hB)
  have HBB := Lib.hid hb1
  have H5 := Lib.hid h5
  have H6 := Lib.hid h6
  have HS1 := Lib.hid hs1
  clear hW1 hb1 h5 h6 hs1 hB hok hf hc
  refine wpIn_wide.2 ?_
  refine region_free 18 [some 9, some 10, some 11, some 12, some 13, some 14, some 15, some 16, some 17, some 18, some 19, some 20, some 21, some 22, some 23, some 24, some 25, some 7] (by kernel_rfl) (by kernel_rfl) (specB [.val (.pointer (some ⟨P, 0, none⟩)), .val (.pointer (some ⟨P, 0, none⟩)), .val (.pointer (some ⟨P, 0, none⟩)), .val (walkV d), .val (.pointer (some ⟨P, 0, none⟩)), .val (.pointer (some ⟨P, 0, none⟩)), .val (.pointer (some ⟨P, 0, none⟩)), .val (walkV d), .val (.agg (setA (wholeS d.bn))), .val (.int .i64 (k : Int)), .val (.agg (setA (lessS (wholeS d.bn) k))), .val (.pointer (some ⟨P, 0, none⟩)), .val (.pointer (some ⟨P, 0, none⟩)), .val (.pointer (some ⟨P, 0, none⟩)), .val (.pointer (some ⟨P, 2, none⟩)), .val (.slice d.ta d.bn d.tc), .val (.agg (setA (walkF (nx ts) (lessS (wholeS d.bn) k) 0))), .new (setO fun _ => false)]) (specB_mono ?_) ?_ ?_
  · intro k hk;simp only [List.mem_cons, List.not_mem_nil, or_false] at hk;rcases hk with rfl | rfl | rfl | rfl | rfl | rfl | rfl | rfl | rfl | rfl | rfl | rfl | rfl | rfl | rfl | rfl | rfl | rfl
    · exact trivial
    · exact trivial
    · exact trivial
    · exact trivial
    · exact trivial
    · exact trivial
    · exact trivial
    · exact trivial
    · exact trivial
    · exact trivial
    · exact trivial
    · exact trivial
    · exact trivial
    · exact trivial
    · exact trivial
    · exact trivial
    · exact trivial
    · exact trivial
  · intro i hi ν lo hi' w1 K hB hD hK;have hcase : i = 0 ∨ i = 1 ∨ i = 2 ∨ i = 3 ∨ i = 4 ∨ i = 5 ∨ i = 6 ∨ i = 7 ∨ i = 8 ∨ i = 9 ∨ i = 10 ∨ i = 11 ∨ i = 12 ∨ i = 13 ∨ i = 14 ∨ i = 15 ∨ i = 16 ∨ i = 17 := by omega
    clear hi;rcases hcase with rfl | rfl | rfl | rfl | rfl | rfl | rfl | rfl | rfl | rfl | rfl | rfl | rfl | rfl | rfl | rfl | rfl | rfl
    · clear hD;refine wpOp_atK rfl rfl ?_;simp only [zA,zB,zC,zD,zE,zF,zJ,zK,zG,zH,zI] at hK ⊢;go_simp;exact hK _ _ (Below.refl _ _) rfl
    · have e0 := hD 0 (by kernel_rfl)
      replace e0 : ν 0 = (.pointer (some ⟨P, 0, none⟩)) := e0
      clear hD;refine wpOp_atK rfl rfl ?_;simp only [zA,zB,zC,zD,zE,zF,zJ,zK,zG,zH,zI, e0] at hK ⊢;go_simp;exact hK _ _ (Below.refl _ _) rfl
    · have e1 := hD 1 (by kernel_rfl)
      replace e1 : ν 1 = (.pointer (some ⟨P, 0, none⟩)) := e1
      clear hD;refine wpOp_atK rfl rfl ?_;simp only [zA,zB,zC,zD,zE,zF,zJ,zK,zG,zH,zI, e1] at hK ⊢;go_simp;exact hK _ _ (Below.refl _ _) rfl
    · have e2 := hD 2 (by kernel_rfl)
      replace e2 : ν 2 = (.pointer (some ⟨P, 0, none⟩)) := e2
      clear hD;refine wpOp_atK rfl rfl ?_;simp only [zA,zB,zC,zD,zE,zF,zJ,zK,zG,zH,zI, e2] at hK ⊢;refine wp_load_mid 116 _ rfl P 0 rfl _ _ (bld_walk (block_ext hB HB1.out)) Tryz.underlying116 rfl size_walk ?_;exact hK _ _ (Below.refl _ _) rfl
    · clear hD;refine wpOp_atK rfl rfl ?_;simp only [zA,zB,zC,zD,zE,zF,zJ,zK,zG,zH,zI] at hK ⊢;go_simp;exact hK _ _ (Below.refl _ _) rfl
    · have e4 := hD 4 (by kernel_rfl)
      replace e4 : ν 4 = (.pointer (some ⟨P, 0, none⟩)) := e4
      clear hD;refine wpOp_atK rfl rfl ?_;simp only [zA,zB,zC,zD,zE,zF,zJ,zK,zG,zH,zI, e4] at hK ⊢;go_simp;exact hK _ _ (Below.refl _ _) rfl
    · have e5 := hD 5 (by kernel_rfl)
      replace e5 : ν 5 = (.pointer (some ⟨P, 0, none⟩)) := e5
      clear hD;refine wpOp_atK rfl rfl ?_;simp only [zA,zB,zC,zD,zE,zF,zJ,zK,zG,zH,zI, e5] at hK ⊢;go_simp;exact hK _ _ (Below.refl _ _) rfl
    · have e6 := hD 6 (by kernel_rfl)
      replace e6 : ν 6 = (.pointer (some ⟨P, 0, none⟩)) := e6
      clear hD;refine wpOp_atK rfl rfl ?_;simp only [zA,zB,zC,zD,zE,zF,zJ,zK,zG,zH,zI, e6] at hK ⊢;refine wp_load_mid 116 _ rfl P 0 rfl _ _ (bld_walk (block_ext hB HB1.out)) Tryz.underlying116 rfl size_walk ?_;exact hK _ _ (Below.refl _ _) rfl
    · have e7 := hD 7 (by kernel_rfl)
      replace e7 : ν 7 = (walkV d) := e7
      clear hD;refine wpOp_atK rfl rfl ?_;simp only [zA,zB,zC,zD,zE,zF,zJ,zK,zG,zH,zI, e7] at hK ⊢;go_simp;refine (whole_any d hbn w1).mono ?_;rintro e w3 ⟨rfl, hb3⟩;exact hK _ _ hb3 rfl
    · clear hD;refine wpOp_atK rfl rfl ?_;simp only [zA,zB,zC,zD,zE,zF,zJ,zK,zG,zH,zI] at hK ⊢;go_simp;exact hK _ _ (Below.refl _ _) rfl
    · have e8 := hD 8 (by kernel_rfl)
      replace e8 : ν 8 = (.agg (setA (wholeS d.bn))) := e8
      have e9 := hD 9 (by kernel_rfl)
      replace e9 : ν 9 = (.int .i64 (k : Int)) := e9
      clear hD;refine wpOp_atK rfl rfl ?_;simp only [zA,zB,zC,zD,zE,zF,zJ,zK,zG,zH,zI, e8, e9] at hK ⊢;go_simp;refine (less_any (wholeS d.bn) k hk w1).mono ?_;rintro e w3 ⟨rfl, hb3⟩;exact hK _ _ hb3 rfl
    · clear hD;refine wpOp_atK rfl rfl ?_;simp only [zA,zB,zC,zD,zE,zF,zJ,zK,zG,zH,zI] at hK ⊢;go_simp;exact hK _ _ (Below.refl _ _) rfl
    · have e11 := hD 11 (by kernel_rfl)
      replace e11 : ν 11 = (.pointer (some ⟨P, 0, none⟩)) := e11
      clear hD;refine wpOp_atK rfl rfl ?_;simp only [zA,zB,zC,zD,zE,zF,zJ,zK,zG,zH,zI, e11] at hK ⊢;go_simp;exact hK _ _ (Below.refl _ _) rfl
    · have e12 := hD 12 (by kernel_rfl)
      replace e12 : ν 12 = (.pointer (some ⟨P, 0, none⟩)) := e12
      clear hD;refine wpOp_atK rfl rfl ?_;simp only [zA,zB,zC,zD,zE,zF,zJ,zK,zG,zH,zI, e12] at hK ⊢;go_simp;exact hK _ _ (Below.refl _ _) rfl
    · have e13 := hD 13 (by kernel_rfl)
      replace e13 : ν 13 = (.pointer (some ⟨P, 0, none⟩)) := e13
      clear hD;refine wpOp_atK rfl rfl ?_;simp only [zA,zB,zC,zD,zE,zF,zJ,zK,zG,zH,zI, e13] at hK ⊢;go_simp;exact hK _ _ (Below.refl _ _) rfl
    · have e14 := hD 14 (by kernel_rfl)
      replace e14 : ν 14 = (.pointer (some ⟨P, 2, none⟩)) := e14
      clear hD;refine wpOp_atK rfl rfl ?_;simp only [zA,zB,zC,zD,zE,zF,zJ,zK,zG,zH,zI, e14] at hK ⊢;have q1 := cell_ext hB (show W1.cell? ⟨P, 2, none⟩ = some (.slice d.ta d.bn d.tc) by rw [cell_of_row _ _ _ _ _ _ HB1.out]; rfl);go_simp;exact hK _ _ (Below.refl _ _) rfl
    · have e3 := hD 3 (by kernel_rfl)
      replace e3 : ν 3 = (walkV d) := e3
      have e10 := hD 10 (by kernel_rfl)
      replace e10 : ν 10 = (.agg (setA (lessS (wholeS d.bn) k))) := e10
      have e15 := hD 15 (by kernel_rfl)
      replace e15 : ν 15 = (.slice d.ta d.bn d.tc) := e15
      clear hD;refine wpOp_atK rfl rfl ?_;simp only [zA,zB,zC,zD,zE,zF,zJ,zK,zG,zH,zI, e3, e10, e15] at hK ⊢;go_simp;refine (walk_any d 0 (lessS (wholeS d.bn) k) d.ta d.bn d.tc (toRows ts) (nx ts) w1 (by omega) hbn (fun y hy => by simp [lessS, wholeS] at hy; exact hy.2) (fun q hq => by simp [toRows, HOK.out.1, hq]) (WalkOK.nx_lt (w := w) (d := d) HGD.out).1 ((HOK.out.ext (ext_trans HBB.out hB)).2.2.1)).mono ?_;rintro e w3 ⟨rfl, hb3⟩;exact hK _ _ hb3 rfl
    · clear hD;refine wpOp_atK rfl rfl ?_;simp only [zA,zB,zC,zD,zE,zF,zJ,zK,zG,zH,zI] at hK ⊢;go_simp;refine hK _ _ (ext_alloc _ _) ⟨rfl, by simp, ?_⟩;rw [heap_alloc_new, zero_set]
  · intro ν lo hi w1 hB hS hI hD;have e0 : ν 0 = (.pointer (some ⟨P, 0, none⟩)) := hS 0 (by omega);have e1 : ν 1 = (.pointer (some ⟨P, 0, none⟩)) := hS 1 (by omega);have e2 : ν 2 = (.pointer (some ⟨P, 0, none⟩)) := hS 2 (by omega);have e3 : ν 3 = (walkV d) := hS 3 (by omega);have e4 : ν 4 = (.pointer (some ⟨P, 0, none⟩)) := hS 4 (by omega);have e5 : ν 5 = (.pointer (some ⟨P, 0, none⟩)) := hS 5 (by omega);have e6 : ν 6 = (.pointer (some ⟨P, 0, none⟩)) := hS 6 (by omega);have e7 : ν 7 = (walkV d) := hS 7 (by omega);have e8 : ν 8 = (.agg (setA (wholeS d.bn))) := hS 8 (by omega);have e9 : ν 9 = (.int .i64 (k : Int)) := hS 9 (by omega);have e10 : ν 10 = (.agg (setA (lessS (wholeS d.bn) k))) := hS 10 (by omega);have e11 : ν 11 = (.pointer (some ⟨P, 0, none⟩)) := hS 11 (by omega);have e12 : ν 12 = (.pointer (some ⟨P, 0, none⟩)) := hS 12 (by omega);have e13 : ν 13 = (.pointer (some ⟨P, 0, none⟩)) := hS 13 (by omega);have e14 : ν 14 = (.pointer (some ⟨P, 2, none⟩)) := hS 14 (by omega);have e15 : ν 15 = (.slice d.ta d.bn d.tc) := hS 15 (by omega);have e16 : ν 16 = (.agg (setA (walkF (nx ts) (lessS (wholeS d.bn) k) 0))) := hS 16 (by omega);obtain ⟨e17, l17, h17⟩ := hS 17 (by omega);clear hS;simp only [List.drop_succ_cons, List.drop_zero, zA,zB,zC,zD,zE,zF,zJ,zK,zG,zH,zI, e0, e1, e2, e3, e4, e5, e6, e7, e8, e9, e10, e11, e12, e13, e14, e15, e16, e17];obtain ⟨fr0, hfr0⟩ : ∃ f, f = walkF (nx ts) (lessS (wholeS d.bn) k) 0 := ⟨_, rfl⟩
    rw [← hfr0];have HFR := Lib.hid hfr0;have i17 := hI 17 (by omega);generalize lo 17 = S7 at *;have hS7 := i17.1;rw [HS1.out] at hS7;have hw2 := below_setRow (g := S7) hB i17.1 (setA fr0);have hs2 := setRow_heap w1 S7 _ (setA fr0) _ _ h17;refine wpList_store_row (o := ⟨none, .store 124 _ _, _, _, _, _⟩) rfl 124 _ _ rfl S7 (setA fr0) rfl rfl 124 _ h17 (by rw [setA_size]; exact size_set) rfl (setA_all _) ?_;have hsl := lt_of_heap hs2;generalize w1.setRow S7 (setA fr0) = w2 at *;have h5 := block_ext hw2 H5.out;have h6 := block_ext hw2 H6.out;have hb2 := ext_trans HBB.out hw2;have hcz := set_cell hs2 0 (by omega);have hfz := set_free hs2 0;have h25 : (w2.setCell ⟨S7, 0, none⟩ (.bool true)).heap[w.heap.size]? = some (setO of) := grown_row (grown_setCell w2 S7 0 _) h5 (fun e => by injection e with e; omega);have h26 : (w2.setCell ⟨S7, 0, none⟩ (.bool true)).heap[w.heap.size + 1]? = some (setO fun _ => false) := grown_row (grown_setCell w2 S7 0 _) h6 (fun e => by injection e with e; omega);have h27 : (w2.setCell ⟨S7, 0, none⟩ (.bool true)).heap[S7]? = some (setO (zeroS fr0)) := set_put hs2 0 (by omega) true;have hb3 : Below w.heap.size w (w2.setCell ⟨S7, 0, none⟩ (.bool true)) := hb2.setCell (by show w.heap.size ≤ S7; omega) _;have hsz3 : S7 < (w2.setCell ⟨S7, 0, none⟩ (.bool true)).heap.size := lt_of_heap h27;have H25 := Lib.hid h25;have H26 := Lib.hid h26;have H27 := Lib.hid h27;have HB3 := Lib.hid hb3;clear hI hD hB e0 e1 e2 e3 e4 e5 e6 e7 e8 e9 e10 e11 e12 e13 e14 e15 e16 e17 l17 h17 i17 hw2 hs2 h5 h6 hb2 h25 h26 h27 hb3 hfr0;go_wp2
    gi_wp2
    generalize w2.setCell ⟨S7, 0, none⟩ (.bool true) = w3 at *
    gi_wp2_with (gi_at_call 88; refine (callsIn_wide.2 (each_any _ _)).mono ?_; rintro e w' ⟨rfl, rfl⟩)
    obtain ⟨w4, hw4⟩ : ∃ W, W = w3.alloc (.cells #[.pointer (some ⟨w.heap.size, 0, none⟩)] 189) := ⟨_, rfl⟩
    rw [← hw4];have hb4 : Below w3.heap.size w3 w4 := by rw [hw4]; exact ext_alloc _ _
    have hg4 : w4.heap[w3.heap.size]? = some (.cells #[.pointer (some ⟨w.heap.size, 0, none⟩)] 189 (0, 0)) := by rw [hw4]; exact heap_alloc_new _ _
    have hsz4 : w4.heap.size = w3.heap.size + 1 := by rw [hw4]; simp
    have hs26 := lt_of_heap H26.out;have HST : Hid (GuJ w of (zeroS fr0) (onL (zeroS fr0) []) S7 w3.heap.size w4) := by
      rw [onL_nil];exact ⟨block_ext hb4 H25.out, block_ext hb4 H26.out, block_ext hb4 H27.out, hg4, ext_trans HB3.out hb4⟩
    clear hw4 hb4 hg4;generalize w3.heap.size = G at *;refine range_list (ps := #[28]) (gf := 139) (lb := #[.pointer (some ⟨G, 0, none⟩)]) (enc := encN) (l := listS of) rfl enter_each _ (each_iterI of G w.heap.size) (fun _ => rfl)
      (fun dn r W => Hid (GuJ w of (zeroS fr0) (onL (zeroS fr0) dn) S7 G W)) (fun _ _ => False) (fun dn r => GuJ.steady (by omega)) (fun c => Steady.pure _ _) (fun dn r W h => ⟨by rw [cell_of_row _ _ _ _ _ _ h.out.2.2.2.1]; rfl, h.out.1⟩) HST ?round ?done ?stop
    case round =>
      rintro lp dn x r W hd hJ;unfold encN
      gi_wp2
      refine ⟨Keep.refl _, hJ, ?_⟩;clear hJ lp W;rintro lp W hJ;have hxl : x < 200 := listS_lt of x (by rw [hd]; simp);obtain ⟨j1, j2, j3, j4, jb⟩ := hJ.out;have c3 := set_cell j3 x hxl;have c2 := set_cell j2 x hxl;have f2 := set_free j2 x;have l2 := lt_of_heap j2;have g := grown_setCell W (w.heap.size + 1) x (.bool (!zeroS fr0 x));have HN : Hid (GuJ w of (zeroS fr0) (onL (zeroS fr0) (dn ++ [x])) S7 G (W.setCell ⟨w.heap.size + 1, x, none⟩ (.bool (!zeroS fr0 x)))) := by
        rw [← onL_snoc];exact ⟨grown_row g j1 (fun e => by injection e with e; omega), set_put j2 x hxl _, grown_row g j3 (fun e => by injection e with e; omega), grown_row g j4 (fun e => by injection e with e; omega), jb.setCell (by show w.heap.size ≤ w.heap.size + 1; omega) _⟩
      clear j1 j2 j3 j4 jb g hJ hd;generalize zeroS fr0 x = fx at *
      gi_wp2
      exact ⟨Keep.setCell _ _ _, HN⟩
    case done =>
      rintro D W hD hJ hK;have hJ1 := hJ.out;have e9 := onL_end ts k HC.out;rw [HLN.out, ← HFR.out] at e9;rw [e9] at hJ1;obtain ⟨j1, j2, j3, j4, jb⟩ := hJ1;have J2 := Lib.hid j2;have JB := Lib.hid jb;have HKK := Lib.hid hK;clear j1 j2 j3 j4 jb hJ e9 hK;generalize guardedP ts k of = res at *
      gi_wp2_with (first
        | (refine opIn_load_row 124 _ rfl (w.heap.size + 1) rfl 124 (setA res) (0, 0) _ J2.out Tryz.underlying124 rfl (by rw [setA_size]; exact size_set) ?_)
        | (refine opIn_store_row 124 _ _ rfl (w.heap.size + 1) (setA res) rfl rfl 124 (setA res) J2.out (by rw [setA_size]; exact size_set) rfl (setA_all _) ?_))
      have hDS : D ≠ w.heap.size + 1 := by omega
      have hr := setRow_heap W (w.heap.size + 1) _ (setA res) _ _ J2.out;have hb := below_setRow (g := w.heap.size + 1) JB.out (by omega) (setA res);have hk2 := (setRow_other W (w.heap.size + 1) D (setA res) (by omega)).trans HKK.out;generalize W.setRow (w.heap.size + 1) (setA res) = W9 at *;have hr2 : (W9.putObj D (.deferred none)).heap[w.heap.size + 1]? = some (setO res) := (World.putObj_heap_other (by omega)).trans hr;have hb2 := (Steady.below (n₀ := w.heap.size) (B := w.heap.size) (w₀ := w) (Nat.le_refl _) (Nat.le_refl _)).put (.deferred none) (l := D) hb (by omega) hk2 rfl;have hl := load_set hr2;refine ⟨by simp, .inl ⟨_, _, rfl, run_takeDeferred hk2, ?_⟩⟩;exact ⟨.agg (setA res), by simp [results, Tryz.results133, asAddr, Act.put, hl], rfl, hb2⟩
    case stop => rintro D c W hD h; exact h.elim
end
end Go.Proofs.YtblhmdhfhaencaaGreat
