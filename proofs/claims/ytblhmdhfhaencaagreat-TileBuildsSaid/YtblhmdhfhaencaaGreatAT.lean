/-
  Building tiles: conditionals.
-/
import Derived.Test.YtblhmdhfhaencaaGreatQK
import Derived.Test.YtblhmdhfhaencaaGreatFI2
import Derived.Test.YtblhmdhfhaencaaGreatSortI
import Derived.Test.YtblhmdhfhaencaaGreatTR
import Derived.Test.YtblhmdhfhaencaaGreatLentG
namespace Go.Proofs.YtblhmdhfhaencaaGreat
set_option linter.unusedSimpArgs false
set_option linter.unusedVariables false
set_option linter.unusedSectionVars false
set_option maxRecDepth 100000
set_option maxHeartbeats 40000000
section
open Go.RowKit Go.Shelf
theorem many_any (f : Nat → Bool) (w : World) : Calls Tryz.prog 134 #[.agg (setA f)] w fun e w' => e = .returned (.int .i64 ((listS f).length : Int)) ∧ Below w.heap.size w w' := by
  go_enter Tryz.func134, Tryz.ntmps134
  have h1 := heap_alloc_new w (setO f)
  have HB : Hid (Below w.heap.size w (w.alloc (setO f))) := ext_alloc _ _
  have HE : Hid ((intsN (listS f)).length = (listS f).length) := by simp [Hid, intsN]
  go_wp2_with (first
    | (refine wpList_load_row (o := ⟨some 3, .load 124 _, _, _, _, _⟩) rfl 124 _ rfl w.heap.size rfl 124 (setA f) (0, 0) _ h1 Tryz.underlying124 rfl (by rw [setA_size]; exact size_set) ?_)
    | (go_at_call 87
       refine (list_any f _).mono ?_;rintro e w2 ⟨v, rfl, ho, hb⟩;obtain ⟨a, c, rfl⟩ := ho.form;rw [HE.out];have HB2 := Lib.hid (ext_trans HB.out hb);clear ho hb))
  go_ret
  exact ⟨rfl, HB2.out⟩
theorem small_canon {n : Nat} (hn : n ≤ 200) (k : Nat) : ∀ (L : List PartD), (∀ p ∈ L, Canon p.s) → Canon (smallestP n L k).s := by
  intro L hL
  have key : ∀ (l : List PartD) (b : PartD), (∀ p ∈ l, Canon p.s) → Canon b.s → Canon (l.foldl (smallStep k) b).s := by
    intro l
    induction l with
    | nil => intro b _ hb; exact hb
    | cons p l ih =>
      intro b hl hb;refine ih _ (fun q hq => hl q (by simp [hq])) ?_;unfold smallStep
      split
      · exact hl p (by simp)
      · exact hb
  exact key L _ hL (whole_canon hn)
theorem partK_cell {W : World} {B : Nat} {p : PartD} (h : W.heap[B]? = some (partO p)) : W.cell? ⟨B, 200, none⟩ = some (.int .i64 p.kind) ∧ W.cell? ⟨B, 201, none⟩ = some (.int .i64 p.entry) := by
  rw [cell_of_row _ _ _ _ _ _ h, cell_of_row _ _ _ _ _ _ h, partC_at]
  constructor
  · rw [Array.getElem?_push, if_neg (by simp [setA_size]), Array.getElem?_push, if_pos (by rw [setA_size])]
  · rw [Array.getElem?_push, if_pos (by simp [setA_size])]
theorem own_form2 {w : World} {base : Nat} {e : TypeId} {size : Nat} {v : Value} {n : Nat} {xs : List Value} (h : w.ownsRow base e size v n xs) : ∃ a c, v = .slice a n c := by
  rcases h.2 with ⟨h, h0⟩ | ⟨g, cap, cur, h, _⟩
  · exact ⟨none, 0, by rw [h, h0]⟩
  · exact ⟨_, _, h⟩
theorem conds_step (ts : List TermD) (L : List PartD) (j : Nat) : (List.range (j + 1)).filterMap (condP ts L) = (List.range j).filterMap (condP ts L) ++ (match condP ts L j with | some p => [p] | none => []) := by
  rw [List.range_succ, List.filterMap_append]
  congr 1
  cases h : condP ts L j <;> simp [h]
theorem conds_len (ts : List TermD) (L : List PartD) (j : Nat) : ((List.range j).filterMap (condP ts L)).length ≤ j := by
  have := List.length_filterMap_le (condP ts L) (List.range j)
  simpa using this
theorem cond_no1 {ts : List TermD} {L : List PartD} {j : Nat} (h : (pv ts j).length ≠ 1) : condP ts L j = none := by unfold condP; rw [if_neg fun hh => h hh.1]
theorem cond_no2 {ts : List TermD} {L : List PartD} {j : Nat} (h : (nx ts ((pv ts j).headD 0)).length ≠ 2) : condP ts L j = none := by unfold condP; rw [if_neg fun hh => h hh.2.1]
theorem cond_no3 {ts : List TermD} {L : List PartD} {j : Nat} (h : (smallestP ts.length L j).kind = 3) : condP ts L j = none := by unfold condP; rw [if_neg fun hh => hh.2.2.1 h]
theorem cond_no4 {ts : List TermD} {L : List PartD} {j : Nat} (h : (smallestP ts.length L j).entry = j) : condP ts L j = none := by unfold condP; rw [if_neg fun hh => hh.2.2.2.1 h]
theorem cond_no5 {ts : List TermD} {L : List PartD} {j : Nat} (h : ¬ 1 < (listS (guardedP ts j (smallestP ts.length L j).s)).length) : condP ts L j = none := by unfold condP; rw [if_neg fun hh => h hh.2.2.2.2]
theorem cond_yes {ts : List TermD} {L : List PartD} {j : Nat} (h1 : (pv ts j).length = 1) (h2 : (nx ts ((pv ts j).headD 0)).length = 2) (h3 : (smallestP ts.length L j).kind ≠ 3) (h4 : (smallestP ts.length L j).entry ≠ j) (h5 : 1 < (listS (guardedP ts j (smallestP ts.length L j).s)).length) :
    condP ts L j = some ⟨guardedP ts j (smallestP ts.length L j).s, 4, j⟩ := by unfold condP; rw [if_pos ⟨h1, h2, h3, h4, h5⟩]
theorem conds_any (W0 : World) (d : WalkD) (ts : List TermD) (hok : WalkOK W0 d ts) (hf : fitsB ts = true) (P base : Nat) (v : Value) (L : List PartD) (w : World) (hcan : ∀ p ∈ L, Canon p.s) (hlen : L.length ≤ 1000) (h : BldJ W0 d P base v L w) :
    Calls Tryz.prog 81 #[.pointer (some ⟨P, 0, none⟩)] w (BldPost W0 d P base v w (L ++ condsP ts L)) := by
  have HCAN := Lib.hid hcan
  have HJ := Lib.hid h
  have HF := Lib.hid hf
  have hbn : ts.length = d.bn := hok.1
  have hb2 : d.bn ≤ 200 := hok.2.1
  have HBN := Lib.hid hbn
  have HOK := Lib.hid (hok.ext h.ext)
  obtain ⟨a, c, hv⟩ := OwnR.form h.parts
  obtain ⟨n, hn⟩ : ∃ n, n = L.length := ⟨_, rfl⟩
  rw [← hn] at hv
  subst hv
  have HN := Lib.hid hn
  have hn1000 : n ≤ 1000 := by omega
  have hc3 : w.cell? ⟨P, 3, none⟩ = some (.slice d.fa d.bn d.fc) := by rw [cell_of_row _ _ _ _ _ _ h.bld]; rfl
  clear hcan h hf hok hlen hn
  clear hbn
  go_enter Tryz.func81, Tryz.ntmps81
  go_wp2
  clear hc3
  go_loopw [2, 13] (fun s2 s13 wr => ∃ j : Nat, j ≤ d.bn ∧ s13 = .int .i64 (j : Int) ∧ Hid (PartsIn wr w.heap.size s2 ((List.range j).filterMap (condP ts L))) ∧ Hid (Below w.heap.size w wr)) (fun _ s13 _ => d.bn - (intOf s13).toNat)
  case atStart => exact ⟨0, by omega, rfl, OwnR.nil _ _ _ _ _, Below.refl _ _⟩
  case round =>
    obtain ⟨j, hj, rfl, HM, HB⟩ := hrel;by_cases hlt : j < d.bn
    · have hlt' : (j : Int) < (d.bn : Int) := by omega
      have hj200 : j < 200 := by omega
      have hwk := HOK.out.ext HB.out;obtain ⟨fb, fo, ra, rc, hfa, hcr, hir⟩ := hwk.2.2.2.2.2 j (pv ts j) (by simp [fromRows, HBN.out, hlt]);have HWK := Lib.hid hwk;have HIR := Lib.hid hir;rw [hfa];obtain ⟨af, cf, hvf⟩ := OwnR.form HM.out;obtain ⟨m, hm⟩ : ∃ m, m = ((List.range j).filterMap (condP ts L)).length := ⟨_, rfl⟩
      rw [← hm] at hvf;subst hvf;have hm200 : m ≤ 200 := by have := conds_len ts L j; omega
      have HMM := Lib.hid hm;clear hwk hir hm hfa;go_upto_region 5 with (first
        | (refine wpList_store_row (o := ⟨none, .store 128 _ _, _, _, _, _⟩) rfl 128 _ _ rfl w4.heap.size (partC sm).toArray rfl rfl 128 Tryz.zeroCells128 (heap_alloc_new _ _) (size_partA _) (by rw [zero_part, List.size_toArray, partC_len]) (all_oneCell_toArray (partC_one _)) ?_)
        | (go_at_call 132
           refine (smallest_any P base a n c d L j wr (block_ext HB.out HJ.out.bld) (PartsIn.ext HJ.out.parts HB.out) (by omega) hj200 hb2).mono ?_;rintro e w4 ⟨rfl, hb4⟩;obtain ⟨sm, hsm⟩ : ∃ sm, sm = smallestP d.bn L j := ⟨_, rfl⟩
           rw [← hsm];have HSM := Lib.hid hsm;have HB4 := Lib.hid hb4;clear hsm hb4))
      obtain ⟨W5, hW5⟩ : ∃ W, W = (w4.alloc (.cells Tryz.zeroCells128 128)).setRow w4.heap.size (partC sm).toArray := ⟨_, rfl⟩
      rw [← hW5, put_none];have hp5 : W5.heap[w4.heap.size]? = some (partO sm) := by rw [hW5]; exact setRow_heap _ _ _ _ _ _ (heap_alloc_new _ _)
      have hb5 : Below wr.heap.size wr W5 := by rw [hW5]; exact below_setRow (ext_trans HB4.out (ext_alloc _ _)) HB4.out.size _
      have HP5 := Lib.hid hp5;have HB5 := Lib.hid hb5;have HNX : Hid (∀ w', Below wr.heap.size wr w' → condP ts L j = none → PartsIn w' w.heap.size (.slice af m cf) ((List.range (j + 1)).filterMap (condP ts L)) ∧ Below w.heap.size w w') := fun w' hb hc => by
        rw [conds_step, hc, List.append_nil];exact ⟨PartsIn.ext HM.out hb, ext_trans HB.out hb⟩
      clear hW5 hp5 hb5;generalize w4.heap.size = bp at *;by_cases hl1 : (pv ts j).length = 1
      rotate_left
      · have hd1 : (((pv ts j).length : Int) != 1) = true := by simp; omega
        have HCN := Lib.hid (cond_no1 (L := L) hl1);clear hl1;refine region_ext (by kernel_rfl) (by kernel_rfl) ?_
        repeat (first
          | go_big_quiet_skip
          | go_big_quiet_step (fail))
        refine wpQuiet_nil ?_;intro _ hw';obtain ⟨n', rfl⟩ := hw';have HNE := Lib.hid (HNX.out n'.val (ext_trans HB5.out n'.ext) (HCN.out));generalize n'.val = W9 at *;go_wp2
        go_roundw
        case rel => exact ⟨j + 1, by omega, by go_num, HNE.out.1, HNE.out.2⟩
        case measure => simp [intOf]; omega
      obtain ⟨y, hy⟩ : ∃ y, pv ts j = [y] := List.length_eq_one_iff.1 hl1;have hyn : y < d.bn := by
        have h1 : j ∈ nx ts y := (mem_pv ts j y).1 (by rw [hy]; simp);rw [← HBN.out];apply Classical.byContradiction;intro hge;rw [nx_none ts y (by omega)] at h1;cases h1
      obtain ⟨tb, to0, ra2, rc2, hta, hct, _⟩ := HWK.out.2.2.1.2.2 y (nx ts y) (by simp [toRows, HBN.out, hyn]);have hir := HIR.out;rw [hl1, hy] at hir;obtain ⟨b1, o1, rfl, hcy, _⟩ := hir.2.2 0 (by omega);have g1 : ∀ q : ExtW W5, q.val.cell? ⟨b1, o1, none⟩ = some (.int .i64 (y : Int)) := ExtW.cell (cell_ext HB5.out (by simpa [intsN] using hcy));have g2 : ∀ q : ExtW W5, q.val.cell? ⟨P, 2, none⟩ = some (.slice (some ⟨tb, to0, none⟩) d.bn d.tc) := ExtW.cell (by rw [← hta, cell_of_row _ _ _ _ _ _ (block_ext (ext_trans HB.out HB5.out) HJ.out.bld)]; rfl);have g3 : ∀ q : ExtW W5, q.val.cell? ⟨tb, to0 + y, none⟩ = some (.slice ra2 (nx ts y).length rc2) := ExtW.cell (cell_ext HB5.out hct);have g4 : ∀ q : ExtW W5, q.val.cell? ⟨bp, 200, none⟩ = some (.int .i64 sm.kind) := ExtW.cell (partK_cell HP5.out).1;have g5 : ∀ q : ExtW W5, q.val.cell? ⟨bp, 201, none⟩ = some (.int .i64 sm.entry) := ExtW.cell (partK_cell HP5.out).2;have hyn' : (y : Int) < (d.bn : Int) := by omega
      have HY := Lib.hid hy;have HL1 := Lib.hid hl1;have HSM2 : Hid (sm = smallestP ts.length L j) := by rw [Hid, HBN.out]; exact HSM.out
      rw [hl1];clear hir hcy hct hta hy hl1 HIR HSM;by_cases hl2 : (nx ts y).length = 2
      rotate_left
      · have hd2 : (((nx ts y).length : Int) != 2) = true := by simp; omega
        have HCN : Hid (condP ts L j = none) := cond_no2 (by rw [HY.out]; exact hl2);clear hl2;refine region_ext (by kernel_rfl) (by kernel_rfl) ?_
        repeat (first
          | go_big_quiet_skip
          | go_big_quiet_step (fail))
        refine wpQuiet_nil ?_;intro _ hw';obtain ⟨n', rfl⟩ := hw';have HNE := Lib.hid (HNX.out n'.val (ext_trans HB5.out n'.ext) (HCN.out));generalize n'.val = W9 at *;go_wp2
        go_roundw
        case rel => exact ⟨j + 1, by omega, by go_num, HNE.out.1, HNE.out.2⟩
        case measure => simp [intOf]; omega
      have HL2 := Lib.hid hl2;rw [hl2] at g3;clear hl2;by_cases hkd : sm.kind = 3
      · have HCN : Hid (condP ts L j = none) := cond_no3 (by rw [← HSM2.out]; exact hkd);rw [hkd] at g4;clear hkd;refine region_ext (by kernel_rfl) (by kernel_rfl) ?_
        repeat (first
          | go_big_quiet_skip
          | go_big_quiet_step (fail))
        refine wpQuiet_nil ?_;intro _ hw';obtain ⟨n', rfl⟩ := hw';have HNE := Lib.hid (HNX.out n'.val (ext_trans HB5.out n'.ext) (HCN.out));generalize n'.val = W9 at *;go_wp2
        go_roundw
        case rel => exact ⟨j + 1, by omega, by go_num, HNE.out.1, HNE.out.2⟩
        case measure => simp [intOf]; omega
      have HKD := Lib.hid hkd;have hd3 : (sm.kind == 3) = false := by simpa using hkd
      clear hkd;by_cases hen : sm.entry = (j : Int)
      · have HCN : Hid (condP ts L j = none) := cond_no4 (by rw [← HSM2.out]; exact hen);rw [hen] at g5;clear hen;refine region_ext (by kernel_rfl) (by kernel_rfl) ?_
        repeat (first
          | go_big_quiet_skip
          | go_big_quiet_step (fail))
        refine wpQuiet_nil ?_;intro _ hw';obtain ⟨n', rfl⟩ := hw';have HNE := Lib.hid (HNX.out n'.val (ext_trans HB5.out n'.ext) (HCN.out));generalize n'.val = W9 at *;go_wp2
        go_roundw
        case rel => exact ⟨j + 1, by omega, by go_num, HNE.out.1, HNE.out.2⟩
        case measure => simp [intOf]; omega
      have HEN := Lib.hid hen;have hd4 : (sm.entry == (j : Int)) = false := by simpa using hen
      clear hen;refine region_ext (by kernel_rfl) (by kernel_rfl) ?_
      repeat (first
        | go_big_quiet_skip
        | go_big_quiet_step (fail))
      refine wpQuiet_nil ?_;intro _ hw';obtain ⟨n', rfl⟩ := hw';have hp6 := block_ext n'.ext HP5.out;have HB6 := Lib.hid (ext_trans HB5.out n'.ext);clear g1 g2 g3 g4 g5;generalize n'.val = W6 at *;have h1 := part_set0 hp6;have HCS : Hid (Canon sm.s) := by rw [Hid, HSM2.out, HBN.out]; exact small_canon hb2 j L HCAN.out
      obtain ⟨gs, hgs⟩ : ∃ f, f = guardedP ts j sm.s := ⟨_, rfl⟩
      have HGS := Lib.hid hgs;clear hgs;go_upto_region 7 with (first
        | (refine wpList_load_mid (op := ⟨some 52, .load 124 _, _, _, _, _⟩) rfl 124 _ rfl bp 0 rfl (setA sm.s).toList _ h1 Tryz.underlying124 rfl (by rw [Array.length_toList, setA_size]; exact size_set) ?_)
        | (refine wpList_store_row (o := ⟨none, .store 124 _ _, _, _, _, _⟩) rfl 124 _ _ rfl w7.heap.size (setA gs) rfl rfl 124 Tryz.zeroCells124 (heap_alloc_new _ _) (by rw [setA_size]; exact size_set) (by rw [setA_size]; kernel_rfl) (setA_all _) ?_)
        | (go_at_call 133
           refine (guarded_any P d ts (.slice a n c) j sm.s W6 (block_ext (ext_trans HB.out HB6.out) HJ.out.bld) (HWK.out.ext HB6.out) HF.out hj200 HCS.out).mono ?_;rintro e w7 ⟨rfl, hb7⟩;rw [← HGS.out];have HB7 := Lib.hid (ext_trans HB6.out hb7);clear hb7))
      obtain ⟨W8, hW8⟩ : ∃ W, W = (w7.alloc (.cells Tryz.zeroCells124 124)).setRow w7.heap.size (setA gs) := ⟨_, rfl⟩
      rw [← hW8, put_none];have hs8 : W8.heap[w7.heap.size]? = some (setO gs) := by rw [hW8]; exact setRow_heap _ _ _ _ _ _ (heap_alloc_new _ _)
      have hb8 : Below wr.heap.size wr W8 := by rw [hW8]; exact below_setRow (ext_trans HB7.out (ext_alloc _ _)) HB7.out.size _
      have HS8 := Lib.hid hs8;have HB8 := Lib.hid hb8;clear hW8 hs8 hb8;generalize w7.heap.size = gb at *
      go_upto_if 56 with (first
        | (refine wpList_load_row (o := ⟨some 54, .load 124 _, _, _, _, _⟩) rfl 124 _ rfl gb rfl 124 (setA gs) (0, 0) _ HS8.out Tryz.underlying124 rfl (by rw [setA_size]; exact size_set) ?_)
        | (go_at_call 134
           refine (many_any gs W8).mono ?_;rintro e w9 ⟨rfl, hb9⟩;have HB9 := Lib.hid (ext_trans HB8.out hb9);have HS9 := Lib.hid (block_ext hb9 HS8.out);clear hb9))
      by_cases hmn : 1 < (listS gs).length
      · have hmn' : (1 : Int) < ((listS gs).length : Int) := by omega
        have hmn2 : decide (((listS gs).length : Int) > 1) = true := decide_eq_true hmn';have HCN : Hid (condP ts L j = some ⟨gs, 4, (j : Int)⟩) := by
          have := cond_yes (ts := ts) (L := L) (j := j) (by rw [HY.out]; rfl) (by rw [HY.out]; exact HL2.out) (by rw [← HSM2.out]; exact HKD.out) (by rw [← HSM2.out]; exact HEN.out) (by rw [← HSM2.out, ← HGS.out]; exact hmn);rw [← HSM2.out, ← HGS.out] at this;exact this
        have HOWN9 := Lib.hid (PartsIn.ext HM.out HB9.out);clear hmn;have hbs9 : w.heap.size ≤ w9.heap.size := Nat.le_trans HB.out.size HB9.out.size
        go_wp2_with (first
          | (refine wpList_load_row (o := ⟨some 58, .load 124 _, _, _, _, _⟩) rfl 124 _ rfl gb rfl 124 (setA gs) (0, 0) _ HS9.out Tryz.underlying124 rfl (by rw [setA_size]; exact size_set) ?_)
          | (refine wpList_part (o := ⟨some 60, .build 128 _, _, _, _, _⟩) rfl _ _ _ gs 4 (j : Int) rfl rfl rfl rfl ?_)
          | (refine wpList_rowPart (o := ⟨some 61, .buildSlice 120 _ _, _, _, _, _⟩) rfl _ ⟨gs, 4, (j : Int)⟩ rfl rfl ?_)
          | (refine wpList_append1 (o := ⟨some 62, .call _, _, _, _, _⟩) rfl w9 (.tmp 57) (.tmp 61) 120 128 rfl w.heap.size _ 202 216 Tryz.underlying120 infoPart (by kernel_rfl) (by omega) (.slice af m cf) m _ (partC ⟨gs, 4, (j : Int)⟩) rfl (by rw [HMM.out]; have := HOWN9.out.1; rw [← HMM.out] at this ⊢; exact this) w9.heap.size rfl rfl (partC_len _) (partC_one _) (by simp only [maxLen]; omega) (by omega) hbs9 ?_
             intro g cap w10 hown10 hg10 hat10;have HO10 := Lib.hid hown10;have HG10 := Lib.hid hg10;clear hown10 hg10 hat10))
        go_roundw
        case rel =>
          refine ⟨j + 1, by omega, by go_num, ?_, ?_⟩
          · rw [conds_step, HCN.out];refine ⟨?_, ?_⟩
            · rw [List.length_append, List.flatMap_append, ← HMM.out];simpa using HO10.out
            · have := HMM.out;simp;omega
          · exact (ext_trans HB.out HB9.out).grown HG10.out hbs9 (fun q e => (OwnR.low HM.out e).1)
        case measure => simp [intOf]; omega
      · have hmn' : ¬ (1 : Int) < ((listS gs).length : Int) := by omega
        have hmn2 : decide (((listS gs).length : Int) > 1) = false := decide_eq_false hmn';have HCN : Hid (condP ts L j = none) := cond_no5 (by rw [← HSM2.out, ← HGS.out]; exact hmn);have HNE := Lib.hid (HNX.out w9 HB9.out HCN.out);clear hmn;go_wp2
        go_roundw
        case rel => exact ⟨j + 1, by omega, by go_num, HNE.out.1, HNE.out.2⟩
        case measure => simp [intOf]; omega
    · have hje : j = d.bn := by omega
      have hlt' : ¬ (j : Int) < (d.bn : Int) := by omega
      have hM := HM.out;rw [hje, ← HBN.out] at hM;obtain ⟨M, hMM⟩ : ∃ M, M = condsP ts L := ⟨_, rfl⟩
      have hM2 : PartsIn wr w.heap.size u2 M := by rw [hMM]; exact hM
      obtain ⟨af, cf, hvf⟩ := OwnR.form hM2;obtain ⟨m, hm⟩ : ∃ m, m = M.length := ⟨_, rfl⟩
      rw [← hm] at hvf;subst hvf;have hm200 : m ≤ 200 := by
        have := conds_len ts L ts.length;rw [hm, hMM, condsP];rw [HBN.out] at this ⊢;omega
      have HM2 := Lib.hid hM2;have HMM := Lib.hid hMM;have HMl := Lib.hid hm;have hJ := HJ.out.ext' HB.out;have HJ9 := Lib.hid hJ;have hc4 := hJ.cell;have hbs := hJ.bs;clear hM hMM hM2 hm hJ HM
      go_wp2_with (
        (refine wpList_appendR wr rfl (.tmp 68) (.tmp 69) 120 128 rfl base _ 202 216 Tryz.underlying120 infoPart (by kernel_rfl) (by omega) (.slice a n c) n _ rfl (by have := HJ9.out.parts.1; rw [← HN.out] at this; exact this) af m cf rfl (M.flatMap partC) (by rw [HMl.out]; exact flatMap_len partC 202 partC_len M) (Recs.news (OwnR.recs partC_len HM2.out) partC_len (by omega)) (fun u hu => by obtain ⟨p, _, hp⟩ := List.mem_flatMap.1 hu; exact partC_one p u hp) (by simp only [maxLen]; omega) (by omega) hbs ?_
         intro v' w3 hown3 hg3 hat3;obtain ⟨a', c', rfl⟩ := own_form2 hown3;have hP3 : w3.heap[P]? = some (bldO d (.slice a n c)) := grown_row hg3 HJ9.out.bld (own_other HJ9.out.parts.1 HJ9.out.bld (by decide));have hf3 : w3.frozen? ⟨P, 4, none⟩ = false := frozen_of_row _ _ _ _ _ hP3;have hl3 := lt_of_heap hP3;have hc3 : w3.cell? ⟨P, 4, none⟩ = some (.slice a n c) := (by rw [cell_of_row _ _ _ _ _ _ hP3]; rfl)
         have happ := HJ9.out.app (M := M) hg3 (by rw [← HN.out, ← HMl.out]; exact hown3) (by rw [← HN.out, ← HMl.out]; omega);have HAPP := Lib.hid happ;have HAT := Lib.hid hat3;clear hown3 hg3 hat3 happ hP3 hc4))
      go_end0
      refine ⟨rfl, _, by rw [← HMM.out]; exact HAPP.out.1, ((chg_below HB.out).mono (fun _ h => h.elim)).then HAPP.out.2 (fun q hq => .inl hq), fun q hq => ?_⟩;rcases HAT.out with h | h
      · exact .inl (by rw [← h]; exact hq)
      · rw [h] at hq;injection hq with hq;exact .inr (by have := HB.out.size; omega)
end

section
open Go.RowKit
section
variable {P : Program} {l : List Oper} {S S' : World → Prop} {Q : Exit → Act → World → Prop}
theorem z_mono (h : ∀ w, S' w → S w) : ∀ {fuel : Nat} {listed : Array Bool} {a : Act} {w : World}, wpAnyZ P l Q S' fuel listed a w → wpAnyZ P l Q S fuel listed a w
  | 0, _, _, _, hz => hz
  | _ + 1, _, _, _, hz => ⟨hz.1, fun i hi => wpOp_mono (fun _ _ h' => ⟨h'.1.imp id (h _), z_mono h h'.2⟩) (hz.2 i hi)⟩
theorem z_later {W W' : World} (h : Below W.heap.size W W') {fuel : Nat} {listed : Array Bool} {a : Act} {w : World} (hz : wpAnyZ P l Q (fun w' => ∃ n : ExtW W', w' = n.val) fuel listed a w) : wpAnyZ P l Q (fun w' => ∃ n : ExtW W, w' = n.val) fuel listed a w :=
  z_mono (fun _ hn => by obtain ⟨n, rfl⟩ := hn; exact ⟨⟨n.val, ext_trans h n.ext⟩, rfl⟩) hz
end
end

section
open Go.RowKit Go.Shelf
def cfP (L : List PartD) (p q : PartD) : Int := orV [cmpV (aroundP L p : Int) (aroundP L q : Int), cmpV (firstP p : Int) (firstP q : Int)]
def keyP (L : List PartD) (p : PartD) : Nat := 300 * aroundP L p + firstP p
theorem cf_less (L : List PartD) (p q : PartD) (hp : firstP p < 300) (hq : firstP q < 300) : cfP L p q < 0 ↔ keyP L p < keyP L q := by
  rw [cfP, or_cmp, keyP, keyP]
  omega
theorem cmpV_i64 (x y : Int) : I64 (cmpV x y) := by
  unfold cmpV I64
  split
  · omega
  · split <;> omega
theorem own_head {w : World} {base : Nat} {v : Value} {l : List Nat} (h : OwnI w base v (intsN l)) (hl : l ≠ []) : ∃ g n c, v = .slice (some ⟨g, 0, none⟩) n c ∧ 0 < n ∧ w.cell? ⟨g, 0, none⟩ = some (.int .i64 ((l.headD 0 : Nat) : Int)) := by
  cases l with
  | nil => exact absurd rfl hl
  | cons x l =>
    rcases h.1.2 with ⟨_, h0⟩ | ⟨g, cap, cur, hv, _, hg, hc1, _, hcs, htk⟩
    · simp [intsN] at h0
    · refine ⟨g, _, cap, hv, by simp [intsN], ?_⟩;rw [cell_of_row _ _ _ _ _ _ hg];have : (cur.toList.take ((intsN (x :: l)).length * 1))[0]? = some (.int .i64 (x : Int)) := by rw [htk]; rfl
      rw [List.getElem?_take] at this;simpa [intsN] using this
theorem cmp_any (P base bv : Nat) (a : Option Addr) (n c : Nat) (d : WalkD) (L : List PartD) (p q : PartD) (w : World) (hV : w.heap[bv]? = some (.cells #[.pointer (some ⟨P, 0, none⟩)] 119 (0, 0))) (hB : w.heap[P]? = some (bldO d (.slice a n c))) (hL : PartsIn w base (.slice a n c) L) (hn : n ≤ 1000000) (hp : listS p.s ≠ []) (hq : listS q.s ≠ []) :
    Calls Tryz.prog 83 (#[partV p, partV q] ++ #[.pointer (some ⟨bv, 0, none⟩)]) w fun e w' => e = .returned (.int .i64 (cfP L p q)) ∧ Below w.heap.size w w' := by
  have HBL := Lib.hid hB
  have HL := Lib.hid hL
  have HP := Lib.hid hp
  have HQ := Lib.hid hq
  have HV := Lib.hid hV
  clear hB hL hp hq hV
  go_enter Tryz.func83, Tryz.ntmps83
  go_upto_region 1 with (fail)
  obtain ⟨W, hW⟩ : ∃ W, W = (w.alloc (partO p)).alloc (partO q) := ⟨_, rfl⟩
  rw [← hW]
  have hb : Below w.heap.size w W := by rw [hW]; exact ext_trans (ext_alloc _ _) (ext_alloc _ _)
  have h3 : W.heap[w.heap.size]? = some (partO p) := by rw [hW]; exact block_ext (ext_alloc _ _) (heap_alloc_new _ _)
  have h4 : W.heap[w.heap.size + 1]? = some (partO q) := by rw [hW]; exact heap_at _ _ _ (by simp)
  have HB := Lib.hid hb
  have HBW := Lib.hid (block_ext hb HBL.out)
  have HLW : Hid (PartsIn W base (.slice a n c) L) := PartsIn.ext HL.out hb
  have g0 : ∀ n : ExtW W, n.val.cell? ⟨bv, 0, none⟩ = some (.pointer (some ⟨P, 0, none⟩)) := ExtW.cell (by rw [cell_of_row _ _ _ _ _ _ (block_ext hb HV.out)]; rfl)
  have g3 : ∀ w', (∃ n : ExtW W, w' = n.val) → w'.heap[w.heap.size]? = some (partO p) := fun w' ⟨n, e⟩ => by rw [e]; exact block_ext n.ext h3
  have g4 : ∀ w', (∃ n : ExtW W, w' = n.val) → w'.heap[w.heap.size + 1]? = some (partO q) := fun w' ⟨n, e⟩ => by rw [e]; exact block_ext n.ext h4
  have s3 : ∀ w', (∃ n : ExtW W, w' = n.val) → w'.rangeAt w.heap.size 0 (setA p.s).toList := fun w' h => part_set0 (g3 w' h)
  have s4 : ∀ w', (∃ n : ExtW W, w' = n.val) → w'.rangeAt (w.heap.size + 1) 0 (setA q.s).toList := fun w' h => part_set0 (g4 w' h)
  clear hW hb h3 h4 HBL HL HV
  refine z_start (fun w' => ∃ n : ExtW W, w' = n.val) (by kernel_rfl) ?_
  obtain ⟨v0, F0, hv0⟩ : ∃ v0, Below W.heap.size W v0 ∧ W.drew = v0 := ⟨_, ext_drewN (Below.refl _ _) 1, rfl⟩
  rw [hv0]
  clear hv0
  refine z_reads 0 2 (by kernel_rfl) ⟨⟨_, F0⟩, rfl⟩ ?_
  simp only [List.take_succ_cons, List.take_zero, List.drop_succ_cons, List.drop_zero]
  repeat (first
    | (refine wpQuiet_load_row (o := ⟨some 7, .load 128 _, _, _, _, _⟩) (by rfl) 128 _ rfl w.heap.size rfl 128 (partC p).toArray (0, 0) _ g3 Tryz.underlying128 rfl (size_partA _) ?_; simp only [zJ,zG,zH,zI])
    | go_big_quiet_step (fail))
  refine wpQuiet_nil ?_
  refine z_reads 3 2 (by kernel_rfl) ⟨⟨_, F0⟩, rfl⟩ ?_
  simp only [List.take_succ_cons, List.take_zero, List.drop_succ_cons, List.drop_zero]
  repeat (first
    | (refine wpQuiet_load_row (o := ⟨some 10, .load 128 _, _, _, _, _⟩) (by rfl) 128 _ rfl (w.heap.size + 1) rfl 128 (partC q).toArray (0, 0) _ g4 Tryz.underlying128 rfl (size_partA _) ?_; simp only [zJ,zG,zH,zI])
    | go_big_quiet_step (fail))
  refine wpQuiet_nil ?_
  refine z_reads 7 2 (by kernel_rfl) ⟨⟨_, F0⟩, rfl⟩ ?_
  simp only [List.take_succ_cons, List.take_zero, List.drop_succ_cons, List.drop_zero]
  repeat (first
    | (refine wpQuiet_load_mid (o := ⟨some 14, .load 124 _, _, _, _, _⟩) (by rfl) 124 _ rfl w.heap.size 0 rfl (setA p.s).toList _ s3 Tryz.underlying124 rfl (by rw [Array.length_toList, setA_size]; exact size_set) ?_; simp only [zJ,zG,zH,zI])
    | go_big_quiet_step (fail))
  refine wpQuiet_nil ?_
  refine z_reads 12 2 (by kernel_rfl) ⟨⟨_, F0⟩, rfl⟩ ?_
  simp only [List.take_succ_cons, List.take_zero, List.drop_succ_cons, List.drop_zero]
  repeat (first
    | (refine wpQuiet_load_mid (o := ⟨some 19, .load 124 _, _, _, _, _⟩) (by rfl) 124 _ rfl (w.heap.size + 1) 0 rfl (setA q.s).toList _ s4 Tryz.underlying124 rfl (by rw [Array.length_toList, setA_size]; exact size_set) ?_; simp only [zJ,zG,zH,zI])
    | go_big_quiet_step (fail))
  refine wpQuiet_nil ?_
  clear g0 g3 g4 s3 s4
  refine z_one 2 (by kernel_rfl) ?_
  refine wpOp_at rfl rfl ?_
  go_simp
  refine (around_any P base a n c d L p v0 (block_ext F0 HBW.out) (PartsIn.ext HLW.out F0) hn).mono ?_
  rintro e v1 ⟨rfl, hb⟩
  have F1 := ext_trans F0 hb
  clear hb
  refine ⟨Or.inr ⟨⟨_, F1⟩, rfl⟩, ?_⟩
  refine z_one 5 (by kernel_rfl) ?_
  refine wpOp_at rfl rfl ?_
  go_simp
  refine (around_any P base a n c d L q v1 (block_ext F1 HBW.out) (PartsIn.ext HLW.out F1) hn).mono ?_
  rintro e v2 ⟨rfl, hb⟩
  have F2 := ext_trans F1 hb
  clear hb F0 F1
  refine ⟨Or.inr ⟨⟨_, F2⟩, rfl⟩, ?_⟩
  refine z_one 6 (by kernel_rfl) ?_
  refine wpOp_at rfl rfl ?_
  go_simp
  refine (compare_any _ _ v2).mono ?_
  rintro e v3 ⟨rfl, rfl⟩
  refine ⟨Or.inr ⟨⟨_, F2⟩, rfl⟩, ?_⟩
  refine z_one 9 (by kernel_rfl) ?_
  refine wpOp_at rfl rfl ?_
  go_simp
  refine (list_any p.s v2).mono ?_
  rintro e v4 ⟨vl, rfl, ho, hb⟩
  have F4 := ext_trans F2 hb
  obtain ⟨g5, n5, c5, rfl, hn5, hcell⟩ := own_head ho HP.out
  have hn5' : (0 : Int) < (n5 : Int) := by omega
  obtain ⟨y1, hy1⟩ : ∃ y, y = (listS p.s).headD 0 := ⟨_, rfl⟩
  rw [← hy1] at hcell
  have HY1 := Lib.hid hy1
  clear hy1
  refine ⟨Or.inr ⟨⟨_, F4⟩, rfl⟩, ?_⟩
  clear ho hb
  refine z_later F4 ?_
  have g5' : ∀ n : ExtW v4, n.val.cell? ⟨g5, 0, none⟩ = some (.int .i64 (y1 : Int)) := ExtW.cell hcell
  refine z_reads 10 2 (by kernel_rfl) ⟨⟨_, Below.refl _ _⟩, rfl⟩ ?_
  simp only [List.take_succ_cons, List.take_zero, List.drop_succ_cons, List.drop_zero]
  repeat (go_big_quiet_step (fail))
  refine wpQuiet_nil ?_
  clear g5' hcell hn5'
  refine z_one 14 (by kernel_rfl) ?_
  refine wpOp_at rfl rfl ?_
  go_simp
  refine (list_any q.s v4).mono ?_
  rintro e v5 ⟨vl, rfl, ho, hb⟩
  obtain ⟨g6, n6, c6, rfl, hn6, hcell⟩ := own_head ho HQ.out
  have hn6' : (0 : Int) < (n6 : Int) := by omega
  obtain ⟨y2, hy2⟩ : ∃ y, y = (listS q.s).headD 0 := ⟨_, rfl⟩
  rw [← hy2] at hcell
  have HY2 := Lib.hid hy2
  clear hy2
  refine ⟨Or.inr ⟨⟨_, hb⟩, rfl⟩, ?_⟩
  have F5 := ext_trans F4 hb
  refine z_later hb ?_
  clear ho hb
  have g6' : ∀ n : ExtW v5, n.val.cell? ⟨g6, 0, none⟩ = some (.int .i64 (y2 : Int)) := ExtW.cell hcell
  refine z_reads 15 2 (by kernel_rfl) ⟨⟨_, Below.refl _ _⟩, rfl⟩ ?_
  simp only [List.take_succ_cons, List.take_zero, List.drop_succ_cons, List.drop_zero]
  repeat (go_big_quiet_step (fail))
  refine wpQuiet_nil ?_
  clear g6' hcell hn6'
  refine z_one 17 (by kernel_rfl) ?_
  refine wpOp_at rfl rfl ?_
  go_simp
  refine (compare_any _ _ v5).mono ?_
  rintro e v6 ⟨rfl, rfl⟩
  refine ⟨Or.inr ⟨⟨_, Below.refl _ _⟩, rfl⟩, ?_⟩
  refine z_one 18 (by kernel_rfl) ?_
  refine wpOp_at rfl rfl ?_
  go_simp
  obtain ⟨x1, hx1⟩ : ∃ x, x = cmpV (aroundP L p : Int) (aroundP L q : Int) := ⟨_, rfl⟩
  obtain ⟨x2, hx2⟩ : ∃ x, x = cmpV (y1 : Int) (y2 : Int) := ⟨_, rfl⟩
  rw [← hx1, ← hx2]
  have hi1 : I64 x1 := by rw [hx1]; exact cmpV_i64 _ _
  have hi2 : I64 x2 := by rw [hx2]; exact cmpV_i64 _ _
  have HX : Hid (orV [x1, x2] = cfP L p q) := by rw [Hid, hx1, hx2, HY1.out, HY2.out]; rfl
  have hI := (ownI_lit (W := v5) (xs := [x1, x2]) rfl 0 (Nat.zero_le _) (fun x hx => by simp at hx; rcases hx with rfl | rfl <;> assumption) (by simp)).ints
  have HI : Hid (Ints (v5.alloc (.cells #[.int .i64 x1, .int .i64 x2] 3)) (some ⟨v5.heap.size, 0, none⟩) 2 [x1, x2]) := hI
  have F6 : Below v5.heap.size v5 (v5.alloc (.cells #[.int .i64 x1, .int .i64 x2] 3)) := ext_alloc _ _
  clear hx1 hx2 hi1 hi2 hI
  refine ⟨Or.inr ⟨⟨_, F6⟩, rfl⟩, ?_⟩
  refine z_one 19 (by kernel_rfl) ?_
  refine wpOp_at rfl rfl ?_
  go_simp
  refine (cmpOr_any _ 2 2 [x1, x2] _ HI.out).mono ?_
  rintro e v7 ⟨rfl, rfl⟩
  rw [HX.out]
  have HF := Lib.hid (ext_trans HB.out (ext_trans F5 F6))
  refine ⟨Or.inr ⟨⟨_, F6⟩, rfl⟩, ?_⟩
  refine z_reads 20 1 (by kernel_rfl) ⟨⟨_, F6⟩, rfl⟩ ?_
  simp only [List.take_succ_cons, List.take_zero, List.drop_succ_cons, List.drop_zero]
  repeat (go_big_quiet_step (fail))
  refine wpQuiet_nil ?_
  refine z_done (by kernel_rfl) ?_
  go_wp2
  go_ret
  exact ⟨rfl, HF.out⟩
end

section
open Go.RowKit Go.Shelf
attribute [local go_sem] Oper.semAt_some wide_fn wide_depth wide_fnR wide_depthR
theorem each_iterC (f : Nat → Bool) (G S : Nat) : IterI Tryz.prog 139 #[.pointer (some ⟨G, 0, none⟩)] encN (listS f) (fun W => W.cell? ⟨G, 0, none⟩ = some (.pointer (some ⟨S, 0, none⟩)) ∧ ∀ k, k < 200 → W.cell? ⟨S, k, none⟩ = some (.bool (f k))) := by
  intro l K Kx W hK hKx hInv hY h0
  refine callsIn_of_wp Tryz.func139 rfl trivial ?_ rfl
  simp only [Tryz.ntmps139, List.size_toArray, List.length_cons, List.length_nil, Nat.reduceAdd, Nat.reduceSub, Array.replicate_succ, Array.replicate_zero, List.push_toArray, List.append_toArray, List.nil_append, List.cons_append]
  have HY := Lib.hid hY
  have HI := Lib.hid hInv
  have HK0 := Lib.hid hK
  have H0 : Hid (K (restL f 0) W) := by rw [Hid, restL_zero]; exact h0
  have hg0 : W.cell? ⟨G, 0, none⟩ = some (.pointer (some ⟨S, 0, none⟩)) := (hInv _ _ h0).1
  clear hY hInv hK hKx h0
  gi_wp2
  gi_loopw [6] (fun i wr => ∃ k : Nat, i = .int .i64 k ∧ k ≤ 200 ∧ Hid (K (restL f k) wr)) (fun i _ => 200 - (intOf i).toNat)
  case atStart => exact ⟨0, rfl, by omega, H0.out⟩
  case round =>
    obtain ⟨k, rfl, hk, HK⟩ := hrel;clear hg0;have hSr := (HI.out _ _ HK.out).2;have hn : ∀ q, (wr.drewN q).cell? ⟨S, 0, none⟩ = some (.bool (f 0)) := fun q => hSr 0 (by omega);have hne : wr.cell? ⟨S, 0, none⟩ = some (.bool (f 0)) := hn 0;by_cases hlt : k < 200
    · have hc : wr.cell? ⟨S, k, none⟩ = some (.bool (f k)) := hSr k hlt;have HST := Lib.hid (restL_step f k hlt);have hlt' : (k : Int) < 200 := by omega
      clear hSr hn;by_cases hf : f k = true
      · rw [hf] at hc;have HR : Hid (restL f k = k :: restL f (k + 1)) := by rw [Hid, HST.out, if_pos hf]
        clear hf HST
        gi_wp2
        refine wide_quiet_lit (by kernel_rfl) (by kernel_rfl) ?_
        repeat (go_big_quiet_step (fail))
        refine wpQuiet_nil ?_;rintro _ ⟨nq, rfl⟩;have HKq : Hid (K (restL f k) (wr.drewN nq)) := HK0.out _ _ _ HK.out (ext_drewN (Below.refl _ _) nq);obtain ⟨fn, tmps, assign, body, hy, hR⟩ := HY.out (restL f k) k (wr.drewN nq) (by rw [HR.out]; rfl) HKq.out;unfold encN at hy;have hT : nxL (restL f k) k = restL f (k + 1) := by rw [HR.out]; rfl
        rw [hT] at hR;have HR2 := Lib.hid hR;clear hT hR HKq
        gi_wp2
        refine HR2.out.mono ?_;rintro e W' (⟨rfl, hJ'⟩ | ⟨rfl, hX'⟩)
        · have HK1 := Lib.hid hJ';clear hJ' hy HR2
          gi_wp2
          go_roundw
          case rel => exact ⟨k + 1, by go_num, by omega, HK1.out⟩
          case measure => simp [intOf]; omega
        · have HX := Lib.hid hX';clear hX' hy HR2
          gi_wp2
          exact bodyPost_ret (v := .tuple #[]) (by simp [results, Tryz.results139, go_sem]) rfl ⟨⟨_, rfl⟩, Or.inr HX.out⟩
      · have hf' : f k = false := by simpa using hf
        rw [hf'] at hc;have HR : Hid (restL f k = restL f (k + 1)) := by rw [Hid, HST.out, if_neg hf]
        clear hf hf' HST
        gi_wp2
        refine wide_quiet_lit (by kernel_rfl) (by kernel_rfl) ?_
        repeat (go_big_quiet_step (fail))
        refine wpQuiet_nil ?_;rintro _ ⟨nq, rfl⟩;have HKq : Hid (K (restL f (k + 1)) (wr.drewN nq)) := by rw [← HR.out]; exact HK0.out _ _ _ HK.out (ext_drewN (Below.refl _ _) nq)
        gi_wp2
        go_roundw
        case rel => exact ⟨k + 1, by go_num, by omega, HKq.out⟩
        case measure => simp [intOf]; omega
    · obtain rfl : k = 200 := by omega
      clear hSr hn
      gi_wp2
      go_end0
      exact ⟨⟨_, rfl⟩, Or.inl ⟨_, restL_end f, HK.out⟩⟩
abbrev bsV (t : TileR) : Value := .slice t.ba t.bn t.bc
structure TilesIn (W : World) (base : Nat) (v : Value) (ls : List TileR) : Prop where
  own : OwnR 76 3 tileC W base v ls
  each : ∀ t ∈ ls, OwnI W base (bsV t) t.d.blocks ∧ I64 t.d.kind ∧ I64 t.d.parent
  sepv : ∀ t ∈ ls, Sep (bsV t) v
  pw : ls.Pairwise fun s t => Sep (bsV s) (bsV t)
section
variable {W W' W3 : World} {base base' : Nat} {v : Value} {ls : List TileR}
theorem TilesIn.grown {row : Option Nat} (h : TilesIn W base v ls) (hg : W.grownBy W' row) (hr : ∀ q, row = some q → q < base ∨ W.heap.size ≤ q) : TilesIn W' base v ls where
  own := h.own.kept hg (by
    cases e : v.ownBlock with
    | none => exact .inl rfl
    | some q => exact .inr fun e2 => by have := h.own.low e; have := hr q e2.symm; omega)
  each := fun t ht => ⟨(h.each t ht).1.kept hg (by
    cases e : (bsV t).ownBlock with
    | none => exact .inl rfl
    | some q => exact .inr fun e2 => by have := (h.each t ht).1.1.lt q e; have := hr q e2.symm; omega), (h.each t ht).2⟩
  sepv := h.sepv
  pw := h.pw
theorem TilesIn.ext (h : TilesIn W base v ls) (hb : Below W.heap.size W W') : TilesIn W' base v ls :=
  h.grown (row := none) ⟨hb.os, hb.tape, hb.output, hb.size, fun k hk _ => hb.block k hk⟩ fun q e => by cases e
theorem TilesIn.mono (h : TilesIn W base v ls) (hb : base' ≤ base) : TilesIn W base' v ls := ⟨h.own.mono hb, fun t ht => ⟨(h.each t ht).1.mono hb, (h.each t ht).2⟩, h.sepv, h.pw⟩
theorem TilesIn.steady {D : Nat} : Steady D (fun W => TilesIn W base v ls) := fun W W' row h hg hr =>
  ⟨(Steady.ownR D base v ls) W W' row h.own hg hr, fun t ht => ⟨(Steady.ownI D base (bsV t) t.d.blocks) W W' row (h.each t ht).1 hg hr, (h.each t ht).2⟩, h.sepv, h.pw⟩
theorem own_le {w : World} {base : Nat} {a : Option Addr} {n c : Nat} {xs : List Int} (h : OwnI w base (.slice a n c) xs) : n ≤ c := by
  rcases h.1.2 with ⟨e, _⟩ | ⟨g, cap, cur, e, _, _, hc, _⟩
  · injection e with _ e1 e2; omega
  · injection e with _ e1 e2; omega
theorem TilesIn.ok {a : Option Addr} {n c : Nat} (h : TilesIn W base (.slice a n c) ls) : TilesOK W a n ls :=
  ⟨h.own.recs tileC_len, fun t ht => ⟨(h.each t ht).1.ints, own_le (h.each t ht).1, (h.each t ht).2⟩⟩
theorem tiles_one (W : World) (B : Nat) (t : TileR) (h : W.heap[B]? = some (.cells (tileC t).toArray 76 (0, 0))) (base : Nat) (hb : base ≤ B) (ho : OwnI W base (bsV t) t.d.blocks) (hk : I64 t.d.kind ∧ I64 t.d.parent) (hn : (bsV t).ownBlock ≠ some B) : TilesIn W base (.slice (some ⟨B, 0, none⟩) 1 1) [t] where
  own := by
    refine ⟨⟨by simp [tileC], .inr ⟨B, 1, (tileC t).toArray, rfl, hb, h, by simp, by simp [maxLen], by simp [tileC], ?_⟩⟩, by simp⟩;simp [tileC]
  each := fun s hs => by
    have : s = t := by simpa using hs
    subst this;exact ⟨ho, hk⟩
  sepv := fun s hs g hg e => by
    have : s = t := by simpa using hs
    subst this;simp only [Value.ownBlock, Option.some.injEq] at e;subst e;exact hn hg
  pw := List.pairwise_singleton _ _
theorem TilesIn.add {v' : Value} (h : TilesIn W base v ls) (x : TileR) (hx : x.ba = none) (hx2 : x.bn = 0) (hx3 : x.bc = 0) (hx4 : x.d.blocks = []) (hk : I64 x.d.kind ∧ I64 x.d.parent) (hg : W.grownBy W3 v.ownBlock)
    (ho : W3.ownsRow base 76 3 v' (ls.length + 1) (ls.flatMap tileC ++ tileC x)) (hat : v'.ownBlock = v.ownBlock ∨ ∃ q, v'.ownBlock = some q ∧ W.heap.size ≤ q) (hn : ls.length ≤ 1000) : TilesIn W3 base v' (ls ++ [x]) where
  own := by
    refine ⟨?_, by simp; omega⟩;rw [List.length_append, List.flatMap_append];simpa using ho
  each := fun t ht => by
    rcases List.mem_append.1 ht with ht | ht
    · refine ⟨(h.each t ht).1.kept hg ?_, (h.each t ht).2⟩;cases e : (bsV t).ownBlock with
      | none => exact .inl rfl
      | some q => exact .inr fun e2 => h.sepv t ht q e e2.symm
    · have : t = x := by simpa using ht
      subst this;refine ⟨?_, hk⟩;rw [bsV, hx, hx2, hx3, hx4];exact OwnI.nil _ _
  sepv := fun t ht g hg1 hg2 => by
    rcases List.mem_append.1 ht with ht | ht
    · rcases hat with e | ⟨q, e, hq⟩
      · rw [e] at hg2; exact h.sepv t ht g hg1 hg2
      · rw [e] at hg2;injection hg2 with hg2;have := ((h.each t ht).1.1.lt g hg1).2;omega
    · have : t = x := by simpa using ht
      subst this;rw [bsV, hx] at hg1;cases hg1
  pw := by
    rw [List.pairwise_append];refine ⟨h.pw, List.pairwise_singleton _ _, fun s _ t ht g _ hg2 => ?_⟩;have : t = x := by simpa using ht
    subst this;rw [bsV, hx] at hg2;cases hg2
theorem flat_set3 : ∀ (ls : List TileR) (k : Nat) (t t' : TileR), ls[k]? = some t → t'.d.kind = t.d.kind ∧ t'.d.parent = t.d.parent → (ls.flatMap tileC).set (k * 3 + 2) (bsV t') = (ls.set k t').flatMap tileC
  | x :: ls, 0, t, t', h, he => by
    simp only [List.getElem?_cons_zero, Option.some.injEq] at h;subst h;simp [tileC, he.1, he.2]
  | x :: ls, k + 1, t, t', h, he => by
    have ih := flat_set3 ls k t t' (by simpa using h) he;rw [List.flatMap_cons, List.set_cons_succ, List.flatMap_cons, ← ih];have e : (k + 1) * 3 + 2 = (tileC x).length + (k * 3 + 2) := by rw [tileC_len]; omega
    rw [e, List.set_append_right _ _ (by omega)]
    congr 2
    omega
theorem TilesIn.turn {g n c : Nat} (h : TilesIn W base (.slice (some ⟨g, 0, none⟩) n c) ls) {k : Nat} {t t' : TileR} (hk : ls[k]? = some t) (hg : W.grownBy W3 (bsV t).ownBlock) (ho : OwnI W3 base (bsV t') t'.d.blocks) (he : t'.d.kind = t.d.kind ∧ t'.d.parent = t.d.parent)
    (hat : (bsV t').ownBlock = (bsV t).ownBlock ∨ ∃ q, (bsV t').ownBlock = some q ∧ W.heap.size ≤ q) : TilesIn (W3.setCell ⟨g, k * 3 + 2, none⟩ (bsV t')) base (.slice (some ⟨g, 0, none⟩) n c) (ls.set k t') := by
  have hlt := (List.getElem?_eq_some_iff.1 hk).1
  have htm := List.mem_of_getElem? hk
  have hlen : ls.length = n := by obtain ⟨a, c', e⟩ := h.own.form; injection e with _ e _; exact e.symm
  have hgb := h.own.low (k := g) rfl
  have g2 := grown_setCell W3 g (k * 3 + 2) (bsV t')
  have hne : ∀ s ∈ ls, (bsV s).ownBlock ≠ some g := fun s hs e => h.sepv s hs g e rfl
  have keep : ∀ s, OwnI W base (bsV s) s.d.blocks → Sep (bsV t) (bsV s) → (bsV s).ownBlock ≠ some g → OwnI (W3.setCell ⟨g, k * 3 + 2, none⟩ (bsV t')) base (bsV s) s.d.blocks := fun s hs hsep hng => by
    refine (hs.kept hg ?_).kept g2 ?_
    · cases e : (bsV s).ownBlock with
      | none => exact .inl rfl
      | some q => exact .inr fun e2 => hsep q e2.symm e
    · cases e : (bsV s).ownBlock with
      | none => exact .inl rfl
      | some q => exact .inr fun e2 => hng (e.trans e2)
  have sepT : ∀ s, OwnI W base (bsV s) s.d.blocks → Sep (bsV t) (bsV s) → Sep (bsV t') (bsV s) := fun s hs hsep q e1 e2 => by
    rcases hat with e | ⟨q', e, hq⟩
    · rw [e] at e1; exact hsep q e1 e2
    · rw [e] at e1;injection e1 with e1;have := (hs.1.lt q e2).2;omega
  have sepg : (bsV t').ownBlock ≠ some g := fun e => by
    rcases hat with e1 | ⟨q', e1, hq⟩
    · rw [e1] at e; exact hne t htm e
    · rw [e1] at e; injection e with e; omega
  have hpw : ∀ i s, ls[i]? = some s → i ≠ k → Sep (bsV t) (bsV s) := fun i s hi hik => by
    have hil := (List.getElem?_eq_some_iff.1 hi).1;have e1 := (List.getElem?_eq_some_iff.1 hi).2;have e2 := (List.getElem?_eq_some_iff.1 hk).2;rcases Nat.lt_or_ge i k with hl | hl
    · have := (List.pairwise_iff_getElem.1 h.pw) i k hil hlt hl;rw [e1, e2] at this;exact this.symm
    · have := (List.pairwise_iff_getElem.1 h.pw) k i hlt hil (by omega);rw [e1, e2] at this;exact this
  refine ⟨?_, fun s hs => ?_, fun s hs => ?_, ?_⟩
  · have h3 : OwnR 76 3 tileC W3 base (.slice (some ⟨g, 0, none⟩) n c) ls := h.own.kept hg (.inr fun e => hne t htm e.symm);have h4 : OwnR 76 3 tileC (W3.setCell ⟨g, k * 3 + 2, none⟩ (bsV t')) base (.slice (some ⟨g, 0, none⟩) n c) (ls.set k t') := by
      refine ⟨?_, by rw [List.length_set]; exact h.own.2⟩;have h6 := h3.1;rw [hlen] at h6;have h5 := (h6.stored (k * 3 + 2) (bsV t')).1;rw [List.length_set, hlen];have e : (ls.flatMap tileC).set (k * 3 + 2) (bsV t') = (ls.set k t').flatMap tileC := flat_set3 ls k t t' hk he;rw [← e];exact h5
    exact h4
  · obtain ⟨i, hi, e⟩ := List.mem_iff_getElem.1 hs;rw [List.getElem_set] at e
    split at e
    · rename_i hki
      subst e;refine ⟨ho.kept g2 ?_, by rw [he.1, he.2]; exact (h.each t htm).2⟩;cases e : (bsV t').ownBlock with
      | none => exact .inl rfl
      | some q => exact .inr fun e2 => sepg (e.trans e2)
    · rename_i hki
      have hi' : i < ls.length := by simpa using hi
      have hsm : s ∈ ls := by rw [← e]; exact List.getElem_mem hi'
      exact ⟨keep s (h.each s hsm).1 (hpw i s (by rw [List.getElem?_eq_getElem hi', e]) (fun e => hki e.symm)) (hne s hsm), (h.each s hsm).2⟩
  · obtain ⟨i, hi, e⟩ := List.mem_iff_getElem.1 hs;rw [List.getElem_set] at e
    split at e
    · subst e;intro q e1 e2;simp only [Value.ownBlock, Option.some.injEq] at e2;subst e2;exact sepg e1
    · have hi' : i < ls.length := by simpa using hi
      exact h.sepv s (by rw [← e]; exact List.getElem_mem hi')
  · rw [List.pairwise_iff_getElem];intro i j hi hj hij;have hi' : i < ls.length := by simpa using hi
    have hj' : j < ls.length := by simpa using hj
    rw [List.getElem_set, List.getElem_set];by_cases e1 : k = i
    · subst e1;rw [if_pos rfl, if_neg (by omega)];exact sepT _ (h.each _ (List.getElem_mem hj')).1 (hpw j _ (List.getElem?_eq_getElem hj') (by omega))
    · rw [if_neg e1];by_cases e2 : k = j
      · subst e2;rw [if_pos rfl];exact (sepT _ (h.each _ (List.getElem_mem hi')).1 (hpw i _ (List.getElem?_eq_getElem hi') (by omega))).symm
      · rw [if_neg e2];exact (List.pairwise_iff_getElem.1 h.pw) i j hi' hj' hij
end
end

section
open Go.RowKit
def BagT (w : World) (B : Nat) (v tv : Value) : Prop := w.heap[B]? = some (.cells #[nilVz, nilVz, v, nilVz, nilVz, nilVz, nilVz, nilVz, nilVz, nilVz, nilVz, nilVz, nilVz, nilVz, nilVz, tv, nilVz] 153 (0, 0))
theorem BagT.cell {w : World} {B : Nat} {v tv : Value} (h : BagT w B v tv) (i : Nat) : w.cell? ⟨B, i, none⟩ = (#[nilVz, nilVz, v, nilVz, nilVz, nilVz, nilVz, nilVz, nilVz, nilVz, nilVz, nilVz, nilVz, nilVz, nilVz, tv, nilVz] : Array Value)[i]? := cell_of_row _ _ _ _ _ _ h
theorem BagT.frozen {w : World} {B : Nat} {v tv : Value} (h : BagT w B v tv) (i : Nat) : w.frozen? ⟨B, i, none⟩ = false := frozen_of_row _ _ _ _ _ h
theorem BagT.lt {w : World} {B : Nat} {v tv : Value} (h : BagT w B v tv) : B < w.heap.size := (Array.getElem?_eq_some_iff.1 h).1
theorem BagT.setI {w : World} {B : Nat} {v tv : Value} (h : BagT w B v tv) (v' : Value) : BagT (w.setCell ⟨B, 2, none⟩ v') B v' tv := by
  unfold BagT at h ⊢
  simp [World.setCell, Array.getElem?_modify, h]
theorem BagT.setT {w : World} {B : Nat} {v tv : Value} (h : BagT w B v tv) (v' : Value) : BagT (w.setCell ⟨B, 15, none⟩ v') B v v' := by
  unfold BagT at h ⊢
  simp [World.setCell, Array.getElem?_modify, h]
theorem BagT.ne {w : World} {B : Nat} {v tv : Value} (h : BagT w B v tv) {base : Nat} {e : TypeId} {size : Nat} {v' : Value} {n : Nat} {xs : List Value} (ho : w.ownsRow base e size v' n xs) (hne : e ≠ 153) : v'.ownBlock ≠ some B := by
  intro hg
  rcases ho.2 with ⟨rfl, _⟩ | ⟨b, cap, cur, rfl, _, hh, _⟩
  · simp [Value.ownBlock] at hg
  · simp only [Value.ownBlock, Option.some.injEq] at hg;subst hg;unfold BagT at h;rw [h] at hh;injection hh with hh;injection hh with _ ht;exact hne ht.symm
structure BagJ (B : Nat) (k m : Nat) (xs ts : List Value) (v tv : Value) (w : World) : Prop where
  bag : BagT w B v tv
  ints : w.ownsRow (B + 1) 22 1 v k xs
  tiles : w.ownsRow (B + 1) 26 1 tv m ts
def PutT (B : Nat) (k m : Nat) (xs ts : List Value) (w : World) (e : Ending) (w' : World) : Prop := (∃ r, e = .returned r) ∧ ∃ v tv, BagJ B k m xs ts v tv w' ∧ Below B w w'
theorem putIntsT_any (w : World) (B k m : Nat) (v tv : Value) (xs ts : List Value) (a : Option Addr) (n c : Nat) (h : BagJ B k m xs ts v tv w) (hk : k ≤ 1000000) :
    Calls Tryz.prog 109 #[.pointer (some ⟨B, 0, none⟩), .slice a n c] w (PutT B (k + 1) m (xs ++ [.slice a n c]) ts w) := by
  have h2 := h.bag.cell 2
  have hlt := h.bag.lt
  have hfz := h.bag.frozen 2
  have HJ := Lib.hid h
  have HNE := Lib.hid (h.bag.ne h.ints (by decide))
  have HNT := Lib.hid (h.bag.ne h.tiles (by decide))
  have HIT := Lib.hid (rows_ne h.ints h.tiles (by decide))
  obtain ⟨av, cv, rfl⟩ := row_slice h.ints
  clear h
  simp at h2
  go_enter Tryz.func109, Tryz.ntmps109
  go_wp2_with (first
    | (at_builtin
       refine wpList_append1K rfl w (.tmp 8) (.tmp 10) 53 22 rfl (B + 1) _ 1 24 Tryz.underlying53 infoZs rfl (by omega) (.slice av k cv) k xs [.slice a n c] rfl HJ.out.ints w.heap.size rfl rfl rfl (by simp [Value.oneCell']) (by simp only [maxLen]; omega) (by omega) (by omega) ?_;intro g cap w2 hown2 hg2 hat2 _;have HB2 : Hid (BagT w2 B (.slice av k cv) tv) := (hg2.block B hlt (fun e => HNE.out e.symm)).trans HJ.out.bag;have HO2 := Lib.hid hown2;have HT2 : Hid (w2.ownsRow (B + 1) 26 1 tv m ts) := HJ.out.tiles.kept hg2 (by
         cases hv : tv.ownBlock with
         | none => exact .inl rfl
         | some q => exact .inr (fun e => HIT.out q e.symm hv))
       have HG2 : Hid (Below B w w2) := (Below.refl B w).grown hg2 (by omega) (fun j e => by have := (HJ.out.ints.lt j e).1; omega);have hc2 := HB2.out.cell 2;have hf2 := HB2.out.frozen 2;clear hown2 hg2 hat2;simp at hc2))
  go_end0
  have hgg := (HO2.out.lt g rfl).1
  refine ⟨⟨_, rfl⟩, _, _, ⟨HB2.out.setI _, ?_, ?_⟩, HG2.out.setCell (p := ⟨B, 2, none⟩) (Nat.le_refl _) _⟩
  · exact ownsRow_chg (S := fun k => k = B) HO2.out ((Chg.refl (fun k => k = B) w2).setCell (p := ⟨B, 2, none⟩) (.inl rfl) _) (fun b e => by
      simp only [Value.ownBlock, Option.some.injEq] at e;omega)
  · exact ownsRow_chg (S := fun k => k = B) HT2.out ((Chg.refl (fun k => k = B) w2).setCell (p := ⟨B, 2, none⟩) (.inl rfl) _) (fun b e => by
      have := (HT2.out.lt b e).1;omega)
theorem BagJ.ext {B k m : Nat} {xs ts : List Value} {v tv : Value} {w w' : World} (h : BagJ B k m xs ts v tv w) (hb : Below w.heap.size w w') : BagJ B k m xs ts v tv w' :=
  ⟨block_ext hb h.bag, own_below h.ints hb, own_below h.tiles hb⟩
theorem oneTile_any (w : World) (B k m : Nat) (v tv : Value) (xs ts : List Value) (t : TileR) (h : BagJ B k m xs ts v tv w) (hk : k ≤ 1000000) :
    Calls Tryz.prog 140 #[.pointer (some ⟨B, 0, none⟩), tileVR t] w (PutT B (k + 1) m (xs ++ [bsV t]) ts w) := by
  have HJ := Lib.hid h
  have hlt := h.bag.lt
  clear h
  go_enter Tryz.func140, Tryz.ntmps140
  go_upto_region 1 with (fail)
  obtain ⟨W, hW⟩ : ∃ W, W = w.alloc (.cells #[.int .i64 t.d.kind, .int .i64 t.d.parent, .slice t.ba t.bn t.bc] 76) := ⟨_, rfl⟩
  rw [← hW]
  have hk0 : W.heap[w.heap.size]? = some (.cells #[.int .i64 t.d.kind, .int .i64 t.d.parent, .slice t.ba t.bn t.bc] 76 (0, 0)) := by rw [hW]; exact heap_alloc_new _ _
  have hb1 : Below w.heap.size w W := by rw [hW]; exact ext_alloc _ _
  have c2 : W.cell? ⟨w.heap.size, 2, none⟩ = some (.slice t.ba t.bn t.bc) := by rw [cell_of_row _ _ _ _ _ _ hk0]; rfl
  have HJ1 := Lib.hid (HJ.out.ext hb1)
  have HB1 := Lib.hid (hb1.mono (Nat.le_of_lt hlt))
  clear hW hk0 hb1
  go_wp2_with (
    (go_at_call 109
     refine (putIntsT_any W B k m v tv xs ts t.ba t.bn t.bc HJ1.out hk).mono ?_;rintro e w2 ⟨⟨r, rfl⟩, v2, tv2, hj2, hb2⟩;have HJ2 := Lib.hid hj2;have HB2 := Lib.hid (HB1.out.trans hb2);clear hj2 hb2))
  go_end0
  exact ⟨⟨_, rfl⟩, v2, tv2, HJ2.out, HB2.out⟩
theorem putTiles_any (w w0 : World) (B k m base0 : Nat) (v tv : Value) (xs ts : List Value) (a : Option Addr) (n c : Nat) (ls : List TileR) (ho : OwnR 76 3 tileC w0 base0 (.slice a n c) ls) (hw0 : Below w0.heap.size w0 w) (hB : w0.heap.size ≤ B) (h : BagJ B k m xs ts v tv w) (hk : k + n ≤ 1000000) (hm : m ≤ 1000000) :
    Calls Tryz.prog 89 #[.pointer (some ⟨B, 0, none⟩), .slice a n c] w (PutT B (k + n) (m + 1) (xs ++ ls.map bsV) (ts ++ [.slice a n c]) w) := by
  have h15 := h.bag.cell 15
  have hlt := h.bag.lt
  have hfz := h.bag.frozen 15
  have HJ := Lib.hid h
  have HO := Lib.hid ho
  have HW0 := Lib.hid hw0
  have HNT := Lib.hid (h.bag.ne h.tiles (by decide))
  have HIT := Lib.hid (rows_ne h.tiles h.ints (by decide))
  have hln : ls.length = n := by
    obtain ⟨_, _, e⟩ := OwnR.form ho;injection e with _ e _;exact e.symm
  have HLN := Lib.hid hln
  obtain ⟨av, cv, rfl⟩ := row_slice h.tiles
  clear h ho hw0 hln
  simp at h15
  go_enter Tryz.func89, Tryz.ntmps89
  go_upto_region 1 with (first
    | (at_builtin
       refine wpList_append1K rfl w (.tmp 9) (.tmp 11) 58 26 rfl (B + 1) _ 1 24 Tryz.underlying58 infoFsTile rfl (by omega) (.slice av m cv) m ts [.slice a n c] rfl HJ.out.tiles w.heap.size rfl rfl rfl (by simp [Value.oneCell']) (by simp only [maxLen]; omega) (by omega) (by omega) ?_;intro g cap w2 hown2 hg2 hat2 _;have HB2 : Hid (BagT w2 B v (.slice av m cv)) := (hg2.block B hlt (fun e => HNT.out e.symm)).trans HJ.out.bag;have HO2 := Lib.hid hown2;have HI2 : Hid (w2.ownsRow (B + 1) 22 1 v k xs) := HJ.out.ints.kept hg2 (by
         cases hv : v.ownBlock with
         | none => exact .inl rfl
         | some q => exact .inr (fun e => HIT.out q e.symm hv))
       have HG2 : Hid (Below B w w2) := (Below.refl B w).grown hg2 (by omega) (fun j e => by have := (HJ.out.tiles.lt j e).1; omega);have hc2 := HB2.out.cell 15;have hf2 := HB2.out.frozen 15;clear hown2 hg2 hat2;simp at hc2))
  have hgg := (HO2.out.lt g rfl).1
  have hlt2 := HB2.out.lt
  obtain ⟨W, hW⟩ : ∃ W, W = w2.setCell ⟨B, 15, none⟩ (.slice (some ⟨g, 0, none⟩) (m + 1) cap) := ⟨_, rfl⟩
  have hjW : BagJ B (k + 0) (m + 1) (xs ++ (ls.take 0).map bsV) (ts ++ [.slice a n c]) v (.slice (some ⟨g, 0, none⟩) (m + 1) cap) W := by
    rw [hW];refine ⟨HB2.out.setT _, ?_, ?_⟩
    · rw [List.take_zero, List.map_nil, List.append_nil];exact ownsRow_chg (S := fun k => k = B) HI2.out ((Chg.refl (fun k => k = B) w2).setCell (p := ⟨B, 15, none⟩) (.inl rfl) _) (fun b e => by
        have := (HI2.out.lt b e).1;omega)
    · exact ownsRow_chg (S := fun k => k = B) HO2.out ((Chg.refl (fun k => k = B) w2).setCell (p := ⟨B, 15, none⟩) (.inl rfl) _) (fun b e => by
        simp only [Value.ownBlock, Option.some.injEq] at e;omega)
  have hbW : Below B w W := by rw [hW]; exact HG2.out.setCell (p := ⟨B, 15, none⟩) (Nat.le_refl _) _
  rw [← hW]
  have HJW := Lib.hid hjW
  have HBW := Lib.hid hbW
  clear hW hjW hbW hc2 hf2 h15 hfz HB2 HO2 HI2 HG2 hlt2
  go_wp2
  go_loopw [4] (fun s4 wr => ∃ (i : Nat) (v tv : Value), i ≤ n ∧ s4 = .int .i64 (i : Int) ∧ Hid (BagJ B (k + i) (m + 1) (xs ++ (ls.take i).map bsV) (ts ++ [.slice a n c]) v tv wr) ∧ Hid (Below B w wr)) (fun s4 _ => n - (intOf s4).toNat)
  case atStart => exact ⟨0, _, _, by omega, rfl, HJW, HBW⟩
  case round =>
    obtain ⟨i, v3, tv3, hi, rfl, HJ3, HB3⟩ := hrel;clear HJW HBW;by_cases hil : i < n
    · have hil' : (i : Int) < (n : Int) := by omega
      have hform : ∃ g, a = some ⟨g, 0, none⟩ := by
        obtain ⟨g, c', e⟩ := own_form HO.out.1 (by have := HLN.out; omega);injection e with e _ _;exact ⟨g, e⟩
      obtain ⟨gg, rfl⟩ := hform;have hbw : Below w0.heap.size w0 wr := HW0.out.trans (HB3.out.mono hB);have hrg := (OwnR.ext HO.out hbw).range tileC_len ⟨⟨0, 0, []⟩, none, 0, 0⟩ (k := i) (by rw [HLN.out]; exact hil);have hst : ls.take (i + 1) = ls.take i ++ [ls.getD i ⟨⟨0, 0, []⟩, none, 0, 0⟩] := by
        rw [List.take_add_one, List.getD_eq_getElem?_getD, List.getElem?_eq_getElem (by rw [HLN.out]; exact hil)];rfl
      obtain ⟨t, ht⟩ : ∃ t, t = ls.getD i ⟨⟨0, 0, []⟩, none, 0, 0⟩ := ⟨_, rfl⟩
      rw [← ht] at hrg hst;have HRG := Lib.hid hrg;have HST := Lib.hid hst;clear hrg hst ht hbw
      go_wp2_with (first
        | ((with_reducible show wpList _ _ _ (⟨some 25, _, _, _, _, _⟩ :: _) _ _); refine wpList_load_mid (op := ⟨some 25, .load 76 _, _, _, _, _⟩) rfl 76 _ rfl gg (i * 3) rfl (tileC t) _ HRG.out Tryz.underlying76 rfl (by rw [tileC_len]; kernel_rfl) ?_)
        | (go_at_call 140
           refine (oneTile_any wr B (k + i) (m + 1) v3 tv3 _ _ t HJ3.out (by omega)).mono ?_;rintro e w4 ⟨⟨r, rfl⟩, v4, tv4, hj4, hb4⟩;have HJ4 := Lib.hid hj4;have HB4 := Lib.hid (HB3.out.trans hb4);clear hj4 hb4))
      go_roundw
      case rel => exact ⟨i + 1, v4, tv4, by omega, by go_num, by rw [HST.out, List.map_append, ← List.append_assoc]; exact HJ4, HB4⟩
      case measure => simp [intOf]; omega
    · obtain rfl : i = n := by omega
      have HE : Hid (ls.take i = ls) := by rw [Hid, ← HLN.out]; exact List.take_length
      rw [HE.out] at HJ3;go_wp2
      go_end0
      exact ⟨⟨_, rfl⟩, v3, tv3, HJ3.out, HB3.out⟩
theorem FIn.chg {e eo : TypeId} {size base K : Nat} {vo : Value} {rv : Nat → Value} {L : Nat → Nat} {w w' : World} {S : Nat → Prop} (h : FIn e eo size base K vo rv L w) (hc : Chg S w w') (h1 : ∀ g, vo.ownBlock = some g → ¬ S g) (h2 : ∀ j, j < K → ∀ g, (rv j).ownBlock = some g → ¬ S g) : FIn e eo size base K vo rv L w' :=
  ⟨ownsRow_chg h.outer hc h1, fun j hj => by
    obtain ⟨X, hX⟩ := h.rows j hj;exact ⟨X, ownsRow_chg hX hc (h2 j hj)⟩, h.sep⟩
theorem bagTiles_any (w : World) (B K M base : Nat) (a : Option Addr) (c : Nat) (ta : Option Addr) (tc : Nat) (rv : Nat → Value) (L : Nat → Nat) (tv : Nat → Value) (TL : Nat → Nat) (hB : BagT w B (.slice a K c) (.slice ta M tc)) (hI : FIn 3 22 1 base K (.slice a K c) rv L w) (hT : FIn 76 26 3 base M (.slice ta M tc) tv TL w)
    (hK : K ≤ 1000000) (hL : ∀ j, j < K → L j ≤ 1000000) (hM : M ≤ 1000000) (hTL : ∀ j, j < M → TL j ≤ 1000000) (hbase : base ≤ w.heap.size) :
    Calls Tryz.prog 90 #[.pointer (some ⟨B, 0, none⟩)] w fun e w' => e = .returned (.bool true) ∧ Chg (fun g => SB K rv g ∨ SB M tv g) w w' := by
  have HFI := Lib.hid hI
  have HFT := Lib.hid hT
  have HL := Lib.hid hL
  have HTL := Lib.hid hTL
  have HBR : Hid (∀ j, j < K → (rv j).ownBlock ≠ some B) := fun j hj => by
    obtain ⟨X, hX⟩ := hI.rows j hj;exact hB.ne hX (by decide)
  have HBT : Hid (∀ j, j < M → (tv j).ownBlock ≠ some B) := fun j hj => by
    obtain ⟨X, hX⟩ := hT.rows j hj;exact hB.ne hX (by decide)
  have HTO : Hid (∀ g, (Value.slice ta M tc).ownBlock = some g → ¬ SB K rv g) := fun g hg ⟨j, hj, e⟩ => by
    obtain ⟨X, hX⟩ := hI.rows j hj;exact rows_ne hT.outer hX (by decide) g hg e
  have HTR : Hid (∀ i, i < M → ∀ g, (tv i).ownBlock = some g → ¬ SB K rv g) := fun i hi g hg ⟨j, hj, e⟩ => by
    obtain ⟨X, hX⟩ := hI.rows j hj;obtain ⟨Y, hY⟩ := hT.rows i hi;exact rows_ne hY hX (by decide) g hg e
  have HB := Lib.hid hB
  have HC : Hid (∀ (V : World) (i : Nat), Chg (SB K rv) w V → V.cell? ⟨B, i, none⟩ = (#[nilVz, nilVz, .slice a K c, nilVz, nilVz, nilVz, nilVz, nilVz, nilVz, nilVz, nilVz, nilVz, nilVz, nilVz, nilVz, .slice ta M tc, nilVz] : Array Value)[i]?) := fun V i hV => BagT.cell (show BagT V B _ _ from (hV.block B hB.lt (fun ⟨j, hj, e⟩ => HBR.out j hj e)).trans HB.out) i
  have HCS : Hid (∀ (V : World) (i : Nat), Chg (fun g => SB K rv g ∨ SB M tv g) w V → V.cell? ⟨B, i, none⟩ = (#[nilVz, nilVz, .slice a K c, nilVz, nilVz, nilVz, nilVz, nilVz, nilVz, nilVz, nilVz, nilVz, nilVz, nilVz, nilVz, .slice ta M tc, nilVz] : Array Value)[i]?) := fun V i hV => BagT.cell (show BagT V B _ _ from (hV.block B hB.lt (fun h => h.elim (fun ⟨j, hj, e⟩ => HBR.out j hj e) (fun ⟨j, hj, e⟩ => HBT.out j hj e))).trans HB.out) i
  have c0 : w.cell? ⟨B, 0, none⟩ = some nilVz := (HC.out w 0 (Chg.refl _ _)).trans rfl
  clear hI hT hL hTL hB
  go_enter Tryz.func90, Tryz.ntmps90
  go_wp2_with (first
    | (go_at_call 141; refine (flatLimbs_nil _).mono ?_; rintro e w0 ⟨rfl, hb0⟩
       have E0 := Lib.hid ((Chg.refl (SB K rv) w).of_ext hb0); have F0 := Lib.hid (show Below w.heap.size w w0 from hb0); clear hb0; have c1 : w0.cell? ⟨B, 1, none⟩ = some (nilVz) := (HC.out w0 1 E0.out).trans rfl)
    | (go_at_call 142; refine (flatWords_nil _).mono ?_; rintro e w1 ⟨rfl, hb1⟩
       have E1 := Lib.hid (E0.out.of_ext hb1); have F1 := Lib.hid (ext_trans F0.out hb1); clear hb1; have c2 : w1.cell? ⟨B, 2, none⟩ = some (.slice a K c) := (HC.out w1 2 E1.out).trans rfl)
    | (go_at_call 143; refine (flatInts_any a K c base rv L _ (HFI.out.ext F1.out) hK HL.out (Nat.le_trans hbase F1.out.size)).mono ?_; rintro e w2 ⟨rfl, hb2⟩
       have E2 := Lib.hid (E1.out.trans hb2); clear hb2; have c3 : w2.cell? ⟨B, 3, none⟩ = some (nilVz) := (HC.out w2 3 E2.out).trans rfl)
    | (go_at_call 144; refine (flatLongs_nil _).mono ?_; rintro e w3 ⟨rfl, hb3⟩
       have E3 := Lib.hid (E2.out.of_ext hb3); clear hb3; have c4 : w3.cell? ⟨B, 4, none⟩ = some (nilVz) := (HC.out w3 4 E3.out).trans rfl)
    | (go_at_call 145; refine (flatTexts_nil _).mono ?_; rintro e w4 ⟨rfl, hb4⟩
       have E4 := Lib.hid (E3.out.of_ext hb4); clear hb4; have c5 : w4.cell? ⟨B, 5, none⟩ = some (nilVz) := (HC.out w4 5 E4.out).trans rfl)
    | (go_at_call 146; refine (flatBytes_nil _).mono ?_; rintro e w5 ⟨rfl, hb5⟩
       have E5 := Lib.hid (E4.out.of_ext hb5); clear hb5; have c6 : w5.cell? ⟨B, 6, none⟩ = some (nilVz) := (HC.out w5 6 E5.out).trans rfl)
    | (go_at_call 147; refine (flatTruths_nil _).mono ?_; rintro e w6 ⟨rfl, hb6⟩
       have E6 := Lib.hid (E5.out.of_ext hb6); clear hb6; have c7 : w6.cell? ⟨B, 7, none⟩ = some (nilVz) := (HC.out w6 7 E6.out).trans rfl)
    | (go_at_call 148; refine (flatRow_nil _).mono ?_; rintro e w7 ⟨rfl, hb7⟩
       have E7 := Lib.hid (E6.out.of_ext hb7); clear hb7; have c8 : w7.cell? ⟨B, 8, none⟩ = some (nilVz) := (HC.out w7 8 E7.out).trans rfl)
    | (go_at_call 149; refine (flatBlocks_nil _).mono ?_; rintro e w8 ⟨rfl, hb8⟩
       have E8 := Lib.hid (E7.out.of_ext hb8); clear hb8; have c9 : w8.cell? ⟨B, 9, none⟩ = some (nilVz) := (HC.out w8 9 E8.out).trans rfl)
    | (go_at_call 150; refine (flatFuncs_nil _).mono ?_; rintro e w9 ⟨rfl, hb9⟩
       have E9 := Lib.hid (E8.out.of_ext hb9); clear hb9; have c10 : w9.cell? ⟨B, 10, none⟩ = some (nilVz) := (HC.out w9 10 E9.out).trans rfl)
    | (go_at_call 151; refine (flatTargets_nil _).mono ?_; rintro e w10 ⟨rfl, hb10⟩
       have E10 := Lib.hid (E9.out.of_ext hb10); clear hb10; have c11 : w10.cell? ⟨B, 11, none⟩ = some (nilVz) := (HC.out w10 11 E10.out).trans rfl)
    | (go_at_call 152; refine (flatMachines_nil _).mono ?_; rintro e w11 ⟨rfl, hb11⟩
       have E11 := Lib.hid (E10.out.of_ext hb11); clear hb11; have c12 : w11.cell? ⟨B, 12, none⟩ = some (nilVz) := (HC.out w11 12 E11.out).trans rfl)
    | (go_at_call 153; refine (flatLocs_nil _).mono ?_; rintro e w12 ⟨rfl, hb12⟩
       have E12 := Lib.hid (E11.out.of_ext hb12); clear hb12; have c13 : w12.cell? ⟨B, 13, none⟩ = some (nilVz) := (HC.out w12 13 E12.out).trans rfl)
    | (go_at_call 154; refine (flatFacts_nil _).mono ?_; rintro e w13 ⟨rfl, hb13⟩
       have E13 := Lib.hid (E12.out.of_ext hb13); clear hb13; have c14 : w13.cell? ⟨B, 14, none⟩ = some (nilVz) := (HC.out w13 14 E13.out).trans rfl)
    | (go_at_call 155; refine (flatEdges_nil _).mono ?_; rintro e w14 ⟨rfl, hb14⟩
       have E14 := Lib.hid (E13.out.of_ext hb14); clear hb14; have c15 : w14.cell? ⟨B, 15, none⟩ = some (.slice ta M tc) := (HC.out w14 15 E14.out).trans rfl)
    | (go_at_call 156; refine (flatTiles_any ta M tc base tv TL _ (HFT.out.chg E14.out HTO.out HTR.out) hM HTL.out (Nat.le_trans hbase E14.out.size)).mono ?_; rintro e w15 ⟨rfl, hb15⟩
       have E15 : Hid (Chg (fun g => SB K rv g ∨ SB M tv g) w w15) := (E14.out.mono (fun g h => .inl h)).trans (hb15.mono (fun g h => .inr h)); clear hb15; have c16 : w15.cell? ⟨B, 16, none⟩ = some (nilVz) := (HCS.out w15 16 E15.out).trans rfl)
    | (go_at_call 157; refine (flatCalls_nil _).mono ?_; rintro e w16 ⟨rfl, hb16⟩
       have E16 := Lib.hid (E15.out.of_ext hb16); clear hb16))
  go_ret
  exact ⟨rfl, E16.out⟩
def catT (lsT : Nat → List TileR) (k : Nat) : List TileR := (List.range k).flatMap lsT
theorem catT_succ (lsT : Nat → List TileR) (k : Nat) : catT lsT (k + 1) = catT lsT k ++ lsT k := by simp [catT, List.range_succ]
def zTR : TileR := ⟨⟨0, 0, []⟩, none, 0, 0⟩
theorem map_range_getD (l : List TileR) : (List.range l.length).map (fun j => bsV (l.getD j zTR)) = l.map bsV := by
  refine List.ext_getElem (by simp) fun i h1 h2 => ?_
  have : i < l.length := by simpa using h1
  simp [List.getD_eq_getElem?_getD, this]
theorem apartTiles_any (w : World) (a : Option Addr) (K c base : Nat) (rvT : Nat → Value) (lsT : Nat → List TileR) (hcell : ∀ j, j < K → ∃ b o, a = some ⟨b, o, none⟩ ∧ w.cell? ⟨b, o + j, none⟩ = some (rvT j))
    (hown : ∀ j, j < K → OwnR 76 3 tileC w base (rvT j) (lsT j)) (hsT : ∀ i j, i < K → j < K → i ≠ j → SepF (rvT i) (rvT j)) (heach : ∀ t ∈ catT lsT K, OwnI w base (bsV t) t.d.blocks) (hsI : (catT lsT K).Pairwise fun s t => Sep (bsV s) (bsV t))
    (hK : K ≤ 1000) (hlen : ∀ j, j < K → (lsT j).length ≤ 1000) (hbl : ∀ t ∈ catT lsT K, t.d.blocks.length ≤ 1000000) (hbase : base ≤ w.heap.size) :
    Calls Tryz.prog 36 #[.slice a K c] w fun e w' => e = .returned (.bool true) ∧ Chg (fun g => (∃ t ∈ catT lsT K, (bsV t).ownBlock = some g) ∨ SB K rvT g) w w' := by
  have HC := Lib.hid hcell
  have HOW := Lib.hid hown
  have HST := Lib.hid hsT
  have HEA := Lib.hid heach
  have HSI := Lib.hid hsI
  have HLE := Lib.hid hlen
  have HBL := Lib.hid hbl
  have HCL : Hid (∀ k, k ≤ K → (catT lsT k).length ≤ 1000 * k) := fun k hk => by
    induction k with
    | zero => simp [catT]
    | succ k ih =>
      have h1 := ih (by omega);have h2 := hlen k (by omega);rw [catT_succ, List.length_append];omega
  clear hcell hown hsT heach hsI hlen hbl
  go_enter Tryz.func36, Tryz.ntmps36
  go_wp2
  have HB0 : Hid (BagT (w.alloc (.cells #[nilVz, nilVz, nilVz, nilVz, nilVz, nilVz, nilVz, nilVz, nilVz, nilVz, nilVz, nilVz, nilVz, nilVz, nilVz, nilVz, nilVz] 153)) w.heap.size nilVz nilVz) := World.alloc_heap_new w _
  have HE0 := Lib.hid (ext_alloc w (.cells #[nilVz, nilVz, nilVz, nilVz, nilVz, nilVz, nilVz, nilVz, nilVz, nilVz, nilVz, nilVz, nilVz, nilVz, nilVz, nilVz, nilVz] 153))
  go_loopw [4] (fun kk wr => ∃ (k : Nat) (v tv : Value), k ≤ K ∧ kk = .int .i64 k ∧ Hid (BagJ w.heap.size (catT lsT k).length k ((catT lsT k).map bsV) ((List.range k).map rvT) v tv wr) ∧ Hid (Below w.heap.size w wr)) (fun kk _ => K - (intOf kk).toNat)
  case atStart => exact ⟨0, nilVz, nilVz, by omega, rfl, ⟨HB0.out, World.ownsRow_nil _ _ _ _, World.ownsRow_nil _ _ _ _⟩, HE0⟩
  case round =>
    clear HB0 HE0;obtain ⟨k, v, tv, hk, rfl, HJ, HE⟩ := hrel;by_cases hlt : k < K
    · obtain ⟨b, o, rfl, hc⟩ := HC.out k hlt;have hc' := cell_ext HE.out hc;obtain ⟨ar, cr, er⟩ := (HOW.out k hlt).form;have HOk := Lib.hid (HOW.out k hlt);rw [er] at hc' HOk;obtain ⟨n, hn⟩ : ∃ n, n = (lsT k).length := ⟨_, rfl⟩
      rw [← hn] at hc' HOk;have HER := Lib.hid er;have HNN := Lib.hid hn;have hn1 := HLE.out k hlt;have hn2 := HCL.out k hk;have hn3 : (catT lsT k).length + n ≤ 1000000 := by omega
      clear hc er hn hn1 hn2
      go_wp2_with (first
        | (go_at_call 89; refine (putTiles_any _ w w.heap.size (catT lsT k).length k base v tv _ _ ar n cr (lsT k) HOk.out HE.out (Nat.le_refl _) HJ.out hn3 (by omega)).mono ?_; rintro e w2 ⟨⟨r, rfl⟩, v2, tv2, hj2, he2⟩
           have HJ2 := Lib.hid hj2;have HE2 := Lib.hid (HE.out.trans he2);clear hj2 he2))
      go_roundw
      case rel => exact ⟨k + 1, v2, tv2, by omega, by go_num, by
        have e := HJ2.out;rw [HNN.out, ← List.length_append, ← List.map_append, ← catT_succ, ← HER.out] at e;rw [List.range_succ, List.map_append];exact e, HE2⟩
      case measure => simp [intOf]; omega
    · obtain rfl : k = K := by omega
      obtain ⟨av, cv, ev⟩ := row_slice HJ.out.ints;subst ev;obtain ⟨at_, ct, et⟩ := row_slice HJ.out.tiles;subst et;obtain ⟨Q, hQ⟩ : ∃ Q, Q = catT lsT k := ⟨_, rfl⟩
      have hq1 := HCL.out k (Nat.le_refl _);rw [← hQ] at HJ HEA HSI HBL hq1;have HFI : Hid (FIn 3 22 1 base Q.length (.slice av Q.length cv) (fun j => bsV (Q.getD j zTR)) (fun j => (Q.getD j zTR).d.blocks.length) wr) := ⟨by rw [map_range_getD]; exact HJ.out.ints.mono (by omega), fun j hj => by
        have hm : Q.getD j zTR ∈ Q := by rw [List.getD_eq_getElem?_getD, List.getElem?_eq_getElem hj]; exact List.getElem_mem _
        exact ⟨_, own_below (HEA.out _ hm).1 HE.out⟩, fun i j hi hj hij => by
        have e1 : Q.getD i zTR = Q[i] := by simp [List.getD_eq_getElem?_getD, hi]
        have e2 : Q.getD j zTR = Q[j] := by simp [List.getD_eq_getElem?_getD, hj]
        show SepF (bsV (Q.getD i zTR)) (bsV (Q.getD j zTR));rw [e1, e2];rcases Nat.lt_or_gt_of_ne hij with h | h
        · exact (List.pairwise_iff_getElem.1 HSI.out) i j hi hj h
        · exact ((List.pairwise_iff_getElem.1 HSI.out) j i hj hi h).symm⟩
      have HFT : Hid (FIn 76 26 3 base k (.slice at_ k ct) rvT (fun j => (lsT j).length) wr) := ⟨HJ.out.tiles.mono (by omega), fun j hj => ⟨_, own_below (HOW.out j hj).1 HE.out⟩, HST.out⟩
      have hbq : ∀ j, j < Q.length → (Q.getD j zTR).d.blocks.length ≤ 1000000 := fun j hj => HBL.out _ (by rw [List.getD_eq_getElem?_getD, List.getElem?_eq_getElem hj]; exact List.getElem_mem _);have HBQ := Lib.hid hbq;have HLE2 : Hid (∀ j, j < k → (lsT j).length ≤ 1000000) := fun j hj => by have := HLE.out j hj; omega
      have HQQ := Lib.hid hQ;clear hbq hQ
      go_wp2_with (first
        | (go_at_call 90; refine (bagTiles_any _ w.heap.size Q.length k base av cv at_ ct (fun j => bsV (Q.getD j zTR)) (fun j => (Q.getD j zTR).d.blocks.length) rvT (fun j => (lsT j).length) HJ.out.bag HFI.out HFT.out (by omega) HBQ.out (by omega) HLE2.out (by have := HE.out.size; omega)).mono ?_; rintro e w2 ⟨rfl, hc2⟩
           have HC2 := Lib.hid hc2;clear hc2))
      go_ret
      refine ⟨rfl, ?_⟩;refine ((Chg.refl _ w).of_ext HE.out).trans (HC2.out.mono fun g h => ?_);rcases h with ⟨j, hj, e⟩ | h
      · exact .inl ⟨_, by rw [← HQQ.out, List.getD_eq_getElem?_getD, List.getElem?_eq_getElem hj]; exact List.getElem_mem _, e⟩
      · exact .inr h
end
end Go.Proofs.YtblhmdhfhaencaaGreat
