/-
 Building tiles: conditionals.
-/
import Derived.Test.YtblhmdhfhaencaaQJ
import Derived.Test.YtblhmdhfhaencaaQK
import Derived.Test.YtblhmdhfhaencaaFlatBase
namespace Go.Proofs.Ytblhmdhfhaencaa
set_option linter.unusedSimpArgs false
set_option linter.unusedVariables false
set_option linter.unusedSectionVars false
set_option maxRecDepth 100000
set_option maxHeartbeats 40000000
section
open Go.RowKit Go.Shelf

theorem many_any (f : Nat → Bool) (w : World) : Calls Try.prog 84 #[.agg (setA f)] w fun e w' => e = .returned (.int .i64 ((listS f).length : Int)) ∧ Below w.heap.size w w' := by
 go_enter Try.func84, Try.ntmps84
 have h1 := heap_alloc_new w (setO f)
 have HB : Hid (Below w.heap.size w (w.alloc (setO f))) := ext_alloc _ _
 have HE : Hid ((intsN (listS f)).length = (listS f).length) := by simp [Hid, intsN]
 go_wp2_with (first
  | (refine wpList_load_row (o := ⟨some 3, .load 78 _, _, _, _, _⟩) rfl 78 _ rfl w.heap.size rfl 78 (setA f) (0, 0) _ h1 Try.underlying78 rfl (by rw [setA_size]; exact size_set) ?_)
  | (go_at_call 58
     refine (list_any f _).mono ?_
     rintro e w2 ⟨v, rfl, ho, hb⟩
     obtain ⟨a, c, rfl⟩ := ho.form
     rw [HE.out]
     have HB2 := Lib.hid (ext_trans HB.out hb)
     clear ho hb))
 go_ret
 exact ⟨rfl, HB2.out⟩
/-- the smallest part is some part, or the whole -/
theorem small_canon {n : Nat} (hn : n ≤ 200) (k : Nat) : ∀ (L : List PartD), (∀ p ∈ L, Canon p.s) → Canon (smallestP n L k).s := by
 intro L hL
 have key : ∀ (l : List PartD) (b : PartD), (∀ p ∈ l, Canon p.s) → Canon b.s → Canon (l.foldl (smallStep k) b).s := by
  intro l
  induction l with
  | nil => intro b _ hb; exact hb
  | cons p l ih =>
    intro b hl hb
    refine ih _ (fun q hq => hl q (by simp [hq])) ?_
    unfold smallStep
    split
    · exact hl p (by simp)
    · exact hb
 exact key L _ hL (whole_canon hn)
theorem partK_cell {W : World} {B : Nat} {p : PartD} (h : W.heap[B]? = some (partO p)) : W.cell? ⟨B, 200, none⟩ = some (.int .i64 p.kind) ∧ W.cell? ⟨B, 201, none⟩ = some (.int .i64 p.entry) := by
 rw [cell_of_row _ _ _ _ _ _ h, cell_of_row _ _ _ _ _ _ h, partC_at]
 constructor
 · rw [Array.getElem?_push, if_neg (by simp [setA_size]), Array.getElem?_push, if_pos (by rw [setA_size])]
 · rw [Array.getElem?_push, if_pos (by simp [setA_size])]
theorem own_form2 {w : World} {base : Nat} {e : TypeId} {size : Nat} {v : Value} {n : Nat} {xs : List Value} (h : w.ownsRow base e size v n xs) : ∃ a c, v = .slice a n c := by
 rcases h.2 with ⟨h, h0⟩ | ⟨g, cap, cur, h, _⟩
 · exact ⟨none, 0, by rw [h, h0]⟩
 · exact ⟨_, _, h⟩
theorem conds_step (ts : List TermD) (L : List PartD) (j : Nat) : (List.range (j + 1)).filterMap (condP ts L) = (List.range j).filterMap (condP ts L) ++ (match condP ts L j with | some p => [p] | none => []) := by
 rw [List.range_succ, List.filterMap_append]
 congr 1
 cases h : condP ts L j <;> simp [h]
theorem conds_len (ts : List TermD) (L : List PartD) (j : Nat) : ((List.range j).filterMap (condP ts L)).length ≤ j := by
 have := List.length_filterMap_le (condP ts L) (List.range j)
 simpa using this
theorem cond_no1 {ts : List TermD} {L : List PartD} {j : Nat} (h : (pv ts j).length ≠ 1) : condP ts L j = none := by unfold condP; rw [if_neg fun hh => h hh.1]
theorem cond_no2 {ts : List TermD} {L : List PartD} {j : Nat} (h : (nx ts ((pv ts j).headD 0)).length ≠ 2) : condP ts L j = none := by unfold condP; rw [if_neg fun hh => h hh.2.1]
theorem cond_no3 {ts : List TermD} {L : List PartD} {j : Nat} (h : (smallestP ts.length L j).kind = 3) : condP ts L j = none := by unfold condP; rw [if_neg fun hh => hh.2.2.1 h]
theorem cond_no4 {ts : List TermD} {L : List PartD} {j : Nat} (h : (smallestP ts.length L j).entry = j) : condP ts L j = none := by unfold condP; rw [if_neg fun hh => hh.2.2.2.1 h]
theorem cond_no5 {ts : List TermD} {L : List PartD} {j : Nat} (h : ¬ 1 < (listS (guardedP ts j (smallestP ts.length L j).s)).length) : condP ts L j = none := by unfold condP; rw [if_neg fun hh => h hh.2.2.2.2]
theorem cond_yes {ts : List TermD} {L : List PartD} {j : Nat} (h1 : (pv ts j).length = 1) (h2 : (nx ts ((pv ts j).headD 0)).length = 2) (h3 : (smallestP ts.length L j).kind ≠ 3) (h4 : (smallestP ts.length L j).entry ≠ j) (h5 : 1 < (listS (guardedP ts j (smallestP ts.length L j).s)).length) :
  condP ts L j = some ⟨guardedP ts j (smallestP ts.length L j).s, 4, j⟩ := by unfold condP; rw [if_pos ⟨h1, h2, h3, h4, h5⟩]
theorem conds_any (W0 : World) (d : WalkD) (ts : List TermD) (hok : WalkOK W0 d ts) (hf : fitsB ts = true) (P base : Nat) (v : Value) (L : List PartD) (w : World) (hcan : ∀ p ∈ L, Canon p.s) (hlen : L.length ≤ 1000) (h : BldJ W0 d P base v L w) :
  Calls Try.prog 52 #[.pointer (some ⟨P, 0, none⟩)] w (BldPost W0 d P base v w (L ++ condsP ts L)) := by
 have HCAN := Lib.hid hcan
 have HJ := Lib.hid h
 have HF := Lib.hid hf
 have hbn : ts.length = d.bn := hok.1
 have hb2 : d.bn ≤ 200 := hok.2.1
 have HBN := Lib.hid hbn
 have HOK := Lib.hid (hok.ext h.ext)
 obtain ⟨a, c, hv⟩ := OwnR.form h.parts
 obtain ⟨n, hn⟩ : ∃ n, n = L.length := ⟨_, rfl⟩
 rw [← hn] at hv
 subst hv
 have HN := Lib.hid hn
 have hn1000 : n ≤ 1000 := by omega
 have hc3 : w.cell? ⟨P, 3, none⟩ = some (.slice d.fa d.bn d.fc) := by rw [cell_of_row _ _ _ _ _ _ h.bld]; rfl
 clear hcan h hf hok hlen hn
 clear hbn
 go_enter Try.func52, Try.ntmps52
 go_wp2
 clear hc3
 go_loopw [2, 13] (fun s2 s13 wr => ∃ j : Nat, j ≤ d.bn ∧ s13 = .int .i64 (j : Int) ∧ Hid (PartsIn wr w.heap.size s2 ((List.range j).filterMap (condP ts L))) ∧ Hid (Below w.heap.size w wr)) (fun _ s13 _ => d.bn - (intOf s13).toNat)
 case atStart => exact ⟨0, by omega, rfl, OwnR.nil _ _ _ _ _, Below.refl _ _⟩
 case round =>
  obtain ⟨j, hj, rfl, HM, HB⟩ := hrel
  by_cases hlt : j < d.bn
  · have hlt' : (j : Int) < (d.bn : Int) := by omega
    have hj200 : j < 200 := by omega
    have hwk := HOK.out.ext HB.out
    obtain ⟨fb, fo, ra, rc, hfa, hcr, hir⟩ := hwk.2.2.2.2.2 j (pv ts j) (by simp [fromRows, HBN.out, hlt])
    have HWK := Lib.hid hwk
    have HIR := Lib.hid hir
    rw [hfa]
    obtain ⟨af, cf, hvf⟩ := OwnR.form HM.out
    obtain ⟨m, hm⟩ : ∃ m, m = ((List.range j).filterMap (condP ts L)).length := ⟨_, rfl⟩
    rw [← hm] at hvf
    subst hvf
    have hm200 : m ≤ 200 := by have := conds_len ts L j; omega
    have HMM := Lib.hid hm
    clear hwk hir hm hfa
    go_upto_region 5 with (first
     | (refine wpList_store_row (o := ⟨none, .store 99 _ _, _, _, _, _⟩) rfl 99 _ _ rfl w4.heap.size (partC sm).toArray rfl rfl 99 Try.zeroCells99 (heap_alloc_new _ _) (size_partA _) (by rw [zero_part, List.size_toArray, partC_len]) (all_oneCell_toArray (partC_one _)) ?_)
     | (go_at_call 82
        refine (smallest_any P base a n c d L j wr (block_ext HB.out HJ.out.bld) (PartsIn.ext HJ.out.parts HB.out) (by omega) hj200 hb2).mono ?_
        rintro e w4 ⟨rfl, hb4⟩
        obtain ⟨sm, hsm⟩ : ∃ sm, sm = smallestP d.bn L j := ⟨_, rfl⟩
        rw [← hsm]
        have HSM := Lib.hid hsm
        have HB4 := Lib.hid hb4
        clear hsm hb4))
    obtain ⟨W5, hW5⟩ : ∃ W, W = (w4.alloc (.cells Try.zeroCells99 99)).setRow w4.heap.size (partC sm).toArray := ⟨_, rfl⟩
    rw [← hW5, put_none]
    have hp5 : W5.heap[w4.heap.size]? = some (partO sm) := by rw [hW5]; exact setRow_heap _ _ _ _ _ _ (heap_alloc_new _ _)
    have hb5 : Below wr.heap.size wr W5 := by rw [hW5]; exact below_setRow (ext_trans HB4.out (ext_alloc _ _)) HB4.out.size _
    have HP5 := Lib.hid hp5
    have HB5 := Lib.hid hb5
    have HNX : Hid (∀ w', Below wr.heap.size wr w' → condP ts L j = none → PartsIn w' w.heap.size (.slice af m cf) ((List.range (j + 1)).filterMap (condP ts L)) ∧ Below w.heap.size w w') := fun w' hb hc => by
     rw [conds_step, hc, List.append_nil]
     exact ⟨PartsIn.ext HM.out hb, ext_trans HB.out hb⟩
    clear hW5 hp5 hb5
    generalize w4.heap.size = bp at *
    by_cases hl1 : (pv ts j).length = 1
    rotate_left
    · have hd1 : (((pv ts j).length : Int) != 1) = true := by simp; omega
      have HCN := Lib.hid (cond_no1 (L := L) hl1)
      clear hl1
      refine region_ext (by kernel_rfl) (by kernel_rfl) ?_
      repeat (first
       | go_big_quiet_skip
       | go_big_quiet_step (fail))
      refine wpQuiet_nil ?_
      intro _ hw'
      obtain ⟨n', rfl⟩ := hw'
      have HNE := Lib.hid (HNX.out n'.val (ext_trans HB5.out n'.ext) (HCN.out))
      generalize n'.val = W9 at *
      go_wp2
      go_roundw
      case rel => exact ⟨j + 1, by omega, by go_num, HNE.out.1, HNE.out.2⟩
      case measure => simp [intOf]; omega
    obtain ⟨y, hy⟩ : ∃ y, pv ts j = [y] := List.length_eq_one_iff.1 hl1
    have hyn : y < d.bn := by
     have h1 : j ∈ nx ts y := (mem_pv ts j y).1 (by rw [hy]; simp)
     rw [← HBN.out]
     apply Classical.byContradiction
     intro hge
     rw [nx_none ts y (by omega)] at h1
     cases h1
    obtain ⟨tb, to0, ra2, rc2, hta, hct, _⟩ := HWK.out.2.2.1.2.2 y (nx ts y) (by simp [toRows, HBN.out, hyn])
    have hir := HIR.out
    rw [hl1, hy] at hir
    obtain ⟨b1, o1, rfl, hcy, _⟩ := hir.2.2 0 (by omega)
    have g1 : ∀ q : ExtW W5, q.val.cell? ⟨b1, o1, none⟩ = some (.int .i64 (y : Int)) := ExtW.cell (cell_ext HB5.out (by simpa [intsN] using hcy))
    have g2 : ∀ q : ExtW W5, q.val.cell? ⟨P, 2, none⟩ = some (.slice (some ⟨tb, to0, none⟩) d.bn d.tc) := ExtW.cell (by rw [← hta, cell_of_row _ _ _ _ _ _ (block_ext (ext_trans HB.out HB5.out) HJ.out.bld)]; rfl)
    have g3 : ∀ q : ExtW W5, q.val.cell? ⟨tb, to0 + y, none⟩ = some (.slice ra2 (nx ts y).length rc2) := ExtW.cell (cell_ext HB5.out hct)
    have g4 : ∀ q : ExtW W5, q.val.cell? ⟨bp, 200, none⟩ = some (.int .i64 sm.kind) := ExtW.cell (partK_cell HP5.out).1
    have g5 : ∀ q : ExtW W5, q.val.cell? ⟨bp, 201, none⟩ = some (.int .i64 sm.entry) := ExtW.cell (partK_cell HP5.out).2
    have hyn' : (y : Int) < (d.bn : Int) := by omega
    have HY := Lib.hid hy
    have HL1 := Lib.hid hl1
    have HSM2 : Hid (sm = smallestP ts.length L j) := by rw [Hid, HBN.out]; exact HSM.out
    rw [hl1]
    clear hir hcy hct hta hy hl1 HIR HSM
    by_cases hl2 : (nx ts y).length = 2
    rotate_left
    · have hd2 : (((nx ts y).length : Int) != 2) = true := by simp; omega
      have HCN : Hid (condP ts L j = none) := cond_no2 (by rw [HY.out]; exact hl2)
      clear hl2
      refine region_ext (by kernel_rfl) (by kernel_rfl) ?_
      repeat (first
       | go_big_quiet_skip
       | go_big_quiet_step (fail))
      refine wpQuiet_nil ?_
      intro _ hw'
      obtain ⟨n', rfl⟩ := hw'
      have HNE := Lib.hid (HNX.out n'.val (ext_trans HB5.out n'.ext) (HCN.out))
      generalize n'.val = W9 at *
      go_wp2
      go_roundw
      case rel => exact ⟨j + 1, by omega, by go_num, HNE.out.1, HNE.out.2⟩
      case measure => simp [intOf]; omega
    have HL2 := Lib.hid hl2
    rw [hl2] at g3
    clear hl2
    by_cases hkd : sm.kind = 3
    · have HCN : Hid (condP ts L j = none) := cond_no3 (by rw [← HSM2.out]; exact hkd)
      rw [hkd] at g4
      clear hkd
      refine region_ext (by kernel_rfl) (by kernel_rfl) ?_
      repeat (first
       | go_big_quiet_skip
       | go_big_quiet_step (fail))
      refine wpQuiet_nil ?_
      intro _ hw'
      obtain ⟨n', rfl⟩ := hw'
      have HNE := Lib.hid (HNX.out n'.val (ext_trans HB5.out n'.ext) (HCN.out))
      generalize n'.val = W9 at *
      go_wp2
      go_roundw
      case rel => exact ⟨j + 1, by omega, by go_num, HNE.out.1, HNE.out.2⟩
      case measure => simp [intOf]; omega
    have HKD := Lib.hid hkd
    have hd3 : (sm.kind == 3) = false := by simpa using hkd
    clear hkd
    by_cases hen : sm.entry = (j : Int)
    · have HCN : Hid (condP ts L j = none) := cond_no4 (by rw [← HSM2.out]; exact hen)
      rw [hen] at g5
      clear hen
      refine region_ext (by kernel_rfl) (by kernel_rfl) ?_
      repeat (first
       | go_big_quiet_skip
       | go_big_quiet_step (fail))
      refine wpQuiet_nil ?_
      intro _ hw'
      obtain ⟨n', rfl⟩ := hw'
      have HNE := Lib.hid (HNX.out n'.val (ext_trans HB5.out n'.ext) (HCN.out))
      generalize n'.val = W9 at *
      go_wp2
      go_roundw
      case rel => exact ⟨j + 1, by omega, by go_num, HNE.out.1, HNE.out.2⟩
      case measure => simp [intOf]; omega
    have HEN := Lib.hid hen
    have hd4 : (sm.entry == (j : Int)) = false := by simpa using hen
    clear hen
    refine region_ext (by kernel_rfl) (by kernel_rfl) ?_
    repeat (first
     | go_big_quiet_skip
     | go_big_quiet_step (fail))
    refine wpQuiet_nil ?_
    intro _ hw'
    obtain ⟨n', rfl⟩ := hw'
    have hp6 := block_ext n'.ext HP5.out
    have HB6 := Lib.hid (ext_trans HB5.out n'.ext)
    clear g1 g2 g3 g4 g5
    generalize n'.val = W6 at *
    have h1 := part_set0 hp6
    have HCS : Hid (Canon sm.s) := by rw [Hid, HSM2.out, HBN.out]; exact small_canon hb2 j L HCAN.out
    obtain ⟨gs, hgs⟩ : ∃ f, f = guardedP ts j sm.s := ⟨_, rfl⟩
    have HGS := Lib.hid hgs
    clear hgs
    go_upto_region 7 with (first
     | (refine wpList_load_mid (op := ⟨some 52, .load 78 _, _, _, _, _⟩) rfl 78 _ rfl bp 0 rfl (setA sm.s).toList _ h1 Try.underlying78 rfl (by rw [Array.length_toList, setA_size]; exact size_set) ?_)
     | (refine wpList_store_row (o := ⟨none, .store 78 _ _, _, _, _, _⟩) rfl 78 _ _ rfl w7.heap.size (setA gs) rfl rfl 78 Try.zeroCells78 (heap_alloc_new _ _) (by rw [setA_size]; exact size_set) (by rw [setA_size]; kernel_rfl) (setA_all _) ?_)
     | (go_at_call 83
        refine (guarded_any P d ts (.slice a n c) j sm.s W6 (block_ext (ext_trans HB.out HB6.out) HJ.out.bld) (HWK.out.ext HB6.out) HF.out hj200 HCS.out).mono ?_
        rintro e w7 ⟨rfl, hb7⟩
        rw [← HGS.out]
        have HB7 := Lib.hid (ext_trans HB6.out hb7)
        clear hb7))
    obtain ⟨W8, hW8⟩ : ∃ W, W = (w7.alloc (.cells Try.zeroCells78 78)).setRow w7.heap.size (setA gs) := ⟨_, rfl⟩
    rw [← hW8, put_none]
    have hs8 : W8.heap[w7.heap.size]? = some (setO gs) := by rw [hW8]; exact setRow_heap _ _ _ _ _ _ (heap_alloc_new _ _)
    have hb8 : Below wr.heap.size wr W8 := by rw [hW8]; exact below_setRow (ext_trans HB7.out (ext_alloc _ _)) HB7.out.size _
    have HS8 := Lib.hid hs8
    have HB8 := Lib.hid hb8
    clear hW8 hs8 hb8
    generalize w7.heap.size = gb at *
    go_upto_if 56 with (first
     | (refine wpList_load_row (o := ⟨some 54, .load 78 _, _, _, _, _⟩) rfl 78 _ rfl gb rfl 78 (setA gs) (0, 0) _ HS8.out Try.underlying78 rfl (by rw [setA_size]; exact size_set) ?_)
     | (go_at_call 84
        refine (many_any gs W8).mono ?_
        rintro e w9 ⟨rfl, hb9⟩
        have HB9 := Lib.hid (ext_trans HB8.out hb9)
        have HS9 := Lib.hid (block_ext hb9 HS8.out)
        clear hb9))
    by_cases hmn : 1 < (listS gs).length
    · have hmn' : (1 : Int) < ((listS gs).length : Int) := by omega
      have hmn2 : decide (((listS gs).length : Int) > 1) = true := decide_eq_true hmn'
      have HCN : Hid (condP ts L j = some ⟨gs, 4, (j : Int)⟩) := by
       have := cond_yes (ts := ts) (L := L) (j := j) (by rw [HY.out]; rfl) (by rw [HY.out]; exact HL2.out) (by rw [← HSM2.out]; exact HKD.out) (by rw [← HSM2.out]; exact HEN.out) (by rw [← HSM2.out, ← HGS.out]; exact hmn)
       rw [← HSM2.out, ← HGS.out] at this
       exact this
      have HOWN9 := Lib.hid (PartsIn.ext HM.out HB9.out)
      clear hmn
      have hbs9 : w.heap.size ≤ w9.heap.size := Nat.le_trans HB.out.size HB9.out.size
      go_wp2_with (first
       | (refine wpList_load_row (o := ⟨some 58, .load 78 _, _, _, _, _⟩) rfl 78 _ rfl gb rfl 78 (setA gs) (0, 0) _ HS9.out Try.underlying78 rfl (by rw [setA_size]; exact size_set) ?_)
       | (refine wpList_part (o := ⟨some 60, .build 99 _, _, _, _, _⟩) rfl _ _ _ gs 4 (j : Int) rfl rfl rfl rfl ?_)
       | (refine wpList_rowPart (o := ⟨some 61, .buildSlice 92 _ _, _, _, _, _⟩) rfl _ ⟨gs, 4, (j : Int)⟩ rfl rfl ?_)
       | (refine wpList_append1 (o := ⟨some 62, .call _, _, _, _, _⟩) rfl w9 (.tmp 57) (.tmp 61) 92 99 rfl w.heap.size _ 202 216 Try.underlying92 infoPart (by kernel_rfl) (by omega) (.slice af m cf) m _ (partC ⟨gs, 4, (j : Int)⟩) rfl (by rw [HMM.out]; have := HOWN9.out.1; rw [← HMM.out] at this ⊢; exact this) w9.heap.size rfl rfl (partC_len _) (partC_one _) (by simp only [maxLen]; omega) (by omega) hbs9 ?_
          intro g cap w10 hown10 hg10 hat10
          have HO10 := Lib.hid hown10
          have HG10 := Lib.hid hg10
          clear hown10 hg10 hat10))
      go_roundw
      case rel =>
       refine ⟨j + 1, by omega, by go_num, ?_, ?_⟩
       · rw [conds_step, HCN.out]
         refine ⟨?_, ?_⟩
         · rw [List.length_append, List.flatMap_append, ← HMM.out]
           simpa using HO10.out
         · have := HMM.out
           simp
           omega
       · exact (ext_trans HB.out HB9.out).grown HG10.out hbs9 (fun q e => (OwnR.low HM.out e).1)
      case measure => simp [intOf]; omega
    · have hmn' : ¬ (1 : Int) < ((listS gs).length : Int) := by omega
      have hmn2 : decide (((listS gs).length : Int) > 1) = false := decide_eq_false hmn'
      have HCN : Hid (condP ts L j = none) := cond_no5 (by rw [← HSM2.out, ← HGS.out]; exact hmn)
      have HNE := Lib.hid (HNX.out w9 HB9.out HCN.out)
      clear hmn
      go_wp2
      go_roundw
      case rel => exact ⟨j + 1, by omega, by go_num, HNE.out.1, HNE.out.2⟩
      case measure => simp [intOf]; omega
  · have hje : j = d.bn := by omega
    have hlt' : ¬ (j : Int) < (d.bn : Int) := by omega
    have hM := HM.out
    rw [hje, ← HBN.out] at hM
    obtain ⟨M, hMM⟩ : ∃ M, M = condsP ts L := ⟨_, rfl⟩
    have hM2 : PartsIn wr w.heap.size u2 M := by rw [hMM]; exact hM
    obtain ⟨af, cf, hvf⟩ := OwnR.form hM2
    obtain ⟨m, hm⟩ : ∃ m, m = M.length := ⟨_, rfl⟩
    rw [← hm] at hvf
    subst hvf
    have hm200 : m ≤ 200 := by
     have := conds_len ts L ts.length
     rw [hm, hMM, condsP]
     rw [HBN.out] at this ⊢
     omega
    have HM2 := Lib.hid hM2
    have HMM := Lib.hid hMM
    have HMl := Lib.hid hm
    have hJ := HJ.out.ext' HB.out
    have HJ9 := Lib.hid hJ
    have hc4 := hJ.cell
    have hbs := hJ.bs
    clear hM hMM hM2 hm hJ HM
    go_wp2_with (
     (refine wpList_appendR wr rfl (.tmp 68) (.tmp 69) 92 99 rfl base _ 202 216 Try.underlying92 infoPart (by kernel_rfl) (by omega) (.slice a n c) n _ rfl (by have := HJ9.out.parts.1; rw [← HN.out] at this; exact this) af m cf rfl (M.flatMap partC) (by rw [HMl.out]; exact flatMap_len partC 202 partC_len M) (Recs.news (OwnR.recs partC_len HM2.out) partC_len (by omega)) (fun u hu => by obtain ⟨p, _, hp⟩ := List.mem_flatMap.1 hu; exact partC_one p u hp) (by simp only [maxLen]; omega) (by omega) hbs ?_
      intro v' w3 hown3 hg3 hat3
      obtain ⟨a', c', rfl⟩ := own_form2 hown3
      have hP3 : w3.heap[P]? = some (bldO d (.slice a n c)) := grown_row hg3 HJ9.out.bld (own_other HJ9.out.parts.1 HJ9.out.bld (by decide))
      have hf3 : w3.frozen? ⟨P, 4, none⟩ = false := frozen_of_row _ _ _ _ _ hP3
      have hl3 := lt_of_heap hP3
      have hc3 : w3.cell? ⟨P, 4, none⟩ = some (.slice a n c) := (by rw [cell_of_row _ _ _ _ _ _ hP3]; rfl)
      have happ := HJ9.out.app (M := M) hg3 (by rw [← HN.out, ← HMl.out]; exact hown3) (by rw [← HN.out, ← HMl.out]; omega)
      have HAPP := Lib.hid happ
      have HAT := Lib.hid hat3
      clear hown3 hg3 hat3 happ hP3 hc4))
    go_end0
    refine ⟨rfl, _, by rw [← HMM.out]; exact HAPP.out.1, ((chg_below HB.out).mono (fun _ h => h.elim)).then HAPP.out.2 (fun q hq => .inl hq), fun q hq => ?_⟩
    rcases HAT.out with h | h
    · exact .inl (by rw [← h]; exact hq)
    · rw [h] at hq
      injection hq with hq
      exact .inr (by have := HB.out.size; omega)
end
end Go.Proofs.Ytblhmdhfhaencaa
