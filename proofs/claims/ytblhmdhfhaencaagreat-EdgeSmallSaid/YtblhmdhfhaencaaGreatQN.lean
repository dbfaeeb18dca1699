/-
 Building tiles: conditionals.
-/
import Derived.Test.YtblhmdhfhaencaaGreatDA
import Derived.Test.YtblhmdhfhaencaaGreatEA
import Derived.Test.YtblhmdhfhaencaaGreatTD
import Derived.RangeFuncNested
import Derived.RangeFuncLeaves
import Derived.Test.YtblhmdhfhaencaaGreatDE
namespace Go.Proofs.YtblhmdhfhaencaaGreat
set_option linter.unusedSimpArgs false
set_option linter.unusedVariables false
set_option linter.unusedSectionVars false
set_option maxRecDepth 100000
set_option maxHeartbeats 40000000
section
open Go.RowKit Go.Shelf
theorem conds_step (ts : List TermD) (L : List PartD) (j : Nat) : (List.range (j + 1)).filterMap (condP ts L) = (List.range j).filterMap (condP ts L) ++ (match condP ts L j with | some p => [p] | none => []) := by
 rw [List.range_succ, List.filterMap_append]
 congr 1
 cases h : condP ts L j <;> simp [h]
theorem conds_len (ts : List TermD) (L : List PartD) (j : Nat) : ((List.range j).filterMap (condP ts L)).length ≤ j := by
 have := List.length_filterMap_le (condP ts L) (List.range j)
 simpa using this
theorem cond_no1 {ts : List TermD} {L : List PartD} {j : Nat} (h : (pv ts j).length ≠ 1) : condP ts L j = none := by unfold condP; rw [if_neg fun hh => h hh.1]
theorem cond_no2 {ts : List TermD} {L : List PartD} {j : Nat} (h : (nx ts ((pv ts j).headD 0)).length ≠ 2) : condP ts L j = none := by unfold condP; rw [if_neg fun hh => h hh.2.1]
theorem cond_no3 {ts : List TermD} {L : List PartD} {j : Nat} (h : (smallestP ts.length L j).kind = 3) : condP ts L j = none := by unfold condP; rw [if_neg fun hh => hh.2.2.1 h]
theorem cond_no4 {ts : List TermD} {L : List PartD} {j : Nat} (h : (smallestP ts.length L j).entry = j) : condP ts L j = none := by unfold condP; rw [if_neg fun hh => hh.2.2.2.1 h]
theorem cond_no5 {ts : List TermD} {L : List PartD} {j : Nat} (h : ¬ 1 < (listS (guardedP ts j (smallestP ts.length L j).s)).length) : condP ts L j = none := by unfold condP; rw [if_neg fun hh => h hh.2.2.2.2]
theorem cond_yes {ts : List TermD} {L : List PartD} {j : Nat} (h1 : (pv ts j).length = 1) (h2 : (nx ts ((pv ts j).headD 0)).length = 2) (h3 : (smallestP ts.length L j).kind ≠ 3) (h4 : (smallestP ts.length L j).entry ≠ j) (h5 : 1 < (listS (guardedP ts j (smallestP ts.length L j).s)).length) :
  condP ts L j = some ⟨guardedP ts j (smallestP ts.length L j).s, 4, j⟩ := by unfold condP; rw [if_pos ⟨h1, h2, h3, h4, h5⟩]
end

section
open Go.RowKit
attribute [local go_sem] Oper.semAt_some wide_fn wide_depth wide_fnR wide_depthR
def PtsPost (w : World) (L : List PartD) (e : Ending) (w' : World) : Prop := ∃ v, e = .returned v ∧ PtsIn w' w.heap.size v L ∧ Below w.heap.size w w'
theorem PtsIn.form {W : World} {base : Nat} {v : Value} {L : List PartD} (h : PtsIn W base v L) : ∃ a c, v = .slice a L.length c := OwnR.form h
theorem conds17_any (pa : Option Addr) (pn pc : Nat) (ba : Option Addr) (bn bc : Nat) (bs : List BlkH) (a : Option Addr) (n c base : Nat) (L : List PartD) (w : World) (hb : BlksOK w ba bn bs) (hf : fitsB (tsOf bs) = true) (F : LoopsF (tsOf bs) (wholeS (tsOf bs).length) L) (h : PtsIn w base (.slice a n c) L) (hn : n ≤ 1000) :
  Calls Tryz.prog 74 #[funcV pa pn pc ba bn bc, .slice a n c] w (PtsPost w (condsP (tsOf bs) L)) := by
 have hg : goodB (tsOf bs) = true := (fits_facts hf).1
 have hgg := (goodB_iff _).1 hg
 have hbn : bn ≤ 200 := by have := hgg.1.2; rw [tsOf_len, hb.1.1] at this; exact this
 have hbn1 : 1 ≤ bn := by have := hgg.1.1; rw [tsOf_len, hb.1.1] at this; exact this
 have HTL : Hid ((tsOf bs).length = bn) := by rw [Hid, tsOf_len, hb.1.1]
 have hlen : L.length = n := by
  obtain ⟨_, _, e⟩ := OwnR.form h;injection e with _ e _;exact e.symm
 have HLN := Lib.hid hlen
 have H := Lib.hid hb
 have HL := Lib.hid h
 have HF := Lib.hid F
 have HG := Lib.hid hg
 clear hb h F hgg hlen hg hf
 go_enter Tryz.func74, Tryz.ntmps74
 go_upto_region 1 with (fail)
 obtain ⟨W, hW⟩ : ∃ W, W = w.alloc (funcO pa pn pc ba bn bc) := ⟨_, rfl⟩
 rw [← hW]
 have h0 : W.heap[w.heap.size]? = some (funcO pa pn pc ba bn bc) := by rw [hW]; exact heap_alloc_new _ _
 have h1 : W.heap.size = w.heap.size + 1 := by rw [hW]; simp
 have h2 : Below w.heap.size w W := by rw [hW]; exact ext_alloc _ _
 have H0 := Lib.hid h0
 have H1 := Lib.hid h1
 have H2 := Lib.hid h2
 clear hW h0 h1 h2
 go_wp2
 go_loopw [5, 6, 7, 8, 9, 10, 11] (fun s5 s6 _ _ _ _ _ wr => ∃ j : Nat, 1 ≤ j ∧ j ≤ bn ∧ s6 = .int .i64 (j : Int) ∧ Hid (PtsIn wr (w.heap.size + 1) s5 ((List.range j).filterMap (condP (tsOf bs) L))) ∧ Hid (wr.heap[w.heap.size]? = some (funcO pa pn pc ba bn bc)) ∧ Hid (Below w.heap.size w wr)) (fun _ s6 _ _ _ _ _ _ => bn - (intOf s6).toNat)
 case atStart => exact ⟨1, by omega, by omega, rfl, by rw [show (List.range 1).filterMap (condP (tsOf bs) L) = [] by simp [List.range_succ, cond_first HG.out]]; exact OwnR.nil _ _ _ _ _, H0, H2⟩
 case round =>
  obtain ⟨j, hj1, hj, rfl, HM, HO, HB⟩ := hrel;clear H0 H1 H2;have kf := HO.out;have k1 : wr.cell? ⟨w.heap.size, 1, none⟩ = some (.slice ba bn bc) := by rw [cell_of_row _ _ _ _ _ _ kf]; rfl
  clear kf;have hws := lt_of_heap HO.out;by_cases hlt : j < bn
  · have hlt' : (j : Int) < (bn : Int) := by omega
    have hj200 : j < 200 := by omega
    obtain ⟨af, cf, hvf⟩ := OwnR.form HM.out;obtain ⟨m, hm⟩ : ∃ m, m = ((List.range j).filterMap (condP (tsOf bs) L)).length := ⟨_, rfl⟩
    rw [← hm] at hvf;subst hvf;have hm200 : m ≤ 200 := by have := conds_len (tsOf bs) L j; omega
    have HMM := Lib.hid hm;clear hm;have HNX : Hid (∀ w', Below wr.heap.size wr w' → condP (tsOf bs) L j = none → PtsIn w' (w.heap.size + 1) (.slice af m cf) ((List.range (j + 1)).filterMap (condP (tsOf bs) L)) ∧ w'.heap[w.heap.size]? = some (funcO pa pn pc ba bn bc) ∧ Below w.heap.size w w') := fun w' hb hc => by
     rw [conds_step, hc, List.append_nil];exact ⟨PtsIn.ext HM.out hb, block_ext hb HO.out, ext_trans HB.out hb⟩
    go_upto_region 7 with (first
     | (refine wpList_load_row (o := ⟨some 22, .load 25 _, _, _, _, _⟩) rfl 25 _ rfl w.heap.size rfl 25 _ (0, 0) _ HO4.out Tryz.underlying25 rfl size_func ?_)
     | (refine wpList_store_row (o := ⟨none, .store 107 _ _, _, _, _, _⟩) rfl 107 _ _ rfl w5.heap.size (setA (wholeS bn)) rfl rfl 107 _ (heap_alloc_new _ _) (by rw [setA_size]; exact size_rset) rfl (setA_all _) ?_)
     | (go_at_call 73
        refine (whole17_any pa pn pc ba bn bc hbn w4).mono ?_;rintro e w5 ⟨rfl, hb5⟩;have HB5 := Lib.hid (ext_trans HB4.out hb5)
        clear hb5)
     | (go_at_call 125
        refine (smallest17_any a n c base (tsOf bs) (by rw [HTL.out]; exact hbn) L HF.out j hj200 wr (PtsIn.ext HL.out HB.out) hn).mono ?_;rintro e w4 ⟨⟨best, rfl, hsm⟩, hb4⟩;have HSM := Lib.hid hsm.done;have HB4 := Lib.hid hb4;have HO4 := Lib.hid (block_ext hb4 HO.out)
        clear hsm hb4 k1))
    obtain ⟨W6, hW6⟩ : ∃ W, W = (w5.alloc (.cells Tryz.zeroCells107 107)).setRow w5.heap.size (setA (wholeS bn)) := ⟨_, rfl⟩
    rw [← hW6, put_none];have hp6 : W6.heap[w5.heap.size]? = some (rsetO (wholeS bn)) := by rw [hW6]; exact setRow_heap _ _ _ _ _ _ (heap_alloc_new _ _)
    have hb6 : Below wr.heap.size wr W6 := by rw [hW6]; exact below_setRow (ext_trans HB5.out (ext_alloc _ _)) HB5.out.size _
    have hgs : wr.heap.size ≤ w5.heap.size := HB5.out.size;have HP6 := Lib.hid hp6;have HB6 := Lib.hid hb6;clear hW6 hp6 hb6;obtain ⟨bp, hbp⟩ : ∃ g, g = w5.heap.size := ⟨_, rfl⟩
    rw [← hbp] at HP6 hgs ⊢;clear hbp HB4 HO4 HB5;obtain ⟨sm, hsm⟩ : ∃ sm, sm = smallestP bn L j := ⟨_, rfl⟩
    have HSM2 : Hid (sm = smallestP (tsOf bs).length L j) := by rw [Hid, HTL.out]; exact hsm
    have hsmc : (best = -1 ∧ sm = wholeP bn) ∨ ∃ i : Nat, best = i ∧ i < n ∧ L.getD i zPart = sm := by
     rw [HSM2.out];have := HSM.out;rw [HLN.out, HTL.out] at this;rw [HTL.out]; exact this
    have hsmlow : ∀ y, sm.s y = true → y < bn := by
     rcases hsmc with ⟨_, e⟩ | ⟨i, _, hi, e⟩
     · intro y hy; rw [e] at hy; simpa [wholeP, wholeS] using hy
     · intro y hy;have hmem : L.getD i zPart ∈ L := by rw [List.getD_eq_getElem?_getD, List.getElem?_eq_getElem (by rw [HLN.out]; exact hi)]; exact List.getElem_mem _
       rw [e] at hmem;have := (HF.out.ok sm hmem).low y hy;rw [HTL.out] at this; omega
    have HLOW := Lib.hid hsmlow;clear hsm hsmlow HSM
    go_upto_if 25 with (fail)
    go_cut [] (fun wx => Hid (wx.heap[bp]? = some (rsetO sm.s)) ∧ Hid (Below wr.heap.size wr wx))
    case first =>
     rcases hsmc with ⟨rfl, rfl⟩ | ⟨i, rfl, hi, hgi⟩
     · go_wp2_with fail
       go_meet
       exact ⟨HP6, HB6⟩
     · have hi' : (i : Int) < (n : Int) := by omega
       have hform : ∃ g, a = some ⟨g, 0, none⟩ := by
        obtain ⟨g, c', e⟩ := own_form HL.out.1 (by have := HLN.out; omega);injection e with e _ _;exact ⟨g, e⟩
       obtain ⟨gg, rfl⟩ := hform;obtain ⟨_, rj, _, _⟩ := pt_range ((PtsIn.ext HL.out (ext_trans HB.out HB6.out)).range hi);rw [hgi] at rj;have RJ := Lib.hid rj;clear rj hgi;have h6 := HP6.out
       go_wp2_with (first
        | (refine wpList_load_mid rfl 107 _ rfl gg (i * 202 + 1) rfl (setA sm.s).toList _ RJ.out Tryz.underlying107 rfl (by rw [Array.length_toList, setA_size]; exact size_rset) ?_)
        | (refine wpList_store_row rfl 107 _ _ rfl bp (setA sm.s) rfl rfl 107 _ HP6.out (by rw [setA_size]; exact size_rset) (by rw [setA_size, setA_size]) (setA_all _) ?_))
       go_meet
       exact ⟨setRow_heap _ _ _ _ _ _ HP6.out, below_setRow HB6.out hgs _⟩
    case rest =>
     obtain ⟨HP7, HB7⟩ := hcut;clear HP6 HB6;obtain ⟨pl, hpl⟩ : ∃ x, x = (pv (tsOf bs) j).length := ⟨_, rfl⟩
     obtain ⟨br, hbr⟩ : ∃ x, x = brV (tsOf bs) (pv (tsOf bs) j) := ⟨_, rfl⟩
     have HPL := Lib.hid hpl;have HBR := Lib.hid hbr;clear hpl hbr
     go_upto_region 10 with (first
      | (refine wpList_load_row (o := ⟨some 32, .load 25 _, _, _, _, _⟩) rfl 25 _ rfl w.heap.size rfl 25 _ (0, 0) _ (block_ext HB7.out HO.out) Tryz.underlying25 rfl size_func ?_)
      | (go_at_call 126
         refine (edges17_any pa pn pc ba bn bc bs j wc (H.out.ext (ext_trans HB.out HB7.out)) HG.out hj200).mono ?_;rintro e w8 ⟨rfl, hb8⟩;rw [← HPL.out, ← HBR.out];have HP8 := Lib.hid (block_ext hb8 HP7.out);have HB8 := Lib.hid (ext_trans HB7.out hb8)
         clear hb8))
     clear HP7 HB7;obtain ⟨bb, hbb⟩ : ∃ bb : Bool, bb = decide (pl ≠ 1 ∨ br = false ∨ sm.kind = 3 ∨ sm.entry = (j : Int)) := ⟨_, rfl⟩
     have HBB := Lib.hid hbb;clear hbb;have hpl9 : pl ≤ 1000 := by rw [HPL.out]; have := pvAt_len (tsOf bs) (tsOf bs).length 0 j; rw [pvAt_end, HTL.out] at this; omega
     go_cut [63] (fun s63 wx => s63 = .bool bb ∧ Hid (wx = w8))
     case first =>
      by_cases h1 : pl = 1
      rotate_left
      · have d1 : ((pl : Int) != 1) = true := by simp; omega
        have HB1 : Hid (bb = true) := by rw [Hid, HBB.out]; simp [h1]
        clear h1
        go_wp2_with fail
        go_meet
        exact ⟨by rw [HB1.out], rfl⟩
      have d1 : ((pl : Int) != 1) = false := by simp; omega
      have H1 := Lib.hid h1;clear h1;cases br with
      | false =>
        have HB1 : Hid (bb = true) := by rw [Hid, HBB.out]; simp
        go_wp2_with fail
        go_meet
        exact ⟨by rw [HB1.out], rfl⟩
      | true =>
        rcases hsmc with ⟨rfl, hsme⟩ | ⟨i, rfl, hi, hgi⟩
        · have HB1 : Hid (bb = false) := by rw [Hid, HBB.out, H1.out, hsme]; simp [wholeP]; omega
          clear hsme
          go_wp2_with fail
          go_meet
          exact ⟨by rw [HB1.out], rfl⟩
        · have hi' : (i : Int) < (n : Int) := by omega
          have hi0 : ¬ (i : Int) < 0 := by omega
          have hform : ∃ g, a = some ⟨g, 0, none⟩ := by
           obtain ⟨g, c', e⟩ := own_form HL.out.1 (by have := HLN.out; omega);injection e with e _ _;exact ⟨g, e⟩
          obtain ⟨gg, rfl⟩ := hform;obtain ⟨ck, _, ce, _⟩ := pt_range ((PtsIn.ext HL.out (ext_trans HB.out HB8.out)).range hi);rw [hgi] at ck ce;obtain ⟨kd, hkd⟩ : ∃ x, x = sm.kind := ⟨_, rfl⟩
          obtain ⟨en, hen⟩ : ∃ x, x = sm.entry := ⟨_, rfl⟩
          rw [← hkd] at ck;rw [← hen] at ce;have HBB2 : Hid (bb = decide (kd = 3 ∨ en = (j : Int))) := by rw [Hid, HBB.out, H1.out, hkd, hen]; simp
          clear hgi hkd hen;by_cases h3 : kd = 3
          · have d3 : (kd == 3) = true := by simpa using h3
            have HB1 : Hid (bb = true) := by rw [Hid, HBB2.out]; simp [h3]
            clear h3 ce
            go_wp2_with fail
            go_meet
            exact ⟨by rw [HB1.out], rfl⟩
          · have d3 : (kd == 3) = false := by simpa using h3
            have HB1 : Hid (bb = (en == (j : Int))) := by rw [Hid, HBB2.out, Bool.eq_iff_iff]; simp [h3]
            clear h3
            go_wp2_with fail
            go_meet
            exact ⟨by rw [HB1.out], rfl⟩
     case rest =>
      obtain ⟨rfl, hw⟩ := hcut;obtain rfl := hw.out;cases bb with
      | true =>
        have HCN : Hid (condP (tsOf bs) L j = none) := by
         have h := HBB.out;have h' := of_decide_eq_true h.symm;rcases h' with h' | h' | h' | h'
         · exact cond_no1 (by rw [← HPL.out]; exact h')
         · by_cases h1 : (pv (tsOf bs) j).length = 1
           · refine cond_no2 ?_;have := HBR.out;rw [h', br_one h1] at this;simpa using this.symm
           · exact cond_no1 h1
         · exact cond_no3 (by rw [← HSM2.out]; exact h')
         · exact cond_no4 (by rw [← HSM2.out]; exact h')
        have HNE := Lib.hid (HNX.out _ HB8.out HCN.out);go_wp2
        go_roundw
        case rel => exact ⟨j + 1, by omega, by omega, by go_num, HNE.out.1, HNE.out.2.1, HNE.out.2.2⟩
        case measure => simp [intOf]; omega
      | false =>
        have hnc : ¬ (pl ≠ 1 ∨ br = false ∨ sm.kind = 3 ∨ sm.entry = (j : Int)) := of_decide_eq_false HBB.out.symm;have HY1 : Hid ((pv (tsOf bs) j).length = 1) := by rw [Hid, ← HPL.out]; exact Classical.byContradiction fun h => hnc (.inl h)
        have HY2 : Hid ((nx (tsOf bs) ((pv (tsOf bs) j).headD 0)).length = 2) := by
         have h2 : br = true := by cases br with
          | true => rfl
          | false => exact absurd (.inr (.inl rfl)) hnc
         have := HBR.out;rw [h2, br_one HY1.out] at this;exact beq_iff_eq.1 this.symm
        have HY3 : Hid (sm.kind ≠ 3) := fun h => hnc (.inr (.inr (.inl h)));have HY4 : Hid (sm.entry ≠ (j : Int)) := fun h => hnc (.inr (.inr (.inr h)));clear hnc hsmc;obtain ⟨gs, hgs⟩ : ∃ f, f = guardedP (tsOf bs) j sm.s := ⟨_, rfl⟩
        have HGS := Lib.hid hgs;clear hgs
        go_upto_region 12 with (first
         | (refine wpList_load_row (o := ⟨some 64, .load 25 _, _, _, _, _⟩) rfl 25 _ rfl w.heap.size rfl 25 _ (0, 0) _ (block_ext HB8.out HO.out) Tryz.underlying25 rfl size_func ?_)
         | (refine wpList_load_row (o := ⟨some 66, .load 107 _, _, _, _, _⟩) rfl 107 _ rfl bp rfl 107 _ (0, 0) _ HP8.out Tryz.underlying107 rfl (by rw [setA_size]; exact size_rset) ?_)
         | (refine wpList_store_row (o := ⟨none, .store 107 _ _, _, _, _, _⟩) rfl 107 _ _ rfl w9.heap.size (setA gs) rfl rfl 107 _ (heap_alloc_new _ _) (by rw [setA_size]; exact size_rset) rfl (setA_all _) ?_)
         | (go_at_call 127
            refine (guarded17_any pa pn pc ba bn bc bs j sm.s wc (H.out.ext (ext_trans HB.out HB8.out)) HG.out hj200 hj1 HLOW.out).mono ?_;rintro e w9 ⟨rfl, hb9⟩;rw [← HGS.out];have HB9 := Lib.hid (ext_trans HB8.out hb9)
            clear hb9))
        obtain ⟨gb, hgb⟩ : ∃ g, g = w9.heap.size := ⟨_, rfl⟩
        obtain ⟨WA, hWA⟩ : ∃ W, W = (w9.alloc (.cells Tryz.zeroCells107 107)).setRow w9.heap.size (setA gs) := ⟨_, rfl⟩
        rw [← hWA, ← hgb, put_none];have hsA : WA.heap[gb]? = some (rsetO gs) := by rw [hWA, hgb]; exact setRow_heap _ _ _ _ _ _ (heap_alloc_new _ _)
        have hbA : Below wr.heap.size wr WA := by rw [hWA]; exact below_setRow (ext_trans HB9.out (ext_alloc _ _)) HB9.out.size _
        have HSA := Lib.hid hsA;have HBA := Lib.hid hbA;clear hWA hgb hsA hbA HB9 HB8 HP8;have HCT : Hid (cntS gs 200 = (listS gs).length) := rfl
        go_upto_if 70 with (first
         | (refine wpList_load_row (o := ⟨some 68, .load 107 _, _, _, _, _⟩) rfl 107 _ rfl gb rfl 107 (setA gs) (0, 0) _ HSA.out Tryz.underlying107 rfl (by rw [setA_size]; exact size_rset) ?_)
         | (go_at_call 99
            refine (many17_any gs WA).mono ?_;rintro e wB ⟨rfl, hbB⟩;rw [HCT.out];have HBB9 := Lib.hid (ext_trans HBA.out hbB);have HSB := Lib.hid (block_ext hbB HSA.out)
            clear hbB))
        by_cases hmn : 1 < (listS gs).length
        · have hmn' : (1 : Int) < ((listS gs).length : Int) := by omega
          have hmn2 : decide (((listS gs).length : Int) > 1) = true := decide_eq_true hmn';have HCN : Hid (condP (tsOf bs) L j = some ⟨gs, 4, (j : Int)⟩) := by
           have := cond_yes (ts := tsOf bs) (L := L) (j := j) HY1.out HY2.out (by rw [← HSM2.out]; exact HY3.out) (by rw [← HSM2.out]; exact HY4.out) (by rw [← HSM2.out, ← HGS.out]; exact hmn);rw [← HSM2.out, ← HGS.out] at this;exact this
          have HOWNB := Lib.hid (PtsIn.ext HM.out HBB9.out);have HOB := Lib.hid (block_ext HBB9.out HO.out);clear hmn;have hbsB : w.heap.size + 1 ≤ wB.heap.size := Nat.le_trans hws HBB9.out.size
          go_wp2_with (first
           | (refine wpList_load_row (o := ⟨some 72, .load 107 _, _, _, _, _⟩) rfl 107 _ rfl gb rfl 107 (setA gs) (0, 0) _ HSB.out Tryz.underlying107 rfl (by rw [setA_size]; exact size_rset) ?_)
           | (refine wpList_pt (o := ⟨some 74, .build 112 _, _, _, _, _⟩) rfl _ _ _ gs 4 (j : Int) rfl rfl rfl rfl ?_)
           | (refine wpList_rowPt (o := ⟨some 75, .buildSlice _ _ _, _, _, _, _⟩) rfl _ ⟨gs, 4, (j : Int)⟩ rfl rfl ?_)
           | (refine wpList_append1 (o := ⟨some 76, .call _, _, _, _, _⟩) rfl wB (.tmp 71) (.tmp 75) 104 112 rfl (w.heap.size + 1) _ 202 216 Tryz.underlying104 infoPt (by kernel_rfl) (by omega) (.slice af m cf) m _ (ptC ⟨gs, 4, (j : Int)⟩) rfl (by rw [HMM.out]; have := HOWNB.out.1; rw [← HMM.out] at this ⊢; exact this) wB.heap.size rfl rfl (ptC_len _) (ptC_one _) (by simp only [maxLen]; omega) (by omega) hbsB ?_
              intro g cap w10 hown10 hg10 hat10;have HO10 := Lib.hid hown10;have HG10 := Lib.hid hg10
              clear hown10 hg10 hat10))
          go_roundw
          case rel =>
           refine ⟨j + 1, by omega, by omega, by go_num, ?_, ?_, ?_⟩
           · rw [conds_step, HCN.out];refine ⟨?_, ?_⟩
             · rw [List.length_append, List.flatMap_append, ← HMM.out];simpa using HO10.out
             · have := HMM.out;simp;omega
           · exact grown_row HG10.out HOB.out (fun e => by have := (OwnR.low HM.out e).1; omega)
           · exact (ext_trans HB.out HBB9.out).grown HG10.out (by omega) (fun q e => by have := (OwnR.low HM.out e).1; omega)
          case measure => simp [intOf]; omega
        · have hmn' : ¬ (1 : Int) < ((listS gs).length : Int) := by omega
          have hmn2 : decide (((listS gs).length : Int) > 1) = false := decide_eq_false hmn';have HCN : Hid (condP (tsOf bs) L j = none) := cond_no5 (by rw [← HSM2.out, ← HGS.out]; exact hmn);have HNE := Lib.hid (HNX.out wB HBB9.out HCN.out);clear hmn;go_wp2
          go_roundw
          case rel => exact ⟨j + 1, by omega, by omega, by go_num, HNE.out.1, HNE.out.2.1, HNE.out.2.2⟩
          case measure => simp [intOf]; omega
  · obtain rfl : j = bn := by omega
    have hM := HM.out;rw [← HTL.out] at hM;have hM2 : PtsIn wr (w.heap.size + 1) u5 (condsP (tsOf bs) L) := hM;obtain ⟨va, vc, rfl⟩ := hM2.form;have HM2 := Lib.hid (PtsIn.mono hM2 (show w.heap.size ≤ w.heap.size + 1 by omega));generalize (condsP (tsOf bs) L).length = m at *;clear hM hM2;go_wp2
    go_ret
    exact ⟨_, rfl, HM2.out, HB.out⟩
end

section
open Go.RowKit Go.Shelf
theorem own_head {w : World} {base : Nat} {v : Value} {l : List Nat} (h : OwnI w base v (intsN l)) (hl : l ≠ []) : ∃ g n c, v = .slice (some ⟨g, 0, none⟩) n c ∧ 0 < n ∧ w.cell? ⟨g, 0, none⟩ = some (.int .i64 ((l.headD 0 : Nat) : Int)) := by
 cases l with
 | nil => exact absurd rfl hl
 | cons x l =>
   rcases h.1.2 with ⟨_, h0⟩ | ⟨g, cap, cur, hv, _, hg, hc1, _, hcs, htk⟩
   · simp [intsN] at h0
   · refine ⟨g, _, cap, hv, by simp [intsN], ?_⟩;rw [cell_of_row _ _ _ _ _ _ hg];have : (cur.toList.take ((intsN (x :: l)).length * 1))[0]? = some (.int .i64 (x : Int)) := by rw [htk]; rfl
     rw [List.getElem?_take] at this;simpa [intsN] using this
end
end Go.Proofs.YtblhmdhfhaencaaGreat
