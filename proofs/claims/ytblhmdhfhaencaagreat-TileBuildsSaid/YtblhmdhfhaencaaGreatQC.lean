/-
  The document's answer to layer 17: conditionals.
-/
import Derived.Test.YtblhmdhfhaencaaGreatDE
import Derived.Test.YtblhmdhfhaencaaGreatAT
import Derived.Test.YtblhmdhfhaencaaGreatTR
import Derived.Deep.CutBlock
import Derived.Deep.DeepCutAuto
namespace Go.Proofs.YtblhmdhfhaencaaGreat
set_option linter.unusedSimpArgs false
set_option linter.unusedVariables false
set_option linter.unusedSectionVars false
set_option maxRecDepth 100000
set_option maxHeartbeats 40000000
section
open Go.RowKit
attribute [local go_sem] Oper.semAt_some wide_fn wide_depth wide_fnR wide_depthR
def PtsPost (w : World) (L : List PartD) (e : Ending) (w' : World) : Prop := ∃ v, e = .returned v ∧ PtsIn w' w.heap.size v L ∧ Below w.heap.size w w'
theorem PtsIn.form {W : World} {base : Nat} {v : Value} {L : List PartD} (h : PtsIn W base v L) : ∃ a c, v = .slice a L.length c := OwnR.form h
theorem conds17_any (pa : Option Addr) (pn pc : Nat) (ba : Option Addr) (bn bc : Nat) (bs : List BlkH) (a : Option Addr) (n c base : Nat) (L : List PartD) (w : World) (hb : BlksOK w ba bn bs) (hf : fitsB (tsOf bs) = true) (F : LoopsF (tsOf bs) (wholeS (tsOf bs).length) L) (h : PtsIn w base (.slice a n c) L) (hn : n ≤ 1000) :
    Calls Tryz.prog 74 #[funcV pa pn pc ba bn bc, .slice a n c] w (PtsPost w (condsP (tsOf bs) L)) := by
  have hg : goodB (tsOf bs) = true := (fits_facts hf).1
  have hgg := (goodB_iff _).1 hg
  have hbn : bn ≤ 200 := by have := hgg.1.2; rw [tsOf_len, hb.1.1] at this; exact this
  have hbn1 : 1 ≤ bn := by have := hgg.1.1; rw [tsOf_len, hb.1.1] at this; exact this
  have HTL : Hid ((tsOf bs).length = bn) := by rw [Hid, tsOf_len, hb.1.1]
  have hlen : L.length = n := by
    obtain ⟨_, _, e⟩ := OwnR.form h;injection e with _ e _;exact e.symm
  have HLN := Lib.hid hlen
  have H := Lib.hid hb
  have HL := Lib.hid h
  have HF := Lib.hid F
  have HG := Lib.hid hg
  clear hb h F hgg hlen hg hf
  go_enter Tryz.func74, Tryz.ntmps74
  go_upto_region 1 with (fail)
  obtain ⟨W, hW⟩ : ∃ W, W = w.alloc (funcO pa pn pc ba bn bc) := ⟨_, rfl⟩
  rw [← hW]
  have h0 : W.heap[w.heap.size]? = some (funcO pa pn pc ba bn bc) := by rw [hW]; exact heap_alloc_new _ _
  have h1 : W.heap.size = w.heap.size + 1 := by rw [hW]; simp
  have h2 : Below w.heap.size w W := by rw [hW]; exact ext_alloc _ _
  have H0 := Lib.hid h0
  have H1 := Lib.hid h1
  have H2 := Lib.hid h2
  clear hW h0 h1 h2
  go_wp2
  go_loopw [5, 6, 7, 8, 9, 10, 11] (fun s5 s6 _ _ _ _ _ wr => ∃ j : Nat, 1 ≤ j ∧ j ≤ bn ∧ s6 = .int .i64 (j : Int) ∧ Hid (PtsIn wr (w.heap.size + 1) s5 ((List.range j).filterMap (condP (tsOf bs) L))) ∧ Hid (wr.heap[w.heap.size]? = some (funcO pa pn pc ba bn bc)) ∧ Hid (Below w.heap.size w wr)) (fun _ s6 _ _ _ _ _ _ => bn - (intOf s6).toNat)
  case atStart => exact ⟨1, by omega, by omega, rfl, by rw [show (List.range 1).filterMap (condP (tsOf bs) L) = [] by simp [List.range_succ, cond_first HG.out]]; exact OwnR.nil _ _ _ _ _, H0, H2⟩
  case round =>
    obtain ⟨j, hj1, hj, rfl, HM, HO, HB⟩ := hrel;clear H0 H1 H2;have kf := HO.out;have k1 : wr.cell? ⟨w.heap.size, 1, none⟩ = some (.slice ba bn bc) := by rw [cell_of_row _ _ _ _ _ _ kf]; rfl
    clear kf;have hws := lt_of_heap HO.out;by_cases hlt : j < bn
    · have hlt' : (j : Int) < (bn : Int) := by omega
      have hj200 : j < 200 := by omega
      obtain ⟨af, cf, hvf⟩ := OwnR.form HM.out;obtain ⟨m, hm⟩ : ∃ m, m = ((List.range j).filterMap (condP (tsOf bs) L)).length := ⟨_, rfl⟩
      rw [← hm] at hvf;subst hvf;have hm200 : m ≤ 200 := by have := conds_len (tsOf bs) L j; omega
      have HMM := Lib.hid hm;clear hm;have HNX : Hid (∀ w', Below wr.heap.size wr w' → condP (tsOf bs) L j = none → PtsIn w' (w.heap.size + 1) (.slice af m cf) ((List.range (j + 1)).filterMap (condP (tsOf bs) L)) ∧ w'.heap[w.heap.size]? = some (funcO pa pn pc ba bn bc) ∧ Below w.heap.size w w') := fun w' hb hc => by
        rw [conds_step, hc, List.append_nil];exact ⟨PtsIn.ext HM.out hb, block_ext hb HO.out, ext_trans HB.out hb⟩
      go_upto_region 7 with (first
        | (refine wpList_load_row (o := ⟨some 22, .load 25 _, _, _, _, _⟩) rfl 25 _ rfl w.heap.size rfl 25 _ (0, 0) _ HO4.out Tryz.underlying25 rfl size_func ?_)
        | (refine wpList_store_row (o := ⟨none, .store 107 _ _, _, _, _, _⟩) rfl 107 _ _ rfl w5.heap.size (setA (wholeS bn)) rfl rfl 107 _ (heap_alloc_new _ _) (by rw [setA_size]; exact size_rset) rfl (setA_all _) ?_)
        | (go_at_call 73
           refine (whole17_any pa pn pc ba bn bc hbn w4).mono ?_;rintro e w5 ⟨rfl, hb5⟩;have HB5 := Lib.hid (ext_trans HB4.out hb5)
           clear hb5)
        | (go_at_call 125
           refine (smallest17_any a n c base (tsOf bs) (by rw [HTL.out]; exact hbn) L HF.out j hj200 wr (PtsIn.ext HL.out HB.out) hn).mono ?_;rintro e w4 ⟨⟨best, rfl, hsm⟩, hb4⟩;have HSM := Lib.hid hsm.done;have HB4 := Lib.hid hb4;have HO4 := Lib.hid (block_ext hb4 HO.out)
           clear hsm hb4 k1))
      obtain ⟨W6, hW6⟩ : ∃ W, W = (w5.alloc (.cells Tryz.zeroCells107 107)).setRow w5.heap.size (setA (wholeS bn)) := ⟨_, rfl⟩
      rw [← hW6, put_none];have hp6 : W6.heap[w5.heap.size]? = some (rsetO (wholeS bn)) := by rw [hW6]; exact setRow_heap _ _ _ _ _ _ (heap_alloc_new _ _)
      have hb6 : Below wr.heap.size wr W6 := by rw [hW6]; exact below_setRow (ext_trans HB5.out (ext_alloc _ _)) HB5.out.size _
      have hgs : wr.heap.size ≤ w5.heap.size := HB5.out.size;have HP6 := Lib.hid hp6;have HB6 := Lib.hid hb6;clear hW6 hp6 hb6;obtain ⟨bp, hbp⟩ : ∃ g, g = w5.heap.size := ⟨_, rfl⟩
      rw [← hbp] at HP6 hgs ⊢;clear hbp HB4 HO4 HB5;obtain ⟨sm, hsm⟩ : ∃ sm, sm = smallestP bn L j := ⟨_, rfl⟩
      have HSM2 : Hid (sm = smallestP (tsOf bs).length L j) := by rw [Hid, HTL.out]; exact hsm
      have hsmc : (best = -1 ∧ sm = wholeP bn) ∨ ∃ i : Nat, best = i ∧ i < n ∧ L.getD i zPart = sm := by
        rw [HSM2.out];have := HSM.out;rw [HLN.out, HTL.out] at this;rw [HTL.out]; exact this
      have hsmlow : ∀ y, sm.s y = true → y < bn := by
        rcases hsmc with ⟨_, e⟩ | ⟨i, _, hi, e⟩
        · intro y hy; rw [e] at hy; simpa [wholeP, wholeS] using hy
        · intro y hy;have hmem : L.getD i zPart ∈ L := by rw [List.getD_eq_getElem?_getD, List.getElem?_eq_getElem (by rw [HLN.out]; exact hi)]; exact List.getElem_mem _
          rw [e] at hmem;have := (HF.out.ok sm hmem).low y hy;rw [HTL.out] at this; omega
      have HLOW := Lib.hid hsmlow;clear hsm hsmlow HSM
      go_upto_if 25 with (fail)
      go_cut [] (fun wx => Hid (wx.heap[bp]? = some (rsetO sm.s)) ∧ Hid (Below wr.heap.size wr wx))
      case first =>
        rcases hsmc with ⟨rfl, rfl⟩ | ⟨i, rfl, hi, hgi⟩
        · go_wp2_with fail
          go_meet
          exact ⟨HP6, HB6⟩
        · have hi' : (i : Int) < (n : Int) := by omega
          have hform : ∃ g, a = some ⟨g, 0, none⟩ := by
            obtain ⟨g, c', e⟩ := own_form HL.out.1 (by have := HLN.out; omega);injection e with e _ _;exact ⟨g, e⟩
          obtain ⟨gg, rfl⟩ := hform;obtain ⟨_, rj, _, _⟩ := pt_range ((PtsIn.ext HL.out (ext_trans HB.out HB6.out)).range hi);rw [hgi] at rj;have RJ := Lib.hid rj;clear rj hgi;have h6 := HP6.out
          go_wp2_with (first
            | (refine wpList_load_mid rfl 107 _ rfl gg (i * 202 + 1) rfl (setA sm.s).toList _ RJ.out Tryz.underlying107 rfl (by rw [Array.length_toList, setA_size]; exact size_rset) ?_)
            | (refine wpList_store_row rfl 107 _ _ rfl bp (setA sm.s) rfl rfl 107 _ HP6.out (by rw [setA_size]; exact size_rset) (by rw [setA_size, setA_size]) (setA_all _) ?_))
          go_meet
          exact ⟨setRow_heap _ _ _ _ _ _ HP6.out, below_setRow HB6.out hgs _⟩
      case rest =>
        obtain ⟨HP7, HB7⟩ := hcut;clear HP6 HB6;obtain ⟨pl, hpl⟩ : ∃ x, x = (pv (tsOf bs) j).length := ⟨_, rfl⟩
        obtain ⟨br, hbr⟩ : ∃ x, x = brV (tsOf bs) (pv (tsOf bs) j) := ⟨_, rfl⟩
        have HPL := Lib.hid hpl;have HBR := Lib.hid hbr;clear hpl hbr
        go_upto_region 10 with (first
          | (refine wpList_load_row (o := ⟨some 32, .load 25 _, _, _, _, _⟩) rfl 25 _ rfl w.heap.size rfl 25 _ (0, 0) _ (block_ext HB7.out HO.out) Tryz.underlying25 rfl size_func ?_)
          | (go_at_call 126
             refine (edges17_any pa pn pc ba bn bc bs j wc (H.out.ext (ext_trans HB.out HB7.out)) HG.out hj200).mono ?_;rintro e w8 ⟨rfl, hb8⟩;rw [← HPL.out, ← HBR.out];have HP8 := Lib.hid (block_ext hb8 HP7.out);have HB8 := Lib.hid (ext_trans HB7.out hb8)
             clear hb8))
        clear HP7 HB7;obtain ⟨bb, hbb⟩ : ∃ bb : Bool, bb = decide (pl ≠ 1 ∨ br = false ∨ sm.kind = 3 ∨ sm.entry = (j : Int)) := ⟨_, rfl⟩
        have HBB := Lib.hid hbb;clear hbb;have hpl9 : pl ≤ 1000 := by rw [HPL.out]; have := pvAt_len (tsOf bs) (tsOf bs).length 0 j; rw [pvAt_end, HTL.out] at this; omega
        go_cut [63] (fun s63 wx => s63 = .bool bb ∧ Hid (wx = w8))
        case first =>
          by_cases h1 : pl = 1
          rotate_left
          · have d1 : ((pl : Int) != 1) = true := by simp; omega
            have HB1 : Hid (bb = true) := by rw [Hid, HBB.out]; simp [h1]
            clear h1
            go_wp2_with fail
            go_meet
            exact ⟨by rw [HB1.out], rfl⟩
          have d1 : ((pl : Int) != 1) = false := by simp; omega
          have H1 := Lib.hid h1;clear h1;cases br with
          | false =>
            have HB1 : Hid (bb = true) := by rw [Hid, HBB.out]; simp
            go_wp2_with fail
            go_meet
            exact ⟨by rw [HB1.out], rfl⟩
          | true =>
            rcases hsmc with ⟨rfl, hsme⟩ | ⟨i, rfl, hi, hgi⟩
            · have HB1 : Hid (bb = false) := by rw [Hid, HBB.out, H1.out, hsme]; simp [wholeP]; omega
              clear hsme
              go_wp2_with fail
              go_meet
              exact ⟨by rw [HB1.out], rfl⟩
            · have hi' : (i : Int) < (n : Int) := by omega
              have hi0 : ¬ (i : Int) < 0 := by omega
              have hform : ∃ g, a = some ⟨g, 0, none⟩ := by
                obtain ⟨g, c', e⟩ := own_form HL.out.1 (by have := HLN.out; omega);injection e with e _ _;exact ⟨g, e⟩
              obtain ⟨gg, rfl⟩ := hform;obtain ⟨ck, _, ce, _⟩ := pt_range ((PtsIn.ext HL.out (ext_trans HB.out HB8.out)).range hi);rw [hgi] at ck ce;obtain ⟨kd, hkd⟩ : ∃ x, x = sm.kind := ⟨_, rfl⟩
              obtain ⟨en, hen⟩ : ∃ x, x = sm.entry := ⟨_, rfl⟩
              rw [← hkd] at ck;rw [← hen] at ce;have HBB2 : Hid (bb = decide (kd = 3 ∨ en = (j : Int))) := by rw [Hid, HBB.out, H1.out, hkd, hen]; simp
              clear hgi hkd hen;by_cases h3 : kd = 3
              · have d3 : (kd == 3) = true := by simpa using h3
                have HB1 : Hid (bb = true) := by rw [Hid, HBB2.out]; simp [h3]
                clear h3 ce
                go_wp2_with fail
                go_meet
                exact ⟨by rw [HB1.out], rfl⟩
              · have d3 : (kd == 3) = false := by simpa using h3
                have HB1 : Hid (bb = (en == (j : Int))) := by rw [Hid, HBB2.out, Bool.eq_iff_iff]; simp [h3]
                clear h3
                go_wp2_with fail
                go_meet
                exact ⟨by rw [HB1.out], rfl⟩
        case rest =>
          obtain ⟨rfl, hw⟩ := hcut;obtain rfl := hw.out;cases bb with
          | true =>
            have HCN : Hid (condP (tsOf bs) L j = none) := by
              have h := HBB.out;have h' := of_decide_eq_true h.symm;rcases h' with h' | h' | h' | h'
              · exact cond_no1 (by rw [← HPL.out]; exact h')
              · by_cases h1 : (pv (tsOf bs) j).length = 1
                · refine cond_no2 ?_;have := HBR.out;rw [h', br_one h1] at this;simpa using this.symm
                · exact cond_no1 h1
              · exact cond_no3 (by rw [← HSM2.out]; exact h')
              · exact cond_no4 (by rw [← HSM2.out]; exact h')
            have HNE := Lib.hid (HNX.out _ HB8.out HCN.out);go_wp2
            go_roundw
            case rel => exact ⟨j + 1, by omega, by omega, by go_num, HNE.out.1, HNE.out.2.1, HNE.out.2.2⟩
            case measure => simp [intOf]; omega
          | false =>
            have hnc : ¬ (pl ≠ 1 ∨ br = false ∨ sm.kind = 3 ∨ sm.entry = (j : Int)) := of_decide_eq_false HBB.out.symm;have HY1 : Hid ((pv (tsOf bs) j).length = 1) := by rw [Hid, ← HPL.out]; exact Classical.byContradiction fun h => hnc (.inl h)
            have HY2 : Hid ((nx (tsOf bs) ((pv (tsOf bs) j).headD 0)).length = 2) := by
              have h2 : br = true := by cases br with
                | true => rfl
                | false => exact absurd (.inr (.inl rfl)) hnc
              have := HBR.out;rw [h2, br_one HY1.out] at this;exact beq_iff_eq.1 this.symm
            have HY3 : Hid (sm.kind ≠ 3) := fun h => hnc (.inr (.inr (.inl h)));have HY4 : Hid (sm.entry ≠ (j : Int)) := fun h => hnc (.inr (.inr (.inr h)));clear hnc hsmc;obtain ⟨gs, hgs⟩ : ∃ f, f = guardedP (tsOf bs) j sm.s := ⟨_, rfl⟩
            have HGS := Lib.hid hgs;clear hgs
            go_upto_region 12 with (first
              | (refine wpList_load_row (o := ⟨some 64, .load 25 _, _, _, _, _⟩) rfl 25 _ rfl w.heap.size rfl 25 _ (0, 0) _ (block_ext HB8.out HO.out) Tryz.underlying25 rfl size_func ?_)
              | (refine wpList_load_row (o := ⟨some 66, .load 107 _, _, _, _, _⟩) rfl 107 _ rfl bp rfl 107 _ (0, 0) _ HP8.out Tryz.underlying107 rfl (by rw [setA_size]; exact size_rset) ?_)
              | (refine wpList_store_row (o := ⟨none, .store 107 _ _, _, _, _, _⟩) rfl 107 _ _ rfl w9.heap.size (setA gs) rfl rfl 107 _ (heap_alloc_new _ _) (by rw [setA_size]; exact size_rset) rfl (setA_all _) ?_)
              | (go_at_call 127
                 refine (guarded17_any pa pn pc ba bn bc bs j sm.s wc (H.out.ext (ext_trans HB.out HB8.out)) HG.out hj200 hj1 HLOW.out).mono ?_;rintro e w9 ⟨rfl, hb9⟩;rw [← HGS.out];have HB9 := Lib.hid (ext_trans HB8.out hb9)
                 clear hb9))
            obtain ⟨gb, hgb⟩ : ∃ g, g = w9.heap.size := ⟨_, rfl⟩
            obtain ⟨WA, hWA⟩ : ∃ W, W = (w9.alloc (.cells Tryz.zeroCells107 107)).setRow w9.heap.size (setA gs) := ⟨_, rfl⟩
            rw [← hWA, ← hgb, put_none];have hsA : WA.heap[gb]? = some (rsetO gs) := by rw [hWA, hgb]; exact setRow_heap _ _ _ _ _ _ (heap_alloc_new _ _)
            have hbA : Below wr.heap.size wr WA := by rw [hWA]; exact below_setRow (ext_trans HB9.out (ext_alloc _ _)) HB9.out.size _
            have HSA := Lib.hid hsA;have HBA := Lib.hid hbA;clear hWA hgb hsA hbA HB9 HB8 HP8;have HCT : Hid (cntS gs 200 = (listS gs).length) := rfl
            go_upto_if 70 with (first
              | (refine wpList_load_row (o := ⟨some 68, .load 107 _, _, _, _, _⟩) rfl 107 _ rfl gb rfl 107 (setA gs) (0, 0) _ HSA.out Tryz.underlying107 rfl (by rw [setA_size]; exact size_rset) ?_)
              | (go_at_call 99
                 refine (many17_any gs WA).mono ?_;rintro e wB ⟨rfl, hbB⟩;rw [HCT.out];have HBB9 := Lib.hid (ext_trans HBA.out hbB);have HSB := Lib.hid (block_ext hbB HSA.out)
                 clear hbB))
            by_cases hmn : 1 < (listS gs).length
            · have hmn' : (1 : Int) < ((listS gs).length : Int) := by omega
              have hmn2 : decide (((listS gs).length : Int) > 1) = true := decide_eq_true hmn';have HCN : Hid (condP (tsOf bs) L j = some ⟨gs, 4, (j : Int)⟩) := by
                have := cond_yes (ts := tsOf bs) (L := L) (j := j) HY1.out HY2.out (by rw [← HSM2.out]; exact HY3.out) (by rw [← HSM2.out]; exact HY4.out) (by rw [← HSM2.out, ← HGS.out]; exact hmn);rw [← HSM2.out, ← HGS.out] at this;exact this
              have HOWNB := Lib.hid (PtsIn.ext HM.out HBB9.out);have HOB := Lib.hid (block_ext HBB9.out HO.out);clear hmn;have hbsB : w.heap.size + 1 ≤ wB.heap.size := Nat.le_trans hws HBB9.out.size
              go_wp2_with (first
                | (refine wpList_load_row (o := ⟨some 72, .load 107 _, _, _, _, _⟩) rfl 107 _ rfl gb rfl 107 (setA gs) (0, 0) _ HSB.out Tryz.underlying107 rfl (by rw [setA_size]; exact size_rset) ?_)
                | (refine wpList_pt (o := ⟨some 74, .build 112 _, _, _, _, _⟩) rfl _ _ _ gs 4 (j : Int) rfl rfl rfl rfl ?_)
                | (refine wpList_rowPt (o := ⟨some 75, .buildSlice _ _ _, _, _, _, _⟩) rfl _ ⟨gs, 4, (j : Int)⟩ rfl rfl ?_)
                | (refine wpList_append1 (o := ⟨some 76, .call _, _, _, _, _⟩) rfl wB (.tmp 71) (.tmp 75) 104 112 rfl (w.heap.size + 1) _ 202 216 Tryz.underlying104 infoPt (by kernel_rfl) (by omega) (.slice af m cf) m _ (ptC ⟨gs, 4, (j : Int)⟩) rfl (by rw [HMM.out]; have := HOWNB.out.1; rw [← HMM.out] at this ⊢; exact this) wB.heap.size rfl rfl (ptC_len _) (ptC_one _) (by simp only [maxLen]; omega) (by omega) hbsB ?_
                   intro g cap w10 hown10 hg10 hat10;have HO10 := Lib.hid hown10;have HG10 := Lib.hid hg10
                   clear hown10 hg10 hat10))
              go_roundw
              case rel =>
                refine ⟨j + 1, by omega, by omega, by go_num, ?_, ?_, ?_⟩
                · rw [conds_step, HCN.out];refine ⟨?_, ?_⟩
                  · rw [List.length_append, List.flatMap_append, ← HMM.out];simpa using HO10.out
                  · have := HMM.out;simp;omega
                · exact grown_row HG10.out HOB.out (fun e => by have := (OwnR.low HM.out e).1; omega)
                · exact (ext_trans HB.out HBB9.out).grown HG10.out (by omega) (fun q e => by have := (OwnR.low HM.out e).1; omega)
              case measure => simp [intOf]; omega
            · have hmn' : ¬ (1 : Int) < ((listS gs).length : Int) := by omega
              have hmn2 : decide (((listS gs).length : Int) > 1) = false := decide_eq_false hmn';have HCN : Hid (condP (tsOf bs) L j = none) := cond_no5 (by rw [← HSM2.out, ← HGS.out]; exact hmn);have HNE := Lib.hid (HNX.out wB HBB9.out HCN.out);clear hmn;go_wp2
              go_roundw
              case rel => exact ⟨j + 1, by omega, by omega, by go_num, HNE.out.1, HNE.out.2.1, HNE.out.2.2⟩
              case measure => simp [intOf]; omega
    · obtain rfl : j = bn := by omega
      have hM := HM.out;rw [← HTL.out] at hM;have hM2 : PtsIn wr (w.heap.size + 1) u5 (condsP (tsOf bs) L) := hM;obtain ⟨va, vc, rfl⟩ := hM2.form;have HM2 := Lib.hid (PtsIn.mono hM2 (show w.heap.size ≤ w.heap.size + 1 by omega));generalize (condsP (tsOf bs) L).length = m at *;clear hM hM2;go_wp2
      go_ret
      exact ⟨_, rfl, HM2.out, HB.out⟩
end

section
open Go.RowKit Go.Shelf
theorem rotate_any (g n c a m b base : Nat) (fv : Value) (L : List PartD) (w : World) (h : PartsIn w base (.slice (some ⟨g, 0, none⟩) n c) L) (hn : n ≤ 1000000) (ham : a < m) (hmb : m < b) (hbn : b ≤ n) :
    Calls Tryz.prog 212 #[.slice (some ⟨g, 0, none⟩) n c, .int .i64 (a : Int), .int .i64 (m : Int), .int .i64 (b : Int), fv] w fun e w' => e = .returned (.tuple #[]) ∧
      ∃ L', PartsIn w' base (.slice (some ⟨g, 0, none⟩) n c) L' ∧ Sh zPart L L' a b ∧ (∀ k, L'.getD k zPart = rotR (fun k => L.getD k zPart) a m b k) ∧ Chg (fun k => k = g) w w' := by
  have H := Lib.hid h
  clear h
  go_enter Tryz.func212, Tryz.ntmps212
  go_wp2
  go_loopw [10, 11] (fun s10 s11 wr => ∃ (i j : Nat) (L1 : List PartD), s10 = .int .i64 (i : Int) ∧ s11 = .int .i64 (j : Int) ∧ 0 < i ∧ 0 < j ∧ a + i ≤ m ∧ m + j ≤ b ∧ Hid (PartsIn wr base (.slice (some ⟨g, 0, none⟩) n c) L1 ∧ Sh zPart L L1 a b ∧ rotR (fun k => L1.getD k zPart) (m - i) m (m + j) = rotR (fun k => L.getD k zPart) a m b ∧ Chg (fun k => k = g) w wr)) (fun s10 s11 _ => (intOf s10).toNat + (intOf s11).toNat)
  case atStart => exact ⟨m - a, b - m, L, by go_num, by go_num, by omega, by omega, by omega, by omega, H.out, Sh.refl _ _ _, by rw [show m - (m - a) = a by omega, show m + (b - m) = b by omega], Chg.refl _ _⟩
  case round =>
    obtain ⟨i, j, L1, rfl, rfl, hi, hj, him, hjb, HJ⟩ := hrel;have z1 : (i : Int) ≤ (m : Int) := by omega
    have z2 : (m : Int) + (j : Int) ≤ 1000000 := by omega
    by_cases hij : i = j
    · subst hij
      go_wp2_with (
        (go_at_call 220
         refine (swapRange_anyZ g n c (m - i) m i base _ _ _ fv L1 wr HJ.out.1 hn (by omega) (by omega) (by omega) (by omega) (by omega)).mono ?_;rintro e w2 ⟨rfl, L2, q1, q2, q3, q4⟩
         have HJ2 : Hid (PartsIn w2 base (.slice (some ⟨g, 0, none⟩) n c) L2 ∧ Sh zPart L L2 a b ∧ (∀ k, L2.getD k zPart = rotR (fun k => L.getD k zPart) a m b k) ∧ Chg (fun k => k = g) w w2) :=
           ⟨q1, HJ.out.2.1.trans (q2.mono (by omega) (by omega)), fun k => by rw [q3, rot_last _ (by omega), HJ.out.2.2.1], HJ.out.2.2.2.trans q4⟩
         clear q1 q2 q3 q4))
      go_end0
      exact ⟨rfl, L2, HJ2.out⟩
    · have dne : ((i : Int) != (j : Int)) = true := by simp; omega
      by_cases hlt : j < i
      · have dgt : decide ((i : Int) > (j : Int)) = true := by simp; omega
        have dgt2 : decide ((j : Int) < (i : Int)) = true := by simp; omega
        have dgt3 : decide (j < i) = true := by simp; omega
        clear hij
        go_wp2_with (
          (go_at_call 220
           refine (swapRange_anyZ g n c (m - i) m j base _ _ _ fv L1 wr HJ.out.1 hn (by omega) (by omega) (by omega) (by omega) (by omega)).mono ?_;rintro e w2 ⟨rfl, L2, q1, q2, q3, q4⟩
           have HJ2 : Hid (PartsIn w2 base (.slice (some ⟨g, 0, none⟩) n c) L2 ∧ Sh zPart L L2 a b ∧ rotR (fun k => L2.getD k zPart) (m - (i - j)) m (m + j) = rotR (fun k => L.getD k zPart) a m b ∧ Chg (fun k => k = g) w w2) :=
             ⟨q1, HJ.out.2.1.trans (q2.mono (by omega) (by omega)), by rw [← HJ.out.2.2.1, ← rot_step1 _ (by omega) hlt]; congr 1; funext k; exact q3 k, HJ.out.2.2.2.trans q4⟩
           clear q1 q2 q3 q4))
        go_roundw
        case rel => exact ⟨i - j, j, L2, by go_num, rfl, by omega, hj, by omega, hjb, HJ2⟩
        case measure => simp [intOf]; omega
      · have dgt : decide ((i : Int) > (j : Int)) = false := by simp; omega
        have dgt2 : decide ((j : Int) < (i : Int)) = false := by simp; omega
        have dgt3 : decide (j < i) = false := by simp; omega
        have hlt2 : i < j := by omega
        clear hij
        go_wp2_with (
          (go_at_call 220
           refine (swapRange_anyZ g n c (m - i) (m + j - i) i base _ _ _ fv L1 wr HJ.out.1 hn (by omega) (by omega) (by omega) (by omega) (by omega)).mono ?_;rintro e w2 ⟨rfl, L2, q1, q2, q3, q4⟩
           have HJ2 : Hid (PartsIn w2 base (.slice (some ⟨g, 0, none⟩) n c) L2 ∧ Sh zPart L L2 a b ∧ rotR (fun k => L2.getD k zPart) (m - i) m (m + (j - i)) = rotR (fun k => L.getD k zPart) a m b ∧ Chg (fun k => k = g) w w2) :=
             ⟨q1, HJ.out.2.1.trans (q2.mono (by omega) (by omega)), by rw [← HJ.out.2.2.1, ← rot_step2 _ (by omega) hlt2]; congr 1; funext k; exact q3 k, HJ.out.2.2.2.trans q4⟩
           clear q1 q2 q3 q4))
        go_roundw
        case rel => exact ⟨i, j - i, L2, rfl, by go_num, hi, by omega, him, by omega, HJ2⟩
        case measure => simp [intOf]; omega
structure SortJ (af : Nat) (cb : Array Value) (cf : PartD → PartD → Int) (key : PartD → Nat) (base g n c : Nat) (J : List PartD → World → Prop) : Prop where
  enter : ∀ args w, (callFunc af args).run Tryz.prog w = .ok (.enter af args) w
  cmp : ∀ L W, J L W → ∀ p q, p ∈ L → q ∈ L → Calls Tryz.prog af (#[partV p, partV q] ++ cb) W fun e W' => e = .returned (.int .i64 (cf p q)) ∧ Below W.heap.size W W'
  less : ∀ L W, J L W → ∀ p q, p ∈ L → q ∈ L → (cf p q < 0 ↔ key p < key q)
  parts : ∀ L W, J L W → PartsIn W base (.slice (some ⟨g, 0, none⟩) n c) L
  turn : ∀ L L' W W', J L W → L'.Perm L → PartsIn W' base (.slice (some ⟨g, 0, none⟩) n c) L' → Chg (fun k => k = g) W W' → J L' W'
theorem SortJ.ext {af : Nat} {cb : Array Value} {cf : PartD → PartD → Int} {key : PartD → Nat} {base g n c : Nat} {J : List PartD → World → Prop} (S : SortJ af cb cf key base g n c J) {L : List PartD} {W W' : World} (h : J L W) (hb : Below W.heap.size W W') : J L W' :=
  S.turn L L W W' h (List.Perm.refl _) ((S.parts L W h).ext hb) ((chg_below hb).mono fun k hk => hk.elim)
theorem getD_memQ {L : List PartD} {k : Nat} (h : k < L.length) : L.getD k zPart ∈ L := by
  rw [List.getD_eq_getElem?_getD, List.getElem?_eq_getElem h]; exact List.getElem_mem _
theorem insertion_any (af : Nat) (cb : Array Value) (cf : PartD → PartD → Int) (key : PartD → Nat) (base g n c : Nat) (J : List PartD → World → Prop) (S : SortJ af cb cf key base g n c J) (a b : Nat) (L : List PartD) (w : World) (h : J L w) (hn : n ≤ 1000000) (hab : a ≤ b) (hbn : b ≤ n) :
    Calls Tryz.prog 177 #[.slice (some ⟨g, 0, none⟩) n c, .int .i64 (a : Int), .int .i64 (b : Int), .func (.func af) #[] cb] w fun e w' => e = .returned (.tuple #[]) ∧
      ∃ L', J L' w' ∧ Sh zPart L L' a b ∧ Srt zPart key L' a b := by
  have H := Lib.hid h
  have HS := Lib.hid S
  have eF := S.enter
  clear h S
  have S := HS
  clear HS
  go_enter Tryz.func177, Tryz.ntmps177
  go_wp2
  go_loopw [8, 9] (fun s8 _ wr => ∃ (i : Nat) (L1 : List PartD), a + 1 ≤ i ∧ (i ≤ b ∨ i = a + 1) ∧ s8 = .int .i64 (i : Int) ∧ Hid (Srt zPart key L1 a i) ∧ Hid (Sh zPart L L1 a b) ∧ Hid (J L1 wr)) (fun s8 _ _ => b + 1 - (intOf s8).toNat)
  case atStart => exact ⟨a + 1, L, by omega, .inr rfl, by go_num, Srt.one key _ (by omega), Sh.refl _ _ _, H⟩
  case round =>
    obtain ⟨i, L1, hi1, hi2, rfl, HSR, HSH1, HJ1⟩ := hrel;by_cases hlt : i < b
    · have hlt' : (i : Int) < (b : Int) := by omega
      go_wp2
      go_loopw [9] (fun s9 wi => ∃ (j : Nat) (L2 : List PartD), j ≤ i ∧ s9 = .int .i64 (j : Int) ∧ Hid (InsJ zPart key L2 a i j) ∧ Hid (Sh zPart L L2 a b) ∧ Hid (J L2 wi)) (fun s9 _ => (intOf s9).toNat)
      case atStart => exact ⟨i, L1, by omega, rfl, InsJ.start key HSR.out (by omega), HSH1, HJ1⟩
      case round =>
        obtain ⟨j, L2, hj, rfl, HIJ0, HSH0, HJ⟩ := hrel;clear HSR HSH1 HJ1;have haj := HIJ0.out.low.1;by_cases hja : a < j
        · have dj : decide ((j : Int) > (a : Int)) = true := by simp; omega
          have dj2 : decide ((a : Int) < (j : Int)) = true := by simp; omega
          have dj3 : decide (a < j) = true := by simp; omega
          by_cases hcv : True
          · skip
            have h0 := S.out.parts _ _ HJ.out;have hL2 := h0.len;have hp1 : ∀ w', (∃ m : ExtW wr, w' = m.val) → w'.rangeAt g (j * 202) (partC (L2.getD j zPart)) := fun w' ⟨m, e⟩ => by rw [e]; exact part_range (h0.ext m.ext) (by omega)
            have hp2 : ∀ w', (∃ m : ExtW wr, w' = m.val) → w'.rangeAt g ((j - 1) * 202) (partC (L2.getD (j - 1) zPart)) := fun w' ⟨m, e⟩ => by rw [e]; exact part_range (h0.ext m.ext) (by omega)
            have HCM : Hid (∀ m : ExtW wr, Calls Tryz.prog af (#[partV (L2.getD j zPart), partV (L2.getD (j - 1) zPart)] ++ cb) m.val fun e w'' => e = .returned (.int .i64 (cf (L2.getD j zPart) (L2.getD (j - 1) zPart))) ∧ ∃ q : ExtW wr, w'' = q.val) := fun m => quiet_ext (S.out.cmp _ _ (S.out.ext HJ.out m.ext) _ _ (getD_memQ (by omega)) (getD_memQ (by omega)));have HLS := Lib.hid (S.out.less _ _ HJ.out _ _ (getD_memQ (L := L2) (k := j) (by omega)) (getD_memQ (L := L2) (k := j - 1) (by omega)));obtain ⟨cc, hcc⟩ : ∃ cc, cc = cf (L2.getD j zPart) (L2.getD (j - 1) zPart) := ⟨_, rfl⟩
            rw [← hcc] at HCM HLS;obtain ⟨xj, hxj⟩ : ∃ xj, xj = L2.getD j zPart := ⟨_, rfl⟩
            obtain ⟨xp, hxp⟩ : ∃ xp, xp = L2.getD (j - 1) zPart := ⟨_, rfl⟩
            rw [← hxj] at hp1 HCM;rw [← hxp] at hp2 HCM;have hji : ((j : Int) - 1).toNat = j - 1 := by omega
            have hjj : (0 : Int) ≤ (j : Int) - 1 := by omega
            have hjk : (j : Int) - 1 < (n : Int) := by omega
            have hjl : (j : Int) < (n : Int) := by omega
            clear hcc hxj hxp h0;go_wp2;refine region_ext (by kernel_rfl) (by kernel_rfl) ?_
            repeat (first
              | go_big_quiet_skip
              | (refine wpQuiet_load_mid (o := ⟨some 26, .load 128 _, _, _, _, _⟩) (by rfl) 128 _ rfl g (j * 202) rfl (partC xj) _ hp1 Tryz.underlying128 rfl (size_partC _) ?_; simp only [zJ,zG,zH,zI])
              | (refine wpQuiet_load_mid (o := ⟨some 31, .load 128 _, _, _, _, _⟩) (by rfl) 128 _ rfl g ((j - 1) * 202) rfl (partC xp) _ hp2 Tryz.underlying128 rfl (size_partC _) ?_; simp only [zJ,zG,zH,zI])
              | go_big_quiet_step (first | (go_at_fn af; exact HCM.out _)))
            refine wpQuiet_nil ?_;intro _ hw';obtain ⟨n', rfl⟩ := hw';have HJ1 := Lib.hid (S.out.ext HJ.out n'.ext);generalize n'.val = W8 at *;clear hp1 hp2 HCM;by_cases hlv : cc < 0
            · have dcc : decide (cc < 0) = true := by simpa using hlv
              have hkk := HLS.out.1 hlv;have HIJ : Hid (InsJ zPart key (swapL zPart L2 j (j - 1)) a i (j - 1)) := HIJ0.out.step key hja (by omega) (Nat.le_of_lt hkk);have HSH : Hid (Sh zPart L (swapL zPart L2 j (j - 1)) a b) := HSH0.out.trans (Sh.swap L2 (by omega) (by omega) (by omega));have h9 := S.out.parts _ _ HJ1.out;clear hkk HLS;go_wp2;have h1 := PartsIn.drew h9;have hr1 := part_range h1 (k := j) (by omega);have hr2 := part_range h1 (k := j - 1) (by omega);have ht1 := part_there h1 (k := j) (by omega) (L2.getD (j - 1) zPart);have h2 := part_set h1 (k := j) (by omega) (L2.getD (j - 1) zPart);have ht2 := part_there h2 (k := j - 1) (by omega) (L2.getD (j) zPart);have h3 := part_set h2 (k := j - 1) (by omega) (L2.getD (j) zPart);obtain ⟨w8, hw8⟩ : ∃ w8, w8 = W8.drew.setCells g ((j) * 202) (partC (L2.getD (j - 1) zPart)) := ⟨_, rfl⟩
              rw [← hw8] at ht2 h3;obtain ⟨w9, hw9⟩ : ∃ w9, w9 = w8.setCells g ((j - 1) * 202) (partC (L2.getD (j) zPart)) := ⟨_, rfl⟩
              rw [← hw9] at h3;have HSW : Hid (PartsIn w9 base (.slice (some ⟨g, 0, none⟩) n c) (swapL zPart L2 (j) (j - 1))) := h3;have HCW : Hid (Chg (fun k => k = g) W8 w9) := by
                rw [Hid, hw9, hw8];exact chg_setCells (S := fun k => k = g) rfl _ _ _ (chg_setCells (S := fun k => k = g) rfl _ _ _ ((Chg.refl _ _).drewN 1))
              clear h1 h2 h3;generalize L2.getD (j) zPart = xp at *;generalize L2.getD (j - 1) zPart = xq at *;refine z_start (fun _ => True) (by kernel_rfl) ?_;refine z_reads 0 9 (by kernel_rfl) trivial ?_;simp only [List.take_succ_cons, List.take_zero, List.drop_succ_cons, List.drop_zero]
              repeat (go_big_quiet_step (fail))
              refine wpQuiet_nil ?_;refine z_reads 10 3 (by kernel_rfl) trivial ?_;simp only [List.take_succ_cons, List.take_zero, List.drop_succ_cons, List.drop_zero]
              repeat (go_big_quiet_step (fail))
              refine wpQuiet_nil ?_;refine z_two 9 13 (by kernel_rfl) ?_ ?_
              · refine wpOp_atK rfl rfl ?_;refine wp_load_mid 128 _ rfl g ((j - 1) * 202) rfl (partC xq) _ hr2 Tryz.underlying128 rfl (size_partC _) ?_;refine ⟨Or.inr trivial, ?_⟩;simp only [zJ,zG,zH,zI];refine z_one 13 (by kernel_rfl) ?_;refine wpOp_atK rfl rfl ?_;refine wp_load_mid 128 _ rfl g ((j) * 202) rfl (partC xp) _ hr1 Tryz.underlying128 rfl (size_partC _) ?_;refine ⟨Or.inr trivial, ?_⟩;simp only [zJ,zG,zH,zI];refine z_reads 14 1 (by kernel_rfl) trivial ?_;simp only [List.take_succ_cons, List.take_zero, List.drop_succ_cons, List.drop_zero]
                repeat (go_big_quiet_step (fail))
                refine wpQuiet_nil ?_;refine z_one 15 (by kernel_rfl) ?_;refine wpOp_atK rfl rfl ?_;refine wp_store_mid 128 _ _ rfl g ((j) * 202) (partC xq).toArray rfl rfl ht1 (size_partA _) (all_oneCell_toArray (partC_one _)) ?_;simp only [put_none, toArr_toList];rw [← hw8];refine ⟨Or.inr trivial, ?_⟩;refine z_reads 16 1 (by kernel_rfl) trivial ?_;simp only [List.take_succ_cons, List.take_zero, List.drop_succ_cons, List.drop_zero]
                repeat (go_big_quiet_step (fail))
                refine wpQuiet_nil ?_;refine z_one 17 (by kernel_rfl) ?_;refine wpOp_atK rfl rfl ?_;refine wp_store_mid 128 _ _ rfl g ((j - 1) * 202) (partC xp).toArray rfl rfl ht2 (size_partA _) (all_oneCell_toArray (partC_one _)) ?_;simp only [put_none, toArr_toList];rw [← hw9];refine ⟨Or.inr trivial, ?_⟩;refine z_done (by kernel_rfl) ?_;clear hw9 hw8;have HJW : Hid (J (swapL zPart L2 j (j - 1)) w9) := S.out.turn _ _ _ _ HJ1.out (swapL_perm zPart L2 (by omega) (by omega)) HSW.out HCW.out;go_wp2
                go_roundw
                case rel => exact ⟨j - 1, _, by omega, by go_num, HIJ, HSH, HJW⟩
                case measure => simp [intOf]; omega
              · refine wpOp_atK rfl rfl ?_;refine wp_load_mid 128 _ rfl g ((j) * 202) rfl (partC xp) _ hr1 Tryz.underlying128 rfl (size_partC _) ?_;refine ⟨Or.inr trivial, ?_⟩;simp only [zJ,zG,zH,zI];refine z_one 9 (by kernel_rfl) ?_;refine wpOp_atK rfl rfl ?_;refine wp_load_mid 128 _ rfl g ((j - 1) * 202) rfl (partC xq) _ hr2 Tryz.underlying128 rfl (size_partC _) ?_;refine ⟨Or.inr trivial, ?_⟩;simp only [zJ,zG,zH,zI];refine z_reads 14 1 (by kernel_rfl) trivial ?_;simp only [List.take_succ_cons, List.take_zero, List.drop_succ_cons, List.drop_zero]
                repeat (go_big_quiet_step (fail))
                refine wpQuiet_nil ?_;refine z_one 15 (by kernel_rfl) ?_;refine wpOp_atK rfl rfl ?_;refine wp_store_mid 128 _ _ rfl g ((j) * 202) (partC xq).toArray rfl rfl ht1 (size_partA _) (all_oneCell_toArray (partC_one _)) ?_;simp only [put_none, toArr_toList];rw [← hw8];refine ⟨Or.inr trivial, ?_⟩;refine z_reads 16 1 (by kernel_rfl) trivial ?_;simp only [List.take_succ_cons, List.take_zero, List.drop_succ_cons, List.drop_zero]
                repeat (go_big_quiet_step (fail))
                refine wpQuiet_nil ?_;refine z_one 17 (by kernel_rfl) ?_;refine wpOp_atK rfl rfl ?_;refine wp_store_mid 128 _ _ rfl g ((j - 1) * 202) (partC xp).toArray rfl rfl ht2 (size_partA _) (all_oneCell_toArray (partC_one _)) ?_;simp only [put_none, toArr_toList];rw [← hw9];refine ⟨Or.inr trivial, ?_⟩;refine z_done (by kernel_rfl) ?_;clear hw9 hw8;have HJW : Hid (J (swapL zPart L2 j (j - 1)) w9) := S.out.turn _ _ _ _ HJ1.out (swapL_perm zPart L2 (by omega) (by omega)) HSW.out HCW.out;go_wp2
                go_roundw
                case rel => exact ⟨j - 1, _, by omega, by go_num, HIJ, HSH, HJW⟩
                case measure => simp [intOf]; omega
            · have dcc : decide (cc < 0) = false := by simpa using hlv
              have HSR2 : Hid (Srt zPart key L2 a (i + 1)) := HIJ0.out.fin key (.inr (Nat.le_of_not_lt fun h => hlv (HLS.out.2 h)));clear HLS;go_wp2
              go_roundw
              case rel => exact ⟨i + 1, L2, by omega, .inl (by omega), by go_num, HSR2, HSH0, HJ1⟩
              case measure => simp [intOf]; omega
          · exact absurd trivial hcv
        · have dj : decide ((j : Int) > (a : Int)) = false := by simp; omega
          have dj2 : decide ((a : Int) < (j : Int)) = false := by simp; omega
          have dj3 : decide (a < j) = false := by simp; omega
          have HSR2 : Hid (Srt zPart key L2 a (i + 1)) := HIJ0.out.fin key (.inl (by omega));go_wp2;refine region_ext (by kernel_rfl) (by kernel_rfl) ?_
          repeat (first
            | go_big_quiet_skip
            | go_big_quiet_step (fail))
          refine wpQuiet_nil ?_;intro _ hw';obtain ⟨n', rfl⟩ := hw';have HJ1 := Lib.hid (S.out.ext HJ.out n'.ext);generalize n'.val = W8 at *;go_wp2
          go_roundw
          case rel => exact ⟨i + 1, L2, by omega, .inl (by omega), by go_num, HSR2, HSH0, HJ1⟩
          case measure => simp [intOf]; omega
    · have hlt' : ¬ (i : Int) < (b : Int) := by omega
      have HF : Hid (Srt zPart key L1 a b) := by
        by_cases e : i = b
        · subst e; exact HSR.out
        · exact Srt.one key _ (by omega)
      go_wp2
      go_end0
      exact ⟨rfl, L1, HJ1.out, HSH1.out, HF.out⟩
end

section
open Go.RowKit Go.Shelf
theorem symLeft_any (af : Nat) (cb : Array Value) (cf : PartD → PartD → Int) (key : PartD → Nat) (base g n c : Nat) (J : List PartD → World → Prop) (S : SortJ af cb cf key base g n c J) (hn : n ≤ 1000000) (a m b : Nat) (L : List PartD) (w : World) (h : J L w) (ham : a < m) (hmb : m < b) (hbn : b ≤ n) (hs1 : Srt zPart key L a m) (hs2 : Srt zPart key L m b) (h1 : m = a + 1) :
    Calls Tryz.prog 178 #[.slice (some ⟨g, 0, none⟩) n c, .int .i64 (a : Int), .int .i64 (m : Int), .int .i64 (b : Int), .func (.func af) #[] cb] w fun e w' => e = .returned (.tuple #[]) ∧
      ∃ L', J L' w' ∧ Sh zPart L L' a b ∧ Srt zPart key L' a b := by
  have H := Lib.hid h
  have HS := Lib.hid S
  have eF := S.enter
  have HS1 := Lib.hid hs1
  have HS2 := Lib.hid hs2
  have hlen := (S.parts _ _ h).len
  have zab : (a : Int) < (m : Int) := by omega
  have zmb : (m : Int) < (b : Int) := by omega
  have zbn : (b : Int) ≤ 1000000 := by omega
  clear h S hs1 hs2
  have S := HS
  clear HS
  have d1 : ((m : Int) - (a : Int) == 1) = true := by simp; omega
  go_enter Tryz.func178, Tryz.ntmps178
  go_wp2
  go_loopw [10, 11, 12] (fun s10 s11 _ wr => ∃ i j : Nat, m ≤ i ∧ i ≤ j ∧ j ≤ b ∧ s10 = .int .i64 (i : Int) ∧ s11 = .int .i64 (j : Int) ∧ Hid (i = m ∨ kAt zPart key L (i - 1) ≤ kAt zPart key L a) ∧ Hid (j = b ∨ kAt zPart key L a ≤ kAt zPart key L j) ∧ Hid (J L wr)) (fun s10 s11 _ _ => (intOf s11).toNat - (intOf s10).toNat)
  case atStart => exact ⟨m, b, by omega, by omega, by omega, rfl, rfl, .inl rfl, .inl rfl, H⟩
  case round =>
    obtain ⟨i, j, hi1, hij, hjb, rfl, rfl, HI, HJJ, HJ⟩ := hrel;by_cases hlt : i < j
    · have hlt' : (i : Int) < (j : Int) := by omega
      obtain ⟨q, hq⟩ : ∃ q : Nat, q = (i + j) / 2 := ⟨_, rfl⟩
      have hmid : ((i : Int) + (j : Int)) / 2 = (q : Int) := by omega
      have hq1 : i ≤ q := by omega
      have hq2 : q < j := by omega
      have hqn : (q : Int) < (n : Int) := by omega
      have han : (a : Int) < (n : Int) := by omega
      have zij : (i : Int) + (j : Int) ≤ 2000000 := by omega
      clear hq;have h0 := S.out.parts _ _ HJ.out;have hL2 := h0.len;have hp1 : ∀ w', (∃ nn : ExtW wr, w' = nn.val) → w'.rangeAt g (q * 202) (partC (L.getD q zPart)) := fun w' ⟨nn, e⟩ => by rw [e]; exact part_range (h0.ext nn.ext) (by omega)
      have hp2 : ∀ w', (∃ nn : ExtW wr, w' = nn.val) → w'.rangeAt g (a * 202) (partC (L.getD a zPart)) := fun w' ⟨nn, e⟩ => by rw [e]; exact part_range (h0.ext nn.ext) (by omega)
      have HCM : Hid (∀ nn : ExtW wr, Calls Tryz.prog af (#[partV (L.getD q zPart), partV (L.getD a zPart)] ++ cb) nn.val fun e w'' => e = .returned (.int .i64 (cf (L.getD q zPart) (L.getD a zPart))) ∧ ∃ q : ExtW wr, w'' = q.val) := fun nn => quiet_ext (S.out.cmp _ _ (S.out.ext HJ.out nn.ext) _ _ (getD_memQ (by omega)) (getD_memQ (by omega)));have HLS := Lib.hid (S.out.less _ _ HJ.out _ _ (getD_memQ (L := L) (k := q) (by omega)) (getD_memQ (L := L) (k := a) (by omega)));obtain ⟨cc, hcc⟩ : ∃ cc, cc = cf (L.getD q zPart) (L.getD a zPart) := ⟨_, rfl⟩
      rw [← hcc] at HCM HLS;obtain ⟨xj, hxj⟩ : ∃ xj, xj = L.getD q zPart := ⟨_, rfl⟩
      obtain ⟨xp, hxp⟩ : ∃ xp, xp = L.getD a zPart := ⟨_, rfl⟩
      rw [← hxj] at hp1 HCM;rw [← hxp] at hp2 HCM;clear hcc hxj hxp h0;go_wp2;refine region_ext (by kernel_rfl) (by kernel_rfl) ?_
      repeat (first
        | go_big_quiet_skip
        | (refine wpQuiet_load_mid (o := ⟨some 44, .load 128 _, _, _, _, _⟩) (by rfl) 128 _ rfl g (q * 202) rfl (partC xj) _ hp1 Tryz.underlying128 rfl (size_partC _) ?_; simp only [zJ,zG,zH,zI])
        | (refine wpQuiet_load_mid (o := ⟨some 48, .load 128 _, _, _, _, _⟩) (by rfl) 128 _ rfl g (a * 202) rfl (partC xp) _ hp2 Tryz.underlying128 rfl (size_partC _) ?_; simp only [zJ,zG,zH,zI])
        | go_big_quiet_step (first | (go_at_fn af; exact HCM.out _)))
      refine wpQuiet_nil ?_;intro _ hw';obtain ⟨n', rfl⟩ := hw';have HJ1 := Lib.hid (S.out.ext HJ.out n'.ext);generalize n'.val = W8 at *;clear hp1 hp2 HCM;by_cases hlv : cc < 0
      · have dcc : decide (cc < 0) = true := by simpa using hlv
        have HI2 : Hid (q + 1 = m ∨ kAt zPart key L (q + 1 - 1) ≤ kAt zPart key L a) := .inr (Nat.le_of_lt (HLS.out.1 hlv));clear HLS;go_wp2
        go_roundw
        case rel => exact ⟨q + 1, j, by omega, by omega, hjb, by go_num, rfl, HI2, HJJ, HJ1⟩
        case measure => simp [intOf]; omega
      · have dcc : decide (cc < 0) = false := by simpa using hlv
        have HJ2 : Hid (q = b ∨ kAt zPart key L a ≤ kAt zPart key L q) := .inr (Nat.le_of_not_lt fun h => hlv (HLS.out.2 h));clear HLS;go_wp2
        go_roundw
        case rel => exact ⟨i, q, hi1, hq1, by omega, rfl, rfl, HI, HJ2, HJ1⟩
        case measure => simp [intOf]; omega
    · obtain rfl : i = j := by omega
      have hlt' : ¬ (i : Int) < (i : Int) := by omega
      clear hlt;go_wp2
      go_loopw [13] (fun s13 wi => ∃ (k : Nat) (L2 : List PartD), a ≤ k ∧ k + 1 ≤ i ∧ s13 = .int .i64 (k : Int) ∧ Hid (∀ x, L2.getD x zPart = rotR (fun x => L.getD x zPart) a (a + 1) (k + 1) x) ∧ Hid (Sh zPart L L2 a b) ∧ Hid (J L2 wi)) (fun s13 _ => i - (intOf s13).toNat)
      case atStart => exact ⟨a, L, by omega, by omega, rfl, fun x => by rw [bub_zero], Sh.refl _ _ _, HJ⟩
      case round =>
        obtain ⟨k, L2, hk1, hk2, rfl, HRT, HSH, HJ2⟩ := hrel;by_cases hki : k + 1 < i
        · have hki' : (k : Int) < (i : Int) - 1 := by omega
          have h9 := S.out.parts _ _ HJ2.out;have hL2 := h9.len;have HRT2 : Hid (∀ x, (swapL zPart L2 k (k + 1)).getD x zPart = rotR (fun x => L.getD x zPart) a (a + 1) (k + 1 + 1) x) := fun x => by
            rw [swapL_at zPart L2 (by omega) (by omega), ← bub_up _ hk1, HRT.out, HRT.out, HRT.out]
          have HSH2 : Hid (Sh zPart L (swapL zPart L2 k (k + 1)) a b) := HSH.out.trans (Sh.swap L2 (by omega) (by omega) (by omega));have zk1 : (k : Int) + 1 < (n : Int) := by omega
          have zk2 : (k : Int) < (n : Int) := by omega
          go_wp2;have h1 := PartsIn.drew h9;have hr1 := part_range h1 (k := k) (by omega);have hr2 := part_range h1 (k := k + 1) (by omega);have ht1 := part_there h1 (k := k) (by omega) (L2.getD (k + 1) zPart);have h2 := part_set h1 (k := k) (by omega) (L2.getD (k + 1) zPart);have ht2 := part_there h2 (k := k + 1) (by omega) (L2.getD (k) zPart);have h3 := part_set h2 (k := k + 1) (by omega) (L2.getD (k) zPart);obtain ⟨w8, hw8⟩ : ∃ w8, w8 = wr.drew.setCells g ((k) * 202) (partC (L2.getD (k + 1) zPart)) := ⟨_, rfl⟩
          rw [← hw8] at ht2 h3;obtain ⟨w9, hw9⟩ : ∃ w9, w9 = w8.setCells g ((k + 1) * 202) (partC (L2.getD (k) zPart)) := ⟨_, rfl⟩
          rw [← hw9] at h3;have HSW : Hid (PartsIn w9 base (.slice (some ⟨g, 0, none⟩) n c) (swapL zPart L2 (k) (k + 1))) := h3;have HCW : Hid (Chg (fun k => k = g) wr w9) := by
            rw [Hid, hw9, hw8];exact chg_setCells (S := fun k => k = g) rfl _ _ _ (chg_setCells (S := fun k => k = g) rfl _ _ _ ((Chg.refl _ _).drewN 1))
          clear h1 h2 h3;generalize L2.getD (k) zPart = xp at *;generalize L2.getD (k + 1) zPart = xq at *;refine z_start (fun _ => True) (by kernel_rfl) ?_;refine z_reads 0 9 (by kernel_rfl) trivial ?_;simp only [List.take_succ_cons, List.take_zero, List.drop_succ_cons, List.drop_zero]
          repeat (go_big_quiet_step (fail))
          refine wpQuiet_nil ?_;refine z_reads 10 3 (by kernel_rfl) trivial ?_;simp only [List.take_succ_cons, List.take_zero, List.drop_succ_cons, List.drop_zero]
          repeat (go_big_quiet_step (fail))
          refine wpQuiet_nil ?_;refine z_two 9 13 (by kernel_rfl) ?_ ?_
          · refine wpOp_atK rfl rfl ?_;refine wp_load_mid 128 _ rfl g ((k + 1) * 202) rfl (partC xq) _ hr2 Tryz.underlying128 rfl (size_partC _) ?_;refine ⟨Or.inr trivial, ?_⟩;simp only [zJ,zG,zH,zI];refine z_one 13 (by kernel_rfl) ?_;refine wpOp_atK rfl rfl ?_;refine wp_load_mid 128 _ rfl g ((k) * 202) rfl (partC xp) _ hr1 Tryz.underlying128 rfl (size_partC _) ?_;refine ⟨Or.inr trivial, ?_⟩;simp only [zJ,zG,zH,zI];refine z_reads 14 1 (by kernel_rfl) trivial ?_;simp only [List.take_succ_cons, List.take_zero, List.drop_succ_cons, List.drop_zero]
            repeat (go_big_quiet_step (fail))
            refine wpQuiet_nil ?_;refine z_one 15 (by kernel_rfl) ?_;refine wpOp_atK rfl rfl ?_;refine wp_store_mid 128 _ _ rfl g ((k) * 202) (partC xq).toArray rfl rfl ht1 (size_partA _) (all_oneCell_toArray (partC_one _)) ?_;simp only [put_none, toArr_toList];rw [← hw8];refine ⟨Or.inr trivial, ?_⟩;refine z_reads 16 1 (by kernel_rfl) trivial ?_;simp only [List.take_succ_cons, List.take_zero, List.drop_succ_cons, List.drop_zero]
            repeat (go_big_quiet_step (fail))
            refine wpQuiet_nil ?_;refine z_one 17 (by kernel_rfl) ?_;refine wpOp_atK rfl rfl ?_;refine wp_store_mid 128 _ _ rfl g ((k + 1) * 202) (partC xp).toArray rfl rfl ht2 (size_partA _) (all_oneCell_toArray (partC_one _)) ?_;simp only [put_none, toArr_toList];rw [← hw9];refine ⟨Or.inr trivial, ?_⟩;refine z_done (by kernel_rfl) ?_;clear hw9 hw8;have HJW : Hid (J (swapL zPart L2 k (k + 1)) w9) := S.out.turn _ _ _ _ HJ2.out (swapL_perm zPart L2 (by omega) (by omega)) HSW.out HCW.out;go_wp2
            go_roundw
            case rel => exact ⟨k + 1, _, by omega, by omega, by go_num, HRT2, HSH2, HJW⟩
            case measure => simp [intOf]; omega
          · refine wpOp_atK rfl rfl ?_;refine wp_load_mid 128 _ rfl g ((k) * 202) rfl (partC xp) _ hr1 Tryz.underlying128 rfl (size_partC _) ?_;refine ⟨Or.inr trivial, ?_⟩;simp only [zJ,zG,zH,zI];refine z_one 9 (by kernel_rfl) ?_;refine wpOp_atK rfl rfl ?_;refine wp_load_mid 128 _ rfl g ((k + 1) * 202) rfl (partC xq) _ hr2 Tryz.underlying128 rfl (size_partC _) ?_;refine ⟨Or.inr trivial, ?_⟩;simp only [zJ,zG,zH,zI];refine z_reads 14 1 (by kernel_rfl) trivial ?_;simp only [List.take_succ_cons, List.take_zero, List.drop_succ_cons, List.drop_zero]
            repeat (go_big_quiet_step (fail))
            refine wpQuiet_nil ?_;refine z_one 15 (by kernel_rfl) ?_;refine wpOp_atK rfl rfl ?_;refine wp_store_mid 128 _ _ rfl g ((k) * 202) (partC xq).toArray rfl rfl ht1 (size_partA _) (all_oneCell_toArray (partC_one _)) ?_;simp only [put_none, toArr_toList];rw [← hw8];refine ⟨Or.inr trivial, ?_⟩;refine z_reads 16 1 (by kernel_rfl) trivial ?_;simp only [List.take_succ_cons, List.take_zero, List.drop_succ_cons, List.drop_zero]
            repeat (go_big_quiet_step (fail))
            refine wpQuiet_nil ?_;refine z_one 17 (by kernel_rfl) ?_;refine wpOp_atK rfl rfl ?_;refine wp_store_mid 128 _ _ rfl g ((k + 1) * 202) (partC xp).toArray rfl rfl ht2 (size_partA _) (all_oneCell_toArray (partC_one _)) ?_;simp only [put_none, toArr_toList];rw [← hw9];refine ⟨Or.inr trivial, ?_⟩;refine z_done (by kernel_rfl) ?_;clear hw9 hw8;have HJW : Hid (J (swapL zPart L2 k (k + 1)) w9) := S.out.turn _ _ _ _ HJ2.out (swapL_perm zPart L2 (by omega) (by omega)) HSW.out HCW.out;go_wp2
            go_roundw
            case rel => exact ⟨k + 1, _, by omega, by omega, by go_num, HRT2, HSH2, HJW⟩
            case measure => simp [intOf]; omega
        · have hki' : ¬ (k : Int) < (i : Int) - 1 := by omega
          have hik : i = k + 1 := by omega
          have HF : Hid (Srt zPart key L2 a b) := by
            subst hik;refine put_left (L := L) (i := k + 1) (by rw [← h1]; exact HS2.out) (by omega) hjb (HI.out.imp (fun h => by omega) id) HJJ.out HRT.out
          go_wp2
          (try simp only [Exit.inBlock, Exit.then])
          refine bodyPost_ret (results_none rfl _ _ _) rfl ?_;exact ⟨rfl, L2, HJ2.out, HSH.out, HF.out⟩
theorem symRight_any (af : Nat) (cb : Array Value) (cf : PartD → PartD → Int) (key : PartD → Nat) (base g n c : Nat) (J : List PartD → World → Prop) (S : SortJ af cb cf key base g n c J) (hn : n ≤ 1000000) (a m b : Nat) (L : List PartD) (w : World) (h : J L w) (ham : a < m) (hmb : m < b) (hbn : b ≤ n) (hs1 : Srt zPart key L a m) (hs2 : Srt zPart key L m b) (h1 : m ≠ a + 1) (h2 : b = m + 1) :
    Calls Tryz.prog 178 #[.slice (some ⟨g, 0, none⟩) n c, .int .i64 (a : Int), .int .i64 (m : Int), .int .i64 (b : Int), .func (.func af) #[] cb] w fun e w' => e = .returned (.tuple #[]) ∧
      ∃ L', J L' w' ∧ Sh zPart L L' a b ∧ Srt zPart key L' a b := by
  have H := Lib.hid h
  have HS := Lib.hid S
  have eF := S.enter
  have HS1 := Lib.hid hs1
  have HS2 := Lib.hid hs2
  have hlen := (S.parts _ _ h).len
  have zab : (a : Int) < (m : Int) := by omega
  have zmb : (m : Int) < (b : Int) := by omega
  have zbn : (b : Int) ≤ 1000000 := by omega
  clear h S hs1 hs2
  have S := HS
  clear HS
  have d1 : ((m : Int) - (a : Int) == 1) = false := by simp; omega
  have d2 : ((b : Int) - (m : Int) == 1) = true := by simp; omega
  clear h1
  go_enter Tryz.func178, Tryz.ntmps178
  go_wp2
  go_loopw [14, 15, 16] (fun s14 s15 _ wr => ∃ i j : Nat, a ≤ i ∧ i ≤ j ∧ j ≤ m ∧ s14 = .int .i64 (i : Int) ∧ s15 = .int .i64 (j : Int) ∧ Hid (i = a ∨ kAt zPart key L (i - 1) ≤ kAt zPart key L m) ∧ Hid (j = m ∨ kAt zPart key L m ≤ kAt zPart key L j) ∧ Hid (J L wr)) (fun s14 s15 _ _ => (intOf s15).toNat - (intOf s14).toNat)
  case atStart => exact ⟨a, m, by omega, by omega, by omega, rfl, rfl, .inl rfl, .inl rfl, H⟩
  case round =>
    obtain ⟨i, j, hi1, hij, hjb, rfl, rfl, HI, HJJ, HJ⟩ := hrel;by_cases hlt : i < j
    · have hlt' : (i : Int) < (j : Int) := by omega
      obtain ⟨q, hq⟩ : ∃ q : Nat, q = (i + j) / 2 := ⟨_, rfl⟩
      have hmid : ((i : Int) + (j : Int)) / 2 = (q : Int) := by omega
      have hq1 : i ≤ q := by omega
      have hq2 : q < j := by omega
      have hqn : (q : Int) < (n : Int) := by omega
      have han : (m : Int) < (n : Int) := by omega
      have zij : (i : Int) + (j : Int) ≤ 2000000 := by omega
      clear hq;have h0 := S.out.parts _ _ HJ.out;have hL2 := h0.len;have hp1 : ∀ w', (∃ nn : ExtW wr, w' = nn.val) → w'.rangeAt g (m * 202) (partC (L.getD m zPart)) := fun w' ⟨nn, e⟩ => by rw [e]; exact part_range (h0.ext nn.ext) (by omega)
      have hp2 : ∀ w', (∃ nn : ExtW wr, w' = nn.val) → w'.rangeAt g (q * 202) (partC (L.getD q zPart)) := fun w' ⟨nn, e⟩ => by rw [e]; exact part_range (h0.ext nn.ext) (by omega)
      have HCM : Hid (∀ nn : ExtW wr, Calls Tryz.prog af (#[partV (L.getD m zPart), partV (L.getD q zPart)] ++ cb) nn.val fun e w'' => e = .returned (.int .i64 (cf (L.getD m zPart) (L.getD q zPart))) ∧ ∃ q : ExtW wr, w'' = q.val) := fun nn => quiet_ext (S.out.cmp _ _ (S.out.ext HJ.out nn.ext) _ _ (getD_memQ (by omega)) (getD_memQ (by omega)));have HLS := Lib.hid (S.out.less _ _ HJ.out _ _ (getD_memQ (L := L) (k := m) (by omega)) (getD_memQ (L := L) (k := q) (by omega)));obtain ⟨cc, hcc⟩ : ∃ cc, cc = cf (L.getD m zPart) (L.getD q zPart) := ⟨_, rfl⟩
      rw [← hcc] at HCM HLS;obtain ⟨xj, hxj⟩ : ∃ xj, xj = L.getD m zPart := ⟨_, rfl⟩
      obtain ⟨xp, hxp⟩ : ∃ xp, xp = L.getD q zPart := ⟨_, rfl⟩
      rw [← hxj] at hp1 HCM;rw [← hxp] at hp2 HCM;clear hcc hxj hxp h0;go_wp2;refine region_ext (by kernel_rfl) (by kernel_rfl) ?_
      repeat (first
        | go_big_quiet_skip
        | (refine wpQuiet_load_mid (o := ⟨some 96, .load 128 _, _, _, _, _⟩) (by rfl) 128 _ rfl g (m * 202) rfl (partC xj) _ hp1 Tryz.underlying128 rfl (size_partC _) ?_; simp only [zJ,zG,zH,zI])
        | (refine wpQuiet_load_mid (o := ⟨some 100, .load 128 _, _, _, _, _⟩) (by rfl) 128 _ rfl g (q * 202) rfl (partC xp) _ hp2 Tryz.underlying128 rfl (size_partC _) ?_; simp only [zJ,zG,zH,zI])
        | go_big_quiet_step (first | (go_at_fn af; exact HCM.out _)))
      refine wpQuiet_nil ?_;intro _ hw';obtain ⟨n', rfl⟩ := hw';have HJ1 := Lib.hid (S.out.ext HJ.out n'.ext);generalize n'.val = W8 at *;clear hp1 hp2 HCM;by_cases hlv : cc < 0
      · have dcc : decide (cc < 0) = true := by simpa using hlv
        simp only [dcc, Bool.not_true];have HJ2 : Hid (q = m ∨ kAt zPart key L m ≤ kAt zPart key L q) := .inr (Nat.le_of_lt (HLS.out.1 hlv));clear HLS;go_wp2
        go_roundw
        case rel => exact ⟨i, q, hi1, hq1, by omega, rfl, rfl, HI, HJ2, HJ1⟩
        case measure => simp [intOf]; omega
      · have dcc : decide (cc < 0) = false := by simpa using hlv
        simp only [dcc, Bool.not_false];have HI2 : Hid (q + 1 = a ∨ kAt zPart key L (q + 1 - 1) ≤ kAt zPart key L m) := .inr (Nat.le_of_not_lt fun h => hlv (HLS.out.2 h));clear HLS;go_wp2
        go_roundw
        case rel => exact ⟨q + 1, j, by omega, by omega, hjb, by go_num, rfl, HI2, HJJ, HJ1⟩
        case measure => simp [intOf]; omega
    · obtain rfl : i = j := by omega
      have hlt' : ¬ (i : Int) < (i : Int) := by omega
      clear hlt;go_wp2
      go_loopw [17] (fun s17 wi => ∃ (k : Nat) (L2 : List PartD), i ≤ k ∧ k ≤ m ∧ s17 = .int .i64 (k : Int) ∧ Hid (∀ x, L2.getD x zPart = rotR (fun x => L.getD x zPart) k m (m + 1) x) ∧ Hid (Sh zPart L L2 a b) ∧ Hid (J L2 wi)) (fun s17 _ => (intOf s17).toNat)
      case atStart => exact ⟨m, L, by omega, by omega, rfl, fun x => by rw [bub_zero2], Sh.refl _ _ _, HJ⟩
      case round =>
        obtain ⟨k, L2, hk1, hk2, rfl, HRT, HSH, HJ2⟩ := hrel;by_cases hki : i < k
        · have hki' : (k : Int) > (i : Int) := by omega
          have hki2 : (i : Int) < (k : Int) := by omega
          obtain ⟨kp, hkp⟩ : ∃ kp, k = kp + 1 := ⟨k - 1, by omega⟩
          have h9 := S.out.parts _ _ HJ2.out;have hL2 := h9.len;have HRT2 : Hid (∀ x, (swapL zPart L2 k (k - 1)).getD x zPart = rotR (fun x => L.getD x zPart) (k - 1) m (m + 1) x) := fun x => by
            rw [swapL_at zPart L2 (by omega) (by omega), hkp, Nat.add_sub_cancel, ← bub_down _ (show kp + 1 ≤ m by omega), HRT.out, HRT.out, HRT.out, hkp]
          have HSH2 : Hid (Sh zPart L (swapL zPart L2 k (k - 1)) a b) := HSH.out.trans (Sh.swap L2 (by omega) (by omega) (by omega));have hji : ((k : Int) - 1).toNat = k - 1 := by omega
          have hjj : (0 : Int) ≤ (k : Int) - 1 := by omega
          have hjk : (k : Int) - 1 < (n : Int) := by omega
          have hjl : (k : Int) < (n : Int) := by omega
          clear hkp;go_wp2;have h1 := PartsIn.drew h9;have hr1 := part_range h1 (k := k) (by omega);have hr2 := part_range h1 (k := k - 1) (by omega);have ht1 := part_there h1 (k := k) (by omega) (L2.getD (k - 1) zPart);have h2 := part_set h1 (k := k) (by omega) (L2.getD (k - 1) zPart);have ht2 := part_there h2 (k := k - 1) (by omega) (L2.getD (k) zPart);have h3 := part_set h2 (k := k - 1) (by omega) (L2.getD (k) zPart);obtain ⟨w8, hw8⟩ : ∃ w8, w8 = wr.drew.setCells g ((k) * 202) (partC (L2.getD (k - 1) zPart)) := ⟨_, rfl⟩
          rw [← hw8] at ht2 h3;obtain ⟨w9, hw9⟩ : ∃ w9, w9 = w8.setCells g ((k - 1) * 202) (partC (L2.getD (k) zPart)) := ⟨_, rfl⟩
          rw [← hw9] at h3;have HSW : Hid (PartsIn w9 base (.slice (some ⟨g, 0, none⟩) n c) (swapL zPart L2 (k) (k - 1))) := h3;have HCW : Hid (Chg (fun k => k = g) wr w9) := by
            rw [Hid, hw9, hw8];exact chg_setCells (S := fun k => k = g) rfl _ _ _ (chg_setCells (S := fun k => k = g) rfl _ _ _ ((Chg.refl _ _).drewN 1))
          clear h1 h2 h3;generalize L2.getD (k) zPart = xp at *;generalize L2.getD (k - 1) zPart = xq at *;refine z_start (fun _ => True) (by kernel_rfl) ?_;refine z_reads 0 9 (by kernel_rfl) trivial ?_;simp only [List.take_succ_cons, List.take_zero, List.drop_succ_cons, List.drop_zero]
          repeat (go_big_quiet_step (fail))
          refine wpQuiet_nil ?_;refine z_reads 10 3 (by kernel_rfl) trivial ?_;simp only [List.take_succ_cons, List.take_zero, List.drop_succ_cons, List.drop_zero]
          repeat (go_big_quiet_step (fail))
          refine wpQuiet_nil ?_;refine z_two 9 13 (by kernel_rfl) ?_ ?_
          · refine wpOp_atK rfl rfl ?_;refine wp_load_mid 128 _ rfl g ((k - 1) * 202) rfl (partC xq) _ hr2 Tryz.underlying128 rfl (size_partC _) ?_;refine ⟨Or.inr trivial, ?_⟩;simp only [zJ,zG,zH,zI];refine z_one 13 (by kernel_rfl) ?_;refine wpOp_atK rfl rfl ?_;refine wp_load_mid 128 _ rfl g ((k) * 202) rfl (partC xp) _ hr1 Tryz.underlying128 rfl (size_partC _) ?_;refine ⟨Or.inr trivial, ?_⟩;simp only [zJ,zG,zH,zI];refine z_reads 14 1 (by kernel_rfl) trivial ?_;simp only [List.take_succ_cons, List.take_zero, List.drop_succ_cons, List.drop_zero]
            repeat (go_big_quiet_step (fail))
            refine wpQuiet_nil ?_;refine z_one 15 (by kernel_rfl) ?_;refine wpOp_atK rfl rfl ?_;refine wp_store_mid 128 _ _ rfl g ((k) * 202) (partC xq).toArray rfl rfl ht1 (size_partA _) (all_oneCell_toArray (partC_one _)) ?_;simp only [put_none, toArr_toList];rw [← hw8];refine ⟨Or.inr trivial, ?_⟩;refine z_reads 16 1 (by kernel_rfl) trivial ?_;simp only [List.take_succ_cons, List.take_zero, List.drop_succ_cons, List.drop_zero]
            repeat (go_big_quiet_step (fail))
            refine wpQuiet_nil ?_;refine z_one 17 (by kernel_rfl) ?_;refine wpOp_atK rfl rfl ?_;refine wp_store_mid 128 _ _ rfl g ((k - 1) * 202) (partC xp).toArray rfl rfl ht2 (size_partA _) (all_oneCell_toArray (partC_one _)) ?_;simp only [put_none, toArr_toList];rw [← hw9];refine ⟨Or.inr trivial, ?_⟩;refine z_done (by kernel_rfl) ?_;clear hw9 hw8;have HJW : Hid (J (swapL zPart L2 k (k - 1)) w9) := S.out.turn _ _ _ _ HJ2.out (swapL_perm zPart L2 (by omega) (by omega)) HSW.out HCW.out;go_wp2
            go_roundw
            case rel => exact ⟨k - 1, _, by omega, by omega, by go_num, HRT2, HSH2, HJW⟩
            case measure => simp [intOf]; omega
          · refine wpOp_atK rfl rfl ?_;refine wp_load_mid 128 _ rfl g ((k) * 202) rfl (partC xp) _ hr1 Tryz.underlying128 rfl (size_partC _) ?_;refine ⟨Or.inr trivial, ?_⟩;simp only [zJ,zG,zH,zI];refine z_one 9 (by kernel_rfl) ?_;refine wpOp_atK rfl rfl ?_;refine wp_load_mid 128 _ rfl g ((k - 1) * 202) rfl (partC xq) _ hr2 Tryz.underlying128 rfl (size_partC _) ?_;refine ⟨Or.inr trivial, ?_⟩;simp only [zJ,zG,zH,zI];refine z_reads 14 1 (by kernel_rfl) trivial ?_;simp only [List.take_succ_cons, List.take_zero, List.drop_succ_cons, List.drop_zero]
            repeat (go_big_quiet_step (fail))
            refine wpQuiet_nil ?_;refine z_one 15 (by kernel_rfl) ?_;refine wpOp_atK rfl rfl ?_;refine wp_store_mid 128 _ _ rfl g ((k) * 202) (partC xq).toArray rfl rfl ht1 (size_partA _) (all_oneCell_toArray (partC_one _)) ?_;simp only [put_none, toArr_toList];rw [← hw8];refine ⟨Or.inr trivial, ?_⟩;refine z_reads 16 1 (by kernel_rfl) trivial ?_;simp only [List.take_succ_cons, List.take_zero, List.drop_succ_cons, List.drop_zero]
            repeat (go_big_quiet_step (fail))
            refine wpQuiet_nil ?_;refine z_one 17 (by kernel_rfl) ?_;refine wpOp_atK rfl rfl ?_;refine wp_store_mid 128 _ _ rfl g ((k - 1) * 202) (partC xp).toArray rfl rfl ht2 (size_partA _) (all_oneCell_toArray (partC_one _)) ?_;simp only [put_none, toArr_toList];rw [← hw9];refine ⟨Or.inr trivial, ?_⟩;refine z_done (by kernel_rfl) ?_;clear hw9 hw8;have HJW : Hid (J (swapL zPart L2 k (k - 1)) w9) := S.out.turn _ _ _ _ HJ2.out (swapL_perm zPart L2 (by omega) (by omega)) HSW.out HCW.out;go_wp2
            go_roundw
            case rel => exact ⟨k - 1, _, by omega, by omega, by go_num, HRT2, HSH2, HJW⟩
            case measure => simp [intOf]; omega
        · have hki' : ¬ (k : Int) > (i : Int) := by omega
          have hki2 : ¬ (i : Int) < (k : Int) := by omega
          have hik : k = i := by omega
          have HF : Hid (Srt zPart key L2 a b) := by
            subst hik;rw [h2];exact put_right (L := L) HS1.out hi1 hjb HI.out HJJ.out HRT.out
          go_wp2
          (try simp only [Exit.inBlock, Exit.then])
          refine bodyPost_ret (results_none rfl _ _ _) rfl ?_;exact ⟨rfl, L2, HJ2.out, by first | exact HSH.out | (rw [← h2]; exact HSH.out), by first | exact HF.out | (rw [← h2]; exact HF.out)⟩
end
end Go.Proofs.YtblhmdhfhaencaaGreat
