/-
 The document's answer to layer 17: Fits.
-/
import Derived.Test.YtblhmdhfhaencaaGreatRC
import Derived.Test.YtblhmdhfhaencaaGreatEA
import Derived.Test.YtblhmdhfhaencaaGreatRowG
import Derived.Test.YtblhmdhfhaencaaGreatBP
import Derived.Test.YtblhmdhfhaencaaGreatTD
namespace Go.Proofs.YtblhmdhfhaencaaGreat
set_option linter.unusedSimpArgs false
set_option linter.unusedVariables false
set_option linter.unusedSectionVars false
set_option maxRecDepth 100000
set_option maxHeartbeats 40000000
section
open Go.RowKit
attribute [local go_sem] Oper.semAt_some wide_fn wide_depth wide_fnR wide_depthR
def GoodT (n : Nat) (t : TermD) : Prop := termB t = true ∧ ∀ x ∈ toD t, 1 ≤ x ∧ x < n
theorem good_iff2 (ts : List TermD) : goodB ts = true ↔ (1 ≤ ts.length ∧ ts.length ≤ 200) ∧ ∀ k, k < ts.length → GoodT ts.length (ts.getD k zTerm) := by
 rw [goodB_iff]
 constructor
 · rintro ⟨h1, h2⟩;exact ⟨h1, fun k hk => h2 _ (by rw [List.getD_eq_getElem?_getD, List.getElem?_eq_getElem hk]; exact List.getElem_mem _)⟩
 · rintro ⟨h1, h2⟩;refine ⟨h1, fun t ht => ?_⟩;obtain ⟨k, hk, e⟩ := List.mem_iff_getElem.1 ht;have := h2 k hk;rw [List.getD_eq_getElem?_getD, List.getElem?_eq_getElem hk, e] at this;exact this
theorem fits_no {ts : List TermD} (h : goodB ts = false) : fitsB ts = false := by rw [fitsB, h]; rfl
theorem fits_bad {ts : List TermD} {k : Nat} (hk : k < ts.length) (h : ¬ GoodT ts.length (ts.getD k zTerm)) : fitsB ts = false := fits_no (by
 rw [Bool.eq_false_iff]
 intro hg
 exact h (((good_iff2 ts).1 hg).2 k hk))
theorem cntS_all (f : Nat → Bool) : ∀ n, cntS f n = n ↔ ∀ k, k < n → f k = true
 | 0 => by simp [cntS]
 | n + 1 => by
   have ih := cntS_all f n;have hl := cntS_le f n;rw [cntS_step];cases h : f n with
   | true =>
     simp only [if_true, Nat.add_right_cancel_iff];rw [ih];constructor
     · intro h1 k hk;by_cases e : k = n
       · rw [e]; exact h
       · exact h1 k (by omega)
     · intro h1 k hk; exact h1 k (by omega)
   | false =>
     simp only [Bool.false_eq_true, if_false, Nat.add_zero];constructor
     · intro e; omega
     · intro h1; rw [h1 n (by omega)] at h; cases h
theorem cntS_cut (f : Nat → Bool) (n : Nat) (h : ∀ k, f k = true → k < n) : ∀ m, n ≤ m → cntS f m = cntS f n := by
 intro m
 induction m with
 | zero => intro hm; rw [show n = 0 by omega]
 | succ m ih =>
   intro hm;by_cases e : n = m + 1
   · rw [e]
   · rw [cntS_step, ih (by omega)];cases hf : f m with
     | true => have := h m hf; omega
     | false => rfl
theorem fits_count {ts : List TermD} (hg : goodB ts = true) : fitsB ts = ((cntS (fun k => if k = 0 then true else walkF (nx ts) (wholeS ts.length) 0 k) 200 : Int) == (ts.length : Int)) := by
 have hl := ((goodB_iff ts).1 hg).1
 rw [fitsB, hg, Bool.true_and, Bool.eq_iff_iff]
 rw [cntS_cut _ ts.length (fun k hk => by
  by_cases e : k = 0
  · omega
  · rw [if_neg e, walkF_iff (whole_canon hl.2)] at hk;have := hk.2.inn
    simpa [wholeS] using this) 200 hl.2]
 simp only [List.all_eq_true, List.mem_range, Bool.or_eq_true, beq_iff_eq]
 have h := cntS_all (fun k => if k = 0 then true else walkF (nx ts) (wholeS ts.length) 0 k) ts.length
 constructor
 · intro h1;have := h.2 fun k hk => by
    by_cases e : k = 0
    · rw [if_pos e]
    · rw [if_neg e]; exact (h1 k hk).resolve_left e
   omega
 · intro h1 k hk;by_cases e : k = 0
   · exact .inl e
   · have := h.1 (by omega) k hk;rw [if_neg e] at this;exact .inr this
theorem fits17_any (pa : Option Addr) (pn pc : Nat) (ba : Option Addr) (bn bc : Nat) (bs : List BlkH) (w : World) (h : BlksOK w ba bn bs) :
  Calls Tryz.prog 41 #[funcV pa pn pc ba bn bc] w fun e w' => e = .returned (.bool (fitsB (tsOf bs))) ∧ Below w.heap.size w w' := by
 have hbl : (tsOf bs).length = bn := by rw [tsOf_len]; exact h.1.1
 have H := Lib.hid h
 clear h
 go_enter Tryz.func41, Tryz.ntmps41
 go_upto_region 1 with (fail)
 obtain ⟨W, hW⟩ : ∃ W, W = w.alloc (funcO pa pn pc ba bn bc) := ⟨_, rfl⟩
 rw [← hW]
 have hk0 : W.heap[w.heap.size]? = some (funcO pa pn pc ba bn bc) := by rw [hW]; exact heap_alloc_new _ _
 have hB : Below w.heap.size w W := by rw [hW]; exact ext_alloc _ _
 have k1 : W.cell? ⟨w.heap.size, 1, none⟩ = some (.slice ba bn bc) := by rw [cell_of_row _ _ _ _ _ _ hk0]; rfl
 have HK := Lib.hid hk0
 have HB := Lib.hid hB
 clear hW hk0 hB
 by_cases hn0 : bn < 1
 · have d0 : (bn : Int) < 1 := by omega
   have HE : Hid (fitsB (tsOf bs) = false) := fits_no (by rw [Bool.eq_false_iff]; intro hg; have := ((goodB_iff _).1 hg).1; omega);go_wp2
   go_ret
   exact ⟨ret_bool HE.out.symm, HB.out⟩
 · have d0 : ¬ (bn : Int) < 1 := by omega
   by_cases hn1 : 200 < bn
   · have d1 : (200 : Int) < (bn : Int) := by omega
     have HE : Hid (fitsB (tsOf bs) = false) := fits_no (by rw [Bool.eq_false_iff]; intro hg; have := ((goodB_iff _).1 hg).1; omega);go_wp2
     go_ret
     exact ⟨ret_bool HE.out.symm, HB.out⟩
   · have d1 : ¬ (200 : Int) < (bn : Int) := by omega
     go_wp2;clear k1
     go_loopw [3, 4, 5] (fun i _ _ wr => ∃ k : Nat, k ≤ bn ∧ i = .int .i64 k ∧ Hid (∀ j, j < k → GoodT bn ((tsOf bs).getD j zTerm)) ∧ Hid (Below W.heap.size W wr)) (fun i _ _ _ => bn - (intOf i).toNat)
     case atStart => exact ⟨0, by omega, rfl, fun j hj => absurd hj (by omega), Below.refl _ _⟩
     case round =>
      obtain ⟨k, hk, rfl, HR, HBr⟩ := hrel;have HKr := Lib.hid (block_ext HBr.out HK.out);have kf := HKr.out;have k1 : wr.cell? ⟨w.heap.size, 1, none⟩ = some (.slice ba bn bc) := by rw [cell_of_row _ _ _ _ _ _ kf]; rfl
      clear kf;by_cases hlt : k < bn
      · have hlt' : (k : Int) < (bn : Int) := by omega
        obtain ⟨x, b0, o0, hx, htm, hbe, _, c1, c2, c3, c4⟩ := (H.out.ext (ext_trans HB.out HBr.out)).cells hlt;have hxt := tsOf_at _ _ _ hx;obtain ⟨t, ht⟩ : ∃ t, t = x.t := ⟨_, rfl⟩
        rw [← ht] at hxt htm c1 c2 c3 c4;have HXT := Lib.hid hxt;have HTM := Lib.hid htm;have C1 := Lib.hid c1;have C2 := Lib.hid c2;have C3 := Lib.hid c3;have C4 := Lib.hid c4;have HBE := Lib.hid hbe;clear hx ht hxt htm c1 c2 c3 c4 hbe;have HNO : Hid (¬ GoodT bn t → fitsB (tsOf bs) = false) := fun hno => by
         refine fits_bad (k := k) (by omega) ?_;rw [HXT.out, hbl]; exact hno
        cases hTB : termB t with
        | false =>
          have HE : Hid (fitsB (tsOf bs) = false) := HNO.out fun h => by have h1 := h.1; rw [hTB] at h1; cases h1
          have HTB := Lib.hid hTB;clear hTB
          go_wp2_with (first
           | (refine wpList_load_row (o := ⟨some 24, .load 25 _, _, _, _, _⟩) rfl 25 _ rfl w.heap.size rfl 25 _ (0, 0) _ HKr.out Tryz.underlying25 rfl size_func ?_)
           | (go_at_call 96
              refine (to17_any pa pn pc ba bn bc bs k wr (H.out.ext (ext_trans HB.out HBr.out)) hlt).mono ?_;rintro e w1 ⟨v, rfl, ho, hb⟩;have hbe := HBE.out;subst hbe;have d1' := cell_ext hb C1.out;have d2' := cell_ext hb C2.out;have d3' := cell_ext hb C3.out;have d4' := cell_ext hb C4.out;have kf1 := block_ext hb HKr.out;have k11 : w1.cell? ⟨w.heap.size, 1, none⟩ = some (.slice (some ⟨b0, o0, none⟩) bn bc) := (by rw [cell_of_row _ _ _ _ _ _ kf1]; rfl)
              have HB1 := Lib.hid (ext_trans HB.out (ext_trans HBr.out hb))
              clear ho hb k1 kf1)
           | (go_at_call 97
              refine (isTerm03_any t _).mono ?_;rintro e w2 ⟨rfl, hb⟩;rw [HTB.out];have HB2 := Lib.hid (ext_trans HB1.out hb)
              clear hb))
          go_ret
          exact ⟨ret_bool HE.out.symm, HB2.out⟩
        | true =>
          have HTB := Lib.hid hTB;clear hTB
          go_wp2_with (first
           | (refine wpList_load_row (o := ⟨some 24, .load 25 _, _, _, _, _⟩) rfl 25 _ rfl w.heap.size rfl 25 _ (0, 0) _ HKr.out Tryz.underlying25 rfl size_func ?_)
           | (go_at_call 96
              refine (to17_any pa pn pc ba bn bc bs k wr (H.out.ext (ext_trans HB.out HBr.out)) hlt).mono ?_;rintro e w1 ⟨v, rfl, ho, hb⟩;rw [HXT.out] at ho;obtain ⟨va, vc, rfl⟩ := ho.form;have HNX := Lib.hid (ho.ints.ext (Below.refl _ _));have hbe := HBE.out;subst hbe;have d1' := cell_ext hb C1.out;have d2' := cell_ext hb C2.out;have d3' := cell_ext hb C3.out;have d4' := cell_ext hb C4.out;have kf1 := block_ext hb HKr.out;have k11 : w1.cell? ⟨w.heap.size, 1, none⟩ = some (.slice (some ⟨b0, o0, none⟩) bn bc) := (by rw [cell_of_row _ _ _ _ _ _ kf1]; rfl)
              have HB1 := Lib.hid (ext_trans HBr.out hb)
              clear ho hb k1 kf1)
           | (go_at_call 97
              refine (isTerm03_any t _).mono ?_;rintro e w2 ⟨rfl, hb⟩;rw [HTB.out];have HNX2 := Lib.hid (HNX.out.ext hb);have HB2 := Lib.hid (ext_trans HB1.out hb);have kf2 := block_ext HB2.out HK.out;have k12 : w2.cell? ⟨w.heap.size, 1, none⟩ = some (.slice (some ⟨b0, o0, none⟩) bn bc) := (by rw [cell_of_row _ _ _ _ _ _ kf2]; rfl)
              clear hb d1' d2' d3' d4' k11 kf2))
          obtain ⟨wq, rfl⟩ : ∃ wq : World, wq = wr := ⟨_, rfl⟩
          have hl2 : (toD t).length ≤ 2 := toD_len t
          go_loopw [5] (fun j wi => ∃ j' q : Nat, j = .int .i64 (j' : Int) ∧ j' ≤ (toD t).length ∧ Hid (∀ q, q < j' → 1 ≤ (toD t).getD q 0 ∧ (toD t).getD q 0 < bn) ∧ wi = w2.drewN q) (fun j _ => (toD t).length - (intOf j).toNat)
          case atStart => exact ⟨0, 0, rfl, by omega, fun q hq => absurd hq (by omega), rfl⟩
          case round =>
           obtain ⟨j', q, rfl, hj, HRj, rfl⟩ := hrel;by_cases hjl : j' < (toD t).length
           · obtain ⟨b3, o3, rfl, hcy, _⟩ := HNX2.out.2.2 j' hjl;have hmem : (toD t).getD j' 0 ∈ toD t := by rw [List.getD_eq_getElem?_getD, List.getElem?_eq_getElem hjl]; exact List.getElem_mem _
             have HM := Lib.hid hmem;have hjl' : (j' : Int) < ((toD t).length : Int) := by omega
             have HRj2 : Hid (1 ≤ (toD t).getD j' 0 ∧ (toD t).getD j' 0 < bn → ∀ q, q < j' + 1 → 1 ≤ (toD t).getD q 0 ∧ (toD t).getD q 0 < bn) := fun h q hq => by
              by_cases e : q = j'
              · subst e; exact h
              · exact HRj.out q (by omega)
             clear hmem;generalize (toD t).getD j' 0 = y at *;by_cases hy1 : y < 1
             · have HE : Hid (fitsB (tsOf bs) = false) := HNO.out fun h => by have := h.2 y HM.out; omega
               go_wp2
               go_quiet (fail)
               go_wp2
               go_ret
               exact ⟨ret_bool HE.out.symm, ext_drewN (ext_drewN (ext_trans HB.out HB2.out) _) _⟩
             · by_cases hy2 : (bn : Int) ≤ y
               · have HE : Hid (fitsB (tsOf bs) = false) := HNO.out fun h => by have := h.2 y HM.out; omega
                 go_wp2
                 go_quiet (fail)
                 go_wp2
                 go_ret
                 exact ⟨ret_bool HE.out.symm, ext_drewN (ext_drewN (ext_trans HB.out HB2.out) _) _⟩
               · go_wp2
                 go_quiet (fail)
                 go_wp2
                 go_roundw
                 case rel => exact ⟨j' + 1, _, by go_num, by omega, HRj2.out (by omega), rfl⟩
                 case measure => simp [intOf]; omega
           · obtain rfl : j' = (toD t).length := by omega
             have HGT : Hid (∀ j, j < k + 1 → GoodT bn ((tsOf bs).getD j zTerm)) := fun j hj => by
              by_cases e : j = k
              · subst e;rw [HXT.out];refine ⟨HTB.out, fun x hx => ?_⟩;obtain ⟨q, hq, e⟩ := List.mem_iff_getElem.1 hx;have := HRj.out q hq;rw [List.getD_eq_getElem?_getD, List.getElem?_eq_getElem hq, e] at this;exact this
              · exact HR.out j (by omega)
             go_wp2
             go_roundw
             case rel => exact ⟨k + 1, by omega, by go_num, HGT, ext_drewN HB2.out _⟩
             case measure => simp [intOf]; omega
      · obtain rfl : k = bn := by omega
        have HG : Hid (goodB (tsOf bs) = true) := (good_iff2 _).2 ⟨by omega, fun j hj => by rw [hbl]; exact HR.out j (by omega)⟩;obtain ⟨bn, rfl⟩ : ∃ b, b = k := ⟨_, rfl⟩
        go_upto_region 14 with (fail)
        refine region_free 5 [some 56, some 57, some 58, some 59, some 6] (by kernel_rfl) (by kernel_rfl) (specB [.val (funcV pa pn pc ba bn bc), .val (funcV pa pn pc ba bn bc), .val (.agg (setA (wholeS bn))), .val (.agg (setA (walkF (nx (tsOf bs)) (wholeS bn) 0))), .new (rsetO fun _ => false)]) (specB_mono ?_) ?_ ?_
        · intro k hk;simp only [List.mem_cons, List.not_mem_nil, or_false] at hk;rcases hk with rfl | rfl | rfl | rfl | rfl
          · exact trivial
          · exact trivial
          · exact trivial
          · exact trivial
          · exact trivial
        · intro i hi ν lo hi' w1 K hB hD hK;have hcase : i = 0 ∨ i = 1 ∨ i = 2 ∨ i = 3 ∨ i = 4 := by omega
          clear hi;rcases hcase with rfl | rfl | rfl | rfl | rfl
          · clear hD;refine wpOp_atK rfl rfl ?_;simp only [zA,zB,zC,zD,zE,zF,zJ,zK,zG,zH,zI] at hK ⊢;refine wp_load_row 25 _ rfl w.heap.size rfl 25 _ (0, 0) _ (block_ext hB HKr.out) Tryz.underlying25 rfl size_func ?_;exact hK _ _ (Below.refl _ _) rfl
          · clear hD;refine wpOp_atK rfl rfl ?_;simp only [zA,zB,zC,zD,zE,zF,zJ,zK,zG,zH,zI] at hK ⊢;refine wp_load_row 25 _ rfl w.heap.size rfl 25 _ (0, 0) _ (block_ext hB HKr.out) Tryz.underlying25 rfl size_func ?_;exact hK _ _ (Below.refl _ _) rfl
          · have e1 := hD 1 (by kernel_rfl)
            replace e1 : ν 1 = (funcV pa pn pc ba bn bc) := e1
            clear hD;refine wpOp_atK rfl rfl ?_;simp only [zA,zB,zC,zD,zE,zF,zJ,zK,zG,zH,zI, e1] at hK ⊢;go_simp;refine (whole17_any pa pn pc ba bn bc (by omega) w1).mono ?_;rintro e w3 ⟨rfl, hb3⟩;exact hK _ _ hb3 rfl
          · have e0 := hD 0 (by kernel_rfl)
            replace e0 : ν 0 = (funcV pa pn pc ba bn bc) := e0
            have e2 := hD 2 (by kernel_rfl)
            replace e2 : ν 2 = (.agg (setA (wholeS bn))) := e2
            clear hD;refine wpOp_atK rfl rfl ?_;simp only [zA,zB,zC,zD,zE,zF,zJ,zK,zG,zH,zI, e0, e2] at hK ⊢;go_simp;refine (behind17_any pa pn pc ba bn bc bs 0 (wholeS bn) w1 (H.out.ext (ext_trans HB.out (ext_trans HBr.out hB))) HG.out (by omega) (whole_canon (by omega)) (fun _ => by omega)).mono ?_;rintro e w3 ⟨rfl, hb3⟩;exact hK _ _ hb3 rfl
          · clear hD;refine wpOp_atK rfl rfl ?_;simp only [zA,zB,zC,zD,zE,zF,zJ,zK,zG,zH,zI] at hK ⊢;go_simp;refine hK _ _ (ext_alloc _ _) ⟨rfl, by simp, ?_⟩;rw [heap_alloc_new, zero_rset]
        · intro ν lo hi w1 hB hS hI hD;have e0 : ν 0 = (funcV pa pn pc ba bn bc) := hS 0 (by omega);have e1 : ν 1 = (funcV pa pn pc ba bn bc) := hS 1 (by omega);have e2 : ν 2 = (.agg (setA (wholeS bn))) := hS 2 (by omega);have e3 : ν 3 = (.agg (setA (walkF (nx (tsOf bs)) (wholeS bn) 0))) := hS 3 (by omega);obtain ⟨e4, l4, h4⟩ := hS 4 (by omega);clear hS;simp only [List.drop_succ_cons, List.drop_zero, zA,zB,zC,zD,zE,zF,zJ,zK,zG,zH,zI, e0, e1, e2, e3, e4];have i4 := hI 4 (by omega);have HBw : Hid (Below W.heap.size W w1) := ext_trans HBr.out hB;have hk1 := block_ext hB HKr.out;have hwl := lt_of_heap HKr.out;have hsw := HBr.out.size;have hkl := lt_of_heap HK.out;generalize lo 4 = p6 at *;have H4 := Lib.hid h4;have HK1 := Lib.hid hk1;clear hI hD hB e0 e1 e2 e3 e4 h4 hk1
          go_wp2_with (
           (refine wpList_store_row rfl 107 _ _ rfl p6 (setA (walkF (nx (tsOf bs)) (wholeS bn) 0)) rfl rfl 107 _ H4.out (by rw [setA_size]; exact size_rset) rfl (setA_all _) ?_
            go_loud (
             have h5 : (w1.setRow p6 (setA (walkF (nx (tsOf bs)) (wholeS bn) 0))).heap[p6]? = some (rsetO (walkF (nx (tsOf bs)) (wholeS bn) 0)) := setRow_heap _ _ _ _ _ _ H4.out;have hcz := rset_cell h5 0 (by omega);have hfz := rset_free h5 0;have H5 := Lib.hid h5;have HB5 : Hid (Below W.heap.size W (w1.setRow p6 (setA (walkF (nx (tsOf bs)) (wholeS bn) 0)))) := below_setRow HBw.out (by omega) _;have HK5 : Hid ((w1.setRow p6 (setA (walkF (nx (tsOf bs)) (wholeS bn) 0))).heap[w.heap.size]? = some (funcO pa pn pc ba bn bc)) := (setRow_other _ _ _ _ (by omega)).trans HK1.out;generalize w1.setRow p6 (setA (walkF (nx (tsOf bs)) (wholeS bn) 0)) = W5 at *;generalize walkF (nx (tsOf bs)) (wholeS bn) 0 0 = z0 at *
             clear h5)))
          have HS6 := Lib.hid (rset_to (h := fun k => if k = 0 then true else walkF (nx (tsOf bs)) (wholeS bn) 0 k) (b := true) H5.out (by omega) rfl);have HB6 : Hid (Below W.heap.size W (W5.setCell ⟨p6, 0, none⟩ (.bool true))) := HB5.out.setCell (by simp; omega) _;have HK6 : Hid ((W5.setCell ⟨p6, 0, none⟩ (.bool true)).heap[w.heap.size]? = some (funcO pa pn pc ba bn bc)) := grown_row (grown_setCell _ _ _ _) HK5.out (by simp; omega);generalize W5.setCell ⟨p6, 0, none⟩ (.bool true) = W6 at *;have hk6 := HK6.out;have q1 : ∀ n' : ExtW W6, n'.val.cell? ⟨w.heap.size, 1, none⟩ = some (.slice ba bn bc) := fun n' => cell_ext n'.ext (by rw [cell_of_row _ _ _ _ _ _ hk6]; rfl);have qs : ∀ w', (∃ n : ExtW W6, w' = n.val) → w'.heap[p6]? = some (rsetO fun k => if k = 0 then true else walkF (nx (tsOf bs)) (wholeS bn) 0 k) := fun w' ⟨n, e⟩ => by rw [e]; exact block_ext n.ext HS6.out
          have HMANY : Hid (∀ n' : ExtW W6, Calls Tryz.prog 99 #[.agg (setA fun k => if k = 0 then true else walkF (nx (tsOf bs)) (wholeS bn) 0 k)] n'.val fun e w'' => e = .returned (.int .i64 (cntS (fun k => if k = 0 then true else walkF (nx (tsOf bs)) (wholeS bn) 0 k) 200 : Nat)) ∧ ∃ m : ExtW W6, w'' = m.val) := fun n' => quiet_ext (many17_any _ _);have HE : Hid (fitsB (tsOf bs) = ((cntS (fun k => if k = 0 then true else walkF (nx (tsOf bs)) (wholeS bn) 0 k) 200 : Int) == (bn : Int))) := by rw [Hid]; subst hbl; exact fits_count HG.out
          have HNE : Nonempty (ExtW W6) := ⟨⟨W6, Below.refl _ _⟩⟩
          generalize (fun k => if k = 0 then true else walkF (nx (tsOf bs)) (wholeS bn) 0 k) = sf at *;clear hk6 hcz hfz H5 HB5 HK5 HS6 HK6;refine region_ext (by kernel_rfl) (by kernel_rfl) ?_;refine wpQuiet_load_row (o := ⟨some 61, .load 107 _, _, _, _, _⟩) (by rfl) 107 _ rfl p6 rfl 107 _ (0, 0) _ qs Tryz.underlying107 rfl (by rw [setA_size]; exact size_rset) ?_;simp only [zJ,zG,zH,zI]
          repeat (first
           | go_big_quiet_skip
           | go_big_quiet_step (first
             | (go_at_call 99; exact HMANY.out _)))
          refine wpQuiet_nil ?_;intro _ hw';obtain ⟨n', rfl⟩ := hw';have HB8 : Hid (Below w.heap.size w n'.val) := ext_trans HB.out (HB6.out.trans (n'.ext.mono HB6.out.size));generalize n'.val = W8 at *;clear q1 qs HMANY;go_wp2
          go_ret
          exact ⟨ret_bool HE.out.symm, HB8.out⟩
end

section
open Go.RowKit
theorem setOf17_any (a : Option Addr) (n c : Nat) (xs : List Int) (w : World) (h : Ints w a n xs) : Calls Tryz.prog 108 #[.slice a n c] w (SetPost w (ofS xs)) := by
 have HL := Lib.hid h.1
 have hn := h.2.1
 have H := Lib.hid h
 clear h
 go_enter Tryz.func108, Tryz.ntmps108
 go_wp2
 go_loopw [4] (fun i wr => ∃ (k : Nat), k ≤ n ∧ i = .int .i64 k ∧ Hid (wr.heap[w.heap.size]? = some (rsetO fun _ => false)) ∧ Hid (wr.heap[w.heap.size + 1]? = some (rsetO (ofS (xs.take k)))) ∧ Hid (Below w.heap.size w wr)) (fun i _ => n - (intOf i).toNat)
 case atStart =>
  refine ⟨0, by omega, rfl, ?_, ?_, (ext_alloc _ _).alloc (by simp) _⟩
  · rw [Hid, Below.heap_alloc _ _ _ (by simp), heap_alloc_new, zero_rset]
  · rw [Hid, heap_at _ _ _ (by simp), zero_rset]; congr 3; funext j; simp [ofS]
 case round =>
  obtain ⟨k, hk, rfl, HR, HS, HB⟩ := hrel;by_cases hlt : k < n
  · obtain ⟨b, o, rfl, hc, hw1, hw2⟩ := (H.out.ext HB.out).2.2 k hlt;have hkx : k < xs.length := by rw [HL.out]; exact hlt
    have hlt' : (k : Int) < (n : Int) := by omega
    by_cases h0 : 0 ≤ xs.getD k 0
    · by_cases h1 : xs.getD k 0 < 200
      · have hx : (xs.getD k 0).toNat < 200 := by omega
        have hcell := rset_cell HS.out _ hx;have hfr := rset_free HS.out (xs.getD k 0).toNat;have HS2 := Lib.hid (rset_to HS.out hx (ofS_put xs k hkx h0 h1));have HR2 := Lib.hid (grown_row (grown_setCell wr (w.heap.size + 1) (xs.getD k 0).toNat (.bool true)) HR.out (by simp));have hl := lt_of_heap HS.out;generalize xs.getD k 0 = x at *;generalize ofS (xs.take k) x.toNat = bb at *;go_wp2
        go_roundw
        case rel => exact ⟨k + 1, by omega, by go_num, HR2, HS2, HB.out.setCell (by simp) _⟩
        case measure => simp [intOf]; omega
      · have HS2 : Hid (wr.heap[w.heap.size + 1]? = some (rsetO (ofS (xs.take (k + 1))))) := by rw [Hid, ← ofS_skip xs k hkx (.inr (by omega))]; exact HS.out
        generalize xs.getD k 0 = x at *;go_wp2
        go_roundw
        case rel => exact ⟨k + 1, by omega, by go_num, HR, HS2, HB⟩
        case measure => simp [intOf]; omega
    · have HS2 : Hid (wr.heap[w.heap.size + 1]? = some (rsetO (ofS (xs.take (k + 1))))) := by rw [Hid, ← ofS_skip xs k hkx (.inl (by omega))]; exact HS.out
      generalize xs.getD k 0 = x at *;go_wp2
      go_roundw
      case rel => exact ⟨k + 1, by omega, by go_num, HR, HS2, HB⟩
      case measure => simp [intOf]; omega
  · obtain rfl : k = n := by omega
    have HT : Hid (xs.take k = xs) := List.take_of_length_le (by rw [HL.out]; omega);have HSx : Hid (wr.heap[w.heap.size + 1]? = some (rsetO (ofS xs))) := by have := HS.out; rwa [HT.out] at this
    go_wp2_with (first
     | (refine wpList_load_row rfl 107 _ rfl (w.heap.size + 1) rfl 107 _ (0, 0) _ HSx.out Tryz.underlying107 rfl (by rw [setA_size]; exact size_rset) ?_)
     | (refine wpList_store_row rfl 107 _ _ rfl w.heap.size (setA (ofS xs)) rfl rfl 107 _ HR.out (by rw [setA_size]; exact size_rset) rfl (setA_all _) ?_))
    exact bodyPost_ret (v := .agg (setA (ofS xs))) (by simp [results, Tryz.results108, asAddr, Act.put, load_rset (setRow_heap _ _ _ _ _ _ HR.out)]) rfl ⟨rfl, below_setRow HB.out (by omega) _⟩
theorem listTo_step (f : Nat → Bool) (k : Nat) : (List.range (k + 1)).filter f = (List.range k).filter f ++ if f k then [k] else [] := by
 rw [List.range_succ, List.filter_append]
 cases h : f k <;> simp [h]
theorem list17_any (f : Nat → Bool) (w : World) : Calls Tryz.prog 76 #[.agg (setA f)] w (IntsPost w (intsN (listS f))) := by
 have HK0 : Hid ((w.alloc (rsetO f)).heap[w.heap.size]? = some (rsetO f)) := heap_alloc_new _ _
 go_enter Tryz.func76, Tryz.ntmps76
 go_wp2
 go_loopw [3, 4] (fun s3 i wr => ∃ (k : Nat), k ≤ 200 ∧ i = .int .i64 k ∧ Hid (OwnI wr (w.heap.size + 1) s3 (intsN ((List.range k).filter f))) ∧ Hid (wr.heap[w.heap.size]? = some (rsetO f)) ∧ Hid (Below w.heap.size w wr)) (fun _ i _ => 200 - (intOf i).toNat)
 case atStart => exact ⟨0, by omega, rfl, OwnI.nil _ _, HK0, ext_alloc _ _⟩
 case round =>
  obtain ⟨k, hk, rfl, HO, HK, HB⟩ := hrel;obtain ⟨va, vc, rfl⟩ := HO.out.form;have HST := Lib.hid (listTo_step f k);have hlen : (intsN ((List.range k).filter f)).length ≤ 200 := by
   have := List.length_filter_le f (List.range k);simp [intsN] at this ⊢; omega
  by_cases hlt : k < 200
  · have hcell := rset_cell HK.out k hlt;have hl := lt_of_heap HK.out;cases hf : f k with
    | true =>
      rw [hf] at hcell HST;have HST2 : Hid (intsN ((List.range (k + 1)).filter f) = intsN ((List.range k).filter f) ++ [(k : Int)]) := by rw [Hid, HST.out]; simp [intsN]
      clear HST hf;generalize intsN ((List.range k).filter f) = xs at *
      go_wp2_with (
       (at_builtin
        refine wpList_append1 rfl wr (.tmp 12) (.tmp 14) 22 3 rfl (w.heap.size + 1) _ 1 8 Tryz.underlying22 infoI rfl (by omega) (.slice va xs.length vc) xs.length _ [.int .i64 (k : Int)] rfl HO.out.1 wr.heap.size rfl rfl rfl (by simp [Value.oneCell']) (by simp only [maxLen]; omega) (by omega) (by omega) ?_;intro g cap w2 hown2 hg2 hat2
        have HO2 : Hid (OwnI w2 (w.heap.size + 1) (.slice (some ⟨g, 0, none⟩) (xs.length + 1) cap) (xs ++ [(k : Int)])) := (by
         refine ⟨?_, fun z hz => ?_, by simp; omega⟩
         · have e4 : intVals (xs ++ [(k : Int)]) = intVals xs ++ [.int .i64 (k : Int)] := by simp [intVals]
           rw [e4, List.length_append];exact hown2
         · rcases List.mem_append.1 hz with h | h
           · exact HO.out.2.1 z h
           · simp only [List.mem_singleton] at h;subst h;unfold I64
             omega)
        have HK2 := Lib.hid (grown_row hg2 HK.out (fun e => by have := (HO.out.1.lt _ e).1; omega));have HB2 := Lib.hid (HB.out.grown hg2 (by omega) (fun q e => by have := (HO.out.1.lt q e).1; omega))
        clear hown2 hg2 hat2))
      go_roundw
      case rel => exact ⟨k + 1, by omega, by go_num, by rw [HST2.out]; exact HO2, HK2, HB2⟩
      case measure => simp [intOf]; omega
    | false =>
      rw [hf] at hcell HST;have HST2 : Hid (intsN ((List.range (k + 1)).filter f) = intsN ((List.range k).filter f)) := by rw [Hid, HST.out]; simp
      clear HST hf;go_wp2
      go_roundw
      case rel => exact ⟨k + 1, by omega, by go_num, by rw [HST2.out]; exact HO, HK, HB⟩
      case measure => simp [intOf]; omega
  · obtain rfl : k = 200 := by omega
    go_wp2
    go_ret
    exact ⟨_, rfl, HO.out.mono (by omega), HB.out⟩
theorem parents17_any (a : Option Addr) (n c : Nat) (ls : List TileR) (w : World) (h : TilesOK w a n ls) :
  Calls Tryz.prog 103 #[.slice a n c] w fun e w' => e = .returned (.bool (parentsB (tdOf ls))) ∧ w = w' := by
 have hn := h.1.2.1
 have HL := Lib.hid h.1.1
 have H := Lib.hid h
 clear h
 go_enter Tryz.func103, Tryz.ntmps103
 go_wp2
 go_loopw [3] (fun i wr => ∃ (k : Nat), k ≤ n ∧ i = .int .i64 k ∧ Hid (∀ j, j < k → -1 ≤ parL (tdOf ls) j ∧ parL (tdOf ls) j < j) ∧ Hid (wr = w)) (fun i _ => n - (intOf i).toNat)
 case atStart => exact ⟨0, by omega, rfl, fun j hj => absurd hj (by omega), rfl⟩
 case round =>
  obtain ⟨k, hk, rfl, HR, HW⟩ := hrel;obtain rfl : wr = w := HW.out;by_cases hlt : k < n
  · obtain ⟨t, b, o, hlk, hok, rfl, c0, c1, c2⟩ := H.out.cells hlt;obtain ⟨_, _, _, hp1, hp2⟩ := hok;have htd := tdOf_at ls k t hlk;have HTD : Hid (parL (tdOf ls) k = t.d.parent) := by rw [Hid, parL, htd]
    clear hlk htd;have hlt' : (k : Int) < (n : Int) := by omega
    by_cases hg1 : t.d.parent < -1
    · have HE : Hid (parentsB (tdOf ls) = false) := by
       rw [Hid, Bool.eq_false_iff];intro h;have := (parentsB_iff _).1 h k (by rw [tdOf_len, HL.out]; exact hlt);rw [HTD.out] at this;omega
      go_wp2
      go_ret
      exact ⟨by rw [HE.out]; rfl, rfl⟩
    · by_cases hg2 : t.d.parent < k
      · have HR2 : Hid (∀ j, j < k + 1 → -1 ≤ parL (tdOf ls) j ∧ parL (tdOf ls) j < j) := fun j hj => by
         by_cases e : j = k
         · subst e; rw [HTD.out]; omega
         · exact HR.out j (by omega)
        go_wp2
        go_roundw
        case rel => exact ⟨k + 1, by omega, by go_num, HR2, trivial⟩
        case measure => simp [intOf]; omega
      · have HE : Hid (parentsB (tdOf ls) = false) := by
         rw [Hid, Bool.eq_false_iff];intro h;have := (parentsB_iff _).1 h k (by rw [tdOf_len, HL.out]; exact hlt);rw [HTD.out] at this;omega
        go_wp2
        go_ret
        exact ⟨by rw [HE.out]; rfl, rfl⟩
  · obtain rfl : k = n := by omega
    have HE : Hid (parentsB (tdOf ls) = true) := by
     rw [Hid, parentsB_iff, tdOf_len, HL.out];exact HR.out
    go_wp2
    go_ret
    exact ⟨by rw [HE.out]; rfl, rfl⟩
theorem has_yes (l : List Int) (n : Int) (k : Nat) (h : k < l.length) (he : l.getD k 0 = n) : l.contains n = true := by
 rw [List.contains_iff_mem, ← he, List.getD_eq_getElem?_getD, List.getElem?_eq_getElem h]
 exact List.getElem_mem _
theorem has_no (l : List Int) (n : Int) (h : ∀ k, k < l.length → l.getD k 0 ≠ n) : l.contains n = false := by
 rw [Bool.eq_false_iff]
 intro hc
 rw [List.contains_iff_mem] at hc
 obtain ⟨j, hj, e⟩ := List.getElem_of_mem hc
 have := h j hj
 rw [List.getD_eq_getElem?_getD, List.getElem?_eq_getElem hj, Option.getD_some] at this
 exact this e
theorem has17_any (a : Option Addr) (n c : Nat) (xs : List Int) (x : Int) (w : World) (h : Ints w a n xs) :
  Calls Tryz.prog 165 #[.slice a n c, .int .i64 x] w fun e w' => e = .returned (.bool (xs.contains x)) ∧ w = w' := by
 obtain ⟨hl, hn, hc⟩ := h
 have HL := Lib.hid hl
 have HC := Lib.hid hc
 clear hl hc
 go_enter Tryz.func165, Tryz.ntmps165
 go_wp2
 go_loopw [5] (fun i wr => ∃ (k : Nat), k ≤ n ∧ i = .int .i64 k ∧ wr = w ∧ Hid (∀ j, j < k → xs.getD j 0 ≠ x)) (fun i _ => n - (intOf i).toNat)
 case atStart => exact ⟨0, by omega, rfl, rfl, fun j hj => absurd hj (by omega)⟩
 case round =>
  obtain ⟨k, hk, rfl, rfl, HR⟩ := hrel;by_cases hlt : k < n
  · obtain ⟨b, o, rfl, hcell, _⟩ := HC.out k hlt;by_cases he : xs.getD k 0 = x
    · have HE : Hid (xs.contains x = true) := has_yes xs x k (by rw [HL.out]; exact hlt) he;rw [he] at hcell;clear he;go_wp2
      go_ret
      exact ⟨by rw [HE.out]; rfl, rfl⟩
    · have HE : Hid (∀ j, j < k + 1 → xs.getD j 0 ≠ x) := fun j hj => by
       by_cases hjk : j = k
       · subst hjk; exact he
       · exact HR.out j (by omega)
      generalize xs.getD k 0 = y at *;go_wp2
      go_roundw
      case rel => exact ⟨k + 1, by omega, by go_num, trivial, HE⟩
      case measure => simp [intOf]; omega
  · have HE : Hid (xs.contains x = false) := has_no xs x fun j h1 => HR.out j (by rw [HL.out] at h1; omega);go_wp2
    go_ret
    exact ⟨by rw [HE.out]; rfl, rfl⟩
end

section
def chilTo (l : List TileD) (k m : Nat) : List Nat := (List.range m).filter fun i => decide (k < i) && (parL l i == (k : Int))
def idxT (l : List TileD) : Nat → Nat → List Nat
 | 0, k => [k]
 | f + 1, k => k :: (chilTo l k l.length).flatMap (idxT l f)
def rawI (l : List TileD) (f k : Nat) : List Int := (idxT l f k).flatMap (blkL l)
theorem chilTo_step (l : List TileD) (k m : Nat) : chilTo l k (m + 1) = chilTo l k m ++ if (decide (k < m) && (parL l m == (k : Int))) = true then [m] else [] := by
 rw [chilTo, chilTo, List.range_succ, List.filter_append]
 cases h : (decide (k < m) && (parL l m == (k : Int))) <;> simp [h]
theorem chilTo_zero (l : List TileD) (k : Nat) : chilTo l k (k + 1) = [] := by
 rw [chilTo, List.filter_eq_nil_iff]
 intro i hi
 rw [List.mem_range] at hi
 simp; omega
theorem rawI_step (l : List TileD) (f k : Nat) : rawI l (f + 1) k = blkL l k ++ (chilTo l k l.length).flatMap (rawI l f) := by
 rw [rawI, idxT, List.flatMap_cons]
 congr 1
 simp only [List.flatMap_assoc]
 rfl
theorem mem_chil (l : List TileD) (k m i : Nat) : i ∈ chilTo l k m ↔ i < m ∧ k < i ∧ parL l i = (k : Int) := by
 simp [chilTo]
section
variable {l : List TileD} (hp : parentsB l = true)
include hp
theorem mem_idx : ∀ (f k n : Nat), k < l.length → l.length - k ≤ f → (n ∈ idxT l f k ↔ n < l.length ∧ descB l k n = true) := by
 intro f
 induction f with
 | zero => intro k n hk hf; omega
 | succ f ih =>
   intro k n hk hf;rw [idxT, List.mem_cons, List.mem_flatMap];constructor
   · rintro (rfl | ⟨i, hi, hn⟩)
     · exact ⟨hk, descB_self l n⟩
     · obtain ⟨h1, h2, h3⟩ := (mem_chil l k _ i).1 hi;obtain ⟨h4, h5⟩ := (ih i n h1 (by omega)).1 hn;refine ⟨h4, descB_trans hp k i ?_ n h4 h5⟩;rw [descB_eq hp k i h1, h3, Int.toNat_natCast, descB_self];simp
   · rintro ⟨h1, h2⟩;by_cases e : n = k
     · exact .inl e
     · right;have key : ∀ n, n < l.length → n ≠ k → descB l k n = true → ∃ i, i ∈ chilTo l k l.length ∧ descB l i n = true := by
        intro n
        induction n using Nat.strongRecOn with
        | _ n ihn =>
          intro hn hne hd;rw [descB_eq hp k n hn] at hd;have hp1 := (parentsB_iff l).1 hp n hn;simp only [Bool.or_eq_true, beq_iff_eq, Bool.and_eq_true, decide_eq_true_eq] at hd;obtain ⟨h0, hd⟩ := hd.resolve_left hne;by_cases e : (parL l n).toNat = k
          · have hkn : k < n := by omega
            exact ⟨n, (mem_chil l k _ n).2 ⟨hn, hkn, by omega⟩, descB_self l n⟩
          · obtain ⟨i, hi, hdi⟩ := ihn (parL l n).toNat (by omega) (by omega) e hd;refine ⟨i, hi, ?_⟩;rw [descB_eq hp i n hn, hdi, decide_eq_true h0];simp
       obtain ⟨i, hi, hd⟩ := key n h1 e h2;obtain ⟨h3, h4, _⟩ := (mem_chil l k _ i).1 hi;exact ⟨i, hi, (ih i n h3 (by omega)).2 ⟨h1, hd⟩⟩
theorem nodup_idx : ∀ (f k : Nat), k < l.length → l.length - k ≤ f → (idxT l f k).Nodup := by
 intro f
 induction f with
 | zero => intro k hk hf; omega
 | succ f ih =>
   intro k hk hf;have hge : ∀ i, i ∈ chilTo l k l.length → ∀ n, n ∈ idxT l f i → i ≤ n ∧ n < l.length ∧ descB l i n = true := fun i hi n hn => by
    obtain ⟨h1, h2, _⟩ := (mem_chil l k _ i).1 hi;obtain ⟨h3, h4⟩ := (mem_idx hp f i n h1 (by omega)).1 hn;exact ⟨descB_ge hp i n h3 h4, h3, h4⟩
   rw [idxT, List.nodup_cons];refine ⟨fun hm => ?_, ?_⟩
   · obtain ⟨i, hi, hn⟩ := List.mem_flatMap.1 hm;have := (hge i hi k hn).1;have := ((mem_chil l k _ i).1 hi).2.1;omega
   · have hsub : ∀ L : List Nat, L.Pairwise (· < ·) → (∀ i ∈ L, i ∈ chilTo l k l.length) → (L.flatMap (idxT l f)).Nodup := by
      intro L
      induction L with
      | nil => intro _ _; simp
      | cons i L ihL =>
        intro hs hL;obtain ⟨hs1, hs2⟩ := List.pairwise_cons.1 hs;rw [List.flatMap_cons, List.nodup_append];have hi := hL i (by simp);obtain ⟨h1, h2, h3⟩ := (mem_chil l k _ i).1 hi;refine ⟨ih i h1 (by omega), ihL hs2 (fun j hj => hL j (by simp [hj])), fun x hx y hy e => ?_⟩;subst e;obtain ⟨j, hj, hy⟩ := List.mem_flatMap.1 hy;have hij := hs1 j hj;obtain ⟨g1, g2, g3⟩ := (mem_chil l k _ j).1 (hL j (by simp [hj]));obtain ⟨_, hx1, hx2⟩ := hge i hi x hx;obtain ⟨_, _, hy2⟩ := hge j (hL j (by simp [hj])) x hy;have hd := descB_chain hp i j (by omega) x hx1 hx2 hy2;rw [descB_eq hp i j g1, g3] at hd;simp only [Bool.or_eq_true, beq_iff_eq, Bool.and_eq_true, decide_eq_true_eq, Int.toNat_natCast] at hd;rcases hd with hd | ⟨_, hd⟩
        · omega
        · have := descB_ge hp i k hk hd; omega
     refine hsub _ ?_ (fun i hi => hi);exact List.Pairwise.filter _ List.pairwise_lt_range
theorem mem_rawI {k : Nat} (hk : k < l.length) (f : Nat) (hf : l.length - k ≤ f) (x : Int) : x ∈ rawI l f k ↔ x ∈ rawL l k l.length := by
 rw [mem_rawL l k hk, rawI, List.mem_flatMap]
 constructor
 · rintro ⟨n, hn, hx⟩;obtain ⟨h1, h2⟩ := (mem_idx hp f k n hk hf).1 hn;exact ⟨n, h1, h2, hx⟩
 · rintro ⟨n, h1, h2, hx⟩;exact ⟨n, (mem_idx hp f k n hk hf).2 ⟨h1, h2⟩, hx⟩
end
theorem sum_erase {g : Nat → Nat} {x : Nat} : ∀ {L : List Nat}, x ∈ L → (L.map g).sum = g x + ((L.erase x).map g).sum
 | y :: L, h => by
   by_cases e : y = x
   · subst e; simp
   · have h2 : x ∈ L := by
      rcases List.mem_cons.1 h with h | h
      · exact absurd h.symm e
      · exact h
     have := sum_erase (g := g) h2;rw [List.erase_cons_tail (by simpa using e)];simp only [List.map_cons, List.sum_cons];omega
theorem sum_nodup (g : Nat → Nat) : ∀ (N : Nat) (L : List Nat), L.Nodup → (∀ x ∈ L, x < N) → (L.map g).sum ≤ ((List.range N).map g).sum := by
 intro N
 induction N with
 | zero =>
   intro L _ h;cases L with
   | nil => simp
   | cons x L => have := h x (by simp); omega
 | succ N ih =>
   intro L hn h;rw [List.range_succ, List.map_append, List.sum_append];simp only [List.map_cons, List.map_nil, List.sum_cons, List.sum_nil, Nat.add_zero];by_cases hm : N ∈ L
   · rw [sum_erase hm]
     have := ih (L.erase N) (hn.erase N) (fun x hx => by
      have h1 := h x (List.mem_of_mem_erase hx);have h2 : x ≠ N := fun e => by subst e; exact absurd hx (hn.not_mem_erase)
      omega)
     omega
   · have := ih L hn (fun x hx => by
      have h1 := h x hx;have h2 : x ≠ N := fun e => by subst e; exact hm hx
      omega)
     omega
theorem len_flat (g : Nat → List Int) : ∀ L : List Nat, (L.flatMap g).length = (L.map fun n => (g n).length).sum
 | [] => rfl
 | x :: L => by simp [len_flat g L]
theorem rangeSum (l : List TileD) : ((List.range l.length).map fun n => (blkL l n).length).sum = totL l := by
 rw [totL]
 congr 1
 apply List.ext_getElem?
 intro k
 simp only [List.getElem?_map]
 by_cases hk : k < l.length
 · rw [List.getElem?_range hk, List.getElem?_eq_getElem hk];simp [blkL, List.getD_eq_getElem?_getD, hk]
 · rw [List.getElem?_eq_none (by simp; omega), List.getElem?_eq_none (by omega)]; rfl
theorem rawI_len {l : List TileD} (hp : parentsB l = true) {k : Nat} (hk : k < l.length) (f : Nat) (hf : l.length - k ≤ f) : (rawI l f k).length ≤ totL l := by
 rw [rawI, len_flat, ← rangeSum]
 exact sum_nodup _ _ _ (nodup_idx hp f k hk hf) fun x hx => ((mem_idx hp f k x hk hf).1 hx).1
theorem rawI_part {l : List TileD} (hp : parentsB l = true) {k m : Nat} (hk : k < l.length) (hm : m ≤ l.length) (f : Nat) (hf : l.length - k ≤ f + 1) : (blkL l k ++ (chilTo l k m).flatMap (rawI l f)).length ≤ totL l := by
 have h := rawI_len hp hk (f + 1) hf
 rw [rawI_step, List.length_append] at h
 rw [List.length_append]
 have e : List.range l.length = List.range m ++ List.range' m (l.length - m) := by
  rw [List.range_eq_range', List.range_eq_range', show l.length = m + (l.length - m) by omega, ← List.range'_append];simp
 have e2 : chilTo l k l.length = chilTo l k m ++ (List.range' m (l.length - m)).filter fun i => decide (k < i) && (parL l i == (k : Int)) := by
  rw [chilTo, chilTo, e, List.filter_append]
 rw [e2, List.flatMap_append, List.length_append] at h
 omega
end

section
theorem homes_len (l : List TileD) (b : Nat) : (homes l b).length ≤ totL l := by
 rw [← rangeSum, homes, List.length_flatMap]
 have : ∀ L : List Nat, (L.map fun k => (((blkL l k).filter fun x => x == (b : Int)).map fun _ => k).length).sum ≤ (L.map fun n => (blkL l n).length).sum := by
  intro L
  induction L with
  | nil => simp
  | cons x L ih =>
    simp only [List.map_cons, List.sum_cons, List.length_map] at ih ⊢;have := List.length_filter_le (fun x => x == (b : Int)) (blkL l x);omega
 exact this _
theorem homesAt_len (l : List TileD) (k i b : Nat) (hk : k ≤ l.length) (hi : k = l.length → i = 0) : (homesAt l k i b).length ≤ totL l := by
 by_cases h : k < l.length
 · obtain ⟨r, hr⟩ := homesAt_le l k i b h;have := homes_len l b;rw [hr, List.length_append] at this;omega
 · have e : k = l.length := by omega
   rw [hi e, e, homesAt_end];exact homes_len l b
theorem ownL_step {l : List TileD} {b : Nat} (h : (homes l b).length = 1) : ownL l (b + 1) = ownL l b ++ intsN (homes l b) := by
 have : intsN (homes l b) = [(ownF l b : Int)] := by
  match e : homes l b, h with
  | [x], _ => simp [intsN, ownF, e]
 rw [this, ownL, ownL, List.range_succ, List.map_append]
 rfl
theorem ownL_len (l : List TileD) (n : Nat) : (ownL l n).length = n := by simp [ownL]
theorem ownB_all {l : List TileD} {n : Nat} (h : ∀ b, b < n → (homes l b).length = 1) : ownB l n = true := by
 simp only [ownB, List.all_eq_true, List.mem_range, beq_iff_eq]
 exact h
def entTo (ts : List TermD) (s : Nat → Bool) (i k : Nat) : Nat → Bool := fun y => s y && (pvAt ts i k y).any fun x => !s x
theorem entTo_zero (ts : List TermD) (s : Nat → Bool) : entTo ts s 0 0 = fun _ => false := by
 funext y; simp [entTo, pvAt_zero]
theorem entTo_next (ts : List TermD) (s : Nat → Bool) (i k : Nat) (h : (nx ts i).length ≤ k) : entTo ts s i k = entTo ts s (i + 1) 0 := by
 funext y; rw [entTo, entTo, pvAt_next ts i k y h]
theorem entTo_in (ts : List TermD) (s : Nat → Bool) (i : Nat) (hi : s i = true) : entTo ts s i 0 = entTo ts s (i + 1) 0 := by
 rw [← entTo_next ts s i (nx ts i).length (Nat.le_refl _)]
 have : ∀ k, k ≤ (nx ts i).length → entTo ts s i 0 = entTo ts s i k := by
  intro k
  induction k with
  | zero => intro _; rfl
  | succ k ih =>
    intro hk;rw [ih (by omega)]
    funext y
    rw [entTo, entTo, pvAt_step ts i k _ (List.getElem?_eq_getElem (by omega)) y]
    split
    · simp [hi]
    · rfl
 exact this _ (Nat.le_refl _)
theorem entTo_put (ts : List TermD) (s : Nat → Bool) (i k : Nat) (hk : k < (nx ts i).length) (hi : s i = false) (hs : s ((nx ts i).getD k 0) = true) : (fun y => if y = (nx ts i).getD k 0 then true else entTo ts s i k y) = entTo ts s i (k + 1) := by
 have hg : (nx ts i)[k]? = some ((nx ts i).getD k 0) := by simp [List.getD_eq_getElem?_getD, hk]
 funext y
 rw [entTo, entTo, pvAt_step ts i k _ hg y]
 by_cases e : y = (nx ts i).getD k 0
 · rw [if_pos e, if_pos e, e, hs]; simp [hi]
 · rw [if_neg e, if_neg e]
theorem entTo_skip (ts : List TermD) (s : Nat → Bool) (i k : Nat) (hk : k < (nx ts i).length) (hs : s ((nx ts i).getD k 0) = false) : entTo ts s i k = entTo ts s i (k + 1) := by
 have hg : (nx ts i)[k]? = some ((nx ts i).getD k 0) := by simp [List.getD_eq_getElem?_getD, hk]
 funext y
 rw [entTo, entTo, pvAt_step ts i k _ hg y]
 by_cases e : y = (nx ts i).getD k 0
 · rw [if_pos e, e, hs]; simp
 · rw [if_neg e]
theorem entTo_end {ts : List TermD} (hg : goodB ts = true) (s : Nat → Bool) : listS (entTo ts s ts.length 0) = entriesS ts s := by
 rw [entriesS, listS, listS, List.filter_filter]
 refine List.filter_congr fun y _ => ?_
 rw [entTo, pvAt_end]
 cases h : ((pv ts y).any fun x => !s x) with
 | false => simp
 | true =>
   obtain ⟨x, hx, _⟩ := List.any_eq_true.1 h;have := good_nx hg ((mem_pv ts y x).1 hx);simp [this.2]
def besF (l : List TileD) (k o : Int) : List Int := (chainL l k).filter fun m => !(allL l m).contains o
theorem besF_end (l : List TileD) {k : Int} (o : Int) (h : k < 0) : besF l k o = [] := by rw [besF, chainL_end l h]; rfl
section
variable {l : List TileD} (hp : parentsB l = true)
include hp
theorem all_up {k : Nat} {o : Int} (hk : k < l.length) (ho : o ∈ allL l k) {m : Int} (hm : m ∈ chainL l (k : Int)) : o ∈ allL l m := by
 obtain ⟨h0, hd⟩ := (mem_chainL hp m k hk).1 hm
 have hle := descB_ge hp m.toNat k hk hd
 obtain ⟨n, h1, h2, h3⟩ := (mem_allL l k hk hp o).1 ho
 have e : ((m.toNat : Nat) : Int) = m := by omega
 rw [← e]
 exact (mem_allL l m.toNat (by omega) hp o).2 ⟨n, h1, descB_trans hp m.toNat k hd n h1 h2, h3⟩
theorem besF_stop {k o : Int} (h0 : 0 ≤ k) (hk : k < l.length) (ho : (allL l k).contains o = true) : besF l k o = [] := by
 rw [besF, List.filter_eq_nil_iff]
 intro m hm
 have e : ((k.toNat : Nat) : Int) = k := by omega
 rw [← e] at hm
 have := all_up hp (k := k.toNat) (o := o) (by omega) (by rw [e]; simpa using ho) hm
 simpa using this
theorem besF_step {k o : Int} (h0 : 0 ≤ k) (hk : k < l.length) (ho : (allL l k).contains o = false) : besF l k o = k :: besF l (parL l k.toNat) o := by
 rw [besF, chainL_step hp h0 hk, List.filter_cons, ho]
 rfl
theorem besL_F {n : Nat} (h : ownB l n = true) {b o : Int} (h0 : 0 ≤ b) (hb : b < n) (h1 : 0 ≤ o) (ho : o < n) : besL l b o = besF l (ownF l b.toNat : Int) o := by
 rw [besL, besF, inL]
 refine List.filter_congr fun m hm => ?_
 have hlt := own_lt h (b := b.toNat) (by omega)
 have hm2 := chain_mem hp _ _ (Int.lt_succ _) (by omega) m hm
 have e : ((m.toNat : Nat) : Int) = m := by omega
 have := mem_inL hp h h1 ho (k := m.toNat) (by omega)
 rw [e] at this
 congr 1
 rw [Bool.eq_iff_iff, List.contains_iff_mem, List.contains_iff_mem]
 exact this
end
theorem rows_ask (ts : List TermD) (l : List TileD) (ask : EdgeD → Bool) : rowsL ts l ask = (rowsL ts l fun _ => true).filter fun r => ask r.e := by
 rw [rowsL, rowsL, List.filter_map, List.filter_filter]
 congr 1
 refine List.filter_congr fun x _ => ?_
 simp only [betwB, Function.comp, rowOf, Bool.and_true]
 rw [Bool.and_comm]
end

section
open Go.RowKit
theorem OwnI.low {w : World} {base k : Nat} {v : Value} {xs : List Int} (h : OwnI w base v xs) (hk : v.ownBlock = some k) : base ≤ k ∧ k < w.heap.size := ⟨(h.1.lt k hk).1, (h.1.lt k hk).2⟩
section
variable {P : Program} {Q : Exit → Act → World → Prop}
theorem wpList_append1I {ops : Array Oper} {rest : List Oper} {o : Oper} {a : Act} (hgd : o.guard = none) (w0 : World) (s x : Operand) (t : TypeId) (ho : o.op = .call { callee := .builtin .append, args := #[s, x], argTypes := #[t, t] })
  (base : Nat) (z : Value) (bytes : Nat) (ht : P.underlying t = some (.slice 3)) (hinfo : (P.info? 3).map (fun i => (i.zero, i.size, i.bytes)) = some (some z, 1, bytes)) (hzs : z.cells.size = 1)
  (v : Value) (xs : List Int) (hs : a.eval s = v) (hown : OwnI w0 base v xs) (y : Int) (hy : I64 y) (H : Nat) (hH : w0.heap.size = H) (hx : a.eval x = .slice (some ⟨H, 0, none⟩) 1 1) (hlen : xs.length ≤ 100000000) (hb8 : bytes ≤ 16) (hbase : base ≤ w0.heap.size)
  (h : ∀ g cap w', OwnI w' base (.slice (some ⟨g, 0, none⟩) (xs.length + 1) cap) (xs ++ [y]) → w0.grownBy w' v.ownBlock → (some g = v.ownBlock ∨ g = w0.heap.size + 1) → wpList P ops Q rest (a.put o.dst (.slice (some ⟨g, 0, none⟩) (xs.length + 1) cap)) w') :
  wpList P ops Q (o :: rest) a (w0.alloc (.cells #[.int .i64 y] 3)) := by
 subst hH
 refine wpList_append1 hgd w0 s x t 3 ho base z 1 bytes ht hinfo hzs (by omega) v xs.length _ [.int .i64 y] hs hown.1 w0.heap.size rfl hx rfl (by simp [Value.oneCell']) (by simp only [maxLen]; omega) (by
  have : (xs.length + 1) * bytes ≤ (xs.length + 1) * 16 := Nat.mul_le_mul_left _ hb8
  omega) hbase fun g cap w' h2 h3 h4 => h g cap w' ⟨?_, fun q hq => ?_, by simp; omega⟩ h3 h4
 · have e : intVals (xs ++ [y]) = intVals xs ++ [.int .i64 y] := by simp [intVals]
   rw [e, List.length_append];exact h2
 · rcases List.mem_append.1 hq with hq | hq
   · exact hown.2.1 q hq
   · simp at hq; subst hq; exact hy
end
end
end Go.Proofs.YtblhmdhfhaencaaGreat
