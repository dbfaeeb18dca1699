/-
 The document's answer to layer 17: Right. (Printed by gen_right17.py, which reads XTU.)
-/
import Derived.Test.YtblhmdhfhaencaaGreatRO
import Derived.Test.YtblhmdhfhaencaaGreatEE
import Derived.Test.YtblhmdhfhaencaaGreatFreeL
import Derived.Test.YtblhmdhfhaencaaGreatLR
import Derived.Test.YtblhmdhfhaencaaGreatApp1
import Derived.Test.YtblhmdhfhaencaaGreatTR
namespace Go.Proofs.YtblhmdhfhaencaaGreat
set_option linter.unusedSimpArgs false
set_option linter.unusedVariables false
set_option linter.unusedSectionVars false
set_option maxRecDepth 100000
set_option maxHeartbeats 40000000
section
open Go.RowKit
theorem all_range {n : Nat} {l : List TileD} (hp : parentsB l = true) (hn : n ≤ 200) (h : ∀ j, j < l.length → standsB n l j = true) (k : Nat) (hk : k < l.length) : (∀ x ∈ blkL l k, 0 ≤ x ∧ x < n) ∧ ∀ b, setK l k b = true → b < n := by
 have h1 : ∀ j, j < l.length → ∀ x ∈ blkL l j, 0 ≤ x ∧ x < n := fun j hj => (stands_facts hj hp hn (h j hj)).1
 refine ⟨h1 k hk, fun b hb => ?_⟩
 simp only [setK, ofS, Bool.and_eq_true, decide_eq_true_eq, List.contains_iff_mem] at hb
 obtain ⟨m, hm, _, hx⟩ := (mem_allL l k hk hp _).1 hb.2
 have := h1 m hm _ hx
 omega
theorem right17_any (pa : Option Addr) (pn pc : Nat) (ba : Option Addr) (bn bc : Nat) (bs : List BlkH) (a : Option Addr) (n c : Nat) (ls : List TileR) (w : World) (h : BlksOK w ba bn bs) (ht : TilesOK w a n ls) (hT : totL (tdOf ls) ≤ 1000000) :
  Calls Tryz.prog 43 #[funcV pa pn pc ba bn bc, .slice a n c] w fun e w' => e = .returned (.bool (rightB (tsOf bs) (tdOf ls))) ∧ Below w.heap.size w w' := by
 have hn := ht.1.2.1
 have HLN := Lib.hid ht.1.1
 have H := Lib.hid h
 have HT := Lib.hid ht
 have HTOT := Lib.hid hT
 clear h ht hT
 go_enter Tryz.func43, Tryz.ntmps43
 go_upto_region 1 with (fail)
 obtain ⟨W, hW⟩ : ∃ W, W = w.alloc (funcO pa pn pc ba bn bc) := ⟨_, rfl⟩
 rw [← hW]
 have hk0 : W.heap[w.heap.size]? = some (funcO pa pn pc ba bn bc) := by rw [hW]; exact heap_alloc_new _ _
 have hB : Below w.heap.size w W := by rw [hW]; exact ext_alloc _ _
 have HK := Lib.hid hk0
 have HB := Lib.hid hB
 clear hW hk0 hB
 go_upto_region 2 with (first
  | (refine wpList_load_row (o := ⟨some 12, .load 25 _, _, _, _, _⟩) rfl 25 _ rfl w.heap.size rfl 25 _ (0, 0) _ HK.out Tryz.underlying25 rfl size_func ?_)
  | (go_at_call 38
     refine (own17_any pa pn pc ba bn bc bs a n c ls W (H.out.ext HB.out) (HT.out.ext HB.out) HTOT.out).mono ?_;rintro e w2 ⟨v, en, rfl, hb, ho1, ho2, ho3⟩;have HK2 := Lib.hid (block_ext hb HK.out);have HB2 := Lib.hid (ext_trans HB.out hb);have HO1 := Lib.hid ho1;have HO2 := Lib.hid ho2;have HO3 := Lib.hid (fun h1 h2 => (ho3 h1 h2).imp id fun h => h.mono (show w.heap.size ≤ W.heap.size from HB.out.size))
     clear hb ho1 ho2 ho3))
 cases hf : fitsB (tsOf bs) with
 | false =>
   have HE : Hid (rightB (tsOf bs) (tdOf ls) = false) := by simp [Hid, rightB, hf]
   obtain ⟨rfl, rfl⟩ := HO1.out hf;clear hf HO1 HO2 HO3;go_wp2
   go_ret
   exact ⟨by rw [HE.out]; rfl, HB2.out⟩
 | true =>
   have HF := Lib.hid hf;have hgood := (goodB_iff _).1 (fits_good hf);have hbn : (tsOf bs).length = bn := by rw [tsOf_len]; exact H.out.1.1
   have hbn1 : 1 ≤ bn := by rw [← hbn]; exact hgood.1.1
   have hbn2 : bn ≤ 200 := by rw [← hbn]; exact hgood.1.2
   have HBN : Hid (bn ≤ 200) := hbn2;have HTL : Hid ((tsOf bs).length = bn) := hbn;clear hf hgood hbn HO1;cases hob : ownB (tdOf ls) bn with
   | false =>
     have HE : Hid (rightB (tsOf bs) (tdOf ls) = false) := by simp [Hid, rightB, HTL.out, hob]
     obtain ⟨rfl, rfl⟩ := HO2.out HF.out hob;clear hob HO2 HO3;go_wp2
     go_ret
     exact ⟨by rw [HE.out]; rfl, HB2.out⟩
   | true =>
     obtain ⟨rfl, ho⟩ := HO3.out HF.out hob;obtain ⟨va, vc, rfl⟩ := ho.form;have HOB := Lib.hid hob;obtain ⟨b0, o0, e0, hc0, _⟩ := ho.ints.2.2 0 (by rw [ownL_len]; omega);subst e0;have hv0 : (ownL (tdOf ls) bn).getD 0 0 = (ownF (tdOf ls) 0 : Int) := by
      have : (List.range bn)[0]? = some 0 := by rw [List.getElem?_range (by omega)]
      simp [ownL, List.getD_eq_getElem?_getD, this]
     rw [hv0] at hc0;have hc1 : w2.cell? ⟨b0, o0, none⟩ = some (.int .i64 (ownF (tdOf ls) 0 : Int)) := hc0;have hol := ownL_len (tdOf ls) bn;rw [hol];clear hob HO2 HO3 ho hv0 hc0 hol;by_cases hl : n ≤ 200
     · have dl : decide ((n : Int) > 200) = false := by simp; omega
       have dl2 : decide ((200 : Int) < (n : Int)) = false := by simp; omega
       cases hpar : parentsB (tdOf ls) with
       | false =>
         have HE : Hid (rightB (tsOf bs) (tdOf ls) = false) := by simp [Hid, rightB, hpar]
         have HPAR := Lib.hid hpar;clear hpar
         go_wp2_with (go_at_call 103
                      refine (parents17_any a n c ls w2 (HT.out.ext HB2.out)).mono ?_;rintro e w4 ⟨rfl, rfl⟩
                      rw [HPAR.out])
         go_ret
         exact ⟨by rw [HE.out]; rfl, HB2.out⟩
       | true =>
         have HPAR := Lib.hid hpar;clear hpar;by_cases hz : ownF (tdOf ls) 0 = 0
         · have HZ := Lib.hid hz;rw [hz] at hc1;clear hz
           go_wp2_with (go_at_call 103
                        refine (parents17_any a n c ls w2 (HT.out.ext HB2.out)).mono ?_;rintro e w4 ⟨rfl, rfl⟩
                        rw [HPAR.out])
           go_loopw [7, 8, 9] (fun s7 _ _ wr => ∃ k : Nat, k ≤ n ∧ s7 = .int .i64 (k : Int) ∧ Hid (∀ j, j < k → standsB bn (tdOf ls) j = true) ∧ Hid (wr.heap[w.heap.size]? = some (funcO pa pn pc ba bn bc)) ∧ Hid (Below w.heap.size w wr)) (fun s7 _ _ _ => n - (intOf s7).toNat)
           case atStart => exact ⟨0, by omega, by go_num, fun j hj => absurd hj (by omega), HK2, HB2⟩
           case round =>
            obtain ⟨k, hk, rfl, HR, HKr, HBr⟩ := hrel;clear HK2 HB2 hc1;by_cases hlt : k < n
            · have hlt' : (k : Int) < (n : Int) := by omega
              have hkl : k < (tdOf ls).length := by rw [tdOf_len, HLN.out]; exact hlt
              obtain ⟨t, b, o, hlk, ⟨hI, hcap, hI1, hI2⟩, rfl, c0, c1, c2⟩ := (HT.out.ext HBr.out).cells hlt;have htd := tdOf_at ls k t hlk;have hpk := (parentsB_iff _).1 HPAR.out k hkl;rw [parL, htd] at hpk;have HST := Lib.hid (stands_mis bn (tdOf ls) k);rw [htd] at HST;have HM : Hid (misB (tdOf ls) k = (((k == 0) != (t.d.kind == 1)) || ((k == 0) != (t.d.parent == -1)) || (t.d.blocks.length == 0) || (decide (0 < k) && (((tdOf ls).getD t.d.parent.toNat zTile).kind == 3)))) := by
               rw [Hid, misB, htd]
              have HLn := Lib.hid hI.1;have hbl := hI.2.1;have HI := Lib.hid hI;have HNO : Hid (standsB bn (tdOf ls) k = false → rightB (tsOf bs) (tdOf ls) = false) := fun h => by
               rw [Bool.eq_false_iff];intro h2;simp only [rightB, Bool.and_eq_true, List.all_eq_true, List.mem_range] at h2;have h3 := h2.2 k hkl;rw [HTL.out] at h3;rw [h3.1] at h;cases h
              have HYES : Hid (standsB bn (tdOf ls) k = true → ∀ j, j < k + 1 → standsB bn (tdOf ls) j = true) := fun h j hj => by
               by_cases e : j = k
               · subst e; exact h
               · exact HR.out j (by omega)
              clear hlk hI htd HR;go_upto_region 8 with (fail)
              obtain ⟨g, hg⟩ : ∃ g, g = wr.heap.size := ⟨_, rfl⟩
              obtain ⟨W2, hW2⟩ : ∃ W2, W2 = wr.alloc (tileO t) := ⟨_, rfl⟩
              rw [← hW2, ← hg];have hB2 : Below w.heap.size w W2 := by rw [hW2]; exact HBr.out.alloc HBr.out.size _
              have hB3 : Below wr.heap.size wr W2 := by rw [hW2]; exact ext_alloc _ _
              have ht2 : W2.heap[g]? = some (tileO t) := by rw [hW2, hg]; exact heap_alloc_new _ _
              have HK2 := Lib.hid (block_ext hB3 HKr.out);have HB2 := Lib.hid hB2;have HT2 := Lib.hid ht2;have HI2 := Lib.hid (HI.out.ext hB3);clear hW2 hB2 hB3 ht2 c0 c1 c2 HKr HBr hg
              go_cut [77] (fun s77 wr => s77 = .bool (misB (tdOf ls) k) ∧ wr = W2)
              case first =>
               have t0 : W2.cell? ⟨g, 0, none⟩ = some (.int .i64 t.d.kind) := by rw [cell_of_row _ _ _ _ _ _ HT2.out]; rfl
               have t1 : W2.cell? ⟨g, 1, none⟩ = some (.int .i64 t.d.parent) := by rw [cell_of_row _ _ _ _ _ _ HT2.out]; rfl
               have t2 : W2.cell? ⟨g, 2, none⟩ = some (.slice t.ba t.bn t.bc) := by rw [cell_of_row _ _ _ _ _ _ HT2.out]; rfl
               by_cases hk0 : k = 0
               · have fk : ((k : Int) == 0) = true := by simp [hk0]
                 have fkp : decide (0 < (k : Int)) = false := by simp [hk0]
                 have fkn : decide (0 < k) = false := by simp [hk0]
                 by_cases ha : t.d.kind = 1
                 · have fa : (t.d.kind == 1) = true := by simp [ha]
                   have hpe : t.d.parent = -1 := by omega
                   have fp : (t.d.parent == -1) = true := by simp [hpe]
                   by_cases hl : t.bn = 0
                   · have fl : ((t.bn : Int) == 0) = true := by simp [hl]
                     have hE : Hid (misB (tdOf ls) k = true) := by rw [Hid, HM.out]; simp [HLn.out, hk0, ha, hpe, hl]
                     clear hk0 ha hpe hl hpk;go_wp2
                     go_meet
                     exact ⟨(congrArg Value.bool hE.out).symm, rfl⟩
                   · have fl : ((t.bn : Int) == 0) = false := by simp [hl]
                     have hE : Hid (misB (tdOf ls) k = false) := by rw [Hid, HM.out]; simp [HLn.out, hk0, ha, hpe, hl]
                     clear hk0 ha hpe hl hpk;go_wp2
                     go_meet
                     exact ⟨(congrArg Value.bool hE.out).symm, rfl⟩
                 · have fa : (t.d.kind == 1) = false := by simp [ha]
                   have hE : Hid (misB (tdOf ls) k = true) := by rw [Hid, HM.out]; simp [HLn.out, hk0, ha]
                   clear hk0 ha hpk;go_wp2
                   go_meet
                   exact ⟨(congrArg Value.bool hE.out).symm, rfl⟩
               · have fk : ((k : Int) == 0) = false := by simp [hk0]
                 have fkp : decide (0 < (k : Int)) = true := by simp; omega
                 have fkn : decide (0 < k) = true := by simp; omega
                 by_cases ha : t.d.kind = 1
                 · have fa : (t.d.kind == 1) = true := by simp [ha]
                   have hE : Hid (misB (tdOf ls) k = true) := by rw [Hid, HM.out]; simp [HLn.out, hk0, ha]
                   clear hk0 ha hpk;go_wp2
                   go_meet
                   exact ⟨(congrArg Value.bool hE.out).symm, rfl⟩
                 · have fa : (t.d.kind == 1) = false := by simp [ha]
                   by_cases hpe : t.d.parent = -1
                   · have fp : (t.d.parent == -1) = true := by simp [hpe]
                     have hE : Hid (misB (tdOf ls) k = true) := by rw [Hid, HM.out]; simp [HLn.out, hk0, ha, hpe]
                     clear hk0 ha hpe hpk;go_wp2
                     go_meet
                     exact ⟨(congrArg Value.bool hE.out).symm, rfl⟩
                   · have fp : (t.d.parent == -1) = false := by simp [hpe]
                     have hp0 : 0 ≤ t.d.parent := by omega
                     have hpn : t.d.parent < (n : Int) := by omega
                     by_cases hl : t.bn = 0
                     · have fl : ((t.bn : Int) == 0) = true := by simp [hl]
                       have hE : Hid (misB (tdOf ls) k = true) := by rw [Hid, HM.out]; simp [HLn.out, hk0, ha, hpe, hl]
                       clear hk0 ha hpe hl hpk;go_wp2
                       go_meet
                       exact ⟨(congrArg Value.bool hE.out).symm, rfl⟩
                     · have fl : ((t.bn : Int) == 0) = false := by simp [hl]
                       obtain ⟨t', b', o', hl', _, hab, l0, _, _⟩ := (HT.out.ext HB2.out).cells (k := t.d.parent.toNat) (by omega);injection hab with hab;injection hab with hab1 hab2 _;subst hab1 hab2;have htd' := tdOf_at ls _ t' hl';by_cases he : t'.d.kind = 3
                       · have fe : (t'.d.kind == 3) = true := by simp [he]
                         have fkb : (k == 0) = false := by simp [hk0]
                         have flb : (t.bn == 0) = false := by simp [hl]
                         have hE : Hid (misB (tdOf ls) k = true) := by rw [Hid, HM.out, htd', fkb, fa, fp, HLn.out, flb, fkn, fe]; rfl
                         clear fkb flb;clear hk0 ha hpe hl hpk he hl' htd';go_wp2
                         go_meet
                         exact ⟨(congrArg Value.bool hE.out).symm, rfl⟩
                       · have fe : (t'.d.kind == 3) = false := by simp [he]
                         have fkb : (k == 0) = false := by simp [hk0]
                         have flb : (t.bn == 0) = false := by simp [hl]
                         have hE : Hid (misB (tdOf ls) k = false) := by rw [Hid, HM.out, htd', fkb, fa, fp, HLn.out, flb, fkn, fe]; rfl
                         clear fkb flb;clear hk0 ha hpe hl hpk he hl' htd';go_wp2
                         go_meet
                         exact ⟨(congrArg Value.bool hE.out).symm, rfl⟩
              case rest =>
               obtain ⟨rfl, rfl⟩ := hcut;cases hm : misB (tdOf ls) k with
               | true =>
                 have HE : Hid (rightB (tsOf bs) (tdOf ls) = false) := HNO.out (by rw [HST.out, hm]; rfl);clear hm;go_wp2
                 go_ret
                 exact ⟨by rw [HE.out]; rfl, HB2.out⟩
               | false =>
                 have HSE : Hid (standsB bn (tdOf ls) k = risingB bn t.d.blocks) := by rw [Hid, HST.out, hm]; rfl
                 clear hm;have t2 : wc.cell? ⟨g, 2, none⟩ = some (.slice t.ba t.bn t.bc) := by rw [cell_of_row _ _ _ _ _ _ HT2.out]; rfl
                 generalize t.ba = ba2 at *;go_wp2
                 go_loopw [9] (fun s9 wi => ∃ (m : Nat), m ≤ t.bn ∧ s9 = .int .i64 m ∧ Hid (riseTo bn t.d.blocks m) ∧ Hid (Below wc.heap.size wc wi)) (fun s9 _ => t.bn - (intOf s9).toNat)
                 case atStart => exact ⟨0, by omega, rfl, fun j hj => absurd hj (by omega), Below.refl _ _⟩
                 case round =>
                  obtain ⟨m, hm, rfl, HRI, HBi⟩ := hrel;have t2' := cell_ext HBi.out t2;have q2 : ∀ n' : ExtW wr, n'.val.cell? ⟨g, 2, none⟩ = some (.slice ba2 t.bn t.bc) := fun n' => cell_ext n'.ext t2';clear t2;by_cases hmt : m < t.bn
                  · obtain ⟨bb, ob, rfl, hc, hw1, hw2⟩ := HI2.out.2.2 m hmt;have hmx : m < t.d.blocks.length := by rw [HLn.out]; exact hmt
                    have hmt' : (m : Int) < (t.bn : Int) := by omega
                    have HRS : Hid (risingB bn t.d.blocks = true → (0 ≤ t.d.blocks.getD m 0 ∧ t.d.blocks.getD m 0 < bn) ∧ (m = 0 ∨ t.d.blocks.getD (m - 1) 0 < t.d.blocks.getD m 0)) := fun h => (rising_iff _ _).1 h m hmx;have HRN : Hid (0 ≤ t.d.blocks.getD m 0 → t.d.blocks.getD m 0 < bn → (m = 0 ∨ t.d.blocks.getD (m - 1) 0 < t.d.blocks.getD m 0) → riseTo bn t.d.blocks (m + 1)) := fun h1 h2 h3 j hj => by
                     by_cases e : j = m
                     · subst e; exact ⟨⟨h1, h2⟩, h3⟩
                     · exact HRI.out j (by omega)
                    have w1 : ∀ n' : ExtW wr, n'.val.cell? ⟨w.heap.size, 1, none⟩ = some (.slice ba bn bc) := fun n' => cell_ext (ext_trans HBi.out n'.ext) (by rw [cell_of_row _ _ _ _ _ _ HK2.out]; rfl);have qc : ∀ n' : ExtW wr, n'.val.cell? ⟨bb, ob + m, none⟩ = some (.int .i64 (t.d.blocks.getD m 0)) := fun n' => cell_ext (ext_trans HBi.out n'.ext) hc;clear hc;have HBAD : Hid (risingB bn t.d.blocks = false → rightB (tsOf bs) (tdOf ls) = false) := fun h => HNO.out (by rw [HSE.out]; exact h);by_cases h0 : t.d.blocks.getD m 0 < 0
                    · have HE : Hid (rightB (tsOf bs) (tdOf ls) = false) := HBAD.out (by
                       rw [Bool.eq_false_iff]; intro h; have := (HRS.out h).1; omega)
                      clear hmx;generalize t.d.blocks.getD m 0 = x at *;have d0 : decide (x < 0) = true := by simpa using h0
                      go_wp2;refine region_ext (by kernel_rfl) (by kernel_rfl) ?_
                      repeat (first
                       | go_big_quiet_skip
                       | go_big_quiet_step (fail))
                      refine wpQuiet_nil ?_;intro _ hw';obtain ⟨n', rfl⟩ := hw';have HBn : Hid (Below wc.heap.size wc n'.val) := ext_trans HBi.out n'.ext;generalize n'.val = W8 at *;go_wp2
                      go_ret
                      exact ⟨by rw [HE.out]; rfl, ext_trans HB2.out HBn.out⟩
                    · by_cases h1 : t.d.blocks.getD m 0 < bn
                      · by_cases hm0 : m = 0
                        · have HR2 := Lib.hid (HRN.out (by omega) h1 (.inl hm0));have hmz : decide ((m : Int) > 0) = false := by simp [hm0]
                          have hmz2 : decide ((0 : Int) < (m : Int)) = false := by simp [hm0]
                          have hmz3 : decide (0 < m) = false := by simp [hm0]
                          clear hm0 hmx;generalize t.d.blocks.getD m 0 = x at *;have d0 : decide (x < 0) = false := by simp; omega
                          have d1 : decide (x ≥ (bn : Int)) = false := by simp; omega
                          have d2 : decide ((bn : Int) ≤ x) = false := by simp; omega
                          go_wp2;refine region_ext (by kernel_rfl) (by kernel_rfl) ?_
                          repeat (first
                           | go_big_quiet_skip
                           | go_big_quiet_step (fail))
                          refine wpQuiet_nil ?_;intro _ hw';obtain ⟨n', rfl⟩ := hw';have HBn : Hid (Below wc.heap.size wc n'.val) := ext_trans HBi.out n'.ext;generalize n'.val = W8 at *;go_wp2
                          go_roundw
                          case rel => exact ⟨m + 1, by omega, by go_num, HR2, HBn⟩
                          case measure => simp [intOf]; omega
                        · obtain ⟨bb', ob', ee, hc', hw1', hw2'⟩ := HI2.out.2.2 (m - 1) (by omega);injection ee with ee;injection ee with ee1 ee2 _;subst ee1 ee2;have qd : ∀ n' : ExtW wr, n'.val.cell? ⟨bb, ob + (m - 1), none⟩ = some (.int .i64 (t.d.blocks.getD (m - 1) 0)) := fun n' => cell_ext (ext_trans HBi.out n'.ext) hc';clear hc';have HM0 : Hid (m ≠ 0) := hm0;have hmz : decide ((m : Int) > 0) = true := by simp; omega
                          have hmz2 : decide ((0 : Int) < (m : Int)) = true := by simp; omega
                          have hmz3 : decide (0 < m) = true := by simp; omega
                          have hmi : ((m : Int) - 1).toNat = m - 1 := by omega
                          have hmj : (0 : Int) ≤ (m : Int) - 1 := by omega
                          have hmk : (m : Int) - 1 < (t.bn : Int) := by omega
                          clear hm0;by_cases h2 : t.d.blocks.getD (m - 1) 0 < t.d.blocks.getD m 0
                          · have HR2 := Lib.hid (HRN.out (by omega) h1 (.inr h2));clear hmx;generalize t.d.blocks.getD m 0 = x at *;generalize t.d.blocks.getD (m - 1) 0 = y at *;have d0 : decide (x < 0) = false := by simp; omega
                            have d1 : decide (x ≥ (bn : Int)) = false := by simp; omega
                            have d2 : decide ((bn : Int) ≤ x) = false := by simp; omega
                            have d3 : decide (y ≥ x) = false := by simp; omega
                            have d4 : decide (x ≤ y) = false := by simp; omega
                            go_wp2;refine region_ext (by kernel_rfl) (by kernel_rfl) ?_
                            repeat (first
                             | go_big_quiet_skip
                             | go_big_quiet_step (fail))
                            refine wpQuiet_nil ?_;intro _ hw';obtain ⟨n', rfl⟩ := hw';have HBn : Hid (Below wc.heap.size wc n'.val) := ext_trans HBi.out n'.ext;generalize n'.val = W8 at *;go_wp2
                            go_roundw
                            case rel => exact ⟨m + 1, by omega, by go_num, HR2, HBn⟩
                            case measure => simp [intOf]; omega
                          · have HE : Hid (rightB (tsOf bs) (tdOf ls) = false) := HBAD.out (by
                             rw [Bool.eq_false_iff]; intro h;rcases (HRS.out h).2 with h3 | h3
                             · exact HM0.out h3
                             · exact h2 h3)
                            clear hmx;generalize t.d.blocks.getD m 0 = x at *;generalize t.d.blocks.getD (m - 1) 0 = y at *;have d0 : decide (x < 0) = false := by simp; omega
                            have d1 : decide (x ≥ (bn : Int)) = false := by simp; omega
                            have d2 : decide ((bn : Int) ≤ x) = false := by simp; omega
                            have d3 : decide (y ≥ x) = true := by simp; omega
                            have d4 : decide (x ≤ y) = true := by simp; omega
                            go_wp2;refine region_ext (by kernel_rfl) (by kernel_rfl) ?_
                            repeat (first
                             | go_big_quiet_skip
                             | go_big_quiet_step (fail))
                            refine wpQuiet_nil ?_;intro _ hw';obtain ⟨n', rfl⟩ := hw';have HBn : Hid (Below wc.heap.size wc n'.val) := ext_trans HBi.out n'.ext;generalize n'.val = W8 at *;go_wp2
                            go_ret
                            exact ⟨by rw [HE.out]; rfl, ext_trans HB2.out HBn.out⟩
                      · have HE : Hid (rightB (tsOf bs) (tdOf ls) = false) := HBAD.out (by
                         rw [Bool.eq_false_iff]; intro h; have := (HRS.out h).1; omega)
                        clear hmx;generalize t.d.blocks.getD m 0 = x at *;have d0 : decide (x < 0) = false := by simp; omega
                        have d1 : decide (x ≥ (bn : Int)) = true := by simp; omega
                        have d2 : decide ((bn : Int) ≤ x) = true := by simp; omega
                        go_wp2;refine region_ext (by kernel_rfl) (by kernel_rfl) ?_
                        repeat (first
                         | go_big_quiet_skip
                         | go_big_quiet_step (fail))
                        refine wpQuiet_nil ?_;intro _ hw';obtain ⟨n', rfl⟩ := hw';have HBn : Hid (Below wc.heap.size wc n'.val) := ext_trans HBi.out n'.ext;generalize n'.val = W8 at *;go_wp2
                        go_ret
                        exact ⟨by rw [HE.out]; rfl, ext_trans HB2.out HBn.out⟩
                  · obtain rfl : m = t.bn := by omega
                    have HR2 := Lib.hid (HYES.out (by rw [HSE.out, rising_iff, HLn.out]; exact HRI.out));have HK3 := Lib.hid (block_ext HBi.out HK2.out);have HB3 := Lib.hid (ext_trans HB2.out HBi.out);clear HRI;go_wp2
                    go_roundw
                    case rel => exact ⟨k + 1, by omega, by go_num, HR2, HK3, HB3⟩
                    case measure => simp [intOf]; omega
            · obtain rfl : k = n := by omega
              have HALL : Hid (∀ j, j < k → (∀ x ∈ blkL (tdOf ls) j, 0 ≤ x ∧ x < bn) ∧ ∀ b, setK (tdOf ls) j b = true → b < bn) := fun j hj => all_range HPAR.out HBN.out (fun i hi => HR.out i (by rw [tdOf_len, HLN.out] at hi; exact hi)) j (by rw [tdOf_len, HLN.out]; exact hj);go_wp2
              go_loopw [10] (fun s10 wi => ∃ j : Nat, j ≤ k ∧ s10 = .int .i64 (j : Int) ∧ Hid (∀ i, i < j → holdsB (tsOf bs) ((tdOf ls).getD i zTile) (setK (tdOf ls) i) = true) ∧ Hid (wi.heap[w.heap.size]? = some (funcO pa pn pc ba bn bc)) ∧ Hid (Below w.heap.size w wi)) (fun s10 _ => k - (intOf s10).toNat)
              case atStart => exact ⟨0, by omega, by go_num, fun j hj => absurd hj (by omega), HKr, HBr⟩
              case round =>
               obtain ⟨j, hj, rfl, HH, HK3, HB3⟩ := hrel;clear HKr HBr;by_cases hjk : j < k
               · have hjk' : (j : Int) < (k : Int) := by omega
                 cases hh : holdsB (tsOf bs) ((tdOf ls).getD j zTile) (setK (tdOf ls) j) with
                 | false =>
                   have HE : Hid (rightB (tsOf bs) (tdOf ls) = false) := by
                    rw [Hid, Bool.eq_false_iff];intro h2;simp only [rightB, Bool.and_eq_true, List.all_eq_true, List.mem_range] at h2;have h3 := (h2.2 j (by rw [tdOf_len, HLN.out]; exact hjk)).2;rw [hh] at h3;cases h3
                   have HHH := Lib.hid hh;clear hh
                   go_wp2_with (first
                    | (refine wpList_load_row (o := ⟨some 126, .load 25 _, _, _, _, _⟩) rfl 25 _ rfl w.heap.size rfl 25 _ (0, 0) _ HK3.out Tryz.underlying25 rfl size_func ?_)
                    | (go_at_call 104
                       refine (holds17_any pa pn pc ba bn bc bs a k c ls j wr (H.out.ext HB3.out) (HT.out.ext HB3.out) hjk HTOT.out (fits_good HF.out) (HALL.out j hjk).1 (HALL.out j hjk).2).mono ?_;rintro e w5 ⟨rfl, hb⟩;rw [HHH.out];have HB5 := Lib.hid (ext_trans HB3.out hb)
                       clear hb))
                   go_ret
                   exact ⟨by rw [HE.out]; rfl, HB5.out⟩
                 | true =>
                   have HH2 : Hid (∀ i, i < j + 1 → holdsB (tsOf bs) ((tdOf ls).getD i zTile) (setK (tdOf ls) i) = true) := fun i hi => by
                    by_cases e : i = j
                    · subst e; exact hh
                    · exact HH.out i (by omega)
                   have HHH := Lib.hid hh;clear hh
                   go_wp2_with (first
                    | (refine wpList_load_row (o := ⟨some 126, .load 25 _, _, _, _, _⟩) rfl 25 _ rfl w.heap.size rfl 25 _ (0, 0) _ HK3.out Tryz.underlying25 rfl size_func ?_)
                    | (go_at_call 104
                       refine (holds17_any pa pn pc ba bn bc bs a k c ls j wr (H.out.ext HB3.out) (HT.out.ext HB3.out) hjk HTOT.out (fits_good HF.out) (HALL.out j hjk).1 (HALL.out j hjk).2).mono ?_;rintro e w5 ⟨rfl, hb⟩;rw [HHH.out];have HK5 := Lib.hid (block_ext hb HK3.out);have HB5 := Lib.hid (ext_trans HB3.out hb)
                       clear hb))
                   go_roundw
                   case rel => exact ⟨j + 1, by omega, by go_num, HH2, HK5, HB5⟩
                   case measure => simp [intOf]; omega
               · obtain rfl : j = k := by omega
                 have HE : Hid (rightB (tsOf bs) (tdOf ls) = true) := by
                  simp only [Hid, rightB, Bool.and_eq_true, List.all_eq_true, List.mem_range, HTL.out, decide_eq_true_eq];refine ⟨⟨⟨⟨⟨HF.out, by rw [tdOf_len, HLN.out]; exact hl⟩, HPAR.out⟩, HOB.out⟩, by rw [HZ.out]; rfl⟩, fun i hi => ?_⟩;rw [tdOf_len, HLN.out] at hi;exact ⟨HR.out i hi, HH.out i hi⟩
                 go_wp2
                 go_ret
                 exact ⟨by rw [HE.out]; rfl, HB3.out⟩
         · have HE : Hid (rightB (tsOf bs) (tdOf ls) = false) := by simp [Hid, rightB, hz]
           have dz : (((ownF (tdOf ls) 0 : Nat) : Int) != 0) = true := by simpa using hz
           clear hz
           go_wp2_with (go_at_call 103
                        refine (parents17_any a n c ls w2 (HT.out.ext HB2.out)).mono ?_;rintro e w4 ⟨rfl, rfl⟩
                        rw [HPAR.out])
           go_ret
           exact ⟨by rw [HE.out]; rfl, HB2.out⟩
     · have dl : decide ((n : Int) > 200) = true := by simp; omega
       have dl2 : decide ((200 : Int) < (n : Int)) = true := by simp; omega
       have HE : Hid (rightB (tsOf bs) (tdOf ls) = false) := by
        have : ¬ (tdOf ls).length ≤ 200 := by rw [tdOf_len, HLN.out]; exact hl
        simp [Hid, rightB, this]
       clear hl;go_wp2
       go_ret
       exact ⟨by rw [HE.out]; rfl, HB2.out⟩
end

section
open Go.RowKit Go.Shelf
theorem OwnI.chg {S : Nat → Prop} {w w' : World} {base : Nat} {v : Value} {xs : List Int} (h : OwnI w base v xs) (hc : Chg S w w') (hn : ∀ g, v.ownBlock = some g → ¬ S g) : OwnI w' base v xs := ⟨ownsRow_chg h.1 hc hn, h.2⟩
theorem OwnR.chg {α : Type} {e : TypeId} {size : Nat} {cs : α → List Value} {S : Nat → Prop} {w w' : World} {base : Nat} {v : Value} {ls : List α} (h : OwnR e size cs w base v ls) (hc : Chg S w w') (hn : ∀ g, v.ownBlock = some g → ¬ S g) : OwnR e size cs w' base v ls := ⟨ownsRow_chg h.1 hc hn, h.2⟩
def RowsT (ty : TypeId) (W : World) (base : Nat) (v : Value) (hs : List RowH) : Prop :=
 OwnR ty 5 csR W base v hs ∧ ∀ h ∈ hs, OwnI W base h.lv h.r.lv ∧ OwnI W base h.en h.r.en ∧ (∀ q, h.lv.ownBlock = some q → v.ownBlock ≠ some q) ∧ ∀ q, h.en.ownBlock = some q → v.ownBlock ≠ some q
theorem RowsIn.t {W : World} {base : Nat} {v : Value} {hs : List RowH} (h : RowsIn W base v hs) : RowsT 79 W base v hs := h
theorem RowsT.nil (ty : TypeId) (W : World) (base : Nat) : RowsT ty W base (.slice none 0 0) [] := ⟨OwnR.nil _ _ _ _ _, fun h hh => by cases hh⟩
section
variable {ty : TypeId} {W W' : World} {base base' : Nat} {v : Value} {hs : List RowH}
theorem RowsT.grown {row : Option Nat} (h : RowsT ty W base v hs) (hg : W.grownBy W' row) (hr : ∀ q, row = some q → q < base ∨ W.heap.size ≤ q) : RowsT ty W' base v hs := by
 obtain ⟨h1, h2⟩ := h
 refine ⟨h1.kept hg (kept_ne fun q hq e => ?_), fun x hx => ?_⟩
 · have := h1.low hq; have := hr q e; omega
 · obtain ⟨h3, h4, h5, h6⟩ := h2 x hx;refine ⟨h3.kept hg (kept_ne fun q hq e => ?_), h4.kept hg (kept_ne fun q hq e => ?_), h5, h6⟩
   · have := h3.1.lt q hq; have := hr q e; omega
   · have := h4.1.lt q hq; have := hr q e; omega
theorem RowsT.mono (h : RowsT ty W base v hs) (hb : base' ≤ base) : RowsT ty W base' v hs :=
 ⟨h.1.mono hb, fun x hx => let ⟨h3, h4, h5, h6⟩ := h.2 x hx; ⟨h3.mono hb, h4.mono hb, h5, h6⟩⟩
theorem RowsT.ext (h : RowsT ty W base v hs) (hb : Below W.heap.size W W') : RowsT ty W' base v hs :=
 h.grown (grown_below hb none) fun q e => by cases e
theorem RowsT.chg {S : Nat → Prop} (h : RowsT ty W base v hs) (hc : Chg S W W') (hn : ∀ k, S k → k < base ∨ W.heap.size ≤ k) : RowsT ty W' base v hs := by
 obtain ⟨h1, h2⟩ := h
 refine ⟨h1.chg hc fun q hq hS => ?_, fun x hx => ?_⟩
 · have := h1.low hq; have := hn q hS; omega
 · obtain ⟨h3, h4, h5, h6⟩ := h2 x hx;refine ⟨h3.chg hc fun q hq hS => ?_, h4.chg hc fun q hq hS => ?_, h5, h6⟩
   · have := h3.1.lt q hq; have := hn q hS; omega
   · have := h4.1.lt q hq; have := hn q hS; omega
theorem RowsT.form (h : RowsT ty W base v hs) : ∃ a c, v = .slice a hs.length c := h.1.form
theorem RowsT.at {a : Option Addr} {n c : Nat} (h : RowsT ty W base (.slice a n c) hs) {k : Nat} (hk : k < n) : ∃ r b o la lc ea ec, hs[k]? = some r ∧ a = some ⟨b, o, none⟩ ∧ r.lv = .slice la r.r.lv.length lc ∧ r.en = .slice ea r.r.en.length ec ∧ OwnI W base r.lv r.r.lv ∧ OwnI W base r.en r.r.en ∧
  W.cell? ⟨b, o + k * 5, none⟩ = some (.int .i64 r.r.e.fr) ∧ W.cell? ⟨b, o + k * 5 + 1, none⟩ = some (.int .i64 r.r.e.arm) ∧ W.cell? ⟨b, o + k * 5 + 2, none⟩ = some (.int .i64 r.r.e.to) ∧ W.cell? ⟨b, o + k * 5 + 3, none⟩ = some (.slice la r.r.lv.length lc) ∧ W.cell? ⟨b, o + k * 5 + 4, none⟩ = some (.slice ea r.r.en.length ec) := by
 obtain ⟨h1, h2⟩ := h
 have hr := h1.recs csR_len
 have hl : hs.length = n := hr.1
 obtain ⟨x, hx⟩ : ∃ x, hs[k]? = some x := ⟨_, List.getElem?_eq_getElem (by omega)⟩
 obtain ⟨b, o, ha, hc⟩ := hr.2.2 k x hx
 obtain ⟨h3, h4, _⟩ := h2 x (List.mem_of_getElem? hx)
 obtain ⟨la, lc, e1⟩ := h3.form
 obtain ⟨ea, ec, e2⟩ := h4.form
 have c0 := hc 0 (by omega)
 have c1 := hc 1 (by omega)
 have c2 := hc 2 (by omega)
 have c3 := hc 3 (by omega)
 have c4 := hc 4 (by omega)
 simp only [csR, e1, e2] at c0 c1 c2 c3 c4
 exact ⟨x, b, o, la, lc, ea, ec, hx, ha, e1, e2, h3, h4, c0, c1, c2, c3, c4⟩
theorem RowsT.add {w5 w6 : World} {g2 cap : Nat} {x : RowH} (hrows : RowsT ty w5 base v hs) (h6 : OwnI w5 base x.lv x.r.lv) (h12 : OwnI w5 base x.en x.r.en) (hne6 : ∀ q, x.lv.ownBlock = some q → v.ownBlock ≠ some q) (hne12 : ∀ q, x.en.ownBlock = some q → v.ownBlock ≠ some q)
  (hown : w6.ownsRow base ty 5 (.slice (some ⟨g2, 0, none⟩) (hs.length + 1) cap) (hs.length + 1) (hs.flatMap csR ++ csR x)) (hg : w5.grownBy w6 v.ownBlock) (hat : some g2 = v.ownBlock ∨ g2 = w5.heap.size ∨ g2 = w5.heap.size + 1) (hlen : hs.length ≤ 1000) :
  RowsT ty w6 base (.slice (some ⟨g2, 0, none⟩) (hs.length + 1) cap) (hs ++ [x]) := by
 have own6 : ∀ {u : Value} {ys : List Int}, OwnI w5 base u ys → (∀ q, u.ownBlock = some q → v.ownBlock ≠ some q) → OwnI w6 base u ys := fun {u ys} ho hne => ho.kept hg (kept_ne hne)
 have ne2 : ∀ {u : Value} {ys : List Int}, OwnI w5 base u ys → (∀ q, u.ownBlock = some q → v.ownBlock ≠ some q) → ∀ q, u.ownBlock = some q → (Value.slice (some ⟨g2, 0, none⟩) (hs.length + 1) cap).ownBlock ≠ some q := fun {u ys} ho hne q hq e => by
  simp only [Value.ownBlock, Option.some.injEq] at e;subst e;rcases hat with h | h
  · exact hne g2 hq h.symm
  · have := (ho.1.lt g2 hq).2; omega
 refine ⟨⟨?_, by simp; omega⟩, ?_⟩
 · have : (hs ++ [x]).flatMap csR = hs.flatMap csR ++ csR x := by simp
   rw [this, List.length_append];exact hown
 · intro h hh;rcases List.mem_append.1 hh with hh | hh
   · obtain ⟨h1, h2, h3, h4⟩ := hrows.2 h hh;exact ⟨own6 h1 h3, own6 h2 h4, ne2 h1 h3, ne2 h2 h4⟩
   · have : h = x := by simpa using hh
     subst this;exact ⟨own6 h6 hne6, own6 h12 hne12, ne2 h6 hne6, ne2 h12 hne12⟩
end
end

section
open Go.RowKit
attribute [local go_sem] Oper.semAt_some wide_fn wide_depth wide_fnR wide_depthR
def edgesTo (ts : List TermD) (k : Nat) : List EdgeD := (List.range' 0 k).flatMap (edgesAt ts)
theorem edgesTo_step (ts : List TermD) (k : Nat) : edgesTo ts (k + 1) = edgesTo ts k ++ edgesAt ts k := by
 rw [edgesTo, edgesTo, List.range'_concat, List.flatMap_append]; simp
theorem edgesTo_all (ts : List TermD) : edgesTo ts ts.length = edgesL ts := by rw [edgesL, edgesFrom, Nat.sub_zero]; rfl
theorem armsF_get (b : Nat) : ∀ (l : List Int) (i j : Nat), (armsF b i l)[j]? = l[j]?.map fun x => ⟨(b : Nat), ((i + j : Nat) : Int), x⟩
 | [], i, j => by simp [armsF]
 | x :: l, i, 0 => by simp [armsF]
 | x :: l, i, j + 1 => by
   rw [armsF, List.getElem?_cons_succ, List.getElem?_cons_succ, armsF_get b l (i + 1) j, show i + 1 + j = i + (j + 1) by omega]
theorem edgesAt_take (ts : List TermD) (b j : Nat) (h : j < (toD (ts.getD b zTerm)).length) : (edgesAt ts b).take (j + 1) = (edgesAt ts b).take j ++ [⟨(b : Nat), (j : Nat), (toD (ts.getD b zTerm)).getD j 0⟩] := by
 rw [edgesAt]
 generalize toD (ts.getD b zTerm) = l at *
 rw [List.take_add_one, armsF_get, List.getElem?_eq_getElem h]
 simp [List.getD_eq_getElem?_getD, h]
theorem edgesTo_len (ts : List TermD) : ∀ k, (edgesTo ts k).length ≤ 2 * k
 | 0 => by simp [edgesTo]
 | k + 1 => by
   have := edgesTo_len ts k;have := edgesAt_len ts k;rw [edgesTo_step, List.length_append];omega
theorem all18_any (pa : Option Addr) (pn pc : Nat) (ba : Option Addr) (bn bc : Nat) (bs : List BlkH) (w : World) (h : BlksOK w ba bn bs) :
  Calls Tryz.prog 27 #[funcV pa pn pc ba bn bc] w (EdgesPost w (allE (tsOf bs))) := by
 have hbl : (tsOf bs).length = bn := by rw [tsOf_len]; exact h.1.1
 have H := Lib.hid h
 clear h
 go_enter Tryz.func27, Tryz.ntmps27
 go_upto_region 1 with (fail)
 obtain ⟨W, hW⟩ : ∃ W, W = w.alloc (funcO pa pn pc ba bn bc) := ⟨_, rfl⟩
 rw [← hW]
 have hk0 : W.heap[w.heap.size]? = some (funcO pa pn pc ba bn bc) := by rw [hW]; exact heap_alloc_new _ _
 have hB : Below w.heap.size w W := by rw [hW]; exact ext_alloc _ _
 have HK := Lib.hid hk0
 have HB := Lib.hid hB
 clear hW hk0 hB
 cases hf : fitsB (tsOf bs) with
 | false =>
   have HF := Lib.hid hf;have HE : Hid (allE (tsOf bs) = []) := by rw [Hid, allE, hf]; rfl
   clear hf;have kf := HK.out;have k0 : W.cell? ⟨w.heap.size, 0, none⟩ = some (.slice pa pn pc) := by rw [cell_of_row _ _ _ _ _ _ kf]; rfl
   have k1 : W.cell? ⟨w.heap.size, 1, none⟩ = some (.slice ba bn bc) := by rw [cell_of_row _ _ _ _ _ _ kf]; rfl
   clear kf;go_wp2
   go_loopw [3, 4] (fun s3 i wr => s3 = .slice none 0 0 ∧ i = .int .i64 0 ∧ Hid (wr = W)) (fun _ _ _ => 0)
   case atStart => exact ⟨rfl, rfl, rfl⟩
   case round =>
    obtain ⟨rfl, rfl, HW⟩ := hrel;obtain rfl : wr = W := HW.out;by_cases hb0 : 0 < bn
    · have hb1 : (0 : Int) < (bn : Int) := by omega
      go_wp2_with (
       (go_at_call 41
        refine (fits17_any pa pn pc ba bn bc bs wr (H.out.ext HB.out)).mono ?_;rintro e w1 ⟨rfl, hb⟩;rw [HF.out];have HB1 := Lib.hid (ext_trans HB.out hb)
        clear hb))
      go_ret
      exact ⟨_, rfl, by rw [HE.out]; exact OwnR.nil _ _ _ _ _, HB1.out⟩
    · have hb1 : ¬ (0 : Int) < (bn : Int) := by omega
      go_wp2
      go_ret
      exact ⟨_, rfl, by rw [HE.out]; exact OwnR.nil _ _ _ _ _, HB.out⟩
 | true =>
   have HF := Lib.hid hf;have HE : Hid (allE (tsOf bs) = edgesTo (tsOf bs) bn) := by rw [Hid, allE, hf, if_pos rfl, ← hbl, edgesTo_all]
   have hbn : bn ≤ 200 := by have := ((goodB_iff _).1 (fits_good hf)).1.2; omega
   clear hf;go_wp2
   go_loopw [3, 4, 5, 6] (fun s3 s4 _ _ wr => ∃ k : Nat, k ≤ bn ∧ s4 = .int .i64 k ∧ Hid (OwnE wr W.heap.size s3 (edgesTo (tsOf bs) k)) ∧ Hid (Below W.heap.size W wr)) (fun _ s4 _ _ _ => bn - (intOf s4).toNat)
   case atStart => exact ⟨0, by omega, rfl, OwnR.nil _ _ _ _ _, Below.refl _ _⟩
   case round =>
    obtain ⟨k, hk, rfl, HO, HBr⟩ := hrel;have kf := block_ext HBr.out HK.out;have k0 : wr.cell? ⟨w.heap.size, 0, none⟩ = some (.slice pa pn pc) := by rw [cell_of_row _ _ _ _ _ _ kf]; rfl
    have k1 : wr.cell? ⟨w.heap.size, 1, none⟩ = some (.slice ba bn bc) := by rw [cell_of_row _ _ _ _ _ _ kf]; rfl
    clear kf;obtain ⟨oa, oc, rfl⟩ := HO.out.form;by_cases hlt : k < bn
    · have hlt' : (k : Int) < (bn : Int) := by omega
      obtain ⟨x, b0, o0, hx, htm, hbe, _, c1, c2, c3, c4⟩ := (H.out.ext (ext_trans HB.out HBr.out)).cells hlt;have hxt := tsOf_at _ _ _ hx;obtain ⟨t, ht⟩ : ∃ t, t = x.t := ⟨_, rfl⟩
      rw [← ht] at hxt htm c1 c2 c3 c4;have HXT := Lib.hid hxt;have HTM := Lib.hid htm;have C1 := Lib.hid c1;have C2 := Lib.hid c2;have C3 := Lib.hid c3;have C4 := Lib.hid c4;have HBE := Lib.hid hbe;have hel := edgesTo_len (tsOf bs) k;clear hx ht hxt htm c1 c2 c3 c4 hbe
      go_wp2_with (first
       | (go_at_call 41
          refine (fits17_any pa pn pc ba bn bc bs wr (H.out.ext (ext_trans HB.out HBr.out))).mono ?_;rintro e w1 ⟨rfl, hb⟩;rw [HF.out];have hbe := HBE.out;subst hbe;have d1' := cell_ext hb C1.out;have d2' := cell_ext hb C2.out;have d3' := cell_ext hb C3.out;have d4' := cell_ext hb C4.out;have HB1 := Lib.hid (ext_trans HBr.out hb);have kf1 := block_ext HB1.out HK.out;have k11 : w1.cell? ⟨w.heap.size, 1, none⟩ = some (.slice (some ⟨b0, o0, none⟩) bn bc) := (by rw [cell_of_row _ _ _ _ _ _ kf1]; rfl)
          have HO1 := Lib.hid (HO.out.ext hb);have hs1 := hb.size
          clear hb k0 k1 kf1)
       | (go_at_call 71
          refine (to03_any t _ HTM.out).mono ?_;rintro e w2 ⟨v, rfl, ho, hb⟩;obtain ⟨va, vc, rfl⟩ := ho.form;have HV2 := Lib.hid ho;have HO2 := Lib.hid (HO1.out.ext hb);have HB2 := Lib.hid (ext_trans HB1.out hb)
          clear ho hb d1' d2' d3' d4' k11))
      obtain ⟨wq, rfl⟩ : ∃ wq : World, wq = wr := ⟨_, rfl⟩
      have hl2 : (toD t).length ≤ 2 := toD_len t;have HI2 := Lib.hid (HV2.out.mono (show W.heap.size ≤ w1.heap.size from HB1.out.size));clear HV2
      go_loopw [3, 6] (fun s3 s6 wi => ∃ j : Nat, j ≤ (toD t).length ∧ s6 = .int .i64 j ∧ Hid (OwnE wi W.heap.size s3 (edgesTo (tsOf bs) k ++ (edgesAt (tsOf bs) k).take j)) ∧ Hid (OwnI wi W.heap.size (.slice va (toD t).length vc) (toD t)) ∧ Hid (Below W.heap.size W wi)) (fun _ s6 _ => (toD t).length - (intOf s6).toNat)
      case atStart => exact ⟨0, by omega, rfl, by simpa using HO2, HI2, HB2⟩
      case round =>
       obtain ⟨j, hj, rfl, HOj, HIj, HBj⟩ := hrel;obtain ⟨ua, uc, rfl⟩ := HOj.out.form;clear HO2 HI2;by_cases hjl : j < (toD t).length
       · obtain ⟨b3, o3, rfl, hcy, _⟩ := HIj.out.ints.2.2 j hjl;have hjl' : (j : Int) < ((toD t).length : Int) := by omega
         have HST : Hid ((edgesAt (tsOf bs) k).take (j + 1) = (edgesAt (tsOf bs) k).take j ++ [⟨(k : Nat), (j : Nat), (toD t).getD j 0⟩]) := by
          have := edgesAt_take (tsOf bs) k j (by rw [HXT.out]; exact hjl);rw [HXT.out] at this;exact this
         have hlen : (edgesTo (tsOf bs) k ++ (edgesAt (tsOf bs) k).take j).length ≤ 1000 := by rw [List.length_append, List.length_take]; omega
         generalize (toD t).getD j 0 = y at *;generalize hLL : edgesTo (tsOf bs) k ++ (edgesAt (tsOf bs) k).take j = L at *;have HLL := Lib.hid hLL;clear hLL
         go_wp2_with (
          (at_builtin
           refine wpList_append1 rfl wr (.tmp 31) (.tmp 39) 50 46 rfl W.heap.size _ 3 24 Tryz.underlying50 infoE rfl (by omega) (.slice ua L.length uc) L.length _ (csE ⟨(k : Int), (j : Int), y⟩) rfl HOj.out.1 wr.heap.size rfl rfl rfl (by simp [csE, Value.oneCell']) (by simp only [maxLen]; omega) (by omega) HBj.out.size ?_;intro g2 cap w5 hown2 hgr2 hat2;have HO5 : Hid (OwnE w5 W.heap.size (.slice (some ⟨g2, 0, none⟩) (L.length + 1) cap) (L ++ [⟨(k : Int), (j : Int), y⟩])) := ⟨(by simpa [List.flatMap_append] using hown2), (by simp; omega)⟩
           have HI5 := Lib.hid (HIj.out.kept hgr2 (.inr (fun e => rows_ne HIj.out.1 HOj.out.1 (by decide) b3 rfl e.symm)));have HB5 : Hid (Below W.heap.size W w5) := HBj.out.grown hgr2 HBj.out.size (fun q e => (HOj.out.low e).1)
           clear hown2 hgr2 hat2))
         go_roundw
         case rel => exact ⟨j + 1, by omega, by go_num, by rw [HST.out, ← List.append_assoc, HLL.out]; exact HO5, HI5, HB5⟩
         case measure => simp [intOf]; omega
       · obtain rfl : j = (toD t).length := by omega
         have HOk : Hid (OwnE wr W.heap.size (.slice ua (edgesTo (tsOf bs) k ++ (edgesAt (tsOf bs) k).take (toD t).length).length uc) (edgesTo (tsOf bs) (k + 1))) := by
          have h1 := HOj.out;have h2 : (edgesAt (tsOf bs) k).take (toD t).length = edgesAt (tsOf bs) k := List.take_of_length_le (by rw [edgesAt, armsF_len, HXT.out]; exact Nat.le_refl _);rw [edgesTo_step];rw [h2] at h1 ⊢;exact h1
         generalize (edgesTo (tsOf bs) k ++ (edgesAt (tsOf bs) k).take (toD t).length).length = ln at *;clear HOj;go_wp2
         go_roundw
         case rel => exact ⟨k + 1, by omega, by go_num, HOk, HBj⟩
         case measure => simp [intOf]; omega
    · obtain rfl : k = bn := by omega
      go_wp2
      go_ret
      exact ⟨_, rfl, by rw [HE.out]; exact HO.out.mono HB.out.size, ext_trans HB.out HBr.out⟩
def CountsPost (L : List EdgeD) (x : EdgeD) (w : World) (e : Ending) (w' : World) : Prop :=
 e = .returned (.tuple #[.int .i64 (cntTo (fun y => y.fr == x.fr) L L.length : Nat), .int .i64 (cntTo (fun y => y.to == x.to) L L.length : Nat), .bool (L.any fun y => sameE y x)]) ∧ Below w.heap.size w w'
theorem counts18_any (pa : Option Addr) (pn pc : Nat) (ba : Option Addr) (bn bc : Nat) (bs : List BlkH) (x : EdgeD) (w : World) (h : BlksOK w ba bn bs) :
  Calls Tryz.prog 68 #[funcV pa pn pc ba bn bc, edgeV x] w (CountsPost (allE (tsOf bs)) x w) := by
 have H := Lib.hid h
 clear h
 go_enter Tryz.func68, Tryz.ntmps68
 go_upto_region 1 with (fail)
 obtain ⟨W, hW⟩ : ∃ W, W = (w.alloc (funcO pa pn pc ba bn bc)).alloc (edgeO x) := ⟨_, rfl⟩
 rw [← hW]
 have hk0 : W.heap[w.heap.size]? = some (funcO pa pn pc ba bn bc) := by rw [hW]; exact block_ext (ext_alloc _ _) (heap_alloc_new _ _)
 have hk1 : W.heap[w.heap.size + 1]? = some (edgeO x) := by rw [hW]; have := heap_alloc_new (w.alloc (funcO pa pn pc ba bn bc)) (edgeO x); simpa using this
 have hB : Below w.heap.size w W := by rw [hW]; exact ext_trans (ext_alloc _ _) (ext_alloc _ _)
 have HK := Lib.hid hk0
 have HX := Lib.hid hk1
 have HB := Lib.hid hB
 clear hW hk0 hk1 hB
 have hlen : (allE (tsOf bs)).length ≤ 400 := allE_len
 go_wp2_with (first
  | (refine wpList_load_row (o := ⟨some 12, .load 25 _, _, _, _, _⟩) rfl 25 _ rfl w.heap.size rfl 25 _ (0, 0) _ HK.out Tryz.underlying25 rfl size_func ?_)
  | (go_at_call 27
     refine (all18_any pa pn pc ba bn bc bs W (H.out.ext HB.out)).mono ?_;intro e w2 hp;obtain ⟨la, lc, rfl, ho, hs, hb⟩ := hp.form;have HS := Lib.hid hs;have HX2 := Lib.hid (block_ext hb HX.out);have HB2 := Lib.hid (ext_trans HB.out hb)
     clear hb ho hs hp))
 generalize allE (tsOf bs) = L at *
 clear HX HK HB
 go_loopw [7, 8, 9, 11] (fun o i b j wr => ∃ (k : Nat), k ≤ L.length ∧ j = .int .i64 k ∧ o = .int .i64 (cntTo (fun y => y.fr == x.fr) L k : Nat) ∧ i = .int .i64 (cntTo (fun y => y.to == x.to) L k : Nat) ∧ b = .bool ((L.take k).any fun y => sameE y x) ∧ Hid (Below w2.heap.size w2 wr)) (fun _ _ _ j _ => L.length - (intOf j).toNat)
 case atStart => exact ⟨0, by omega, rfl, by simp [cntTo], by simp [cntTo], by simp, Below.refl _ _⟩
 case round =>
  obtain ⟨k, hk, rfl, rfl, rfl, rfl, HBr⟩ := hrel;by_cases hlt : k < L.length
  · have hx := block_ext HBr.out HX2.out;have x0 : wr.cell? ⟨w.heap.size + 1, 0, none⟩ = some (.int .i64 x.fr) := by rw [cell_of_row _ _ _ _ _ _ hx]; rfl
    have x1 : wr.cell? ⟨w.heap.size + 1, 1, none⟩ = some (.int .i64 x.arm) := by rw [cell_of_row _ _ _ _ _ _ hx]; rfl
    have x2 : wr.cell? ⟨w.heap.size + 1, 2, none⟩ = some (.int .i64 x.to) := by rw [cell_of_row _ _ _ _ _ _ hx]; rfl
    clear hx;obtain ⟨r, b, o, hr, rfl, c0, c1, c2⟩ := edges_cells (HS.out.ext csE_len HBr.out) hlt;have HS1 := Lib.hid (cntTo_step (fun y => y.fr == x.fr) L k r hr);have HS2 := Lib.hid (cntTo_step (fun y => y.to == x.to) L k r hr);have HS3 : Hid (((L.take (k + 1)).any fun y => sameE y x) = (((L.take k).any fun y => sameE y x) || sameE r x)) := by rw [Hid, List.take_add_one, hr, Option.toList_some, List.any_append]; simp
    have hle1 := cntTo_le (fun y => y.fr == x.fr) L k;have hle2 := cntTo_le (fun y => y.to == x.to) L k;have hk0 : (0 : Int) ≤ (k : Int) := by omega
    have hk1 : (k : Int) < (L.length : Int) := by omega
    have hq : ∀ w, (binOp .eql 46 (edgeV r) (edgeV x)).run Tryz.prog w = .ok (.bool (sameE r x)) w := fun w => eql_edge w r x;clear hr;generalize cntTo (fun y => y.fr == x.fr) L k = n1 at *;generalize cntTo (fun y => y.to == x.to) L k = n2 at *;generalize ((L.take k).any fun y => sameE y x) = bb at *;generalize hqq : sameE r x = q3 at *;cases h1 : (r.fr == x.fr) <;> cases h2 : (r.to == x.to)
    all_goals
     have HN1 := Lib.hid (cnt_up HS1.out h1);have HN2 := Lib.hid (cnt_up HS2.out h2);cases bb <;> cases q3
    all_goals
     clear hqq;go_wp2
     go_quiet (fail)
     go_wp2
     go_quiet (fail)
     go_wp2
     go_quiet (fail)
     go_wp2
     go_roundw
     case rel => exact ⟨k + 1, by omega, by go_num, by simp [HN1.out], by simp [HN2.out], by rw [HS3.out]; rfl, ext_drewN HBr.out _⟩
     case measure => simp [intOf]; omega
  · obtain rfl : k = L.length := by omega
    rw [List.take_length];have HBB : ∃ bb, Hid ((L.any fun y => sameE y x) = bb) := ⟨_, rfl⟩
    obtain ⟨bb, HBB⟩ := HBB;rw [HBB.out];go_wp2;exact bodyPost_ret (v := .tuple #[.int .i64 (cntTo (fun y => y.fr == x.fr) L L.length : Nat), .int .i64 (cntTo (fun y => y.to == x.to) L L.length : Nat), .bool bb]) (by simp [results, Tryz.results68, go_sem, Act.put]) rfl ⟨by rw [HBB.out], ext_trans HB2.out HBr.out⟩
theorem any_same (L : List EdgeD) (x : EdgeD) : (L.any fun y => sameE y x) = decide (x ∈ L) := by
 rw [Bool.eq_iff_iff, List.any_eq_true, decide_eq_true_eq]
 constructor
 · rintro ⟨y, hy, e⟩;rw [(sameE_iff y x).1 e]; exact hy
 · intro h; exact ⟨x, h, (sameE_iff x x).2 rfl⟩
theorem counts_out {ts : List TermD} {x : EdgeD} (h : x ∈ allE ts) : cntTo (fun y => y.fr == x.fr) (allE ts) (allE ts).length = outE ts x ∧ cntTo (fun y => y.to == x.to) (allE ts) (allE ts).length = inE ts x ∧ 0 < outE ts x := by
 rw [cntTo, cntTo, List.take_length, outE, inE, if_pos h, if_pos h]
 exact ⟨rfl, rfl, List.countP_pos_iff.2 ⟨x, h, by simp⟩⟩
theorem critical18_any (pa : Option Addr) (pn pc : Nat) (ba : Option Addr) (bn bc : Nat) (bs : List BlkH) (x : EdgeD) (w : World) (h : BlksOK w ba bn bs) :
  Calls Tryz.prog 29 #[funcV pa pn pc ba bn bc, edgeV x] w fun e w' => e = .returned (.bool (critB (tsOf bs) x)) ∧ Below w.heap.size w w' := by
 have H := Lib.hid h
 clear h
 have hlen : (allE (tsOf bs)).length ≤ 400 := allE_len
 go_enter Tryz.func29, Tryz.ntmps29
 go_upto_region 1 with (fail)
 obtain ⟨W, hW⟩ : ∃ W, W = (w.alloc (funcO pa pn pc ba bn bc)).alloc (edgeO x) := ⟨_, rfl⟩
 rw [← hW]
 have hk0 : W.heap[w.heap.size]? = some (funcO pa pn pc ba bn bc) := by rw [hW]; exact block_ext (ext_alloc _ _) (heap_alloc_new _ _)
 have hk1 : W.heap[w.heap.size + 1]? = some (edgeO x) := by rw [hW]; have := heap_alloc_new (w.alloc (funcO pa pn pc ba bn bc)) (edgeO x); simpa using this
 have hB : Below w.heap.size w W := by rw [hW]; exact ext_trans (ext_alloc _ _) (ext_alloc _ _)
 have HK := Lib.hid hk0
 have HX := Lib.hid hk1
 have HB := Lib.hid hB
 clear hW hk0 hk1 hB
 cases hm : decide (x ∈ allE (tsOf bs)) with
 | false =>
   have HM := Lib.hid hm;have HE : Hid (critB (tsOf bs) x = false) := by
    have := of_decide_eq_false hm;rw [Hid, critB, outE, if_neg this]; simp
   clear hm
   go_wp2_with (first
    | (refine wpList_load_row (o := ⟨some 9, .load 25 _, _, _, _, _⟩) rfl 25 _ rfl w.heap.size rfl 25 _ (0, 0) _ HK.out Tryz.underlying25 rfl size_func ?_)
    | (refine wpList_load_row (o := ⟨some 10, .load 46 _, _, _, _, _⟩) rfl 46 _ rfl (w.heap.size + 1) rfl 46 _ (0, 0) _ HX.out Tryz.underlying46 rfl size_edge ?_)
    | (go_at_call 68
       refine (counts18_any pa pn pc ba bn bc bs x W (H.out.ext HB.out)).mono ?_;rintro e w2 ⟨rfl, hb⟩;rw [any_same, HM.out];have HB2 := Lib.hid (ext_trans HB.out hb)
       clear hb))
   go_ret
   exact ⟨by rw [HE.out]; rfl, HB2.out⟩
 | true =>
   have HM := Lib.hid hm;obtain ⟨q1, q2, _⟩ := counts_out (of_decide_eq_true hm);have HQ1 := Lib.hid q1;have HQ2 := Lib.hid q2;have h1 : outE (tsOf bs) x ≤ 400 := by rw [← q1]; exact Nat.le_trans (cntTo_le _ _ _) hlen
   have h2 : inE (tsOf bs) x ≤ 400 := by rw [← q2]; exact Nat.le_trans (cntTo_le _ _ _) hlen
   have HE : Hid (critB (tsOf bs) x = (decide (1 < outE (tsOf bs) x) && decide (1 < inE (tsOf bs) x))) := by
    rw [Hid, critB, Bool.eq_iff_iff];simp only [Bool.and_eq_true, decide_eq_true_eq];omega
   clear hm q1 q2;generalize outE (tsOf bs) x = n1 at *;generalize inE (tsOf bs) x = n2 at *;by_cases g1 : 1 < n1 <;> by_cases g2 : 1 < n2
   all_goals
    have g1' : decide ((1 : Int) < (n1 : Int)) = decide (1 < n1) := by rw [decide_eq_decide]; omega
    have g2' : decide ((1 : Int) < (n2 : Int)) = decide (1 < n2) := by rw [decide_eq_decide]; omega
    first | rw [decide_eq_true g1] at g1' HE | rw [decide_eq_false g1] at g1' HE
    first | rw [decide_eq_true g2] at g2' HE | rw [decide_eq_false g2] at g2' HE
    clear g1 g2
    go_wp2_with (first
     | (refine wpList_load_row (o := ⟨some 9, .load 25 _, _, _, _, _⟩) rfl 25 _ rfl w.heap.size rfl 25 _ (0, 0) _ HK.out Tryz.underlying25 rfl size_func ?_)
     | (refine wpList_load_row (o := ⟨some 10, .load 46 _, _, _, _, _⟩) rfl 46 _ rfl (w.heap.size + 1) rfl 46 _ (0, 0) _ HX.out Tryz.underlying46 rfl size_edge ?_)
     | (go_at_call 68
        refine (counts18_any pa pn pc ba bn bc bs x W (H.out.ext HB.out)).mono ?_;rintro e w2 ⟨rfl, hb⟩;rw [any_same, HM.out, HQ1.out, HQ2.out];have HB2 := Lib.hid (ext_trans HB.out hb)
        clear hb))
    go_ret
    exact ⟨by rw [HE.out]; rfl, HB2.out⟩
end
end Go.Proofs.YtblhmdhfhaencaaGreat
