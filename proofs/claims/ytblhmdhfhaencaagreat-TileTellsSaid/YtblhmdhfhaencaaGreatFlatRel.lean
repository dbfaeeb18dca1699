/-
  The document's answer to layer 17: Right. (Printed by gen_right17.py, which reads XTU.)
-/
import Derived.Test.YtblhmdhfhaencaaGreatRO
import Derived.Test.YtblhmdhfhaencaaGreatLX
import Derived.Test.YtblhmdhfhaencaaGreatLB
import Derived.Test.YtblhmdhfhaencaaGreatQF
namespace Go.Proofs.YtblhmdhfhaencaaGreat
set_option linter.unusedSimpArgs false
set_option linter.unusedVariables false
set_option linter.unusedSectionVars false
set_option maxRecDepth 100000
set_option maxHeartbeats 40000000
section
open Go.RowKit
theorem all_range {n : Nat} {l : List TileD} (hp : parentsB l = true) (hn : n ≤ 200) (h : ∀ j, j < l.length → standsB n l j = true) (k : Nat) (hk : k < l.length) : (∀ x ∈ blkL l k, 0 ≤ x ∧ x < n) ∧ ∀ b, setK l k b = true → b < n := by
  have h1 : ∀ j, j < l.length → ∀ x ∈ blkL l j, 0 ≤ x ∧ x < n := fun j hj => (stands_facts hj hp hn (h j hj)).1
  refine ⟨h1 k hk, fun b hb => ?_⟩
  simp only [setK, ofS, Bool.and_eq_true, decide_eq_true_eq, List.contains_iff_mem] at hb
  obtain ⟨m, hm, _, hx⟩ := (mem_allL l k hk hp _).1 hb.2
  have := h1 m hm _ hx
  omega
theorem right17_any (pa : Option Addr) (pn pc : Nat) (ba : Option Addr) (bn bc : Nat) (bs : List BlkH) (a : Option Addr) (n c : Nat) (ls : List TileR) (w : World) (h : BlksOK w ba bn bs) (ht : TilesOK w a n ls) (hT : totL (tdOf ls) ≤ 1000000) :
    Calls Tryz.prog 43 #[funcV pa pn pc ba bn bc, .slice a n c] w fun e w' => e = .returned (.bool (rightB (tsOf bs) (tdOf ls))) ∧ Below w.heap.size w w' := by
  have hn := ht.1.2.1
  have HLN := Lib.hid ht.1.1
  have H := Lib.hid h
  have HT := Lib.hid ht
  have HTOT := Lib.hid hT
  clear h ht hT
  go_enter Tryz.func43, Tryz.ntmps43
  go_upto_region 1 with (fail)
  obtain ⟨W, hW⟩ : ∃ W, W = w.alloc (funcO pa pn pc ba bn bc) := ⟨_, rfl⟩
  rw [← hW]
  have hk0 : W.heap[w.heap.size]? = some (funcO pa pn pc ba bn bc) := by rw [hW]; exact heap_alloc_new _ _
  have hB : Below w.heap.size w W := by rw [hW]; exact ext_alloc _ _
  have HK := Lib.hid hk0
  have HB := Lib.hid hB
  clear hW hk0 hB
  go_upto_region 2 with (first
    | (refine wpList_load_row (o := ⟨some 12, .load 25 _, _, _, _, _⟩) rfl 25 _ rfl w.heap.size rfl 25 _ (0, 0) _ HK.out Tryz.underlying25 rfl size_func ?_)
    | (go_at_call 38
       refine (own17_any pa pn pc ba bn bc bs a n c ls W (H.out.ext HB.out) (HT.out.ext HB.out) HTOT.out).mono ?_
       rintro e w2 ⟨v, en, rfl, hb, ho1, ho2, ho3⟩
       have HK2 := Lib.hid (block_ext hb HK.out)
       have HB2 := Lib.hid (ext_trans HB.out hb)
       have HO1 := Lib.hid ho1
       have HO2 := Lib.hid ho2
       have HO3 := Lib.hid (fun h1 h2 => (ho3 h1 h2).imp id fun h => h.mono (show w.heap.size ≤ W.heap.size from HB.out.size))
       clear hb ho1 ho2 ho3))
  cases hf : fitsB (tsOf bs) with
  | false =>
    have HE : Hid (rightB (tsOf bs) (tdOf ls) = false) := by simp [Hid, rightB, hf]
    obtain ⟨rfl, rfl⟩ := HO1.out hf
    clear hf HO1 HO2 HO3
    go_wp2
    go_ret
    exact ⟨by rw [HE.out]; rfl, HB2.out⟩
  | true =>
    have HF := Lib.hid hf
    have hgood := (goodB_iff _).1 (fits_good hf)
    have hbn : (tsOf bs).length = bn := by rw [tsOf_len]; exact H.out.1.1
    have hbn1 : 1 ≤ bn := by rw [← hbn]; exact hgood.1.1
    have hbn2 : bn ≤ 200 := by rw [← hbn]; exact hgood.1.2
    have HBN : Hid (bn ≤ 200) := hbn2
    have HTL : Hid ((tsOf bs).length = bn) := hbn
    clear hf hgood hbn HO1
    cases hob : ownB (tdOf ls) bn with
    | false =>
      have HE : Hid (rightB (tsOf bs) (tdOf ls) = false) := by simp [Hid, rightB, HTL.out, hob]
      obtain ⟨rfl, rfl⟩ := HO2.out HF.out hob
      clear hob HO2 HO3
      go_wp2
      go_ret
      exact ⟨by rw [HE.out]; rfl, HB2.out⟩
    | true =>
      obtain ⟨rfl, ho⟩ := HO3.out HF.out hob
      obtain ⟨va, vc, rfl⟩ := ho.form
      have HOB := Lib.hid hob
      obtain ⟨b0, o0, e0, hc0, _⟩ := ho.ints.2.2 0 (by rw [ownL_len]; omega)
      subst e0
      have hv0 : (ownL (tdOf ls) bn).getD 0 0 = (ownF (tdOf ls) 0 : Int) := by
        have : (List.range bn)[0]? = some 0 := by rw [List.getElem?_range (by omega)]
        simp [ownL, List.getD_eq_getElem?_getD, this]
      rw [hv0] at hc0
      have hc1 : w2.cell? ⟨b0, o0, none⟩ = some (.int .i64 (ownF (tdOf ls) 0 : Int)) := hc0
      have hol := ownL_len (tdOf ls) bn
      rw [hol]
      clear hob HO2 HO3 ho hv0 hc0 hol
      by_cases hl : n ≤ 200
      · have dl : decide ((n : Int) > 200) = false := by simp; omega
        have dl2 : decide ((200 : Int) < (n : Int)) = false := by simp; omega
        cases hpar : parentsB (tdOf ls) with
        | false =>
          have HE : Hid (rightB (tsOf bs) (tdOf ls) = false) := by simp [Hid, rightB, hpar]
          have HPAR := Lib.hid hpar
          clear hpar
          go_wp2_with (go_at_call 103
                       refine (parents17_any a n c ls w2 (HT.out.ext HB2.out)).mono ?_
                       rintro e w4 ⟨rfl, rfl⟩
                       rw [HPAR.out])
          go_ret
          exact ⟨by rw [HE.out]; rfl, HB2.out⟩
        | true =>
          have HPAR := Lib.hid hpar
          clear hpar
          by_cases hz : ownF (tdOf ls) 0 = 0
          · have HZ := Lib.hid hz
            rw [hz] at hc1
            clear hz
            go_wp2_with (go_at_call 103
                         refine (parents17_any a n c ls w2 (HT.out.ext HB2.out)).mono ?_
                         rintro e w4 ⟨rfl, rfl⟩
                         rw [HPAR.out])
            go_loopw [7, 8, 9] (fun s7 _ _ wr => ∃ k : Nat, k ≤ n ∧ s7 = .int .i64 (k : Int) ∧ Hid (∀ j, j < k → standsB bn (tdOf ls) j = true) ∧ Hid (wr.heap[w.heap.size]? = some (funcO pa pn pc ba bn bc)) ∧ Hid (Below w.heap.size w wr)) (fun s7 _ _ _ => n - (intOf s7).toNat)
            case atStart => exact ⟨0, by omega, by go_num, fun j hj => absurd hj (by omega), HK2, HB2⟩
            case round =>
              obtain ⟨k, hk, rfl, HR, HKr, HBr⟩ := hrel
              clear HK2 HB2 hc1
              by_cases hlt : k < n
              · have hlt' : (k : Int) < (n : Int) := by omega
                have hkl : k < (tdOf ls).length := by rw [tdOf_len, HLN.out]; exact hlt
                obtain ⟨t, b, o, hlk, ⟨hI, hcap, hI1, hI2⟩, rfl, c0, c1, c2⟩ := (HT.out.ext HBr.out).cells hlt
                have htd := tdOf_at ls k t hlk
                have hpk := (parentsB_iff _).1 HPAR.out k hkl
                rw [parL, htd] at hpk
                have HST := Lib.hid (stands_mis bn (tdOf ls) k)
                rw [htd] at HST
                have HM : Hid (misB (tdOf ls) k = (((k == 0) != (t.d.kind == 1)) || ((k == 0) != (t.d.parent == -1)) || (t.d.blocks.length == 0) || (decide (0 < k) && (((tdOf ls).getD t.d.parent.toNat zTile).kind == 3)))) := by
                  rw [Hid, misB, htd]
                have HLn := Lib.hid hI.1
                have hbl := hI.2.1
                have HI := Lib.hid hI
                have HNO : Hid (standsB bn (tdOf ls) k = false → rightB (tsOf bs) (tdOf ls) = false) := fun h => by
                  rw [Bool.eq_false_iff]
                  intro h2
                  simp only [rightB, Bool.and_eq_true, List.all_eq_true, List.mem_range] at h2
                  have h3 := h2.2 k hkl
                  rw [HTL.out] at h3
                  rw [h3.1] at h
                  cases h
                have HYES : Hid (standsB bn (tdOf ls) k = true → ∀ j, j < k + 1 → standsB bn (tdOf ls) j = true) := fun h j hj => by
                  by_cases e : j = k
                  · subst e; exact h
                  · exact HR.out j (by omega)
                clear hlk hI htd HR
                go_upto_region 8 with (fail)
                obtain ⟨g, hg⟩ : ∃ g, g = wr.heap.size := ⟨_, rfl⟩
                obtain ⟨W2, hW2⟩ : ∃ W2, W2 = wr.alloc (tileO t) := ⟨_, rfl⟩
                rw [← hW2, ← hg]
                have hB2 : Below w.heap.size w W2 := by rw [hW2]; exact HBr.out.alloc HBr.out.size _
                have hB3 : Below wr.heap.size wr W2 := by rw [hW2]; exact ext_alloc _ _
                have ht2 : W2.heap[g]? = some (tileO t) := by rw [hW2, hg]; exact heap_alloc_new _ _
                have HK2 := Lib.hid (block_ext hB3 HKr.out)
                have HB2 := Lib.hid hB2
                have HT2 := Lib.hid ht2
                have HI2 := Lib.hid (HI.out.ext hB3)
                clear hW2 hB2 hB3 ht2 c0 c1 c2 HKr HBr hg
                go_cut [77] (fun s77 wr => s77 = .bool (misB (tdOf ls) k) ∧ wr = W2)
                case first =>
                  have t0 : W2.cell? ⟨g, 0, none⟩ = some (.int .i64 t.d.kind) := by rw [cell_of_row _ _ _ _ _ _ HT2.out]; rfl
                  have t1 : W2.cell? ⟨g, 1, none⟩ = some (.int .i64 t.d.parent) := by rw [cell_of_row _ _ _ _ _ _ HT2.out]; rfl
                  have t2 : W2.cell? ⟨g, 2, none⟩ = some (.slice t.ba t.bn t.bc) := by rw [cell_of_row _ _ _ _ _ _ HT2.out]; rfl
                  by_cases hk0 : k = 0
                  · have fk : ((k : Int) == 0) = true := by simp [hk0]
                    have fkp : decide (0 < (k : Int)) = false := by simp [hk0]
                    have fkn : decide (0 < k) = false := by simp [hk0]
                    by_cases ha : t.d.kind = 1
                    · have fa : (t.d.kind == 1) = true := by simp [ha]
                      have hpe : t.d.parent = -1 := by omega
                      have fp : (t.d.parent == -1) = true := by simp [hpe]
                      by_cases hl : t.bn = 0
                      · have fl : ((t.bn : Int) == 0) = true := by simp [hl]
                        have hE : Hid (misB (tdOf ls) k = true) := by rw [Hid, HM.out]; simp [HLn.out, hk0, ha, hpe, hl]
                        clear hk0 ha hpe hl hpk
                        go_wp2
                        go_meet
                        exact ⟨(congrArg Value.bool hE.out).symm, rfl⟩
                      · have fl : ((t.bn : Int) == 0) = false := by simp [hl]
                        have hE : Hid (misB (tdOf ls) k = false) := by rw [Hid, HM.out]; simp [HLn.out, hk0, ha, hpe, hl]
                        clear hk0 ha hpe hl hpk
                        go_wp2
                        go_meet
                        exact ⟨(congrArg Value.bool hE.out).symm, rfl⟩
                    · have fa : (t.d.kind == 1) = false := by simp [ha]
                      have hE : Hid (misB (tdOf ls) k = true) := by rw [Hid, HM.out]; simp [HLn.out, hk0, ha]
                      clear hk0 ha hpk
                      go_wp2
                      go_meet
                      exact ⟨(congrArg Value.bool hE.out).symm, rfl⟩
                  · have fk : ((k : Int) == 0) = false := by simp [hk0]
                    have fkp : decide (0 < (k : Int)) = true := by simp; omega
                    have fkn : decide (0 < k) = true := by simp; omega
                    by_cases ha : t.d.kind = 1
                    · have fa : (t.d.kind == 1) = true := by simp [ha]
                      have hE : Hid (misB (tdOf ls) k = true) := by rw [Hid, HM.out]; simp [HLn.out, hk0, ha]
                      clear hk0 ha hpk
                      go_wp2
                      go_meet
                      exact ⟨(congrArg Value.bool hE.out).symm, rfl⟩
                    · have fa : (t.d.kind == 1) = false := by simp [ha]
                      by_cases hpe : t.d.parent = -1
                      · have fp : (t.d.parent == -1) = true := by simp [hpe]
                        have hE : Hid (misB (tdOf ls) k = true) := by rw [Hid, HM.out]; simp [HLn.out, hk0, ha, hpe]
                        clear hk0 ha hpe hpk
                        go_wp2
                        go_meet
                        exact ⟨(congrArg Value.bool hE.out).symm, rfl⟩
                      · have fp : (t.d.parent == -1) = false := by simp [hpe]
                        have hp0 : 0 ≤ t.d.parent := by omega
                        have hpn : t.d.parent < (n : Int) := by omega
                        by_cases hl : t.bn = 0
                        · have fl : ((t.bn : Int) == 0) = true := by simp [hl]
                          have hE : Hid (misB (tdOf ls) k = true) := by rw [Hid, HM.out]; simp [HLn.out, hk0, ha, hpe, hl]
                          clear hk0 ha hpe hl hpk
                          go_wp2
                          go_meet
                          exact ⟨(congrArg Value.bool hE.out).symm, rfl⟩
                        · have fl : ((t.bn : Int) == 0) = false := by simp [hl]
                          obtain ⟨t', b', o', hl', _, hab, l0, _, _⟩ := (HT.out.ext HB2.out).cells (k := t.d.parent.toNat) (by omega)
                          injection hab with hab
                          injection hab with hab1 hab2 _
                          subst hab1 hab2
                          have htd' := tdOf_at ls _ t' hl'
                          by_cases he : t'.d.kind = 3
                          · have fe : (t'.d.kind == 3) = true := by simp [he]
                            have fkb : (k == 0) = false := by simp [hk0]
                            have flb : (t.bn == 0) = false := by simp [hl]
                            have hE : Hid (misB (tdOf ls) k = true) := by rw [Hid, HM.out, htd', fkb, fa, fp, HLn.out, flb, fkn, fe]; rfl
                            clear fkb flb
                            clear hk0 ha hpe hl hpk he hl' htd'
                            go_wp2
                            go_meet
                            exact ⟨(congrArg Value.bool hE.out).symm, rfl⟩
                          · have fe : (t'.d.kind == 3) = false := by simp [he]
                            have fkb : (k == 0) = false := by simp [hk0]
                            have flb : (t.bn == 0) = false := by simp [hl]
                            have hE : Hid (misB (tdOf ls) k = false) := by rw [Hid, HM.out, htd', fkb, fa, fp, HLn.out, flb, fkn, fe]; rfl
                            clear fkb flb
                            clear hk0 ha hpe hl hpk he hl' htd'
                            go_wp2
                            go_meet
                            exact ⟨(congrArg Value.bool hE.out).symm, rfl⟩
                case rest =>
                  obtain ⟨rfl, rfl⟩ := hcut
                  cases hm : misB (tdOf ls) k with
                  | true =>
                    have HE : Hid (rightB (tsOf bs) (tdOf ls) = false) := HNO.out (by rw [HST.out, hm]; rfl)
                    clear hm
                    go_wp2
                    go_ret
                    exact ⟨by rw [HE.out]; rfl, HB2.out⟩
                  | false =>
                    have HSE : Hid (standsB bn (tdOf ls) k = risingB bn t.d.blocks) := by rw [Hid, HST.out, hm]; rfl
                    clear hm
                    have t2 : wc.cell? ⟨g, 2, none⟩ = some (.slice t.ba t.bn t.bc) := by rw [cell_of_row _ _ _ _ _ _ HT2.out]; rfl
                    generalize t.ba = ba2 at *
                    go_wp2
                    go_loopw [9] (fun s9 wi => ∃ (m : Nat), m ≤ t.bn ∧ s9 = .int .i64 m ∧ Hid (riseTo bn t.d.blocks m) ∧ Hid (Below wc.heap.size wc wi)) (fun s9 _ => t.bn - (intOf s9).toNat)
                    case atStart => exact ⟨0, by omega, rfl, fun j hj => absurd hj (by omega), Below.refl _ _⟩
                    case round =>
                      obtain ⟨m, hm, rfl, HRI, HBi⟩ := hrel
                      have t2' := cell_ext HBi.out t2
                      have q2 : ∀ n' : ExtW wr, n'.val.cell? ⟨g, 2, none⟩ = some (.slice ba2 t.bn t.bc) := fun n' => cell_ext n'.ext t2'
                      clear t2
                      by_cases hmt : m < t.bn
                      · obtain ⟨bb, ob, rfl, hc, hw1, hw2⟩ := HI2.out.2.2 m hmt
                        have hmx : m < t.d.blocks.length := by rw [HLn.out]; exact hmt
                        have hmt' : (m : Int) < (t.bn : Int) := by omega
                        have HRS : Hid (risingB bn t.d.blocks = true → (0 ≤ t.d.blocks.getD m 0 ∧ t.d.blocks.getD m 0 < bn) ∧ (m = 0 ∨ t.d.blocks.getD (m - 1) 0 < t.d.blocks.getD m 0)) := fun h => (rising_iff _ _).1 h m hmx
                        have HRN : Hid (0 ≤ t.d.blocks.getD m 0 → t.d.blocks.getD m 0 < bn → (m = 0 ∨ t.d.blocks.getD (m - 1) 0 < t.d.blocks.getD m 0) → riseTo bn t.d.blocks (m + 1)) := fun h1 h2 h3 j hj => by
                          by_cases e : j = m
                          · subst e; exact ⟨⟨h1, h2⟩, h3⟩
                          · exact HRI.out j (by omega)
                        have w1 : ∀ n' : ExtW wr, n'.val.cell? ⟨w.heap.size, 1, none⟩ = some (.slice ba bn bc) := fun n' => cell_ext (ext_trans HBi.out n'.ext) (by rw [cell_of_row _ _ _ _ _ _ HK2.out]; rfl)
                        have qc : ∀ n' : ExtW wr, n'.val.cell? ⟨bb, ob + m, none⟩ = some (.int .i64 (t.d.blocks.getD m 0)) := fun n' => cell_ext (ext_trans HBi.out n'.ext) hc
                        clear hc
                        have HBAD : Hid (risingB bn t.d.blocks = false → rightB (tsOf bs) (tdOf ls) = false) := fun h => HNO.out (by rw [HSE.out]; exact h)
                        by_cases h0 : t.d.blocks.getD m 0 < 0
                        · have HE : Hid (rightB (tsOf bs) (tdOf ls) = false) := HBAD.out (by
                            rw [Bool.eq_false_iff]; intro h; have := (HRS.out h).1; omega)
                          clear hmx
                          generalize t.d.blocks.getD m 0 = x at *
                          have d0 : decide (x < 0) = true := by simpa using h0
                          go_wp2
                          refine region_ext (by kernel_rfl) (by kernel_rfl) ?_
                          repeat (first
                            | go_big_quiet_skip
                            | go_big_quiet_step (fail))
                          refine wpQuiet_nil ?_
                          intro _ hw'
                          obtain ⟨n', rfl⟩ := hw'
                          have HBn : Hid (Below wc.heap.size wc n'.val) := ext_trans HBi.out n'.ext
                          generalize n'.val = W8 at *
                          go_wp2
                          go_ret
                          exact ⟨by rw [HE.out]; rfl, ext_trans HB2.out HBn.out⟩
                        · by_cases h1 : t.d.blocks.getD m 0 < bn
                          · by_cases hm0 : m = 0
                            · have HR2 := Lib.hid (HRN.out (by omega) h1 (.inl hm0))
                              have hmz : decide ((m : Int) > 0) = false := by simp [hm0]
                              have hmz2 : decide ((0 : Int) < (m : Int)) = false := by simp [hm0]
                              have hmz3 : decide (0 < m) = false := by simp [hm0]
                              clear hm0 hmx
                              generalize t.d.blocks.getD m 0 = x at *
                              have d0 : decide (x < 0) = false := by simp; omega
                              have d1 : decide (x ≥ (bn : Int)) = false := by simp; omega
                              have d2 : decide ((bn : Int) ≤ x) = false := by simp; omega
                              go_wp2
                              refine region_ext (by kernel_rfl) (by kernel_rfl) ?_
                              repeat (first
                                | go_big_quiet_skip
                                | go_big_quiet_step (fail))
                              refine wpQuiet_nil ?_
                              intro _ hw'
                              obtain ⟨n', rfl⟩ := hw'
                              have HBn : Hid (Below wc.heap.size wc n'.val) := ext_trans HBi.out n'.ext
                              generalize n'.val = W8 at *
                              go_wp2
                              go_roundw
                              case rel => exact ⟨m + 1, by omega, by go_num, HR2, HBn⟩
                              case measure => simp [intOf]; omega
                            · obtain ⟨bb', ob', ee, hc', hw1', hw2'⟩ := HI2.out.2.2 (m - 1) (by omega)
                              injection ee with ee
                              injection ee with ee1 ee2 _
                              subst ee1 ee2
                              have qd : ∀ n' : ExtW wr, n'.val.cell? ⟨bb, ob + (m - 1), none⟩ = some (.int .i64 (t.d.blocks.getD (m - 1) 0)) := fun n' => cell_ext (ext_trans HBi.out n'.ext) hc'
                              clear hc'
                              have HM0 : Hid (m ≠ 0) := hm0
                              have hmz : decide ((m : Int) > 0) = true := by simp; omega
                              have hmz2 : decide ((0 : Int) < (m : Int)) = true := by simp; omega
                              have hmz3 : decide (0 < m) = true := by simp; omega
                              have hmi : ((m : Int) - 1).toNat = m - 1 := by omega
                              have hmj : (0 : Int) ≤ (m : Int) - 1 := by omega
                              have hmk : (m : Int) - 1 < (t.bn : Int) := by omega
                              clear hm0
                              by_cases h2 : t.d.blocks.getD (m - 1) 0 < t.d.blocks.getD m 0
                              · have HR2 := Lib.hid (HRN.out (by omega) h1 (.inr h2))
                                clear hmx
                                generalize t.d.blocks.getD m 0 = x at *
                                generalize t.d.blocks.getD (m - 1) 0 = y at *
                                have d0 : decide (x < 0) = false := by simp; omega
                                have d1 : decide (x ≥ (bn : Int)) = false := by simp; omega
                                have d2 : decide ((bn : Int) ≤ x) = false := by simp; omega
                                have d3 : decide (y ≥ x) = false := by simp; omega
                                have d4 : decide (x ≤ y) = false := by simp; omega
                                go_wp2
                                refine region_ext (by kernel_rfl) (by kernel_rfl) ?_
                                repeat (first
                                  | go_big_quiet_skip
                                  | go_big_quiet_step (fail))
                                refine wpQuiet_nil ?_
                                intro _ hw'
                                obtain ⟨n', rfl⟩ := hw'
                                have HBn : Hid (Below wc.heap.size wc n'.val) := ext_trans HBi.out n'.ext
                                generalize n'.val = W8 at *
                                go_wp2
                                go_roundw
                                case rel => exact ⟨m + 1, by omega, by go_num, HR2, HBn⟩
                                case measure => simp [intOf]; omega
                              · have HE : Hid (rightB (tsOf bs) (tdOf ls) = false) := HBAD.out (by
                                  rw [Bool.eq_false_iff]; intro h
                                  rcases (HRS.out h).2 with h3 | h3
                                  · exact HM0.out h3
                                  · exact h2 h3)
                                clear hmx
                                generalize t.d.blocks.getD m 0 = x at *
                                generalize t.d.blocks.getD (m - 1) 0 = y at *
                                have d0 : decide (x < 0) = false := by simp; omega
                                have d1 : decide (x ≥ (bn : Int)) = false := by simp; omega
                                have d2 : decide ((bn : Int) ≤ x) = false := by simp; omega
                                have d3 : decide (y ≥ x) = true := by simp; omega
                                have d4 : decide (x ≤ y) = true := by simp; omega
                                go_wp2
                                refine region_ext (by kernel_rfl) (by kernel_rfl) ?_
                                repeat (first
                                  | go_big_quiet_skip
                                  | go_big_quiet_step (fail))
                                refine wpQuiet_nil ?_
                                intro _ hw'
                                obtain ⟨n', rfl⟩ := hw'
                                have HBn : Hid (Below wc.heap.size wc n'.val) := ext_trans HBi.out n'.ext
                                generalize n'.val = W8 at *
                                go_wp2
                                go_ret
                                exact ⟨by rw [HE.out]; rfl, ext_trans HB2.out HBn.out⟩
                          · have HE : Hid (rightB (tsOf bs) (tdOf ls) = false) := HBAD.out (by
                              rw [Bool.eq_false_iff]; intro h; have := (HRS.out h).1; omega)
                            clear hmx
                            generalize t.d.blocks.getD m 0 = x at *
                            have d0 : decide (x < 0) = false := by simp; omega
                            have d1 : decide (x ≥ (bn : Int)) = true := by simp; omega
                            have d2 : decide ((bn : Int) ≤ x) = true := by simp; omega
                            go_wp2
                            refine region_ext (by kernel_rfl) (by kernel_rfl) ?_
                            repeat (first
                              | go_big_quiet_skip
                              | go_big_quiet_step (fail))
                            refine wpQuiet_nil ?_
                            intro _ hw'
                            obtain ⟨n', rfl⟩ := hw'
                            have HBn : Hid (Below wc.heap.size wc n'.val) := ext_trans HBi.out n'.ext
                            generalize n'.val = W8 at *
                            go_wp2
                            go_ret
                            exact ⟨by rw [HE.out]; rfl, ext_trans HB2.out HBn.out⟩
                      · obtain rfl : m = t.bn := by omega
                        have HR2 := Lib.hid (HYES.out (by rw [HSE.out, rising_iff, HLn.out]; exact HRI.out))
                        have HK3 := Lib.hid (block_ext HBi.out HK2.out)
                        have HB3 := Lib.hid (ext_trans HB2.out HBi.out)
                        clear HRI
                        go_wp2
                        go_roundw
                        case rel => exact ⟨k + 1, by omega, by go_num, HR2, HK3, HB3⟩
                        case measure => simp [intOf]; omega
              · obtain rfl : k = n := by omega
                have HALL : Hid (∀ j, j < k → (∀ x ∈ blkL (tdOf ls) j, 0 ≤ x ∧ x < bn) ∧ ∀ b, setK (tdOf ls) j b = true → b < bn) := fun j hj => all_range HPAR.out HBN.out (fun i hi => HR.out i (by rw [tdOf_len, HLN.out] at hi; exact hi)) j (by rw [tdOf_len, HLN.out]; exact hj)
                go_wp2
                go_loopw [10] (fun s10 wi => ∃ j : Nat, j ≤ k ∧ s10 = .int .i64 (j : Int) ∧ Hid (∀ i, i < j → holdsB (tsOf bs) ((tdOf ls).getD i zTile) (setK (tdOf ls) i) = true) ∧ Hid (wi.heap[w.heap.size]? = some (funcO pa pn pc ba bn bc)) ∧ Hid (Below w.heap.size w wi)) (fun s10 _ => k - (intOf s10).toNat)
                case atStart => exact ⟨0, by omega, by go_num, fun j hj => absurd hj (by omega), HKr, HBr⟩
                case round =>
                  obtain ⟨j, hj, rfl, HH, HK3, HB3⟩ := hrel
                  clear HKr HBr
                  by_cases hjk : j < k
                  · have hjk' : (j : Int) < (k : Int) := by omega
                    cases hh : holdsB (tsOf bs) ((tdOf ls).getD j zTile) (setK (tdOf ls) j) with
                    | false =>
                      have HE : Hid (rightB (tsOf bs) (tdOf ls) = false) := by
                        rw [Hid, Bool.eq_false_iff]
                        intro h2
                        simp only [rightB, Bool.and_eq_true, List.all_eq_true, List.mem_range] at h2
                        have h3 := (h2.2 j (by rw [tdOf_len, HLN.out]; exact hjk)).2
                        rw [hh] at h3
                        cases h3
                      have HHH := Lib.hid hh
                      clear hh
                      go_wp2_with (first
                        | (refine wpList_load_row (o := ⟨some 126, .load 25 _, _, _, _, _⟩) rfl 25 _ rfl w.heap.size rfl 25 _ (0, 0) _ HK3.out Tryz.underlying25 rfl size_func ?_)
                        | (go_at_call 104
                           refine (holds17_any pa pn pc ba bn bc bs a k c ls j wr (H.out.ext HB3.out) (HT.out.ext HB3.out) hjk HTOT.out (fits_good HF.out) (HALL.out j hjk).1 (HALL.out j hjk).2).mono ?_
                           rintro e w5 ⟨rfl, hb⟩
                           rw [HHH.out]
                           have HB5 := Lib.hid (ext_trans HB3.out hb)
                           clear hb))
                      go_ret
                      exact ⟨by rw [HE.out]; rfl, HB5.out⟩
                    | true =>
                      have HH2 : Hid (∀ i, i < j + 1 → holdsB (tsOf bs) ((tdOf ls).getD i zTile) (setK (tdOf ls) i) = true) := fun i hi => by
                        by_cases e : i = j
                        · subst e; exact hh
                        · exact HH.out i (by omega)
                      have HHH := Lib.hid hh
                      clear hh
                      go_wp2_with (first
                        | (refine wpList_load_row (o := ⟨some 126, .load 25 _, _, _, _, _⟩) rfl 25 _ rfl w.heap.size rfl 25 _ (0, 0) _ HK3.out Tryz.underlying25 rfl size_func ?_)
                        | (go_at_call 104
                           refine (holds17_any pa pn pc ba bn bc bs a k c ls j wr (H.out.ext HB3.out) (HT.out.ext HB3.out) hjk HTOT.out (fits_good HF.out) (HALL.out j hjk).1 (HALL.out j hjk).2).mono ?_
                           rintro e w5 ⟨rfl, hb⟩
                           rw [HHH.out]
                           have HK5 := Lib.hid (block_ext hb HK3.out)
                           have HB5 := Lib.hid (ext_trans HB3.out hb)
                           clear hb))
                      go_roundw
                      case rel => exact ⟨j + 1, by omega, by go_num, HH2, HK5, HB5⟩
                      case measure => simp [intOf]; omega
                  · obtain rfl : j = k := by omega
                    have HE : Hid (rightB (tsOf bs) (tdOf ls) = true) := by
                      simp only [Hid, rightB, Bool.and_eq_true, List.all_eq_true, List.mem_range, HTL.out, decide_eq_true_eq]
                      refine ⟨⟨⟨⟨⟨HF.out, by rw [tdOf_len, HLN.out]; exact hl⟩, HPAR.out⟩, HOB.out⟩, by rw [HZ.out]; rfl⟩, fun i hi => ?_⟩
                      rw [tdOf_len, HLN.out] at hi
                      exact ⟨HR.out i hi, HH.out i hi⟩
                    go_wp2
                    go_ret
                    exact ⟨by rw [HE.out]; rfl, HB3.out⟩
          · have HE : Hid (rightB (tsOf bs) (tdOf ls) = false) := by simp [Hid, rightB, hz]
            have dz : (((ownF (tdOf ls) 0 : Nat) : Int) != 0) = true := by simpa using hz
            clear hz
            go_wp2_with (go_at_call 103
                         refine (parents17_any a n c ls w2 (HT.out.ext HB2.out)).mono ?_
                         rintro e w4 ⟨rfl, rfl⟩
                         rw [HPAR.out])
            go_ret
            exact ⟨by rw [HE.out]; rfl, HB2.out⟩
      · have dl : decide ((n : Int) > 200) = true := by simp; omega
        have dl2 : decide ((200 : Int) < (n : Int)) = true := by simp; omega
        have HE : Hid (rightB (tsOf bs) (tdOf ls) = false) := by
          have : ¬ (tdOf ls).length ≤ 200 := by rw [tdOf_len, HLN.out]; exact hl
          simp [Hid, rightB, this]
        clear hl
        go_wp2
        go_ret
        exact ⟨by rw [HE.out]; rfl, HB2.out⟩
end

section
open Go.RowKit
structure FuncR where
  pa : Option Addr
  pn : Nat
  pc : Nat
  ps : List Int
  ba : Option Addr
  bn : Nat
  bc : Nat
  bs : List BlkR
abbrev funcVR (f : FuncR) : Value := funcV f.pa f.pn f.pc f.ba f.bn f.bc
def FuncOK (w : World) (f : FuncR) : Prop := Ints w f.pa f.pn f.ps ∧ BlksR w f.ba f.bn f.bs
theorem FuncOK.ext {w w' : World} {f : FuncR} (h : FuncOK w f) (hb : Below w.heap.size w w') : FuncOK w' f := ⟨h.1.ext hb, h.2.ext hb⟩
def FuncNA (f : FuncR) : Prop := f.pn ≤ 1000000 ∧ f.bn ≤ 1000000 ∧ ∀ b ∈ f.bs, BlkNA b
def SDFunc (r s : FuncR) : Prop := r.ps = s.ps ∧ r.bn = s.bn ∧ SameEs SDBlk r.bs s.bs
def LentFn (w : World) (base : Nat) (r r' : FuncR) : Prop := r'.ps = r.ps ∧ r'.pn = r.pn ∧ r'.bn = r.bn ∧ Lent w base (.slice r'.pa r'.pn r'.pc) r.ps ∧ LentBlocks w base (.slice r'.ba r'.bn r'.bc) r.bs r'.bs
theorem LentFn.sd {w : World} {base : Nat} {r r' : FuncR} (h : LentFn w base r r') : SDFunc r' r := by
  obtain ⟨h1, _, h2, _, _, _, _, _, h3⟩ := h
  exact ⟨h1, h2, h3.same fun _ _ h => h.sd⟩
theorem LentFn_law : LentLaw [3, 73, 216, 3] LentFn where
  chg := fun h hc hn => ⟨h.1, h.2.1, h.2.2.1, h.2.2.2.1.chg hc hn, h.2.2.2.2.chg LentB_law hc hn⟩
  mono := fun hb h => ⟨h.1, h.2.1, h.2.2.1, h.2.2.2.1.mono hb, h.2.2.2.2.mono LentB_law hb⟩
  grown := fun he h ho hg => ⟨h.1, h.2.1, h.2.2.1, h.2.2.2.1.grown (fun e => he (by simp [e])) ho hg, h.2.2.2.2.grown LentB_law (fun e => he (List.mem_cons_of_mem _ e)) ho hg⟩
theorem LentFn.ok {w : World} {base : Nat} {r r' : FuncR} (h : LentFn w base r r') (hr : FuncOK w r) (hna : FuncNA r) : FuncOK w r' := by
  obtain ⟨pa, pn, pc, ps, ba, bn, bc, bs⟩ := r'
  obtain ⟨h1, h2, h3, h4, h5⟩ := h
  obtain ⟨g, cap, e⟩ := h5.form
  injection e with e1 e2 e3
  obtain rfl : ba = some ⟨g, 0, none⟩ := e1
  obtain rfl : bn = r.bn := h3
  obtain rfl : ps = r.ps := h1
  obtain ⟨a, c, e, hi⟩ := h4.ints (by rw [hr.1.1]; exact hr.1.2.1) hr.1.mem
  injection e with e1 e2' e3
  refine ⟨?_, (h5.okS hr.2 hna.2.1 hna.2.2).2.1⟩
  show Ints w pa pn r.ps
  have e4 : pa = a := e1
  have e5 : pn = r.ps.length := e2'
  rw [e4, e5]
  exact hi
theorem lentFunc_any (r : FuncR) (w : World) (h : FuncOK w r) (hn : FuncNA r) :
    Calls Tryz.prog 11 #[funcVR r] w fun e w' => ∃ r', e = .returned (funcVR r') ∧ LentFn w' w.heap.size r r' ∧ Below w.heap.size w w' := by
  have H := Lib.hid h
  have HN := Lib.hid hn
  clear h hn
  go_enter Tryz.func11, Tryz.ntmps11
  go_wp2_with (first
    | (go_at_call 53
       refine (lentBlocks_any r.ba r.bn r.bc r.bs W1 (H.out.2.ext HX1.out) HN.out.2.1 HN.out.2.2).mono ?_
       rintro e w1 ⟨v, rs1, rfl, hL, hb⟩
       obtain ⟨g1, cap1, rfl⟩ := hL.form
       have x1 := block_ext hb HK1.out
       have x2 := block_ext hb HZ1.out
       have x3 := ext_trans HX1.out hb
       have hl0 := HL1_0.out.ext hb
       have y6 : w1.cell? ⟨w.heap.size, 1, none⟩ = some (.slice r.ba r.bn r.bc) := by rw [cell_of_row _ _ _ _ _ _ x1]; rfl
       have z6 : w1.frozen? ⟨w.heap.size, 1, none⟩ = false := frozen_of_row _ _ _ _ _ x1
       obtain ⟨W2, hW2⟩ : ∃ W, w1.setCell ⟨w.heap.size, 1, none⟩ (.slice (some ⟨g1, 0, none⟩) r.bs.length cap1) = W := ⟨_, rfl⟩
       have c2 : Chg (fun k => k = w.heap.size) w1 W2 := by rw [← hW2]; exact chg_setCell _ _ _ _
       have hsz := x3.size
       have HL2_1 := Lib.hid (hL.chg LentB_law c2 (fun k hk => by have := HX1.out.size; have := (Array.getElem?_eq_some_iff.1 HK1.out).1; omega))
       have HL2_0 := Lib.hid (hl0.chg c2 (fun k hk => by simp; omega))
       have X1 : W2.heap[w.heap.size]? = some (.cells #[.slice (some ⟨g0, 0, none⟩) r.ps.length cap0, .slice (some ⟨g1, 0, none⟩) r.bs.length cap1] 25 (0, 0)) := by rw [← hW2, heap_setCell_same _ _ 1 _ _ _ x1]; rfl
       have HK2 := Lib.hid X1
       have HZ2 := Lib.hid (c2.row x2 (by omega))
       have HX2 := Lib.hid (x3.trans (c2.below (B := w.heap.size) x3.size (fun k hk => by omega)))
       have i2_0 : W2.cell? ⟨w.heap.size, 0, none⟩ = some (.slice (some ⟨g0, 0, none⟩) r.ps.length cap0) := by rw [cell_of_row _ _ _ _ _ _ X1]; rfl
       have i2_1 : W2.cell? ⟨w.heap.size, 1, none⟩ = some (.slice (some ⟨g1, 0, none⟩) r.bs.length cap1) := by rw [cell_of_row _ _ _ _ _ _ X1]; rfl
       clear hL x1 x2 x3 hb c2 X1 i1_0 i1_1)
    | (go_at_call 52
       refine (lentInts_any r.pa r.pn r.pc r.ps _ (H.out.1.ext (ext_trans (ext_alloc _ _) (ext_alloc _ _))) HN.out.1).mono ?_
       rintro e w1 ⟨v, rfl, hL, hb⟩
       obtain ⟨g0, cap0, rfl⟩ := hL.form
       obtain ⟨x1, x2, x3⟩ := box2 w (.cells #[.slice r.pa r.pn r.pc, .slice r.ba r.bn r.bc] 25) (.cells #[.slice none 0 0, .slice none 0 0] 25) w1 hb
       have y6 : w1.cell? ⟨w.heap.size, 0, none⟩ = some (.slice r.pa r.pn r.pc) := by rw [cell_of_row _ _ _ _ _ _ x1]; rfl
       have z6 : w1.frozen? ⟨w.heap.size, 0, none⟩ = false := frozen_of_row _ _ _ _ _ x1
       obtain ⟨W1, hW2⟩ : ∃ W, w1.setCell ⟨w.heap.size, 0, none⟩ (.slice (some ⟨g0, 0, none⟩) r.ps.length cap0) = W := ⟨_, rfl⟩
       have c2 : Chg (fun k => k = w.heap.size) w1 W1 := by rw [← hW2]; exact chg_setCell _ _ _ _
       have HL1_0 := Lib.hid (hL.chg c2 (fun k hk => by simp; omega))
       have X1 : W1.heap[w.heap.size]? = some (.cells #[.slice (some ⟨g0, 0, none⟩) r.ps.length cap0, .slice r.ba r.bn r.bc] 25 (0, 0)) := by rw [← hW2, heap_setCell_same _ _ 0 _ _ _ x1]; rfl
       have HK1 := Lib.hid X1
       have HZ1 := Lib.hid (c2.row x2 (by omega))
       have HX1 := Lib.hid (x3.trans (c2.below (B := w.heap.size) x3.size (fun k hk => by omega)))
       have i1_0 : W1.cell? ⟨w.heap.size, 0, none⟩ = some (.slice (some ⟨g0, 0, none⟩) r.ps.length cap0) := by rw [cell_of_row _ _ _ _ _ _ X1]; rfl
       have i1_1 : W1.cell? ⟨w.heap.size, 1, none⟩ = some (.slice r.ba r.bn r.bc) := by rw [cell_of_row _ _ _ _ _ _ X1]; rfl
       clear hL x1 x2 x3 hb c2 X1)
    | (refine wpList_store_rowC rfl 25 _ _ rfl (w.heap.size + 1) #[.slice (some ⟨g0, 0, none⟩) r.ps.length cap0, .slice (some ⟨g1, 0, none⟩) r.bs.length cap1] rfl rfl 25 _ HZ2.out (by kernel_rfl) rfl (by simp [Value.oneCell']) ?_
       intro W9 c3 X3
       have HL9_0 := Lib.hid (HL2_0.out.chg c3 (fun k hk => by simp; omega))
       have HL9_1 := Lib.hid (HL2_1.out.chg LentB_law c3 (fun k hk => by have := (Array.getElem?_eq_some_iff.1 HZ1.out).1; omega))
       have HX9 := Lib.hid (HX2.out.trans (c3.below (B := w.heap.size) HX2.out.size (fun k hk => by omega)))
       have j0 : W9.cell? ⟨w.heap.size + 1, 0, none⟩ = some (.slice (some ⟨g0, 0, none⟩) r.ps.length cap0) := by rw [cell_of_row _ _ _ _ _ _ X3]; rfl
       have j1 : W9.cell? ⟨w.heap.size + 1, 1, none⟩ = some (.slice (some ⟨g1, 0, none⟩) r.bs.length cap1) := by rw [cell_of_row _ _ _ _ _ _ X3]; rfl
       clear c3 X3))
  refine bodyPost_ret (v := .agg #[.slice (some ⟨g0, 0, none⟩) r.ps.length cap0, .slice (some ⟨g1, 0, none⟩) r.bs.length cap1]) (by simp [results, Tryz.results11, go_sem, j0, j1]) rfl ⟨⟨some ⟨g0, 0, none⟩, r.ps.length, cap0, r.ps, some ⟨g1, 0, none⟩, r.bs.length, cap1, rs1⟩, rfl, ?_, HX9.out⟩
  exact ⟨rfl, H.out.1.1, H.out.2.1.1, HL9_0.out.mono (by simp; omega), HL9_1.out.mono LentB_law (by have := HX1.out.size; omega)⟩
theorem sameFunc_any (r s : FuncR) (w : World) (hd : SDFunc r s) (hr : FuncOK w r) (hs : FuncOK w s) (hna : FuncNA s) :
    Calls Tryz.prog 62 #[funcVR r, funcVR s] w fun e w' => e = .returned (.bool true) ∧ Below w.heap.size w w' := by
  obtain ⟨rpa, rpn, rpc, rps, rba, rbn, rbc, rbs⟩ := r
  obtain ⟨h1, h2, h3⟩ := hd
  obtain rfl : rps = s.ps := h1
  obtain rfl : rbn = s.bn := h2
  have HR := Lib.hid hr
  have HS := Lib.hid hs
  have HSD : Hid (SameEs SDBlk rbs s.bs) := h3
  have HNA := Lib.hid hna.2.2
  clear hr hs hna h3
  obtain ⟨W0, HW0, hR, hS, hW0⟩ := boxes2 w (.cells #[.slice rpa rpn rpc, .slice rba s.bn rbc] 25) (.cells #[.slice s.pa s.pn s.pc, .slice s.ba s.bn s.bc] 25)
  have x0 : ∀ w', Below W0.heap.size W0 w' → w'.cell? ⟨w.heap.size, 0, none⟩ = some (.slice rpa rpn rpc) := fun w' hb => by rw [cell_of_row _ _ _ _ _ _ (block_ext hb hR)]; rfl
  have x1 : ∀ w', Below W0.heap.size W0 w' → w'.cell? ⟨w.heap.size, 1, none⟩ = some (.slice rba s.bn rbc) := fun w' hb => by rw [cell_of_row _ _ _ _ _ _ (block_ext hb hR)]; rfl
  have y0 : ∀ w', Below W0.heap.size W0 w' → w'.cell? ⟨w.heap.size + 1, 0, none⟩ = some (.slice s.pa s.pn s.pc) := fun w' hb => by rw [cell_of_row _ _ _ _ _ _ (block_ext hb hS)]; rfl
  have y1 : ∀ w', Below W0.heap.size W0 w' → w'.cell? ⟨w.heap.size + 1, 1, none⟩ = some (.slice s.ba s.bn s.bc) := fun w' hb => by rw [cell_of_row _ _ _ _ _ _ (block_ext hb hS)]; rfl
  have E0 : Below W0.heap.size W0 W0 := Below.refl _ _
  clear hR hS
  go_enter Tryz.func62, Tryz.ntmps62
  go_wp2_with (first
    | (go_at_call 118
       refine (sameBlocks_any rba s.ba s.bn rbc s.bc rbs s.bs w1 ((HR.out.2.ext HW0.out).ext E1) ((HS.out.2.ext HW0.out).ext E1) HSD.out HNA.out).mono ?_
       rintro e w2 ⟨rfl, hb2⟩
       have E2 : Below W0.heap.size W0 w2 := ext_trans E1 hb2)
    | (go_at_call 44
       refine (sameInts_any rpa s.pa rpn s.pn rpc s.pc s.ps s.ps W0 ((HR.out.1.ext HW0.out).ext E0) ((HS.out.1.ext HW0.out).ext E0)).mono ?_
       rw [decide_eq_true rfl]
       rintro e w1 ⟨rfl, q1, hq1⟩
       have E1 : Below W0.heap.size W0 w1 := by rw [hq1]; exact ext_drewN E0 q1
       clear hq1))
  go_ret
  exact ⟨rfl, ext_trans HW0.out E2⟩
theorem keptFunc_any (r s : FuncR) (base : Nat) (w : World) (h : LentFn w base s r) (hs : FuncOK w s) (hn : FuncNA s) :
    Calls Tryz.prog 21 #[funcVR r, funcVR s] w fun e w' => e = .returned (.bool true) ∧ Below w.heap.size w w' := by
  obtain ⟨rpa, rpn, rpc, rps, rba, rbn, rbc, rbs⟩ := r
  obtain ⟨g, cap, e⟩ := h.2.2.2.2.form
  injection e with e1 e2 e3
  obtain rfl : rba = some ⟨g, 0, none⟩ := e1
  obtain rfl : rbc = cap := e3
  obtain rfl : rbn = s.bn := h.2.2.1
  clear e2
  have HR := Lib.hid (h.ok hs hn)
  have HS := Lib.hid hs
  have HH := Lib.hid h
  have HN := Lib.hid hn
  have HD := Lib.hid h.sd
  clear hs h hn
  obtain ⟨W0, HW0, hR, hS, hW0⟩ := boxes2 w (.cells #[.slice rpa rpn rpc, .slice (some ⟨g, 0, none⟩) s.bn rbc] 25) (.cells #[.slice s.pa s.pn s.pc, .slice s.ba s.bn s.bc] 25)
  have x0 : ∀ w', Below W0.heap.size W0 w' → w'.cell? ⟨w.heap.size, 0, none⟩ = some (.slice rpa rpn rpc) := fun w' hb => by rw [cell_of_row _ _ _ _ _ _ (block_ext hb hR)]; rfl
  have x1 : ∀ w', Below W0.heap.size W0 w' → w'.cell? ⟨w.heap.size, 1, none⟩ = some (.slice (some ⟨g, 0, none⟩) s.bn rbc) := fun w' hb => by rw [cell_of_row _ _ _ _ _ _ (block_ext hb hR)]; rfl
  have y0 : ∀ w', Below W0.heap.size W0 w' → w'.cell? ⟨w.heap.size + 1, 0, none⟩ = some (.slice s.pa s.pn s.pc) := fun w' hb => by rw [cell_of_row _ _ _ _ _ _ (block_ext hb hS)]; rfl
  have y1 : ∀ w', Below W0.heap.size W0 w' → w'.cell? ⟨w.heap.size + 1, 1, none⟩ = some (.slice s.ba s.bn s.bc) := fun w' hb => by rw [cell_of_row _ _ _ _ _ _ (block_ext hb hS)]; rfl
  have E0 : Below W0.heap.size W0 W0 := Below.refl _ _
  clear hR hS
  go_enter Tryz.func21, Tryz.ntmps21
  go_wp2_with (first
    | (go_at_call 64
       refine (keptBlocks_any base _ _ s.ba s.bn s.bc s.bs rbs w2 (LentFn_law.ext (LentFn_law.ext HH.out HW0.out) E2).2.2.2.2 ((HS.out.ext HW0.out).ext E2).2 HN.out.2.1 HN.out.2.2).mono ?_
       rintro e w3 ⟨rfl, hb3⟩
       have E3 : Below W0.heap.size W0 w3 := ext_trans E2 hb3)
    | (go_at_call 63
       refine (keptInts_any base _ s.pa s.pn s.pc s.ps w1 (LentFn_law.ext (LentFn_law.ext HH.out HW0.out) E1).2.2.2.1 ((HS.out.ext HW0.out).ext E1).1 HN.out.1).mono ?_
       rintro e w2 ⟨rfl, q2, hq2⟩
       have E2 : Below W0.heap.size W0 w2 := by rw [hq2]; exact ext_drewN E1 q2
       clear hq2)
    | (go_at_call 62
       refine (sameFunc_any ⟨rpa, rpn, rpc, rps, some ⟨g, 0, none⟩, s.bn, rbc, rbs⟩ s W0 HD.out (HR.out.ext HW0.out) (HS.out.ext HW0.out) HN.out).mono ?_
       rintro e w1 ⟨rfl, E1⟩))
  go_ret
  exact ⟨rfl, ext_trans HW0.out E3⟩
end

section
open Go.RowKit
structure FIn (e eo : TypeId) (size base K : Nat) (vo : Value) (rv : Nat → Value) (L : Nat → Nat) (w : World) : Prop where
  outer : w.ownsRow base eo 1 vo K ((List.range K).map rv)
  rows : ∀ j, j < K → ∃ X, w.ownsRow base e size (rv j) (L j) X
  sep : ∀ i j, i < K → j < K → i ≠ j → SepF (rv i) (rv j)
def SB (K : Nat) (rv : Nat → Value) : Nat → Prop := fun g => ∃ j, j < K ∧ (rv j).ownBlock = some g
structure FA (e eo : TypeId) (size : Nat) (mk : Nat → Nat → List Value) (base K : Nat) (vo : Value) (rv : Nat → Value) (L : Nat → Nat) (w0 : World) (k i : Nat) (w : World) : Prop where
  outer : w.ownsRow base eo 1 vo K ((List.range K).map rv)
  rows : ∀ j, j < K → ∃ X, w.ownsRow base e size (rv j) (L j) X ∧ (j < k → X = mrow mk j (L j)) ∧ (j = k → X.take (i * size) = mrow mk k i)
  chg : Chg (SB K rv) w0 w
structure FB (e eo : TypeId) (size : Nat) (mk : Nat → Nat → List Value) (base K : Nat) (vo : Value) (rv : Nat → Value) (L : Nat → Nat) (w0 : World) (G k : Nat) (gv : Nat → Value) (w : World) : Prop where
  outer : w.ownsRow base eo 1 vo K ((List.range K).map rv)
  rows : ∀ j, j < K → w.ownsRow base e size (rv j) (L j) (mrow mk j (L j))
  gs : w.ownsRow base eo 1 (.slice (some ⟨G, 0, none⟩) K K) K ((List.range K).map fun j => if j < k then gv j else .slice none 0 0)
  gne : vo.ownBlock ≠ some G
  gnew : w0.heap.size ≤ G
  grow : ∀ j, j < k → w.ownsRow base e size (gv j) (L j + 64) (mrow mk j (L j + 64))
  sep1 : ∀ i j, i < K → j < k → i ≠ j → SepF (rv i) (gv j)
  chg : Chg (SB K rv) w0 w
structure FBi (e eo : TypeId) (size : Nat) (mk : Nat → Nat → List Value) (base K : Nat) (vo : Value) (rv : Nat → Value) (L : Nat → Nat) (w0 : World) (G k i : Nat) (gv : Nat → Value) (g : Value) (w : World) : Prop where
  fb : FB e eo size mk base K vo rv L w0 G k gv w
  row : w.ownsRow base e size g (L k + i) (mrow mk k (L k + i))
  s1 : ∀ j, j < K → j ≠ k → SepF (rv j) g
  s2 : ∀ j, j < k → SepF (gv j) g
  blk : ∀ b, g.ownBlock = some b → SB K rv b ∨ w0.heap.size ≤ b
structure FD (e eo : TypeId) (size : Nat) (mk : Nat → Nat → List Value) (base K : Nat) (vo : Value) (rv : Nat → Value) (L : Nat → Nat) (w0 : World) (G k : Nat) (gl : Nat → Value) (w : World) : Prop where
  outer : w.ownsRow base eo 1 vo K ((List.range K).map rv)
  rows : ∀ j, j < K → w.ownsRow base e size (rv j) (L j) (mrow mk j (L j))
  gs : w.ownsRow base eo 1 (.slice (some ⟨G, 0, none⟩) K K) K ((List.range K).map gl)
  gne : vo.ownBlock ≠ some G
  gnew : w0.heap.size ≤ G
  grow : ∀ j, j < k → ∃ Z, w.ownsRow base e size (gl j) (L j + 64) (mrow mk j (L j) ++ Z)
  sep1 : ∀ i j, i < K → j < k → i ≠ j → SepF (rv i) (gl j)
  chg : Chg (SB K rv) w0 w
structure FDi (e eo : TypeId) (size : Nat) (mk : Nat → Nat → List Value) (base K : Nat) (vo : Value) (rv : Nat → Value) (L : Nat → Nat) (w0 : World) (G k : Nat) (gl : Nat → Value) (M : Nat) (w : World) : Prop where
  fd : FD e eo size mk base K vo rv L w0 G k gl w
  many : ∃ Y, w.ownsRow base e size (.slice (some ⟨M, 0, none⟩) 64 64) 64 Y ∧ ∀ u ∈ Y, u.oneCell' = true
  m1 : ∀ j, j < K → (rv j).ownBlock ≠ some M
  m2 : ∀ j, j < k → (gl j).ownBlock ≠ some M
  mnew : w0.heap.size ≤ M
section
variable {e eo : TypeId} {size : Nat} {mk : Nat → Nat → List Value} {base K : Nat} {vo : Value} {rv : Nat → Value} {L : Nat → Nat} {w0 w : World} {G k i : Nat} {gv gl : Nat → Value} {g : Value}
theorem FIn.start (h : FIn e eo size base K vo rv L w0) : FA e eo size mk base K vo rv L w0 0 0 w0 :=
  ⟨h.outer, fun j hj => by
    obtain ⟨X, hX⟩ := h.rows j hj
    exact ⟨X, hX, fun h => absurd h (by omega), fun _ => by simp [mrow]⟩, Chg.refl _ _⟩
theorem FA.drewN (h : FA e eo size mk base K vo rv L w0 k i w) (q : Nat) : FA e eo size mk base K vo rv L w0 k i (w.drewN q) := ⟨h.outer, h.rows, h.chg.drewN q⟩
theorem FA.next (h : FA e eo size mk base K vo rv L w0 k (L k) w) : FA e eo size mk base K vo rv L w0 (k + 1) 0 w :=
  ⟨h.outer, fun j hj => by
    obtain ⟨X, hX, h1, h2⟩ := h.rows j hj
    refine ⟨X, hX, fun hlt => ?_, fun _ => by simp [mrow]⟩
    by_cases hjk : j = k
    · have := h2 hjk
      subst hjk
      rwa [List.take_of_length_le (by rw [hX.1]; exact Nat.le_refl _)] at this
    · exact h1 (by omega), h.chg⟩
theorem FA.row (h : FA e eo size mk base K vo rv L w0 k i w) (hk : k < K) : ∃ a c, rv k = .slice a (L k) c ∧ L k ≤ c ∧ c ≤ maxLen := by
  obtain ⟨X, hX, _⟩ := h.rows k hk
  rcases hX.2 with ⟨e1, e2⟩ | ⟨g, cap, cur, e1, _, _, h1, h2, _⟩
  · exact ⟨none, 0, by rw [e1, e2], by omega, by omega⟩
  · exact ⟨_, cap, e1, h1, h2⟩
theorem FA.cell (h : FA e eo 1 mk base K vo rv L w0 k i w) (hk : k < K) (hi : i < L k) :
    ∃ b cap, rv k = .slice (some ⟨b, 0, none⟩) (L k) cap ∧ cap ≤ maxLen ∧ L k ≤ cap ∧ (∃ u, w.cell? ⟨b, i, none⟩ = some u) ∧ w.frozen? ⟨b, i, none⟩ = false ∧ b < w.heap.size := by
  obtain ⟨X, hX, _⟩ := h.rows k hk
  rcases hX.2 with ⟨e1, e2⟩ | ⟨b, cap, cur, e1, _, hh, h1, h2, h3, h4⟩
  · omega
  · rw [e1] at hX
    refine ⟨b, cap, e1, h2, h1, ?_, World.ownsRow.frozenAt hX i, (Array.getElem?_eq_some_iff.1 hh).1⟩
    rw [World.ownsRow.cellAt hX i (by omega)]
    exact ⟨X[i]'(by rw [hX.1]; omega), List.getElem?_eq_getElem _⟩
theorem FA.store (h : FA e eo 1 mk base K vo rv L w0 k i w) (hne : e ≠ eo) (hsep : ∀ i j, i < K → j < K → i ≠ j → SepF (rv i) (rv j)) (hk : k < K) (hi : i < L k) {b cap : Nat} (hb : rv k = .slice (some ⟨b, 0, none⟩) (L k) cap) (u : Value) (hu : mk k i = [u]) :
    FA e eo 1 mk base K vo rv L w0 k (i + 1) (w.setCell ⟨b, i, none⟩ u) := by
  obtain ⟨X, hX, hX1, hX2⟩ := h.rows k hk
  rw [hb] at hX
  obtain ⟨hs, hg⟩ := World.ownsRow.stored hX i u
  have hkb : (rv k).ownBlock = some b := by rw [hb]; rfl
  refine ⟨h.outer.kept hg (.inr (fun e => ?_)), fun j hj => ?_, h.chg.setCell (.inl ⟨k, hk, hkb⟩) u⟩
  · exact rows_ne hX h.outer hne b rfl e
  · by_cases hjk : j = k
    · subst hjk
      refine ⟨X.set i u, by rw [hb]; exact hs, fun hlt => absurd hlt (by omega), fun _ => ?_⟩
      have hlen : i < X.length := by rw [hX.1]; omega
      have := hX2 rfl
      rw [Nat.mul_one] at this ⊢
      rw [mrow_snoc, hu, ← this, List.take_set, List.take_add_one, List.set_append, if_neg (by simp; omega), List.getElem?_eq_getElem hlen]
      simp [Nat.min_eq_left (Nat.le_of_lt hlen)]
    · obtain ⟨Y, hY, hY1, hY2⟩ := h.rows j hj
      refine ⟨Y, hY.kept hg (.inr (fun e => hsep k j hk hj (fun h => hjk h.symm) b hkb e)), hY1, fun e => absurd e hjk⟩
theorem FA.made (h : FA e eo size mk base K vo rv L w0 K 0 w) {w' : World} (hg : w.grownBy w' none) (hm : w'.ownsRow base eo 1 (.slice (some ⟨w.heap.size, 0, none⟩) K K) K (List.replicate K (.slice none 0 0))) :
    FB e eo size mk base K vo rv L w0 w.heap.size 0 (fun _ => .slice none 0 0) w' := by
  have kp : ∀ {base : Nat} {e : TypeId} {size : Nat} {v : Value} {n : Nat} {xs : List Value}, w.ownsRow base e size v n xs → w'.ownsRow base e size v n xs := fun {_ _ _ v _ _} h => h.kept hg (by
    cases hv : v.ownBlock with
    | none => exact .inl rfl
    | some b => exact .inr (fun e => by cases e))
  refine ⟨kp h.outer, fun j hj => ?_, ?_, ?_, h.chg.size, fun j hj => absurd hj (by omega), fun i j _ hj => absurd hj (by omega), h.chg.grown hg (fun k e => by cases e)⟩
  · obtain ⟨X, hX, h1, _⟩ := h.rows j hj
    rw [← h1 hj]
    exact kp hX
  · have : ((List.range K).map fun j => if j < 0 then (Value.slice none 0 0) else .slice none 0 0) = List.replicate K (.slice none 0 0) := by
      refine List.ext_getElem (by simp) fun i h1 h2 => by simp
    rw [this]
    exact hm
  · intro e
    have := (row_lt h.outer _ e).2
    omega
theorem FB.start (h : FB e eo size mk base K vo rv L w0 G k gv w) (hsep : ∀ i j, i < K → j < K → i ≠ j → SepF (rv i) (rv j)) (hk : k < K) : FBi e eo size mk base K vo rv L w0 G k 0 gv (rv k) w :=
  ⟨h, h.rows k hk, fun j hj hne => hsep j k hj hk hne, fun j hj => (h.sep1 k j hk hj (by omega)).symm, fun b hb => .inl ⟨k, hk, hb⟩⟩
theorem FB.row (h : FB e eo size mk base K vo rv L w0 G k gv w) {j : Nat} (hj : j < K) : ∃ a c, rv j = .slice a (L j) c ∧ L j ≤ c ∧ c ≤ maxLen := by
  rcases (h.rows j hj).2 with ⟨e1, e2⟩ | ⟨g, cap, cur, e1, _, _, h1, h2, _⟩
  · exact ⟨none, 0, by rw [e1, e2], by omega, by omega⟩
  · exact ⟨_, cap, e1, h1, h2⟩
theorem FBi.step (h : FBi e eo size mk base K vo rv L w0 G k i gv g w) (hne : e ≠ eo) (hk : k < K) {g' : Value} {w' : World} {b' H : Nat} (hrow : w'.ownsRow base e size g' (L k + i + 1) (mrow mk k (L k + i) ++ mk k (L k + i)))
    (hg : w.grownBy w' g.ownBlock) (hb' : g'.ownBlock = some b') (hat : some b' = g.ownBlock ∨ b' = H) (hH : w.heap.size ≤ H) (hkeep : KeepR e size g (L k + i) w w') : FBi e eo size mk base K vo rv L w0 G k (i + 1) gv g' w' := by
  have oth : ∀ {v : Value} {xs : List Value}, w.ownsRow base eo 1 v K xs → w'.ownsRow base eo 1 v K xs := fun {v xs} ho => ho.kept hg (by
    cases hv : v.ownBlock with
    | none => exact .inl rfl
    | some b => exact .inr (fun e => rows_ne ho h.row (fun h => hne h.symm) b hv e.symm))
  have hrw : ∀ j, j < K → w'.ownsRow base e size (rv j) (L j) (mrow mk j (L j)) := fun j hj => hkeep _ _ _ _ (h.fb.rows j hj) (fun b h1 h2 => by
    by_cases hjk : j = k
    · subst hjk; omega
    · exact absurd h2 (h.s1 j hj hjk b h1))
  have hgr : ∀ j, j < k → w'.ownsRow base e size (gv j) (L j + 64) (mrow mk j (L j + 64)) := fun j hj => hkeep _ _ _ _ (h.fb.grow j hj) (fun b h1 h2 => absurd h2 (h.s2 j hj b h1))
  have sp : ∀ {v : Value}, SepF v g → (∀ b, v.ownBlock = some b → b < w.heap.size) → SepF v g' := fun {v} hs hlt b h1 h2 => by
    rw [hb'] at h2
    injection h2 with h2
    subst h2
    rcases hat with hat | hat
    · exact hs _ h1 hat.symm
    · have := hlt _ h1
      omega
  refine ⟨⟨oth h.fb.outer, hrw, oth h.fb.gs, h.fb.gne, h.fb.gnew, hgr, h.fb.sep1, h.fb.chg.grown hg h.blk⟩, ?_, ?_, ?_, ?_⟩
  · have := mrow_snoc mk k (L k + i)
    rw [← this] at hrow
    exact hrow
  · intro j hj hjk
    exact sp (h.s1 j hj hjk) (fun b hb => (row_lt (h.fb.rows j hj) b hb).2)
  · intro j hj
    exact sp (h.s2 j hj) (fun b hb => (row_lt (h.fb.grow j hj) b hb).2)
  · intro b hb
    rw [hb'] at hb
    injection hb with hb
    subst hb
    rcases hat with hat | hat
    · exact h.blk _ hat.symm
    · have := h.fb.chg.size
      exact .inr (by omega)
theorem FBi.fin (h : FBi e eo size mk base K vo rv L w0 G k 64 gv g w) (hne : e ≠ eo) (hk : k < K) : FB e eo size mk base K vo rv L w0 G (k + 1) (fun j => if j = k then g else gv j) (w.setCell ⟨G, k, none⟩ g) := by
  obtain ⟨hs, hg⟩ := World.ownsRow.stored h.fb.gs k g
  have oth : ∀ {v : Value} {n : Nat} {xs : List Value}, w.ownsRow base e size v n xs → (w.setCell ⟨G, k, none⟩ g).ownsRow base e size v n xs := fun {v n xs} ho => ho.kept hg (by
    cases hv : v.ownBlock with
    | none => exact .inl rfl
    | some b => exact .inr (fun e => rows_ne ho h.fb.gs hne b hv (by rw [e]; rfl)))
  refine ⟨h.fb.outer.kept hg (.inr h.fb.gne), fun j hj => oth (h.fb.rows j hj), ?_, h.fb.gne, h.fb.gnew, fun j hj => ?_, fun i j hi hj hij => ?_, h.fb.chg.setCell (.inr h.fb.gnew) g⟩
  · rw [range_map_set] at hs
    have : (fun j => if j = k then g else if j < k then gv j else (Value.slice none 0 0)) = (fun j => if j < k + 1 then (if j = k then g else gv j) else .slice none 0 0) := by
      funext j
      by_cases h1 : j = k
      · subst h1; simp
      · by_cases h2 : j < k
        · simp [h1, h2, show j < k + 1 by omega]
        · simp [h1, h2, show ¬ j < k + 1 by omega]
    rw [this] at hs
    exact hs
  · by_cases hjk : j = k
    · subst hjk
      simp only [if_true]
      exact oth h.row
    · simp only [hjk, if_false]
      exact oth (h.fb.grow j (by omega))
  · by_cases hjk : j = k
    · subst hjk
      simp only [if_true]
      exact h.s1 i hi hij
    · simp only [hjk, if_false]
      exact h.fb.sep1 i j hi (by omega) hij
theorem FB.outs (h : FB e eo size mk base K vo rv L w0 G k gv w) {j : Nat} (hj : j < K) : ∃ O c, vo = .slice (some ⟨O, 0, none⟩) K c ∧ w.cell? ⟨O, j, none⟩ = some (rv j) ∧ w.cell? ⟨G, j, none⟩ = some (if j < k then gv j else .slice none 0 0) ∧ w.frozen? ⟨G, j, none⟩ = false := by
  rcases h.outer.2 with ⟨_, e2⟩ | ⟨O, c, cur, e1, _⟩
  · omega
  · have ho := h.outer
    rw [e1] at ho
    refine ⟨O, c, e1, ?_, ?_, World.ownsRow.frozenAt h.gs j⟩
    · rw [World.ownsRow.cellAt ho j (by omega)]
      simp [hj]
    · rw [World.ownsRow.cellAt h.gs j (by omega)]
      simp [hj]
theorem FA.outs (h : FA e eo size mk base K vo rv L w0 k i w) {j : Nat} (hj : j < K) : ∃ O c, vo = .slice (some ⟨O, 0, none⟩) K c ∧ w.cell? ⟨O, j, none⟩ = some (rv j) := by
  rcases h.outer.2 with ⟨_, e2⟩ | ⟨O, c, cur, e1, _⟩
  · omega
  · have ho := h.outer
    rw [e1] at ho
    refine ⟨O, c, e1, ?_⟩
    rw [World.ownsRow.cellAt ho j (by omega)]
    simp [hj]
theorem row_cell {w : World} {base : Nat} {e : TypeId} {v : Value} {n : Nat} {xs : List Value} (h : w.ownsRow base e 1 v n xs) {i : Nat} (hi : i < n) {u : Value} (hu : xs[i]? = some u) :
    ∃ b c, v = .slice (some ⟨b, 0, none⟩) n c ∧ w.cell? ⟨b, i, none⟩ = some u := by
  rcases h.2 with ⟨_, e2⟩ | ⟨b, c, cur, rfl, _⟩
  · omega
  · exact ⟨b, c, rfl, by rw [World.ownsRow.cellAt h i (by omega)]; exact hu⟩
theorem FB.toD (h : FB e eo size mk base K vo rv L w0 G K gv w) : FD e eo size mk base K vo rv L w0 G 0 (fun j => if j < K then gv j else .slice none 0 0) w :=
  ⟨h.outer, h.rows, h.gs, h.gne, h.gnew, fun j hj => absurd hj (by omega), fun i j _ hj => absurd hj (by omega), h.chg⟩
theorem FD.drewN (h : FD e eo size mk base K vo rv L w0 G k gl w) (q : Nat) : FD e eo size mk base K vo rv L w0 G k gl (w.drewN q) := ⟨h.outer, h.rows, h.gs, h.gne, h.gnew, h.grow, h.sep1, h.chg.drewN q⟩
theorem FD.made (h : FD e eo size mk base K vo rv L w0 G k gl w) {w' : World} (hg : w.grownBy w' none) {Y : List Value} (hm : w'.ownsRow base e size (.slice (some ⟨w.heap.size, 0, none⟩) 64 64) 64 Y) (hY : ∀ u ∈ Y, u.oneCell' = true) (hk : k ≤ K) :
    FDi e eo size mk base K vo rv L w0 G k gl w.heap.size w' := by
  have kp : ∀ {base : Nat} {e : TypeId} {size : Nat} {v : Value} {n : Nat} {xs : List Value}, w.ownsRow base e size v n xs → w'.ownsRow base e size v n xs := fun {_ _ _ v _ _} h => h.kept hg (by
    cases hv : v.ownBlock with
    | none => exact .inl rfl
    | some b => exact .inr (fun e => by cases e))
  refine ⟨⟨kp h.outer, fun j hj => kp (h.rows j hj), kp h.gs, h.gne, h.gnew, fun j hj => ?_, h.sep1, h.chg.grown hg (fun k e => by cases e)⟩, ⟨Y, hm, hY⟩, fun j hj e => ?_, fun j hj e => ?_, h.chg.size⟩
  · obtain ⟨Z, hZ⟩ := h.grow j hj
    exact ⟨Z, kp hZ⟩
  · have := (row_lt (h.rows j hj) _ e).2
    omega
  · obtain ⟨Z, hZ⟩ := h.grow j hj
    have := (row_lt hZ _ e).2
    omega
theorem FDi.set_ {M : Nat} (h : FDi e eo size mk base K vo rv L w0 G k gl M w) (hne : e ≠ eo) (i : Nat) (u : Value) (hu : u.oneCell' = true) : FDi e eo size mk base K vo rv L w0 G k gl M (w.setCell ⟨M, i, none⟩ u) := by
  obtain ⟨Y, hY, hY1⟩ := h.many
  obtain ⟨hs, hg⟩ := World.ownsRow.stored hY i u
  refine ⟨⟨h.fd.outer.kept hg (.inr (fun e => rows_ne hY h.fd.outer hne M rfl e)), fun j hj => (h.fd.rows j hj).kept hg (.inr (h.m1 j hj)), h.fd.gs.kept hg (.inr (fun e => rows_ne hY h.fd.gs hne M rfl e)), h.fd.gne, h.fd.gnew, fun j hj => ?_, h.fd.sep1, h.fd.chg.setCell (.inr h.mnew) u⟩, ⟨_, hs, fun v hv => ?_⟩, h.m1, h.m2, h.mnew⟩
  · obtain ⟨Z, hZ⟩ := h.fd.grow j hj
    exact ⟨Z, hZ.kept hg (.inr (h.m2 j hj))⟩
  · rcases List.mem_or_eq_of_mem_set hv with hv | hv
    · exact hY1 v hv
    · rw [hv]; exact hu
theorem FDi.fin {M : Nat} (h : FDi e eo size mk base K vo rv L w0 G k gl M w) (hne : e ≠ eo) (hsep : ∀ i j, i < K → j < K → i ≠ j → SepF (rv i) (rv j)) (hk : k < K) {v' : Value} {w' : World} {Y : List Value} (hrow : w'.ownsRow base e size v' (L k + 64) (mrow mk k (L k) ++ Y))
    (hg : w.grownBy w' (rv k).ownBlock) (hat : v'.ownBlock = (rv k).ownBlock ∨ v'.ownBlock = some w.heap.size) (hkeep : KeepR e size (rv k) (L k) w w') : FD e eo size mk base K vo rv L w0 G (k + 1) (fun j => if j = k then v' else gl j) (w'.setCell ⟨G, k, none⟩ v') := by
  have oth : ∀ {v : Value} {xs : List Value}, w.ownsRow base eo 1 v K xs → w'.ownsRow base eo 1 v K xs := fun {v xs} ho => ho.kept hg (by
    cases hv : v.ownBlock with
    | none => exact .inl rfl
    | some b => exact .inr (fun e => rows_ne ho (h.fd.rows k hk) (fun h => hne h.symm) b hv e.symm))
  obtain ⟨hs, hg2⟩ := World.ownsRow.stored (oth h.fd.gs) k v'
  have oth2 : ∀ {v : Value} {n : Nat} {xs : List Value}, w'.ownsRow base e size v n xs → (w'.setCell ⟨G, k, none⟩ v').ownsRow base e size v n xs := fun {v n xs} ho => ho.kept hg2 (by
    cases hv : v.ownBlock with
    | none => exact .inl rfl
    | some b => exact .inr (fun e => rows_ne ho (oth h.fd.gs) hne b hv (by rw [e]; rfl)))
  refine ⟨(oth h.fd.outer).kept hg2 (.inr h.fd.gne), fun j hj => oth2 (hkeep _ _ _ _ (h.fd.rows j hj) (fun b h1 h2 => ?_)), ?_, h.fd.gne, h.fd.gnew, fun j hj => ?_, fun i j hi hj hij => ?_, (h.fd.chg.grown hg (fun b hb => .inl ⟨k, hk, hb⟩)).setCell (.inr h.fd.gnew) v'⟩
  · by_cases hjk : j = k
    · subst hjk; exact Nat.le_refl _
    · exact absurd h2 (hsep j k hj hk hjk b h1)
  · rw [range_map_set] at hs
    exact hs
  · by_cases hjk : j = k
    · subst hjk
      simp only [if_true]
      exact ⟨Y, oth2 hrow⟩
    · simp only [hjk, if_false]
      obtain ⟨Z, hZ⟩ := h.fd.grow j (by omega)
      exact ⟨Z, oth2 (hkeep _ _ _ _ hZ (fun b h1 h2 => absurd h1 (h.fd.sep1 k j hk (by omega) (fun h => hjk h.symm) b h2)))⟩
  · by_cases hjk : j = k
    · subst hjk
      simp only [if_true]
      intro b h1 h2
      rcases hat with hat | hat
      · exact hsep i j hi hk hij b h1 (by rw [← hat]; exact h2)
      · rw [hat] at h2
        injection h2 with h2
        have := (row_lt (h.fd.rows i hi) b h1).2
        omega
    · simp only [hjk, if_false]
      exact h.fd.sep1 i j hi (by omega) hij
theorem FD.outs (h : FD e eo size mk base K vo rv L w0 G k gl w) {j : Nat} (hj : j < K) : ∃ O c, vo = .slice (some ⟨O, 0, none⟩) K c ∧ w.cell? ⟨O, j, none⟩ = some (rv j) ∧ w.cell? ⟨G, j, none⟩ = some (gl j) ∧ w.frozen? ⟨G, j, none⟩ = false ∧ O < w.heap.size ∧ G < w.heap.size := by
  rcases h.outer.2 with ⟨_, e2⟩ | ⟨O, c, cur, e1, _, hh, _⟩
  · omega
  · have ho := h.outer
    rw [e1] at ho
    refine ⟨O, c, e1, ?_, ?_, World.ownsRow.frozenAt h.gs j, (Array.getElem?_eq_some_iff.1 hh).1, (row_lt h.gs G rfl).2⟩
    · rw [World.ownsRow.cellAt ho j (by omega)]
      simp [hj]
    · rw [World.ownsRow.cellAt h.gs j (by omega)]
      simp [hj]
theorem FD.row (h : FD e eo size mk base K vo rv L w0 G k gl w) {j : Nat} (hj : j < K) : ∃ a c, rv j = .slice a (L j) c ∧ L j ≤ c ∧ c ≤ maxLen := by
  rcases (h.rows j hj).2 with ⟨e1, e2⟩ | ⟨g, cap, cur, e1, _, _, h1, h2, _⟩
  · exact ⟨none, 0, by rw [e1, e2], by omega, by omega⟩
  · exact ⟨_, cap, e1, h1, h2⟩
end
end
end Go.Proofs.YtblhmdhfhaencaaGreat
