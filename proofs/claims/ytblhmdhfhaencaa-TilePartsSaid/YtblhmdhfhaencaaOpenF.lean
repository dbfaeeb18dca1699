/-
 TileParts, its own walk.
-/
import Derived.Test.YtblhmdhfhaencaaWC
import Derived.Test.YtblhmdhfhaencaaEA
import Derived.Test.YtblhmdhfhaencaaVC
import Derived.Test.YtblhmdhfhaencaaVA
import Derived.Test.YtblhmdhfhaencaaTX
import Derived.Test.YtblhmdhfhaencaaTV
import Derived.Test.YtblhmdhfhaencaaTN
import Derived.Test.YtblhmdhfhaencaaTW
import Derived.Test.YtblhmdhfhaencaaEQ
import Derived.Test.YtblhmdhfhaencaaRows
import Derived.WalkKit
import Derived.ProofKit
import Derived.OpenShut
import Derived.ShutString
import Derived.ChangeOld
import Derived.Below
import Derived.SizedLaws
import Derived.Lib.SmallJoins
import Derived.Test.YtblhmdhfhaencaaEK
import Derived.Test.YtblhmdhfhaencaaEC
import Derived.Deep.Slices
namespace Go.Proofs.Ytblhmdhfhaencaa
set_option linter.unusedSimpArgs false
set_option linter.unusedVariables false
set_option linter.unusedSectionVars false
set_option maxRecDepth 100000
set_option maxHeartbeats 40000000
section
open Go.RowKit Go.Shelf
attribute [local go_sem] Oper.semAt_some wide_fn wide_depth wide_fnR wide_depthR

theorem tileParts_walk (pa : Option Addr) (pn pc : Nat) (hpn : pn ≤ 17592186044416) (ba : Option Addr) (bn bc : Nat) (xs : List BlkR) (w : World) (h : BlksR w ba bn xs) :
  Calls Try.prog 6 #[funcV pa pn pc ba bn bc] w fun e w' => e = .returned (.bool true) ∧ Below w.heap.size w w' := by
 have HR0 := Lib.hid h
 have HX : Hid (BlksOK w ba bn (hOf xs)) := h.x.1
 clear h
 go_enter Try.func6, Try.ntmps6
 go_upto_region 1 with (fail)
 obtain ⟨W, hW⟩ : ∃ W, W = w.alloc (funcO pa pn pc ba bn bc) := ⟨_, rfl⟩
 rw [← hW]
 have hk0 : W.heap[w.heap.size]? = some (funcO pa pn pc ba bn bc) := by rw [hW]; exact heap_alloc_new _ _
 have hB : Below w.heap.size w W := by rw [hW]; exact ext_alloc _ _
 have HK := Lib.hid hk0
 have HB := Lib.hid hB
 clear hW hk0 hB
 go_upto_region 3 with (
  (go_at_call 20
   (with_reducible refine (awake17_any W).mono ?_)
   rintro e w1 ⟨rfl, hb⟩
   have HK1 := Lib.hid (block_ext hb HK.out)
   have HB1 := Lib.hid (ext_trans HB.out hb)
   clear hb))
 clear HK HB
 go_upto_region 5 with (first
  | ((with_reducible show wpList _ _ _ (⟨some 16, _, _, _, _, _⟩ :: _) _ _); refine wpList_load_rowW (o := ⟨some 16, .load 25 _, _, _, _, _⟩) (by kernel_rfl) 25 _ rfl w.heap.size rfl 25 _ (0, 0) _ HK1.out Try.underlying25 rfl size_func ?_)
  | (go_at_call 21
     refine (great17_any2 pa pn pc hpn ba bn bc xs none 0 0 [] w1 (HR0.out.ext HB1.out) ⟨Recs.nil 3 tileC w1, by simp⟩).mono ?_
     rintro e w2 ⟨gb, rfl, hb, hgr⟩
     have HK2 := Lib.hid (block_ext hb HK1.out)
     have HB2 := Lib.hid (ext_trans HB1.out hb)
     have HGR := Lib.hid hgr
     clear hb hgr
     cases gb))
 all_goals first | (go_ret; exact ⟨rfl, HB2.out⟩) | skip
 have HBN : Hid (bn ≤ 40 ∨ 200 < bn) := (HGR.out (by trivial)).1
 clear HGR HK1 HB1
 cases hf : fitsB (tsOf (hOf xs)) with
 | false =>
   have HF := Lib.hid hf
   clear hf
   go_wp2_with (first
    | ((with_reducible show wpList _ _ _ (⟨some 19, _, _, _, _, _⟩ :: _) _ _); refine wpList_load_rowW (o := ⟨some 19, .load 25 _, _, _, _, _⟩) (by kernel_rfl) 25 _ rfl w.heap.size rfl 25 _ (0, 0) _ HK2.out Try.underlying25 rfl size_func ?_)
    | (go_at_call 25
       (with_reducible refine (build_any pa pn pc ba bn bc (hOf xs) w2 (HX.out.ext HB2.out) HBN.out).mono ?_)
       rintro e w3 ⟨h0, -, hb⟩
       obtain rfl := h0 HF.out
       have HK3 := Lib.hid (block_ext hb HK2.out)
       have HB3 := Lib.hid (ext_trans HB2.out hb)
       clear h0 hb)
    | ((with_reducible show wpList _ _ _ (⟨some 33, _, _, _, _, _⟩ :: _) _ _); refine wpList_load_rowW (o := ⟨some 33, .load 25 _, _, _, _, _⟩) (by kernel_rfl) 25 _ rfl w.heap.size rfl 25 _ (0, 0) _ HK3.out Try.underlying25 rfl size_func ?_)
    | (go_at_call 11
       (with_reducible refine (tfits_any pa pn pc ba bn bc (hOf xs) w3 (HX.out.ext HB3.out)).mono ?_)
       rintro e w4 ⟨rfl, hb⟩
       rw [HF.out]
       have HB4 := Lib.hid (ext_trans HB3.out hb)
       clear hb))
   go_ret
   exact ⟨rfl, HB4.out⟩
 | true =>
   have HF := Lib.hid hf
   have HG : Hid (goodB (tsOf (hOf xs)) = true) := fits_good hf
   have hbl : (tsOf (hOf xs)).length = bn := by rw [tsOf_len]; exact HX.out.1.1
   have hbn1 : 1 ≤ bn := by have := ((goodB_iff _).1 (fits_facts hf).1).1; omega
   have hbn2 : bn ≤ 200 := by have := ((goodB_iff _).1 (fits_facts hf).1).1; omega
   have HBL := Lib.hid hbl
   clear hf hbl
   go_upto_region 8 with (first
    | ((with_reducible show wpList _ _ _ (⟨some 19, _, _, _, _, _⟩ :: _) _ _); refine wpList_load_rowW (o := ⟨some 19, .load 25 _, _, _, _, _⟩) (by kernel_rfl) 25 _ rfl w.heap.size rfl 25 _ (0, 0) _ HK2.out Try.underlying25 rfl size_func ?_)
    | (go_at_call 25
       (with_reducible refine (build_any pa pn pc ba bn bc (hOf xs) w2 (HX.out.ext HB2.out) HBN.out).mono ?_)
       rintro e w3 ⟨-, h1, hb⟩
       obtain ⟨v, ls, qs, rfl, hok, hti, htd⟩ := h1 HF.out
       obtain ⟨ta, tc, rfl⟩ := hti.own.form
       have HK3 := Lib.hid (block_ext hb HK2.out)
       have HB3 := Lib.hid (ext_trans HB2.out hb)
       have HT := Lib.hid hti.ok
       have HR : Hid (rightB (tsOf (hOf xs)) (tdOf ls) = true) := (by rw [Hid, htd]; exact build_rightK HF.out hok)
       have HTT : Hid ((tdOf ls).length ≤ bn ∧ totL (tdOf ls) ≤ 40000) := (by rw [Hid, htd]; have := tilesP_tot HF.out hok; rw [HBL.out] at this ⊢; exact this)
       clear h1 hb hok hti htd))
   obtain ⟨n, hn⟩ : ∃ n, n = ls.length := ⟨_, rfl⟩
   rw [← hn] at HT ⊢
   have HLL : Hid ((tdOf ls).length = n) := by rw [Hid, tdOf_len, hn]
   have hnb : n ≤ bn := by have := HTT.out.1; rw [HLL.out] at this; exact this
   have HOB : Hid (ownB (tdOf ls) bn = true) := by rw [Hid, ← HBL.out]; exact (right_facts HR.out).2.2.2.1
   have hn1 : 1 ≤ n := by have := (own_lt2 HOB.out hbn1).1; rw [HLL.out] at this; omega
   have HTOT : Hid (totL (tdOf ls) ≤ 40000) := HTT.out.2
   clear hn HTT HK2 HB2 HBN
   go_upto_region 9 with (first
    | ((with_reducible show wpList _ _ _ (⟨some 38, _, _, _, _, _⟩ :: _) _ _); refine wpList_load_rowW (o := ⟨some 38, .load 25 _, _, _, _, _⟩) (by kernel_rfl) 25 _ rfl w.heap.size rfl 25 _ (0, 0) _ HK3.out Try.underlying25 rfl size_func ?_)
    | (go_at_call 10
       (with_reducible refine (town_any pa pn pc ba bn bc (hOf xs) ta n tc ls w3 (HX.out.ext HB3.out) HT.out).mono ?_)
       rintro e w4 ⟨v, en, rfl, hb, h0, h1, h2⟩
       obtain ⟨rfl, g, oc, rfl, hown⟩ := h2 HF.out HOB.out
       have HK4 := Lib.hid (block_ext hb HK3.out)
       have HB4 := Lib.hid (ext_trans HB3.out hb)
       have HT4 := Lib.hid (HT.out.ext hb)
       have HOWN := Lib.hid hown.ints
       clear hb h0 h1 h2 hown))
   clear HK3 HB3 HT
   have hnb' : (n : Int) ≤ (bn : Int) := by omega
   have hnb9 : ¬ (bn : Int) < (n : Int) := by omega
   have hnb8 : decide (bn < n) = false := by simp; omega
   go_upto_region 11 with (first
    | ((with_reducible show wpList _ _ _ (⟨some 43, _, _, _, _, _⟩ :: _) _ _); refine wpList_load_rowW (o := ⟨some 43, .load 25 _, _, _, _, _⟩) (by kernel_rfl) 25 _ rfl w.heap.size rfl 25 _ (0, 0) _ HK4.out Try.underlying25 rfl size_func ?_)
    | (go_at_call 11
       (with_reducible refine (tfits_any pa pn pc ba bn bc (hOf xs) w4 (HX.out.ext HB4.out)).mono ?_)
       rintro e w5 ⟨rfl, hb⟩
       rw [HF.out]
       have HK5 := Lib.hid (block_ext hb HK4.out)
       have HB5 := Lib.hid (ext_trans HB4.out hb)
       have HT5 := Lib.hid (HT4.out.ext hb)
       have HOWN5 := Lib.hid (HOWN.out.ext hb)
       clear hb)
    | ((with_reducible show wpList _ _ _ (⟨some 47, _, _, _, _, _⟩ :: _) _ _); refine wpList_load_rowW (o := ⟨some 47, .load 25 _, _, _, _, _⟩) (by kernel_rfl) 25 _ rfl w.heap.size rfl 25 _ (0, 0) _ HK5.out Try.underlying25 rfl size_func ?_)
    | (go_at_call 12
       (with_reducible refine (tright_any pa pn pc ba bn bc (hOf xs) ta n tc ls w5 (HX.out.ext HB5.out) HT5.out (by have := HTOT.out; omega)).mono ?_)
       rintro e w6 ⟨rfl, hb⟩
       rw [HR.out]
       have HK6 := Lib.hid (block_ext hb HK5.out)
       have HB6 := Lib.hid (ext_trans HB5.out hb)
       have HT6 := Lib.hid (HT5.out.ext hb)
       have HOWN6 := Lib.hid (HOWN5.out.ext hb)
       have kf : w6.cell? ⟨w.heap.size, 1, none⟩ = some (.slice ba bn bc) := (by rw [cell_of_row _ _ _ _ _ _ HK6.out]; rfl)
       clear hb))
   clear kf HK4 HB4 HT4 HOWN HK5 HB5 HT5 HOWN5 hnb' hnb9 hnb8
   obtain ⟨W9, hW9⟩ : ∃ W, W = w6 := ⟨_, rfl⟩
   rw [← hW9] at HK6 HB6 HT6 HOWN6 ⊢
   clear hW9
   go_wp2
   go_loopw [7, 8, 9, 10, 11, 12, 13] (fun s7 _ _ _ _ _ _ wr => ∃ k : Nat, k ≤ n ∧ s7 = .int .i64 k ∧ Hid (Below W9.heap.size W9 wr)) (fun s7 _ _ _ _ _ _ _ => n - (intOf s7).toNat)
   case atStart => exact ⟨0, by omega, rfl, Below.refl _ _⟩
   case round =>
    obtain ⟨k, hk, rfl, HBr⟩ := hrel
    by_cases hkl : k < n
    · have hrd := rd_ok HR.out (k := k) (by rw [HLL.out]; exact hkl)
      have hsi := set_in HR.out (k := k) (by rw [HLL.out]; exact hkl)
      have hli := less_in HR.out (k := k) (by rw [HLL.out]; exact hkl)
      have hsc := set_canon HR.out (k := k) (by rw [HLL.out]; exact hkl)
      have htr := HT6.out.ext HBr.out
      obtain ⟨t, tb, tf, hts, ⟨hin, htc, hik, hip⟩, rfl, ck, cp, cb⟩ := htr.cells hkl
      obtain ⟨⟨kd, pr, bl⟩, tba, tbn, tbc⟩ := t
      rw [blkL, parL, tdOf_at ls k _ hts, HBL.out] at hrd
      dsimp only at hin htc hik hip ck cp cb hrd
      obtain ⟨al, hal⟩ : ∃ x, x = allL (tdOf ls) (k : Int) := ⟨_, rfl⟩
      obtain ⟨en, hen⟩ : ∃ x, x = intsN (entriesS (tsOf (hOf xs)) (setK (tdOf ls) k)) := ⟨_, rfl⟩
      obtain ⟨up, hup⟩ : ∃ x, x = allL (tdOf ls) pr := ⟨_, rfl⟩
      rw [← hal, ← hen, ← hup] at hrd
      rw [← hal] at hsi hli
      have RD := Lib.hid hrd
      have HSI := Lib.hid hsi
      have HLI := Lib.hid hli
      have HSC := Lib.hid hsc
      have HTR := Lib.hid htr
      have HIN := Lib.hid hin
      have HIP := Lib.hid hip
      have HCK := Lib.hid ck
      have HCP := Lib.hid cp
      have HCB := Lib.hid cb
      have HAE := Lib.hid hal
      have HEE := Lib.hid hen
      have HUE := Lib.hid hup
      have HKr := Lib.hid (block_ext HBr.out HK6.out)
      have HXr := Lib.hid (HX.out.ext (ext_trans HB6.out HBr.out))
      have HOr := Lib.hid (HOWN6.out.ext HBr.out)
      have hkl' : (k : Int) < (n : Int) := by omega
      have hkI : I64 (k : Int) := by unfold I64; omega
      have hbl200 : tbn ≤ 40000 := by
       have h1 := blocks_totL (tdOf ls) k ⟨kd, pr, bl⟩ (by rw [tdOf, List.getElem?_map, hts]; rfl)
       have h2 := HTOT.out
       dsimp only at h1
       have := hin.1
       omega
      clear hrd hsi hli hsc htr hin hip ck cp cb hal hen hup hts htc hik
      obtain ⟨Wk, hWk⟩ : ∃ W, W = wr := ⟨_, rfl⟩
      rw [← hWk] at HBr HTR HIN HCK HCP HCB HKr HXr HOr ⊢
      clear hWk HT6 HOWN6 HK6 HX HR HOB HR0
      go_upto_region 16 with (first
       | (go_at_call 22
          (with_reducible refine (all_any (some ⟨tb, tf, none⟩) n tc ls (k : Int) Wk HTR.out hkI (by have := HTOT.out; omega)).mono ?_)
          rintro e w7 ⟨v, rfl, ho, hb⟩
          rw [← HAE.out] at ho
          obtain ⟨aa, ac, rfl⟩ := ho.form
          have HAL7 := Lib.hid ho.ints
          have HB7 := Lib.hid hb
          have HK7 := Lib.hid (block_ext hb HKr.out)
          clear ho hb)
       | ((with_reducible show wpList _ _ _ (⟨some 81, _, _, _, _, _⟩ :: _) _ _); refine wpList_load_rowW (o := ⟨some 81, .load 25 _, _, _, _, _⟩) (by kernel_rfl) 25 _ rfl w.heap.size rfl 25 _ (0, 0) _ HK7.out Try.underlying25 rfl size_func ?_)
       | (go_at_call 26
          (with_reducible refine (tentries_any pa pn pc ba bn bc (hOf xs) (some ⟨tb, tf, none⟩) n tc ls (k : Int) w7 (HXr.out.ext HB7.out) (HTR.out.ext HB7.out) hkI (by have := HTOT.out; omega)).mono ?_)
          rintro e w8 ⟨v, rfl, hb, -, h2⟩
          have ho : OwnI w8 w7.heap.size v en := (by rw [HEE.out]; exact h2 HF.out)
          obtain ⟨ea, ec, rfl⟩ := ho.form
          have HEN8 := Lib.hid ho.ints
          have HB8 := Lib.hid (ext_trans HB7.out hb)
          have HAL8 := Lib.hid (HAL7.out.ext hb)
          clear h2 ho hb))
      clear HB7 HK7 HAL7 HEE HAE
      obtain ⟨W8, hW8⟩ : ∃ W, W = w8 := ⟨_, rfl⟩
      rw [← hW8] at HEN8 HB8 HAL8 ⊢
      have HK8 := Lib.hid (block_ext HB8.out HKr.out)
      have HX8 := Lib.hid (HXr.out.ext HB8.out)
      have HT8 := Lib.hid (HTR.out.ext HB8.out)
      have HI8 := Lib.hid (HIN.out.ext HB8.out)
      have HO8 := Lib.hid (HOr.out.ext HB8.out)
      have HCK8 := Lib.hid (cell_ext HB8.out HCK.out)
      have HCP8 := Lib.hid (cell_ext HB8.out HCP.out)
      have HCB8 := Lib.hid (cell_ext HB8.out HCB.out)
      have HB9 := Lib.hid (ext_trans HBr.out HB8.out)
      clear hW8 HBr HKr HXr HTR HIN HOr HCK HCP HCB HB8
      go_cut [103] (fun s103 wx => s103 = .bool false ∧ W8 = wx)
      case first => as_aux_lemma =>
       have q1 := HCK8.out
       rcases RD.out.kind with rfl | rfl | rfl | rfl
       · go_wp2
         go_meet
         exact ⟨rfl, rfl⟩
       · obtain ⟨e0, rfl, _⟩ := RD.out.one (.inl rfl)
         go_wp2
         go_meet
         exact ⟨rfl, rfl⟩
       · go_wp2
         go_meet
         exact ⟨rfl, rfl⟩
       · obtain ⟨e0, rfl, _⟩ := RD.out.one (.inr rfl)
         go_wp2
         go_meet
         exact ⟨rfl, rfl⟩
      case rest => as_aux_lemma =>
       obtain ⟨rfl, rfl⟩ := hcut
       go_wp2
       go_loopw [10, 11, 12] (fun s10 _ _ wr => ∃ i : Nat, i ≤ tbn ∧ s10 = .int .i64 i ∧ Hid (Below W8.heap.size W8 wr)) (fun s10 _ _ _ => tbn - (intOf s10).toNat)
       case atStart => exact ⟨0, by omega, by go_num, Below.refl _ _⟩
       case round =>
        obtain ⟨i, hi, rfl, HBi⟩ := hrel
        have cbi := cell_ext HBi.out HCB8.out
        by_cases hil : i < tbn
        · obtain ⟨b8, o8, rfl, cx, _⟩ := (HI8.out.ext HBi.out).2.2 i hil
          have hxm : bl.getD i 0 ∈ bl := by rw [List.getD_eq_getElem?_getD, List.getElem?_eq_getElem (by rw [HI8.out.1]; exact hil)]; exact List.getElem_mem _
          obtain ⟨b, hxb, hbb, hob, hal⟩ := RD.out.own _ hxm
          rw [hxb] at cx hal hxm
          have HBM := Lib.hid hxm
          have c5 : wr.cell? ⟨g, b, none⟩ = some (.int .i64 (k : Int)) := by
           obtain ⟨b', o', e, hc, _⟩ := (HO8.out.ext HBi.out).2.2 b hbb
           injection e with e
           injection e with e1 e2
           subst e1 e2
           rw [Nat.zero_add, show (ownL (tdOf ls) bn).getD b 0 = (k : Int) by rw [← hob]; simp [ownL, List.getD_eq_getElem?_getD, hbb]] at hc
           exact hc
          have hsb : setK (tdOf ls) k b = true := by rw [HSI.out b, hal]; simp
          have HSB := Lib.hid hsb
          have HA1 := Lib.hid (among17_any aa al.length ac al (b : Int) wr (HAL8.out.ext HBi.out))
          rw [hal] at HA1
          have HAC := Lib.hid hal
          obtain ⟨rg, hrg⟩ : ∃ x, x = walkF (nx (tsOf (hOf xs))) (setK (tdOf ls) k) b b := ⟨_, rfl⟩
          have HRN : Hid (kd ≠ 2 → kd ≠ 3 → rg = false) := fun h2 h3 => by rw [hrg]; exact RD.out.ring h2 h3 b hxm
          have HRG := Lib.hid hrg
          have HKi := Lib.hid (block_ext HBi.out HK8.out)
          have HXi := Lib.hid (HX8.out.ext HBi.out)
          have HALi := Lib.hid (HAL8.out.ext HBi.out)
          have hbb' : (b : Int) < (bn : Int) := by omega
          have hil' : (i : Int) < (tbn : Int) := by omega
          clear hxb hob hal hsb hrg hxm
          go_upto_region 24 with (
           (go_at_call 23
            with_reducible refine HA1.out.mono ?_
            rintro e w9 ⟨rfl, rfl⟩))
          clear cbi cx c5 HA1
          go_upto_region 25 with (first
           | ((with_reducible show wpList _ _ _ (⟨some 134, _, _, _, _, _⟩ :: _) _ _); refine wpList_load_rowW (o := ⟨some 134, .load 25 _, _, _, _, _⟩) (by kernel_rfl) 25 _ rfl w.heap.size rfl 25 _ (0, 0) _ HKi.out Try.underlying25 rfl size_func ?_)
           | (go_at_call 27
              (with_reducible refine (walk17_any pa pn pc ba bn bc (hOf xs) b aa al.length ac al (-1) (setK (tdOf ls) k) _ HXi.out HG.out hbb HALi.out HSC.out HSI.out HSB.out (by unfold I64; omega)).mono ?_)
              rintro e w9 ⟨v, L, rfl, hoL, -, hmem, hb9⟩
              obtain ⟨wa, wc, rfl⟩ := hoL.form
              have HL9 := Lib.hid hoL.ints
              have HM9 := Lib.hid (hmem b)
              have HB10 := Lib.hid (ext_trans HBi.out hb9)
              clear hoL hmem hb9)
           | (go_at_call 23
              (with_reducible refine (among17_any wa (intsN L).length wc (intsN L) (b : Int) w9 HL9.out).mono ?_)
              rintro e w10 ⟨rfl, rfl⟩
              rw [intsN_has, HM9.out, ← HRG.out]))
          obtain ⟨V1, hV1⟩ : ∃ V, V = w9 := ⟨_, rfl⟩
          rw [← hV1] at HB10 ⊢
          clear hV1 HL9 HM9 HRG HKi HXi HALi HBi
          go_cut [156] (fun s156 wx => s156 = .bool false ∧ V1 = wx)
          case first => as_aux_lemma =>
           have q1 := cell_ext HB10.out HCK8.out
           rcases RD.out.kind with rfl | rfl | rfl | rfl
           · obtain rfl := HRN.out (by omega) (by omega)
             go_wp2
             go_meet
             exact ⟨rfl, rfl⟩
           · go_wp2
             go_meet
             exact ⟨rfl, rfl⟩
           · go_wp2
             go_meet
             exact ⟨rfl, rfl⟩
           · obtain rfl := HRN.out (by omega) (by omega)
             go_wp2
             go_meet
             exact ⟨rfl, rfl⟩
          case rest => as_aux_lemma =>
           obtain ⟨rfl, rfl⟩ := hcut
           go_upto_region 27 with (fail)
           go_cut [180] (fun s180 wx => s180 = .bool false ∧ Hid (Below V1.heap.size V1 wx))
           case first => as_aux_lemma =>
            have q1 : ∀ n' : ExtW V1, n'.val.cell? ⟨tb, tf + k * 3, none⟩ = some (.int .i64 kd) := ExtW.cell (cell_ext HB10.out HCK8.out)
            have HNE : Nonempty (ExtW V1) := ⟨⟨V1, Below.refl _ _⟩⟩
            by_cases h2 : kd = 2
            · subst h2
              obtain ⟨e0, rfl, heb⟩ := RD.out.one (.inl rfl)
              have hebn : e0 < bn := by obtain ⟨b', h1, h2, _⟩ := RD.out.own _ (List.contains_iff_mem.1 heb); omega
              clear heb
              obtain ⟨eb, eo, rfl, ce, _⟩ := (HEN8.out.ext HB10.out).2.2 0 (by simp)
              have q2 : ∀ n' : ExtW V1, n'.val.cell? ⟨eb, eo, none⟩ = some (.int .i64 (e0 : Int)) := ExtW.cell (by simpa using ce)
              clear ce
              by_cases hbe : b = e0
              · subst hbe
                refine region_ext (by kernel_rfl) (by kernel_rfl) ?_
                repeat (first
                 | go_big_quiet_skip
                 | go_big_quiet_step (fail))
                refine wpQuiet_nil ?_
                rintro _ ⟨n', rfl⟩
                go_wp2_with fail
                go_meet
                exact ⟨rfl, n'.ext⟩
              · have hbe' : ¬ (b : Int) = (e0 : Int) := by omega
                have hbn9 : ((b : Int) != (e0 : Int)) = true := by rw [bne_iff_ne]; exact hbe'
                have hgt := RD.out.gate rfl e0 rfl b HBM.out
                have hff : lessS (setK (tdOf ls) k) e0 b = true := by rw [HLI.out, HAC.out]; simp; omega
                have HGT := Lib.hid hgt
                have HWK := Lib.hid (walk17_any pa pn pc ba bn bc (hOf xs) b aa al.length ac al (e0 : Int) (lessS (setK (tdOf ls) k) e0) V1.drew (HX8.out.ext (ext_drewN HB10.out 1)) HG.out hbb (HAL8.out.ext (ext_drewN HB10.out 1)) (less_canon HSC.out e0) (HLI.out e0) hff (by unfold I64; omega))
                clear hgt hff
                refine region_mix (fun w' => ∃ n' : ExtW V1, w' = n'.val) [(0, 20, none), (21, 1, some (20, true)), (22, 0, some (22, true)), (23, 1, none)] (by kernel_rfl) (by kernel_rfl) ⟨⟨_, ext_drewN (Below.refl _ _) 1⟩, rfl⟩ ?_
                simp only [wpMix, List.take_succ_cons, List.take_zero, List.drop_succ_cons, List.drop_zero]
                repeat (first
                 | go_big_quiet_skip
                 | ((with_reducible show wpQuiet _ _ _ _ (⟨some 171, _, _, _, _, _⟩ :: _) _); refine wpQuiet_load_row (o := ⟨some 171, .load 25 _, _, _, _, _⟩) (by rfl) 25 _ rfl w.heap.size rfl 25 #[.slice pa pn pc, .slice ba bn bc] (0, 0) _ (by rintro _ ⟨n', rfl⟩; exact block_ext (ext_trans HB10.out n'.ext) HK8.out) Try.underlying25 rfl size_func ?_; simp only [put_some, List.setIfInBounds_toArray, List.set_cons_succ, List.set_cons_zero])
                 | go_big_quiet_step (fail))
                refine wpQuiet_nil ?_
                repeat (first
                 | go_big_quiet_skip
                 | go_big_quiet_step (fail))
                refine wpQuiet_nil ?_
                refine wpOp_atW rfl (by rfl) ?_
                go_simp
                refine HWK.out.mono ?_
                rintro e w10 ⟨v, L, rfl, hoL, -, hmem, hb10⟩
                obtain ⟨va, vc, rfl⟩ := hoL.form
                have HL10 := Lib.hid hoL.ints
                have HM10 := Lib.hid (hmem b)
                have hb11 : Below V1.heap.size V1 w10 := unDrew1 hb10
                have HB11 := Lib.hid hb11
                clear hoL hmem hb10
                refine ⟨⟨⟨w10, hb11⟩, rfl⟩, ?_⟩
                clear hb11
                try simp only [put_some, List.setIfInBounds_toArray, List.set_cons_succ, List.set_cons_zero]
                repeat (first
                 | go_big_quiet_skip
                 | go_big_quiet_step (fail))
                refine wpQuiet_nil ?_
                refine wpOp_atW rfl (by rfl) ?_
                go_simp
                (with_reducible refine (among17_any va (intsN L).length vc (intsN L) (b : Int) w10 HL10.out).mono ?_)
                rintro e w11 ⟨rfl, rfl⟩
                rw [intsN_has, HM10.out, HGT.out]
                refine ⟨⟨⟨w10, HB11.out⟩, rfl⟩, ?_⟩
                try simp only [put_some, List.setIfInBounds_toArray, List.set_cons_succ, List.set_cons_zero]
                repeat (first
                 | go_big_quiet_skip
                 | go_big_quiet_step (fail))
                refine wpQuiet_nil ?_
                refine NoPanic.normal ?_
                go_wp2_with fail
                go_meet
                exact ⟨rfl, HB11.out⟩
            · have hk3 : kd = 1 ∨ kd = 3 ∨ kd = 4 := by have := RD.out.kind; omega
              rcases hk3 with rfl | rfl | rfl
              all_goals
               refine region_ext (by kernel_rfl) (by kernel_rfl) ?_
               repeat (first
                | go_big_quiet_skip
                | go_big_quiet_step (fail))
               refine wpQuiet_nil ?_
               rintro _ ⟨n', rfl⟩
               go_wp2_with fail
               go_meet
               exact ⟨rfl, n'.ext⟩
           case rest => as_aux_lemma =>
            obtain ⟨rfl, HBV⟩ := hcut
            have HB11 := Lib.hid (ext_trans HB10.out HBV.out)
            clear HBV
            go_wp2
            go_roundw
            case rel => exact ⟨i + 1, by omega, by go_num, HB11⟩
            case measure => simp [intOf]; omega
        · obtain rfl : tbn = i := by omega
          obtain ⟨V2, hV2⟩ : ∃ V, V = wr := ⟨_, rfl⟩
          rw [← hV2] at HBi cbi ⊢
          clear hV2
          have hall := HAL8.out.2.1
          go_wp2
          go_loopw [13] (fun s13 wr => ∃ q : Nat, q ≤ al.length ∧ s13 = .int .i64 q ∧ Hid (Below W8.heap.size W8 wr)) (fun s13 _ => al.length - (intOf s13).toNat)
          case atStart => exact ⟨0, by omega, by go_num, HBi⟩
          case round =>
           clear HBi
           obtain ⟨q, hq, rfl, HBq⟩ := hrel
           by_cases hql : q < al.length
           · have hxm : al.getD q 0 ∈ al := by rw [List.getD_eq_getElem?_getD, List.getElem?_eq_getElem hql]; exact List.getElem_mem _
             obtain ⟨b, hxb, hbb⟩ := RD.out.low _ hxm
             obtain ⟨b9, o9, rfl, cx, _⟩ := (HAL8.out.ext HBq.out).2.2 q hql
             rw [hxb] at cx hxm
             have hac : al.contains (b : Int) = true := List.contains_iff_mem.2 hxm
             have hsb : setK (tdOf ls) k b = true := by rw [HSI.out b, hac]; simp
             have HXM := Lib.hid hxm
             have hql' : (q : Int) < (al.length : Int) := by omega
             obtain ⟨V3, hV3⟩ : ∃ V, V = wr := ⟨_, rfl⟩
             rw [← hV3] at HBq cx ⊢
             have HWK := Lib.hid (walk17_any pa pn pc ba bn bc (hOf xs) b (some ⟨b9, o9, none⟩) al.length ac al (-1) (setK (tdOf ls) k) V3.drew (HX8.out.ext (ext_drewN HBq.out 1)) HG.out hbb (HAL8.out.ext (ext_drewN HBq.out 1)) HSC.out HSI.out hsb (by unfold I64; omega))
             clear hV3 hxb hac hsb hxm
             go_upto_region 32 with (fail)
             go_cut [213] (fun s213 wx => s213 = .bool false ∧ Hid (Below V3.heap.size V3 wx))
             case first => as_aux_lemma =>
              have q1 : ∀ n' : ExtW V3, n'.val.cell? ⟨tb, tf + k * 3, none⟩ = some (.int .i64 kd) := ExtW.cell (cell_ext HBq.out HCK8.out)
              have HNE : Nonempty (ExtW V3) := ⟨⟨V3, Below.refl _ _⟩⟩
              have q2 : ∀ n' : ExtW V3, n'.val.cell? ⟨b9, o9 + q, none⟩ = some (.int .i64 (b : Int)) := ExtW.cell cx
              clear cx
              by_cases h23 : kd = 2 ∨ kd = 3
              · have HLN : Hid (∀ L : List Nat, L.Nodup → (∀ y, L.contains y = walkF (nx (tsOf (hOf xs))) (setK (tdOf ls) k) b y) → L.length = al.length) := fun L h1 h2 => RD.out.all h23 L b HXM.out h1 h2
                rcases h23 with rfl | rfl
                all_goals
                 refine region_mix (fun w' => ∃ n' : ExtW V3, w' = n'.val) [(0, 21, none), (23, 2, some (21, true)), (22, 1, none), (25, 2, none)] (by kernel_rfl) (by kernel_rfl) ⟨⟨_, ext_drewN (Below.refl _ _) 1⟩, rfl⟩ ?_
                 simp only [wpMix, List.take_succ_cons, List.take_zero, List.drop_succ_cons, List.drop_zero]
                 repeat (first
                  | go_big_quiet_skip
                  | ((with_reducible show wpQuiet _ _ _ _ (⟨some 202, _, _, _, _, _⟩ :: _) _); refine wpQuiet_load_row (o := ⟨some 202, .load 25 _, _, _, _, _⟩) (by rfl) 25 _ rfl w.heap.size rfl 25 #[.slice pa pn pc, .slice ba bn bc] (0, 0) _ (by rintro _ ⟨n', rfl⟩; exact block_ext (ext_trans HBq.out n'.ext) HK8.out) Try.underlying25 rfl size_func ?_; simp only [put_some, List.setIfInBounds_toArray, List.set_cons_succ, List.set_cons_zero])
                  | go_big_quiet_step (fail))
                 refine wpQuiet_nil ?_
                 repeat (first
                  | go_big_quiet_skip
                  | go_big_quiet_step (fail))
                 refine wpQuiet_nil ?_
                 refine wpOp_atW rfl (by rfl) ?_
                 go_simp
                 refine HWK.out.mono ?_
                 rintro e w10 ⟨v, L, rfl, hoL, hnd, hmem, hb10⟩
                 obtain ⟨va, vc, rfl⟩ := hoL.form
                 have hb11 : Below V3.heap.size V3 w10 := unDrew1 hb10
                 have HB11 := Lib.hid hb11
                 have hlen : (intsN L).length = al.length := by rw [← HLN.out L hnd hmem]; simp [intsN]
                 rw [hlen]
                 clear hoL hnd hmem hb10 hlen
                 refine ⟨⟨⟨w10, hb11⟩, rfl⟩, ?_⟩
                 clear hb11
                 try simp only [put_some, List.setIfInBounds_toArray, List.set_cons_succ, List.set_cons_zero]
                 repeat (first
                  | go_big_quiet_skip
                  | go_big_quiet_step (fail))
                 refine wpQuiet_nil ?_
                 repeat (first
                  | go_big_quiet_skip
                  | go_big_quiet_step (fail))
                 refine wpQuiet_nil ?_
                 refine NoPanic.normal ?_
                 go_wp2_with fail
                 go_meet
                 exact ⟨rfl, HB11.out⟩
              · have hk3 : kd = 1 ∨ kd = 4 := by have := RD.out.kind; omega
                rcases hk3 with rfl | rfl
                all_goals
                 refine region_ext (by kernel_rfl) (by kernel_rfl) ?_
                 repeat (first
                  | go_big_quiet_skip
                  | go_big_quiet_step (fail))
                 refine wpQuiet_nil ?_
                 rintro _ ⟨n', rfl⟩
                 go_wp2_with fail
                 go_meet
                 exact ⟨rfl, n'.ext⟩
             case rest => as_aux_lemma =>
              obtain ⟨rfl, HBV⟩ := hcut
              have HB11 := Lib.hid (ext_trans HBq.out HBV.out)
              clear HBV
              go_wp2
              go_roundw
              case rel => exact ⟨q + 1, by omega, by go_num, HB11⟩
              case measure => simp [intOf]; omega
           · obtain rfl : q = al.length := by omega
             obtain ⟨V4, hV4⟩ : ∃ V, V = wr := ⟨_, rfl⟩
             rw [← hV4] at HBq ⊢
             clear hV4
             go_upto_region 34 with (fail)
             go_cut [266] (fun s266 wx => s266 = .bool false ∧ Hid (Below V4.heap.size V4 wx))
             case first => as_aux_lemma =>
              have q1 : ∀ n' : ExtW V4, n'.val.cell? ⟨tb, tf + k * 3, none⟩ = some (.int .i64 kd) := ExtW.cell (cell_ext HBq.out HCK8.out)
              have q2 : ∀ n' : ExtW V4, n'.val.cell? ⟨tb, tf + k * 3 + 2, none⟩ = some (.slice tba tbn tbc) := ExtW.cell (cell_ext HBq.out HCB8.out)
              have HNE : Nonempty (ExtW V4) := ⟨⟨V4, Below.refl _ _⟩⟩
              have hz := RD.out.zero
              rcases RD.out.kind with rfl | rfl | rfl | rfl
              · obtain rfl := RD.out.root (hz.1 rfl)
                have hk9 : ((k : Int) == 0) = true := by
                 have := hz.1 rfl
                 simp; omega
                clear hz
                refine region_ext (by kernel_rfl) (by kernel_rfl) ?_
                repeat (first
                 | go_big_quiet_skip
                 | go_big_quiet_step (fail))
                refine wpQuiet_nil ?_
                rintro _ ⟨n', rfl⟩
                go_wp2_with fail
                go_meet
                exact ⟨rfl, n'.ext⟩
              · obtain ⟨e0, rfl, heb⟩ := RD.out.one (.inl rfl)
                obtain ⟨eb, eo, rfl, ce, _⟩ := (HEN8.out.ext HBq.out).2.2 0 (by simp)
                have q3 : ∀ n' : ExtW V4, n'.val.cell? ⟨eb, eo, none⟩ = some (.int .i64 (e0 : Int)) := ExtW.cell (by simpa using ce)
                have HA1 : Hid (∀ n' : ExtW V4, Calls Try.prog 23 #[.slice tba tbn tbc, .int .i64 (e0 : Int)] n'.val fun e w'' => e = .returned (.bool true) ∧ ∃ m : ExtW V4, w'' = m.val) := fun n' => (among17_any tba tbn tbc bl (e0 : Int) n'.val ((HI8.out.ext HBq.out).ext n'.ext)).mono fun e w'' h => ⟨by rw [h.1, heb], n', h.2.symm⟩
                have hk9 : ((k : Int) == 0) = false := by have : ¬ k = 0 := fun e => by have := hz.2 e; omega
                                                          simp; omega
                clear ce heb hz
                refine region_ext (by kernel_rfl) (by kernel_rfl) ?_
                repeat (first
                 | go_big_quiet_skip
                 | go_big_quiet_step ((first | (go_at_call 23; (with_reducible exact HA1.out _)))))
                refine wpQuiet_nil ?_
                rintro _ ⟨n', rfl⟩
                go_wp2_with fail
                go_meet
                exact ⟨rfl, n'.ext⟩
              · have hl2 := RD.out.two rfl
                have hl9 : decide ((en.length : Int) < 2) = false := by simp; omega
                have hl8 : ¬ (en.length : Int) < 2 := by omega
                have hk9 : ((k : Int) == 0) = false := by have : ¬ k = 0 := fun e => by have := hz.2 e; omega
                                                          simp; omega
                clear hz
                refine region_ext (by kernel_rfl) (by kernel_rfl) ?_
                repeat (first
                 | go_big_quiet_skip
                 | go_big_quiet_step (fail))
                refine wpQuiet_nil ?_
                rintro _ ⟨n', rfl⟩
                go_wp2_with fail
                go_meet
                exact ⟨rfl, n'.ext⟩
              · obtain ⟨e0, rfl, heb⟩ := RD.out.one (.inr rfl)
                obtain ⟨eb, eo, rfl, ce, _⟩ := (HEN8.out.ext HBq.out).2.2 0 (by simp)
                have q3 : ∀ n' : ExtW V4, n'.val.cell? ⟨eb, eo, none⟩ = some (.int .i64 (e0 : Int)) := ExtW.cell (by simpa using ce)
                have HA1 : Hid (∀ n' : ExtW V4, Calls Try.prog 23 #[.slice tba tbn tbc, .int .i64 (e0 : Int)] n'.val fun e w'' => e = .returned (.bool true) ∧ ∃ m : ExtW V4, w'' = m.val) := fun n' => (among17_any tba tbn tbc bl (e0 : Int) n'.val ((HI8.out.ext HBq.out).ext n'.ext)).mono fun e w'' h => ⟨by rw [h.1, heb], n', h.2.symm⟩
                have hk9 : ((k : Int) == 0) = false := by have : ¬ k = 0 := fun e => by have := hz.2 e; omega
                                                          simp; omega
                clear ce heb hz
                refine region_ext (by kernel_rfl) (by kernel_rfl) ?_
                repeat (first
                 | go_big_quiet_skip
                 | go_big_quiet_step ((first | (go_at_call 23; (with_reducible exact HA1.out _)))))
                refine wpQuiet_nil ?_
                rintro _ ⟨n', rfl⟩
                go_wp2_with fail
                go_meet
                exact ⟨rfl, n'.ext⟩
             case rest => as_aux_lemma =>
              obtain ⟨rfl, HBV⟩ := hcut
              have HB12 := Lib.hid (ext_trans HBq.out HBV.out)
              clear HBV
              go_upto_region 36 with (fail)
              by_cases hk1 : 1 ≤ k
              · have hk2 : (0 : Int) < (k : Int) := by omega
                have cp := cell_ext HB12.out HCP8.out
                have hge : ¬ (up.length : Int) ≤ (al.length : Int) := by have := RD.out.less hk1; omega
                go_wp2_with (
                 (go_at_call 22
                  (with_reducible refine (all_any (some ⟨tb, tf, none⟩) n tc ls pr wc (HT8.out.ext HB12.out) HIP.out (by have := HTOT.out; omega)).mono ?_)
                  rintro e w12 ⟨v, rfl, ho, hb⟩
                  rw [← HUE.out] at ho
                  obtain ⟨ua, uc, rfl⟩ := ho.form
                  have HB13 := Lib.hid (ext_trans HB9.out (ext_trans HB12.out hb))
                  clear ho hb))
                go_roundw
                case rel => exact ⟨k + 1, by omega, by go_num, HB13⟩
                case measure => simp [intOf]; omega
              · have hk2 : ¬ (0 : Int) < (k : Int) := by omega
                have HB13 := Lib.hid (ext_trans HB9.out HB12.out)
                go_wp2
                go_roundw
                case rel => exact ⟨k + 1, by omega, by go_num, HB13⟩
                case measure => simp [intOf]; omega
    · obtain rfl : n = k := by omega
      go_wp2
      go_ret
      exact ⟨rfl, ext_trans HB6.out HBr.out⟩
end

section
open Go.ChangeShapes Go.WideShapes Go.ChangeAt Go.RowKit

theorem ownG : ownKnob Try.prog.godebug = none := by kernel_rfl
theorem laidOutG : laidOutB Try.prog = true := by kernel_rfl
theorem bytesInt : Try.prog.bytesOf 3 = 8 := by kernel_rfl
theorem cellsInt : Try.prog.cellsOf 3 = 1 := by kernel_rfl

theorem ints_in {H : Type} {enc : TypeId × Value → H} {W : World} {fuel : Nat} {v : Value} {y : DataW H × List MemPlace}
  (hf : DataW.trod enc Try.prog W 0 (fun _ => true) true fuel 22 [v] = some y) (hb : ∀ n ∈ y.1.weights Try.prog 22, n ≤ reachBytes) :
  ∃ a len cap zs, v = .slice a len cap ∧ Ints W a len zs := by
 rcases open_ints Try.underlying22 Try.underlying3 cellsInt hf with ⟨hcs, _⟩ | ⟨x, l, c, zs, hcs, _, hl, hm, hz, hx, hcell, hwz⟩
 · simp at hcs
   exact ⟨none, 0, 0, [], hcs, rfl, by omega, fun k hk => absurd hk (by omega)⟩
 · simp at hcs
   have hz' : zs.length = c := by simpa using hz
   have hlen : (zs.take l).length = l := by simp; omega
   have hbd := hb ((((zs.take l).length) + ((zs.drop l).length)) * 8) (by rw [hx]; simp [DataW.weights, Try.underlying22, bytesInt, lits])
   refine ⟨some x, l, c, zs.take l, hcs, hlen, ?_, fun k hk => ?_⟩
   · simp only [List.length_take, List.length_drop, reachBytes] at hbd
     omega
   · have hk' : k < zs.length := by omega
     have hc := hcell k hk'
     obtain ⟨b, o, sp⟩ := x
     have hsp : sp = none := by simpa [Addr.add] using World.cell?_spot (hcell 0 (by omega))
     subst hsp
     have e : (zs.take l).getD k 0 = zs.getD k 0 := by simp [List.getD_eq_getElem?_getD, List.getElem?_take, hk]
     refine ⟨b, o, rfl, ?_, ?_⟩
     · rw [e]
       have ha : (⟨b, o, none⟩ : Addr).add k = ⟨b, o + k, none⟩ := by
        by_cases h0 : k = 0
        · simp [Addr.add, h0]
        · simp [Addr.add, h0]
       rw [ha] at hc
       exact hc
     · rw [e]
       have hm' : zs.getD k 0 ∈ zs := by
        rw [List.getD_eq_getElem?_getD, List.getElem?_eq_getElem hk']
        simp
       have := Go.Joins.in64_of_wf (hwz _ hm')
       simp only [I64]
       simp only [Go.Joins.In64] at this
       omega
end

section
open Go.ChangeShapes Go.WideShapes Go.ChangeAt Go.RowKit

theorem cellsIns : Try.prog.cellsOf 145 = 8 := by kernel_rfl
theorem bytesIns : Try.prog.bytesOf 145 = 80 := by kernel_rfl
theorem cellsOp : Try.prog.cellsOf 143 = 1 := by kernel_rfl
theorem cellsInts : Try.prog.cellsOf 22 = 1 := by kernel_rfl
theorem cellsInsS : Try.prog.cellsOf 113 = 1 := by kernel_rfl
theorem cellsTerm : Try.prog.cellsOf 112 = 4 := by kernel_rfl
theorem cellsKind : Try.prog.cellsOf 109 = 1 := by kernel_rfl
theorem cellsTo : Try.prog.cellsOf 110 = 2 := by kernel_rfl
theorem cellsBlock : Try.prog.cellsOf 115 = 5 := by kernel_rfl
theorem list_of {α : Type} (n : Nat) (R : Nat → α → Prop) (h : ∀ i, i < n → ∃ x, R i x) : ∃ l : List α, l.length = n ∧ ∀ i x, l[i]? = some x → R i x := by
 induction n with
 | zero => exact ⟨[], rfl, fun i x hx => by simp at hx⟩
 | succ n ih =>
   obtain ⟨l, hl, hr⟩ := ih (fun i hi => h i (by omega))
   obtain ⟨x, hx⟩ := h n (by omega)
   refine ⟨l ++ [x], by simp [hl], fun i y hy => ?_⟩
   by_cases hi : i < n
   · rw [List.getElem?_append_left (by omega)] at hy
     exact hr i y hy
   · have hlt := (List.getElem?_eq_some_iff.1 hy).1
     simp [hl] at hlt
     obtain rfl : i = n := by omega
     rw [List.getElem?_append_right (by omega), hl, Nat.sub_self] at hy
     simp at hy
     subst hy
     exact hx
theorem len8 {α : Type} : ∀ {l : List α}, l.length = 8 → ∃ v0 v1 v2 v3 v4 v5 v6 v7, l = [v0, v1, v2, v3, v4, v5, v6, v7]
 | [v0, v1, v2, v3, v4, v5, v6, v7], _ => ⟨v0, v1, v2, v3, v4, v5, v6, v7, rfl⟩
theorem len5 {α : Type} : ∀ {l : List α}, l.length = 5 → ∃ v0 v1 v2 v3 v4, l = [v0, v1, v2, v3, v4]
 | [v0, v1, v2, v3, v4], _ => ⟨v0, v1, v2, v3, v4, rfl⟩
theorem len3 {α : Type} : ∀ {l : List α}, l.length = 3 → ∃ v0 v1 v2, l = [v0, v1, v2]
 | [v0, v1, v2], _ => ⟨v0, v1, v2, rfl⟩
theorem len2 {α : Type} : ∀ {l : List α}, l.length = 2 → ∃ v0 v1, l = [v0, v1]
 | [v0, v1], _ => ⟨v0, v1, rfl⟩
section
variable {H : Type} {enc : TypeId × Value → H} {W : World}
theorem int_in {fuel : Nat} {v : Value} {t : TypeId} {o : Option (DataW H × List MemPlace)} {y : DataW H × List MemPlace} (ht : Try.prog.underlying t = some (.int .i64)) (h : DataW.trod enc Try.prog W 0 (fun _ => true) true fuel t [v] = o) (ho : o = some y) : ∃ n, v = .int .i64 n ∧ I64 n := by
 obtain ⟨n, e, _, hw⟩ := DataW.trod_int ht (h.trans ho)
 simp only [List.cons.injEq, and_true] at e
 have := Go.Joins.in64_of_wf hw
 exact ⟨n, e, this.1, this.2⟩
theorem intsC_in {fuel : Nat} {v : Value} {y : DataW H × List MemPlace}
  (hf : DataW.trod enc Try.prog W 0 (fun _ => true) true fuel 22 [v] = some y) (hb : ∀ n ∈ y.1.weights Try.prog 22, n ≤ reachBytes) :
  ∃ a len cap zs, v = .slice a len cap ∧ Ints W a len zs ∧ len ≤ cap := by
 obtain ⟨a, len, cap, zs, e, h⟩ := ints_in hf hb
 refine ⟨a, len, cap, zs, e, h, ?_⟩
 rcases open_ints Try.underlying22 Try.underlying3 cellsInt hf with ⟨hcs, _⟩ | ⟨x, l, c, zs', hcs, _, hl, _⟩
 · simp at hcs; rw [e] at hcs; simp at hcs; omega
 · simp at hcs; rw [e] at hcs; simp at hcs; omega
theorem ins_in {fuel : Nat} {cs : List Value} {y : DataW H × List MemPlace} (hf : DataW.trod enc Try.prog W 0 (fun _ => true) true fuel 145 cs = some y) (hb : ∀ n ∈ y.1.weights Try.prog 145, n ≤ reachBytes) :
  ∃ r : InsR, cs = insC r ∧ InsOK W r := by
 obtain ⟨ys, n, -, hy, hlen, hyl, hfs⟩ := DataW.trod_struct Try.underlying145 hf
 rw [cellsIns] at hlen
 obtain ⟨v0, v1, v2, v3, v4, v5, v6, v7, rfl⟩ := len8 hlen
 obtain ⟨y0, y1, y2, y3, y4, y5, y6, y7, rfl⟩ := len8 (show ys.length = 8 from hyl)
 have g0 : DataW.trod enc Try.prog W 0 (fun _ => true) true n 143 (([v0, v1, v2, v3, v4, v5, v6, v7].drop 0).take (Try.prog.cellsOf 143)) = some y0 := hfs 0 _ rfl
 have g1 : DataW.trod enc Try.prog W 0 (fun _ => true) true n 3 (([v0, v1, v2, v3, v4, v5, v6, v7].drop 1).take (Try.prog.cellsOf 3)) = some y1 := hfs 1 _ rfl
 have g2 : DataW.trod enc Try.prog W 0 (fun _ => true) true n 3 (([v0, v1, v2, v3, v4, v5, v6, v7].drop 2).take (Try.prog.cellsOf 3)) = some y2 := hfs 2 _ rfl
 have g3 : DataW.trod enc Try.prog W 0 (fun _ => true) true n 3 (([v0, v1, v2, v3, v4, v5, v6, v7].drop 3).take (Try.prog.cellsOf 3)) = some y3 := hfs 3 _ rfl
 have g4 : DataW.trod enc Try.prog W 0 (fun _ => true) true n 3 (([v0, v1, v2, v3, v4, v5, v6, v7].drop 4).take (Try.prog.cellsOf 3)) = some y4 := hfs 4 _ rfl
 have g5 : DataW.trod enc Try.prog W 0 (fun _ => true) true n 3 (([v0, v1, v2, v3, v4, v5, v6, v7].drop 5).take (Try.prog.cellsOf 3)) = some y5 := hfs 5 _ rfl
 have g6 : DataW.trod enc Try.prog W 0 (fun _ => true) true n 22 (([v0, v1, v2, v3, v4, v5, v6, v7].drop 6).take (Try.prog.cellsOf 22)) = some y6 := hfs 6 _ rfl
 have g7 : DataW.trod enc Try.prog W 0 (fun _ => true) true n 3 (([v0, v1, v2, v3, v4, v5, v6, v7].drop 7).take (Try.prog.cellsOf 3)) = some y7 := hfs 7 _ rfl
 rw [cellsOp] at g0
 rw [cellsInt] at g1
 rw [cellsInt] at g2
 rw [cellsInt] at g3
 rw [cellsInt] at g4
 rw [cellsInt] at g5
 rw [cellsInts] at g6
 rw [cellsInt] at g7
 simp only [List.drop_succ_cons, List.drop_zero, List.take_succ_cons, List.take_zero] at g0 g1 g2 g3 g4 g5 g6 g7
 obtain ⟨n0, rfl, i0⟩ := int_in Try.underlying143 g0 rfl
 obtain ⟨n1, rfl, i1⟩ := int_in Try.underlying3 g1 rfl
 obtain ⟨n2, rfl, i2⟩ := int_in Try.underlying3 g2 rfl
 obtain ⟨n3, rfl, i3⟩ := int_in Try.underlying3 g3 rfl
 obtain ⟨n4, rfl, i4⟩ := int_in Try.underlying3 g4 rfl
 obtain ⟨n5, rfl, i5⟩ := int_in Try.underlying3 g5 rfl
 obtain ⟨n7, rfl, i7⟩ := int_in Try.underlying3 g7 rfl
 obtain ⟨a, len, cap, zs, rfl, hI, hc⟩ := intsC_in (y := y6) g6 (fun q hq => hb q (by rw [hy]; simp [DataW.weights, DataW.weightsEach, Try.underlying145, hq]))
 exact ⟨⟨⟨n0, n1, n2, n3, n4, n5, zs, n7⟩, a, len, cap⟩, rfl, hI, hc, i0, i1, i2, i3, i4, i5, i7⟩
theorem weights_all {e : TypeId} : ∀ {l : List (DataW H)} {d : DataW H}, d ∈ l → ∀ q ∈ d.weights Try.prog e, q ∈ DataW.weightsAll Try.prog e l
 | x :: l, d, hd, q, hq => by
   rw [DataW.weightsAll, List.mem_append]
   rcases List.mem_cons.1 hd with rfl | hd
   · exact Or.inl hq
   · exact Or.inr (weights_all hd q hq)
theorem insS_in {fuel : Nat} {v : Value} {y : DataW H × List MemPlace} (hf : DataW.trod enc Try.prog W 0 (fun _ => true) true fuel 113 [v] = some y) (hb : ∀ n ∈ y.1.weights Try.prog 113, n ≤ reachBytes) :
  ∃ a len cap rs, v = .slice a len cap ∧ InsS W a len rs ∧ len ≤ cap := by
 rcases Go.Deep.open_slice Try.underlying113 hf with ⟨hcs, _⟩ | ⟨x, l, c, m, n, D, Pl, hcs, _, hl, hm, hmm, hx, hall⟩
 · simp at hcs
   exact ⟨none, 0, 0, [], hcs, ⟨Recs.nil _ _ _, fun r hr => by cases hr⟩, by omega⟩
 · simp at hcs
   have hmm' : m = c := by simpa using hmm
   subst hmm'
   rw [cellsIns] at hall
   have hbd := hb ((l + (m - l)) * 80) (by rw [hx]; simp [DataW.weights, Try.underlying113, bytesIns])
   have hel : ∀ i, i < l → ∃ r : InsR, InsOK W r ∧ ∀ j, j < 8 → W.cell? ((x.add (i * 8)).add j) = (insC r)[j]? := fun i hi => by
    obtain ⟨cs', hc', ht'⟩ := hall i (by omega)
    obtain ⟨_, _, hat⟩ := World.cells?_some hc'
    obtain ⟨r, rfl, hok⟩ := ins_in ht' (fun q hq => hb q (by
     rw [hx]
     simp only [DataW.weights, Try.underlying113, List.mem_cons, List.mem_append]
     exact Or.inr (Or.inl (weights_all (List.mem_map.2 ⟨i, List.mem_range.2 hi, rfl⟩) q hq))))
    exact ⟨r, hok, hat⟩
   obtain ⟨rs, hrl, hrs⟩ := list_of l _ hel
   have hsp : 0 < l → x.spot = none := fun h0 => by
    obtain ⟨r, _, hat⟩ := hel 0 h0
    have h1 := hat 0 (by omega)
    have h2 : (insC r)[0]? = some (.int .i64 r.d.op) := rfl
    rw [h2] at h1
    have := World.cell?_spot h1
    simpa [Addr.add] using this
   refine ⟨some x, l, m, rs, hcs, ⟨⟨hrl, ?_, fun k r hr => ?_⟩, fun r hr => ?_⟩, hl⟩
   · simp only [reachBytes] at hbd
     omega
   · have hk : k < l := by rw [← hrl]; exact (List.getElem?_eq_some_iff.1 hr).1
     have hs := hsp (by omega)
     obtain ⟨b, o, sp⟩ := x
     simp only at hs
     subst hs
     refine ⟨b, o, rfl, fun j hj => ?_⟩
     have := (hrs k r hr).2 j hj
     rwa [addr_add, addr_add] at this
   · obtain ⟨k, hk, e⟩ := List.mem_iff_getElem.1 hr
     exact (hrs k r (by rw [List.getElem?_eq_getElem hk, e])).1
theorem cellsFunc : Try.prog.cellsOf 25 = 2 := by kernel_rfl
theorem cellsBlocks : Try.prog.cellsOf 23 = 1 := by kernel_rfl
theorem bytesBlock : Try.prog.bytesOf 115 = 56 := by kernel_rfl
/-- a block, as an element -/
theorem blkE_in {fuel : Nat} {l : List Value} {y : DataW H × List MemPlace} (hf' : DataW.trod enc Try.prog W 0 (fun _ => true) true fuel 115 l = some y) (hb : ∀ n ∈ y.1.weights Try.prog 115, n ≤ reachBytes) :
  ∃ b : BlkH, l = blkC b ∧ TermOK b.t ∧ ∃ rs, InsS W b.ia b.n rs := by
 obtain ⟨ys, n, -, hy, hlen, hyl, hfs⟩ := DataW.trod_struct Try.underlying115 hf'
 rw [cellsBlock] at hlen
 obtain ⟨v0, v1, v2, v3, v4, rfl⟩ := len5 hlen
 obtain ⟨y0, y1, rfl⟩ := len2 (show ys.length = 2 from hyl)
 have g0 : DataW.trod enc Try.prog W 0 (fun _ => true) true n 113 (([v0, v1, v2, v3, v4].drop 0).take (Try.prog.cellsOf 113)) = some y0 := hfs 0 _ rfl
 have g1 : DataW.trod enc Try.prog W 0 (fun _ => true) true n 112 (([v0, v1, v2, v3, v4].drop 1).take (Try.prog.cellsOf 112)) = some y1 := hfs 1 _ rfl
 rw [cellsInsS] at g0
 rw [cellsTerm] at g1
 simp only [List.drop_succ_cons, List.drop_zero, List.take_succ_cons, List.take_zero] at g0 g1
 obtain ⟨sa, ns, cs, rs, rfl, hI, hc⟩ := insS_in g0 (fun q hq => hb q (by rw [hy]; simp [DataW.weights, DataW.weightsEach, Try.underlying115, hq]))
 obtain ⟨zs, n', -, hz, -, hzl, hgs⟩ := DataW.trod_struct Try.underlying112 g1
 obtain ⟨z0, z1, z2, rfl⟩ := len3 (show zs.length = 3 from hzl)
 have k0 : DataW.trod enc Try.prog W 0 (fun _ => true) true n' 109 (([v1, v2, v3, v4].drop 0).take (Try.prog.cellsOf 109)) = some z0 := hgs 0 _ rfl
 have k1 : DataW.trod enc Try.prog W 0 (fun _ => true) true n' 3 (([v1, v2, v3, v4].drop 1).take (Try.prog.cellsOf 3)) = some z1 := hgs 1 _ rfl
 have k2 : DataW.trod enc Try.prog W 0 (fun _ => true) true n' 110 (([v1, v2, v3, v4].drop 2).take (Try.prog.cellsOf 110)) = some z2 := hgs 2 _ rfl
 rw [cellsKind] at k0
 rw [cellsInt] at k1
 rw [cellsTo] at k2
 simp only [List.drop_succ_cons, List.drop_zero, List.take_succ_cons, List.take_zero] at k0 k1 k2
 obtain ⟨us, n'', -, hu, -, hul, hus⟩ := DataW.trod_array Try.underlying110 k2
 obtain ⟨u0, u1, rfl⟩ := len2 hul
 have t0 : DataW.trod enc Try.prog W 0 (fun _ => true) true n'' 3 (([v3, v4].drop (0 * Try.prog.cellsOf 3)).take (Try.prog.cellsOf 3)) = some u0 := hus 0 (by omega)
 have t1 : DataW.trod enc Try.prog W 0 (fun _ => true) true n'' 3 (([v3, v4].drop (1 * Try.prog.cellsOf 3)).take (Try.prog.cellsOf 3)) = some u1 := hus 1 (by omega)
 rw [cellsInt] at t0 t1
 simp only [Nat.zero_mul, Nat.one_mul, List.drop_succ_cons, List.drop_zero, List.take_succ_cons, List.take_zero] at t0 t1
 obtain ⟨m1, rfl, i1⟩ := int_in Try.underlying109 k0 rfl
 obtain ⟨m2, rfl, i2⟩ := int_in Try.underlying3 k1 rfl
 obtain ⟨m3, rfl, i3⟩ := int_in Try.underlying3 t0 rfl
 obtain ⟨m4, rfl, i4⟩ := int_in Try.underlying3 t1 rfl
 exact ⟨⟨sa, ns, cs, ⟨m1, m2, m3, m4⟩⟩, rfl, ⟨i1, i2, i3, i4⟩, rs, hI⟩
theorem blks_in {fuel : Nat} {v : Value} {y : DataW H × List MemPlace} (hf : DataW.trod enc Try.prog W 0 (fun _ => true) true fuel 23 [v] = some y) (hb : ∀ n ∈ y.1.weights Try.prog 23, n ≤ reachBytes) :
  ∃ a len cap bs, v = .slice a len cap ∧ BlksX W a len bs ∧ len ≤ cap := by
 rcases Go.Deep.open_slice Try.underlying23 hf with ⟨hcs, _⟩ | ⟨x, l, c, m, n, D, Pl, hcs, _, hl, hm, hmm, hx, hall⟩
 · simp at hcs
   exact ⟨none, 0, 0, [], hcs, ⟨⟨Recs.nil _ _ _, fun r hr => by cases hr⟩, fun r hr => by cases hr⟩, by omega⟩
 · simp at hcs
   have hmm' : m = c := by simpa using hmm
   subst hmm'
   rw [cellsBlock] at hall
   have hbd := hb ((l + (m - l)) * 56) (by rw [hx]; simp [DataW.weights, Try.underlying23, bytesBlock])
   have hel : ∀ i, i < l → ∃ b : BlkH, (TermOK b.t ∧ ∃ rs, InsS W b.ia b.n rs) ∧ ∀ j, j < 5 → W.cell? ((x.add (i * 5)).add j) = (blkC b)[j]? := fun i hi => by
    obtain ⟨cs', hc', ht'⟩ := hall i (by omega)
    obtain ⟨_, _, hat⟩ := World.cells?_some hc'
    obtain ⟨b, rfl, hok⟩ := blkE_in ht' (fun q hq => hb q (by
     rw [hx]
     simp only [DataW.weights, Try.underlying23, List.mem_cons, List.mem_append]
     exact Or.inr (Or.inl (weights_all (List.mem_map.2 ⟨i, List.mem_range.2 hi, rfl⟩) q hq))))
    exact ⟨b, hok, hat⟩
   obtain ⟨bs, hrl, hrs⟩ := list_of l _ hel
   have hsp : 0 < l → x.spot = none := fun h0 => by
    obtain ⟨r, _, hat⟩ := hel 0 h0
    have h1 := hat 0 (by omega)
    have h2 : (blkC r)[0]? = some (.slice r.ia r.n r.c) := rfl
    rw [h2] at h1
    have := World.cell?_spot h1
    simpa [Addr.add] using this
   have hmem : ∀ r ∈ bs, TermOK r.t ∧ ∃ rs, InsS W r.ia r.n rs := fun r hr => by
    obtain ⟨k, hk, e⟩ := List.mem_iff_getElem.1 hr
    exact (hrs k r (by rw [List.getElem?_eq_getElem hk, e])).1
   refine ⟨some x, l, m, bs, hcs, ⟨⟨⟨hrl, ?_, fun k r hr => ?_⟩, fun r hr => (hmem r hr).1⟩, fun r hr => (hmem r hr).2⟩, hl⟩
   · simp only [reachBytes] at hbd
     omega
   · have hk : k < l := by rw [← hrl]; exact (List.getElem?_eq_some_iff.1 hr).1
     have hs := hsp (by omega)
     obtain ⟨b, o, sp⟩ := x
     simp only at hs
     subst hs
     refine ⟨b, o, rfl, fun j hj => ?_⟩
     have := (hrs k r hr).2 j hj
     rwa [addr_add, addr_add] at this
/-- a function that came in -/
theorem func_in {r : Go.Reach} {b0 : Nat} {v : Value} {d : DataW H} {p : List MemPlace} (hv : Value.okWide Try.prog W r b0 25 v) (h : DataW.Trod enc Try.prog W 0 (fun _ => true) true 25 v d p) (hb : ∀ n ∈ d.weights Try.prog 25, n ≤ reachBytes) :
  ∃ pa pn pc ba bn bc bs, v = funcV pa pn pc ba bn bc ∧ (∃ ps, Ints W pa pn ps) ∧ BlksX W ba bn bs := by
 obtain ⟨arr, rfl, hsz⟩ := okWide_struct Try.underlying25 hv
 rw [cellsFunc] at hsz
 obtain ⟨fuel, hf⟩ := h
 obtain ⟨l⟩ := arr
 have hf' : DataW.trod enc Try.prog W 0 (fun _ => true) true fuel 25 l = some (d, p) := hf
 obtain ⟨v0, v1, rfl⟩ := len2 (show l.length = 2 from hsz)
 obtain ⟨ys, n, -, hy, -, hyl, hfs⟩ := DataW.trod_struct Try.underlying25 hf'
 obtain ⟨y0, y1, rfl⟩ := len2 (show ys.length = 2 from hyl)
 have g0 : DataW.trod enc Try.prog W 0 (fun _ => true) true n 22 (([v0, v1].drop 0).take (Try.prog.cellsOf 22)) = some y0 := hfs 0 _ rfl
 have g1 : DataW.trod enc Try.prog W 0 (fun _ => true) true n 23 (([v0, v1].drop 1).take (Try.prog.cellsOf 23)) = some y1 := hfs 1 _ rfl
 rw [cellsInts] at g0
 rw [cellsBlocks] at g1
 simp only [List.drop_succ_cons, List.drop_zero, List.take_succ_cons, List.take_zero] at g0 g1
 simp only [Prod.mk.injEq] at hy
 obtain ⟨pa, pn, pc, zs, rfl, hI, _⟩ := intsC_in g0 (fun q hq => hb q (by rw [hy.1]; simp [DataW.weights, DataW.weightsEach, Try.underlying25, hq]))
 obtain ⟨ba, bn, bc, bs, rfl, hB, _⟩ := blks_in g1 (fun q hq => hb q (by rw [hy.1]; simp [DataW.weights, DataW.weightsEach, Try.underlying25, hq]))
 exact ⟨pa, pn, pc, ba, bn, bc, bs, rfl, ⟨zs, hI⟩, hB⟩
end
end
end Go.Proofs.Ytblhmdhfhaencaa
