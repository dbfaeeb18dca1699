/-
 The document's answer to layer 17: Build.
-/
import Derived.Test.YtblhmdhfhaencaaGreatDE
import Derived.Test.YtblhmdhfhaencaaGreatDH
import Derived.Test.YtblhmdhfhaencaaGreatApp1
import Derived.Test.YtblhmdhfhaencaaGreatQR
namespace Go.Proofs.YtblhmdhfhaencaaGreat
set_option linter.unusedSimpArgs false
set_option linter.unusedVariables false
set_option linter.unusedSectionVars false
set_option maxRecDepth 100000
set_option maxHeartbeats 40000000
section
open Go.RowKit
attribute [local go_sem] Oper.semAt_some wide_fn wide_depth wide_fnR wide_depthR
def Build17Post (ts : List TermD) (w : World) (e : Ending) (w' : World) : Prop :=
 (fitsB ts = false → e = .returned (.tuple #[nilV, .int .i64 2])) ∧ (fitsB ts = true → ∃ v ls, e = .returned (.tuple #[v, .int .i64 0]) ∧ TilesIn w' w.heap.size v ls ∧ tdOf ls = tilesP ts.length (ordP ts.length (partsP ts))) ∧ Below w.heap.size w w'
theorem build17_no (pa : Option Addr) (pn pc : Nat) (ba : Option Addr) (bn bc : Nat) (bs : List BlkH) (w : World) (h : BlksOK w ba bn bs) (hf : fitsB (tsOf bs) = false) :
  Calls Tryz.prog 31 #[funcV pa pn pc ba bn bc] w (Build17Post (tsOf bs) w) := by
 have H := Lib.hid h
 have HF := Lib.hid hf
 clear h hf
 go_enter Tryz.func31, Tryz.ntmps31
 go_upto_region 1 with (fail)
 obtain ⟨W, hW⟩ : ∃ W, W = w.alloc (funcO pa pn pc ba bn bc) := ⟨_, rfl⟩
 rw [← hW]
 have hk0 : W.heap[w.heap.size]? = some (funcO pa pn pc ba bn bc) := by rw [hW]; exact heap_alloc_new _ _
 have hB : Below w.heap.size w W := by rw [hW]; exact ext_alloc _ _
 have HK := Lib.hid hk0
 have HB := Lib.hid hB
 clear hW hk0 hB
 go_wp2_with (first
  | ((with_reducible show wpList _ _ _ (⟨some 16, _, _, _, _, _⟩ :: _) _ _); refine wpList_load_row (o := ⟨some 16, .load 25 _, _, _, _, _⟩) rfl 25 _ rfl w.heap.size rfl 25 _ (0, 0) _ HK.out Tryz.underlying25 rfl size_func ?_)
  | (go_at_call 41
     refine (fits17_any pa pn pc ba bn bc bs W (H.out.ext HB.out)).mono ?_;rintro e w2 ⟨rfl, hb⟩;rw [HF.out];have HB2 := Lib.hid (ext_trans HB.out hb)
     clear hb))
 refine bodyPost_ret (v := .tuple #[nilV, .int .i64 2]) (by simp [results, Tryz.results31, go_sem, Act.put]) rfl ?_
 unfold Build17Post
 refine ⟨fun _ => rfl, ?_, HB2.out⟩
 intro h
 rw [HF.out] at h
 cases h
theorem order_of_ord {ts : List TermD} {L qs : List PartD} (P : PartsOK ts L) (hl : ts.length ≤ 200) (hq : qs = ordP ts.length L) (hp : qs.Perm L) : OrderOK qs := by
 intro i j hij hj
 have h1 := ord_sorted (n := ts.length) (L := L) (by omega)
 rw [← hq] at h1
 have hi : i < qs.length := by omega
 have hPP := parts_listS hl P
 have hm : ∀ {a}, a < qs.length → qs.getD a zPart ∈ L := fun h => hp.mem_iff.1 (by simp [List.getD_eq_getElem?_getD, h])
 have h2 := (List.pairwise_iff_getElem.1 h1) i j hi hj hij
 have e1 : qs[i] = qs.getD i zPart := by simp [List.getD_eq_getElem?_getD, hi]
 have e2 : qs[j] = qs.getD j zPart := by simp [List.getD_eq_getElem?_getD, hj]
 rw [e1, e2, keyL, keyL] at h2
 rw [around_perm hp, around_perm hp]
 have f1 := (hPP _ (hm hi)).2.1
 have f2 := (hPP _ (hm hj)).2.1
 omega
theorem listS_le (f : Nat → Bool) : (listS f).length ≤ 200 := by
 have := List.length_filter_le f (List.range 200)
 simpa [listS] using this
theorem build17_yes (pa : Option Addr) (pn pc : Nat) (ba : Option Addr) (bn bc : Nat) (bs : List BlkH) (w : World) (h : BlksOK w ba bn bs) (hf : fitsB (tsOf bs) = true) :
  Calls Tryz.prog 31 #[funcV pa pn pc ba bn bc] w (Build17Post (tsOf bs) w) := by
 have HG : Hid (goodB (tsOf bs) = true) := (fits_facts hf).1
 have hgg := (goodB_iff _).1 HG.out
 have hbn : bn ≤ 200 := by have := hgg.1.2; rw [tsOf_len, h.1.1] at this; exact this
 have hbn1 : 1 ≤ bn := by have := hgg.1.1; rw [tsOf_len, h.1.1] at this; exact this
 have HTL : Hid ((tsOf bs).length = bn) := by rw [Hid, tsOf_len, h.1.1]
 have H := Lib.hid h
 have HF := Lib.hid hf
 have HPL : Hid ((partsP (tsOf bs)).length + 1 ≤ bn) := by rw [Hid, ← HTL.out]; exact parts_len hf
 have HLF := Lib.hid (loopsP_ok hf 201 (wholeS (tsOf bs).length) (whole_canon (by rw [HTL.out]; exact hbn)) (fun y hy => by simpa [wholeS] using hy) (by have := listS_le (wholeS (tsOf bs).length); omega))
 have HPO := Lib.hid (parts_ok hf)
 clear h hf hgg
 go_enter Tryz.func31, Tryz.ntmps31
 go_upto_region 1 with (fail)
 obtain ⟨W, hW⟩ : ∃ W, W = w.alloc (funcO pa pn pc ba bn bc) := ⟨_, rfl⟩
 rw [← hW]
 have hk0 : W.heap[w.heap.size]? = some (funcO pa pn pc ba bn bc) := by rw [hW]; exact heap_alloc_new _ _
 have hB : Below w.heap.size w W := by rw [hW]; exact ext_alloc _ _
 have HK := Lib.hid hk0
 have HB := Lib.hid hB
 clear hW hk0 hB
 go_upto_region 3 with (first
  | ((with_reducible show wpList _ _ _ (⟨some 16, _, _, _, _, _⟩ :: _) _ _); refine wpList_load_row (o := ⟨some 16, .load 25 _, _, _, _, _⟩) rfl 25 _ rfl w.heap.size rfl 25 _ (0, 0) _ HK.out Tryz.underlying25 rfl size_func ?_)
  | (go_at_call 41
     refine (fits17_any pa pn pc ba bn bc bs W (H.out.ext HB.out)).mono ?_;rintro e w2 ⟨rfl, hb⟩;rw [HF.out];have HK2 := Lib.hid (block_ext hb HK.out);have HB2 := Lib.hid (ext_trans HB.out hb)
     clear hb))
 clear HK HB
 obtain ⟨LP, hLP⟩ : ∃ l, l = loopsP (tsOf bs) 201 (wholeS (tsOf bs).length) := ⟨_, rfl⟩
 have hPP : partsP (tsOf bs) = LP ++ condsP (tsOf bs) LP := by rw [hLP]; rfl
 rw [← hLP] at HLF
 have HLPE := Lib.hid hLP
 obtain ⟨CP, hCP⟩ : ∃ l, l = condsP (tsOf bs) LP := ⟨_, rfl⟩
 rw [← hCP] at hPP
 have HCPE := Lib.hid hCP
 have hlc : LP.length + CP.length + 1 ≤ bn := by have := HPL.out; rw [hPP, List.length_append] at this; exact this
 have HPP := Lib.hid hPP
 clear hLP hCP hPP
 have q9 : ∀ w', (∃ n' : ExtW w2, w' = n'.val) → w'.heap[w.heap.size]? = some (funcO pa pn pc ba bn bc) := fun w' ⟨n', e⟩ => by rw [e]; exact block_ext n'.ext HK2.out
 refine region_mix (fun w' => ∃ n' : ExtW w2, w' = n'.val) [(0, 2, some (2, true)), (3, 0, some (3, true)), (4, 1, none)] (by kernel_rfl) (by kernel_rfl) ⟨⟨_, ext_drewN (Below.refl _ _) 1⟩, rfl⟩ ?_
 simp only [wpMix, List.take_succ_cons, List.take_zero, List.drop_succ_cons, List.drop_zero]
 repeat (first
  | go_big_quiet_skip
  | (refine wpQuiet_load_row (o := ⟨some 19, .load 25 _, _, _, _, _⟩) (by rfl) 25 _ rfl w.heap.size rfl 25 _ (0, 0) _ q9 Tryz.underlying25 rfl size_func ?_; simp only [zJ,zG,zH,zI])
  | (refine wpQuiet_load_row (o := ⟨some 20, .load 25 _, _, _, _, _⟩) (by rfl) 25 _ rfl w.heap.size rfl 25 _ (0, 0) _ q9 Tryz.underlying25 rfl size_func ?_; simp only [zJ,zG,zH,zI])
  | go_big_quiet_step (fail))
 refine wpQuiet_nil ?_
 refine wpOp_at rfl rfl ?_
 go_simp
 refine (whole17_any pa pn pc ba bn bc hbn w2.drew).mono ?_
 rintro e w3 ⟨rfl, hb3⟩
 have hb3 := unDrew1 hb3
 refine ⟨⟨⟨w3, hb3⟩, rfl⟩, ?_⟩
 refine wpQuiet_nil ?_
 refine wpOp_at rfl rfl ?_
 go_simp
 have HB3 := Lib.hid (ext_trans HB2.out hb3)
 have HK3 := Lib.hid (block_ext hb3 HK2.out)
 clear q9
 refine (loops17_any pa pn pc ba bn bc bs HF.out 201 (wholeS bn) w3 (H.out.ext HB3.out) (whole_canon hbn) (fun y hy => by simpa [wholeS] using hy) (by have := HLPE.out; rw [HTL.out] at this; rw [← this]; omega) (by have := listS_le (wholeS bn); omega)).mono ?_
 rintro e w4 ⟨v4, rfl, hp4, hb4⟩
 have e4 : loopsP (tsOf bs) 201 (wholeS bn) = LP := by rw [HLPE.out, HTL.out]
 rw [e4] at hp4
 refine ⟨⟨⟨w4, ext_trans hb3 hb4⟩, rfl⟩, ?_⟩
 obtain ⟨la, lc, rfl⟩ := hp4.form
 obtain ⟨ln, hln⟩ : ∃ k, k = LP.length := ⟨_, rfl⟩
 rw [← hln] at hp4 hlc ⊢
 have HLN := Lib.hid hln
 have hp4' := PtsIn.mono hp4 (show w.heap.size + 1 ≤ w3.heap.size from by have := lt_of_heap HK3.out; omega)
 have HP4 := Lib.hid hp4'
 have HB4 := Lib.hid (ext_trans HB3.out hb4)
 have HK4 := Lib.hid (block_ext hb4 HK3.out)
 clear hln hp4 hp4' hb3 hb4 e4 HB3 HK3 HB2 HK2
 repeat (go_big_quiet_step (fail))
 refine wpQuiet_nil ?_
 refine NoPanic.normal ?_
 have hsz4 := lt_of_heap HK4.out
 have hownL : ∀ k, (Value.slice la ln lc).ownBlock = some k → k < w4.heap.size := fun k hk => (OwnR.low HP4.out hk).2
 go_upto_region 5 with (first
  | ((with_reducible show wpList _ _ _ (⟨some 24, _, _, _, _, _⟩ :: _) _ _); refine wpList_load_row (o := ⟨some 24, .load 25 _, _, _, _, _⟩) rfl 25 _ rfl w.heap.size rfl 25 _ (0, 0) _ HK4.out Tryz.underlying25 rfl size_func ?_)
  | (go_at_call 74
     refine (conds17_any pa pn pc ba bn bc bs la ln lc (w.heap.size + 1) LP w4 (H.out.ext HB4.out) HF.out HLF.out HP4.out (by omega)).mono ?_;rintro e w5 ⟨v5, rfl, hp5, hb5⟩;rw [← HCPE.out] at hp5;obtain ⟨ca, cc, rfl⟩ := hp5.form;obtain ⟨cn, hcn⟩ : ∃ k, k = CP.length := ⟨_, rfl⟩
     rw [← hcn] at hp5 hlc ⊢;have HCN := Lib.hid hcn;have HP5 := Lib.hid hp5;have HL5 := Lib.hid (PtsIn.ext HP4.out hb5);have HB5 := Lib.hid (ext_trans HB4.out hb5);have HK5 := Lib.hid (block_ext hb5 HK4.out);have hsz5 := hb5.size
     clear hcn hp5 hb5)
  | ((with_reducible show wpList _ _ _ (⟨some 27, _, _, _, _, _⟩ :: _) _ _); refine wpList_appendR (o := ⟨some 27, .call _, _, _, _, _⟩) w5 rfl (.tmp 23) (.tmp 26) 104 112 rfl (w.heap.size + 1) _ 202 216 Tryz.underlying104 infoPt (by kernel_rfl) (by omega) (.slice la ln lc) ln _ rfl (by have := HL5.out.1; rw [← HLN.out] at this; exact this) ca cn cc rfl (CP.flatMap ptC) (by rw [HCN.out]; exact flatMap_len ptC 202 ptC_len CP) (Recs.news (OwnR.recs ptC_len HP5.out) ptC_len (by omega)) (fun u hu => by obtain ⟨p, _, hp⟩ := List.mem_flatMap.1 hu; exact ptC_one p u hp) (by simp only [maxLen]; omega) (by omega) (by omega) ?_
     intro v6 w6 hown6 hg6 hat6;have hp6 : PtsIn w6 (w.heap.size + 1) v6 (partsP (tsOf bs)) := ⟨(by rw [HPP.out, List.length_append, List.flatMap_append, ← HLN.out, ← HCN.out]; exact hown6), (by rw [HPP.out, List.length_append, ← HLN.out, ← HCN.out]; omega)⟩
     have HP6 := Lib.hid hp6;have HK6 := Lib.hid (grown_row hg6 HK5.out (fun e => by have := (OwnR.low HL5.out e).1; omega));have HB6 := Lib.hid (HB5.out.grown hg6 (by omega) (fun q e => by have := (OwnR.low HL5.out e).1; omega))
     clear hown6 hg6 hat6 hp6))
 clear HP4 HB4 HK4 HP5 HL5 HB5 HK5 hownL HLPE HCPE HPP HLN HCN hlc
 obtain ⟨L, hL⟩ : ∃ L, L = partsP (tsOf bs) := ⟨_, rfl⟩
 rw [← hL] at HP6 HPL HPO
 have HLE := Lib.hid hL
 obtain ⟨pa6, pc6, rfl⟩ := HP6.out.form
 obtain ⟨n, hn⟩ : ∃ n, n = L.length := ⟨_, rfl⟩
 rw [← hn] at HP6 HPL ⊢
 have HN := Lib.hid hn
 have hn200 : n + 1 ≤ bn := HPL.out
 clear hL hn HPL
 have hfirst : ∀ p ∈ L, listS p.s ≠ [] ∧ firstP p < bn := fun p hp => by
  have := parts_listS (by rw [HTL.out]; exact hbn) HPO.out p hp;rw [HTL.out] at this;exact ⟨this.1, this.2.2.2.1⟩
 have HFI := Lib.hid hfirst
 have HOL : Hid (∀ d b k, d ≤ n → b < bn → k ≤ n → (ordJ bn L d b k).length ≤ n) := fun d b k h1 h2 h3 => by
  rw [HN.out] at h1 h3 ⊢;exact ordJ_len (fun p hp => (HFI.out p hp).2) h1 h2 h3
 have hsz6 := lt_of_heap HK6.out
 clear hfirst
 go_wp2
 go_loopw [5, 6, 7, 8] (fun s5 s6 _ _ wr => ∃ d : Nat, d ≤ n + 1 ∧ s6 = .int .i64 (d : Int) ∧ Hid (PtsIn wr w6.heap.size s5 (ordJ bn L d 0 0)) ∧ Hid (Below w6.heap.size w6 wr)) (fun _ s6 _ _ _ => n + 1 - (intOf s6).toNat)
 case atStart => exact ⟨0, by omega, rfl, by rw [Hid, ordJ_start]; exact OwnR.nil _ _ _ _ _, Below.refl _ _⟩
 case round =>
  obtain ⟨d, hd, rfl, HOd, HBd⟩ := hrel;by_cases hdl : d ≤ n
  · have hdl' : (d : Int) ≤ (n : Int) := by omega
    go_wp2
    go_loopw [5, 7, 8] (fun s5 s7 _ wi => ∃ b : Nat, b ≤ bn ∧ s7 = .int .i64 (b : Int) ∧ Hid (PtsIn wi w6.heap.size s5 (ordJ bn L d b 0)) ∧ Hid (Below w6.heap.size w6 wi)) (fun _ s7 _ _ => bn - (intOf s7).toNat)
    case atStart => exact ⟨0, by omega, rfl, HOd, HBd⟩
    case round =>
     obtain ⟨b, hb, rfl, HOb, HBb⟩ := hrel;clear HOd HBd;have k1 : wr.cell? ⟨w.heap.size, 1, none⟩ = some (.slice ba bn bc) := by rw [cell_of_row _ _ _ _ _ _ (block_ext HBb.out HK6.out)]; rfl
     by_cases hbl : b < bn
     · have hbl' : (b : Int) < (bn : Int) := by omega
       go_wp2;clear k1
       go_loopw [5, 8] (fun s5 s8 wj => ∃ k : Nat, k ≤ n ∧ s8 = .int .i64 (k : Int) ∧ Hid (PtsIn wj w6.heap.size s5 (ordJ bn L d b k)) ∧ Hid (Below w6.heap.size w6 wj)) (fun _ s8 _ => n - (intOf s8).toNat)
       case atStart => exact ⟨0, by omega, rfl, HOb, HBb⟩
       case round =>
        obtain ⟨k, hk, rfl, HOk, HBk⟩ := hrel;clear HOb HBb;by_cases hkl : k < n
        · have hkl' : (k : Int) < (n : Int) := by omega
          have hform : ∃ g, pa6 = some ⟨g, 0, none⟩ := by
           obtain ⟨g, c', e⟩ := own_form HP6.out.1 (by have := HN.out; omega);injection e with e _ _;exact ⟨g, e⟩
          obtain ⟨gg, rfl⟩ := hform;have HSTEP := Lib.hid (ordJ_k (n := bn) (L := L) (d := d) (b := b) (k := k) (by rw [← HN.out]; exact hkl));have HLEN := Lib.hid (HOL.out d b k hdl hbl hk);have hmem : L.getD k zPart ∈ L := by rw [List.getD_eq_getElem?_getD, List.getElem?_eq_getElem (by rw [← HN.out]; exact hkl)]; exact List.getElem_mem _
          have hne := (HFI.out _ hmem).1;obtain ⟨va, vc, hvf⟩ := HOk.out.form;obtain ⟨m, hm⟩ : ∃ m, m = (ordJ bn L d b k).length := ⟨_, rfl⟩
          rw [← hm] at hvf HLEN;subst hvf;have hm200 : m ≤ n := HLEN.out;obtain ⟨pk, hpk⟩ : ∃ p, p = L.getD k zPart := ⟨_, rfl⟩
          obtain ⟨ar, har⟩ : ∃ a, a = aroundP L (L.getD k zPart) := ⟨_, rfl⟩
          have hST2 := HSTEP.out;rw [← har, ← hpk] at hST2;rw [← hpk] at hne;have HST := Lib.hid hST2;have HPK := Lib.hid hpk;have HAR := Lib.hid har;have HMM := Lib.hid hm;have HNE := Lib.hid hne;clear hST2 HSTEP hpk har hm hmem hne HLEN;go_upto_region 15 with (fail)
          by_cases hA : ar = d
          rotate_left
          · have dA : ((ar : Int) == (d : Int)) = false := by simp; omega
            have HN1 : Hid (ordJ bn L d b (k + 1) = ordJ bn L d b k) := by rw [Hid, HST.out, if_neg (fun h => hA h.1), List.append_nil]
            clear hA
            go_wp2_with (
             (go_at_call 75
              refine (depth17_any (some ⟨gg, 0, none⟩) n pc6 (w.heap.size + 1) (tsOf bs) (by rw [HTL.out]; exact hbn) L HPO.out k hkl wr (PtsIn.ext HP6.out HBk.out) (by omega)).mono ?_;rintro e w8 ⟨rfl, hb8⟩;rw [← HAR.out];have HB8 := Lib.hid (ext_trans HBk.out hb8);have HO8 := Lib.hid (PtsIn.ext HOk.out hb8)
              clear hb8))
            go_roundw
            case rel => exact ⟨k + 1, by omega, by go_num, by rw [HN1.out]; exact HO8, HB8⟩
            case measure => simp [intOf]; omega
          have dA : ((ar : Int) == (d : Int)) = true := by simp; omega
          obtain ⟨fp, hfp⟩ : ∃ x, x = firstP pk := ⟨_, rfl⟩
          have HFP := Lib.hid hfp;have HAD := Lib.hid hA;clear hfp hA
          go_upto_if 63 with (first
           | (go_at_call 75
              refine (depth17_any (some ⟨gg, 0, none⟩) n pc6 (w.heap.size + 1) (tsOf bs) (by rw [HTL.out]; exact hbn) L HPO.out k hkl wr (PtsIn.ext HP6.out HBk.out) (by omega)).mono ?_;rintro e w8 ⟨rfl, hb8⟩;rw [← HAR.out];have HB8 := Lib.hid (ext_trans HBk.out hb8);have HO8 := Lib.hid (PtsIn.ext HOk.out hb8);obtain ⟨_, rk8, _, _⟩ := pt_range ((PtsIn.ext HP6.out HB8.out).range hkl);rw [← HPK.out] at rk8;have HRK8 := Lib.hid rk8
              clear hb8 rk8)
           | ((with_reducible show wpList _ _ _ (⟨some 57, _, _, _, _, _⟩ :: _) _ _); refine wpList_load_midW (o := ⟨some 57, .load 107 _, _, _, _, _⟩) (by kernel_rfl) 107 _ rfl gg (k * 202 + 1) rfl (setA pk.s).toList _ HRK8.out Tryz.underlying107 rfl (by rw [Array.length_toList, setA_size]; exact size_rset) ?_)
           | (go_at_call 76
              refine (list17_any pk.s w8).mono ?_;rintro e w9 ⟨v9, rfl, ho9, hb9⟩;obtain ⟨lg, l9, lc9, rfl, hl9, hc9⟩ := own_head ho9 HNE.out;have hl9' : (0 : Int) < (l9 : Int) := (by omega)
              have hc9' : w9.cell? ⟨lg, 0, none⟩ = some (.int .i64 (fp : Int)) := (by rw [hc9, HFP.out]; rfl)
              have HB9 := Lib.hid (ext_trans HB8.out hb9);have HO9 := Lib.hid (PtsIn.ext HO8.out hb9)
              clear hb9 ho9 hc9))
          by_cases hB : fp = b
          rotate_left
          · have dB : ((fp : Int) == (b : Int)) = false := by simp; omega
            have HN1 : Hid (ordJ bn L d b (k + 1) = ordJ bn L d b k) := by rw [Hid, HST.out, if_neg (fun h => hB (by rw [HFP.out]; exact h.2)), List.append_nil]
            clear hB;go_wp2
            go_roundw
            case rel => exact ⟨k + 1, by omega, by go_num, by rw [HN1.out]; exact HO9, HB9⟩
            case measure => simp [intOf]; omega
          have dB : ((fp : Int) == (b : Int)) = true := by simp; omega
          have HN1 : Hid (ordJ bn L d b (k + 1) = ordJ bn L d b k ++ [pk]) := by rw [Hid, HST.out, if_pos ⟨HAD.out, by rw [← HFP.out]; exact hB⟩]
          have hrk9 := (PtsIn.ext HP6.out HB9.out).range hkl;rw [← HPK.out] at hrk9;have HRK9 := Lib.hid hrk9;have hown9 := HO9.out.1;rw [← HMM.out] at hown9;have HOWN9 := Lib.hid hown9;have hb9 : w6.heap.size ≤ w9.heap.size := HB9.out.size;clear hB hrk9 hown9
          go_wp2_with (first
           | ((with_reducible show wpList _ _ _ (⟨some 68, _, _, _, _, _⟩ :: _) _ _); refine wpList_load_mid (op := ⟨some 68, .load 112 _, _, _, _, _⟩) rfl 112 _ rfl gg (k * 202) rfl (ptC pk) _ HRK9.out Tryz.underlying112 rfl (size_ptC _) ?_)
           | ((with_reducible show wpList _ _ _ (⟨some 69, _, _, _, _, _⟩ :: _) _ _); refine wpList_rowPt (o := ⟨some 69, .buildSlice _ _ _, _, _, _, _⟩) rfl _ pk rfl rfl ?_)
           | ((with_reducible show wpList _ _ _ (⟨some 70, _, _, _, _, _⟩ :: _) _ _); refine wpList_append1 (o := ⟨some 70, .call _, _, _, _, _⟩) rfl w9 (.tmp 64) (.tmp 69) 104 112 rfl w6.heap.size _ 202 216 Tryz.underlying104 infoPt (by kernel_rfl) (by omega) (.slice va m vc) m _ (ptC pk) rfl HOWN9.out w9.heap.size rfl rfl (ptC_len _) (ptC_one _) (by simp only [maxLen]; omega) (by omega) hb9 ?_
              intro g cap w10 hown10 hg10 hat10;have hp10 : PtsIn w10 w6.heap.size (.slice (some ⟨g, 0, none⟩) (m + 1) cap) (ordJ bn L d b k ++ [pk]) := ⟨(by rw [List.length_append, List.flatMap_append, ← HMM.out]; simpa using hown10), (by rw [List.length_append, ← HMM.out]; simp; omega)⟩
              have HP10 := Lib.hid hp10;have HB10 := Lib.hid (HB9.out.grown hg10 (by omega) (fun q e => (OwnR.low HO9.out e).1))
              clear hown10 hg10 hat10 hp10))
          go_roundw
          case rel => exact ⟨k + 1, by omega, by go_num, by rw [HN1.out]; exact HP10, HB10⟩
          case measure => simp [intOf]; omega
        · obtain rfl : k = n := by omega
          have HE : Hid (ordJ bn L d b k = ordJ bn L d (b + 1) 0) := by rw [Hid, HN.out]; exact ordJ_b _ _ _ _
          go_wp2
          go_roundw
          case rel => exact ⟨b + 1, by omega, by go_num, by rw [← HE.out]; exact HOk, HBk⟩
          case measure => simp [intOf]; omega
     · obtain rfl : b = bn := by omega
       have HE : Hid (ordJ b L d b 0 = ordJ b L (d + 1) 0 0) := ordJ_d _ _ _;go_wp2
       go_roundw
       case rel => exact ⟨d + 1, by omega, by go_num, by rw [← HE.out]; exact HOb, HBb⟩
       case measure => simp [intOf]; omega
  · obtain rfl : d = n + 1 := by omega
    have hdl' : ¬ ((n + 1 : Nat) : Int) ≤ (n : Int) := by omega
    obtain ⟨qs, hqs⟩ : ∃ q, q = ordP bn L := ⟨_, rfl⟩
    have hOq : PtsIn wr w6.heap.size u5 qs := by
     rw [hqs, ← ordJ_end];have := HOd.out;rw [HN.out] at this;exact this
    have HQS := Lib.hid hqs;have HPRM : Hid (qs.Perm L) := by rw [Hid, hqs]; exact ord_perm (fun p hp => (HFI.out p hp).2)
    have hql : qs.length = n := by rw [HPRM.out.length_eq, HN.out]
    have HQP : Hid (PartsOK (tsOf bs) qs) := HPO.out.perm HPRM.out.symm;have HQL := Lib.hid hql;obtain ⟨qa, qc, hqf⟩ := hOq.form;rw [hql] at hqf;subst hqf;have HOQ := Lib.hid hOq;have HBW := Lib.hid (ext_trans HB6.out HBd.out);have HKW := Lib.hid (block_ext HBd.out HK6.out);clear hqs hOq hql HOd HBd HOL HFI HK6 HB6 HP6;obtain ⟨W7, hW7⟩ : ∃ W, W = wr := ⟨_, rfl⟩
    rw [← hW7] at HOQ HBW HKW ⊢;clear hW7;go_upto_region 17 with (fail)
    have hno : ∀ i j, i < j → j < qs.length → ¬ Strict (qs.getD i zPart).s (qs.getD j zPart).s := order_ok (by rw [HTL.out]; exact hbn) HQP.out (order_of_ord HPO.out (by rw [HTL.out]; exact hbn) (by rw [HTL.out]; exact HQS.out) HPRM.out);have HNO := Lib.hid hno;clear hno;go_wp2;obtain ⟨W8, hW8⟩ : ∃ W, W = W7.alloc (.cells #[.int .i64 1, .int .i64 (-1), .slice none 0 0] 76) := ⟨_, rfl⟩
    rw [← hW8];have ht8 : TilesIn W8 W7.heap.size (.slice (some ⟨W7.heap.size, 0, none⟩) 1 1) [⟨⟨1, -1, []⟩, none, 0, 0⟩] := tiles_one W8 W7.heap.size ⟨⟨1, -1, []⟩, none, 0, 0⟩ (by rw [hW8]; exact heap_alloc_new _ _) _ (Nat.le_refl _) (OwnI.nil _ _) ⟨by unfold I64; constructor <;> simp, by unfold I64; constructor <;> simp⟩ (by simp [bsV, Value.ownBlock]);have HT8 := Lib.hid ht8;have HB8 : Hid (Below W7.heap.size W7 W8) := by rw [Hid, hW8]; exact ext_alloc _ _
    clear hW8 ht8
    go_loopw [9, 10, 11, 12] (fun s9 s10 _ _ wr => ∃ (k : Nat) (ls : List TileR), k ≤ n ∧ s10 = .int .i64 (k : Int) ∧ Hid (TilesIn wr W7.heap.size s9 ls) ∧ Hid (tdOf ls = tilesK qs k) ∧ Hid (Below W7.heap.size W7 wr)) (fun _ s10 _ _ _ => n - (intOf s10).toNat)
    case atStart => exact ⟨0, _, by omega, rfl, HT8, rfl, HB8⟩
    case round =>
     obtain ⟨k, ls, hk, rfl, HTI, HTD, HBk⟩ := hrel;clear HT8 HB8;obtain ⟨Wk, hWk⟩ : ∃ W, W = wr := ⟨_, rfl⟩
     rw [← hWk] at HTI HBk ⊢;clear hWk;by_cases hkl : k < n
     · have hkl' : (k : Int) < (n : Int) := by omega
       have hform : ∃ g, qa = some ⟨g, 0, none⟩ := by
        obtain ⟨g, c', e⟩ := own_form HOQ.out.1 (by have := HQL.out; omega);injection e with e _ _;exact ⟨g, e⟩
       obtain ⟨gg, rfl⟩ := hform;have hql : k < qs.length := by rw [HQL.out]; exact hkl
       have hmem : qs.getD k zPart ∈ qs := by rw [List.getD_eq_getElem?_getD, List.getElem?_eq_getElem hql]; exact List.getElem_mem _
       have hkind := HQP.out.kind _ hmem;have HPAR : Hid (parP qs k k = lastP qs (firstP (qs.getD k zPart)) k) := par_last (by rw [HTL.out]; exact hbn) HQP.out HNO.out hql k (Nat.le_refl _);obtain ⟨ck, _, _, _⟩ := pt_range ((PtsIn.ext HOQ.out HBk.out).range hkl);obtain ⟨pk, hpk⟩ : ∃ p, p = qs.getD k zPart := ⟨_, rfl⟩
       obtain ⟨kd, hkd⟩ : ∃ d, d = pk.kind := ⟨_, rfl⟩
       rw [← hpk, ← hkd] at ck hkind;have HPK := Lib.hid hpk;have HKD := Lib.hid hkd;have HKI := Lib.hid hkind;clear hpk hkd hkind hmem hql;obtain ⟨oa, oc, hof⟩ := HTI.out.own.form;have hll : ls.length = k + 1 := by have := congrArg List.length HTD.out; rw [tilesK_len] at this; simpa [tdOf] using this
       rw [hll] at hof;subst hof;have HLL := Lib.hid hll;clear hll;go_upto_region 22 with (fail)
       clear ck;obtain ⟨B, hB⟩ : ∃ B, B = Wk.heap.size := ⟨_, rfl⟩
       obtain ⟨W9, hW9⟩ : ∃ W, W = Wk.alloc (.cells #[.int .i64 kd, .int .i64 0, .slice none 0 0] 76) := ⟨_, rfl⟩
       rw [← hW9, ← hB];have hr9 : W9.heap[B]? = some (.cells #[.int .i64 kd, .int .i64 ((parP qs k 0 : Nat) : Int), .slice none 0 0] 76 (0, 0)) := by rw [hW9, hB]; exact heap_alloc_new _ _
       have hb9 : Below Wk.heap.size Wk W9 := by rw [hW9]; exact ext_alloc _ _
       have HR9 := Lib.hid hr9;have HB9 := Lib.hid hb9;have HBB := Lib.hid hB;clear hW9 hB hr9 hb9;go_wp2
       go_loopw [12] (fun s12 wi => ∃ i : Nat, i ≤ k ∧ s12 = .int .i64 (i : Int) ∧ Hid (wi.heap[B]? = some (.cells #[.int .i64 kd, .int .i64 ((parP qs k i : Nat) : Int), .slice none 0 0] 76 (0, 0))) ∧ Hid (Below Wk.heap.size Wk wi)) (fun s12 _ => k - (intOf s12).toNat)
       case atStart => exact ⟨0, by omega, rfl, HR9, HB9⟩
       case round =>
        obtain ⟨i, hi, rfl, HRB, HBI⟩ := hrel;clear HR9 HB9;by_cases hil : i < k
        · have hil' : (i : Int) < (k : Int) := by omega
          have hin : i < n := by omega
          have hin' : (i : Int) < (n : Int) := by omega
          have hpt := PtsIn.ext HOQ.out (ext_trans HBk.out HBI.out);obtain ⟨_, rk, _, _⟩ := pt_range (hpt.range hkl);obtain ⟨_, ri, _, _⟩ := pt_range (hpt.range hin);have hst : parP qs k (i + 1) = if withinB (qs.getD k zPart).s (qs.getD i zPart).s || eqS (qs.getD i zPart).s (qs.getD k zPart).s then i + 1 else parP qs k i := rfl
          obtain ⟨pi, hpi⟩ : ∃ p, p = qs.getD i zPart := ⟨_, rfl⟩
          obtain ⟨pv9, hpv⟩ : ∃ p, p = parP qs k i := ⟨_, rfl⟩
          rw [← HPK.out] at rk hst;rw [← hpi] at ri hst;rw [← hpv] at HRB hst;have HPV := Lib.hid hpv;have HRK := Lib.hid rk;have HRI := Lib.hid ri;clear rk ri hpt hpi hpv;obtain ⟨V, hV⟩ : ∃ V, V = wr := ⟨_, rfl⟩
          rw [← hV] at HRK HRI HRB HBI ⊢;clear hV;have q1 : True := trivial;have Q3 : Hid (∀ w', (∃ n' : ExtW V, w' = n'.val) → w'.rangeAt gg (i * 202 + 1) (setA pi.s).toList) := fun w' ⟨n', e⟩ => by rw [e]; exact rangeAt_ext n'.ext HRI.out
          have Q4 : Hid (∀ w', (∃ n' : ExtW V, w' = n'.val) → w'.rangeAt gg (k * 202 + 1) (setA pk.s).toList) := fun w' ⟨n', e⟩ => by rw [e]; exact rangeAt_ext n'.ext HRK.out
          clear HRK HRI;have HNE : Nonempty (ExtW V) := ⟨⟨V, Below.refl _ _⟩⟩
          have HIN : Hid (∀ n' : ExtW V, Calls Tryz.prog 77 #[.agg (setA pk.s), .agg (setA pi.s)] n'.val fun e w'' => e = .returned (.bool (withinB pk.s pi.s)) ∧ ∃ m : ExtW V, w'' = m.val) := fun n' => quiet_ext (in17_any pk.s pi.s n'.val);obtain ⟨wi, hwi⟩ : ∃ b, b = withinB pk.s pi.s := ⟨_, rfl⟩
          rw [← hwi] at HIN hst;obtain ⟨qe, hqe⟩ : ∃ b, b = eqS pi.s pk.s := ⟨_, rfl⟩
          rw [← hqe] at hst;have heq : ∀ w9, (binOp .eql 107 (.agg (setA pi.s)) (.agg (setA pk.s))).run Tryz.prog w9 = .ok (.bool qe) w9 := fun w9 => by rw [hqe]; exact eql_rset w9 _ _
          have HST := Lib.hid hst;clear hwi hqe hst;go_upto_region 25 with (fail)
          cases wi with
          | true =>
            clear heq;refine region_ext (by kernel_rfl) (by kernel_rfl) ?_
            repeat (first
             | go_big_quiet_skip
             | (refine wpQuiet_load_mid (o := ⟨some 94, .load 107 _, _, _, _, _⟩) (by rfl) 107 _ rfl gg (k * 202 + 1) rfl (setA pk.s).toList _ Q4.out Tryz.underlying107 rfl (by rw [Array.length_toList, setA_size]; exact size_rset) ?_; simp only [zJ,zG,zH,zI, Array.toArray_toList])
             | (refine wpQuiet_load_mid (o := ⟨some 99, .load 107 _, _, _, _, _⟩) (by rfl) 107 _ rfl gg (i * 202 + 1) rfl (setA pi.s).toList _ Q3.out Tryz.underlying107 rfl (by rw [Array.length_toList, setA_size]; exact size_rset) ?_; simp only [zJ,zG,zH,zI, Array.toArray_toList])
             | go_big_quiet_step (first | (go_at_call 77; exact HIN.out _)))
            refine wpQuiet_nil ?_;rintro _ ⟨n', rfl⟩;have HN1 : Hid (parP qs k (i + 1) = i + 1) := by rw [Hid, HST.out]; simp
            have HRB8 := Lib.hid (block_ext n'.ext HRB.out);have HBI8 := Lib.hid (ext_trans HBI.out n'.ext);have c8 : n'.val.cell? ⟨B, 1, none⟩ = some (.int .i64 (pv9 : Int)) := by rw [cell_of_row _ _ _ _ _ _ HRB8.out]; rfl
            have f8 : n'.val.frozen? ⟨B, 1, none⟩ = false := frozen_of_row _ _ _ _ _ HRB8.out;have l8 := lt_of_heap HRB8.out;have HRB9 : Hid ((n'.val.setCell ⟨B, 1, none⟩ (.int .i64 ((i : Int) + 1))).heap[B]? = some (.cells #[.int .i64 kd, .int .i64 ((i + 1 : Nat) : Int), .slice none 0 0] 76 (0, 0))) := by
             rw [Hid, heap_setCell_same _ _ _ _ _ _ HRB8.out];simp
            have HBI9 := Lib.hid (HBI8.out.setCell (p := ⟨B, 1, none⟩) (by show Wk.heap.size ≤ B; rw [HBB.out]; exact Nat.le_refl _) (.int .i64 ((i : Int) + 1)));clear q1 HIN;go_wp2
            go_roundw
            case rel => exact ⟨i + 1, by omega, by go_num, by rw [HN1.out]; exact HRB9, HBI9⟩
            case measure => simp [intOf]; omega
          | false =>
           cases qe with
           | false =>
            refine region_ext (by kernel_rfl) (by kernel_rfl) ?_
            repeat (first
             | go_big_quiet_skip
             | (refine wpQuiet_load_mid (o := ⟨some 94, .load 107 _, _, _, _, _⟩) (by rfl) 107 _ rfl gg (k * 202 + 1) rfl (setA pk.s).toList _ Q4.out Tryz.underlying107 rfl (by rw [Array.length_toList, setA_size]; exact size_rset) ?_; simp only [zJ,zG,zH,zI, Array.toArray_toList])
             | (refine wpQuiet_load_mid (o := ⟨some 99, .load 107 _, _, _, _, _⟩) (by rfl) 107 _ rfl gg (i * 202 + 1) rfl (setA pi.s).toList _ Q3.out Tryz.underlying107 rfl (by rw [Array.length_toList, setA_size]; exact size_rset) ?_; simp only [zJ,zG,zH,zI, Array.toArray_toList])
             | (refine wpQuiet_load_mid (o := ⟨some 106, .load 107 _, _, _, _, _⟩) (by rfl) 107 _ rfl gg (i * 202 + 1) rfl (setA pi.s).toList _ Q3.out Tryz.underlying107 rfl (by rw [Array.length_toList, setA_size]; exact size_rset) ?_; simp only [zJ,zG,zH,zI, Array.toArray_toList])
             | (refine wpQuiet_load_mid (o := ⟨some 111, .load 107 _, _, _, _, _⟩) (by rfl) 107 _ rfl gg (k * 202 + 1) rfl (setA pk.s).toList _ Q4.out Tryz.underlying107 rfl (by rw [Array.length_toList, setA_size]; exact size_rset) ?_; simp only [zJ,zG,zH,zI, Array.toArray_toList])
             | go_big_quiet_step (first | (go_at_call 77; exact HIN.out _)))
            refine wpQuiet_nil ?_;rintro _ ⟨n', rfl⟩;clear heq;have HN1 : Hid (parP qs k (i + 1) = parP qs k i) := by rw [Hid, HST.out, ← HPV.out]; simp
            have HRB8 := Lib.hid (block_ext n'.ext HRB.out);have HBI8 := Lib.hid (ext_trans HBI.out n'.ext);clear q1 HIN;go_wp2
            go_roundw
            case rel => exact ⟨i + 1, by omega, by go_num, by rw [HN1.out, ← HPV.out]; exact HRB8, HBI8⟩
            case measure => simp [intOf]; omega
           | true =>
            refine region_ext (by kernel_rfl) (by kernel_rfl) ?_
            repeat (first
             | go_big_quiet_skip
             | (refine wpQuiet_load_mid (o := ⟨some 94, .load 107 _, _, _, _, _⟩) (by rfl) 107 _ rfl gg (k * 202 + 1) rfl (setA pk.s).toList _ Q4.out Tryz.underlying107 rfl (by rw [Array.length_toList, setA_size]; exact size_rset) ?_; simp only [zJ,zG,zH,zI, Array.toArray_toList])
             | (refine wpQuiet_load_mid (o := ⟨some 99, .load 107 _, _, _, _, _⟩) (by rfl) 107 _ rfl gg (i * 202 + 1) rfl (setA pi.s).toList _ Q3.out Tryz.underlying107 rfl (by rw [Array.length_toList, setA_size]; exact size_rset) ?_; simp only [zJ,zG,zH,zI, Array.toArray_toList])
             | (refine wpQuiet_load_mid (o := ⟨some 106, .load 107 _, _, _, _, _⟩) (by rfl) 107 _ rfl gg (i * 202 + 1) rfl (setA pi.s).toList _ Q3.out Tryz.underlying107 rfl (by rw [Array.length_toList, setA_size]; exact size_rset) ?_; simp only [zJ,zG,zH,zI, Array.toArray_toList])
             | (refine wpQuiet_load_mid (o := ⟨some 111, .load 107 _, _, _, _, _⟩) (by rfl) 107 _ rfl gg (k * 202 + 1) rfl (setA pk.s).toList _ Q4.out Tryz.underlying107 rfl (by rw [Array.length_toList, setA_size]; exact size_rset) ?_; simp only [zJ,zG,zH,zI, Array.toArray_toList])
             | go_big_quiet_step (first | (go_at_call 77; exact HIN.out _)))
            refine wpQuiet_nil ?_;rintro _ ⟨n', rfl⟩;clear heq;have HN1 : Hid (parP qs k (i + 1) = i + 1) := by rw [Hid, HST.out]; simp
            have HRB8 := Lib.hid (block_ext n'.ext HRB.out);have HBI8 := Lib.hid (ext_trans HBI.out n'.ext);have c8 : n'.val.cell? ⟨B, 1, none⟩ = some (.int .i64 (pv9 : Int)) := by rw [cell_of_row _ _ _ _ _ _ HRB8.out]; rfl
            have f8 : n'.val.frozen? ⟨B, 1, none⟩ = false := frozen_of_row _ _ _ _ _ HRB8.out;have l8 := lt_of_heap HRB8.out;have HRB9 : Hid ((n'.val.setCell ⟨B, 1, none⟩ (.int .i64 ((i : Int) + 1))).heap[B]? = some (.cells #[.int .i64 kd, .int .i64 ((i + 1 : Nat) : Int), .slice none 0 0] 76 (0, 0))) := by
             rw [Hid, heap_setCell_same _ _ _ _ _ _ HRB8.out];simp
            have HBI9 := Lib.hid (HBI8.out.setCell (p := ⟨B, 1, none⟩) (by show Wk.heap.size ≤ B; rw [HBB.out]; exact Nat.le_refl _) (.int .i64 ((i : Int) + 1)));clear q1 HIN;go_wp2
            go_roundw
            case rel => exact ⟨i + 1, by omega, by go_num, by rw [HN1.out]; exact HRB9, HBI9⟩
            case measure => simp [intOf]; omega
        · obtain rfl : i = k := by omega
          have HPV : Hid (parP qs i i = lastP qs (firstP pk) i) := by rw [Hid, HPK.out]; exact HPAR.out
          rw [HPV.out] at HRB;obtain ⟨lp, hlp⟩ : ∃ x, x = lastP qs (firstP pk) i := ⟨_, rfl⟩
          rw [← hlp] at HRB;have hlpi : lp ≤ i := by rw [hlp]; exact lastP_le _ _ _
          have HLP := Lib.hid hlp;have hti := HTI.out.ext HBI.out;have hown := hti.own.1;rw [HLL.out] at hown;have HTI2 := Lib.hid hti;have HOWN := Lib.hid hown;have HBW2 := Lib.hid (ext_trans HBk.out HBI.out);have hsz2 : W7.heap.size ≤ wr.heap.size := HBW2.out.size;clear hlp hti hown HPV
          go_wp2_with (first
           | ((with_reducible show wpList _ _ _ (⟨some 118, _, _, _, _, _⟩ :: _) _ _); refine wpList_load_row (o := ⟨some 118, .load 76 _, _, _, _, _⟩) rfl 76 _ rfl B rfl 76 _ (0, 0) _ HRB.out Tryz.underlying76 rfl (by kernel_rfl) ?_)
           | ((with_reducible show wpList _ _ _ (⟨some 120, _, _, _, _, _⟩ :: _) _ _); refine wpList_append1 (o := ⟨some 120, .call _, _, _, _, _⟩) rfl wr (.tmp 117) (.tmp 119) 26 76 rfl W7.heap.size _ 3 40 Tryz.underlying26 infoTile3 rfl (by omega) (.slice oa (i + 1) oc) (i + 1) _ [.int .i64 kd, .int .i64 (lp : Int), .slice none 0 0] rfl HOWN.out wr.heap.size rfl rfl rfl (fun u hu => by simp at hu; rcases hu with rfl | rfl | rfl <;> rfl) (by simp only [maxLen]; omega) (by omega) hsz2 ?_
              intro g cap w10 hown10 hg10 hat10;have ik : I64 kd := (by unfold I64; rcases HKI.out with h | h | h <;> rw [h] <;> omega)
              have il : I64 (lp : Int) := (by unfold I64; omega)
              have hta := HTI2.out.add (v' := .slice (some ⟨g, 0, none⟩) (i + 1 + 1) cap) ⟨⟨kd, (lp : Int), []⟩, none, 0, 0⟩ rfl rfl rfl rfl ⟨ik, il⟩ hg10 (by rw [HLL.out]; exact hown10) (by
               rcases hat10 with h | h
               · exact .inl h
               · exact .inr ⟨g, rfl, by omega⟩) (by have := HLL.out; omega)
              have HTA := Lib.hid hta;have HBA := Lib.hid (HBW2.out.grown hg10 (by omega) (fun q e => (HTI2.out.own.low e).1))
              have HTDA : Hid (tdOf (ls ++ [(⟨⟨kd, (lp : Int), []⟩, none, 0, 0⟩ : TileR)]) = tilesK qs (i + 1)) := (by
               rw [Hid, td_app, HTD.out, tilesK_succ, tileK, ← HPK.out, ← HLP.out, HKD.out])
              clear hown10 hg10 hat10 ik il hta))
          go_roundw
          case rel => exact ⟨i + 1, _, by omega, by go_num, HTA, HTDA, HBA⟩
          case measure => simp [intOf]; omega
     · obtain rfl : k = n := by omega
       obtain ⟨oa, oc, hof⟩ := HTI.out.own.form;have hll : ls.length = k + 1 := by have := congrArg List.length HTD.out; rw [tilesK_len] at this; simpa [tdOf] using this
       rw [hll] at hof;subst hof;obtain ⟨tg, rfl⟩ : ∃ g, oa = some ⟨g, 0, none⟩ := by
        obtain ⟨g, c', e⟩ := own_form HTI.out.own.1 (by omega);injection e with e _ _;exact ⟨g, e⟩
       have HTJ0 : Hid (tdOf ls = tilesJ qs 0) := by rw [Hid, tilesJ_zero, HQL.out]; exact HTD.out
       clear hll HTD;go_wp2
       go_loopw [13, 14, 15] (fun s13 _ _ wr => ∃ (b : Nat) (ls : List TileR), b ≤ bn ∧ s13 = .int .i64 (b : Int) ∧ Hid (TilesIn wr W7.heap.size (.slice (some ⟨tg, 0, none⟩) (k + 1) oc) ls) ∧ Hid (tdOf ls = tilesJ qs b) ∧ Hid (Below W7.heap.size W7 wr)) (fun s13 _ _ _ => bn - (intOf s13).toNat)
       case atStart => exact ⟨0, ls, by omega, by go_num, HTI, HTJ0, HBk⟩
       case round =>
        obtain ⟨b, ls2, hb, rfl, HTB, HTJ, HBb⟩ := hrel;clear HTI HTJ0 HBk;have k1 : wr.cell? ⟨w.heap.size, 1, none⟩ = some (.slice ba bn bc) := by rw [cell_of_row _ _ _ _ _ _ (block_ext HBb.out HKW.out)]; rfl
        obtain ⟨Wb, hWb⟩ : ∃ W, W = wr := ⟨_, rfl⟩
        rw [← hWb] at HTB HBb k1 ⊢;clear hWb;by_cases hbl : b < bn
        · have hbl' : (b : Int) < (bn : Int) := by omega
          go_wp2;clear k1
          go_loopw [14, 15] (fun s14 s15 wi => ∃ i : Nat, i ≤ k ∧ s15 = .int .i64 (i : Int) ∧ s14 = .int .i64 ((lastP qs b i : Nat) : Int) ∧ Hid (wi = Wb)) (fun _ s15 _ => k - (intOf s15).toNat)
          case atStart => exact ⟨0, by omega, rfl, rfl, rfl⟩
          case round =>
           obtain ⟨i, hi, rfl, rfl, HWE⟩ := hrel;obtain rfl := HWE.out.symm;by_cases hil : i < k
           · have hil' : (i : Int) < (k : Int) := by omega
             have hform : ∃ g, qa = some ⟨g, 0, none⟩ := by
              obtain ⟨g, c', e⟩ := own_form HOQ.out.1 (by have := HQL.out; omega);injection e with e _ _;exact ⟨g, e⟩
             obtain ⟨gg, rfl⟩ := hform;obtain ⟨_, _, _, cb⟩ := pt_range ((PtsIn.ext HOQ.out HBb.out).range hil);have cbb := cb b (by omega);have hst : lastP qs b (i + 1) = if (qs.getD i zPart).s b then i + 1 else lastP qs b i := rfl
             obtain ⟨sb, hsb⟩ : ∃ x, x = (qs.getD i zPart).s b := ⟨_, rfl⟩
             rw [← hsb] at cbb hst;have HST := Lib.hid hst;clear cb hsb hst;have hb200 : (b : Int) < 200 := by omega
             cases sb with
             | true =>
               have HN1 : Hid (lastP qs b (i + 1) = i + 1) := HST.out;generalize lastP qs b i = lpi at *;go_wp2
               go_roundw
               case rel => exact ⟨i + 1, by omega, by go_num, by rw [HN1.out]; go_num, trivial⟩
               case measure => simp [intOf]; omega
             | false =>
               have HN1 : Hid (lastP qs b (i + 1) = lastP qs b i) := HST.out;go_wp2
               go_roundw
               case rel => exact ⟨i + 1, by omega, by go_num, by rw [HN1.out], trivial⟩
               case measure => simp [intOf]; omega
           · obtain rfl : i = k := by omega
             obtain ⟨lp, hlp⟩ : ∃ x, x = lastP qs b i := ⟨_, rfl⟩
             have hlpk : lp ≤ i := by rw [hlp]; exact lastP_le qs b i
             have hlpq : lastP qs b qs.length = lp := by rw [HQL.out, hlp]
             rw [← hlp];obtain ⟨t, b9, o9, ht, _, e9, _, _, cB⟩ := HTB.out.ok.cells (k := lp) (by omega);injection e9 with e9;injection e9 with e1 e2;subst e1 e2;rw [Nat.zero_add] at cB;have hlpk' : (lp : Int) < ((i + 1 : Nat) : Int) := by omega
             have HBT := Lib.hid (HTB.out.each t (List.mem_of_getElem? ht)).1;have htd : (tilesJ qs b)[lp]? = some t.d := by rw [← HTJ.out, tdOf, List.getElem?_map, ht]; rfl
             have HTN : Hid (tilesJ qs (b + 1) = (tilesJ qs b).set lp ⟨t.d.kind, t.d.parent, t.d.blocks ++ [(b : Int)]⟩) := by
              have := tilesJ_succ qs b t.d (by rw [hlpq]; exact htd);rw [hlpq] at this;exact this.symm
             have HTBL : Hid (t.d.blocks.length ≤ b) := tilesJ_blocks qs b lp t.d htd;have HLPQ := Lib.hid ht;obtain ⟨tcur, htg⟩ : ∃ cur, Wb.heap[tg]? = some (.cells cur 76 (0, 0)) := by
              rcases HTB.out.own.1.2 with ⟨h1, _⟩ | ⟨g4, cap4, cur4, h1, _, hg4, _⟩
              · cases h1
              · injection h1 with h1;injection h1 with h1;injection h1 with h1;subst h1;exact ⟨cur4, hg4⟩
             have hbne : (bsV t).ownBlock ≠ some tg := own_other HBT.out.1 htg (by decide);have HTG := Lib.hid htg;have HBN := Lib.hid hbne;have HCB := Lib.hid cB;have hszb : W7.heap.size ≤ Wb.heap.size := HBb.out.size;clear hlp hlpq htd ht htg hbne
             go_wp2_with (
              (at_builtin
               go_loud (refine wpList_append1I rfl Wb (.tmp 149) (.tmp 151) 22 rfl W7.heap.size _ 8 Tryz.underlying22 infoI rfl (bsV t) t.d.blocks rfl HBT.out (b : Int) (by unfold I64; omega) Wb.heap.size rfl rfl (by have := HTBL.out; omega) (by omega) hszb ?_)
               intro g9 cap9 w9 ho9 hg9 hat9;have htg9 := grown_row hg9 HTG.out HBN.out;have c9 : w9.cell? ⟨tg, lp * 3 + 2, none⟩ = some (.slice t.ba t.bn t.bc) := (by rw [cell_of_row _ _ _ _ _ _ htg9, ← cell_of_row _ _ _ _ _ _ HTG.out]; exact HCB.out)
               have f9 : w9.frozen? ⟨tg, lp * 3 + 2, none⟩ = false := frozen_of_row _ _ _ _ _ htg9;obtain ⟨t', ht'⟩ : ∃ x : TileR, x = ⟨⟨t.d.kind, t.d.parent, t.d.blocks ++ [(b : Int)]⟩, some ⟨g9, 0, none⟩, t.d.blocks.length + 1, cap9⟩ := ⟨_, rfl⟩
               have hbv : bsV t' = .slice (some ⟨g9, 0, none⟩) (t.d.blocks.length + 1) cap9 := (by rw [ht'])
               have hj9 := HTB.out.turn (t' := t') HLPQ.out hg9 (by rw [hbv, ht']; exact ho9) (by rw [ht']; exact ⟨rfl, rfl⟩) (by
                rw [hbv];rcases hat9 with h | h
                · exact .inl h
                · exact .inr ⟨g9, rfl, by omega⟩)
               rw [hbv] at hj9;have HJ9 := Lib.hid hj9;have HT9 : Hid (tdOf (ls2.set lp t') = tilesJ qs (b + 1)) := (by rw [Hid, td_set, HTJ.out, HTN.out, ht'])
               have hbb9 := (HBb.out.grown hg9 hszb (fun q e => (HBT.out.1.lt q e).1)).setCell (p := ⟨tg, lp * 3 + 2, none⟩) (HTB.out.own.low (k := tg) rfl).1 (.slice (some ⟨g9, 0, none⟩) (t.d.blocks.length + 1) cap9);have HBB9 := Lib.hid hbb9
               clear ho9 hg9 hat9 htg9 ht' hbv hj9 hbb9))
             go_roundw
             case rel => exact ⟨b + 1, _, by omega, by go_num, HJ9, HT9, HBB9⟩
             case measure => simp [intOf]; omega
        · obtain rfl : b = bn := by omega
          have HFIN : Hid (tdOf ls2 = tilesP (tsOf bs).length (ordP (tsOf bs).length (partsP (tsOf bs)))) := by rw [Hid, HTJ.out, tilesJ_end, HTL.out, HQS.out, HLE.out]
          go_wp2;refine bodyPost_ret (v := .tuple #[.slice (some ⟨tg, 0, none⟩) (k + 1) oc, .int .i64 0]) (by simp [results, Tryz.results31, go_sem, Act.put]) rfl ?_;unfold Build17Post;refine ⟨fun hf => ?_, fun _ => ⟨_, ls2, rfl, HTB.out.mono HBW.out.size, HFIN.out⟩, ext_trans HBW.out HBb.out⟩;rw [HF.out] at hf; cases hf
theorem build17_any (pa : Option Addr) (pn pc : Nat) (ba : Option Addr) (bn bc : Nat) (bs : List BlkH) (w : World) (h : BlksOK w ba bn bs) :
  Calls Tryz.prog 31 #[funcV pa pn pc ba bn bc] w (Build17Post (tsOf bs) w) := by
 by_cases hf : fitsB (tsOf bs) = true
 · exact build17_yes pa pn pc ba bn bc bs w h hf
 · exact build17_no pa pn pc ba bn bc bs w h (by simpa using hf)
end
end Go.Proofs.YtblhmdhfhaencaaGreat
