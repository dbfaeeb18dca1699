/-
 Parts of a function: two sorted runs merged in place (SymMerge), sorted stably. (Printed by gen_sym.py.)
-/
import Derived.Test.YtblhmdhfhaencaaQB
import Derived.Deep.CutBlock
import Derived.Deep.DeepCutAuto
namespace Go.Proofs.Ytblhmdhfhaencaa
set_option linter.unusedSimpArgs false
set_option linter.unusedVariables false
set_option linter.unusedSectionVars false
set_option maxRecDepth 100000
set_option maxHeartbeats 40000000
section
open Go.RowKit Go.Shelf

theorem symLeft_any (af : Nat) (cb : Array Value) (cf : PartD → PartD → Int) (key : PartD → Nat) (base g n c : Nat) (J : List PartD → World → Prop) (S : SortJ af cb cf key base g n c J) (hn : n ≤ 1000000) (a m b : Nat) (L : List PartD) (w : World) (h : J L w) (ham : a < m) (hmb : m < b) (hbn : b ≤ n) (hs1 : Srt zPart key L a m) (hs2 : Srt zPart key L m b) (h1 : m = a + 1) :
  Calls Try.prog 111 #[.slice (some ⟨g, 0, none⟩) n c, .int .i64 (a : Int), .int .i64 (m : Int), .int .i64 (b : Int), .func (.func af) #[] cb] w fun e w' => e = .returned (.tuple #[]) ∧
   ∃ L', J L' w' ∧ Sh zPart L L' a b ∧ Srt zPart key L' a b := by
 have H := Lib.hid h
 have HS := Lib.hid S
 have eF := S.enter
 have HS1 := Lib.hid hs1
 have HS2 := Lib.hid hs2
 have hlen := (S.parts _ _ h).len
 have zab : (a : Int) < (m : Int) := by omega
 have zmb : (m : Int) < (b : Int) := by omega
 have zbn : (b : Int) ≤ 1000000 := by omega
 clear h S hs1 hs2
 have S := HS
 clear HS
 have d1 : ((m : Int) - (a : Int) == 1) = true := by simp; omega
 go_enter Try.func111, Try.ntmps111
 go_wp2
 go_loopw [10, 11, 12] (fun s10 s11 _ wr => ∃ i j : Nat, m ≤ i ∧ i ≤ j ∧ j ≤ b ∧ s10 = .int .i64 (i : Int) ∧ s11 = .int .i64 (j : Int) ∧ Hid (i = m ∨ kAt zPart key L (i - 1) ≤ kAt zPart key L a) ∧ Hid (j = b ∨ kAt zPart key L a ≤ kAt zPart key L j) ∧ Hid (J L wr)) (fun s10 s11 _ _ => (intOf s11).toNat - (intOf s10).toNat)
 case atStart => exact ⟨m, b, by omega, by omega, by omega, rfl, rfl, .inl rfl, .inl rfl, H⟩
 case round =>
  obtain ⟨i, j, hi1, hij, hjb, rfl, rfl, HI, HJJ, HJ⟩ := hrel
  by_cases hlt : i < j
  · have hlt' : (i : Int) < (j : Int) := by omega
    obtain ⟨q, hq⟩ : ∃ q : Nat, q = (i + j) / 2 := ⟨_, rfl⟩
    have hmid : ((i : Int) + (j : Int)) / 2 = (q : Int) := by omega
    have hq1 : i ≤ q := by omega
    have hq2 : q < j := by omega
    have hqn : (q : Int) < (n : Int) := by omega
    have han : (a : Int) < (n : Int) := by omega
    have zij : (i : Int) + (j : Int) ≤ 2000000 := by omega
    clear hq
    have h0 := S.out.parts _ _ HJ.out
    have hL2 := h0.len
    have hp1 : ∀ w', (∃ nn : ExtW wr, w' = nn.val) → w'.rangeAt g (q * 202) (partC (L.getD q zPart)) := fun w' ⟨nn, e⟩ => by rw [e]; exact part_range (h0.ext nn.ext) (by omega)
    have hp2 : ∀ w', (∃ nn : ExtW wr, w' = nn.val) → w'.rangeAt g (a * 202) (partC (L.getD a zPart)) := fun w' ⟨nn, e⟩ => by rw [e]; exact part_range (h0.ext nn.ext) (by omega)
    have HCM : Hid (∀ nn : ExtW wr, Calls Try.prog af (#[partV (L.getD q zPart), partV (L.getD a zPart)] ++ cb) nn.val fun e w'' => e = .returned (.int .i64 (cf (L.getD q zPart) (L.getD a zPart))) ∧ ∃ q : ExtW wr, w'' = q.val) := fun nn => quiet_ext (S.out.cmp _ _ (S.out.ext HJ.out nn.ext) _ _ (getD_memQ (by omega)) (getD_memQ (by omega)))
    have HLS := Lib.hid (S.out.less _ _ HJ.out _ _ (getD_memQ (L := L) (k := q) (by omega)) (getD_memQ (L := L) (k := a) (by omega)))
    obtain ⟨cc, hcc⟩ : ∃ cc, cc = cf (L.getD q zPart) (L.getD a zPart) := ⟨_, rfl⟩
    rw [← hcc] at HCM HLS
    obtain ⟨xj, hxj⟩ : ∃ xj, xj = L.getD q zPart := ⟨_, rfl⟩
    obtain ⟨xp, hxp⟩ : ∃ xp, xp = L.getD a zPart := ⟨_, rfl⟩
    rw [← hxj] at hp1 HCM
    rw [← hxp] at hp2 HCM
    clear hcc hxj hxp h0
    go_wp2
    refine region_ext (by kernel_rfl) (by kernel_rfl) ?_
    repeat (first
     | go_big_quiet_skip
     | (refine wpQuiet_load_mid (o := ⟨some 44, .load 99 _, _, _, _, _⟩) (by rfl) 99 _ rfl g (q * 202) rfl (partC xj) _ hp1 Try.underlying99 rfl (size_partC _) ?_; simp only [put_some, List.setIfInBounds_toArray, List.set_cons_succ, List.set_cons_zero])
     | (refine wpQuiet_load_mid (o := ⟨some 48, .load 99 _, _, _, _, _⟩) (by rfl) 99 _ rfl g (a * 202) rfl (partC xp) _ hp2 Try.underlying99 rfl (size_partC _) ?_; simp only [put_some, List.setIfInBounds_toArray, List.set_cons_succ, List.set_cons_zero])
     | go_big_quiet_step (first | (go_at_fn af; exact HCM.out _)))
    refine wpQuiet_nil ?_
    intro _ hw'
    obtain ⟨n', rfl⟩ := hw'
    have HJ1 := Lib.hid (S.out.ext HJ.out n'.ext)
    generalize n'.val = W8 at *
    clear hp1 hp2 HCM
    by_cases hlv : cc < 0
    · have dcc : decide (cc < 0) = true := by simpa using hlv
      have HI2 : Hid (q + 1 = m ∨ kAt zPart key L (q + 1 - 1) ≤ kAt zPart key L a) := .inr (Nat.le_of_lt (HLS.out.1 hlv))
      clear HLS
      go_wp2
      go_roundw
      case rel => exact ⟨q + 1, j, by omega, by omega, hjb, by go_num, rfl, HI2, HJJ, HJ1⟩
      case measure => simp [intOf]; omega
    · have dcc : decide (cc < 0) = false := by simpa using hlv
      have HJ2 : Hid (q = b ∨ kAt zPart key L a ≤ kAt zPart key L q) := .inr (Nat.le_of_not_lt fun h => hlv (HLS.out.2 h))
      clear HLS
      go_wp2
      go_roundw
      case rel => exact ⟨i, q, hi1, hq1, by omega, rfl, rfl, HI, HJ2, HJ1⟩
      case measure => simp [intOf]; omega
  · obtain rfl : i = j := by omega
    have hlt' : ¬ (i : Int) < (i : Int) := by omega
    clear hlt
    go_wp2
    go_loopw [13] (fun s13 wi => ∃ (k : Nat) (L2 : List PartD), a ≤ k ∧ k + 1 ≤ i ∧ s13 = .int .i64 (k : Int) ∧ Hid (∀ x, L2.getD x zPart = rotR (fun x => L.getD x zPart) a (a + 1) (k + 1) x) ∧ Hid (Sh zPart L L2 a b) ∧ Hid (J L2 wi)) (fun s13 _ => i - (intOf s13).toNat)
    case atStart => exact ⟨a, L, by omega, by omega, rfl, fun x => by rw [bub_zero], Sh.refl _ _ _, HJ⟩
    case round =>
     obtain ⟨k, L2, hk1, hk2, rfl, HRT, HSH, HJ2⟩ := hrel
     by_cases hki : k + 1 < i
     · have hki' : (k : Int) < (i : Int) - 1 := by omega
       have h9 := S.out.parts _ _ HJ2.out
       have hL2 := h9.len
       have HRT2 : Hid (∀ x, (swapL zPart L2 k (k + 1)).getD x zPart = rotR (fun x => L.getD x zPart) a (a + 1) (k + 1 + 1) x) := fun x => by
        rw [swapL_at zPart L2 (by omega) (by omega), ← bub_up _ hk1, HRT.out, HRT.out, HRT.out]
       have HSH2 : Hid (Sh zPart L (swapL zPart L2 k (k + 1)) a b) := HSH.out.trans (Sh.swap L2 (by omega) (by omega) (by omega))
       have zk1 : (k : Int) + 1 < (n : Int) := by omega
       have zk2 : (k : Int) < (n : Int) := by omega
       go_wp2
       have h1 := PartsIn.drew h9
       have hr1 := part_range h1 (k := k) (by omega)
       have hr2 := part_range h1 (k := k + 1) (by omega)
       have ht1 := part_there h1 (k := k) (by omega) (L2.getD (k + 1) zPart)
       have h2 := part_set h1 (k := k) (by omega) (L2.getD (k + 1) zPart)
       have ht2 := part_there h2 (k := k + 1) (by omega) (L2.getD (k) zPart)
       have h3 := part_set h2 (k := k + 1) (by omega) (L2.getD (k) zPart)
       obtain ⟨w8, hw8⟩ : ∃ w8, w8 = wr.drew.setCells g ((k) * 202) (partC (L2.getD (k + 1) zPart)) := ⟨_, rfl⟩
       rw [← hw8] at ht2 h3
       obtain ⟨w9, hw9⟩ : ∃ w9, w9 = w8.setCells g ((k + 1) * 202) (partC (L2.getD (k) zPart)) := ⟨_, rfl⟩
       rw [← hw9] at h3
       have HSW : Hid (PartsIn w9 base (.slice (some ⟨g, 0, none⟩) n c) (swapL zPart L2 (k) (k + 1))) := h3
       have HCW : Hid (Chg (fun k => k = g) wr w9) := by
        rw [Hid, hw9, hw8]
        exact chg_setCells (S := fun k => k = g) rfl _ _ _ (chg_setCells (S := fun k => k = g) rfl _ _ _ ((Chg.refl _ _).drewN 1))
       clear h1 h2 h3
       generalize L2.getD (k) zPart = xp at *
       generalize L2.getD (k + 1) zPart = xq at *
       refine z_start (fun _ => True) (by kernel_rfl) ?_
       refine z_reads 0 9 (by kernel_rfl) trivial ?_
       simp only [List.take_succ_cons, List.take_zero, List.drop_succ_cons, List.drop_zero]
       repeat (go_big_quiet_step (fail))
       refine wpQuiet_nil ?_
       refine z_reads 10 3 (by kernel_rfl) trivial ?_
       simp only [List.take_succ_cons, List.take_zero, List.drop_succ_cons, List.drop_zero]
       repeat (go_big_quiet_step (fail))
       refine wpQuiet_nil ?_
       refine z_two 9 13 (by kernel_rfl) ?_ ?_
       · refine wpOp_atK rfl rfl ?_
         refine wp_load_mid 99 _ rfl g ((k + 1) * 202) rfl (partC xq) _ hr2 Try.underlying99 rfl (size_partC _) ?_
         refine ⟨Or.inr trivial, ?_⟩
         simp only [put_some, List.setIfInBounds_toArray, List.set_cons_succ, List.set_cons_zero]
         refine z_one 13 (by kernel_rfl) ?_
         refine wpOp_atK rfl rfl ?_
         refine wp_load_mid 99 _ rfl g ((k) * 202) rfl (partC xp) _ hr1 Try.underlying99 rfl (size_partC _) ?_
         refine ⟨Or.inr trivial, ?_⟩
         simp only [put_some, List.setIfInBounds_toArray, List.set_cons_succ, List.set_cons_zero]
         refine z_reads 14 1 (by kernel_rfl) trivial ?_
         simp only [List.take_succ_cons, List.take_zero, List.drop_succ_cons, List.drop_zero]
         repeat (go_big_quiet_step (fail))
         refine wpQuiet_nil ?_
         refine z_one 15 (by kernel_rfl) ?_
         refine wpOp_atK rfl rfl ?_
         refine wp_store_mid 99 _ _ rfl g ((k) * 202) (partC xq).toArray rfl rfl ht1 (size_partA _) (all_oneCell_toArray (partC_one _)) ?_
         simp only [put_none, toArr_toList]
         rw [← hw8]
         refine ⟨Or.inr trivial, ?_⟩
         refine z_reads 16 1 (by kernel_rfl) trivial ?_
         simp only [List.take_succ_cons, List.take_zero, List.drop_succ_cons, List.drop_zero]
         repeat (go_big_quiet_step (fail))
         refine wpQuiet_nil ?_
         refine z_one 17 (by kernel_rfl) ?_
         refine wpOp_atK rfl rfl ?_
         refine wp_store_mid 99 _ _ rfl g ((k + 1) * 202) (partC xp).toArray rfl rfl ht2 (size_partA _) (all_oneCell_toArray (partC_one _)) ?_
         simp only [put_none, toArr_toList]
         rw [← hw9]
         refine ⟨Or.inr trivial, ?_⟩
         refine z_done (by kernel_rfl) ?_
         clear hw9 hw8
         have HJW : Hid (J (swapL zPart L2 k (k + 1)) w9) := S.out.turn _ _ _ _ HJ2.out (swapL_perm zPart L2 (by omega) (by omega)) HSW.out HCW.out
         go_wp2
         go_roundw
         case rel => exact ⟨k + 1, _, by omega, by omega, by go_num, HRT2, HSH2, HJW⟩
         case measure => simp [intOf]; omega
       · refine wpOp_atK rfl rfl ?_
         refine wp_load_mid 99 _ rfl g ((k) * 202) rfl (partC xp) _ hr1 Try.underlying99 rfl (size_partC _) ?_
         refine ⟨Or.inr trivial, ?_⟩
         simp only [put_some, List.setIfInBounds_toArray, List.set_cons_succ, List.set_cons_zero]
         refine z_one 9 (by kernel_rfl) ?_
         refine wpOp_atK rfl rfl ?_
         refine wp_load_mid 99 _ rfl g ((k + 1) * 202) rfl (partC xq) _ hr2 Try.underlying99 rfl (size_partC _) ?_
         refine ⟨Or.inr trivial, ?_⟩
         simp only [put_some, List.setIfInBounds_toArray, List.set_cons_succ, List.set_cons_zero]
         refine z_reads 14 1 (by kernel_rfl) trivial ?_
         simp only [List.take_succ_cons, List.take_zero, List.drop_succ_cons, List.drop_zero]
         repeat (go_big_quiet_step (fail))
         refine wpQuiet_nil ?_
         refine z_one 15 (by kernel_rfl) ?_
         refine wpOp_atK rfl rfl ?_
         refine wp_store_mid 99 _ _ rfl g ((k) * 202) (partC xq).toArray rfl rfl ht1 (size_partA _) (all_oneCell_toArray (partC_one _)) ?_
         simp only [put_none, toArr_toList]
         rw [← hw8]
         refine ⟨Or.inr trivial, ?_⟩
         refine z_reads 16 1 (by kernel_rfl) trivial ?_
         simp only [List.take_succ_cons, List.take_zero, List.drop_succ_cons, List.drop_zero]
         repeat (go_big_quiet_step (fail))
         refine wpQuiet_nil ?_
         refine z_one 17 (by kernel_rfl) ?_
         refine wpOp_atK rfl rfl ?_
         refine wp_store_mid 99 _ _ rfl g ((k + 1) * 202) (partC xp).toArray rfl rfl ht2 (size_partA _) (all_oneCell_toArray (partC_one _)) ?_
         simp only [put_none, toArr_toList]
         rw [← hw9]
         refine ⟨Or.inr trivial, ?_⟩
         refine z_done (by kernel_rfl) ?_
         clear hw9 hw8
         have HJW : Hid (J (swapL zPart L2 k (k + 1)) w9) := S.out.turn _ _ _ _ HJ2.out (swapL_perm zPart L2 (by omega) (by omega)) HSW.out HCW.out
         go_wp2
         go_roundw
         case rel => exact ⟨k + 1, _, by omega, by omega, by go_num, HRT2, HSH2, HJW⟩
         case measure => simp [intOf]; omega
     · have hki' : ¬ (k : Int) < (i : Int) - 1 := by omega
       have hik : i = k + 1 := by omega
       have HF : Hid (Srt zPart key L2 a b) := by
        subst hik
        refine put_left (L := L) (i := k + 1) (by rw [← h1]; exact HS2.out) (by omega) hjb (HI.out.imp (fun h => by omega) id) HJJ.out HRT.out
       go_wp2
       (try simp only [Exit.inBlock, Exit.then])
       refine bodyPost_ret (results_none rfl _ _ _) rfl ?_
       exact ⟨rfl, L2, HJ2.out, HSH.out, HF.out⟩
theorem symRight_any (af : Nat) (cb : Array Value) (cf : PartD → PartD → Int) (key : PartD → Nat) (base g n c : Nat) (J : List PartD → World → Prop) (S : SortJ af cb cf key base g n c J) (hn : n ≤ 1000000) (a m b : Nat) (L : List PartD) (w : World) (h : J L w) (ham : a < m) (hmb : m < b) (hbn : b ≤ n) (hs1 : Srt zPart key L a m) (hs2 : Srt zPart key L m b) (h1 : m ≠ a + 1) (h2 : b = m + 1) :
  Calls Try.prog 111 #[.slice (some ⟨g, 0, none⟩) n c, .int .i64 (a : Int), .int .i64 (m : Int), .int .i64 (b : Int), .func (.func af) #[] cb] w fun e w' => e = .returned (.tuple #[]) ∧
   ∃ L', J L' w' ∧ Sh zPart L L' a b ∧ Srt zPart key L' a b := by
 have H := Lib.hid h
 have HS := Lib.hid S
 have eF := S.enter
 have HS1 := Lib.hid hs1
 have HS2 := Lib.hid hs2
 have hlen := (S.parts _ _ h).len
 have zab : (a : Int) < (m : Int) := by omega
 have zmb : (m : Int) < (b : Int) := by omega
 have zbn : (b : Int) ≤ 1000000 := by omega
 clear h S hs1 hs2
 have S := HS
 clear HS
 have d1 : ((m : Int) - (a : Int) == 1) = false := by simp; omega
 have d2 : ((b : Int) - (m : Int) == 1) = true := by simp; omega
 clear h1
 go_enter Try.func111, Try.ntmps111
 go_wp2
 go_loopw [14, 15, 16] (fun s14 s15 _ wr => ∃ i j : Nat, a ≤ i ∧ i ≤ j ∧ j ≤ m ∧ s14 = .int .i64 (i : Int) ∧ s15 = .int .i64 (j : Int) ∧ Hid (i = a ∨ kAt zPart key L (i - 1) ≤ kAt zPart key L m) ∧ Hid (j = m ∨ kAt zPart key L m ≤ kAt zPart key L j) ∧ Hid (J L wr)) (fun s14 s15 _ _ => (intOf s15).toNat - (intOf s14).toNat)
 case atStart => exact ⟨a, m, by omega, by omega, by omega, rfl, rfl, .inl rfl, .inl rfl, H⟩
 case round =>
  obtain ⟨i, j, hi1, hij, hjb, rfl, rfl, HI, HJJ, HJ⟩ := hrel
  by_cases hlt : i < j
  · have hlt' : (i : Int) < (j : Int) := by omega
    obtain ⟨q, hq⟩ : ∃ q : Nat, q = (i + j) / 2 := ⟨_, rfl⟩
    have hmid : ((i : Int) + (j : Int)) / 2 = (q : Int) := by omega
    have hq1 : i ≤ q := by omega
    have hq2 : q < j := by omega
    have hqn : (q : Int) < (n : Int) := by omega
    have han : (m : Int) < (n : Int) := by omega
    have zij : (i : Int) + (j : Int) ≤ 2000000 := by omega
    clear hq
    have h0 := S.out.parts _ _ HJ.out
    have hL2 := h0.len
    have hp1 : ∀ w', (∃ nn : ExtW wr, w' = nn.val) → w'.rangeAt g (m * 202) (partC (L.getD m zPart)) := fun w' ⟨nn, e⟩ => by rw [e]; exact part_range (h0.ext nn.ext) (by omega)
    have hp2 : ∀ w', (∃ nn : ExtW wr, w' = nn.val) → w'.rangeAt g (q * 202) (partC (L.getD q zPart)) := fun w' ⟨nn, e⟩ => by rw [e]; exact part_range (h0.ext nn.ext) (by omega)
    have HCM : Hid (∀ nn : ExtW wr, Calls Try.prog af (#[partV (L.getD m zPart), partV (L.getD q zPart)] ++ cb) nn.val fun e w'' => e = .returned (.int .i64 (cf (L.getD m zPart) (L.getD q zPart))) ∧ ∃ q : ExtW wr, w'' = q.val) := fun nn => quiet_ext (S.out.cmp _ _ (S.out.ext HJ.out nn.ext) _ _ (getD_memQ (by omega)) (getD_memQ (by omega)))
    have HLS := Lib.hid (S.out.less _ _ HJ.out _ _ (getD_memQ (L := L) (k := m) (by omega)) (getD_memQ (L := L) (k := q) (by omega)))
    obtain ⟨cc, hcc⟩ : ∃ cc, cc = cf (L.getD m zPart) (L.getD q zPart) := ⟨_, rfl⟩
    rw [← hcc] at HCM HLS
    obtain ⟨xj, hxj⟩ : ∃ xj, xj = L.getD m zPart := ⟨_, rfl⟩
    obtain ⟨xp, hxp⟩ : ∃ xp, xp = L.getD q zPart := ⟨_, rfl⟩
    rw [← hxj] at hp1 HCM
    rw [← hxp] at hp2 HCM
    clear hcc hxj hxp h0
    go_wp2
    refine region_ext (by kernel_rfl) (by kernel_rfl) ?_
    repeat (first
     | go_big_quiet_skip
     | (refine wpQuiet_load_mid (o := ⟨some 96, .load 99 _, _, _, _, _⟩) (by rfl) 99 _ rfl g (m * 202) rfl (partC xj) _ hp1 Try.underlying99 rfl (size_partC _) ?_; simp only [put_some, List.setIfInBounds_toArray, List.set_cons_succ, List.set_cons_zero])
     | (refine wpQuiet_load_mid (o := ⟨some 100, .load 99 _, _, _, _, _⟩) (by rfl) 99 _ rfl g (q * 202) rfl (partC xp) _ hp2 Try.underlying99 rfl (size_partC _) ?_; simp only [put_some, List.setIfInBounds_toArray, List.set_cons_succ, List.set_cons_zero])
     | go_big_quiet_step (first | (go_at_fn af; exact HCM.out _)))
    refine wpQuiet_nil ?_
    intro _ hw'
    obtain ⟨n', rfl⟩ := hw'
    have HJ1 := Lib.hid (S.out.ext HJ.out n'.ext)
    generalize n'.val = W8 at *
    clear hp1 hp2 HCM
    by_cases hlv : cc < 0
    · have dcc : decide (cc < 0) = true := by simpa using hlv
      simp only [dcc, Bool.not_true]
      have HJ2 : Hid (q = m ∨ kAt zPart key L m ≤ kAt zPart key L q) := .inr (Nat.le_of_lt (HLS.out.1 hlv))
      clear HLS
      go_wp2
      go_roundw
      case rel => exact ⟨i, q, hi1, hq1, by omega, rfl, rfl, HI, HJ2, HJ1⟩
      case measure => simp [intOf]; omega
    · have dcc : decide (cc < 0) = false := by simpa using hlv
      simp only [dcc, Bool.not_false]
      have HI2 : Hid (q + 1 = a ∨ kAt zPart key L (q + 1 - 1) ≤ kAt zPart key L m) := .inr (Nat.le_of_not_lt fun h => hlv (HLS.out.2 h))
      clear HLS
      go_wp2
      go_roundw
      case rel => exact ⟨q + 1, j, by omega, by omega, hjb, by go_num, rfl, HI2, HJJ, HJ1⟩
      case measure => simp [intOf]; omega
  · obtain rfl : i = j := by omega
    have hlt' : ¬ (i : Int) < (i : Int) := by omega
    clear hlt
    go_wp2
    go_loopw [17] (fun s17 wi => ∃ (k : Nat) (L2 : List PartD), i ≤ k ∧ k ≤ m ∧ s17 = .int .i64 (k : Int) ∧ Hid (∀ x, L2.getD x zPart = rotR (fun x => L.getD x zPart) k m (m + 1) x) ∧ Hid (Sh zPart L L2 a b) ∧ Hid (J L2 wi)) (fun s17 _ => (intOf s17).toNat)
    case atStart => exact ⟨m, L, by omega, by omega, rfl, fun x => by rw [bub_zero2], Sh.refl _ _ _, HJ⟩
    case round =>
     obtain ⟨k, L2, hk1, hk2, rfl, HRT, HSH, HJ2⟩ := hrel
     by_cases hki : i < k
     · have hki' : (k : Int) > (i : Int) := by omega
       have hki2 : (i : Int) < (k : Int) := by omega
       obtain ⟨kp, hkp⟩ : ∃ kp, k = kp + 1 := ⟨k - 1, by omega⟩
       have h9 := S.out.parts _ _ HJ2.out
       have hL2 := h9.len
       have HRT2 : Hid (∀ x, (swapL zPart L2 k (k - 1)).getD x zPart = rotR (fun x => L.getD x zPart) (k - 1) m (m + 1) x) := fun x => by
        rw [swapL_at zPart L2 (by omega) (by omega), hkp, Nat.add_sub_cancel, ← bub_down _ (show kp + 1 ≤ m by omega), HRT.out, HRT.out, HRT.out, hkp]
       have HSH2 : Hid (Sh zPart L (swapL zPart L2 k (k - 1)) a b) := HSH.out.trans (Sh.swap L2 (by omega) (by omega) (by omega))
       have hji : ((k : Int) - 1).toNat = k - 1 := by omega
       have hjj : (0 : Int) ≤ (k : Int) - 1 := by omega
       have hjk : (k : Int) - 1 < (n : Int) := by omega
       have hjl : (k : Int) < (n : Int) := by omega
       clear hkp
       go_wp2
       have h1 := PartsIn.drew h9
       have hr1 := part_range h1 (k := k) (by omega)
       have hr2 := part_range h1 (k := k - 1) (by omega)
       have ht1 := part_there h1 (k := k) (by omega) (L2.getD (k - 1) zPart)
       have h2 := part_set h1 (k := k) (by omega) (L2.getD (k - 1) zPart)
       have ht2 := part_there h2 (k := k - 1) (by omega) (L2.getD (k) zPart)
       have h3 := part_set h2 (k := k - 1) (by omega) (L2.getD (k) zPart)
       obtain ⟨w8, hw8⟩ : ∃ w8, w8 = wr.drew.setCells g ((k) * 202) (partC (L2.getD (k - 1) zPart)) := ⟨_, rfl⟩
       rw [← hw8] at ht2 h3
       obtain ⟨w9, hw9⟩ : ∃ w9, w9 = w8.setCells g ((k - 1) * 202) (partC (L2.getD (k) zPart)) := ⟨_, rfl⟩
       rw [← hw9] at h3
       have HSW : Hid (PartsIn w9 base (.slice (some ⟨g, 0, none⟩) n c) (swapL zPart L2 (k) (k - 1))) := h3
       have HCW : Hid (Chg (fun k => k = g) wr w9) := by
        rw [Hid, hw9, hw8]
        exact chg_setCells (S := fun k => k = g) rfl _ _ _ (chg_setCells (S := fun k => k = g) rfl _ _ _ ((Chg.refl _ _).drewN 1))
       clear h1 h2 h3
       generalize L2.getD (k) zPart = xp at *
       generalize L2.getD (k - 1) zPart = xq at *
       refine z_start (fun _ => True) (by kernel_rfl) ?_
       refine z_reads 0 9 (by kernel_rfl) trivial ?_
       simp only [List.take_succ_cons, List.take_zero, List.drop_succ_cons, List.drop_zero]
       repeat (go_big_quiet_step (fail))
       refine wpQuiet_nil ?_
       refine z_reads 10 3 (by kernel_rfl) trivial ?_
       simp only [List.take_succ_cons, List.take_zero, List.drop_succ_cons, List.drop_zero]
       repeat (go_big_quiet_step (fail))
       refine wpQuiet_nil ?_
       refine z_two 9 13 (by kernel_rfl) ?_ ?_
       · refine wpOp_atK rfl rfl ?_
         refine wp_load_mid 99 _ rfl g ((k - 1) * 202) rfl (partC xq) _ hr2 Try.underlying99 rfl (size_partC _) ?_
         refine ⟨Or.inr trivial, ?_⟩
         simp only [put_some, List.setIfInBounds_toArray, List.set_cons_succ, List.set_cons_zero]
         refine z_one 13 (by kernel_rfl) ?_
         refine wpOp_atK rfl rfl ?_
         refine wp_load_mid 99 _ rfl g ((k) * 202) rfl (partC xp) _ hr1 Try.underlying99 rfl (size_partC _) ?_
         refine ⟨Or.inr trivial, ?_⟩
         simp only [put_some, List.setIfInBounds_toArray, List.set_cons_succ, List.set_cons_zero]
         refine z_reads 14 1 (by kernel_rfl) trivial ?_
         simp only [List.take_succ_cons, List.take_zero, List.drop_succ_cons, List.drop_zero]
         repeat (go_big_quiet_step (fail))
         refine wpQuiet_nil ?_
         refine z_one 15 (by kernel_rfl) ?_
         refine wpOp_atK rfl rfl ?_
         refine wp_store_mid 99 _ _ rfl g ((k) * 202) (partC xq).toArray rfl rfl ht1 (size_partA _) (all_oneCell_toArray (partC_one _)) ?_
         simp only [put_none, toArr_toList]
         rw [← hw8]
         refine ⟨Or.inr trivial, ?_⟩
         refine z_reads 16 1 (by kernel_rfl) trivial ?_
         simp only [List.take_succ_cons, List.take_zero, List.drop_succ_cons, List.drop_zero]
         repeat (go_big_quiet_step (fail))
         refine wpQuiet_nil ?_
         refine z_one 17 (by kernel_rfl) ?_
         refine wpOp_atK rfl rfl ?_
         refine wp_store_mid 99 _ _ rfl g ((k - 1) * 202) (partC xp).toArray rfl rfl ht2 (size_partA _) (all_oneCell_toArray (partC_one _)) ?_
         simp only [put_none, toArr_toList]
         rw [← hw9]
         refine ⟨Or.inr trivial, ?_⟩
         refine z_done (by kernel_rfl) ?_
         clear hw9 hw8
         have HJW : Hid (J (swapL zPart L2 k (k - 1)) w9) := S.out.turn _ _ _ _ HJ2.out (swapL_perm zPart L2 (by omega) (by omega)) HSW.out HCW.out
         go_wp2
         go_roundw
         case rel => exact ⟨k - 1, _, by omega, by omega, by go_num, HRT2, HSH2, HJW⟩
         case measure => simp [intOf]; omega
       · refine wpOp_atK rfl rfl ?_
         refine wp_load_mid 99 _ rfl g ((k) * 202) rfl (partC xp) _ hr1 Try.underlying99 rfl (size_partC _) ?_
         refine ⟨Or.inr trivial, ?_⟩
         simp only [put_some, List.setIfInBounds_toArray, List.set_cons_succ, List.set_cons_zero]
         refine z_one 9 (by kernel_rfl) ?_
         refine wpOp_atK rfl rfl ?_
         refine wp_load_mid 99 _ rfl g ((k - 1) * 202) rfl (partC xq) _ hr2 Try.underlying99 rfl (size_partC _) ?_
         refine ⟨Or.inr trivial, ?_⟩
         simp only [put_some, List.setIfInBounds_toArray, List.set_cons_succ, List.set_cons_zero]
         refine z_reads 14 1 (by kernel_rfl) trivial ?_
         simp only [List.take_succ_cons, List.take_zero, List.drop_succ_cons, List.drop_zero]
         repeat (go_big_quiet_step (fail))
         refine wpQuiet_nil ?_
         refine z_one 15 (by kernel_rfl) ?_
         refine wpOp_atK rfl rfl ?_
         refine wp_store_mid 99 _ _ rfl g ((k) * 202) (partC xq).toArray rfl rfl ht1 (size_partA _) (all_oneCell_toArray (partC_one _)) ?_
         simp only [put_none, toArr_toList]
         rw [← hw8]
         refine ⟨Or.inr trivial, ?_⟩
         refine z_reads 16 1 (by kernel_rfl) trivial ?_
         simp only [List.take_succ_cons, List.take_zero, List.drop_succ_cons, List.drop_zero]
         repeat (go_big_quiet_step (fail))
         refine wpQuiet_nil ?_
         refine z_one 17 (by kernel_rfl) ?_
         refine wpOp_atK rfl rfl ?_
         refine wp_store_mid 99 _ _ rfl g ((k - 1) * 202) (partC xp).toArray rfl rfl ht2 (size_partA _) (all_oneCell_toArray (partC_one _)) ?_
         simp only [put_none, toArr_toList]
         rw [← hw9]
         refine ⟨Or.inr trivial, ?_⟩
         refine z_done (by kernel_rfl) ?_
         clear hw9 hw8
         have HJW : Hid (J (swapL zPart L2 k (k - 1)) w9) := S.out.turn _ _ _ _ HJ2.out (swapL_perm zPart L2 (by omega) (by omega)) HSW.out HCW.out
         go_wp2
         go_roundw
         case rel => exact ⟨k - 1, _, by omega, by omega, by go_num, HRT2, HSH2, HJW⟩
         case measure => simp [intOf]; omega
     · have hki' : ¬ (k : Int) > (i : Int) := by omega
       have hki2 : ¬ (i : Int) < (k : Int) := by omega
       have hik : k = i := by omega
       have HF : Hid (Srt zPart key L2 a b) := by
        subst hik
        rw [h2]
        exact put_right (L := L) HS1.out hi1 hjb HI.out HJJ.out HRT.out
       go_wp2
       (try simp only [Exit.inBlock, Exit.then])
       refine bodyPost_ret (results_none rfl _ _ _) rfl ?_
       exact ⟨rfl, L2, HJ2.out, by first | exact HSH.out | (rw [← h2]; exact HSH.out), by first | exact HF.out | (rw [← h2]; exact HF.out)⟩
end
end Go.Proofs.Ytblhmdhfhaencaa
