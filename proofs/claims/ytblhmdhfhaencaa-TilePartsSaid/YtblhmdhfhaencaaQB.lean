/-
 Parts of a function: rotated, sorted by insertion. (Printed by gen_sort.py.)
-/
import Derived.Test.YtblhmdhfhaencaaQA
import Derived.Test.YtblhmdhfhaencaaRowG
namespace Go.Proofs.Ytblhmdhfhaencaa
set_option linter.unusedSimpArgs false
set_option linter.unusedVariables false
set_option linter.unusedSectionVars false
set_option maxRecDepth 100000
set_option maxHeartbeats 40000000
section
open Go.RowKit Go.Shelf

theorem rotate_any (g n c a m b base : Nat) (fv : Value) (L : List PartD) (w : World) (h : PartsIn w base (.slice (some ⟨g, 0, none⟩) n c) L) (hn : n ≤ 1000000) (ham : a < m) (hmb : m < b) (hbn : b ≤ n) :
  Calls Try.prog 122 #[.slice (some ⟨g, 0, none⟩) n c, .int .i64 (a : Int), .int .i64 (m : Int), .int .i64 (b : Int), fv] w fun e w' => e = .returned (.tuple #[]) ∧
   ∃ L', PartsIn w' base (.slice (some ⟨g, 0, none⟩) n c) L' ∧ Sh zPart L L' a b ∧ (∀ k, L'.getD k zPart = rotR (fun k => L.getD k zPart) a m b k) ∧ Chg (fun k => k = g) w w' := by
 have H := Lib.hid h
 clear h
 go_enter Try.func122, Try.ntmps122
 go_wp2
 go_loopw [10, 11] (fun s10 s11 wr => ∃ (i j : Nat) (L1 : List PartD), s10 = .int .i64 (i : Int) ∧ s11 = .int .i64 (j : Int) ∧ 0 < i ∧ 0 < j ∧ a + i ≤ m ∧ m + j ≤ b ∧ Hid (PartsIn wr base (.slice (some ⟨g, 0, none⟩) n c) L1 ∧ Sh zPart L L1 a b ∧ rotR (fun k => L1.getD k zPart) (m - i) m (m + j) = rotR (fun k => L.getD k zPart) a m b ∧ Chg (fun k => k = g) w wr)) (fun s10 s11 _ => (intOf s10).toNat + (intOf s11).toNat)
 case atStart => exact ⟨m - a, b - m, L, by go_num, by go_num, by omega, by omega, by omega, by omega, H.out, Sh.refl _ _ _, by rw [show m - (m - a) = a by omega, show m + (b - m) = b by omega], Chg.refl _ _⟩
 case round =>
  obtain ⟨i, j, L1, rfl, rfl, hi, hj, him, hjb, HJ⟩ := hrel
  have z1 : (i : Int) ≤ (m : Int) := by omega
  have z2 : (m : Int) + (j : Int) ≤ 1000000 := by omega
  by_cases hij : i = j
  · subst hij
    go_wp2_with (
     (go_at_call 124
      refine (swapRange_anyZ g n c (m - i) m i base _ _ _ fv L1 wr HJ.out.1 hn (by omega) (by omega) (by omega) (by omega) (by omega)).mono ?_
      rintro e w2 ⟨rfl, L2, q1, q2, q3, q4⟩
      have HJ2 : Hid (PartsIn w2 base (.slice (some ⟨g, 0, none⟩) n c) L2 ∧ Sh zPart L L2 a b ∧ (∀ k, L2.getD k zPart = rotR (fun k => L.getD k zPart) a m b k) ∧ Chg (fun k => k = g) w w2) :=
       ⟨q1, HJ.out.2.1.trans (q2.mono (by omega) (by omega)), fun k => by rw [q3, rot_last _ (by omega), HJ.out.2.2.1], HJ.out.2.2.2.trans q4⟩
      clear q1 q2 q3 q4))
    go_end0
    exact ⟨rfl, L2, HJ2.out⟩
  · have dne : ((i : Int) != (j : Int)) = true := by simp; omega
    by_cases hlt : j < i
    · have dgt : decide ((i : Int) > (j : Int)) = true := by simp; omega
      have dgt2 : decide ((j : Int) < (i : Int)) = true := by simp; omega
      have dgt3 : decide (j < i) = true := by simp; omega
      clear hij
      go_wp2_with (
       (go_at_call 124
        refine (swapRange_anyZ g n c (m - i) m j base _ _ _ fv L1 wr HJ.out.1 hn (by omega) (by omega) (by omega) (by omega) (by omega)).mono ?_
        rintro e w2 ⟨rfl, L2, q1, q2, q3, q4⟩
        have HJ2 : Hid (PartsIn w2 base (.slice (some ⟨g, 0, none⟩) n c) L2 ∧ Sh zPart L L2 a b ∧ rotR (fun k => L2.getD k zPart) (m - (i - j)) m (m + j) = rotR (fun k => L.getD k zPart) a m b ∧ Chg (fun k => k = g) w w2) :=
         ⟨q1, HJ.out.2.1.trans (q2.mono (by omega) (by omega)), by rw [← HJ.out.2.2.1, ← rot_step1 _ (by omega) hlt]; congr 1; funext k; exact q3 k, HJ.out.2.2.2.trans q4⟩
        clear q1 q2 q3 q4))
      go_roundw
      case rel => exact ⟨i - j, j, L2, by go_num, rfl, by omega, hj, by omega, hjb, HJ2⟩
      case measure => simp [intOf]; omega
    · have dgt : decide ((i : Int) > (j : Int)) = false := by simp; omega
      have dgt2 : decide ((j : Int) < (i : Int)) = false := by simp; omega
      have dgt3 : decide (j < i) = false := by simp; omega
      have hlt2 : i < j := by omega
      clear hij
      go_wp2_with (
       (go_at_call 124
        refine (swapRange_anyZ g n c (m - i) (m + j - i) i base _ _ _ fv L1 wr HJ.out.1 hn (by omega) (by omega) (by omega) (by omega) (by omega)).mono ?_
        rintro e w2 ⟨rfl, L2, q1, q2, q3, q4⟩
        have HJ2 : Hid (PartsIn w2 base (.slice (some ⟨g, 0, none⟩) n c) L2 ∧ Sh zPart L L2 a b ∧ rotR (fun k => L2.getD k zPart) (m - i) m (m + (j - i)) = rotR (fun k => L.getD k zPart) a m b ∧ Chg (fun k => k = g) w w2) :=
         ⟨q1, HJ.out.2.1.trans (q2.mono (by omega) (by omega)), by rw [← HJ.out.2.2.1, ← rot_step2 _ (by omega) hlt2]; congr 1; funext k; exact q3 k, HJ.out.2.2.2.trans q4⟩
        clear q1 q2 q3 q4))
      go_roundw
      case rel => exact ⟨i, j - i, L2, rfl, by go_num, hi, by omega, him, by omega, HJ2⟩
      case measure => simp [intOf]; omega
/-- what the sort asks of its comparison, and of what surrounds the row -/
structure SortJ (af : Nat) (cb : Array Value) (cf : PartD → PartD → Int) (key : PartD → Nat) (base g n c : Nat) (J : List PartD → World → Prop) : Prop where
 enter : ∀ args w, (callFunc af args).run Try.prog w = .ok (.enter af args) w
 cmp : ∀ L W, J L W → ∀ p q, p ∈ L → q ∈ L → Calls Try.prog af (#[partV p, partV q] ++ cb) W fun e W' => e = .returned (.int .i64 (cf p q)) ∧ Below W.heap.size W W'
 less : ∀ L W, J L W → ∀ p q, p ∈ L → q ∈ L → (cf p q < 0 ↔ key p < key q)
 parts : ∀ L W, J L W → PartsIn W base (.slice (some ⟨g, 0, none⟩) n c) L
 turn : ∀ L L' W W', J L W → L'.Perm L → PartsIn W' base (.slice (some ⟨g, 0, none⟩) n c) L' → Chg (fun k => k = g) W W' → J L' W'
theorem SortJ.ext {af : Nat} {cb : Array Value} {cf : PartD → PartD → Int} {key : PartD → Nat} {base g n c : Nat} {J : List PartD → World → Prop} (S : SortJ af cb cf key base g n c J) {L : List PartD} {W W' : World} (h : J L W) (hb : Below W.heap.size W W') : J L W' :=
 S.turn L L W W' h (List.Perm.refl _) ((S.parts L W h).ext hb) ((chg_below hb).mono fun k hk => hk.elim)
theorem getD_memQ {L : List PartD} {k : Nat} (h : k < L.length) : L.getD k zPart ∈ L := by
 rw [List.getD_eq_getElem?_getD, List.getElem?_eq_getElem h]; exact List.getElem_mem _
theorem insertion_any (af : Nat) (cb : Array Value) (cf : PartD → PartD → Int) (key : PartD → Nat) (base g n c : Nat) (J : List PartD → World → Prop) (S : SortJ af cb cf key base g n c J) (a b : Nat) (L : List PartD) (w : World) (h : J L w) (hn : n ≤ 1000000) (hab : a ≤ b) (hbn : b ≤ n) :
  Calls Try.prog 110 #[.slice (some ⟨g, 0, none⟩) n c, .int .i64 (a : Int), .int .i64 (b : Int), .func (.func af) #[] cb] w fun e w' => e = .returned (.tuple #[]) ∧
   ∃ L', J L' w' ∧ Sh zPart L L' a b ∧ Srt zPart key L' a b := by
 have H := Lib.hid h
 have HS := Lib.hid S
 have eF := S.enter
 clear h S
 have S := HS
 clear HS
 go_enter Try.func110, Try.ntmps110
 go_wp2
 go_loopw [8, 9] (fun s8 _ wr => ∃ (i : Nat) (L1 : List PartD), a + 1 ≤ i ∧ (i ≤ b ∨ i = a + 1) ∧ s8 = .int .i64 (i : Int) ∧ Hid (Srt zPart key L1 a i) ∧ Hid (Sh zPart L L1 a b) ∧ Hid (J L1 wr)) (fun s8 _ _ => b + 1 - (intOf s8).toNat)
 case atStart => exact ⟨a + 1, L, by omega, .inr rfl, by go_num, Srt.one key _ (by omega), Sh.refl _ _ _, H⟩
 case round =>
  obtain ⟨i, L1, hi1, hi2, rfl, HSR, HSH1, HJ1⟩ := hrel
  by_cases hlt : i < b
  · have hlt' : (i : Int) < (b : Int) := by omega
    go_wp2
    go_loopw [9] (fun s9 wi => ∃ (j : Nat) (L2 : List PartD), j ≤ i ∧ s9 = .int .i64 (j : Int) ∧ Hid (InsJ zPart key L2 a i j) ∧ Hid (Sh zPart L L2 a b) ∧ Hid (J L2 wi)) (fun s9 _ => (intOf s9).toNat)
    case atStart => exact ⟨i, L1, by omega, rfl, InsJ.start key HSR.out (by omega), HSH1, HJ1⟩
    case round =>
     obtain ⟨j, L2, hj, rfl, HIJ0, HSH0, HJ⟩ := hrel
     clear HSR HSH1 HJ1
     have haj := HIJ0.out.low.1
     by_cases hja : a < j
     · have dj : decide ((j : Int) > (a : Int)) = true := by simp; omega
       have dj2 : decide ((a : Int) < (j : Int)) = true := by simp; omega
       have dj3 : decide (a < j) = true := by simp; omega
       by_cases hcv : True
       · skip
         have h0 := S.out.parts _ _ HJ.out
         have hL2 := h0.len
         have hp1 : ∀ w', (∃ m : ExtW wr, w' = m.val) → w'.rangeAt g (j * 202) (partC (L2.getD j zPart)) := fun w' ⟨m, e⟩ => by rw [e]; exact part_range (h0.ext m.ext) (by omega)
         have hp2 : ∀ w', (∃ m : ExtW wr, w' = m.val) → w'.rangeAt g ((j - 1) * 202) (partC (L2.getD (j - 1) zPart)) := fun w' ⟨m, e⟩ => by rw [e]; exact part_range (h0.ext m.ext) (by omega)
         have HCM : Hid (∀ m : ExtW wr, Calls Try.prog af (#[partV (L2.getD j zPart), partV (L2.getD (j - 1) zPart)] ++ cb) m.val fun e w'' => e = .returned (.int .i64 (cf (L2.getD j zPart) (L2.getD (j - 1) zPart))) ∧ ∃ q : ExtW wr, w'' = q.val) := fun m => quiet_ext (S.out.cmp _ _ (S.out.ext HJ.out m.ext) _ _ (getD_memQ (by omega)) (getD_memQ (by omega)))
         have HLS := Lib.hid (S.out.less _ _ HJ.out _ _ (getD_memQ (L := L2) (k := j) (by omega)) (getD_memQ (L := L2) (k := j - 1) (by omega)))
         obtain ⟨cc, hcc⟩ : ∃ cc, cc = cf (L2.getD j zPart) (L2.getD (j - 1) zPart) := ⟨_, rfl⟩
         rw [← hcc] at HCM HLS
         obtain ⟨xj, hxj⟩ : ∃ xj, xj = L2.getD j zPart := ⟨_, rfl⟩
         obtain ⟨xp, hxp⟩ : ∃ xp, xp = L2.getD (j - 1) zPart := ⟨_, rfl⟩
         rw [← hxj] at hp1 HCM
         rw [← hxp] at hp2 HCM
         have hji : ((j : Int) - 1).toNat = j - 1 := by omega
         have hjj : (0 : Int) ≤ (j : Int) - 1 := by omega
         have hjk : (j : Int) - 1 < (n : Int) := by omega
         have hjl : (j : Int) < (n : Int) := by omega
         clear hcc hxj hxp h0
         go_wp2
         refine region_ext (by kernel_rfl) (by kernel_rfl) ?_
         repeat (first
          | go_big_quiet_skip
          | (refine wpQuiet_load_mid (o := ⟨some 26, .load 99 _, _, _, _, _⟩) (by rfl) 99 _ rfl g (j * 202) rfl (partC xj) _ hp1 Try.underlying99 rfl (size_partC _) ?_; simp only [put_some, List.setIfInBounds_toArray, List.set_cons_succ, List.set_cons_zero])
          | (refine wpQuiet_load_mid (o := ⟨some 31, .load 99 _, _, _, _, _⟩) (by rfl) 99 _ rfl g ((j - 1) * 202) rfl (partC xp) _ hp2 Try.underlying99 rfl (size_partC _) ?_; simp only [put_some, List.setIfInBounds_toArray, List.set_cons_succ, List.set_cons_zero])
          | go_big_quiet_step (first | (go_at_fn af; exact HCM.out _)))
         refine wpQuiet_nil ?_
         intro _ hw'
         obtain ⟨n', rfl⟩ := hw'
         have HJ1 := Lib.hid (S.out.ext HJ.out n'.ext)
         generalize n'.val = W8 at *
         clear hp1 hp2 HCM
         by_cases hlv : cc < 0
         · have dcc : decide (cc < 0) = true := by simpa using hlv
           have hkk := HLS.out.1 hlv
           have HIJ : Hid (InsJ zPart key (swapL zPart L2 j (j - 1)) a i (j - 1)) := HIJ0.out.step key hja (by omega) (Nat.le_of_lt hkk)
           have HSH : Hid (Sh zPart L (swapL zPart L2 j (j - 1)) a b) := HSH0.out.trans (Sh.swap L2 (by omega) (by omega) (by omega))
           have h9 := S.out.parts _ _ HJ1.out
           clear hkk HLS
           go_wp2
           have h1 := PartsIn.drew h9
           have hr1 := part_range h1 (k := j) (by omega)
           have hr2 := part_range h1 (k := j - 1) (by omega)
           have ht1 := part_there h1 (k := j) (by omega) (L2.getD (j - 1) zPart)
           have h2 := part_set h1 (k := j) (by omega) (L2.getD (j - 1) zPart)
           have ht2 := part_there h2 (k := j - 1) (by omega) (L2.getD (j) zPart)
           have h3 := part_set h2 (k := j - 1) (by omega) (L2.getD (j) zPart)
           obtain ⟨w8, hw8⟩ : ∃ w8, w8 = W8.drew.setCells g ((j) * 202) (partC (L2.getD (j - 1) zPart)) := ⟨_, rfl⟩
           rw [← hw8] at ht2 h3
           obtain ⟨w9, hw9⟩ : ∃ w9, w9 = w8.setCells g ((j - 1) * 202) (partC (L2.getD (j) zPart)) := ⟨_, rfl⟩
           rw [← hw9] at h3
           have HSW : Hid (PartsIn w9 base (.slice (some ⟨g, 0, none⟩) n c) (swapL zPart L2 (j) (j - 1))) := h3
           have HCW : Hid (Chg (fun k => k = g) W8 w9) := by
            rw [Hid, hw9, hw8]
            exact chg_setCells (S := fun k => k = g) rfl _ _ _ (chg_setCells (S := fun k => k = g) rfl _ _ _ ((Chg.refl _ _).drewN 1))
           clear h1 h2 h3
           generalize L2.getD (j) zPart = xp at *
           generalize L2.getD (j - 1) zPart = xq at *
           refine z_start (fun _ => True) (by kernel_rfl) ?_
           refine z_reads 0 9 (by kernel_rfl) trivial ?_
           simp only [List.take_succ_cons, List.take_zero, List.drop_succ_cons, List.drop_zero]
           repeat (go_big_quiet_step (fail))
           refine wpQuiet_nil ?_
           refine z_reads 10 3 (by kernel_rfl) trivial ?_
           simp only [List.take_succ_cons, List.take_zero, List.drop_succ_cons, List.drop_zero]
           repeat (go_big_quiet_step (fail))
           refine wpQuiet_nil ?_
           refine z_two 9 13 (by kernel_rfl) ?_ ?_
           · refine wpOp_atK rfl rfl ?_
             refine wp_load_mid 99 _ rfl g ((j - 1) * 202) rfl (partC xq) _ hr2 Try.underlying99 rfl (size_partC _) ?_
             refine ⟨Or.inr trivial, ?_⟩
             simp only [put_some, List.setIfInBounds_toArray, List.set_cons_succ, List.set_cons_zero]
             refine z_one 13 (by kernel_rfl) ?_
             refine wpOp_atK rfl rfl ?_
             refine wp_load_mid 99 _ rfl g ((j) * 202) rfl (partC xp) _ hr1 Try.underlying99 rfl (size_partC _) ?_
             refine ⟨Or.inr trivial, ?_⟩
             simp only [put_some, List.setIfInBounds_toArray, List.set_cons_succ, List.set_cons_zero]
             refine z_reads 14 1 (by kernel_rfl) trivial ?_
             simp only [List.take_succ_cons, List.take_zero, List.drop_succ_cons, List.drop_zero]
             repeat (go_big_quiet_step (fail))
             refine wpQuiet_nil ?_
             refine z_one 15 (by kernel_rfl) ?_
             refine wpOp_atK rfl rfl ?_
             refine wp_store_mid 99 _ _ rfl g ((j) * 202) (partC xq).toArray rfl rfl ht1 (size_partA _) (all_oneCell_toArray (partC_one _)) ?_
             simp only [put_none, toArr_toList]
             rw [← hw8]
             refine ⟨Or.inr trivial, ?_⟩
             refine z_reads 16 1 (by kernel_rfl) trivial ?_
             simp only [List.take_succ_cons, List.take_zero, List.drop_succ_cons, List.drop_zero]
             repeat (go_big_quiet_step (fail))
             refine wpQuiet_nil ?_
             refine z_one 17 (by kernel_rfl) ?_
             refine wpOp_atK rfl rfl ?_
             refine wp_store_mid 99 _ _ rfl g ((j - 1) * 202) (partC xp).toArray rfl rfl ht2 (size_partA _) (all_oneCell_toArray (partC_one _)) ?_
             simp only [put_none, toArr_toList]
             rw [← hw9]
             refine ⟨Or.inr trivial, ?_⟩
             refine z_done (by kernel_rfl) ?_
             clear hw9 hw8
             have HJW : Hid (J (swapL zPart L2 j (j - 1)) w9) := S.out.turn _ _ _ _ HJ1.out (swapL_perm zPart L2 (by omega) (by omega)) HSW.out HCW.out
             go_wp2
             go_roundw
             case rel => exact ⟨j - 1, _, by omega, by go_num, HIJ, HSH, HJW⟩
             case measure => simp [intOf]; omega
           · refine wpOp_atK rfl rfl ?_
             refine wp_load_mid 99 _ rfl g ((j) * 202) rfl (partC xp) _ hr1 Try.underlying99 rfl (size_partC _) ?_
             refine ⟨Or.inr trivial, ?_⟩
             simp only [put_some, List.setIfInBounds_toArray, List.set_cons_succ, List.set_cons_zero]
             refine z_one 9 (by kernel_rfl) ?_
             refine wpOp_atK rfl rfl ?_
             refine wp_load_mid 99 _ rfl g ((j - 1) * 202) rfl (partC xq) _ hr2 Try.underlying99 rfl (size_partC _) ?_
             refine ⟨Or.inr trivial, ?_⟩
             simp only [put_some, List.setIfInBounds_toArray, List.set_cons_succ, List.set_cons_zero]
             refine z_reads 14 1 (by kernel_rfl) trivial ?_
             simp only [List.take_succ_cons, List.take_zero, List.drop_succ_cons, List.drop_zero]
             repeat (go_big_quiet_step (fail))
             refine wpQuiet_nil ?_
             refine z_one 15 (by kernel_rfl) ?_
             refine wpOp_atK rfl rfl ?_
             refine wp_store_mid 99 _ _ rfl g ((j) * 202) (partC xq).toArray rfl rfl ht1 (size_partA _) (all_oneCell_toArray (partC_one _)) ?_
             simp only [put_none, toArr_toList]
             rw [← hw8]
             refine ⟨Or.inr trivial, ?_⟩
             refine z_reads 16 1 (by kernel_rfl) trivial ?_
             simp only [List.take_succ_cons, List.take_zero, List.drop_succ_cons, List.drop_zero]
             repeat (go_big_quiet_step (fail))
             refine wpQuiet_nil ?_
             refine z_one 17 (by kernel_rfl) ?_
             refine wpOp_atK rfl rfl ?_
             refine wp_store_mid 99 _ _ rfl g ((j - 1) * 202) (partC xp).toArray rfl rfl ht2 (size_partA _) (all_oneCell_toArray (partC_one _)) ?_
             simp only [put_none, toArr_toList]
             rw [← hw9]
             refine ⟨Or.inr trivial, ?_⟩
             refine z_done (by kernel_rfl) ?_
             clear hw9 hw8
             have HJW : Hid (J (swapL zPart L2 j (j - 1)) w9) := S.out.turn _ _ _ _ HJ1.out (swapL_perm zPart L2 (by omega) (by omega)) HSW.out HCW.out
             go_wp2
             go_roundw
             case rel => exact ⟨j - 1, _, by omega, by go_num, HIJ, HSH, HJW⟩
             case measure => simp [intOf]; omega
         · have dcc : decide (cc < 0) = false := by simpa using hlv
           have HSR2 : Hid (Srt zPart key L2 a (i + 1)) := HIJ0.out.fin key (.inr (Nat.le_of_not_lt fun h => hlv (HLS.out.2 h)))
           clear HLS
           go_wp2
           go_roundw
           case rel => exact ⟨i + 1, L2, by omega, .inl (by omega), by go_num, HSR2, HSH0, HJ1⟩
           case measure => simp [intOf]; omega
       · exact absurd trivial hcv
     · have dj : decide ((j : Int) > (a : Int)) = false := by simp; omega
       have dj2 : decide ((a : Int) < (j : Int)) = false := by simp; omega
       have dj3 : decide (a < j) = false := by simp; omega
       have HSR2 : Hid (Srt zPart key L2 a (i + 1)) := HIJ0.out.fin key (.inl (by omega))
       go_wp2
       refine region_ext (by kernel_rfl) (by kernel_rfl) ?_
       repeat (first
        | go_big_quiet_skip
        | go_big_quiet_step (fail))
       refine wpQuiet_nil ?_
       intro _ hw'
       obtain ⟨n', rfl⟩ := hw'
       have HJ1 := Lib.hid (S.out.ext HJ.out n'.ext)
       generalize n'.val = W8 at *
       go_wp2
       go_roundw
       case rel => exact ⟨i + 1, L2, by omega, .inl (by omega), by go_num, HSR2, HSH0, HJ1⟩
       case measure => simp [intOf]; omega
  · have hlt' : ¬ (i : Int) < (b : Int) := by omega
    have HF : Hid (Srt zPart key L1 a b) := by
     by_cases e : i = b
     · subst e; exact HSR.out
     · exact Srt.one key _ (by omega)
    go_wp2
    go_end0
    exact ⟨rfl, L1, HJ1.out, HSH1.out, HF.out⟩
end
end Go.Proofs.Ytblhmdhfhaencaa
