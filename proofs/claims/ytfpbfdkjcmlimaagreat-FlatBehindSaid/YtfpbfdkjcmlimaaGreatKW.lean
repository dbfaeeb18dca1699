/-
  How great blocks are, with their arguments; check.Through.
-/
import Derived.Test.YtfpbfdkjcmlimaaGreatKU
import Derived.Test.YtfpbfdkjcmlimaaGreatKV
namespace Go.Proofs.YtfpbfdkjcmlimaaGreat
set_option linter.unusedSimpArgs false
set_option linter.unusedVariables false
set_option linter.unusedSectionVars false
set_option maxRecDepth 100000
set_option maxHeartbeats 40000000
section
open Go.RowKit
def BigOK (most : Int) (b : BlkR) : Prop := (b.n : Int) ≤ most ∧ ∀ r ∈ b.d.ins, (r.na : Int) ≤ most
def BlocksPost2 (bs : List BlkR) (most : Int) (w : World) (e : Ending) (w' : World) : Prop := ∃ v : Int, e = .returned (.int .i64 v) ∧ 0 ≤ v ∧ v ≤ 35184372088841 ∧ (v ≤ most → ∀ b ∈ bs, BigOK most b) ∧ w = w'
theorem blocksOf_any2 (a : Option Addr) (n c : Nat) (bs : List BlkR) (most : Int) (h0 : 0 ≤ most) (h1 : most ≤ 1000) (w : World) (h : BlkS w a n bs) :
    Calls Tryz.prog 6 #[.slice a n c, .int .i64 most] w (BlocksPost2 bs most w) := by
  have H := Lib.hid h
  have HL := Lib.hid h.1.1
  have hn := h.1.2.1
  clear h
  go_enter Tryz.func6, Tryz.ntmps6
  go_wp2
  go_loopg [5, 6, 7] n (fun gg s5 s6 _ wr => ∃ (i : Nat) (acc : Int), s6 = .int .i64 i ∧ s5 = .int .i64 acc ∧ i ≤ n ∧ n - i ≤ gg ∧ 0 ≤ acc ∧ acc ≤ 35184372088841 ∧ Hid (acc ≤ most → ∀ b ∈ bs.take i, BigOK most b) ∧ wr = w)
  case atStart => exact ⟨0, 0, rfl, rfl, by omega, by omega, by omega, by omega, fun _ b hb => by simp at hb, rfl⟩
  case round =>
    obtain ⟨i, acc, rfl, rfl, hi, hgg, ha0, ha1, HR, rfl⟩ := hrel
    by_cases hlt : i < n
    · by_cases hm : acc ≤ most
      · have hir : i < bs.length := by rw [HL.out]; exact hlt
        obtain ⟨b, hb⟩ : ∃ b, bs[i]? = some b := ⟨bs[i], List.getElem?_eq_getElem hir⟩
        obtain ⟨B, o, rfl, hc⟩ := H.out.1.2.2 i b hb
        have g0 := hc 0 (by omega)
        rw [Nat.add_zero] at g0
        have hI := H.out.2 b (List.mem_of_getElem? hb)
        have HI := Lib.hid hI
        have hbn := hI.1.2.1
        have HB := Lib.hid hb
        have g0' : wr.cell? ⟨B, o + i * 5, none⟩ = some (.slice b.ia b.n b.c) := g0
        have hmr := HR.out hm
        have HMR := Lib.hid hmr
        clear hb hc hI g0 hmr
        have hlt' : (i : Int) < (n : Int) := by omega
        go_wp2
        obtain ⟨wo, rfl⟩ : ∃ wo : World, wo = wr := ⟨_, rfl⟩
        have HT : Hid (∀ acc2 : Int, acc + 1 + b.n ≤ acc2 → acc2 ≤ most → (∀ r ∈ b.d.ins, (r.na : Int) ≤ most) → ∀ x ∈ bs.take (i + 1), BigOK most x) := fun acc2 h1 h2 h3 x hx => by
          rw [List.take_add_one, HB.out, List.mem_append] at hx
          rcases hx with hx | hx
          · exact HMR.out x hx
          · simp at hx; subst hx; exact ⟨by omega, h3⟩
        go_loopg [5, 7] b.n (fun gg2 s5 s7 wi => ∃ (k : Nat) (acc2 : Int), s7 = .int .i64 k ∧ s5 = .int .i64 acc2 ∧ k ≤ b.n ∧ b.n - k ≤ gg2 ∧ acc + 1 + b.n ≤ acc2 ∧ acc2 ≤ 35184372088841 ∧ Hid (acc2 ≤ most → ∀ r ∈ b.d.ins.take k, (r.na : Int) ≤ most) ∧ wi = wo)
        case atStart => exact ⟨0, acc + 1 + b.n, rfl, rfl, by omega, by omega, by omega, by omega, fun _ r hr => by simp at hr, rfl⟩
        case round =>
          obtain ⟨k, acc2, rfl, rfl, hk, hgg2, hb1, hb2, HRk, rfl⟩ := hrel
          by_cases hk2 : k < b.n
          · by_cases hm2 : acc2 ≤ most
            · obtain ⟨r, bb, oo, hr, hok, hia, c0, c1, c2, c3, c4, c5, c6, c7⟩ := HI.out.cells hk2
              have hna := hok.1.2.1
              rw [hia] at g0'
              have hkz : (k : Int) < (b.n : Int) := by omega
              have HRk2 : Hid (acc2 + r.na ≤ most → ∀ q ∈ b.d.ins.take (k + 1), (q.na : Int) ≤ most) := fun h q hq => by
                rw [List.take_add_one, hr, List.mem_append] at hq
                rcases hq with hq | hq
                · exact HRk.out (by omega) q hq
                · simp at hq; subst hq; omega
              clear hr hok c0 c1 c2 c3 c4 c5 c7 hia
              go_wp2
              go_roundg (b.n - (k + 1))
              case measure => omega
              case rel => exact ⟨k + 1, acc2 + r.na, by go_num, rfl, by omega, Nat.le_refl _, by omega, by omega, HRk2, rfl⟩
            · have hkz : (k : Int) < (b.n : Int) := by omega
              have hm3 : most < acc2 := by omega
              go_wp2
              go_roundg (n - (i + 1))
              case measure => omega
              case rel => exact ⟨i + 1, acc2, by go_num, rfl, by omega, Nat.le_refl _, by omega, by omega, fun h => absurd h (by omega), rfl⟩
          · have hkz : ¬ (k : Int) < (b.n : Int) := by omega
            have HRk3 : Hid (acc2 ≤ most → ∀ r ∈ b.d.ins, (r.na : Int) ≤ most) := fun h => by
              have := HRk.out h
              rwa [List.take_of_length_le (by rw [HI.out.1.1]; omega)] at this
            go_wp2
            go_roundg (n - (i + 1))
            case measure => omega
            case rel => exact ⟨i + 1, acc2, by go_num, rfl, by omega, Nat.le_refl _, by omega, by omega, fun h => HT.out acc2 hb1 h (HRk3.out h), rfl⟩
      · have hm3 : most < acc := by omega
        have hlt' : (i : Int) < (n : Int) := by omega
        go_wp2
        go_ret
        exact ⟨acc, rfl, ha0, ha1, fun h => absurd h (by omega), rfl⟩
    · obtain rfl : i = n := by omega
      have HT : Hid (bs.take i = bs) := List.take_of_length_le (by rw [HL.out]; omega)
      go_wp2
      go_ret
      exact ⟨acc, rfl, ha0, ha1, fun h => by have := HR.out h; rw [HT.out] at this; exact this, rfl⟩
def univOf (m : MachD) (s t : BlkD) (ls : List Fct) : Univ := ⟨ls.map (·.1) ++ s.ins.map (fun r => r.d.dst), ls.map (·.2) ++ t.ins.flatMap (fun r => writesL m r.d)⟩
def K0 (ls : List Fct) : Fct → Bool := fun x => decide (x ∈ ls)
def ThroughPost (m : MachD) (s t : BlkD) (ls : List Fct) (w : World) (e : Ending) (w' : World) : Prop := ∃ v fe, e = .returned (.tuple #[v, .int .i64 fe]) ∧ Below w.heap.size w w' ∧
  ((doesB m s t = false ∧ fe = 13 ∧ v = .slice none 0 0) ∨ (doesB m s t = true ∧ ordB ls = false ∧ fe = 2 ∧ v = .slice none 0 0) ∨ (doesB m s t = true ∧ ordB ls = true ∧ fe = (walkKF m s t (K0 ls, 0)).2 ∧ ∃ d, OwnF w' w.heap.size v (sortF d) ∧ d.Nodup ∧ ∀ y, y ∈ d ↔ (walkKF m s t (K0 ls, 0)).1 y = true))
theorem size_blk : (Tryz.prog.info? 31).map (·.size) = some 5 := by kernel_rfl
theorem through_any (m : MachD) (a1 a2 : Option Addr) (n1 c1 n2 c2 : Nat) (s t : BlkD) (sa ta : Option Addr) (ns cs nt ct : Nat) (fa : Option Addr) (nf cf : Nat) (ls : List Fct) (w : World) (hm : MachOK w m a1 n1 c1 a2 n2 c2) (hs : BlkOK w s sa ns cs) (ht : BlkOK w t ta nt ct)
    (hna : ∀ r ∈ s.ins, r.na ≤ 1000000) (hf : FctS w fa nf ls) (hU : (univOf m s t ls).ok) :
    Calls Tryz.prog 7 #[machV m a1 n1 c1 a2 n2 c2, blkV s sa ns cs, blkV t ta nt ct, .slice fa nf cf] w (ThroughPost m s t ls w) := by
  have HM := Lib.hid hm
  have HS := Lib.hid hs
  have HT := Lib.hid ht
  have HNA := Lib.hid hna
  have HF := Lib.hid hf
  have HU := Lib.hid hU
  obtain ⟨W, hW⟩ : ∃ W, W = ((w.alloc (machO m a1 n1 c1 a2 n2 c2)).alloc (blkO s sa ns cs)).alloc (blkO t ta nt ct) := ⟨_, rfl⟩
  have hr0 : W.heap[w.heap.size]? = some (machO m a1 n1 c1 a2 n2 c2) := by rw [hW]; exact (box3 w _ _ _).1
  have hr1 : W.heap[w.heap.size + 1]? = some (blkO s sa ns cs) := by rw [hW]; exact (box3 w _ _ _).2.1
  have hr2 : W.heap[w.heap.size + 1 + 1]? = some (blkO t ta nt ct) := by rw [hW]; exact (box3 w _ _ _).2.2
  have hB : Below w.heap.size w W := by rw [hW]; exact ext_trans (ext_trans (ext_alloc _ _) (ext_alloc _ _)) (ext_alloc _ _)
  have HW := Lib.hid hW
  have HR0 := Lib.hid hr0
  have HR1 := Lib.hid hr1
  have HR2 := Lib.hid hr2
  have HB := Lib.hid hB
  have HMW := Lib.hid (hm.ext hB)
  have HSW := Lib.hid (hs.ext hB)
  have HTW := Lib.hid (ht.ext hB)
  have HFW := Lib.hid (hf.ext csF_len hB)
  clear hm hs ht hna hf hU hr0 hr1 hr2 hB hW
  go_enter Tryz.func7, Tryz.ntmps7
  go_upto_region 1 with (fail)
  rw [← HW.out]
  cases hd : doesB m s t with
  | false =>
    go_wp2_with (first
      | ((with_reducible show wpList _ _ _ (⟨some 12, _, _, _, _, _⟩ :: _) _ _); refine wpList_load_row (o := ⟨some 12, .load 24 _, _, _, _, _⟩) rfl 24 _ rfl w.heap.size rfl 24 _ (0, 0) _ HR0.out Tryz.underlying24 rfl size_mach ?_)
      | ((with_reducible show wpList _ _ _ (⟨some 13, _, _, _, _, _⟩ :: _) _ _); refine wpList_load_row (o := ⟨some 13, .load 31 _, _, _, _, _⟩) rfl 31 _ rfl (w.heap.size + 1) rfl 31 _ (0, 0) _ HR1.out Tryz.underlying31 rfl size_blk ?_)
      | ((with_reducible show wpList _ _ _ (⟨some 14, _, _, _, _, _⟩ :: _) _ _); refine wpList_load_row (o := ⟨some 14, .load 31 _, _, _, _, _⟩) rfl 31 _ rfl (w.heap.size + 1 + 1) rfl 31 _ (0, 0) _ HR2.out Tryz.underlying31 rfl size_blk ?_)
      | (go_at_call 12
         refine (does_any m a1 a2 n1 c1 n2 c2 s t sa ta ns cs nt ct W HMW.out HSW.out HTW.out).mono ?_
         rw [hd]
         rintro e w1 ⟨rfl, hb1⟩
         have HB1 := Lib.hid hb1
         clear hb1))
    refine bodyPost_ret (v := .tuple #[.slice none 0 0, .int .i64 13]) (by simp [results, Tryz.results7, go_sem]) rfl ?_
    exact ⟨_, _, rfl, ext_trans HB.out HB1.out, .inl ⟨hd, rfl, rfl⟩⟩
  | true =>
    have HFIT := Lib.hid (fit_of_does hd)
    cases ho : ordB ls with
    | false =>
      go_wp2_with (first
        | ((with_reducible show wpList _ _ _ (⟨some 12, _, _, _, _, _⟩ :: _) _ _); refine wpList_load_row (o := ⟨some 12, .load 24 _, _, _, _, _⟩) rfl 24 _ rfl w.heap.size rfl 24 _ (0, 0) _ HR0.out Tryz.underlying24 rfl size_mach ?_)
        | ((with_reducible show wpList _ _ _ (⟨some 13, _, _, _, _, _⟩ :: _) _ _); refine wpList_load_row (o := ⟨some 13, .load 31 _, _, _, _, _⟩) rfl 31 _ rfl (w.heap.size + 1) rfl 31 _ (0, 0) _ HR1.out Tryz.underlying31 rfl size_blk ?_)
        | ((with_reducible show wpList _ _ _ (⟨some 14, _, _, _, _, _⟩ :: _) _ _); refine wpList_load_row (o := ⟨some 14, .load 31 _, _, _, _, _⟩) rfl 31 _ rfl (w.heap.size + 1 + 1) rfl 31 _ (0, 0) _ HR2.out Tryz.underlying31 rfl size_blk ?_)
        | (go_at_call 12
           refine (does_any m a1 a2 n1 c1 n2 c2 s t sa ta ns cs nt ct W HMW.out HSW.out HTW.out).mono ?_
           rw [hd]
           rintro e w1 ⟨rfl, hb1⟩
           have HB1 := Lib.hid hb1
           clear hb1)
        | (go_at_call 13
           refine (ordered_any fa nf cf ls w1 (HFW.out.ext csF_len HB1.out)).mono ?_
           rw [ho]
           rintro e w2 ⟨rfl, hb2⟩
           have HB2 := Lib.hid hb2
           clear hb2))
      refine bodyPost_ret (v := .tuple #[.slice none 0 0, .int .i64 2]) (by simp [results, Tryz.results7, go_sem]) rfl ?_
      exact ⟨_, _, rfl, ext_trans (ext_trans HB.out HB1.out) HB2.out, .inr (.inl ⟨hd, ho, rfl, rfl⟩)⟩
    | true =>
      go_upto_region 5 with (first
        | ((with_reducible show wpList _ _ _ (⟨some 12, _, _, _, _, _⟩ :: _) _ _); refine wpList_load_row (o := ⟨some 12, .load 24 _, _, _, _, _⟩) rfl 24 _ rfl w.heap.size rfl 24 _ (0, 0) _ HR0.out Tryz.underlying24 rfl size_mach ?_)
        | ((with_reducible show wpList _ _ _ (⟨some 13, _, _, _, _, _⟩ :: _) _ _); refine wpList_load_row (o := ⟨some 13, .load 31 _, _, _, _, _⟩) rfl 31 _ rfl (w.heap.size + 1) rfl 31 _ (0, 0) _ HR1.out Tryz.underlying31 rfl size_blk ?_)
        | ((with_reducible show wpList _ _ _ (⟨some 14, _, _, _, _, _⟩ :: _) _ _); refine wpList_load_row (o := ⟨some 14, .load 31 _, _, _, _, _⟩) rfl 31 _ rfl (w.heap.size + 1 + 1) rfl 31 _ (0, 0) _ HR2.out Tryz.underlying31 rfl size_blk ?_)
        | (go_at_call 12
           refine (does_any m a1 a2 n1 c1 n2 c2 s t sa ta ns cs nt ct W HMW.out HSW.out HTW.out).mono ?_
           rw [hd]
           rintro e w1 ⟨rfl, hb1⟩
           have HB1 := Lib.hid hb1
           clear hb1)
        | (go_at_call 13
           refine (ordered_any fa nf cf ls w1 (HFW.out.ext csF_len HB1.out)).mono ?_
           rw [ho]
           rintro e w2 ⟨rfl, hb2⟩
           have HB2 := Lib.hid (ext_trans HB1.out hb2)
           clear hb2))
      have HR02 := Lib.hid (block_ext HB2.out HR0.out)
      have HR12 := Lib.hid (block_ext HB2.out HR1.out)
      have HR22 := Lib.hid (block_ext HB2.out HR2.out)
      have HM2 := Lib.hid (HMW.out.ext HB2.out)
      have HS2 := Lib.hid (HSW.out.ext HB2.out)
      have HT2 := Lib.hid (HTW.out.ext HB2.out)
      have HF2 := Lib.hid (HFW.out.ext csF_len HB2.out)
      have HBB := Lib.hid (ext_trans HB.out HB2.out)
      clear HR0 HR1 HR2 HMW HSW HTW HFW HB1
      have hne : Nonempty (ExtW w2) := ⟨⟨w2, Below.refl _ _⟩⟩
      have k0 : ∀ w', (∃ n : ExtW w2, w' = n.val) → w'.heap[w.heap.size]? = some (machO m a1 n1 c1 a2 n2 c2) := fun w' ⟨n, e⟩ => by rw [e]; exact block_ext n.ext HR02.out
      have k1 : ∀ w', (∃ n : ExtW w2, w' = n.val) → w'.heap[w.heap.size + 1]? = some (blkO s sa ns cs) := fun w' ⟨n, e⟩ => by rw [e]; exact block_ext n.ext HR12.out
      have k2 : ∀ w', (∃ n : ExtW w2, w' = n.val) → w'.heap[w.heap.size + 1 + 1]? = some (blkO t ta nt ct) := fun w' ⟨n, e⟩ => by rw [e]; exact block_ext n.ext HR22.out
      refine region_mix (fun w' => ∃ n' : ExtW w2, w' = n'.val) [(0, 4, some (4, true)), (5, 0, some (5, true)), (6, 1, none)] (by kernel_rfl) (by kernel_rfl) ⟨⟨_, ext_drewN (Below.refl _ _) 1⟩, rfl⟩ ?_
      simp only [wpMix, List.take_succ_cons, List.take_zero, List.drop_succ_cons, List.drop_zero]
      repeat (first
        | (refine wpQuiet_load_row (o := ⟨some 21, .load 24 _, _, _, _, _⟩) (by rfl) 24 _ rfl w.heap.size rfl 24 _ (0, 0) _ k0 Tryz.underlying24 rfl size_mach ?_; simp only [Act.put, List.setIfInBounds_toArray, List.set_cons_succ, List.set_cons_zero])
        | (refine wpQuiet_load_row (o := ⟨some 22, .load 31 _, _, _, _, _⟩) (by rfl) 31 _ rfl (w.heap.size + 1) rfl 31 _ (0, 0) _ k1 Tryz.underlying31 rfl size_blk ?_; simp only [Act.put, List.setIfInBounds_toArray, List.set_cons_succ, List.set_cons_zero])
        | (refine wpQuiet_load_row (o := ⟨some 23, .load 31 _, _, _, _, _⟩) (by rfl) 31 _ rfl (w.heap.size + 1 + 1) rfl 31 _ (0, 0) _ k2 Tryz.underlying31 rfl size_blk ?_; simp only [Act.put, List.setIfInBounds_toArray, List.set_cons_succ, List.set_cons_zero])
        | go_big_quiet_step (fail))
      refine wpQuiet_nil ?_
      refine wpOp_at rfl rfl ?_
      go_simp
      refine (ofF_any fa nf cf ls w2.drew (HF2.out.drewN 1)).mono ?_
      rintro e w3 ⟨b0, L0, rfl, _, hS0, hm0, hb3⟩
      have hb3 : Below w2.heap.size w2 w3 := unDrew1 hb3
      refine ⟨⟨⟨w3, hb3⟩, rfl⟩, ?_⟩
      have hKS : KS (univOf m s t ls) b0 (K0 ls) w3 := ⟨L0, hS0, fun x => by rw [hm0 x]; simp [K0], fun x hx => by
        have hx := (hm0 x).1 hx
        exact ⟨List.mem_append_left _ (List.mem_map.2 ⟨x, hx, rfl⟩), List.mem_append_left _ (List.mem_map.2 ⟨x, hx, rfl⟩)⟩⟩
      have HK3 := Lib.hid hKS
      have HB3 := Lib.hid hb3
      clear hS0 hm0 hb3 hKS
      try simp only [Act.put, List.setIfInBounds_toArray, List.set_cons_succ, List.set_cons_zero]
      repeat (go_big_quiet_step (fail))
      refine wpQuiet_nil ?_
      refine wpOp_at rfl rfl ?_
      go_simp
      refine (walkW_any m a1 a2 n1 c1 n2 c2 (univOf m s t ls) HU.out s t sa ta ns cs nt ct b0 (K0 ls) w3 (HM2.out.ext HB3.out) (HS2.out.ext HB3.out) (HT2.out.ext HB3.out) HNA.out HFIT.out (fun r hr => List.mem_append_right _ (List.mem_map.2 ⟨r, hr, rfl⟩)) (fun r hr p hp => List.mem_append_right _ (List.mem_flatMap.2 ⟨r, hr, hp⟩)) HK3.out).mono ?_
      rintro e w4 ⟨g, b, rfl, hws, hb4⟩
      refine ⟨⟨⟨w4, ext_trans HB3.out hb4⟩, rfl⟩, ?_⟩
      have HB4 := Lib.hid (ext_trans HB3.out hb4)
      obtain ⟨y, hy⟩ : ∃ y, y = walkKF m s t (K0 ls, 0) := ⟨_, rfl⟩
      rw [← hy] at hws
      have HY := Lib.hid hy
      have HWS := Lib.hid hws
      clear hws hb4 hy
      try simp only [Act.put, List.setIfInBounds_toArray, List.set_cons_succ, List.set_cons_zero]
      repeat (go_big_quiet_step (fail))
      refine wpQuiet_nil ?_
      refine NoPanic.normal ?_
      clear k0 k1 k2 hne
      go_upto_region 6 with (fail)
      obtain ⟨c0, _, _, _, _, c5⟩ := HWS.out.cells
      have hne : Nonempty (ExtW w4) := ⟨⟨w4, Below.refl _ _⟩⟩
      have g0 : ∀ n : ExtW w4, n.val.cell? ⟨g, 0, none⟩ = some (.map (some b)) := fun n => ExtW.cell c0 n
      have g5 : ∀ n : ExtW w4, n.val.cell? ⟨g, 5, none⟩ = some (.int .i64 y.2) := fun n => ExtW.cell c5 n
      clear c0 c5
      obtain ⟨L, hSL, hmL, hDL⟩ := HWS.out.2
      have hlL := KS.len HU.out hSL hDL
      have HSL := Lib.hid hSL
      have HML := Lib.hid hmL
      clear hSL hmL hDL
      refine region_mix (fun w' => ∃ n' : ExtW w4, w' = n'.val) [(0, 4, none), (5, 4, some (4, true)), (9, 2, none)] (by kernel_rfl) (by kernel_rfl) ⟨⟨_, ext_drewN (Below.refl _ _) 1⟩, rfl⟩ ?_
      simp only [wpMix, List.take_succ_cons, List.take_zero, List.drop_succ_cons, List.drop_zero]
      repeat (go_big_quiet_step (fail))
      refine wpQuiet_nil ?_
      repeat (go_big_quiet_step (fail))
      refine wpQuiet_nil ?_
      refine wpOp_at rfl rfl ?_
      go_simp
      refine (list_any b L w4.drew (HSL.out.drewN 1) hlL).mono ?_
      rintro e w5 ⟨v, d, rfl, ho5, hn5, hm5, hb5⟩
      have hb5 : Below w4.heap.size w4 w5 := unDrew1 hb5
      refine ⟨⟨⟨w5, hb5⟩, rfl⟩, ?_⟩
      have HO5 := Lib.hid (show OwnF w5 w4.heap.size v (sortF d) from ho5)
      have HN5 := Lib.hid hn5
      have HM5 := Lib.hid hm5
      have HB5 := Lib.hid hb5
      clear ho5 hn5 hm5 hb5
      try simp only [Act.put, List.setIfInBounds_toArray, List.set_cons_succ, List.set_cons_zero]
      repeat (go_big_quiet_step (fail))
      refine wpQuiet_nil ?_
      refine NoPanic.normal ?_
      clear g0 g5 hne
      go_wp2
      have hB9 : Below w.heap.size w w4 := ext_trans HBB.out HB4.out
      refine bodyPost_ret (v := .tuple #[v, .int .i64 y.2]) (by simp [results, Tryz.results7, go_sem]) rfl ?_
      rw [HY.out]
      exact ⟨_, _, rfl, ext_trans hB9 HB5.out, .inr (.inr ⟨hd, ho, rfl, d, HO5.out.mono hB9.size, HN5.out, fun z => by rw [HM5.out z, HML.out z, HY.out]⟩)⟩
end
end Go.Proofs.YtfpbfdkjcmlimaaGreat
