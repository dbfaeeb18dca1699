/-
  check.walk. (Its region 1 is printed by gen_walk.py.)
-/
import Derived.Test.YtfpbfdkjcmlimaaGreatKO
import Derived.Test.YtfpbfdkjcmlimaaGreatKP
import Derived.Test.YtfpbfdkjcmlimaaGreatFree
import Derived.Test.YtfpbfdkjcmlimaaGreatFU
namespace Go.Proofs.YtfpbfdkjcmlimaaGreat
set_option linter.unusedSimpArgs false
set_option linter.unusedVariables false
set_option linter.unusedSectionVars false
set_option maxRecDepth 100000
set_option maxHeartbeats 40000000
section
open Go.RowKit
noncomputable def copyKF (i : InsR) (x : KF) : KF := (stepOf i.d.dst i.d.a x.1, x.2)
noncomputable def doneKF (m : MachD) (i u : InsR) (x : KF) : KF := (doneK m i.d u.d x.1, doneFe m i.d u.d x.1 x.2)
noncomputable def walkGo (m : MachD) : List InsR → List InsR → KF → KF
  | [], tl, x => skipKF m (tl.takeWhile isInserted) x
  | i :: sl, tl, x => if isCopy i then walkGo m sl tl (copyKF i x) else match tl.dropWhile isInserted with | [] => skipKF m (tl.takeWhile isInserted) x | u :: tl' => walkGo m sl tl' (doneKF m i u (skipKF m (tl.takeWhile isInserted) x))
theorem walkGo_end (m : MachD) (tl : List InsR) (x : KF) : walkGo m [] tl x = skipKF m (tl.takeWhile isInserted) x := rfl
theorem walkGo_copy (m : MachD) (i : InsR) (sl tl : List InsR) (x : KF) (h : isCopy i = true) : walkGo m (i :: sl) tl x = walkGo m sl tl (copyKF i x) := by rw [walkGo, if_pos h]
theorem walkGo_done (m : MachD) (i u : InsR) (sl tl tl' : List InsR) (x : KF) (h : isCopy i = false) (hd : tl.dropWhile isInserted = u :: tl') : walkGo m (i :: sl) tl x = walkGo m sl tl' (doneKF m i u (skipKF m (tl.takeWhile isInserted) x)) := by
  rw [walkGo, if_neg (by rw [h]; simp), hd]
def FitW (m : MachD) (sl tl : List InsR) : Prop := Even sl tl ∧ ∀ p ∈ (sl.filter fun x => !isCopy x).zip (tl.filter fun x => !isInserted x), (readsI p.1.d).length ≤ (readsL m p.2.d).length
theorem FitW.copy {m : MachD} {i : InsR} {sl tl : List InsR} (h : FitW m (i :: sl) tl) (hc : isCopy i = true) : FitW m sl tl :=
  ⟨h.1.copy hc, by have := h.2; simpa [List.filter_cons, hc] using this⟩
theorem FitW.next {m : MachD} {i : InsR} {sl tl : List InsR} (h : FitW m (i :: sl) tl) (hc : isCopy i = false) : ∃ u tl', tl.dropWhile isInserted = u :: tl' ∧ FitW m sl tl' ∧ (readsI i.d).length ≤ (readsL m u.d).length := by
  obtain ⟨u, tl', hd, he⟩ := h.1.next hc
  have h2 := h.2
  rw [← filter_dropWhile isInserted tl, hd] at h2
  have hu : isInserted u = false := by
    have := List.head?_dropWhile_not isInserted tl
    rw [hd] at this
    simpa using this
  have e1 : ((i :: sl).filter fun x => !isCopy x) = i :: sl.filter fun x => !isCopy x := by simp [List.filter_cons, hc]
  have e2 : ((u :: tl').filter fun x => !isInserted x) = u :: tl'.filter fun x => !isInserted x := by simp [List.filter_cons, hu]
  rw [e1, e2, List.zip_cons_cons] at h2
  exact ⟨u, tl', hd, ⟨he, fun p hp => h2 p (List.mem_cons_of_mem _ hp)⟩, h2 _ (List.mem_cons_self ..)⟩
abbrev trmOf (s : BlkD) : TrmD := ⟨s.kind, s.a, s.to0, s.to1⟩
noncomputable def walkKF (m : MachD) (s t : BlkD) (x : KF) : KF := ((walkGo m s.ins t.ins x).1, endFe m (walkGo m s.ins t.ins x).1 (trmOf s) (trmOf t) (walkGo m s.ins t.ins x).2)
theorem size_mach : (Tryz.prog.info? 24).map (·.size) = some 4 := by kernel_rfl
theorem walkW_any (m : MachD) (a1 a2 : Option Addr) (n1 c1 n2 c2 : Nat) (U : Univ) (hU : U.ok) (s t : BlkD) (sa ta : Option Addr) (ns cs nt ct b0 : Nat) (K : Fct → Bool) (w : World) (hm : MachOK w m a1 n1 c1 a2 n2 c2) (hs : BlkOK w s sa ns cs) (ht : BlkOK w t ta nt ct)
    (hna : ∀ r ∈ s.ins, r.na ≤ 1000000) (hft : FitW m s.ins t.ins) (hV : ∀ r ∈ s.ins, r.d.dst ∈ U.V) (hP : ∀ r ∈ t.ins, ∀ p ∈ writesL m r.d, p ∈ U.P) (hK : KS U b0 K w) :
    Calls Tryz.prog 14 #[machV m a1 n1 c1 a2 n2 c2, blkV s sa ns cs, blkV t ta nt ct, .map (some b0)] w fun e w' => ∃ g b, e = .returned (.pointer (some ⟨g, 0, none⟩)) ∧ WS m a1 n1 c1 a2 n2 c2 U g b (walkKF m s t (K, 0)).1 (walkKF m s t (K, 0)).2 w' ∧ Below w.heap.size w w' := by
  have HM := Lib.hid hm
  have HS := Lib.hid hs
  have HT := Lib.hid ht
  have HNA := Lib.hid hna
  have HFT := Lib.hid hft
  have HVV := Lib.hid hV
  have HPP := Lib.hid hP
  have q2 := hs.2.1
  have q3 := ht.2.1
  have HLs := Lib.hid hs.1.1.1
  have HLt := Lib.hid ht.1.1.1
  obtain ⟨L0, hS0, hM0, hD0⟩ := hK
  have HM0 := Lib.hid hM0
  have HD0 := Lib.hid hD0
  have hbl := hS0.lt
  obtain ⟨y, hy⟩ : ∃ y, y = walkKF m s t (K, 0) := ⟨_, rfl⟩
  rw [← hy]
  have HY := Lib.hid hy
  clear hm hs ht hna hft hV hP hM0 hD0 hy
  go_enter Tryz.func14, Tryz.ntmps14
  go_upto_region 1 with (fail)
  obtain ⟨W, hW⟩ : ∃ W, W = ((w.alloc (machO m a1 n1 c1 a2 n2 c2)).alloc (blkO s sa ns cs)).alloc (blkO t ta nt ct) := ⟨_, rfl⟩
  have hr0 : W.heap[w.heap.size]? = some (machO m a1 n1 c1 a2 n2 c2) := by rw [hW, Below.heap_alloc _ _ _ (by simp; omega), Below.heap_alloc _ _ _ (by simp)]; exact heap_alloc_new _ _
  have hr1 : W.heap[w.heap.size + 1]? = some (blkO s sa ns cs) := by
    rw [hW, Below.heap_alloc _ _ _ (by simp)]
    have := heap_alloc_new (w.alloc (machO m a1 n1 c1 a2 n2 c2)) (blkO s sa ns cs)
    simpa using this
  have hr2 : W.heap[w.heap.size + 1 + 1]? = some (blkO t ta nt ct) := by
    rw [hW]
    have := heap_alloc_new ((w.alloc (machO m a1 n1 c1 a2 n2 c2)).alloc (blkO s sa ns cs)) (blkO t ta nt ct)
    simpa using this
  have hB : Below w.heap.size w W := by rw [hW]; exact ext_trans (ext_trans (ext_alloc _ _) (ext_alloc _ _)) (ext_alloc _ _)
  have hsz : W.heap.size = w.heap.size + 3 := by rw [hW]; simp
  rw [← hW]
  have HR0 := Lib.hid hr0
  have HR1 := Lib.hid hr1
  have HR2 := Lib.hid hr2
  have HB := Lib.hid hB
  have HSZ := Lib.hid hsz
  have HS0 := Lib.hid (hS0.ext hB)
  clear hW hr0 hr1 hr2 hB hsz hS0
  go_cut [9] (fun s9 wx => ∃ p9 g b, s9 = .pointer (some ⟨p9, 0, none⟩) ∧ W.heap.size ≤ p9 ∧ W.heap.size ≤ g ∧ W.heap.size ≤ b ∧ wx.heap[p9]? = some (ptrO g) ∧ WS m a1 n1 c1 a2 n2 c2 U g b K 0 wx ∧ Below W.heap.size W wx)
  case first =>
    refine region_free 6 [some 14, some 15, some 16, some 17, some 18, some 9] (by kernel_rfl) (by kernel_rfl) (specB [.val (.map (some b0)), (.any fun v lo _ W' => v = .map (some lo) ∧ W.heap.size ≤ lo ∧ FSet W' lo L0), .val (machV m a1 n1 c1 a2 n2 c2), (.any fun v _ _ W' => ∃ q, W.heap.size ≤ q ∧ v = .agg #[.map (some q), .int .i64 m.regs, .slice a1 n1 c1, .int .i64 m.ret, .slice a2 n2 c2, .int .i64 0] ∧ FSet W' q L0), (.any fun v lo hi W' => v = .pointer (some ⟨lo, 0, none⟩) ∧ lo < hi ∧ ∃ q, W.heap.size ≤ q ∧ W'.heap[lo]? = some (wkO q m a1 n1 c1 a2 n2 c2 0) ∧ FSet W' q L0), .new (.cells #[.pointer none] 56)]) (specB_mono ?_) ?_ ?_
    · intro k hk
      simp only [List.mem_cons, List.not_mem_nil, or_false] at hk
      rcases hk with rfl | rfl | rfl | rfl | rfl | rfl
      · exact trivial
      · rintro v lo hi w1 w2 hb ⟨e, f, h⟩; exact ⟨e, f, h.ext hb⟩
      · exact trivial
      · rintro v lo hi w1 w2 hb ⟨q, f, e, h⟩; exact ⟨q, f, e, h.ext hb⟩
      · rintro v lo hi w1 w2 hb ⟨e, f, q, f2, h1, h2⟩; exact ⟨e, f, q, f2, block_ext hb h1, h2.ext hb⟩
      · exact trivial
    · intro i hi ν lo hi' w1 K hB hD hK
      have hcase : i = 0 ∨ i = 1 ∨ i = 2 ∨ i = 3 ∨ i = 4 ∨ i = 5 := by omega
      clear hi
      rcases hcase with rfl | rfl | rfl | rfl | rfl | rfl
      · clear hD
        refine wpOp_atK rfl rfl ?_
        simp only [zA,zB,zC,zD,zE,zF,zJ,zK,zG,zH,zI] at hK ⊢
        go_simp
        exact hK _ _ (Below.refl _ _) rfl
      · have e0 := hD 0 (by kernel_rfl)
        replace e0 : ν 0 = (.map (some b0)) := e0
        clear hD
        refine wpOp_atK rfl rfl ?_
        simp only [zA,zB,zC,zD,zE,zF,zJ,zK,zG,zH,zI, e0] at hK ⊢
        go_simp
        refine (cloneM_any b0 L0 w1 (HS0.out.ext hB)).mono ?_
        rintro e w2 ⟨rfl, hs, hb⟩
        exact hK _ _ hb ⟨rfl, hB.size, hs⟩
      · clear hD
        refine wpOp_atK rfl rfl ?_
        simp only [zA,zB,zC,zD,zE,zF,zJ,zK,zG,zH,zI] at hK ⊢
        refine wp_load_row 24 _ rfl w.heap.size rfl 24 _ (0, 0) _ (block_ext hB HR0.out) Tryz.underlying24 rfl size_mach ?_
        exact hK _ _ (Below.refl _ _) rfl
      · have e1 := hD 1 (by kernel_rfl)
        unfold specB at e1
        simp only [List.getD_cons_zero, List.getD_cons_succ, specK] at e1
        have e2 := hD 2 (by kernel_rfl)
        replace e2 : ν 2 = (machV m a1 n1 c1 a2 n2 c2) := e2
        clear hD
        refine wpOp_atK rfl rfl ?_
        simp only [zA,zB,zC,zD,zE,zF,zJ,zK,zG,zH,zI, e2] at hK ⊢
        obtain ⟨e1, f1, h1⟩ := e1
        simp only [Nat.zero_add, Nat.reduceAdd, e1] at hK ⊢
        go_simp
        exact hK _ _ (Below.refl _ _) ⟨lo 1, f1, rfl, h1⟩
      · have e3 := hD 3 (by kernel_rfl)
        unfold specB at e3
        simp only [List.getD_cons_zero, List.getD_cons_succ, specK] at e3
        clear hD
        refine wpOp_atK rfl rfl ?_
        simp only [zA,zB,zC,zD,zE,zF,zJ,zK,zG,zH,zI] at hK ⊢
        obtain ⟨q, f1, e1, h1⟩ := e3
        simp only [Nat.zero_add, Nat.reduceAdd, e1] at hK ⊢
        go_simp
        exact hK _ _ (ext_alloc _ _) ⟨rfl, by simp, q, f1, heap_alloc_new _ _, h1.alloc _⟩
      · clear hD
        refine wpOp_atK rfl rfl ?_
        simp only [zA,zB,zC,zD,zE,zF,zJ,zK,zG,zH,zI] at hK ⊢
        go_simp
        refine hK _ _ (ext_alloc _ _) ⟨rfl, by simp, ?_⟩
        exact heap_alloc_new _ _
    · intro ν lo hi w1 hB hS hI hD
      have e0 : ν 0 = (.map (some b0)) := hS 0 (by omega)
      have e1 := hS 1 (by omega)
      unfold specB at e1
      simp only [List.getD_cons_zero, List.getD_cons_succ, specK] at e1
      have e2 : ν 2 = (machV m a1 n1 c1 a2 n2 c2) := hS 2 (by omega)
      have e3 := hS 3 (by omega)
      unfold specB at e3
      simp only [List.getD_cons_zero, List.getD_cons_succ, specK] at e3
      have e4 := hS 4 (by omega)
      unfold specB at e4
      simp only [List.getD_cons_zero, List.getD_cons_succ, specK] at e4
      obtain ⟨e5, l5, h5⟩ := hS 5 (by omega)
      clear hS
      simp only [List.drop_succ_cons, List.drop_zero, zA,zB,zC,zD,zE,zF,zJ,zK,zG,zH,zI, e0, e2, e5]
      have i4 := hI 4 (by omega)
      have i5 := hI 5 (by omega)
      have hne : lo 5 ≠ lo 4 := by
        obtain ⟨_, f4, _⟩ := e4
        have := hD 4 5 (by omega) (by omega) (by omega)
        omega
      obtain ⟨e4, f4, b, fb, hg4, hs4⟩ := e4
      rw [e4]
      have HBw : Hid (Below W.heap.size W w1) := hB
      generalize lo 4 = g at *
      generalize lo 5 = p9 at *
      have HG4 := Lib.hid hg4
      have HS4 := Lib.hid hs4
      have H5 := Lib.hid h5
      have HI4 := i4.1
      have HI5 := i5.1
      clear hI hD hB e0 e1 e2 e3 e4 e5 hg4 hs4 h5 i4 i5
      have c9 : w1.cell? ⟨p9, 0, none⟩ = some (.pointer none) := by rw [cell_of_row _ _ _ _ _ _ H5.out]; rfl
      have f9 : w1.frozen? ⟨p9, 0, none⟩ = false := frozen_of_row _ _ _ _ _ H5.out
      have l9 := (Array.getElem?_eq_some_iff.1 H5.out).1
      go_wp2
      go_meet
      have hB2 := heap_setCell_same w1 p9 0 _ _ (.pointer (some ⟨g, 0, none⟩)) H5.out
      exact ⟨p9, g, b, rfl, HI5, HI4, fb, hB2, ⟨(heap_setCell_other _ _ _ _ (Ne.symm hne)).trans HG4.out, L0, HS4.out.setCell _ _, HM0.out, HD0.out⟩, HBw.out.setCell (by omega) _⟩
  case rest =>
    obtain ⟨p9, g, b, rfl, hp9, hg, hb, h9, hw9, hbb⟩ := hcut
    obtain ⟨w1, rfl⟩ : ∃ w1, w1 = wc := ⟨_, rfl⟩
    have hl1 := hbb.size
    go_upto_region 4 with (fail)
    obtain ⟨w2, hw2⟩ : ∃ w2, w2 = w1.alloc (numO 0) := ⟨_, rfl⟩
    have hb2 : Below w1.heap.size w1 w2 := by rw [hw2]; exact ext_alloc _ _
    have h10 : w2.heap[w1.heap.size]? = some (numO 0) := by rw [hw2]; exact heap_alloc_new _ _
    have hl2 : w1.heap.size < w2.heap.size := by rw [hw2]; simp
    have hw2' : w1.alloc (Obj.cells #[.int .i64 0] 3) = w2 := hw2.symm
    have HB2 := Lib.hid (ext_trans hbb hb2)
    obtain ⟨p10, hp10⟩ : ∃ p, p = w1.heap.size := ⟨_, rfl⟩
    have HWE : Hid (p10 = w1.heap.size) := hp10
    have HR12 := Lib.hid (block_ext HB2.out HR1.out)
    have HJ : Hid (WJ m a1 n1 c1 a2 n2 c2 U g b t ta nt ct (w.heap.size + 1 + 1) p9 p10 0 (K, 0) w2) := ⟨block_ext HB2.out HR2.out, block_ext hb2 h9, by rw [hp10]; exact h10, hw9.ext hb2⟩
    have hgW : W.heap.size ≤ p10 := by omega
    have HGW := Lib.hid hgW
    have HGL : Hid (∀ W', Chg (WU g b p10) w2 W' → Below W.heap.size W W') := fun W' hc => HB2.out.trans (hc.below HB2.out.size (fun k hk => by rcases hk with rfl | rfl | rfl <;> assumption))
    have HL2 := Lib.hid hl2
    have hsz := HSZ.out
    have HNB : Hid (¬ WU g b p10 (w.heap.size + 1)) := fun h => by rcases h with h | h | h <;> omega
    have HMW := Lib.hid (HM.out.ext HB.out)
    have HTW : Hid (BlkOK W t ta nt ct) := ⟨HT.out.1.ext HB.out, HT.out.2⟩
    have HSW : Hid (BlkOK W s sa ns cs) := ⟨HS.out.1.ext HB.out, HS.out.2⟩
    have HPI : Hid (∀ r ∈ t.ins, isInserted r = true → headL (writesL m r.d) ∈ U.P) := fun r hr hi => by
      obtain ⟨p, hp⟩ := ins_writes m r hi
      rw [hp]
      exact HPP.out r hr p (by rw [hp]; simp)
    clear hbb hb2 h10 hl2 hw2 h9 hw9 hl1 hgW HR0 HR1 HR2 HS0 HM0 HD0 HM HS HT hsz
    obtain ⟨y0, hy0⟩ : ∃ y0, walkGo m s.ins t.ins (K, 0) = y0 := ⟨_, rfl⟩
    have HY2 : Hid (y = (y0.1, endFe m y0.1 (trmOf s) (trmOf t) y0.2)) := by rw [Hid, HY.out, walkKF, hy0]
    have HY0 := Lib.hid hy0
    clear hy0 HY
    have sx0 : w2.cell? ⟨w.heap.size + 1, 0, none⟩ = some (.slice sa ns cs) := by rw [cell_of_row _ _ _ _ _ _ HR12.out]; rfl
    have hl2 := HL2.out
    have hsl2 := (Array.getElem?_eq_some_iff.1 HR12.out).1
    rw [hw2', ← hp10]
    clear hw2'
    rw [← hp10] at hl2
    clear hp10
    go_wp2
    have HCI : Hid (True) := trivial
    go_loopg [13, 23] ns (fun gg _ s23 wr => ∃ (i k : Nat) (x : KF), s23 = .int .i64 i ∧ i ≤ ns ∧ ns - i ≤ gg ∧ k ≤ nt ∧ Hid (WJ m a1 n1 c1 a2 n2 c2 U g b t ta nt ct (w.heap.size + 1 + 1) p9 p10 k x wr) ∧ Hid (walkGo m (s.ins.drop i) (t.ins.drop k) x = y0) ∧ Hid (FitW m (s.ins.drop i) (t.ins.drop k)) ∧ Hid (Chg (WU g b p10) w2 wr))
    case atStart => exact ⟨0, 0, (K, 0), rfl, by omega, by omega, by omega, HJ, by rw [Hid, List.drop_zero, List.drop_zero]; exact HY0.out, by rw [Hid, List.drop_zero, List.drop_zero]; exact HFT.out, Chg.refl _ _⟩
    case round =>
      obtain ⟨i, k, x, rfl, hi, hgg, hk, HE, HGo, HFi, HC⟩ := hrel
      clear sx0
      have HB7 := Lib.hid (HGL.out _ HC.out)
      by_cases hlt : i < ns
      · obtain ⟨r, q, o, hr, hok, rfl, g0, g1, g2, g3, g4, g5, g6, g7⟩ := ((HSW.out.1.ext HB7.out)).cells hlt
        have hdr := drop_cons hr
        have hgo := HGo.out
        have hfi := HFi.out
        rw [hdr] at hgo hfi
        have HOK := Lib.hid hok
        have hrm := List.mem_of_getElem? hr
        have HRM := Lib.hid hrm
        clear hok hdr hr HGo HFi
        have HE1 : Hid (WJ m a1 n1 c1 a2 n2 c2 U g b t ta nt ct (w.heap.size + 1 + 1) p9 p10 k x (wr.alloc (insO r.d r.aa r.na r.ca))) := HE.out.ext (ext_alloc _ _)
        have HC1 : Hid (Chg (WU g b p10) w2 (wr.alloc (insO r.d r.aa r.na r.ca))) := HC.out.of_ext (ext_alloc _ _)
        have HBX : Hid ((wr.alloc (insO r.d r.aa r.na r.ca)).heap[wr.heap.size]? = some (insO r.d r.aa r.na r.ca)) := heap_alloc_new _ _
        have HLTS : Hid (g < wr.heap.size ∧ b < wr.heap.size ∧ p10 < wr.heap.size) := ⟨HE.out.2.2.2.lt.1, HE.out.2.2.2.lt.2.1, (Array.getElem?_eq_some_iff.1 HE.out.2.2.1).1⟩
        clear hrm
        cases hq : isCopy r with
        | true =>
          have hop : (r.d.op == 14) = true := hq
          rw [walkGo_copy m r _ _ _ hq] at hgo
          have HGo := Lib.hid hgo
          have HFi := Lib.hid (hfi.copy hq)
          have d9 : (wr.alloc (insO r.d r.aa r.na r.ca)).cell? ⟨p9, 0, none⟩ = some (.pointer (some ⟨g, 0, none⟩)) := by rw [cell_of_row _ _ _ _ _ _ HE1.out.2.1]; rfl
          have hl9 : p9 < wr.heap.size := (Array.getElem?_eq_some_iff.1 HE.out.2.1).1
          have e9 : wr.cell? ⟨p9, 0, none⟩ = some (.pointer (some ⟨g, 0, none⟩)) := by rw [cell_of_row _ _ _ _ _ _ HE.out.2.1]; rfl
          clear hgo hfi hq
          go_wp2_with (first
            | ((with_reducible show wpList _ _ _ (⟨some 31, _, _, _, _, _⟩ :: _) _ _); refine wpList_load_row (o := ⟨some 31, .load 52 _, _, _, _, _⟩) rfl 52 _ rfl wr.heap.size rfl 52 _ (0, 0) _ HBX.out Tryz.underlying52 rfl size_ins ?_)
            | (go_at_call 33
               refine (copied_any m a1 a2 n1 c1 n2 c2 U hU g b x.1 x.2 r (wr.alloc (insO r.d r.aa r.na r.ca)) HE1.out.2.2.2 (HVV.out r HRM.out)).mono ?_
               rintro e w3 ⟨rfl, hs3, hc3⟩
               have HE3 : Hid (WJ m a1 n1 c1 a2 n2 c2 U g b t ta nt ct (w.heap.size + 1 + 1) p9 p10 k (copyKF r x) w3) := (HE1.out.step (x' := copyKF r x) hs3 hc3)
               have HC3 : Hid (Chg (WU g b p10) w2 w3) := (HC1.out.trans (hc3.mono fun k hk => .inr hk))
               clear hs3 hc3))
          go_roundg (ns - (i + 1))
          case measure => omega
          case rel => exact ⟨i + 1, k, copyKF r x, by go_num, by omega, Nat.le_refl _, hk, HE3, HGo, HFi, HC3⟩
        | false =>
          have hop : (r.d.op == 14) = false := hq
          obtain ⟨u, tl', hdw, hf2, hlen⟩ := hfi.next hq
          rw [walkGo_done m r u _ _ _ _ hq hdw] at hgo
          rw [dropWhile_eq, List.drop_drop] at hdw
          obtain ⟨k', hk'⟩ : ∃ k', k + ((t.ins.drop k).takeWhile isInserted).length = k' := ⟨_, rfl⟩
          rw [hk'] at hdw
          have hu : t.ins[k']? = some u := by
            have : (t.ins.drop k')[0]? = some u := by rw [hdw]; rfl
            rwa [List.getElem?_drop, Nat.add_zero] at this
          have hkn : k' < nt := by have := (List.getElem?_eq_some_iff.1 hu).1; rw [HLt.out] at this; exact this
          have htl2 : tl' = t.ins.drop (k' + 1) := by
            have := drop_cons hu
            rw [hdw] at this
            simpa using this
          subst htl2
          have hkk : k ≤ k' := by omega
          have HK' := Lib.hid hk'
          have HF2 := Lib.hid hf2
          have HU2 := Lib.hid hu
          have HLEN := Lib.hid hlen
          obtain ⟨x2, hx2⟩ : ∃ x2, skipKF m ((t.ins.drop k).takeWhile isInserted) x = x2 := ⟨_, rfl⟩
          rw [hx2] at hgo
          have HX2 := Lib.hid hx2
          have HGo := Lib.hid hgo
          clear hgo hfi hdw hk' hu hf2 hx2 hlen hq
          go_upto_region 10 with (first
            | (go_at_call 31
               refine (skipW_any m a1 a2 n1 c1 n2 c2 U hU g b t ta nt ct (w.heap.size + 1 + 1) p9 p10 k x W (wr.alloc (insO r.d r.aa r.na r.ca)) HMW.out HTW.out (HGL.out _ HC1.out) hg hb HGW.out hk HE1.out HPI.out).mono ?_
               rw [HK'.out, HX2.out]
               rintro e w3 ⟨rfl, hE3, hC3⟩
               have HE3 := Lib.hid hE3
               have HC3 := Lib.hid (HC1.out.trans hC3)
               have hbox : w3.heap[wr.heap.size]? = some (insO r.d r.aa r.na r.ca) := (hC3.block _ (by simp) (fun h => by have := HLTS.out; rcases h with h | h | h <;> omega)).trans HBX.out
               have HBox := Lib.hid hbox
               clear hE3 hC3 hbox))
          obtain ⟨b1, b2, b3, b4⟩ := HE3.out
          have HB3 := Lib.hid (HGL.out _ HC3.out)
          obtain ⟨u', tb, to_, hu', hok', rfl, h0, h1, h2, h3, h4, h5, h6, h7⟩ := ((HTW.out.1.ext HB3.out)).cells hkn
          obtain rfl : u = u' := by have := HU2.out; rw [hu'] at this; exact (Option.some.inj this).symm
          have kp9 : ∀ n : ExtW w3, n.val.cell? ⟨p9, 0, none⟩ = some (.pointer (some ⟨g, 0, none⟩)) := fun n => by rw [cell_of_row _ _ _ _ _ _ (block_ext n.ext b2)]; rfl
          have kt0 : ∀ n : ExtW w3, n.val.cell? ⟨w.heap.size + 1 + 1, 0, none⟩ = some (.slice (some ⟨tb, to_, none⟩) nt ct) := fun n => by rw [cell_of_row _ _ _ _ _ _ (block_ext n.ext b1)]; rfl
          have kx0 : ∀ n : ExtW w3, n.val.cell? ⟨p10, 0, none⟩ = some (.int .i64 (k' : Int)) := fun n => by rw [cell_of_row _ _ _ _ _ _ (block_ext n.ext b3)]; rfl
          have kbx : ∀ w', (∃ n : ExtW w3, w' = n.val) → w'.heap[wr.heap.size]? = some (insO r.d r.aa r.na r.ca) := fun w' ⟨n, e⟩ => by rw [e]; exact block_ext n.ext HBox.out
          have ku0 : ∀ n : ExtW w3, n.val.cell? ⟨tb, to_ + k' * 8, none⟩ = some (.int .i64 u.d.op) := fun n => cell_ext n.ext h0
          have ku1 : ∀ n : ExtW w3, n.val.cell? ⟨tb, to_ + k' * 8 + 1, none⟩ = some (.int .i64 u.d.dst) := fun n => cell_ext n.ext h1
          have ku2 : ∀ n : ExtW w3, n.val.cell? ⟨tb, to_ + k' * 8 + 2, none⟩ = some (.int .i64 u.d.a) := fun n => cell_ext n.ext h2
          have ku3 : ∀ n : ExtW w3, n.val.cell? ⟨tb, to_ + k' * 8 + 3, none⟩ = some (.int .i64 u.d.b) := fun n => cell_ext n.ext h3
          have ku4 : ∀ n : ExtW w3, n.val.cell? ⟨tb, to_ + k' * 8 + 4, none⟩ = some (.int .i64 u.d.imm) := fun n => cell_ext n.ext h4
          have ku5 : ∀ n : ExtW w3, n.val.cell? ⟨tb, to_ + k' * 8 + 5, none⟩ = some (.int .i64 u.d.callee) := fun n => cell_ext n.ext h5
          have ku6 : ∀ n : ExtW w3, n.val.cell? ⟨tb, to_ + k' * 8 + 6, none⟩ = some (.slice u.aa u.na u.ca) := fun n => cell_ext n.ext h6
          have ku7 : ∀ n : ExtW w3, n.val.cell? ⟨tb, to_ + k' * 8 + 7, none⟩ = some (.int .i64 u.d.many) := fun n => cell_ext n.ext h7
          have hi0 : (0 : Int) ≤ (k' : Int) := by omega
          have hi1 : (k' : Int) < (nt : Int) := by omega
          have HUM := Lib.hid (List.mem_of_getElem? hu')
          clear b1 b2 b3 b4 hu' hok' h0 h1 h2 h3 h4 h5 h6 h7 g0 g1 g2 g3 g4 g5 g6 g7
          refine region_mix (fun w' => ∃ n' : ExtW w3, w' = n'.val) [(0, 7, some (7, false))] (by kernel_rfl) (by kernel_rfl) ⟨⟨_, ext_drewN (Below.refl _ _) 1⟩, rfl⟩ ?_
          simp only [wpMix, List.take_succ_cons, List.take_zero, List.drop_succ_cons, List.drop_zero]
          repeat (first
            | (refine wpQuiet_load_row (o := ⟨some 36, .load 52 _, _, _, _, _⟩) (by rfl) 52 _ rfl wr.heap.size rfl 52 _ (0, 0) _ kbx Tryz.underlying52 rfl size_ins ?_; simp only [Act.put, List.setIfInBounds_toArray, List.set_cons_succ, List.set_cons_zero])
            | go_big_quiet_step (fail))
          refine wpQuiet_nil ?_
          refine wpOp_at rfl rfl ?_
          go_simp
          refine (doneW_any m a1 a2 n1 c1 n2 c2 U hU g b x2.1 x2.2 r u W w3.drew HMW.out (HSW.out.1.2 r HRM.out) (HTW.out.1.2 u HUM.out) (HNA.out r HRM.out) (HB3.out.drew) hg hb HE3.out.2.2.2 HLEN.out (fun hv => by
            have e : definesV r.d = r.d.dst := by unfold definesV at hv ⊢; split at hv <;> first | (rename_i h; rw [if_pos h]) | omega
            rw [e]; exact HVV.out r HRM.out) (fun p hp => HPP.out u HUM.out p hp)).mono ?_
          rintro e w4 ⟨rfl, hs4, hc4⟩
          have hc4 : Chg (WT g b) w3 w4 := ⟨hc4.os, hc4.tape, hc4.output, hc4.size, hc4.block⟩
          have HE4 : Hid (WJ m a1 n1 c1 a2 n2 c2 U g b t (some ⟨tb, to_, none⟩) nt ct (w.heap.size + 1 + 1) p9 p10 k' (doneKF m r u x2) w4) := HE3.out.step (x' := doneKF m r u x2) hs4 hc4
          have HC4 : Hid (Chg (WU g b p10) w2 w4) := HC3.out.trans (hc4.mono fun k hk => .inr hk)
          clear hs4 hc4 kp9 kt0 kx0 kbx ku0 ku1 ku2 ku3 ku4 ku5 ku6 ku7 HE3 HC3 HBox
          try simp only [Act.put, List.setIfInBounds_toArray, List.set_cons_succ, List.set_cons_zero]
          refine NoPanic.normal ?_
          obtain ⟨b1, b2, b3, b4⟩ := HE4.out
          have x4 : w4.cell? ⟨p10, 0, none⟩ = some (.int .i64 (k' : Int)) := by rw [cell_of_row _ _ _ _ _ _ b3]; rfl
          have x5 : w4.frozen? ⟨p10, 0, none⟩ = false := frozen_of_row _ _ _ _ _ b3
          clear b1 b2 b3 b4
          go_wp2
          go_roundg (ns - (i + 1))
          case measure => omega
          case rel =>
            have hat := HE4.out.next (k' + 1)
            refine ⟨i + 1, k' + 1, doneKF m r u x2, by go_num, by omega, Nat.le_refl _, by omega, ?_, HGo, HF2, HC4.out.setCell (Or.inl (Or.inl rfl)) _⟩
            rw [show ((k' + 1 : Nat) : Int) = (k' : Int) + 1 by omega] at hat
            exact hat
      · obtain rfl : i = ns := by omega
        have hgo := HGo.out
        rw [List.drop_of_length_le (by rw [HLs.out]; omega), walkGo_end] at hgo
        have HGo2 := Lib.hid hgo
        clear hgo HGo HFi
        have HNB3 : Hid (¬ WU g b p10 (w.heap.size + 1 + 1)) := fun h => by
          obtain ⟨n1, _, n3, _⟩ := HE.out.ne
          rcases h with h | h
          · exact n1 h
          · exact n3 h
        go_upto_region 14 with (first
          | (go_at_call 31
             refine (skipW_any m a1 a2 n1 c1 n2 c2 U hU g b t ta nt ct (w.heap.size + 1 + 1) p9 p10 k x W wr HMW.out HTW.out (HGL.out _ HC.out) hg hb HGW.out hk HE.out HPI.out).mono ?_
             rw [HGo2.out]
             rintro e w3 ⟨rfl, hE3, hC3⟩
             have HE3 := Lib.hid hE3
             have HC3 := Lib.hid (HC.out.trans hC3)
             clear hE3 hC3))
        obtain ⟨b1, b2, b3, b4⟩ := HE3.out
        have hs3 : w3.heap[w.heap.size + 1]? = some (blkO s sa i cs) := (HC3.out.block _ hsl2 HNB.out).trans HR12.out
        have x9 : w3.cell? ⟨p9, 0, none⟩ = some (.pointer (some ⟨g, 0, none⟩)) := by rw [cell_of_row _ _ _ _ _ _ b2]; rfl
        have s1 : w3.cell? ⟨w.heap.size + 1, 1, none⟩ = some (.int .i64 s.kind) := by rw [cell_of_row _ _ _ _ _ _ hs3]; rfl
        have s2 : w3.cell? ⟨w.heap.size + 1, 2, none⟩ = some (.int .i64 s.a) := by rw [cell_of_row _ _ _ _ _ _ hs3]; rfl
        have s3 : w3.cell? ⟨w.heap.size + 1, 3, none⟩ = some (.int .i64 s.to0) := by rw [cell_of_row _ _ _ _ _ _ hs3]; rfl
        have s4 : w3.cell? ⟨w.heap.size + 1, 4, none⟩ = some (.int .i64 s.to1) := by rw [cell_of_row _ _ _ _ _ _ hs3]; rfl
        have t1 : w3.cell? ⟨w.heap.size + 1 + 1, 1, none⟩ = some (.int .i64 t.kind) := by rw [cell_of_row _ _ _ _ _ _ b1]; rfl
        have t2 : w3.cell? ⟨w.heap.size + 1 + 1, 2, none⟩ = some (.int .i64 t.a) := by rw [cell_of_row _ _ _ _ _ _ b1]; rfl
        have t3 : w3.cell? ⟨w.heap.size + 1 + 1, 3, none⟩ = some (.int .i64 t.to0) := by rw [cell_of_row _ _ _ _ _ _ b1]; rfl
        have t4 : w3.cell? ⟨w.heap.size + 1 + 1, 4, none⟩ = some (.int .i64 t.to1) := by rw [cell_of_row _ _ _ _ _ _ b1]; rfl
        clear b1 b2 b3 b4 hs3
        go_wp2_with (first
          | (go_at_call 35
             refine (endW_any m a1 a2 n1 c1 n2 c2 U g b y0.1 y0.2 (trmOf s) (trmOf t) w3 (HMW.out.ext (HGL.out _ HC3.out)) HE3.out.2.2.2 (fun W' hc => HMW.out.ext (HGL.out _ (HC3.out.trans (hc.mono fun k hk => .inr hk))))).mono ?_
             rintro e w4 ⟨rfl, hs4, hc4⟩
             have HS4 := Lib.hid hs4
             have HC4 : Hid (Chg (WU g b p10) w2 w4) := (HC3.out.trans (hc4.mono fun k hk => .inr hk))
             have x10 : w4.cell? ⟨p9, 0, none⟩ = some (.pointer (some ⟨g, 0, none⟩)) := (by
               have h9 := (hc4.block p9 (Array.getElem?_eq_some_iff.1 HE3.out.2.1).1 HE3.out.ne.2.2.2.1).trans HE3.out.2.1
               rw [cell_of_row _ _ _ _ _ _ h9]; rfl)
             clear hs4 hc4 x9 s1 s2 s3 s4 t1 t2 t3 t4))
        go_ret
        exact ⟨g, b, rfl, by rw [HY2.out]; exact HS4.out, HB.out.trans (Below.mono (HGL.out _ HC4.out) HB.out.size)⟩
end
end Go.Proofs.YtfpbfdkjcmlimaaGreat
