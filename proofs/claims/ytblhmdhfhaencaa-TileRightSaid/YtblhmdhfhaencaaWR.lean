/-
  TileRight, its own walk.
-/
import Derived.Test.YtblhmdhfhaencaaSeq
import Derived.Test.YtblhmdhfhaencaaWB
import Derived.Test.YtblhmdhfhaencaaVC
import Derived.Test.YtblhmdhfhaencaaVA
import Derived.Test.YtblhmdhfhaencaaPick
import Derived.Test.YtblhmdhfhaencaaQA
import Derived.Test.YtblhmdhfhaencaaTX
import Derived.Test.YtblhmdhfhaencaaTV
import Derived.Test.YtblhmdhfhaencaaTM
namespace Go.Proofs.Ytblhmdhfhaencaa
set_option linter.unusedSimpArgs false
set_option linter.unusedVariables false
set_option linter.unusedSectionVars false
section
open Go.RowKit Go.Shelf
attribute [local go_sem] Oper.semAt_some wide_fn wide_depth wide_fnR wide_depthR

set_option maxRecDepth 100000 in
set_option maxHeartbeats 16000000 in
theorem tileRight_walk (pa : Option Addr) (pn pc : Nat) (hpn : pn ≤ 17592186044416) (ba : Option Addr) (bn bc : Nat) (xs : List BlkR) (a : Option Addr) (n c : Nat) (ls : List TileR) (turn : Int) (hti : I64 turn) (w : World) (h : BlksR w ba bn xs) (ht : TilesOK w a n ls) :
    Calls Try.prog 5 #[funcV pa pn pc ba bn bc, .slice a n c, .int .i64 turn] w fun e w' => e = .returned (.bool true) ∧ Below w.heap.size w w' := by
  have HR0 := Lib.hid h
  have HX : Hid (BlksOK w ba bn (hOf xs)) := h.x.1
  have hn := ht.1.2.1
  have HLL : Hid ((tdOf ls).length = n) := by rw [Hid, tdOf_len, ht.1.1]
  have HT := Lib.hid ht
  clear h ht
  go_enter Try.func5, Try.ntmps5
  go_upto_region 1 with (fail)
  obtain ⟨W, hW⟩ : ∃ W, W = w.alloc (funcO pa pn pc ba bn bc) := ⟨_, rfl⟩
  rw [← hW]
  have hk0 : W.heap[w.heap.size]? = some (funcO pa pn pc ba bn bc) := by rw [hW]; exact heap_alloc_new _ _
  have hB : Below w.heap.size w W := by rw [hW]; exact ext_alloc _ _
  have HK := Lib.hid hk0
  have HB := Lib.hid hB
  clear hW hk0 hB
  go_upto_region 3 with (
    (go_at_call 20
     refine (awake17_any W).mono ?_
     rintro e w1 ⟨rfl, hb⟩
     have HK1 := Lib.hid (block_ext hb HK.out)
     have HB1 := Lib.hid (ext_trans HB.out hb)
     clear hb))
  clear HK HB
  go_upto_region 5 with (first
    | (refine wpList_load_rowW (o := ⟨some 20, .load 25 _, _, _, _, _⟩) (by rfl) 25 _ rfl w.heap.size rfl 25 _ (0, 0) _ HK1.out Try.underlying25 rfl size_func ?_)
    | (go_at_call 21
       refine (great17_any2 pa pn pc hpn ba bn bc xs a n c ls w1 (HR0.out.ext HB1.out) (HT.out.ext HB1.out)).mono ?_
       rintro e w2 ⟨gb, rfl, hb, hgr⟩
       have HK2 := Lib.hid (block_ext hb HK1.out)
       have HB2 := Lib.hid (ext_trans HB1.out hb)
       have HGR := Lib.hid hgr
       clear hb hgr
       cases gb)
    | (refine wpList_load_rowW (o := ⟨some 24, .load 25 _, _, _, _, _⟩) (by rfl) 25 _ rfl w.heap.size rfl 25 _ (0, 0) _ HK2.out Try.underlying25 rfl size_func ?_)
    | (go_at_call 12
       refine (tright_any pa pn pc ba bn bc (hOf xs) a n c ls w2 (HX.out.ext HB2.out) (HT.out.ext HB2.out) (by have := (HGR.out (by trivial)).2.1; omega)).mono ?_
       rintro e w3 ⟨rfl, hb⟩
       have HK3 := Lib.hid (block_ext hb HK2.out)
       have HB3 := Lib.hid (ext_trans HB2.out hb)
       clear hb
       cases hr : rightB (tsOf (hOf xs)) (tdOf ls)))
  all_goals first | (go_ret; exact ⟨rfl, by first | exact HB3.out | exact HB2.out⟩) | skip
  have HR := Lib.hid hr
  have HTOT : Hid (totL (tdOf ls) ≤ 120) := by have := (HGR.out (by trivial)).2.1; rw [Hid]; omega
  have hn120 : n ≤ 120 := by have := (HGR.out (by trivial)).2.1; omega
  have HF : Hid (fitsB (tsOf (hOf xs)) = true) := right_fits hr
  have hbl : (tsOf (hOf xs)).length = bn := by rw [tsOf_len]; exact HX.out.1.1
  have HOB : Hid (ownB (tdOf ls) bn = true) := by rw [Hid, ← hbl]; exact (right_facts hr).2.2.2.1
  have hbn1 : 1 ≤ bn := by have := ((goodB_iff _).1 (fits_facts HF.out).1).1; omega
  have hbn2 : bn ≤ 200 := by have := ((goodB_iff _).1 (fits_facts HF.out).1).1; omega
  have hn1 : 1 ≤ n := by have := (own_lt2 HOB.out hbn1).1; rw [HLL.out] at this; omega
  have HBL := Lib.hid hbl
  clear HGR HK1 HB1 HK2 HB2 hr hbl
  go_upto_region 6 with (first
    | (refine wpList_load_rowW (o := ⟨some 30, .load 25 _, _, _, _, _⟩) (by rfl) 25 _ rfl w.heap.size rfl 25 _ (0, 0) _ HK3.out Try.underlying25 rfl size_func ?_)
    | (go_at_call 10
       refine (town_any pa pn pc ba bn bc (hOf xs) a n c ls w3 (HX.out.ext HB3.out) (HT.out.ext HB3.out)).mono ?_
       rintro e w4 ⟨v, en, rfl, hb, h0, h1, h2⟩
       obtain ⟨rfl, g, oc, rfl, hown⟩ := h2 HF.out HOB.out
       have HK4 := Lib.hid (block_ext hb HK3.out)
       have HB4 := Lib.hid (ext_trans HB3.out hb)
       have HOWN := Lib.hid hown.ints
       clear hb h0 h1 h2 hown))
  clear HK3 HB3
  refine region_free 11 [some 35, some 36, some 37, some 38, some 39, some 40, some 41, some 42, some 43, some 44, some 45] (by kernel_rfl) (by kernel_rfl) (specB [.val (.int .i64 0), .val (.bool false), .val (.bool false), .val (.slice a n c), (.any fun v lo hi W => ∃ a9 c9, v = .slice a9 bn c9), .val (.int .i64 (bn : Int)), .val (.pointer (some ⟨w.heap.size, 1, none⟩)), .val (.slice ba bn bc), .val (.int .i64 (bn : Int)), .val (.bool false), .val (.bool false)]) (specB_mono ?_) ?_ ?_
  · intro k hk
    simp only [List.mem_cons, List.not_mem_nil, or_false] at hk
    rcases hk with rfl | rfl | rfl | rfl | rfl | rfl | rfl | rfl | rfl | rfl | rfl
    · exact trivial
    · exact trivial
    · exact trivial
    · exact trivial
    · intro v lo hi w w' hb h; exact h
    · exact trivial
    · exact trivial
    · exact trivial
    · exact trivial
    · exact trivial
    · exact trivial
  · intro i hi ν lo hi' w1 K hB hD hK
    have hcase : i = 0 ∨ i = 1 ∨ i = 2 ∨ i = 3 ∨ i = 4 ∨ i = 5 ∨ i = 6 ∨ i = 7 ∨ i = 8 ∨ i = 9 ∨ i = 10 := by omega
    clear hi
    rcases hcase with rfl | rfl | rfl | rfl | rfl | rfl | rfl | rfl | rfl | rfl | rfl
    · clear hD
      refine wpOp_atK rfl rfl ?_
      simp only [frameOf, frameGo, List.getD_cons_zero, List.getD_cons_succ, put_some, put_none, List.setIfInBounds_toArray, List.set_cons_succ, List.set_cons_zero] at hK ⊢
      go_simp
      exact hK _ _ (Below.refl _ _) rfl
    · have e0 := hD 0 (by kernel_rfl)
      replace e0 : ν 0 = (.int .i64 0) := e0
      clear hD
      refine wpOp_atK rfl rfl ?_
      simp only [frameOf, frameGo, List.getD_cons_zero, List.getD_cons_succ, put_some, put_none, List.setIfInBounds_toArray, List.set_cons_succ, List.set_cons_zero, e0] at hK ⊢
      go_simp
      exact hK _ _ (Below.refl _ _) rfl
    · have e1 := hD 1 (by kernel_rfl)
      replace e1 : ν 1 = (.bool false) := e1
      clear hD
      refine wpOp_atK rfl rfl ?_
      simp only [frameOf, frameGo, List.getD_cons_zero, List.getD_cons_succ, put_some, put_none, List.setIfInBounds_toArray, List.set_cons_succ, List.set_cons_zero, e1] at hK ⊢
      go_simp
      exact hK _ _ (Below.refl _ _) rfl
    · have e2 := hD 2 (by kernel_rfl)
      replace e2 : ν 2 = (.bool false) := e2
      clear hD
      simp only [frameOf, frameGo, List.getD_cons_zero, List.getD_cons_succ, put_some, put_none, List.setIfInBounds_toArray, List.set_cons_succ, List.set_cons_zero, e2] at hK ⊢
      refine wpOp_atW rfl (by rfl) ?_
      go_simp
      exact hK _ _ (Below.refl _ _) rfl
    · have e2 := hD 2 (by kernel_rfl)
      replace e2 : ν 2 = (.bool false) := e2
      have e3 := hD 3 (by kernel_rfl)
      replace e3 : ν 3 = (.slice a n c) := e3
      clear hD
      simp only [frameOf, frameGo, List.getD_cons_zero, List.getD_cons_succ, put_some, put_none, List.setIfInBounds_toArray, List.set_cons_succ, List.set_cons_zero, e2, e3] at hK ⊢
      refine wpOp_atW rfl (by rfl) ?_
      go_simp
      refine (all_any a n c ls 0 w1 (HT.out.ext (ext_trans HB4.out hB)) (by unfold I64; omega) (by have := HTOT.out; omega)).mono ?_
      rintro e w3 ⟨v, rfl, ho, hb3⟩
      obtain ⟨a9, c9, e9⟩ := ho.form
      rw [all_root HR.out, List.length_map, List.length_range, HBL.out] at e9
      exact hK _ _ hb3 ⟨a9, c9, e9⟩
    · have e2 := hD 2 (by kernel_rfl)
      replace e2 : ν 2 = (.bool false) := e2
      have e4 := hD 4 (by kernel_rfl)
      unfold specB at e4
      simp only [List.getD_cons_zero, List.getD_cons_succ, specK] at e4
      clear hD
      simp only [frameOf, frameGo, List.getD_cons_zero, List.getD_cons_succ, put_some, put_none, List.setIfInBounds_toArray, List.set_cons_succ, List.set_cons_zero, e2] at hK ⊢
      refine wpOp_atW rfl (by rfl) ?_
      obtain ⟨a9, c9, e4'⟩ := e4
      simp only [e4'] at hK ⊢
      go_simp
      exact hK _ _ (Below.refl _ _) rfl
    · have e2 := hD 2 (by kernel_rfl)
      replace e2 : ν 2 = (.bool false) := e2
      clear hD
      simp only [frameOf, frameGo, List.getD_cons_zero, List.getD_cons_succ, put_some, put_none, List.setIfInBounds_toArray, List.set_cons_succ, List.set_cons_zero, e2] at hK ⊢
      refine wpOp_atW rfl (by rfl) ?_
      go_simp
      exact hK _ _ (Below.refl _ _) rfl
    · have e2 := hD 2 (by kernel_rfl)
      replace e2 : ν 2 = (.bool false) := e2
      have e6 := hD 6 (by kernel_rfl)
      replace e6 : ν 6 = (.pointer (some ⟨w.heap.size, 1, none⟩)) := e6
      clear hD
      simp only [frameOf, frameGo, List.getD_cons_zero, List.getD_cons_succ, put_some, put_none, List.setIfInBounds_toArray, List.set_cons_succ, List.set_cons_zero, e2, e6] at hK ⊢
      refine wpOp_atW rfl (by rfl) ?_
      have q1 : w1.cell? ⟨w.heap.size, 1, none⟩ = some (.slice ba bn bc) := (by rw [cell_of_row _ _ _ _ _ _ (block_ext hB HK4.out)]; rfl)
      go_simp
      exact hK _ _ (Below.refl _ _) rfl
    · have e2 := hD 2 (by kernel_rfl)
      replace e2 : ν 2 = (.bool false) := e2
      have e7 := hD 7 (by kernel_rfl)
      replace e7 : ν 7 = (.slice ba bn bc) := e7
      clear hD
      simp only [frameOf, frameGo, List.getD_cons_zero, List.getD_cons_succ, put_some, put_none, List.setIfInBounds_toArray, List.set_cons_succ, List.set_cons_zero, e2, e7] at hK ⊢
      refine wpOp_atW rfl (by rfl) ?_
      go_simp
      exact hK _ _ (Below.refl _ _) rfl
    · have e2 := hD 2 (by kernel_rfl)
      replace e2 : ν 2 = (.bool false) := e2
      have e5 := hD 5 (by kernel_rfl)
      replace e5 : ν 5 = (.int .i64 (bn : Int)) := e5
      have e8 := hD 8 (by kernel_rfl)
      replace e8 : ν 8 = (.int .i64 (bn : Int)) := e8
      clear hD
      simp only [frameOf, frameGo, List.getD_cons_zero, List.getD_cons_succ, put_some, put_none, List.setIfInBounds_toArray, List.set_cons_succ, List.set_cons_zero, e2, e5, e8] at hK ⊢
      refine wpOp_atW rfl (by rfl) ?_
      go_simp
      exact hK _ _ (Below.refl _ _) rfl
    · have e2 := hD 2 (by kernel_rfl)
      replace e2 : ν 2 = (.bool false) := e2
      have e9 := hD 9 (by kernel_rfl)
      replace e9 : ν 9 = (.bool false) := e9
      clear hD
      refine wpOp_atK rfl rfl ?_
      simp only [frameOf, frameGo, List.getD_cons_zero, List.getD_cons_succ, put_some, put_none, List.setIfInBounds_toArray, List.set_cons_succ, List.set_cons_zero, e2, e9] at hK ⊢
      go_simp
      exact hK _ _ (Below.refl _ _) rfl
  · intro ν lo hi w1 hB hS hI hD
    have e0 : ν 0 = (.int .i64 0) := hS 0 (by omega)
    have e1 : ν 1 = (.bool false) := hS 1 (by omega)
    have e2 : ν 2 = (.bool false) := hS 2 (by omega)
    have e3 : ν 3 = (.slice a n c) := hS 3 (by omega)
    have e4 := hS 4 (by omega)
    unfold specB at e4
    simp only [List.getD_cons_zero, List.getD_cons_succ, specK] at e4
    have e5 : ν 5 = (.int .i64 (bn : Int)) := hS 5 (by omega)
    have e6 : ν 6 = (.pointer (some ⟨w.heap.size, 1, none⟩)) := hS 6 (by omega)
    have e7 : ν 7 = (.slice ba bn bc) := hS 7 (by omega)
    have e8 : ν 8 = (.int .i64 (bn : Int)) := hS 8 (by omega)
    have e9 : ν 9 = (.bool false) := hS 9 (by omega)
    have e10 : ν 10 = (.bool false) := hS 10 (by omega)
    clear hS
    simp only [List.drop_succ_cons, List.drop_zero, frameOf, frameGo, List.getD_cons_zero, List.getD_cons_succ, put_some, put_none, List.setIfInBounds_toArray, List.set_cons_succ, List.set_cons_zero, e0, e1, e2, e3, e5, e6, e7, e8, e9, e10]
    have HB6 := Lib.hid (ext_trans HB4.out hB)
    have HOWN6 := Lib.hid (HOWN.out.ext hB)
    have HK6 := Lib.hid (block_ext hB HK4.out)
    clear hI hD hB e0 e1 e2 e3 e4 e5 e6 e7 e8 e9 e10 HK4 HB4 HOWN
    obtain ⟨w6, hw6⟩ : ∃ w6, w6 = w1 := ⟨_, rfl⟩
    rw [← hw6] at HB6 HOWN6 HK6 ⊢
    clear hw6
    go_wp2
    go_loopw [9, 10] (fun s9 s10 wr => ∃ b : Nat, b ≤ bn ∧ s9 = .int .i64 b ∧ Hid (Below w6.heap.size w6 wr)) (fun s9 _ _ => bn - (intOf s9).toNat)
    case atStart => exact ⟨0, by omega, rfl, Below.refl _ _⟩
    case round =>
      obtain ⟨b, hb, rfl, HBr⟩ := hrel
      by_cases hlt : b < bn
      · obtain ⟨ob, hob⟩ : ∃ x, x = ownF (tdOf ls) b := ⟨_, rfl⟩
        have HOBE := Lib.hid hob
        have c0 : w6.cell? ⟨g, b, none⟩ = some (.int .i64 (ob : Int)) := by
          obtain ⟨b', o', e, hc, _⟩ := HOWN6.out.2.2 b hlt
          injection e with e
          injection e with e1 e2
          subst e1 e2
          rw [Nat.zero_add, show (ownL (tdOf ls) bn).getD b 0 = (ob : Int) by rw [hob]; simp [ownL, List.getD_eq_getElem?_getD, hlt]] at hc
          exact hc
        have C0 := Lib.hid c0
        clear hob c0
        obtain ⟨wo, rfl⟩ : ∃ wo : World, wo = wr := ⟨_, rfl⟩
        go_wp2
        go_loopw [10] (fun s10 wi => ∃ k : Nat, k ≤ n ∧ s10 = .int .i64 k ∧ Hid (Below w6.heap.size w6 wi)) (fun s10 _ => n - (intOf s10).toNat)
        case atStart => exact ⟨0, by omega, by go_num, HBr⟩
        case round =>
          obtain ⟨k, hk, rfl, HBi⟩ := hrel
          by_cases hkl : k < n
          · obtain ⟨t, tb, tf, hts, ⟨hin, htc, _, _⟩, rfl, ck, cp, cb⟩ := (HT.out.ext (ext_trans HB6.out HBi.out)).cells hkl
            have HIN := Lib.hid hin
            have hoh : t.d.blocks.contains (b : Int) = decide ((ob : Int) = (k : Int)) := by
              have h1 := own_has HOB.out hlt (k := k) (by rw [HLL.out]; exact hkl)
              rw [← HOBE.out] at h1
              have h2 : blkL (tdOf ls) k = t.d.blocks := by rw [blkL, tdOf_at ls k t hts]
              rw [← h2, h1]
              exact Bool.beq_eq_decide_eq _ _
            obtain ⟨q, hq⟩ : ∃ q, q = decide ((ob : Int) = (k : Int)) := ⟨_, rfl⟩
            have HA1 : Hid (∀ n' : ExtW wr, Calls Try.prog 23 #[.slice t.ba t.bn t.bc, .int .i64 (b : Int)] n'.val fun e w'' => e = .returned (.bool q) ∧ ∃ m : ExtW wr, w'' = m.val) := fun n' =>
              (among17_any t.ba t.bn t.bc t.d.blocks b n'.val (HIN.out.ext n'.ext)).mono fun e w'' h => ⟨by rw [h.1, hoh, hq], n', h.2.symm⟩
            have q1 : ∀ n' : ExtW wr, n'.val.cell? ⟨tb, tf + k * 3 + 2, none⟩ = some (.slice t.ba t.bn t.bc) := ExtW.cell cb
            have q2 : ∀ n' : ExtW wr, n'.val.cell? ⟨g, b, none⟩ = some (.int .i64 (ob : Int)) := ExtW.cell (cell_ext HBi.out C0.out)
            have HNE : Nonempty (ExtW wr) := ⟨⟨wr, Below.refl _ _⟩⟩
            have hkl' : (k : Int) < (n : Int) := by omega
            have hlt' : (b : Int) < (bn : Int) := by omega
            clear hin htc ck cp cb hoh hts
            by_cases he : (ob : Int) = (k : Int)
            all_goals
              simp only [he, decide_true, decide_false] at hq q2
              subst hq
              go_wp2
              refine region_ext (by kernel_rfl) (by kernel_rfl) ?_
              repeat (first
                | go_big_quiet_skip
                | go_big_quiet_step (first
                  | (go_at_call 23; (with_reducible exact HA1.out _))))
              refine wpQuiet_nil ?_
              intro _ hw'
              obtain ⟨n', rfl⟩ := hw'
              obtain ⟨W4, hW4⟩ : ∃ W4, W4 = n'.val := ⟨_, rfl⟩
              have HB9 : Hid (Below w6.heap.size w6 W4) := by rw [Hid, hW4]; exact ext_trans HBi.out n'.ext
              rw [← hW4]
              clear hW4 n' HA1 q1 q2 HIN HNE
              go_wp2
              go_roundw
              case rel => exact ⟨k + 1, by omega, by go_num, HB9⟩
              case measure => simp [intOf]; omega
          · obtain rfl : n = k := by omega
            go_wp2
            go_roundw
            case rel => exact ⟨b + 1, by omega, by go_num, HBi⟩
            case measure => simp [intOf]; omega
      · obtain rfl : bn = b := by omega
        clear HOWN6
        go_wp2
        go_loopw [11, 12, 13, 14] (fun s11 s12 s13 s14 wr => ∃ k : Nat, 1 ≤ k ∧ k ≤ n ∧ s11 = .int .i64 k ∧ Hid (Below w6.heap.size w6 wr)) (fun s11 _ _ _ _ => n - (intOf s11).toNat)
        case atStart => exact ⟨1, by omega, by omega, rfl, HBr⟩
        case round =>
          clear HBr
          obtain ⟨k, hk1, hk, rfl, HBr⟩ := hrel
          by_cases hkl : k < n
          · obtain ⟨t, tb, tf, hts, ⟨_, _, _, hip⟩, rfl, ck, cp, cb⟩ := (HT.out.ext (ext_trans HB6.out HBr.out)).cells hkl
            obtain ⟨al, hal⟩ : ∃ x, x = allL (tdOf ls) (k : Int) := ⟨_, rfl⟩
            obtain ⟨up, hup⟩ : ∃ x, x = allL (tdOf ls) t.d.parent := ⟨_, rfl⟩
            have HSUB : Hid (∀ x ∈ al, up.contains x = true) := fun x hx => by
              rw [List.contains_iff_mem, hup]
              rw [hal] at hx
              have h1 := all_sub HR.out hk1 (by rw [HLL.out]; exact hkl) hx
              rw [parL, tdOf_at ls k t hts] at h1
              exact h1
            obtain ⟨pr, hpr⟩ : ∃ x, x = t.d.parent := ⟨_, rfl⟩
            rw [← hpr] at cp hip hup
            have CP := Lib.hid cp
            have HALE := Lib.hid hal
            have HUPE := Lib.hid hup
            have HIP := Lib.hid hip
            have hkl' : (k : Int) < (n : Int) := by omega
            clear hal hup hip ck cp cb hts hpr
            go_upto_region 19 with (fail)
            refine region_free 12 [some 78, some 79, some 80, some 81, some 82, some 83, some 84, some 85, some 86, some 87, some 12, some 13] (by kernel_rfl) (by kernel_rfl) (specB [.val (.slice (some ⟨tb, tf, none⟩) n c), .val (.int .i64 (k : Int)), (.any fun v lo hi W => ∃ a9 c9, v = .slice a9 al.length c9 ∧ Ints W a9 al.length al), .val (.slice (some ⟨tb, tf, none⟩) n c), .val (.slice (some ⟨tb, tf, none⟩) n c), .val (.int .i64 (k : Int)), .val (.pointer (some ⟨tb, tf + k * 3, none⟩)), .val (.pointer (some ⟨tb, tf + k * 3 + 1, none⟩)), .val (.int .i64 pr), (.any fun v lo hi W => ∃ a9 c9, v = .slice a9 up.length c9 ∧ Ints W a9 up.length up), (.any fun v lo hi W => ∃ a9 c9, v = .slice a9 al.length c9 ∧ Ints W a9 al.length al), (.any fun v lo hi W => ∃ a9 c9, v = .slice a9 up.length c9 ∧ Ints W a9 up.length up)]) (specB_mono ?_) ?_ ?_
            · intro k hk
              simp only [List.mem_cons, List.not_mem_nil, or_false] at hk
              rcases hk with rfl | rfl | rfl | rfl | rfl | rfl | rfl | rfl | rfl | rfl | rfl | rfl
              · exact trivial
              · exact trivial
              · intro v lo hi w w' hb ⟨a9, c9, e, hi9⟩; exact ⟨a9, c9, e, hi9.ext hb⟩
              · exact trivial
              · exact trivial
              · exact trivial
              · exact trivial
              · exact trivial
              · exact trivial
              · intro v lo hi w w' hb ⟨a9, c9, e, hi9⟩; exact ⟨a9, c9, e, hi9.ext hb⟩
              · intro v lo hi w w' hb ⟨a9, c9, e, hi9⟩; exact ⟨a9, c9, e, hi9.ext hb⟩
              · intro v lo hi w w' hb ⟨a9, c9, e, hi9⟩; exact ⟨a9, c9, e, hi9.ext hb⟩
            · intro i hi ν lo hi' w1 K hB hD hK
              have hcase : i = 0 ∨ i = 1 ∨ i = 2 ∨ i = 3 ∨ i = 4 ∨ i = 5 ∨ i = 6 ∨ i = 7 ∨ i = 8 ∨ i = 9 ∨ i = 10 ∨ i = 11 := by omega
              clear hi
              rcases hcase with rfl | rfl | rfl | rfl | rfl | rfl | rfl | rfl | rfl | rfl | rfl | rfl
              · clear hD
                refine wpOp_atK rfl rfl ?_
                simp only [frameOf, frameGo, List.getD_cons_zero, List.getD_cons_succ, put_some, put_none, List.setIfInBounds_toArray, List.set_cons_succ, List.set_cons_zero] at hK ⊢
                go_simp
                exact hK _ _ (Below.refl _ _) rfl
              · clear hD
                refine wpOp_atK rfl rfl ?_
                simp only [frameOf, frameGo, List.getD_cons_zero, List.getD_cons_succ, put_some, put_none, List.setIfInBounds_toArray, List.set_cons_succ, List.set_cons_zero] at hK ⊢
                go_simp
                exact hK _ _ (Below.refl _ _) rfl
              · have e0 := hD 0 (by kernel_rfl)
                replace e0 : ν 0 = (.slice (some ⟨tb, tf, none⟩) n c) := e0
                have e1 := hD 1 (by kernel_rfl)
                replace e1 : ν 1 = (.int .i64 (k : Int)) := e1
                clear hD
                refine wpOp_atK rfl rfl ?_
                simp only [frameOf, frameGo, List.getD_cons_zero, List.getD_cons_succ, put_some, put_none, List.setIfInBounds_toArray, List.set_cons_succ, List.set_cons_zero, e0, e1] at hK ⊢
                go_simp
                refine (all_any (some ⟨tb, tf, none⟩) n c ls (k : Int) w1 (HT.out.ext (ext_trans HB6.out (ext_trans HBr.out hB))) (by unfold I64; omega) (by have := HTOT.out; omega)).mono ?_
                rintro e w3 ⟨v, rfl, ho, hb3⟩
                rw [← HALE.out] at ho
                obtain ⟨a9, c9, e9⟩ := ho.form
                rw [e9] at ho
                exact hK _ _ hb3 ⟨a9, c9, e9, ho.ints⟩
              · clear hD
                refine wpOp_atK rfl rfl ?_
                simp only [frameOf, frameGo, List.getD_cons_zero, List.getD_cons_succ, put_some, put_none, List.setIfInBounds_toArray, List.set_cons_succ, List.set_cons_zero] at hK ⊢
                go_simp
                exact hK _ _ (Below.refl _ _) rfl
              · clear hD
                refine wpOp_atK rfl rfl ?_
                simp only [frameOf, frameGo, List.getD_cons_zero, List.getD_cons_succ, put_some, put_none, List.setIfInBounds_toArray, List.set_cons_succ, List.set_cons_zero] at hK ⊢
                go_simp
                exact hK _ _ (Below.refl _ _) rfl
              · clear hD
                refine wpOp_atK rfl rfl ?_
                simp only [frameOf, frameGo, List.getD_cons_zero, List.getD_cons_succ, put_some, put_none, List.setIfInBounds_toArray, List.set_cons_succ, List.set_cons_zero] at hK ⊢
                go_simp
                exact hK _ _ (Below.refl _ _) rfl
              · have e4 := hD 4 (by kernel_rfl)
                replace e4 : ν 4 = (.slice (some ⟨tb, tf, none⟩) n c) := e4
                have e5 := hD 5 (by kernel_rfl)
                replace e5 : ν 5 = (.int .i64 (k : Int)) := e5
                clear hD
                refine wpOp_atK rfl rfl ?_
                simp only [frameOf, frameGo, List.getD_cons_zero, List.getD_cons_succ, put_some, put_none, List.setIfInBounds_toArray, List.set_cons_succ, List.set_cons_zero, e4, e5] at hK ⊢
                go_simp
                exact hK _ _ (Below.refl _ _) rfl
              · have e6 := hD 6 (by kernel_rfl)
                replace e6 : ν 6 = (.pointer (some ⟨tb, tf + k * 3, none⟩)) := e6
                clear hD
                refine wpOp_atK rfl rfl ?_
                simp only [frameOf, frameGo, List.getD_cons_zero, List.getD_cons_succ, put_some, put_none, List.setIfInBounds_toArray, List.set_cons_succ, List.set_cons_zero, e6] at hK ⊢
                go_simp
                exact hK _ _ (Below.refl _ _) rfl
              · have e7 := hD 7 (by kernel_rfl)
                replace e7 : ν 7 = (.pointer (some ⟨tb, tf + k * 3 + 1, none⟩)) := e7
                clear hD
                refine wpOp_atK rfl rfl ?_
                simp only [frameOf, frameGo, List.getD_cons_zero, List.getD_cons_succ, put_some, put_none, List.setIfInBounds_toArray, List.set_cons_succ, List.set_cons_zero, e7] at hK ⊢
                have q := cell_ext hB CP.out
                go_simp
                exact hK _ _ (Below.refl _ _) rfl
              · have e2 := hD 2 (by kernel_rfl)
                unfold specB at e2
                simp only [List.getD_cons_zero, List.getD_cons_succ, specK] at e2
                have e3 := hD 3 (by kernel_rfl)
                replace e3 : ν 3 = (.slice (some ⟨tb, tf, none⟩) n c) := e3
                have e8 := hD 8 (by kernel_rfl)
                replace e8 : ν 8 = (.int .i64 pr) := e8
                clear hD
                refine wpOp_atK rfl rfl ?_
                simp only [frameOf, frameGo, List.getD_cons_zero, List.getD_cons_succ, put_some, put_none, List.setIfInBounds_toArray, List.set_cons_succ, List.set_cons_zero, e3, e8] at hK ⊢
                go_simp
                refine (all_any (some ⟨tb, tf, none⟩) n c ls pr w1 (HT.out.ext (ext_trans HB6.out (ext_trans HBr.out hB))) HIP.out (by have := HTOT.out; omega)).mono ?_
                rintro e w3 ⟨v, rfl, ho, hb3⟩
                rw [← HUPE.out] at ho
                obtain ⟨a9, c9, e9⟩ := ho.form
                rw [e9] at ho
                exact hK _ _ hb3 ⟨a9, c9, e9, ho.ints⟩
              · have e0 := hD 0 (by kernel_rfl)
                replace e0 : ν 0 = (.slice (some ⟨tb, tf, none⟩) n c) := e0
                have e1 := hD 1 (by kernel_rfl)
                replace e1 : ν 1 = (.int .i64 (k : Int)) := e1
                have e2 := hD 2 (by kernel_rfl)
                unfold specB at e2
                simp only [List.getD_cons_zero, List.getD_cons_succ, specK] at e2
                have e9 := hD 9 (by kernel_rfl)
                unfold specB at e9
                simp only [List.getD_cons_zero, List.getD_cons_succ, specK] at e9
                clear hD
                refine wpOp_atK rfl rfl ?_
                simp only [frameOf, frameGo, List.getD_cons_zero, List.getD_cons_succ, put_some, put_none, List.setIfInBounds_toArray, List.set_cons_succ, List.set_cons_zero, e0, e1] at hK ⊢
                obtain ⟨a9, c9, e2', h2⟩ := e2
                simp only [e2'] at hK ⊢
                go_simp
                exact hK _ _ (Below.refl _ _) ⟨a9, c9, rfl, h2⟩
              · have e0 := hD 0 (by kernel_rfl)
                replace e0 : ν 0 = (.slice (some ⟨tb, tf, none⟩) n c) := e0
                have e1 := hD 1 (by kernel_rfl)
                replace e1 : ν 1 = (.int .i64 (k : Int)) := e1
                have e2 := hD 2 (by kernel_rfl)
                unfold specB at e2
                simp only [List.getD_cons_zero, List.getD_cons_succ, specK] at e2
                have e3 := hD 3 (by kernel_rfl)
                replace e3 : ν 3 = (.slice (some ⟨tb, tf, none⟩) n c) := e3
                have e4 := hD 4 (by kernel_rfl)
                replace e4 : ν 4 = (.slice (some ⟨tb, tf, none⟩) n c) := e4
                have e5 := hD 5 (by kernel_rfl)
                replace e5 : ν 5 = (.int .i64 (k : Int)) := e5
                have e6 := hD 6 (by kernel_rfl)
                replace e6 : ν 6 = (.pointer (some ⟨tb, tf + k * 3, none⟩)) := e6
                have e7 := hD 7 (by kernel_rfl)
                replace e7 : ν 7 = (.pointer (some ⟨tb, tf + k * 3 + 1, none⟩)) := e7
                have e8 := hD 8 (by kernel_rfl)
                replace e8 : ν 8 = (.int .i64 pr) := e8
                have e9 := hD 9 (by kernel_rfl)
                unfold specB at e9
                simp only [List.getD_cons_zero, List.getD_cons_succ, specK] at e9
                have e10 := hD 10 (by kernel_rfl)
                unfold specB at e10
                simp only [List.getD_cons_zero, List.getD_cons_succ, specK] at e10
                clear hD
                refine wpOp_atK rfl rfl ?_
                simp only [frameOf, frameGo, List.getD_cons_zero, List.getD_cons_succ, put_some, put_none, List.setIfInBounds_toArray, List.set_cons_succ, List.set_cons_zero, e0, e1, e3, e4, e5, e6, e7, e8] at hK ⊢
                obtain ⟨a9, c9, e9', h9⟩ := e9
                simp only [e9'] at hK ⊢
                go_simp
                exact hK _ _ (Below.refl _ _) ⟨a9, c9, rfl, h9⟩
            · intro ν lo hi w1 hB hS hI hD
              have e0 : ν 0 = (.slice (some ⟨tb, tf, none⟩) n c) := hS 0 (by omega)
              have e1 : ν 1 = (.int .i64 (k : Int)) := hS 1 (by omega)
              have e2 := hS 2 (by omega)
              unfold specB at e2
              simp only [List.getD_cons_zero, List.getD_cons_succ, specK] at e2
              have e3 : ν 3 = (.slice (some ⟨tb, tf, none⟩) n c) := hS 3 (by omega)
              have e4 : ν 4 = (.slice (some ⟨tb, tf, none⟩) n c) := hS 4 (by omega)
              have e5 : ν 5 = (.int .i64 (k : Int)) := hS 5 (by omega)
              have e6 : ν 6 = (.pointer (some ⟨tb, tf + k * 3, none⟩)) := hS 6 (by omega)
              have e7 : ν 7 = (.pointer (some ⟨tb, tf + k * 3 + 1, none⟩)) := hS 7 (by omega)
              have e8 : ν 8 = (.int .i64 pr) := hS 8 (by omega)
              have e9 := hS 9 (by omega)
              unfold specB at e9
              simp only [List.getD_cons_zero, List.getD_cons_succ, specK] at e9
              have e10 := hS 10 (by omega)
              unfold specB at e10
              simp only [List.getD_cons_zero, List.getD_cons_succ, specK] at e10
              have e11 := hS 11 (by omega)
              unfold specB at e11
              simp only [List.getD_cons_zero, List.getD_cons_succ, specK] at e11
              clear hS
              simp only [List.drop_succ_cons, List.drop_zero, frameOf, frameGo, List.getD_cons_zero, List.getD_cons_succ, put_some, put_none, List.setIfInBounds_toArray, List.set_cons_succ, List.set_cons_zero, e0, e1, e3, e4, e5, e6, e7, e8]
              obtain ⟨aa, ac, e10', hal⟩ := e10
              obtain ⟨ua, uc, e11', hup⟩ := e11
              simp only [e10', e11']
              have HAL := Lib.hid hal
              have HUP := Lib.hid hup
              have HB9 := Lib.hid (ext_trans HBr.out hB)
              clear hI hD hB e0 e1 e2 e3 e4 e5 e6 e7 e8 e9 e10' e11' hal hup
              obtain ⟨w9, hw9⟩ : ∃ w9, w9 = w1 := ⟨_, rfl⟩
              rw [← hw9] at HAL HUP HB9 ⊢
              clear hw9 HALE HUPE CP
              go_wp2
              go_loopw [14] (fun s14 wi => ∃ i : Nat, i ≤ al.length ∧ s14 = .int .i64 i ∧ Hid (Below w9.heap.size w9 wi)) (fun s14 _ => al.length - (intOf s14).toNat)
              case atStart => exact ⟨0, by omega, by go_num, Below.refl _ _⟩
              case round =>
                obtain ⟨i, hi, rfl, HBi⟩ := hrel
                have hln := HAL.out.2.1
                by_cases hil : i < al.length
                · obtain ⟨b8, o8, rfl, cA, _⟩ := (HAL.out.ext HBi.out).2.2 i hil
                  have HMEM : Hid (up.contains (al.getD i 0) = true) := HSUB.out _ (by rw [List.getD_eq_getElem?_getD, List.getElem?_eq_getElem hil]; exact List.getElem_mem _)
                  generalize al.getD i 0 = y at *
                  have hil' : (i : Int) < (al.length : Int) := by omega
                  go_wp2_with (go_at_call 23
                               refine (among17_any ua up.length uc up y wr (HUP.out.ext HBi.out)).mono ?_
                               rintro e w8 ⟨rfl, rfl⟩
                               rw [HMEM.out])
                  refine ⟨⟨_, _, _, _, _, _, _, _, _, _, _, _, _, _, _, ?rel, rfl⟩, ?measure⟩
                  case rel => exact ⟨i + 1, by omega, by go_num, HBi⟩
                  case measure => simp [intOf]; omega
                · go_wp2
                  go_roundw
                  case rel => exact ⟨k + 1, by omega, by omega, by go_num, ext_trans HB9.out HBi.out⟩
                  case measure => simp [intOf]; omega
          · obtain rfl : n = k := by omega
            have hI64n : I64 (n : Int) := by unfold I64; omega
            obtain ⟨kk, hkk, hkl⟩ := pick_at turn hn1
            go_upto_region 26 with (
              (go_at_call 24
               refine (pick_any turn n wr hti hI64n).mono ?_
               rintro e w8 ⟨rfl, rfl⟩
               rw [hkk]))
            obtain ⟨W0, hW0⟩ : ∃ W, W = wr := ⟨_, rfl⟩
            rw [← hW0] at HBr ⊢
            have HK0 := Lib.hid (block_ext HBr.out HK6.out)
            clear hW0 hk1 hk hkk
            have hts := HT.out.ext (ext_trans HB6.out HBr.out)
            have HT0 := Lib.hid hts
            obtain ⟨⟨⟨kd, pr, bl⟩, tba, tbn, tbc⟩, tb, tf, htk, ⟨hin, htc, hik, hip⟩, rfl, _, _, cb⟩ := hts.cells hkl
            dsimp only at hin htc hik hip cb
            have HIKP : Hid (I64 kd ∧ I64 pr) := ⟨hik, hip⟩
            have hblk : blkL (tdOf ls) kk = bl := by rw [blkL, tdOf_at ls kk _ htk]
            have hb1 : 1 ≤ tbn := by have := blocks_some HR.out (k := kk) (by rw [HLL.out]; exact hkl); rw [hblk, hin.1] at this; exact this
            obtain ⟨b2, o2, rfl, c0, hI0⟩ := hin.2.2 0 (by omega)
            have hblT : bl.length ≤ 120 := by
              have h1 := blocks_totL (tdOf ls) kk ⟨kd, pr, bl⟩ (by rw [tdOf, List.getElem?_map, htk]; rfl)
              have h2 := HTOT.out
              dsimp only at h1
              omega
            have htbn : tbn ≤ 120 := by have := hin.1; omega
            have HTK := Lib.hid htk
            have HBLK := Lib.hid hblk
            have HCB := Lib.hid cb
            have HC0 := Lib.hid c0
            have HIN := Lib.hid hin
            have hBw : Hid (Below w.heap.size w W0) := ext_trans HB6.out HBr.out
            clear htk hblk cb c0 hin hts HBr hI64n hik hip
            go_upto_region 27 with (
              (at_builtin
               go_loud (refine wpList_tcopy W0 rfl (.tmp 105) (.tmp 106) rfl W0.heap.size rfl rfl (some ⟨tb, tf, none⟩) n c rfl ls HT0.out hn1 (by omega) ?_)
               intro g1 cap1 w10 hb10 ho10
               have HO10 := Lib.hid ho10
               have HB10 := Lib.hid hb10
               clear hb10 ho10))
            have hkl' : (kk : Int) < (n : Int) := by omega
            have hb1' : (1 : Int) ≤ (tbn : Int) := by omega
            obtain ⟨_, _, cur1, e1, hg1, hcap1, hh1, hc1⟩ := trow_form HO10.out HT0.out.1.1 hn1 (by omega)
            injection e1 with e1 _ e3
            injection e1 with e1
            injection e1 with e1 _
            subst e1 e3
            have HG1 := Lib.hid hh1
            go_cut [] (fun wx => ∃ t1 : TileR, t1.d = ⟨kd, pr, bl.drop 1⟩ ∧ Hid (Ints W0 t1.ba t1.bn t1.d.blocks ∧ t1.bn ≤ t1.bc) ∧ wx = w10.setCell ⟨g1, kk * 3 + 2, none⟩ (bsV t1))
            case first =>
              obtain ⟨q1, q2⟩ := hc1 kk _ HTK.out
              have q3 := cell_ext HB10.out HCB.out
              clear hc1 hh1
              by_cases hc : tbc = 1
              · have HD1 : Hid (bl.length = 1) := by have := HIN.out.1; rw [Hid]; omega
                obtain rfl : tbn = 1 := by omega
                subst hc
                go_wp2
                go_meet
                exact ⟨⟨⟨kd, pr, bl.drop 1⟩, some ⟨b2, o2, none⟩, 0, 0⟩, rfl, ⟨ints_less1 HD1.out, Nat.le_refl _⟩, rfl⟩
              · have hc' : ¬ (tbc : Int) = 1 := by omega
                go_wp2
                go_meet
                exact ⟨⟨⟨kd, pr, bl.drop 1⟩, some ⟨b2, o2 + 1, none⟩, tbn - 1, tbc - 1⟩, rfl, ⟨ints_less HIN.out hb1, (by show tbn - 1 ≤ tbc - 1; omega)⟩, rfl⟩
            case rest =>
    
             obtain ⟨t1, ht1, HI1, rfl⟩ := hcut
             obtain ⟨W27, hW27⟩ : ∃ W, W = w10.setCell ⟨g1, kk * 3 + 2, none⟩ (bsV t1) := ⟨_, rfl⟩
             have hr27 : W27.ownsRow W0.heap.size 53 3 (.slice (some ⟨g1, 0, none⟩) n cap1) n ((ls.set kk t1).flatMap tileC) := by rw [hW27]; exact trow_turn HO10.out HTK.out (by rw [ht1]; exact ⟨rfl, rfl⟩)
             have hb27 : Below W0.heap.size W0 W27 := by rw [hW27]; exact HB10.out.setCell hg1 _
             have hea : EachT W27 (ls.set kk t1) := EachT.set (EachT.ext HT0.out.2 hb27) kk ⟨HI1.out.1.ext hb27, HI1.out.2, by rw [ht1]; exact HIKP.out⟩
             have HL27 : Hid (TilesOK W27 (some ⟨g1, 0, none⟩) n (ls.set kk t1)) := trow_ok hr27 (by rw [List.length_set, HT0.out.1.1]) hea (by omega)
             have HLR : Hid (rightB (tsOf (hOf xs)) (tdOf (ls.set kk t1)) = false) := by rw [Hid, td_set2]; exact less_not HR.out (by rw [HLL.out]; exact hkl) (by rw [ht1, HBLK.out])
             have HLT : Hid (totL (tdOf (ls.set kk t1)) ≤ 1000000) := by
               have h1 := totL_set (tdOf ls) kk t1.d
               have h2 := HTOT.out
               have h3 : t1.d.blocks.length ≤ bl.length := by rw [ht1]; simp
               rw [Hid, td_set2]; omega
             have HB27 := Lib.hid hb27
             rw [← hW27]
             clear hW27 hr27 hb27 hea HI1 ht1 HO10 HB10 HG1 hc1 hh1 hg1
             go_upto_region 29 with (
               (at_builtin
                go_loud (refine wpList_tcopy W27 rfl (.tmp 118) (.tmp 119) rfl W27.heap.size rfl rfl (some ⟨tb, tf, none⟩) n c rfl ls (HT0.out.ext HB27.out) hn1 (by omega) ?_)
                intro g2 cap2 w28 hb28 ho28
                have HO28 := Lib.hid ho28
                have HB28 := Lib.hid hb28
                clear hb28 ho28))
             obtain ⟨x0, hx0⟩ : ∃ x, x = bl.getD 0 0 := ⟨_, rfl⟩
             rw [Nat.add_zero, ← hx0] at HC0
             rw [← hx0] at hI0
             have HX0 := Lib.hid hx0
             have hb1n : (0 : Int) < (tbn : Int) := by omega
             clear hx0 hb1'
             go_cut [] (fun wx => ∃ t2 : TileR, t2.d = ⟨kd, pr, bl ++ [x0]⟩ ∧ Hid (TilesOK wx (some ⟨g2, 0, none⟩) n (ls.set kk t2)) ∧ Hid (Below W27.heap.size W27 wx))
             case first =>
              have k1 : ∀ n' : ExtW W27, n'.val.cell? ⟨tb, tf + kk * 3 + 2, none⟩ = some (.slice (some ⟨b2, o2, none⟩) tbn tbc) := fun n' => cell_ext (ext_trans HB27.out n'.ext) HCB.out
              have k2 : ∀ n' : ExtW W27, n'.val.cell? ⟨b2, o2, none⟩ = some (.int .i64 x0) := fun n' => cell_ext (ext_trans HB27.out n'.ext) HC0.out
              refine z_start (fun w' => ∃ n' : ExtW W27, w' = n'.val) (by kernel_rfl) ?_
              obtain ⟨w0, E0, FT, hw0⟩ : ∃ w0 : World, Below W27.heap.size W27 w0 ∧ w0.ownsRow W27.heap.size 53 3 (.slice (some ⟨g2, 0, none⟩) n cap2) n (ls.flatMap tileC) ∧ w28.drew = w0 := ⟨_, ext_drewN HB28.out 1, HO28.out, rfl⟩
              rw [hw0]
              clear hw0
              refine z_reads 0 2 (by kernel_rfl) ⟨⟨_, E0⟩, rfl⟩ ?_
              simp only [List.take_succ_cons, List.take_zero, List.drop_succ_cons, List.drop_zero]
              repeat (go_big_quiet_step (fail))
              refine wpQuiet_nil ?_
              refine z_reads 3 5 (by kernel_rfl) ⟨⟨_, E0⟩, rfl⟩ ?_
              simp only [List.take_succ_cons, List.take_zero, List.drop_succ_cons, List.drop_zero]
              repeat (go_big_quiet_step (fail))
              refine wpQuiet_nil ?_
              refine z_reads 9 7 (by kernel_rfl) ⟨⟨_, E0⟩, rfl⟩ ?_
              simp only [List.take_succ_cons, List.take_zero, List.drop_succ_cons, List.drop_zero]
              repeat (go_big_quiet_step (fail))
              refine wpQuiet_nil ?_
              refine z_two 2 16 (by kernel_rfl) ?_ ?_
              · refine wpOp_at rfl rfl ?_
                go_simp
                have E1 : Below W27.heap.size W27 (w0.alloc (.cells #[] 3)) := ext_trans E0 (ext_alloc _ _)
                have FA : (w0.alloc (.cells #[] 3)).ownsRow W27.heap.size 3 1 (.slice (some ⟨w0.heap.size, 0, none⟩) 0 0) 0 [] := World.ownsRow_lit _ #[] 0 E0.size (by unfold maxLen; omega) rfl
                have hA2 : w0.heap.size ≠ g2 := by have := (FT.lt g2 rfl).2; omega
                replace FT := ownsRow_chg FT ((Chg.refl (fun _ => False) _).of_ext (ext_alloc _ (.cells #[] 3))) (fun _ _ h => h)
                refine ⟨Or.inr ⟨⟨_, E1⟩, rfl⟩, ?_⟩
                try simp only [Act.put, List.setIfInBounds_toArray, List.set_cons_succ, List.set_cons_zero]
                generalize w0.heap.size = gA at *
                generalize w0.alloc (.cells #[] 3) = w1 at *
                refine z_two 8 16 (by kernel_rfl) ?_ ?_
                · refine wpOp_at rfl rfl ?_
                  refine op_appendR _ (.tmp 123) (.tmp 128) 22 3 rfl W27.heap.size _ 1 8 Try.underlying22 infoI rfl (by omega) _ 0 [] rfl FA (some ⟨b2, o2, none⟩) tbn tbc rfl (bl.map (Value.int .i64)) (by rw [List.length_map, HIN.out.1, Nat.mul_one]) ((HIN.out.ext HB27.out).ext E1).news (by simp [Value.oneCell']) (by unfold maxLen; omega) (by omega) E1.size ?_
                  intro v' w2 ho hg hv hk
                  rw [Nat.zero_add, List.nil_append] at ho
                  obtain ⟨gB, kB, hv'⟩ := own_form ho (by omega)
                  subst hv'
                  have FB := ho
                  have E2 : Below W27.heap.size W27 w2 := hk _ E1
                  replace hv : some gB = some gA ∨ some gB = some w1.heap.size := hv
                  have hB2 : gB ≠ g2 := by have := (FT.lt g2 rfl).2; rcases hv with h | h <;> (injection h with h; omega)
                  replace FT := FT.kept hg (.inr (fun e => hA2 (Option.some.inj e).symm))
                  refine ⟨Or.inr ⟨⟨_, E2⟩, rfl⟩, ?_⟩
                  try simp only [Act.put, List.setIfInBounds_toArray, List.set_cons_succ, List.set_cons_zero]
                  clear ho hg hv hk FA
                  refine z_one 16 (by kernel_rfl) ?_
                  refine wpOp_at rfl rfl ?_
                  go_simp
                  have E3 : Below W27.heap.size W27 (w2.alloc (.cells #[.int .i64 x0] 3)) := ext_trans E2 (ext_alloc _ _)
                  have FC : (w2.alloc (.cells #[.int .i64 x0] 3)).heap[w2.heap.size]? = some (.cells #[.int .i64 x0] 3 (0, 0)) := heap_alloc_new _ _
                  have hC2 : w2.heap.size ≠ g2 := by have := (FT.lt g2 rfl).2; omega
                  replace FT := ownsRow_chg FT ((Chg.refl (fun _ => False) _).of_ext (ext_alloc _ (.cells #[.int .i64 x0] 3))) (fun _ _ h => h)
                  have hBC : gB ≠ w2.heap.size := by have := (FB.lt gB rfl).2; omega
                  replace FB := ownsRow_chg FB ((Chg.refl (fun _ => False) _).of_ext (ext_alloc _ (.cells #[.int .i64 x0] 3))) (fun _ _ h => h)
                  refine ⟨Or.inr ⟨⟨_, E3⟩, rfl⟩, ?_⟩
                  try simp only [Act.put, List.setIfInBounds_toArray, List.set_cons_succ, List.set_cons_zero]
                  generalize w2.heap.size = gC at *
                  generalize w2.alloc (.cells #[.int .i64 x0] 3) = w3 at *
                  refine z_one 17 (by kernel_rfl) ?_
                  refine wpOp_at rfl rfl ?_
                  refine op_appendR _ (.tmp 129) (.tmp 137) 22 3 rfl W27.heap.size _ 1 8 Try.underlying22 infoI rfl (by omega) _ tbn _ rfl FB (some ⟨gC, 0, none⟩) 1 1 rfl [.int .i64 x0] rfl (fun j u hu => ⟨_, rfl, by rw [add_zero0, cell_of_row _ _ _ _ _ _ FC, Nat.zero_add]; simpa using hu⟩) (by simp [Value.oneCell']) (by unfold maxLen; omega) (by omega) E3.size ?_
                  intro v' w4 ho hg hv hk
                  obtain ⟨gD, kD, hv'⟩ := own_form ho (by omega)
                  subst hv'
                  have FD := ownI_of_row ho HIN.out.mem hI0 (by rw [HIN.out.1]) (by omega)
                  have E4 : Below W27.heap.size W27 w4 := hk _ E3
                  replace hv : some gD = some gB ∨ some gD = some w3.heap.size := hv
                  have hD2 : gD ≠ g2 := by have := (FT.lt g2 rfl).2; rcases hv with h | h <;> (injection h with h; omega)
                  replace FT := FT.kept hg (.inr (fun e => hB2 (Option.some.inj e).symm))
                  refine ⟨Or.inr ⟨⟨_, E4⟩, rfl⟩, ?_⟩
                  try simp only [Act.put, List.setIfInBounds_toArray, List.set_cons_succ, List.set_cons_zero]
                  clear ho hg hv hk FB FC
                  refine z_reads 18 2 (by kernel_rfl) ⟨⟨_, E4⟩, rfl⟩ ?_
                  simp only [List.take_succ_cons, List.take_zero, List.drop_succ_cons, List.drop_zero]
                  repeat (go_big_quiet_step (fail))
                  refine wpQuiet_nil ?_
                  refine z_one 20 (by kernel_rfl) ?_
                  obtain ⟨_, _, cur2, e2, hg2, _, hh2, hc2⟩ := trow_form FT HT0.out.1.1 hn1 (by omega)
                  injection e2 with e2 _ e3
                  injection e2 with e2
                  injection e2 with e2 _
                  subst e2 e3
                  obtain ⟨z1, z2⟩ := hc2 kk _ HTK.out
                  clear hc2 hh2
                  have HL := leaf_twice (t2 := ⟨⟨kd, pr, bl ++ [x0]⟩, some ⟨gD, 0, none⟩, tbn + 1, kD⟩) HTK.out ⟨rfl, rfl⟩ FT HT0.out.1.1 (by omega) (EachT.ext HT0.out.2 HB27.out) E4 FD (fun e => hD2 (Option.some.inj e))
                  have E5 := E4.setCell (p := ⟨g2, kk * 3 + 2, none⟩) hg2 (.slice (some ⟨gD, 0, none⟩) (tbn + 1) kD)
                  refine wpOp_at rfl rfl ?_
                  go_simp
                  refine ⟨Or.inr ⟨⟨_, E5⟩, rfl⟩, ?_⟩
                  try simp only [Act.put, List.setIfInBounds_toArray, List.set_cons_succ, List.set_cons_zero]
                  refine z_done (by kernel_rfl) ?_
                  go_wp2_with fail
                  go_meet
                  exact ⟨_, rfl, HL, E5⟩
                · refine wpOp_at rfl rfl ?_
                  go_simp
                  have E2 : Below W27.heap.size W27 (w1.alloc (.cells #[.int .i64 x0] 3)) := ext_trans E1 (ext_alloc _ _)
                  have FC : (w1.alloc (.cells #[.int .i64 x0] 3)).heap[w1.heap.size]? = some (.cells #[.int .i64 x0] 3 (0, 0)) := heap_alloc_new _ _
                  have hC2 : w1.heap.size ≠ g2 := by have := (FT.lt g2 rfl).2; omega
                  replace FT := ownsRow_chg FT ((Chg.refl (fun _ => False) _).of_ext (ext_alloc _ (.cells #[.int .i64 x0] 3))) (fun _ _ h => h)
                  have hAC : gA ≠ w1.heap.size := by have := (FA.lt gA rfl).2; omega
                  replace FA := ownsRow_chg FA ((Chg.refl (fun _ => False) _).of_ext (ext_alloc _ (.cells #[.int .i64 x0] 3))) (fun _ _ h => h)
                  refine ⟨Or.inr ⟨⟨_, E2⟩, rfl⟩, ?_⟩
                  try simp only [Act.put, List.setIfInBounds_toArray, List.set_cons_succ, List.set_cons_zero]
                  generalize w1.heap.size = gC at *
                  generalize w1.alloc (.cells #[.int .i64 x0] 3) = w2 at *
                  refine z_one 8 (by kernel_rfl) ?_
                  refine wpOp_at rfl rfl ?_
                  refine op_appendR _ (.tmp 123) (.tmp 128) 22 3 rfl W27.heap.size _ 1 8 Try.underlying22 infoI rfl (by omega) _ 0 [] rfl FA (some ⟨b2, o2, none⟩) tbn tbc rfl (bl.map (Value.int .i64)) (by rw [List.length_map, HIN.out.1, Nat.mul_one]) ((HIN.out.ext HB27.out).ext E2).news (by simp [Value.oneCell']) (by unfold maxLen; omega) (by omega) E2.size ?_
                  intro v' w3 ho hg hv hk
                  rw [Nat.zero_add, List.nil_append] at ho
                  obtain ⟨gB, kB, hv'⟩ := own_form ho (by omega)
                  subst hv'
                  have FB := ho
                  have E3 : Below W27.heap.size W27 w3 := hk _ E2
                  replace hv : some gB = some gA ∨ some gB = some w2.heap.size := hv
                  have hB2 : gB ≠ g2 := by have := (FT.lt g2 rfl).2; rcases hv with h | h <;> (injection h with h; omega)
                  replace FT := FT.kept hg (.inr (fun e => hA2 (Option.some.inj e).symm))
                  have hBC : gB ≠ gC := by have := lt_of_heap FC; rcases hv with h | h <;> (injection h with h; omega)
                  replace FC := (hg.block gC (lt_of_heap FC) (fun e => hAC (Option.some.inj e).symm)).trans FC
                  refine ⟨Or.inr ⟨⟨_, E3⟩, rfl⟩, ?_⟩
                  try simp only [Act.put, List.setIfInBounds_toArray, List.set_cons_succ, List.set_cons_zero]
                  clear ho hg hv hk FA
                  refine z_one 17 (by kernel_rfl) ?_
                  refine wpOp_at rfl rfl ?_
                  refine op_appendR _ (.tmp 129) (.tmp 137) 22 3 rfl W27.heap.size _ 1 8 Try.underlying22 infoI rfl (by omega) _ tbn _ rfl FB (some ⟨gC, 0, none⟩) 1 1 rfl [.int .i64 x0] rfl (fun j u hu => ⟨_, rfl, by rw [add_zero0, cell_of_row _ _ _ _ _ _ FC, Nat.zero_add]; simpa using hu⟩) (by simp [Value.oneCell']) (by unfold maxLen; omega) (by omega) E3.size ?_
                  intro v' w4 ho hg hv hk
                  obtain ⟨gD, kD, hv'⟩ := own_form ho (by omega)
                  subst hv'
                  have FD := ownI_of_row ho HIN.out.mem hI0 (by rw [HIN.out.1]) (by omega)
                  have E4 : Below W27.heap.size W27 w4 := hk _ E3
                  replace hv : some gD = some gB ∨ some gD = some w3.heap.size := hv
                  have hD2 : gD ≠ g2 := by have := (FT.lt g2 rfl).2; rcases hv with h | h <;> (injection h with h; omega)
                  replace FT := FT.kept hg (.inr (fun e => hB2 (Option.some.inj e).symm))
                  refine ⟨Or.inr ⟨⟨_, E4⟩, rfl⟩, ?_⟩
                  try simp only [Act.put, List.setIfInBounds_toArray, List.set_cons_succ, List.set_cons_zero]
                  clear ho hg hv hk FB FC
                  refine z_reads 18 2 (by kernel_rfl) ⟨⟨_, E4⟩, rfl⟩ ?_
                  simp only [List.take_succ_cons, List.take_zero, List.drop_succ_cons, List.drop_zero]
                  repeat (go_big_quiet_step (fail))
                  refine wpQuiet_nil ?_
                  refine z_one 20 (by kernel_rfl) ?_
                  obtain ⟨_, _, cur2, e2, hg2, _, hh2, hc2⟩ := trow_form FT HT0.out.1.1 hn1 (by omega)
                  injection e2 with e2 _ e3
                  injection e2 with e2
                  injection e2 with e2 _
                  subst e2 e3
                  obtain ⟨z1, z2⟩ := hc2 kk _ HTK.out
                  clear hc2 hh2
                  have HL := leaf_twice (t2 := ⟨⟨kd, pr, bl ++ [x0]⟩, some ⟨gD, 0, none⟩, tbn + 1, kD⟩) HTK.out ⟨rfl, rfl⟩ FT HT0.out.1.1 (by omega) (EachT.ext HT0.out.2 HB27.out) E4 FD (fun e => hD2 (Option.some.inj e))
                  have E5 := E4.setCell (p := ⟨g2, kk * 3 + 2, none⟩) hg2 (.slice (some ⟨gD, 0, none⟩) (tbn + 1) kD)
                  refine wpOp_at rfl rfl ?_
                  go_simp
                  refine ⟨Or.inr ⟨⟨_, E5⟩, rfl⟩, ?_⟩
                  try simp only [Act.put, List.setIfInBounds_toArray, List.set_cons_succ, List.set_cons_zero]
                  refine z_done (by kernel_rfl) ?_
                  go_wp2_with fail
                  go_meet
                  exact ⟨_, rfl, HL, E5⟩
              · refine wpOp_at rfl rfl ?_
                go_simp
                have E1 : Below W27.heap.size W27 (w0.alloc (.cells #[.int .i64 x0] 3)) := ext_trans E0 (ext_alloc _ _)
                have FC : (w0.alloc (.cells #[.int .i64 x0] 3)).heap[w0.heap.size]? = some (.cells #[.int .i64 x0] 3 (0, 0)) := heap_alloc_new _ _
                have hC2 : w0.heap.size ≠ g2 := by have := (FT.lt g2 rfl).2; omega
                replace FT := ownsRow_chg FT ((Chg.refl (fun _ => False) _).of_ext (ext_alloc _ (.cells #[.int .i64 x0] 3))) (fun _ _ h => h)
                refine ⟨Or.inr ⟨⟨_, E1⟩, rfl⟩, ?_⟩
                try simp only [Act.put, List.setIfInBounds_toArray, List.set_cons_succ, List.set_cons_zero]
                generalize w0.heap.size = gC at *
                generalize w0.alloc (.cells #[.int .i64 x0] 3) = w1 at *
                refine z_one 2 (by kernel_rfl) ?_
                refine wpOp_at rfl rfl ?_
                go_simp
                have E2 : Below W27.heap.size W27 (w1.alloc (.cells #[] 3)) := ext_trans E1 (ext_alloc _ _)
                have FA : (w1.alloc (.cells #[] 3)).ownsRow W27.heap.size 3 1 (.slice (some ⟨w1.heap.size, 0, none⟩) 0 0) 0 [] := World.ownsRow_lit _ #[] 0 E1.size (by unfold maxLen; omega) rfl
                have hA2 : w1.heap.size ≠ g2 := by have := (FT.lt g2 rfl).2; omega
                replace FT := ownsRow_chg FT ((Chg.refl (fun _ => False) _).of_ext (ext_alloc _ (.cells #[] 3))) (fun _ _ h => h)
                have hAC : w1.heap.size ≠ gC := by have := lt_of_heap FC; omega
                replace FC := block_ext (ext_alloc _ (.cells #[] 3)) FC
                refine ⟨Or.inr ⟨⟨_, E2⟩, rfl⟩, ?_⟩
                try simp only [Act.put, List.setIfInBounds_toArray, List.set_cons_succ, List.set_cons_zero]
                generalize w1.heap.size = gA at *
                generalize w1.alloc (.cells #[] 3) = w2 at *
                refine z_one 8 (by kernel_rfl) ?_
                refine wpOp_at rfl rfl ?_
                refine op_appendR _ (.tmp 123) (.tmp 128) 22 3 rfl W27.heap.size _ 1 8 Try.underlying22 infoI rfl (by omega) _ 0 [] rfl FA (some ⟨b2, o2, none⟩) tbn tbc rfl (bl.map (Value.int .i64)) (by rw [List.length_map, HIN.out.1, Nat.mul_one]) ((HIN.out.ext HB27.out).ext E2).news (by simp [Value.oneCell']) (by unfold maxLen; omega) (by omega) E2.size ?_
                intro v' w3 ho hg hv hk
                rw [Nat.zero_add, List.nil_append] at ho
                obtain ⟨gB, kB, hv'⟩ := own_form ho (by omega)
                subst hv'
                have FB := ho
                have E3 : Below W27.heap.size W27 w3 := hk _ E2
                replace hv : some gB = some gA ∨ some gB = some w2.heap.size := hv
                have hB2 : gB ≠ g2 := by have := (FT.lt g2 rfl).2; rcases hv with h | h <;> (injection h with h; omega)
                replace FT := FT.kept hg (.inr (fun e => hA2 (Option.some.inj e).symm))
                have hBC : gB ≠ gC := by have := lt_of_heap FC; rcases hv with h | h <;> (injection h with h; omega)
                replace FC := (hg.block gC (lt_of_heap FC) (fun e => hAC (Option.some.inj e).symm)).trans FC
                refine ⟨Or.inr ⟨⟨_, E3⟩, rfl⟩, ?_⟩
                try simp only [Act.put, List.setIfInBounds_toArray, List.set_cons_succ, List.set_cons_zero]
                clear ho hg hv hk FA
                refine z_one 17 (by kernel_rfl) ?_
                refine wpOp_at rfl rfl ?_
                refine op_appendR _ (.tmp 129) (.tmp 137) 22 3 rfl W27.heap.size _ 1 8 Try.underlying22 infoI rfl (by omega) _ tbn _ rfl FB (some ⟨gC, 0, none⟩) 1 1 rfl [.int .i64 x0] rfl (fun j u hu => ⟨_, rfl, by rw [add_zero0, cell_of_row _ _ _ _ _ _ FC, Nat.zero_add]; simpa using hu⟩) (by simp [Value.oneCell']) (by unfold maxLen; omega) (by omega) E3.size ?_
                intro v' w4 ho hg hv hk
                obtain ⟨gD, kD, hv'⟩ := own_form ho (by omega)
                subst hv'
                have FD := ownI_of_row ho HIN.out.mem hI0 (by rw [HIN.out.1]) (by omega)
                have E4 : Below W27.heap.size W27 w4 := hk _ E3
                replace hv : some gD = some gB ∨ some gD = some w3.heap.size := hv
                have hD2 : gD ≠ g2 := by have := (FT.lt g2 rfl).2; rcases hv with h | h <;> (injection h with h; omega)
                replace FT := FT.kept hg (.inr (fun e => hB2 (Option.some.inj e).symm))
                refine ⟨Or.inr ⟨⟨_, E4⟩, rfl⟩, ?_⟩
                try simp only [Act.put, List.setIfInBounds_toArray, List.set_cons_succ, List.set_cons_zero]
                clear ho hg hv hk FB FC
                refine z_reads 18 2 (by kernel_rfl) ⟨⟨_, E4⟩, rfl⟩ ?_
                simp only [List.take_succ_cons, List.take_zero, List.drop_succ_cons, List.drop_zero]
                repeat (go_big_quiet_step (fail))
                refine wpQuiet_nil ?_
                refine z_one 20 (by kernel_rfl) ?_
                obtain ⟨_, _, cur2, e2, hg2, _, hh2, hc2⟩ := trow_form FT HT0.out.1.1 hn1 (by omega)
                injection e2 with e2 _ e3
                injection e2 with e2
                injection e2 with e2 _
                subst e2 e3
                obtain ⟨z1, z2⟩ := hc2 kk _ HTK.out
                clear hc2 hh2
                have HL := leaf_twice (t2 := ⟨⟨kd, pr, bl ++ [x0]⟩, some ⟨gD, 0, none⟩, tbn + 1, kD⟩) HTK.out ⟨rfl, rfl⟩ FT HT0.out.1.1 (by omega) (EachT.ext HT0.out.2 HB27.out) E4 FD (fun e => hD2 (Option.some.inj e))
                have E5 := E4.setCell (p := ⟨g2, kk * 3 + 2, none⟩) hg2 (.slice (some ⟨gD, 0, none⟩) (tbn + 1) kD)
                refine wpOp_at rfl rfl ?_
                go_simp
                refine ⟨Or.inr ⟨⟨_, E5⟩, rfl⟩, ?_⟩
                try simp only [Act.put, List.setIfInBounds_toArray, List.set_cons_succ, List.set_cons_zero]
                refine z_done (by kernel_rfl) ?_
                go_wp2_with fail
                go_meet
                exact ⟨_, rfl, HL, E5⟩
             case rest => as_aux_lemma =>
              obtain ⟨t2, ht2, HT2, HB29⟩ := hcut
              have HLR2 : Hid (rightB (tsOf (hOf xs)) (tdOf (ls.set kk t2)) = false) := by rw [Hid, td_set2]; exact twice_not HR.out (by rw [HLL.out]; exact hkl) (by rw [ht2, HBLK.out, HX0.out])
              have HLT2 : Hid (totL (tdOf (ls.set kk t2)) ≤ 1000000) := by
                have h1 := totL_set (tdOf ls) kk t2.d
                have h2 := HTOT.out
                have h3 : t2.d.blocks.length = bl.length + 1 := by rw [ht2]; simp
                rw [Hid, td_set2]; omega
              have HB30 := Lib.hid (ext_trans hBw.out (ext_trans HB27.out HB29.out))
              have HK30 := Lib.hid (block_ext HB29.out (block_ext HB27.out HK0.out))
              have HL30 := Lib.hid (HL27.out.ext HB29.out)
              clear HB29 HB28 HO28 HL27 HB27 hBw HK0 HIN HCB HC0 HT0 HK6
              go_wp2_with (first
                | (refine wpList_load_rowW (o := ⟨some 141, .load 25 _, _, _, _, _⟩) (by rfl) 25 _ rfl w.heap.size rfl 25 _ (0, 0) _ HK30.out Try.underlying25 rfl size_func ?_)
                | (refine wpList_load_rowW (o := ⟨some 146, .load 25 _, _, _, _, _⟩) (by rfl) 25 _ rfl w.heap.size rfl 25 _ (0, 0) _ HK31.out Try.underlying25 rfl size_func ?_)
                | (go_at_call 12
                   first
                   | (refine (tright_any pa pn pc ba bn bc (hOf xs) (some ⟨g2, 0, none⟩) n cap2 (ls.set kk t2) w31 (HX.out.ext HB31.out) HT31.out HLT2.out).mono ?_
                      rw [HLR2.out]
                      rintro e w32 ⟨rfl, hb⟩
                      have HB32 := Lib.hid (ext_trans HB31.out hb)
                      clear hb)
                   | (refine (tright_any pa pn pc ba bn bc (hOf xs) (some ⟨g1, 0, none⟩) n cap1 (ls.set kk t1) _ (HX.out.ext HB30.out) HL30.out HLT.out).mono ?_
                      rw [HLR.out]
                      rintro e w31 ⟨rfl, hb⟩
                      have HB31 := Lib.hid (ext_trans HB30.out hb)
                      have HK31 := Lib.hid (block_ext hb HK30.out)
                      have HT31 := Lib.hid (HT2.out.ext hb)
                      clear hb)))
              go_ret
              exact ⟨rfl, HB32.out⟩
end
end Go.Proofs.Ytblhmdhfhaencaa
