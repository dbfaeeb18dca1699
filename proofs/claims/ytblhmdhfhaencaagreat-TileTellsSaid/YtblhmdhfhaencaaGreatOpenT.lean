/-
  TileTells: the law's walk. (Printed by gen_tells.py.)
-/
import Derived.Test.YtblhmdhfhaencaaGreatEH
import Derived.Test.YtblhmdhfhaencaaGreatLB
import Derived.Test.YtblhmdhfhaencaaGreatRN
import Derived.Test.YtblhmdhfhaencaaGreatFlatRel
import Derived.Test.YtblhmdhfhaencaaGreatAI2
import Derived.Test.YtblhmdhfhaencaaGreatRU
import Derived.Test.YtblhmdhfhaencaaGreatMark
import Derived.Test.YtblhmdhfhaencaaGreatRows
import Derived.WalkKit
import Derived.ProofKit
import Derived.OpenShut
import Derived.ShutString
import Derived.ChangeOld
import Derived.Below
import Derived.SizedLaws
import Derived.Lib.SmallJoins
import Derived.Test.YtblhmdhfhaencaaGreatLX
import Derived.Deep.Slices
import Derived.Test.YtblhmdhfhaencaaGreatTJ
namespace Go.Proofs.YtblhmdhfhaencaaGreat
set_option linter.unusedSimpArgs false
set_option linter.unusedVariables false
set_option linter.unusedSectionVars false
set_option maxRecDepth 100000
set_option maxHeartbeats 40000000
section
open Go.RowKit Go.Shelf
attribute [local go_sem] Oper.semAt_some wide_fn wide_depth wide_fnR wide_depthR
def three (x y z : Value) : Nat → Value
  | 0 => x
  | 1 => y
  | _ => z
def threeN (x y z : Nat) : Nat → Nat
  | 0 => x
  | 1 => y
  | _ => z
theorem tileTells_walk (f : FuncR) (hpn : f.pn ≤ 17592186044416) (a : Option Addr) (n c : Nat) (ls : List TileR) (k : Int) (hk : I64 k) (w : World) (h : FuncOK w f) (ht : TilesOK w a n ls) :
    Calls Tryz.prog 7 #[funcVR f, .slice a n c, .int .i64 k] w fun e w' => e = .returned (.bool true) ∧ Below w.heap.size w w' := by
  have H := Lib.hid h
  have HT := Lib.hid ht
  have HKI := Lib.hid hk
  have HLB : Hid (f.bs.length = f.bn) := h.2.1.1
  clear h ht hk
  go_enter Tryz.func7, Tryz.ntmps7
  go_upto_region 1 with (fail)
  obtain ⟨W, hW⟩ : ∃ W, W = w.alloc (funcO f.pa f.pn f.pc f.ba f.bn f.bc) := ⟨_, rfl⟩
  rw [← hW]
  have hk0 : W.heap[w.heap.size]? = some (funcO f.pa f.pn f.pc f.ba f.bn f.bc) := by rw [hW]; exact heap_alloc_new _ _
  have hB : Below w.heap.size w W := by rw [hW]; exact ext_alloc _ _
  have HK := Lib.hid hk0
  have HB := Lib.hid hB
  clear hW hk0 hB
  go_upto_region 3 with (first
    | (refine wpList_load_row (o := ⟨some 15, .load 25 _, _, _, _, _⟩) rfl 25 _ rfl w.heap.size rfl 25 _ (0, 0) _ HK.out Tryz.underlying25 rfl size_func ?_)
    | (go_at_call 32
       refine (great17_any2 f.pa f.pn f.pc hpn f.ba f.bn f.bc f.bs a n c ls W (H.out.2.ext HB.out) (HT.out.ext HB.out)).mono ?_
       rintro e w1 ⟨gb, rfl, hb, hgr⟩
       have HK1 := Lib.hid (block_ext hb HK.out)
       have HB1 := Lib.hid (ext_trans HB.out hb)
       have HGR := Lib.hid hgr
       clear hb hgr
       cases gb)
    | (go_at_call 33
       refine (awake17_any w1).mono ?_
       rintro e w2 ⟨rfl, hb⟩
       have HB2 := Lib.hid (ext_trans HB1.out hb)
       clear hb))
  all_goals first | (go_ret; exact ⟨rfl, HB2.out⟩) | skip
  clear HK HB
  obtain ⟨_, g0, g1, g2, g3⟩ := HGR.out (by trivial)
  have HNA : Hid (FuncNA f) := great_na (bn := f.bn) rfl rfl HLB.out g1 g2 g3
  have HTOT : Hid (totL (tdOf ls) ≤ 1000000) := by rw [Hid]; omega
  have HTB : Hid (totL (tdOf ls) ≤ 120) := by rw [Hid]; omega
  have hn90 : n ≤ 1000000 := by omega
  have HTNA : Hid (∀ r ∈ ls, TileNA r) := fun r hr => by
    have h1 := bn_le_tot ls r hr
    have h2 := (HT.out.2 r hr).1.1
    have h3 := HTOT.out
    unfold TileNA
    omega
  clear HGR g0 g1 g2 g3
  obtain ⟨w0, rfl⟩ : ∃ w0 : World, w0 = w1 := ⟨_, rfl⟩
  go_upto_region 4 with (first
    | (refine wpList_load_row (o := ⟨some 19, .load 25 _, _, _, _, _⟩) rfl 25 _ rfl w.heap.size rfl 25 _ (0, 0) _ HK1.out Tryz.underlying25 rfl size_func ?_)
    | (go_at_call 11
       refine (lentFunc_any f w0 (H.out.ext HB1.out) HNA.out).mono ?_
       rintro e w2 ⟨r, rfl, hl, hb⟩
       have HLF0 := Lib.hid hl
       have HRO0 := Lib.hid (hl.ok (H.out.ext (ext_trans HB1.out hb)) HNA.out)
       have HK2 := Lib.hid (block_ext hb HK1.out)
       have HB2 := Lib.hid (ext_trans HB1.out hb)
       clear hl hb)
    | (go_at_call 12
       refine (lentTiles_any a n c ls w2 (HT.out.ext HB2.out) hn90 HTNA.out).mono ?_
       rintro e w2b ⟨tv, rs, rfl, hl, hb⟩
       obtain ⟨tg, tc, rfl, hl2⟩ : ∃ tg tc, tv = .slice (some ⟨tg, 0, none⟩) n tc ∧ LentTiles w2b w2.heap.size (.slice (some ⟨tg, 0, none⟩) n tc) ls rs := (by
         obtain ⟨tg, tc, e1, h2, h3⟩ := hl
         rw [HT.out.1.1] at e1
         refine ⟨tg, tc, e1, tg, tc, ?_, h2, h3⟩
         rw [HT.out.1.1])
       have HLT0 := Lib.hid hl2
       have HLFb := Lib.hid (LentFn_law.ext HLF0.out hb)
       have HROb := Lib.hid (HRO0.out.ext hb)
       have HKb := Lib.hid (block_ext hb HK2.out)
       have HBb := Lib.hid (ext_trans HB2.out hb)
       clear hl hl2 hb HLF0 HRO0 HK2)
    | (refine wpList_store_rowB rfl 25 _ _ rfl w2b.heap.size #[.slice r.pa r.pn r.pc, .slice r.ba r.bn r.bc] rfl rfl 25 _ (heap_alloc_new w2b _) size_func rfl (by simp [Value.oneCell']) w2b.heap.size w2b (ext_alloc w2b _) (Nat.le_refl _) ?_
       intro w3 hb3 hx3
       have HKI3 := Lib.hid hx3
       have HB23 := Lib.hid hb3
       have HB3 := Lib.hid (ext_trans HBb.out hb3)
       have HKF3 := Lib.hid (block_ext hb3 HKb.out)
       clear hb3 hx3))
  have hokS := HLT0.out.okS (HT.out.ext HBb.out) hn90 HTNA.out
  have HTS : Hid (tsOf (hOf r.bs) = tsOf (hOf f.bs)) := lent_ts HLFb.out.sd.2.2
  have HTD : Hid (tdOf rs = tdOf ls) := lent_td hokS.2.2.2.2.2
  have HRN : Hid (r.bn = f.bn) := HLFb.out.sd.2.1
  have HT3 : Hid (TilesOK w3 (some ⟨tg, 0, none⟩) n rs) := hokS.2.1.ext HB23.out
  have HF3 : Hid (BlksOK w3 r.ba r.bn (hOf r.bs)) := (HROb.out.ext HB23.out).2.x.1
  have HFF3 := Lib.hid (H.out.ext HB3.out)
  have HFB3 : Hid (BlksOK w3 f.ba f.bn (hOf f.bs)) := HFF3.out.2.x.1
  have HTT3 := Lib.hid (HT.out.ext HB3.out)
  have HLF3 := Lib.hid (LentFn_law.ext HLFb.out HB23.out)
  have HLT3 : Hid (LentTiles w3 w2.heap.size (.slice (some ⟨tg, 0, none⟩) n tc) ls rs) := LentL.ext LentT_law HLT0.out HB23.out
  have HTOT2 : Hid (totL (tdOf rs) ≤ 1000000) := by rw [Hid, HTD.out]; exact HTOT.out
  clear hokS HK1 HB1 HB2 HLT0 HLFb HROb HKb HBb HB23
  go_upto_region 5 with (first
    | (refine wpList_load_row (o := ⟨some 24, .load 25 _, _, _, _, _⟩) rfl 25 _ rfl w2b.heap.size rfl 25 _ (0, 0) _ HKI3.out Tryz.underlying25 rfl size_func ?_)
    | (go_at_call 37
       refine (town_any r.pa r.pn r.pc r.ba r.bn r.bc (hOf r.bs) (some ⟨tg, 0, none⟩) n tc rs w3 HF3.out HT3.out).mono ?_
       intro e w4 hpost
       obtain ⟨va, rfl, hb, hg⟩ := hpost.g
       rw [HTS.out, HTD.out, HRN.out] at hg
       rw [HTS.out, HTD.out, HRN.out]
       obtain ⟨aa, ac, hva⟩ := hg.form
       subst hva
       have HOA := Lib.hid hg
       have HKI4 := Lib.hid (block_ext hb HKI3.out)
       have HKF4 := Lib.hid (block_ext hb HKF3.out)
       have HE4 := Lib.hid hb
       clear hpost hb hg))
  go_upto_region 6 with (first
    | (refine wpList_load_row (o := ⟨some 30, .load 25 _, _, _, _, _⟩) rfl 25 _ rfl w.heap.size rfl 25 _ (0, 0) _ HKF4.out Tryz.underlying25 rfl size_func ?_)
    | (go_at_call 38
       refine (own17_any f.pa f.pn f.pc f.ba f.bn f.bc (hOf f.bs) a n c ls w4 (HFB3.out.ext HE4.out) (HTT3.out.ext HE4.out) HTOT.out).mono ?_
       intro e w5 hpost
       obtain ⟨vb, rfl, hb, hg⟩ := hpost.g
       obtain ⟨ba, bc, hvb⟩ := hg.form
       subst hvb
       have HOB := Lib.hid hg
       have HS5 := Lib.hid hb
       have HE5 : Hid (Below w3.heap.size w3 w5) := ext_trans HE4.out hb
       clear hpost hb hg))
  go_upto_region 7 with (
    (go_at_call 39
     first
       | (refine (all_any (some ⟨tg, 0, none⟩) n tc rs k w6 (HT3.out.ext HE6.out) HKI.out HTOT2.out).mono ?_
          rintro e w7 ⟨vd, rfl, ho, hb⟩
          rw [HTD.out] at ho
          obtain ⟨da, dc, hvd⟩ := ho.form
          subst hvd
          have HOD := Lib.hid ho
          have HS7 := Lib.hid hb
          have HE7 : Hid (Below w3.heap.size w3 w7) := ext_trans HE6.out hb
          clear ho hb)
       | (refine (all_any (some ⟨tg, 0, none⟩) n tc rs k w5 (HT3.out.ext HE5.out) HKI.out HTOT2.out).mono ?_
          rintro e w6 ⟨vc, rfl, ho, hb⟩
          rw [HTD.out] at ho
          obtain ⟨ca, cc, hvc⟩ := ho.form
          subst hvc
          have HOC := Lib.hid ho
          have HS6 := Lib.hid hb
          have HE6 : Hid (Below w3.heap.size w3 w6) := ext_trans HE5.out hb
          clear ho hb)))
  have HKI6 := Lib.hid (block_ext HE7.out HKI3.out)
  have HKF6 := Lib.hid (block_ext HE7.out HKF3.out)
  have HBI : Hid (BlksOK w7 r.ba r.bn (hOf r.bs)) := HF3.out.ext HE7.out
  have HTI : Hid (TilesOK w7 (some ⟨tg, 0, none⟩) n rs) := HT3.out.ext HE7.out
  have HBF : Hid (BlksOK w7 f.ba f.bn (hOf f.bs)) := HFB3.out.ext HE7.out
  have HTF : Hid (TilesOK w7 a n ls) := HTT3.out.ext HE7.out
  have HOA7 := Lib.hid (HOA.out.ext (ext_trans HS5.out (ext_trans HS6.out HS7.out)))
  have HOB7 := Lib.hid (HOB.out.ext (ext_trans HS6.out HS7.out))
  have HOC7 := Lib.hid (HOC.out.ext HS7.out)
  obtain ⟨fb, hfb⟩ : ∃ b, fitsB (tsOf (hOf f.bs)) = b := ⟨_, rfl⟩
  obtain ⟨rb, hrb⟩ : ∃ b, rightB (tsOf (hOf f.bs)) (tdOf ls) = b := ⟨_, rfl⟩
  obtain ⟨en, hen⟩ : ∃ b, ownE (tsOf (hOf f.bs)) (tdOf ls) f.bn = b := ⟨_, rfl⟩
  obtain ⟨AO, hAO⟩ : ∃ x, ownA (tsOf (hOf f.bs)) (tdOf ls) f.bn = x := ⟨_, rfl⟩
  have HFB := Lib.hid hfb
  have HRB := Lib.hid hrb
  rw [hAO] at HOA HOB HOA7 HOB7 ⊢
  rw [hen]
  obtain ⟨al, hal⟩ : ∃ x, AO.length = x := ⟨_, rfl⟩
  obtain ⟨cl, hcl⟩ : ∃ x, (allL (tdOf ls) k).length = x := ⟨_, rfl⟩
  rw [hal] at HOA HOB HOA7 HOB7 ⊢
  rw [hcl] at HOC HOD HOC7 ⊢
  have HIA : Hid (Ints w7 aa al AO) := HOA7.out.ints
  have HIB : Hid (Ints w7 ba al AO) := HOB7.out.ints
  have HIC : Hid (Ints w7 ca cl (allL (tdOf ls) k)) := HOC7.out.ints
  have HAL := Lib.hid hal
  have HCL := Lib.hid hcl
  have HALb : Hid (al ≤ 1000000) := by
    rw [Hid, ← hal, ← hAO]
    unfold ownA
    split
    · rw [ownL_len]; exact HNA.out.2.1
    · simp
  have HCLb : Hid (cl ≤ 1000000) := by
    rw [Hid, ← hcl]
    have h1 := rawL_len (tdOf ls) k.toNat (tdOf ls).length (Nat.le_refl _)
    have h2 := HTB.out
    unfold allL
    split
    · have := len_sortD (rawL (tdOf ls) k.toNat (tdOf ls).length); omega
    · simp
  have z3 : w3.heap.size ≤ w4.heap.size := HE4.out.size
  have z4 : w4.heap.size ≤ w5.heap.size := HS5.out.size
  have z5 : w5.heap.size ≤ w6.heap.size := HS6.out.size
  have z6 : w6.heap.size ≤ w7.heap.size := HS7.out.size
  clear hfb hrb hen hAO hal hcl HOB HOB7 HS5 HKI4 HKF4 HE4 HE5 HE6
  refine region_free 45 [some 41, some 42, some 43, some 44, some 45, some 46, some 47, some 48, some 49, some 50, some 51, some 52, some 53, some 54, some 55, some 56, some 57, some 58, some 59, some 60, some 61, some 62, some 63, some 64, some 65, some 66, some 67, some 68, some 69, some 70, some 71, some 72, some 73, some 74, some 75, some 76, some 77, some 78, some 79, some 80, some 81, some 82, some 83, some 84, some 85] (by kernel_rfl) (by kernel_rfl) (specB [.val (funcVR r), .val (.bool fb), .val (funcVR f), .val (.bool fb), .val (.bool false), .val (.bool false), .val (funcVR r), .val (.slice (some ⟨tg, 0, none⟩) n tc), .val (.bool rb), .val (funcVR f), .val (.slice a n c), .val (.bool rb), .val (.bool false), .val (.bool false), .val (.bool false), .val (.int .i64 en), .val (.int .i64 en), .val (.bool false), .val (.bool false), .val (.bool false), .val (.slice aa al ac), .val (.slice ba al bc), .val (.bool true), .val (.bool false), .val (.bool false), .val (.bool false), .val (.slice ca cl cc), .val (.slice a n c), .val (.int .i64 k), (.any fun v lo hi W => ∃ a9 c9, v = .slice a9 (allL (tdOf ls) k).length c9 ∧ Ints W a9 (allL (tdOf ls) k).length (allL (tdOf ls) k)), .val (.bool true), .val (.bool false), .val (.bool false), .val (.bool false), .val (funcVR r), .val (.slice (some ⟨tg, 0, none⟩) n tc), .val (.int .i64 k), (.any fun v lo hi W => ∃ a9 c9, v = .slice a9 (entA (tsOf (hOf f.bs)) (tdOf ls) k).length c9 ∧ Ints W a9 (entA (tsOf (hOf f.bs)) (tdOf ls) k).length (entA (tsOf (hOf f.bs)) (tdOf ls) k)), .val (funcVR f), .val (.slice a n c), .val (.int .i64 k), (.any fun v lo hi W => ∃ a9 c9, v = .slice a9 (entA (tsOf (hOf f.bs)) (tdOf ls) k).length c9 ∧ Ints W a9 (entA (tsOf (hOf f.bs)) (tdOf ls) k).length (entA (tsOf (hOf f.bs)) (tdOf ls) k)), .val (.bool true), .val (.bool false), .val (.bool false)]) (specB_mono ?_) ?_ ?_
  · intro k hk
    simp only [List.mem_cons, List.not_mem_nil, or_false] at hk
    rcases hk with rfl | rfl | rfl | rfl | rfl | rfl | rfl | rfl | rfl | rfl | rfl | rfl | rfl | rfl | rfl | rfl | rfl | rfl | rfl | rfl | rfl | rfl | rfl | rfl | rfl | rfl | rfl | rfl | rfl | rfl | rfl | rfl | rfl | rfl | rfl | rfl | rfl | rfl | rfl | rfl | rfl | rfl | rfl | rfl | rfl
    · exact trivial
    · exact trivial
    · exact trivial
    · exact trivial
    · exact trivial
    · exact trivial
    · exact trivial
    · exact trivial
    · exact trivial
    · exact trivial
    · exact trivial
    · exact trivial
    · exact trivial
    · exact trivial
    · exact trivial
    · exact trivial
    · exact trivial
    · exact trivial
    · exact trivial
    · exact trivial
    · exact trivial
    · exact trivial
    · exact trivial
    · exact trivial
    · exact trivial
    · exact trivial
    · exact trivial
    · exact trivial
    · exact trivial
    · intro v lo hi w w' hb ⟨a9, c9, e, ho⟩; exact ⟨a9, c9, e, ho.ext hb⟩
    · exact trivial
    · exact trivial
    · exact trivial
    · exact trivial
    · exact trivial
    · exact trivial
    · exact trivial
    · intro v lo hi w w' hb ⟨a9, c9, e, ho⟩; exact ⟨a9, c9, e, ho.ext hb⟩
    · exact trivial
    · exact trivial
    · exact trivial
    · intro v lo hi w w' hb ⟨a9, c9, e, ho⟩; exact ⟨a9, c9, e, ho.ext hb⟩
    · exact trivial
    · exact trivial
    · exact trivial
  · intro i hi ν lo hi' w1 K hB hD hK
    have hcase : i = 0 ∨ i = 1 ∨ i = 2 ∨ i = 3 ∨ i = 4 ∨ i = 5 ∨ i = 6 ∨ i = 7 ∨ i = 8 ∨ i = 9 ∨ i = 10 ∨ i = 11 ∨ i = 12 ∨ i = 13 ∨ i = 14 ∨ i = 15 ∨ i = 16 ∨ i = 17 ∨ i = 18 ∨ i = 19 ∨ i = 20 ∨ i = 21 ∨ i = 22 ∨ i = 23 ∨ i = 24 ∨ i = 25 ∨ i = 26 ∨ i = 27 ∨ i = 28 ∨ i = 29 ∨ i = 30 ∨ i = 31 ∨ i = 32 ∨ i = 33 ∨ i = 34 ∨ i = 35 ∨ i = 36 ∨ i = 37 ∨ i = 38 ∨ i = 39 ∨ i = 40 ∨ i = 41 ∨ i = 42 ∨ i = 43 ∨ i = 44 := by omega
    clear hi
    rcases hcase with rfl | rfl | rfl | rfl | rfl | rfl | rfl | rfl | rfl | rfl | rfl | rfl | rfl | rfl | rfl | rfl | rfl | rfl | rfl | rfl | rfl | rfl | rfl | rfl | rfl | rfl | rfl | rfl | rfl | rfl | rfl | rfl | rfl | rfl | rfl | rfl | rfl | rfl | rfl | rfl | rfl | rfl | rfl | rfl | rfl
    · clear hD
      refine wpOp_atK rfl rfl ?_
      simp only [zA,zB,zC,zD,zE,zF,zJ,zK,zG,zH,zI] at hK ⊢
      refine wp_load_row 25 _ rfl w2b.heap.size rfl 25 _ (0, 0) _ (block_ext hB HKI6.out) Tryz.underlying25 rfl size_func ?_
      exact hK _ _ (Below.refl _ _) rfl
    · have e0 := hD 0 (by kernel_rfl)
      replace e0 : ν 0 = (funcVR r) := e0
      clear hD
      refine wpOp_atK rfl rfl ?_
      simp only [zA,zB,zC,zD,zE,zF,zJ,zK,zG,zH,zI, e0] at hK ⊢
      go_simp
      refine (tfits_any r.pa r.pn r.pc r.ba r.bn r.bc (hOf r.bs) w1 (HBI.out.ext hB)).mono ?_
      rintro e w3 ⟨rfl, hb3⟩
      rw [HTS.out, HFB.out] at *
      exact hK _ _ hb3 rfl
    · clear hD
      refine wpOp_atK rfl rfl ?_
      simp only [zA,zB,zC,zD,zE,zF,zJ,zK,zG,zH,zI] at hK ⊢
      refine wp_load_row 25 _ rfl w.heap.size rfl 25 _ (0, 0) _ (block_ext hB HKF6.out) Tryz.underlying25 rfl size_func ?_
      exact hK _ _ (Below.refl _ _) rfl
    · have e1 := hD 1 (by kernel_rfl)
      replace e1 : ν 1 = (.bool fb) := e1
      have e2 := hD 2 (by kernel_rfl)
      replace e2 : ν 2 = (funcVR f) := e2
      clear hD
      refine wpOp_atK rfl rfl ?_
      simp only [zA,zB,zC,zD,zE,zF,zJ,zK,zG,zH,zI, e1, e2] at hK ⊢
      go_simp
      refine (fits17_any f.pa f.pn f.pc f.ba f.bn f.bc (hOf f.bs) w1 (HBF.out.ext hB)).mono ?_
      rintro e w3 ⟨rfl, hb3⟩
      rw [HFB.out] at *
      exact hK _ _ hb3 rfl
    · have e1 := hD 1 (by kernel_rfl)
      replace e1 : ν 1 = (.bool fb) := e1
      have e3 := hD 3 (by kernel_rfl)
      replace e3 : ν 3 = (.bool fb) := e3
      clear hD
      refine wpOp_atK rfl rfl ?_
      simp only [zA,zB,zC,zD,zE,zF,zJ,zK,zG,zH,zI, e1, e3] at hK ⊢
      cases fb <;> (go_simp; exact hK _ _ (Below.refl _ _) rfl)
    · have e3 := hD 3 (by kernel_rfl)
      replace e3 : ν 3 = (.bool fb) := e3
      have e4 := hD 4 (by kernel_rfl)
      replace e4 : ν 4 = (.bool false) := e4
      clear hD
      refine wpOp_atK rfl rfl ?_
      simp only [zA,zB,zC,zD,zE,zF,zJ,zK,zG,zH,zI, e3, e4] at hK ⊢
      go_simp
      exact hK _ _ (Below.refl _ _) rfl
    · have e5 := hD 5 (by kernel_rfl)
      replace e5 : ν 5 = (.bool false) := e5
      clear hD
      simp only [zA,zB,zC,zD,zE,zF,zJ,zK,zG,zH,zI, e5] at hK ⊢
      refine wpOp_atW rfl (by rfl) ?_
      have kq := block_ext hB HKI6.out
      have kq0 : w1.cell? ⟨w2b.heap.size, 0, none⟩ = some (.slice r.pa r.pn r.pc) := (by rw [cell_of_row _ _ _ _ _ _ kq]; rfl)
      have kq1 : w1.cell? ⟨w2b.heap.size, 1, none⟩ = some (.slice r.ba r.bn r.bc) := (by rw [cell_of_row _ _ _ _ _ _ kq]; rfl)
      clear kq
      go_simp
      exact hK _ _ (Below.refl _ _) rfl
    · have e5 := hD 5 (by kernel_rfl)
      replace e5 : ν 5 = (.bool false) := e5
      clear hD
      simp only [zA,zB,zC,zD,zE,zF,zJ,zK,zG,zH,zI, e5] at hK ⊢
      refine wpOp_atW rfl (by rfl) ?_
      go_simp
      exact hK _ _ (Below.refl _ _) rfl
    · have e5 := hD 5 (by kernel_rfl)
      replace e5 : ν 5 = (.bool false) := e5
      have e6 := hD 6 (by kernel_rfl)
      replace e6 : ν 6 = (funcVR r) := e6
      have e7 := hD 7 (by kernel_rfl)
      replace e7 : ν 7 = (.slice (some ⟨tg, 0, none⟩) n tc) := e7
      clear hD
      simp only [zA,zB,zC,zD,zE,zF,zJ,zK,zG,zH,zI, e5, e6, e7] at hK ⊢
      refine wpOp_atW rfl (by rfl) ?_
      go_simp
      refine (tright_any r.pa r.pn r.pc r.ba r.bn r.bc (hOf r.bs) (some ⟨tg, 0, none⟩) n tc rs w1 (HBI.out.ext hB) (HTI.out.ext hB) HTOT2.out).mono ?_
      rintro e w3 ⟨rfl, hb3⟩
      rw [HTS.out, HTD.out, HRB.out] at *
      exact hK _ _ hb3 rfl
    · have e5 := hD 5 (by kernel_rfl)
      replace e5 : ν 5 = (.bool false) := e5
      clear hD
      simp only [zA,zB,zC,zD,zE,zF,zJ,zK,zG,zH,zI, e5] at hK ⊢
      refine wpOp_atW rfl (by rfl) ?_
      have kq := block_ext hB HKF6.out
      have kq0 : w1.cell? ⟨w.heap.size, 0, none⟩ = some (.slice f.pa f.pn f.pc) := (by rw [cell_of_row _ _ _ _ _ _ kq]; rfl)
      have kq1 : w1.cell? ⟨w.heap.size, 1, none⟩ = some (.slice f.ba f.bn f.bc) := (by rw [cell_of_row _ _ _ _ _ _ kq]; rfl)
      clear kq
      go_simp
      exact hK _ _ (Below.refl _ _) rfl
    · have e5 := hD 5 (by kernel_rfl)
      replace e5 : ν 5 = (.bool false) := e5
      clear hD
      simp only [zA,zB,zC,zD,zE,zF,zJ,zK,zG,zH,zI, e5] at hK ⊢
      refine wpOp_atW rfl (by rfl) ?_
      go_simp
      exact hK _ _ (Below.refl _ _) rfl
    · have e5 := hD 5 (by kernel_rfl)
      replace e5 : ν 5 = (.bool false) := e5
      have e8 := hD 8 (by kernel_rfl)
      replace e8 : ν 8 = (.bool rb) := e8
      have e9 := hD 9 (by kernel_rfl)
      replace e9 : ν 9 = (funcVR f) := e9
      have e10 := hD 10 (by kernel_rfl)
      replace e10 : ν 10 = (.slice a n c) := e10
      clear hD
      simp only [zA,zB,zC,zD,zE,zF,zJ,zK,zG,zH,zI, e5, e8, e9, e10] at hK ⊢
      refine wpOp_atW rfl (by rfl) ?_
      go_simp
      refine (right17_any f.pa f.pn f.pc f.ba f.bn f.bc (hOf f.bs) a n c ls w1 (HBF.out.ext hB) (HTF.out.ext hB) HTOT.out).mono ?_
      rintro e w3 ⟨rfl, hb3⟩
      rw [HRB.out] at *
      exact hK _ _ hb3 rfl
    · have e5 := hD 5 (by kernel_rfl)
      replace e5 : ν 5 = (.bool false) := e5
      have e8 := hD 8 (by kernel_rfl)
      replace e8 : ν 8 = (.bool rb) := e8
      have e11 := hD 11 (by kernel_rfl)
      replace e11 : ν 11 = (.bool rb) := e11
      clear hD
      simp only [zA,zB,zC,zD,zE,zF,zJ,zK,zG,zH,zI, e5, e8, e11] at hK ⊢
      refine wpOp_atW rfl (by rfl) ?_
      cases rb <;> (go_simp; exact hK _ _ (Below.refl _ _) rfl)
    · have e5 := hD 5 (by kernel_rfl)
      replace e5 : ν 5 = (.bool false) := e5
      have e12 := hD 12 (by kernel_rfl)
      replace e12 : ν 12 = (.bool false) := e12
      clear hD
      refine wpOp_atK rfl rfl ?_
      simp only [zA,zB,zC,zD,zE,zF,zJ,zK,zG,zH,zI, e5, e12] at hK ⊢
      go_simp
      exact hK _ _ (Below.refl _ _) rfl
    · have e11 := hD 11 (by kernel_rfl)
      replace e11 : ν 11 = (.bool rb) := e11
      have e13 := hD 13 (by kernel_rfl)
      replace e13 : ν 13 = (.bool false) := e13
      clear hD
      refine wpOp_atK rfl rfl ?_
      simp only [zA,zB,zC,zD,zE,zF,zJ,zK,zG,zH,zI, e11, e13] at hK ⊢
      go_simp
      exact hK _ _ (Below.refl _ _) rfl
    · have e14 := hD 14 (by kernel_rfl)
      replace e14 : ν 14 = (.bool false) := e14
      clear hD
      simp only [zA,zB,zC,zD,zE,zF,zJ,zK,zG,zH,zI, e14] at hK ⊢
      refine wpOp_atW rfl (by rfl) ?_
      go_simp
      exact hK _ _ (Below.refl _ _) rfl
    · have e14 := hD 14 (by kernel_rfl)
      replace e14 : ν 14 = (.bool false) := e14
      clear hD
      simp only [zA,zB,zC,zD,zE,zF,zJ,zK,zG,zH,zI, e14] at hK ⊢
      refine wpOp_atW rfl (by rfl) ?_
      go_simp
      exact hK _ _ (Below.refl _ _) rfl
    · have e14 := hD 14 (by kernel_rfl)
      replace e14 : ν 14 = (.bool false) := e14
      have e15 := hD 15 (by kernel_rfl)
      replace e15 : ν 15 = (.int .i64 en) := e15
      have e16 := hD 16 (by kernel_rfl)
      replace e16 : ν 16 = (.int .i64 en) := e16
      clear hD
      simp only [zA,zB,zC,zD,zE,zF,zJ,zK,zG,zH,zI, e14, e15, e16] at hK ⊢
      refine wpOp_atW rfl (by rfl) ?_
      go_simp
      exact hK _ _ (Below.refl _ _) rfl
    · have e14 := hD 14 (by kernel_rfl)
      replace e14 : ν 14 = (.bool false) := e14
      have e17 := hD 17 (by kernel_rfl)
      replace e17 : ν 17 = (.bool false) := e17
      clear hD
      refine wpOp_atK rfl rfl ?_
      simp only [zA,zB,zC,zD,zE,zF,zJ,zK,zG,zH,zI, e14, e17] at hK ⊢
      go_simp
      exact hK _ _ (Below.refl _ _) rfl
    · have e14 := hD 14 (by kernel_rfl)
      replace e14 : ν 14 = (.bool false) := e14
      have e18 := hD 18 (by kernel_rfl)
      replace e18 : ν 18 = (.bool false) := e18
      clear hD
      refine wpOp_atK rfl rfl ?_
      simp only [zA,zB,zC,zD,zE,zF,zJ,zK,zG,zH,zI, e14, e18] at hK ⊢
      go_simp
      exact hK _ _ (Below.refl _ _) rfl
    · have e19 := hD 19 (by kernel_rfl)
      replace e19 : ν 19 = (.bool false) := e19
      clear hD
      simp only [zA,zB,zC,zD,zE,zF,zJ,zK,zG,zH,zI, e19] at hK ⊢
      refine wpOp_atW rfl (by rfl) ?_
      go_simp
      exact hK _ _ (Below.refl _ _) rfl
    · have e19 := hD 19 (by kernel_rfl)
      replace e19 : ν 19 = (.bool false) := e19
      clear hD
      simp only [zA,zB,zC,zD,zE,zF,zJ,zK,zG,zH,zI, e19] at hK ⊢
      refine wpOp_atW rfl (by rfl) ?_
      go_simp
      exact hK _ _ (Below.refl _ _) rfl
    · have e19 := hD 19 (by kernel_rfl)
      replace e19 : ν 19 = (.bool false) := e19
      have e20 := hD 20 (by kernel_rfl)
      replace e20 : ν 20 = (.slice aa al ac) := e20
      have e21 := hD 21 (by kernel_rfl)
      replace e21 : ν 21 = (.slice ba al bc) := e21
      clear hD
      simp only [zA,zB,zC,zD,zE,zF,zJ,zK,zG,zH,zI, e19, e20, e21] at hK ⊢
      refine wpOp_atW rfl (by rfl) ?_
      go_simp
      refine (sameInts_any aa ba al al ac bc _ _ w1 (HIA.out.ext hB) (HIB.out.ext hB)).mono ?_
      rintro e w3 ⟨he, q, rfl⟩
      rw [decide_eq_true rfl] at he
      subst he
      exact hK _ _ (ext_drewN (Below.refl _ _) q) rfl
    · have e19 := hD 19 (by kernel_rfl)
      replace e19 : ν 19 = (.bool false) := e19
      have e22 := hD 22 (by kernel_rfl)
      replace e22 : ν 22 = (.bool true) := e22
      clear hD
      simp only [zA,zB,zC,zD,zE,zF,zJ,zK,zG,zH,zI, e19, e22] at hK ⊢
      refine wpOp_atW rfl (by rfl) ?_
      go_simp
      exact hK _ _ (Below.refl _ _) rfl
    · have e19 := hD 19 (by kernel_rfl)
      replace e19 : ν 19 = (.bool false) := e19
      have e23 := hD 23 (by kernel_rfl)
      replace e23 : ν 23 = (.bool false) := e23
      clear hD
      refine wpOp_atK rfl rfl ?_
      simp only [zA,zB,zC,zD,zE,zF,zJ,zK,zG,zH,zI, e19, e23] at hK ⊢
      go_simp
      exact hK _ _ (Below.refl _ _) rfl
    · have e22 := hD 22 (by kernel_rfl)
      replace e22 : ν 22 = (.bool true) := e22
      have e24 := hD 24 (by kernel_rfl)
      replace e24 : ν 24 = (.bool false) := e24
      clear hD
      refine wpOp_atK rfl rfl ?_
      simp only [zA,zB,zC,zD,zE,zF,zJ,zK,zG,zH,zI, e22, e24] at hK ⊢
      go_simp
      exact hK _ _ (Below.refl _ _) rfl
    · have e25 := hD 25 (by kernel_rfl)
      replace e25 : ν 25 = (.bool false) := e25
      clear hD
      simp only [zA,zB,zC,zD,zE,zF,zJ,zK,zG,zH,zI, e25] at hK ⊢
      refine wpOp_atW rfl (by rfl) ?_
      go_simp
      exact hK _ _ (Below.refl _ _) rfl
    · have e25 := hD 25 (by kernel_rfl)
      replace e25 : ν 25 = (.bool false) := e25
      clear hD
      simp only [zA,zB,zC,zD,zE,zF,zJ,zK,zG,zH,zI, e25] at hK ⊢
      refine wpOp_atW rfl (by rfl) ?_
      go_simp
      exact hK _ _ (Below.refl _ _) rfl
    · have e25 := hD 25 (by kernel_rfl)
      replace e25 : ν 25 = (.bool false) := e25
      clear hD
      simp only [zA,zB,zC,zD,zE,zF,zJ,zK,zG,zH,zI, e25] at hK ⊢
      refine wpOp_atW rfl (by rfl) ?_
      go_simp
      exact hK _ _ (Below.refl _ _) rfl
    · have e25 := hD 25 (by kernel_rfl)
      replace e25 : ν 25 = (.bool false) := e25
      have e27 := hD 27 (by kernel_rfl)
      replace e27 : ν 27 = (.slice a n c) := e27
      have e28 := hD 28 (by kernel_rfl)
      replace e28 : ν 28 = (.int .i64 k) := e28
      clear hD
      simp only [zA,zB,zC,zD,zE,zF,zJ,zK,zG,zH,zI, e25, e27, e28] at hK ⊢
      refine wpOp_atW rfl (by rfl) ?_
      go_simp
      refine (all17T_any a n c ls k w1 (HTF.out.ext hB) HKI.out HTOT.out).mono ?_
      rintro e w3 ⟨v, rfl, ho, hb3⟩
      obtain ⟨a9, c9, rfl⟩ := ho.form
      exact hK _ _ hb3 ⟨a9, c9, rfl, ho.ints⟩
    · have e25 := hD 25 (by kernel_rfl)
      replace e25 : ν 25 = (.bool false) := e25
      have e26 := hD 26 (by kernel_rfl)
      replace e26 : ν 26 = (.slice ca cl cc) := e26
      have e29 := hD 29 (by kernel_rfl)
      unfold specB at e29
      simp only [List.getD_cons_zero, List.getD_cons_succ, specK] at e29
      clear hD
      simp only [zA,zB,zC,zD,zE,zF,zJ,zK,zG,zH,zI, e25, e26] at hK ⊢
      refine wpOp_atW rfl (by rfl) ?_
      obtain ⟨ma, mc, e29', ho9⟩ := e29
      simp only [e29'] at hK ⊢
      go_simp
      refine (sameInts_any ca ma cl _ cc mc _ _ w1 (HIC.out.ext hB) ho9).mono ?_
      rintro e w3 ⟨he, q, rfl⟩
      rw [decide_eq_true rfl] at he
      subst he
      exact hK _ _ (ext_drewN (Below.refl _ _) q) rfl
    · have e25 := hD 25 (by kernel_rfl)
      replace e25 : ν 25 = (.bool false) := e25
      have e30 := hD 30 (by kernel_rfl)
      replace e30 : ν 30 = (.bool true) := e30
      clear hD
      simp only [zA,zB,zC,zD,zE,zF,zJ,zK,zG,zH,zI, e25, e30] at hK ⊢
      refine wpOp_atW rfl (by rfl) ?_
      go_simp
      exact hK _ _ (Below.refl _ _) rfl
    · have e25 := hD 25 (by kernel_rfl)
      replace e25 : ν 25 = (.bool false) := e25
      have e31 := hD 31 (by kernel_rfl)
      replace e31 : ν 31 = (.bool false) := e31
      clear hD
      refine wpOp_atK rfl rfl ?_
      simp only [zA,zB,zC,zD,zE,zF,zJ,zK,zG,zH,zI, e25, e31] at hK ⊢
      go_simp
      exact hK _ _ (Below.refl _ _) rfl
    · have e30 := hD 30 (by kernel_rfl)
      replace e30 : ν 30 = (.bool true) := e30
      have e32 := hD 32 (by kernel_rfl)
      replace e32 : ν 32 = (.bool false) := e32
      clear hD
      refine wpOp_atK rfl rfl ?_
      simp only [zA,zB,zC,zD,zE,zF,zJ,zK,zG,zH,zI, e30, e32] at hK ⊢
      go_simp
      exact hK _ _ (Below.refl _ _) rfl
    · have e33 := hD 33 (by kernel_rfl)
      replace e33 : ν 33 = (.bool false) := e33
      clear hD
      simp only [zA,zB,zC,zD,zE,zF,zJ,zK,zG,zH,zI, e33] at hK ⊢
      refine wpOp_atW rfl (by rfl) ?_
      have kq := block_ext hB HKI6.out
      have kq0 : w1.cell? ⟨w2b.heap.size, 0, none⟩ = some (.slice r.pa r.pn r.pc) := (by rw [cell_of_row _ _ _ _ _ _ kq]; rfl)
      have kq1 : w1.cell? ⟨w2b.heap.size, 1, none⟩ = some (.slice r.ba r.bn r.bc) := (by rw [cell_of_row _ _ _ _ _ _ kq]; rfl)
      clear kq
      go_simp
      exact hK _ _ (Below.refl _ _) rfl
    · have e33 := hD 33 (by kernel_rfl)
      replace e33 : ν 33 = (.bool false) := e33
      clear hD
      simp only [zA,zB,zC,zD,zE,zF,zJ,zK,zG,zH,zI, e33] at hK ⊢
      refine wpOp_atW rfl (by rfl) ?_
      go_simp
      exact hK _ _ (Below.refl _ _) rfl
    · have e33 := hD 33 (by kernel_rfl)
      replace e33 : ν 33 = (.bool false) := e33
      clear hD
      simp only [zA,zB,zC,zD,zE,zF,zJ,zK,zG,zH,zI, e33] at hK ⊢
      refine wpOp_atW rfl (by rfl) ?_
      go_simp
      exact hK _ _ (Below.refl _ _) rfl
    · have e33 := hD 33 (by kernel_rfl)
      replace e33 : ν 33 = (.bool false) := e33
      have e34 := hD 34 (by kernel_rfl)
      replace e34 : ν 34 = (funcVR r) := e34
      have e35 := hD 35 (by kernel_rfl)
      replace e35 : ν 35 = (.slice (some ⟨tg, 0, none⟩) n tc) := e35
      have e36 := hD 36 (by kernel_rfl)
      replace e36 : ν 36 = (.int .i64 k) := e36
      clear hD
      simp only [zA,zB,zC,zD,zE,zF,zJ,zK,zG,zH,zI, e33, e34, e35, e36] at hK ⊢
      refine wpOp_atW rfl (by rfl) ?_
      go_simp
      refine (tentries_any r.pa r.pn r.pc r.ba r.bn r.bc (hOf r.bs) (some ⟨tg, 0, none⟩) n tc rs k w1 (HBI.out.ext hB) (HTI.out.ext hB) HKI.out HTOT2.out).mono ?_
      intro e w3 hp
      obtain ⟨v, rfl, hb3, ho⟩ := hp.g
      rw [HTS.out, HTD.out] at ho
      obtain ⟨a9, c9, rfl⟩ := ho.form
      exact hK _ _ hb3 ⟨a9, c9, rfl, ho.ints⟩
    · have e33 := hD 33 (by kernel_rfl)
      replace e33 : ν 33 = (.bool false) := e33
      clear hD
      simp only [zA,zB,zC,zD,zE,zF,zJ,zK,zG,zH,zI, e33] at hK ⊢
      refine wpOp_atW rfl (by rfl) ?_
      have kq := block_ext hB HKF6.out
      have kq0 : w1.cell? ⟨w.heap.size, 0, none⟩ = some (.slice f.pa f.pn f.pc) := (by rw [cell_of_row _ _ _ _ _ _ kq]; rfl)
      have kq1 : w1.cell? ⟨w.heap.size, 1, none⟩ = some (.slice f.ba f.bn f.bc) := (by rw [cell_of_row _ _ _ _ _ _ kq]; rfl)
      clear kq
      go_simp
      exact hK _ _ (Below.refl _ _) rfl
    · have e33 := hD 33 (by kernel_rfl)
      replace e33 : ν 33 = (.bool false) := e33
      clear hD
      simp only [zA,zB,zC,zD,zE,zF,zJ,zK,zG,zH,zI, e33] at hK ⊢
      refine wpOp_atW rfl (by rfl) ?_
      go_simp
      exact hK _ _ (Below.refl _ _) rfl
    · have e33 := hD 33 (by kernel_rfl)
      replace e33 : ν 33 = (.bool false) := e33
      clear hD
      simp only [zA,zB,zC,zD,zE,zF,zJ,zK,zG,zH,zI, e33] at hK ⊢
      refine wpOp_atW rfl (by rfl) ?_
      go_simp
      exact hK _ _ (Below.refl _ _) rfl
    · have e33 := hD 33 (by kernel_rfl)
      replace e33 : ν 33 = (.bool false) := e33
      have e37 := hD 37 (by kernel_rfl)
      unfold specB at e37
      simp only [List.getD_cons_zero, List.getD_cons_succ, specK] at e37
      have e38 := hD 38 (by kernel_rfl)
      replace e38 : ν 38 = (funcVR f) := e38
      have e39 := hD 39 (by kernel_rfl)
      replace e39 : ν 39 = (.slice a n c) := e39
      have e40 := hD 40 (by kernel_rfl)
      replace e40 : ν 40 = (.int .i64 k) := e40
      clear hD
      simp only [zA,zB,zC,zD,zE,zF,zJ,zK,zG,zH,zI, e33, e38, e39, e40] at hK ⊢
      refine wpOp_atW rfl (by rfl) ?_
      go_simp
      refine (ent17T_any f.pa f.pn f.pc f.ba f.bn f.bc (hOf f.bs) a n c ls k w1 (HBF.out.ext hB) (HTF.out.ext hB) HKI.out HTOT.out).mono ?_
      rintro e w3 ⟨v, rfl, hb3, ho⟩
      obtain ⟨a9, c9, rfl⟩ := ho.form
      exact hK _ _ hb3 ⟨a9, c9, rfl, ho.ints⟩
    · have e33 := hD 33 (by kernel_rfl)
      replace e33 : ν 33 = (.bool false) := e33
      have e37 := hD 37 (by kernel_rfl)
      unfold specB at e37
      simp only [List.getD_cons_zero, List.getD_cons_succ, specK] at e37
      have e41 := hD 41 (by kernel_rfl)
      unfold specB at e41
      simp only [List.getD_cons_zero, List.getD_cons_succ, specK] at e41
      clear hD
      simp only [zA,zB,zC,zD,zE,zF,zJ,zK,zG,zH,zI, e33] at hK ⊢
      refine wpOp_atW rfl (by rfl) ?_
      obtain ⟨ma, mc, e37', ho7⟩ := e37
      obtain ⟨na, nc, e41', ho1⟩ := e41
      simp only [e37', e41'] at hK ⊢
      go_simp
      refine (sameInts_any ma na _ _ mc nc _ _ w1 ho7 ho1).mono ?_
      rintro e w3 ⟨he, q, rfl⟩
      rw [decide_eq_true rfl] at he
      subst he
      exact hK _ _ (ext_drewN (Below.refl _ _) q) rfl
    · have e33 := hD 33 (by kernel_rfl)
      replace e33 : ν 33 = (.bool false) := e33
      have e42 := hD 42 (by kernel_rfl)
      replace e42 : ν 42 = (.bool true) := e42
      clear hD
      simp only [zA,zB,zC,zD,zE,zF,zJ,zK,zG,zH,zI, e33, e42] at hK ⊢
      refine wpOp_atW rfl (by rfl) ?_
      go_simp
      exact hK _ _ (Below.refl _ _) rfl
    · have e33 := hD 33 (by kernel_rfl)
      replace e33 : ν 33 = (.bool false) := e33
      have e43 := hD 43 (by kernel_rfl)
      replace e43 : ν 43 = (.bool false) := e43
      clear hD
      refine wpOp_atK rfl rfl ?_
      simp only [zA,zB,zC,zD,zE,zF,zJ,zK,zG,zH,zI, e33, e43] at hK ⊢
      go_simp
      exact hK _ _ (Below.refl _ _) rfl
  · intro ν lo hi w1 hB hS hI hD
    have e0 : ν 0 = (funcVR r) := hS 0 (by omega)
    have e1 : ν 1 = (.bool fb) := hS 1 (by omega)
    have e2 : ν 2 = (funcVR f) := hS 2 (by omega)
    have e3 : ν 3 = (.bool fb) := hS 3 (by omega)
    have e4 : ν 4 = (.bool false) := hS 4 (by omega)
    have e5 : ν 5 = (.bool false) := hS 5 (by omega)
    have e6 : ν 6 = (funcVR r) := hS 6 (by omega)
    have e7 : ν 7 = (.slice (some ⟨tg, 0, none⟩) n tc) := hS 7 (by omega)
    have e8 : ν 8 = (.bool rb) := hS 8 (by omega)
    have e9 : ν 9 = (funcVR f) := hS 9 (by omega)
    have e10 : ν 10 = (.slice a n c) := hS 10 (by omega)
    have e11 : ν 11 = (.bool rb) := hS 11 (by omega)
    have e12 : ν 12 = (.bool false) := hS 12 (by omega)
    have e13 : ν 13 = (.bool false) := hS 13 (by omega)
    have e14 : ν 14 = (.bool false) := hS 14 (by omega)
    have e15 : ν 15 = (.int .i64 en) := hS 15 (by omega)
    have e16 : ν 16 = (.int .i64 en) := hS 16 (by omega)
    have e17 : ν 17 = (.bool false) := hS 17 (by omega)
    have e18 : ν 18 = (.bool false) := hS 18 (by omega)
    have e19 : ν 19 = (.bool false) := hS 19 (by omega)
    have e20 : ν 20 = (.slice aa al ac) := hS 20 (by omega)
    have e21 : ν 21 = (.slice ba al bc) := hS 21 (by omega)
    have e22 : ν 22 = (.bool true) := hS 22 (by omega)
    have e23 : ν 23 = (.bool false) := hS 23 (by omega)
    have e24 : ν 24 = (.bool false) := hS 24 (by omega)
    have e25 : ν 25 = (.bool false) := hS 25 (by omega)
    have e26 : ν 26 = (.slice ca cl cc) := hS 26 (by omega)
    have e27 : ν 27 = (.slice a n c) := hS 27 (by omega)
    have e28 : ν 28 = (.int .i64 k) := hS 28 (by omega)
    have e29 := hS 29 (by omega)
    unfold specB at e29
    simp only [List.getD_cons_zero, List.getD_cons_succ, specK] at e29
    have e30 : ν 30 = (.bool true) := hS 30 (by omega)
    have e31 : ν 31 = (.bool false) := hS 31 (by omega)
    have e32 : ν 32 = (.bool false) := hS 32 (by omega)
    have e33 : ν 33 = (.bool false) := hS 33 (by omega)
    have e34 : ν 34 = (funcVR r) := hS 34 (by omega)
    have e35 : ν 35 = (.slice (some ⟨tg, 0, none⟩) n tc) := hS 35 (by omega)
    have e36 : ν 36 = (.int .i64 k) := hS 36 (by omega)
    have e37 := hS 37 (by omega)
    unfold specB at e37
    simp only [List.getD_cons_zero, List.getD_cons_succ, specK] at e37
    have e38 : ν 38 = (funcVR f) := hS 38 (by omega)
    have e39 : ν 39 = (.slice a n c) := hS 39 (by omega)
    have e40 : ν 40 = (.int .i64 k) := hS 40 (by omega)
    have e41 := hS 41 (by omega)
    unfold specB at e41
    simp only [List.getD_cons_zero, List.getD_cons_succ, specK] at e41
    have e42 : ν 42 = (.bool true) := hS 42 (by omega)
    have e43 : ν 43 = (.bool false) := hS 43 (by omega)
    have e44 : ν 44 = (.bool false) := hS 44 (by omega)
    clear hS
    simp only [List.drop_succ_cons, List.drop_zero, zA,zB,zC,zD,zE,zF,zJ,zK,zG,zH,zI, e0, e1, e2, e3, e4, e5, e6, e7, e8, e9, e10, e11, e12, e13, e14, e15, e16, e17, e18, e19, e20, e21, e22, e23, e24, e25, e26, e27, e28, e30, e31, e32, e33, e34, e35, e36, e38, e39, e40, e42, e43, e44]
    have HB7 := Lib.hid hB
    have HKI7 := Lib.hid (block_ext hB HKI6.out)
    have HKF7 := Lib.hid (block_ext hB HKF6.out)
    clear hI hD hB e0 e1 e2 e3 e4 e5 e6 e7 e8 e9 e10 e11 e12 e13 e14 e15 e16 e17 e18 e19 e20 e21 e22 e23 e24 e25 e26 e27 e28 e30 e31 e32 e33 e34 e35 e36 e38 e39 e40 e42 e43 e44 e29 e37 e41
    obtain ⟨w8, hw8⟩ : ∃ w8, w8 = w1.alloc (.cells #[.slice aa al ac, .slice ca cl cc, .slice da cl dc] 22) := ⟨_, rfl⟩
    have hb8 : Below w7.heap.size w7 w8 := by rw [hw8]; exact ext_trans HB7.out (ext_alloc _ _)
    have hr8 : w8.heap[w1.heap.size]? = some (.cells #[.slice aa al ac, .slice ca cl cc, .slice da cl dc] 22 (0, 0)) := by rw [hw8]; exact heap_alloc_new _ _
    have oA := HOA7.out.ext hb8
    have oC := HOC7.out.ext hb8
    have oD := HOD.out.ext hb8
    have z1 : w3.heap.size ≤ w8.heap.size := by have := hb8.size; omega
    have HE8 : Hid (Below w3.heap.size w3 w8) := ext_trans HE7.out hb8
    have HAP : Hid (Calls Tryz.prog 48 #[.slice (some ⟨w1.heap.size, 0, none⟩) 3 3] w8 fun e w' => e = .returned (.bool true) ∧ Chg (SB 3 (three (.slice aa al ac) (.slice ca cl cc) (.slice da cl dc))) w8 w') := by
      refine apartInts_any w8 (some ⟨w1.heap.size, 0, none⟩) 3 3 w3.heap.size (three (.slice aa al ac) (.slice ca cl cc) (.slice da cl dc)) (threeN al cl cl) ?_ ?_ ?_ (by omega) ?_ z1
      · intro j hj
        refine ⟨w1.heap.size, 0, rfl, ?_⟩
        rw [cell_of_row _ _ _ _ _ _ hr8, Nat.zero_add]
        match j, hj with
        | 0, _ => rfl
        | 1, _ => rfl
        | 2, _ => rfl
      · intro j hj
        match j, hj with
        | 0, _ => exact ⟨_, by have h := oA.1; rw [HAL.out] at h; exact h⟩
        | 1, _ => exact ⟨_, by have h := (oC.mono (show w3.heap.size ≤ w5.heap.size by omega)).1; rw [HCL.out] at h; exact h⟩
        | 2, _ => exact ⟨_, by have h := (oD.mono (show w3.heap.size ≤ w6.heap.size by omega)).1; rw [HCL.out] at h; exact h⟩
      · have k1 : ∀ q, (Value.slice aa al ac).ownBlock = some q → q < w4.heap.size := fun q hq => (HOA.out.low hq).2
        have k2 : ∀ q, (Value.slice ca cl cc).ownBlock = some q → w5.heap.size ≤ q ∧ q < w6.heap.size := fun q hq => HOC.out.low hq
        have k3 : ∀ q, (Value.slice da cl dc).ownBlock = some q → w6.heap.size ≤ q := fun q hq => (HOD.out.low hq).1
        intro i j hi hj hij g h1 h2
        match i, j, hi, hj with
        | 0, 0, _, _ => exact hij rfl
        | 1, 1, _, _ => exact hij rfl
        | 2, 2, _, _ => exact hij rfl
        | 0, 1, _, _ => have := k1 g h1; have := k2 g h2; omega
        | 0, 2, _, _ => have := k1 g h1; have := k3 g h2; omega
        | 1, 0, _, _ => have := k2 g h1; have := k1 g h2; omega
        | 1, 2, _, _ => have := k2 g h1; have := k3 g h2; omega
        | 2, 0, _, _ => have := k3 g h1; have := k1 g h2; omega
        | 2, 1, _, _ => have := k3 g h1; have := k2 g h2; omega
      · have b1 := HALb.out
        have b2 := HCLb.out
        intro j hj
        match j, hj with
        | 0, _ => exact b1
        | 1, _ => exact b2
        | 2, _ => exact b2
    have HSB : Hid (∀ q, SB 3 (three (.slice aa al ac) (.slice ca cl cc) (.slice da cl dc)) q → w3.heap.size ≤ q) := by
      rintro q ⟨j, hj, hq⟩
      match j, hj with
      | 0, _ => exact (HOA.out.low hq).1
      | 1, _ => have := (HOC.out.low hq).1; omega
      | 2, _ => have := (HOD.out.low hq).1; omega
    clear hb8 hr8 oA oC oD HB7 HKI7 HKF7
    go_wp2_with (first
      | (refine wpList_load_rowW (o := ⟨some 92, .load 25 _, _, _, _, _⟩) (by rfl) 25 _ rfl w2b.heap.size rfl 25 _ (0, 0) _ HKI9.out Tryz.underlying25 rfl size_func ?_)
      | (refine wpList_load_rowW (o := ⟨some 93, .load 25 _, _, _, _, _⟩) (by rfl) 25 _ rfl w.heap.size rfl 25 _ (0, 0) _ HKF9.out Tryz.underlying25 rfl size_func ?_)
      | (go_at_call 33
         refine (awake17_any w11).mono ?_
         rintro e w12 ⟨rfl, hb⟩
         have HE12 : Hid (Below w3.heap.size w3 w12) := ext_trans HE11.out hb
         clear hb)
      | (go_at_call 22
         refine (keptTiles_any w2.heap.size tg tc a n c ls rs w10 (LentL.ext LentT_law HLT3.out HE10.out) (HTT3.out.ext HE10.out) hn90 HTNA.out).mono ?_
         rintro e w11 ⟨rfl, hb⟩
         have HE11 : Hid (Below w3.heap.size w3 w11) := ext_trans HE10.out hb
         clear hb)
      | (go_at_call 21
         refine (keptFunc_any r f w0.heap.size w9 (LentFn_law.ext HLF3.out HE9.out) (HFF3.out.ext HE9.out) HNA.out).mono ?_
         rintro e w10 ⟨rfl, hb⟩
         have HE10 : Hid (Below w3.heap.size w3 w10) := ext_trans HE9.out hb
         clear hb)
      | (go_at_call 48
         rw [← hw8]
         refine HAP.out.mono ?_
         rintro e w9 ⟨rfl, hch⟩
         have HE9 : Hid (Below w3.heap.size w3 w9) := HE8.out.trans (hch.below (B := w3.heap.size) z1 HSB.out)
         have HKI9 := Lib.hid (block_ext HE9.out HKI3.out)
         have HKF9 := Lib.hid (block_ext HE9.out HKF3.out)
         clear hch))
    go_ret
    exact ⟨rfl, ext_trans HB3.out HE12.out⟩
end

section
open Go.ChangeShapes Go.WideShapes Go.ChangeAt Go.RowKit
theorem ownG : ownKnob Tryz.prog.godebug = none := by kernel_rfl
theorem laidOutG : laidOutB Tryz.prog = true := by kernel_rfl
theorem bytesInt : Tryz.prog.bytesOf 3 = 8 := by kernel_rfl
theorem cellsInt : Tryz.prog.cellsOf 3 = 1 := by kernel_rfl
theorem ints_in {H : Type} {enc : TypeId × Value → H} {W : World} {fuel : Nat} {v : Value} {y : DataW H × List MemPlace}
    (hf : DataW.trod enc Tryz.prog W 0 (fun _ => true) true fuel 22 [v] = some y) (hb : ∀ n ∈ y.1.weights Tryz.prog 22, n ≤ reachBytes) :
    ∃ a len cap zs, v = .slice a len cap ∧ Ints W a len zs := by
  rcases open_ints Tryz.underlying22 Tryz.underlying3 cellsInt hf with ⟨hcs, _⟩ | ⟨x, l, c, zs, hcs, _, hl, hm, hz, hx, hcell, hwz⟩
  · simp at hcs
    exact ⟨none, 0, 0, [], hcs, rfl, by omega, fun k hk => absurd hk (by omega)⟩
  · simp at hcs
    have hz' : zs.length = c := by simpa using hz
    have hlen : (zs.take l).length = l := by simp; omega
    have hbd := hb ((((zs.take l).length) + ((zs.drop l).length)) * 8) (by rw [hx]; simp [DataW.weights, Tryz.underlying22, bytesInt, lits])
    refine ⟨some x, l, c, zs.take l, hcs, hlen, ?_, fun k hk => ?_⟩
    · simp only [List.length_take, List.length_drop, reachBytes] at hbd
      omega
    · have hk' : k < zs.length := by omega
      have hc := hcell k hk'
      obtain ⟨b, o, sp⟩ := x
      have hsp : sp = none := by simpa [Addr.add] using World.cell?_spot (hcell 0 (by omega))
      subst hsp
      have e : (zs.take l).getD k 0 = zs.getD k 0 := by simp [List.getD_eq_getElem?_getD, List.getElem?_take, hk]
      refine ⟨b, o, rfl, ?_, ?_⟩
      · rw [e]
        have ha : (⟨b, o, none⟩ : Addr).add k = ⟨b, o + k, none⟩ := by
          by_cases h0 : k = 0
          · simp [Addr.add, h0]
          · simp [Addr.add, h0]
        rw [ha] at hc
        exact hc
      · rw [e]
        have hm' : zs.getD k 0 ∈ zs := by
          rw [List.getD_eq_getElem?_getD, List.getElem?_eq_getElem hk']
          simp
        have := Go.Joins.in64_of_wf (hwz _ hm')
        simp only [I64]
        simp only [Go.Joins.In64] at this
        omega
end

section
open Go.ChangeShapes Go.WideShapes Go.ChangeAt Go.RowKit
theorem cellsIns : Tryz.prog.cellsOf 216 = 8 := by kernel_rfl
theorem bytesIns : Tryz.prog.bytesOf 216 = 80 := by kernel_rfl
theorem cellsOp : Tryz.prog.cellsOf 214 = 1 := by kernel_rfl
theorem cellsInts : Tryz.prog.cellsOf 22 = 1 := by kernel_rfl
theorem cellsInsS : Tryz.prog.cellsOf 71 = 1 := by kernel_rfl
theorem cellsTerm : Tryz.prog.cellsOf 70 = 4 := by kernel_rfl
theorem cellsKind : Tryz.prog.cellsOf 67 = 1 := by kernel_rfl
theorem cellsTo : Tryz.prog.cellsOf 68 = 2 := by kernel_rfl
theorem cellsBlock : Tryz.prog.cellsOf 73 = 5 := by kernel_rfl
theorem list_of {α : Type} (n : Nat) (R : Nat → α → Prop) (h : ∀ i, i < n → ∃ x, R i x) : ∃ l : List α, l.length = n ∧ ∀ i x, l[i]? = some x → R i x := by
  induction n with
  | zero => exact ⟨[], rfl, fun i x hx => by simp at hx⟩
  | succ n ih =>
    obtain ⟨l, hl, hr⟩ := ih (fun i hi => h i (by omega))
    obtain ⟨x, hx⟩ := h n (by omega)
    refine ⟨l ++ [x], by simp [hl], fun i y hy => ?_⟩
    by_cases hi : i < n
    · rw [List.getElem?_append_left (by omega)] at hy
      exact hr i y hy
    · have hlt := (List.getElem?_eq_some_iff.1 hy).1
      simp [hl] at hlt
      obtain rfl : i = n := by omega
      rw [List.getElem?_append_right (by omega), hl, Nat.sub_self] at hy
      simp at hy
      subst hy
      exact hx
theorem len8 {α : Type} : ∀ {l : List α}, l.length = 8 → ∃ v0 v1 v2 v3 v4 v5 v6 v7, l = [v0, v1, v2, v3, v4, v5, v6, v7]
  | [v0, v1, v2, v3, v4, v5, v6, v7], _ => ⟨v0, v1, v2, v3, v4, v5, v6, v7, rfl⟩
theorem len5 {α : Type} : ∀ {l : List α}, l.length = 5 → ∃ v0 v1 v2 v3 v4, l = [v0, v1, v2, v3, v4]
  | [v0, v1, v2, v3, v4], _ => ⟨v0, v1, v2, v3, v4, rfl⟩
theorem len3 {α : Type} : ∀ {l : List α}, l.length = 3 → ∃ v0 v1 v2, l = [v0, v1, v2]
  | [v0, v1, v2], _ => ⟨v0, v1, v2, rfl⟩
theorem len2 {α : Type} : ∀ {l : List α}, l.length = 2 → ∃ v0 v1, l = [v0, v1]
  | [v0, v1], _ => ⟨v0, v1, rfl⟩
section
variable {H : Type} {enc : TypeId × Value → H} {W : World}
theorem int_in {fuel : Nat} {v : Value} {t : TypeId} {o : Option (DataW H × List MemPlace)} {y : DataW H × List MemPlace} (ht : Tryz.prog.underlying t = some (.int .i64)) (h : DataW.trod enc Tryz.prog W 0 (fun _ => true) true fuel t [v] = o) (ho : o = some y) : ∃ n, v = .int .i64 n ∧ I64 n := by
  obtain ⟨n, e, _, hw⟩ := DataW.trod_int ht (h.trans ho)
  simp only [List.cons.injEq, and_true] at e
  have := Go.Joins.in64_of_wf hw
  exact ⟨n, e, this.1, this.2⟩
theorem intsC_in {fuel : Nat} {v : Value} {y : DataW H × List MemPlace}
    (hf : DataW.trod enc Tryz.prog W 0 (fun _ => true) true fuel 22 [v] = some y) (hb : ∀ n ∈ y.1.weights Tryz.prog 22, n ≤ reachBytes) :
    ∃ a len cap zs, v = .slice a len cap ∧ Ints W a len zs ∧ len ≤ cap := by
  obtain ⟨a, len, cap, zs, e, h⟩ := ints_in hf hb
  refine ⟨a, len, cap, zs, e, h, ?_⟩
  rcases open_ints Tryz.underlying22 Tryz.underlying3 cellsInt hf with ⟨hcs, _⟩ | ⟨x, l, c, zs', hcs, _, hl, _⟩
  · simp at hcs; rw [e] at hcs; simp at hcs; omega
  · simp at hcs; rw [e] at hcs; simp at hcs; omega
theorem ins_in {fuel : Nat} {cs : List Value} {y : DataW H × List MemPlace} (hf : DataW.trod enc Tryz.prog W 0 (fun _ => true) true fuel 216 cs = some y) (hb : ∀ n ∈ y.1.weights Tryz.prog 216, n ≤ reachBytes) :
    ∃ r : InsR, cs = insC r ∧ InsOK W r := by
  obtain ⟨ys, n, -, hy, hlen, hyl, hfs⟩ := DataW.trod_struct Tryz.underlying216 hf
  rw [cellsIns] at hlen
  obtain ⟨v0, v1, v2, v3, v4, v5, v6, v7, rfl⟩ := len8 hlen
  obtain ⟨y0, y1, y2, y3, y4, y5, y6, y7, rfl⟩ := len8 (show ys.length = 8 from hyl)
  have g0 : DataW.trod enc Tryz.prog W 0 (fun _ => true) true n 214 (([v0, v1, v2, v3, v4, v5, v6, v7].drop 0).take (Tryz.prog.cellsOf 214)) = some y0 := hfs 0 _ rfl
  have g1 : DataW.trod enc Tryz.prog W 0 (fun _ => true) true n 3 (([v0, v1, v2, v3, v4, v5, v6, v7].drop 1).take (Tryz.prog.cellsOf 3)) = some y1 := hfs 1 _ rfl
  have g2 : DataW.trod enc Tryz.prog W 0 (fun _ => true) true n 3 (([v0, v1, v2, v3, v4, v5, v6, v7].drop 2).take (Tryz.prog.cellsOf 3)) = some y2 := hfs 2 _ rfl
  have g3 : DataW.trod enc Tryz.prog W 0 (fun _ => true) true n 3 (([v0, v1, v2, v3, v4, v5, v6, v7].drop 3).take (Tryz.prog.cellsOf 3)) = some y3 := hfs 3 _ rfl
  have g4 : DataW.trod enc Tryz.prog W 0 (fun _ => true) true n 3 (([v0, v1, v2, v3, v4, v5, v6, v7].drop 4).take (Tryz.prog.cellsOf 3)) = some y4 := hfs 4 _ rfl
  have g5 : DataW.trod enc Tryz.prog W 0 (fun _ => true) true n 3 (([v0, v1, v2, v3, v4, v5, v6, v7].drop 5).take (Tryz.prog.cellsOf 3)) = some y5 := hfs 5 _ rfl
  have g6 : DataW.trod enc Tryz.prog W 0 (fun _ => true) true n 22 (([v0, v1, v2, v3, v4, v5, v6, v7].drop 6).take (Tryz.prog.cellsOf 22)) = some y6 := hfs 6 _ rfl
  have g7 : DataW.trod enc Tryz.prog W 0 (fun _ => true) true n 3 (([v0, v1, v2, v3, v4, v5, v6, v7].drop 7).take (Tryz.prog.cellsOf 3)) = some y7 := hfs 7 _ rfl
  rw [cellsOp] at g0
  rw [cellsInt] at g1
  rw [cellsInt] at g2
  rw [cellsInt] at g3
  rw [cellsInt] at g4
  rw [cellsInt] at g5
  rw [cellsInts] at g6
  rw [cellsInt] at g7
  simp only [List.drop_succ_cons, List.drop_zero, List.take_succ_cons, List.take_zero] at g0 g1 g2 g3 g4 g5 g6 g7
  obtain ⟨n0, rfl, i0⟩ := int_in Tryz.underlying214 g0 rfl
  obtain ⟨n1, rfl, i1⟩ := int_in Tryz.underlying3 g1 rfl
  obtain ⟨n2, rfl, i2⟩ := int_in Tryz.underlying3 g2 rfl
  obtain ⟨n3, rfl, i3⟩ := int_in Tryz.underlying3 g3 rfl
  obtain ⟨n4, rfl, i4⟩ := int_in Tryz.underlying3 g4 rfl
  obtain ⟨n5, rfl, i5⟩ := int_in Tryz.underlying3 g5 rfl
  obtain ⟨n7, rfl, i7⟩ := int_in Tryz.underlying3 g7 rfl
  obtain ⟨a, len, cap, zs, rfl, hI, hc⟩ := intsC_in (y := y6) g6 (fun q hq => hb q (by rw [hy]; simp [DataW.weights, DataW.weightsEach, Tryz.underlying216, hq]))
  exact ⟨⟨⟨n0, n1, n2, n3, n4, n5, zs, n7⟩, a, len, cap⟩, rfl, hI, hc, i0, i1, i2, i3, i4, i5, i7⟩
theorem weights_all {e : TypeId} : ∀ {l : List (DataW H)} {d : DataW H}, d ∈ l → ∀ q ∈ d.weights Tryz.prog e, q ∈ DataW.weightsAll Tryz.prog e l
  | x :: l, d, hd, q, hq => by
    rw [DataW.weightsAll, List.mem_append]
    rcases List.mem_cons.1 hd with rfl | hd
    · exact Or.inl hq
    · exact Or.inr (weights_all hd q hq)
theorem insS_in {fuel : Nat} {v : Value} {y : DataW H × List MemPlace} (hf : DataW.trod enc Tryz.prog W 0 (fun _ => true) true fuel 71 [v] = some y) (hb : ∀ n ∈ y.1.weights Tryz.prog 71, n ≤ reachBytes) :
    ∃ a len cap rs, v = .slice a len cap ∧ InsS W a len rs ∧ len ≤ cap := by
  rcases Go.Deep.open_slice Tryz.underlying71 hf with ⟨hcs, _⟩ | ⟨x, l, c, m, n, D, Pl, hcs, _, hl, hm, hmm, hx, hall⟩
  · simp at hcs
    exact ⟨none, 0, 0, [], hcs, ⟨Recs.nil _ _ _, fun r hr => by cases hr⟩, by omega⟩
  · simp at hcs
    have hmm' : m = c := by simpa using hmm
    subst hmm'
    rw [cellsIns] at hall
    have hbd := hb ((l + (m - l)) * 80) (by rw [hx]; simp [DataW.weights, Tryz.underlying71, bytesIns])
    have hel : ∀ i, i < l → ∃ r : InsR, InsOK W r ∧ ∀ j, j < 8 → W.cell? ((x.add (i * 8)).add j) = (insC r)[j]? := fun i hi => by
      obtain ⟨cs', hc', ht'⟩ := hall i (by omega)
      obtain ⟨_, _, hat⟩ := World.cells?_some hc'
      obtain ⟨r, rfl, hok⟩ := ins_in ht' (fun q hq => hb q (by
        rw [hx]
        simp only [DataW.weights, Tryz.underlying71, List.mem_cons, List.mem_append]
        exact Or.inr (Or.inl (weights_all (List.mem_map.2 ⟨i, List.mem_range.2 hi, rfl⟩) q hq))))
      exact ⟨r, hok, hat⟩
    obtain ⟨rs, hrl, hrs⟩ := list_of l _ hel
    have hsp : 0 < l → x.spot = none := fun h0 => by
      obtain ⟨r, _, hat⟩ := hel 0 h0
      have h1 := hat 0 (by omega)
      have h2 : (insC r)[0]? = some (.int .i64 r.d.op) := rfl
      rw [h2] at h1
      have := World.cell?_spot h1
      simpa [Addr.add] using this
    refine ⟨some x, l, m, rs, hcs, ⟨⟨hrl, ?_, fun k r hr => ?_⟩, fun r hr => ?_⟩, hl⟩
    · simp only [reachBytes] at hbd
      omega
    · have hk : k < l := by rw [← hrl]; exact (List.getElem?_eq_some_iff.1 hr).1
      have hs := hsp (by omega)
      obtain ⟨b, o, sp⟩ := x
      simp only at hs
      subst hs
      refine ⟨b, o, rfl, fun j hj => ?_⟩
      have := (hrs k r hr).2 j hj
      rwa [addr_add, addr_add] at this
    · obtain ⟨k, hk, e⟩ := List.mem_iff_getElem.1 hr
      exact (hrs k r (by rw [List.getElem?_eq_getElem hk, e])).1
theorem cellsFunc : Tryz.prog.cellsOf 25 = 2 := by kernel_rfl
theorem cellsBlocks : Tryz.prog.cellsOf 23 = 1 := by kernel_rfl
theorem bytesBlock : Tryz.prog.bytesOf 73 = 56 := by kernel_rfl
theorem blkE_in {fuel : Nat} {l : List Value} {y : DataW H × List MemPlace} (hf' : DataW.trod enc Tryz.prog W 0 (fun _ => true) true fuel 73 l = some y) (hb : ∀ n ∈ y.1.weights Tryz.prog 73, n ≤ reachBytes) :
    ∃ b : BlkH, l = blkC b ∧ TermOK b.t ∧ ∃ rs, InsS W b.ia b.n rs := by
  obtain ⟨ys, n, -, hy, hlen, hyl, hfs⟩ := DataW.trod_struct Tryz.underlying73 hf'
  rw [cellsBlock] at hlen
  obtain ⟨v0, v1, v2, v3, v4, rfl⟩ := len5 hlen
  obtain ⟨y0, y1, rfl⟩ := len2 (show ys.length = 2 from hyl)
  have g0 : DataW.trod enc Tryz.prog W 0 (fun _ => true) true n 71 (([v0, v1, v2, v3, v4].drop 0).take (Tryz.prog.cellsOf 71)) = some y0 := hfs 0 _ rfl
  have g1 : DataW.trod enc Tryz.prog W 0 (fun _ => true) true n 70 (([v0, v1, v2, v3, v4].drop 1).take (Tryz.prog.cellsOf 70)) = some y1 := hfs 1 _ rfl
  rw [cellsInsS] at g0
  rw [cellsTerm] at g1
  simp only [List.drop_succ_cons, List.drop_zero, List.take_succ_cons, List.take_zero] at g0 g1
  obtain ⟨sa, ns, cs, rs, rfl, hI, hc⟩ := insS_in g0 (fun q hq => hb q (by rw [hy]; simp [DataW.weights, DataW.weightsEach, Tryz.underlying73, hq]))
  obtain ⟨zs, n', -, hz, -, hzl, hgs⟩ := DataW.trod_struct Tryz.underlying70 g1
  obtain ⟨z0, z1, z2, rfl⟩ := len3 (show zs.length = 3 from hzl)
  have k0 : DataW.trod enc Tryz.prog W 0 (fun _ => true) true n' 67 (([v1, v2, v3, v4].drop 0).take (Tryz.prog.cellsOf 67)) = some z0 := hgs 0 _ rfl
  have k1 : DataW.trod enc Tryz.prog W 0 (fun _ => true) true n' 3 (([v1, v2, v3, v4].drop 1).take (Tryz.prog.cellsOf 3)) = some z1 := hgs 1 _ rfl
  have k2 : DataW.trod enc Tryz.prog W 0 (fun _ => true) true n' 68 (([v1, v2, v3, v4].drop 2).take (Tryz.prog.cellsOf 68)) = some z2 := hgs 2 _ rfl
  rw [cellsKind] at k0
  rw [cellsInt] at k1
  rw [cellsTo] at k2
  simp only [List.drop_succ_cons, List.drop_zero, List.take_succ_cons, List.take_zero] at k0 k1 k2
  obtain ⟨us, n'', -, hu, -, hul, hus⟩ := DataW.trod_array Tryz.underlying68 k2
  obtain ⟨u0, u1, rfl⟩ := len2 hul
  have t0 : DataW.trod enc Tryz.prog W 0 (fun _ => true) true n'' 3 (([v3, v4].drop (0 * Tryz.prog.cellsOf 3)).take (Tryz.prog.cellsOf 3)) = some u0 := hus 0 (by omega)
  have t1 : DataW.trod enc Tryz.prog W 0 (fun _ => true) true n'' 3 (([v3, v4].drop (1 * Tryz.prog.cellsOf 3)).take (Tryz.prog.cellsOf 3)) = some u1 := hus 1 (by omega)
  rw [cellsInt] at t0 t1
  simp only [Nat.zero_mul, Nat.one_mul, List.drop_succ_cons, List.drop_zero, List.take_succ_cons, List.take_zero] at t0 t1
  obtain ⟨m1, rfl, i1⟩ := int_in Tryz.underlying67 k0 rfl
  obtain ⟨m2, rfl, i2⟩ := int_in Tryz.underlying3 k1 rfl
  obtain ⟨m3, rfl, i3⟩ := int_in Tryz.underlying3 t0 rfl
  obtain ⟨m4, rfl, i4⟩ := int_in Tryz.underlying3 t1 rfl
  exact ⟨⟨sa, ns, cs, ⟨m1, m2, m3, m4⟩⟩, rfl, ⟨i1, i2, i3, i4⟩, rs, hI⟩
theorem blks_in {fuel : Nat} {v : Value} {y : DataW H × List MemPlace} (hf : DataW.trod enc Tryz.prog W 0 (fun _ => true) true fuel 23 [v] = some y) (hb : ∀ n ∈ y.1.weights Tryz.prog 23, n ≤ reachBytes) :
    ∃ a len cap bs, v = .slice a len cap ∧ BlksX W a len bs ∧ len ≤ cap := by
  rcases Go.Deep.open_slice Tryz.underlying23 hf with ⟨hcs, _⟩ | ⟨x, l, c, m, n, D, Pl, hcs, _, hl, hm, hmm, hx, hall⟩
  · simp at hcs
    exact ⟨none, 0, 0, [], hcs, ⟨⟨Recs.nil _ _ _, fun r hr => by cases hr⟩, fun r hr => by cases hr⟩, by omega⟩
  · simp at hcs
    have hmm' : m = c := by simpa using hmm
    subst hmm'
    rw [cellsBlock] at hall
    have hbd := hb ((l + (m - l)) * 56) (by rw [hx]; simp [DataW.weights, Tryz.underlying23, bytesBlock])
    have hel : ∀ i, i < l → ∃ b : BlkH, (TermOK b.t ∧ ∃ rs, InsS W b.ia b.n rs) ∧ ∀ j, j < 5 → W.cell? ((x.add (i * 5)).add j) = (blkC b)[j]? := fun i hi => by
      obtain ⟨cs', hc', ht'⟩ := hall i (by omega)
      obtain ⟨_, _, hat⟩ := World.cells?_some hc'
      obtain ⟨b, rfl, hok⟩ := blkE_in ht' (fun q hq => hb q (by
        rw [hx]
        simp only [DataW.weights, Tryz.underlying23, List.mem_cons, List.mem_append]
        exact Or.inr (Or.inl (weights_all (List.mem_map.2 ⟨i, List.mem_range.2 hi, rfl⟩) q hq))))
      exact ⟨b, hok, hat⟩
    obtain ⟨bs, hrl, hrs⟩ := list_of l _ hel
    have hsp : 0 < l → x.spot = none := fun h0 => by
      obtain ⟨r, _, hat⟩ := hel 0 h0
      have h1 := hat 0 (by omega)
      have h2 : (blkC r)[0]? = some (.slice r.ia r.n r.c) := rfl
      rw [h2] at h1
      have := World.cell?_spot h1
      simpa [Addr.add] using this
    have hmem : ∀ r ∈ bs, TermOK r.t ∧ ∃ rs, InsS W r.ia r.n rs := fun r hr => by
      obtain ⟨k, hk, e⟩ := List.mem_iff_getElem.1 hr
      exact (hrs k r (by rw [List.getElem?_eq_getElem hk, e])).1
    refine ⟨some x, l, m, bs, hcs, ⟨⟨⟨hrl, ?_, fun k r hr => ?_⟩, fun r hr => (hmem r hr).1⟩, fun r hr => (hmem r hr).2⟩, hl⟩
    · simp only [reachBytes] at hbd
      omega
    · have hk : k < l := by rw [← hrl]; exact (List.getElem?_eq_some_iff.1 hr).1
      have hs := hsp (by omega)
      obtain ⟨b, o, sp⟩ := x
      simp only at hs
      subst hs
      refine ⟨b, o, rfl, fun j hj => ?_⟩
      have := (hrs k r hr).2 j hj
      rwa [addr_add, addr_add] at this
theorem func_in {r : Go.Reach} {b0 : Nat} {v : Value} {d : DataW H} {p : List MemPlace} (hv : Value.okWide Tryz.prog W r b0 25 v) (h : DataW.Trod enc Tryz.prog W 0 (fun _ => true) true 25 v d p) (hb : ∀ n ∈ d.weights Tryz.prog 25, n ≤ reachBytes) :
    ∃ pa pn pc ba bn bc bs, v = funcV pa pn pc ba bn bc ∧ (∃ ps, Ints W pa pn ps) ∧ BlksX W ba bn bs := by
  obtain ⟨arr, rfl, hsz⟩ := okWide_struct Tryz.underlying25 hv
  rw [cellsFunc] at hsz
  obtain ⟨fuel, hf⟩ := h
  obtain ⟨l⟩ := arr
  have hf' : DataW.trod enc Tryz.prog W 0 (fun _ => true) true fuel 25 l = some (d, p) := hf
  obtain ⟨v0, v1, rfl⟩ := len2 (show l.length = 2 from hsz)
  obtain ⟨ys, n, -, hy, -, hyl, hfs⟩ := DataW.trod_struct Tryz.underlying25 hf'
  obtain ⟨y0, y1, rfl⟩ := len2 (show ys.length = 2 from hyl)
  have g0 : DataW.trod enc Tryz.prog W 0 (fun _ => true) true n 22 (([v0, v1].drop 0).take (Tryz.prog.cellsOf 22)) = some y0 := hfs 0 _ rfl
  have g1 : DataW.trod enc Tryz.prog W 0 (fun _ => true) true n 23 (([v0, v1].drop 1).take (Tryz.prog.cellsOf 23)) = some y1 := hfs 1 _ rfl
  rw [cellsInts] at g0
  rw [cellsBlocks] at g1
  simp only [List.drop_succ_cons, List.drop_zero, List.take_succ_cons, List.take_zero] at g0 g1
  simp only [Prod.mk.injEq] at hy
  obtain ⟨pa, pn, pc, zs, rfl, hI, _⟩ := intsC_in g0 (fun q hq => hb q (by rw [hy.1]; simp [DataW.weights, DataW.weightsEach, Tryz.underlying25, hq]))
  obtain ⟨ba, bn, bc, bs, rfl, hB, _⟩ := blks_in g1 (fun q hq => hb q (by rw [hy.1]; simp [DataW.weights, DataW.weightsEach, Tryz.underlying25, hq]))
  exact ⟨pa, pn, pc, ba, bn, bc, bs, rfl, ⟨zs, hI⟩, hB⟩
end
end

section
open Go.ChangeShapes Go.WideShapes Go.ChangeAt Go.RowKit
theorem cellsTile : Tryz.prog.cellsOf 76 = 3 := by kernel_rfl
theorem cellsTileKind : Tryz.prog.cellsOf 74 = 1 := by kernel_rfl
theorem bytesTile : Tryz.prog.bytesOf 76 = 40 := by kernel_rfl
section
variable {H : Type} {enc : TypeId × Value → H} {W : World}
theorem tileE_in {fuel : Nat} {l : List Value} {y : DataW H × List MemPlace} (hf' : DataW.trod enc Tryz.prog W 0 (fun _ => true) true fuel 76 l = some y) (hb : ∀ n ∈ y.1.weights Tryz.prog 76, n ≤ reachBytes) :
    ∃ t : TileR, l = tileC t ∧ Ints W t.ba t.bn t.d.blocks ∧ t.bn ≤ t.bc ∧ I64 t.d.kind ∧ I64 t.d.parent := by
  obtain ⟨ys, n, -, hy, hlen, hyl, hfs⟩ := DataW.trod_struct Tryz.underlying76 hf'
  rw [cellsTile] at hlen
  obtain ⟨v0, v1, v2, rfl⟩ := len3 hlen
  obtain ⟨y0, y1, y2, rfl⟩ := len3 (show ys.length = 3 from hyl)
  have g0 : DataW.trod enc Tryz.prog W 0 (fun _ => true) true n 74 (([v0, v1, v2].drop 0).take (Tryz.prog.cellsOf 74)) = some y0 := hfs 0 _ rfl
  have g1 : DataW.trod enc Tryz.prog W 0 (fun _ => true) true n 3 (([v0, v1, v2].drop 1).take (Tryz.prog.cellsOf 3)) = some y1 := hfs 1 _ rfl
  have g2 : DataW.trod enc Tryz.prog W 0 (fun _ => true) true n 22 (([v0, v1, v2].drop 2).take (Tryz.prog.cellsOf 22)) = some y2 := hfs 2 _ rfl
  rw [cellsTileKind] at g0
  rw [cellsInt] at g1
  rw [cellsInts] at g2
  simp only [List.drop_succ_cons, List.drop_zero, List.take_succ_cons, List.take_zero] at g0 g1 g2
  obtain ⟨n0, rfl, i0⟩ := int_in Tryz.underlying74 g0 rfl
  obtain ⟨n1, rfl, i1⟩ := int_in Tryz.underlying3 g1 rfl
  obtain ⟨a, len, cap, zs, rfl, hI, hc⟩ := intsC_in (y := y2) g2 (fun q hq => hb q (by rw [hy]; simp [DataW.weights, DataW.weightsEach, Tryz.underlying76, hq]))
  exact ⟨⟨⟨n0, n1, zs⟩, a, len, cap⟩, rfl, hI, hc, i0, i1⟩
theorem tiles_in {fuel : Nat} {v : Value} {y : DataW H × List MemPlace} (hf : DataW.trod enc Tryz.prog W 0 (fun _ => true) true fuel 26 [v] = some y) (hb : ∀ n ∈ y.1.weights Tryz.prog 26, n ≤ reachBytes) :
    ∃ a len cap ls, v = .slice a len cap ∧ TilesOK W a len ls ∧ len ≤ cap := by
  rcases Go.Deep.open_slice Tryz.underlying26 hf with ⟨hcs, _⟩ | ⟨x, l, c, m, n, D, Pl, hcs, _, hl, hm, hmm, hx, hall⟩
  · simp at hcs
    exact ⟨none, 0, 0, [], hcs, ⟨Recs.nil _ _ _, fun r hr => by cases hr⟩, by omega⟩
  · simp at hcs
    have hmm' : m = c := by simpa using hmm
    subst hmm'
    rw [cellsTile] at hall
    have hbd := hb ((l + (m - l)) * 40) (by rw [hx]; simp [DataW.weights, Tryz.underlying26, bytesTile])
    have hel : ∀ i, i < l → ∃ t : TileR, (Ints W t.ba t.bn t.d.blocks ∧ t.bn ≤ t.bc ∧ I64 t.d.kind ∧ I64 t.d.parent) ∧ ∀ j, j < 3 → W.cell? ((x.add (i * 3)).add j) = (tileC t)[j]? := fun i hi => by
      obtain ⟨cs', hc', ht'⟩ := hall i (by omega)
      obtain ⟨_, _, hat⟩ := World.cells?_some hc'
      obtain ⟨b, rfl, hok⟩ := tileE_in ht' (fun q hq => hb q (by
        rw [hx]
        simp only [DataW.weights, Tryz.underlying26, List.mem_cons, List.mem_append]
        exact Or.inr (Or.inl (weights_all (List.mem_map.2 ⟨i, List.mem_range.2 hi, rfl⟩) q hq))))
      exact ⟨b, hok, hat⟩
    obtain ⟨ls, hrl, hrs⟩ := list_of l _ hel
    have hsp : 0 < l → x.spot = none := fun h0 => by
      obtain ⟨r, _, hat⟩ := hel 0 h0
      have h1 := hat 0 (by omega)
      have h2 : (tileC r)[0]? = some (.int .i64 r.d.kind) := rfl
      rw [h2] at h1
      have := World.cell?_spot h1
      simpa [Addr.add] using this
    refine ⟨some x, l, m, ls, hcs, ⟨⟨hrl, ?_, fun k r hr => ?_⟩, fun r hr => ?_⟩, hl⟩
    · simp only [reachBytes] at hbd
      omega
    · have hk : k < l := by rw [← hrl]; exact (List.getElem?_eq_some_iff.1 hr).1
      have hs := hsp (by omega)
      obtain ⟨b, o, sp⟩ := x
      simp only at hs
      subst hs
      refine ⟨b, o, rfl, fun j hj => ?_⟩
      have := (hrs k r hr).2 j hj
      rwa [addr_add, addr_add] at this
    · obtain ⟨k, hk, e⟩ := List.mem_iff_getElem.1 hr
      exact (hrs k r (by rw [List.getElem?_eq_getElem hk, e])).1
end
end
end Go.Proofs.YtblhmdhfhaencaaGreat
