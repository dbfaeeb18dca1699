/-
  (walker).end.
-/
import Derived.Test.YtfpbfdkjcmlimaaGreatKJ
namespace Go.Proofs.YtfpbfdkjcmlimaaGreat
set_option linter.unusedSimpArgs false
set_option linter.unusedVariables false
set_option linter.unusedSectionVars false
set_option maxRecDepth 100000
set_option maxHeartbeats 40000000
section
open Go.RowKit
structure TrmD where
  kind : Int
  a : Int
  to0 : Int
  to1 : Int
abbrev trmV (t : TrmD) : Value := .agg #[.int .i64 t.kind, .int .i64 t.a, .int .i64 t.to0, .int .i64 t.to1]
abbrev trmO (t : TrmD) : Obj := .cells #[.int .i64 t.kind, .int .i64 t.a, .int .i64 t.to0, .int .i64 t.to1] 29
def needsK (K : Fct → Bool) (l : List Fct) (fe e : Int) : Int := l.foldl (fun fe x => needV K x fe e) fe
theorem needsK_snoc (K : Fct → Bool) (l : List Fct) (x : Fct) (fe e : Int) : needsK K (l ++ [x]) fe e = needV K x (needsK K l fe e) e := by simp [needsK, List.foldl_append]
def endFe (m : MachD) (K : Fct → Bool) (s t : TrmD) (fe : Int) : Int :=
  if s.kind = 2 then needV K (s.a, false, t.a) fe 14 else if s.kind = 3 then needsK K (keepsL m) (if s.a = 0 then fe else needV K (s.a, false, t.a) fe 14) 15 else fe
theorem endW_any (m : MachD) (a1 a2 : Option Addr) (n1 c1 n2 c2 : Nat) (U : Univ) (g b : Nat) (K : Fct → Bool) (fe : Int) (s t : TrmD) (w : World) (hm : MachOK w m a1 n1 c1 a2 n2 c2) (hw : WS m a1 n1 c1 a2 n2 c2 U g b K fe w) (hmg : ∀ W, Chg (WT g b) w W → MachOK W m a1 n1 c1 a2 n2 c2) :
    Calls Tryz.prog 35 #[.pointer (some ⟨g, 0, none⟩), trmV s, trmV t] w fun e w' => e = .returned (.tuple #[]) ∧ WS m a1 n1 c1 a2 n2 c2 U g b K (endFe m K s t fe) w' ∧ Chg (WT g b) w w' := by
  obtain ⟨k, a, to0, to1⟩ := s
  obtain ⟨tk, ta, tt0, tt1⟩ := t
  have HMG := Lib.hid hmg
  have hlt := hw.lt
  obtain ⟨fe2, hfe2⟩ : ∃ x, x = endFe m K ⟨k, a, to0, to1⟩ ⟨tk, ta, tt0, tt1⟩ fe := ⟨_, rfl⟩
  rw [← hfe2]
  have HFE := Lib.hid hfe2
  clear hfe2 hm hmg
  unfold endFe at HFE
  simp only at HFE
  go_enter Tryz.func35, Tryz.ntmps35
  go_upto_region 1 with (fail)
  obtain ⟨W, hW⟩ : ∃ W, W = (w.alloc (trmO ⟨k, a, to0, to1⟩)).alloc (trmO ⟨tk, ta, tt0, tt1⟩) := ⟨_, rfl⟩
  have hr1 : W.heap[w.heap.size]? = some (trmO ⟨k, a, to0, to1⟩) := by rw [hW]; exact block_ext (ext_alloc _ _) (heap_alloc_new _ _)
  have hr2 : W.heap[w.heap.size + 1]? = some (trmO ⟨tk, ta, tt0, tt1⟩) := by
    rw [hW]
    have := heap_alloc_new (w.alloc (trmO ⟨k, a, to0, to1⟩)) (trmO ⟨tk, ta, tt0, tt1⟩)
    simpa using this
  have hB : Below w.heap.size w W := by rw [hW]; exact ext_trans (ext_alloc _ _) (ext_alloc _ _)
  rw [show (w.alloc (Obj.cells #[.int .i64 k, .int .i64 a, .int .i64 to0, .int .i64 to1] 29)).alloc (Obj.cells #[.int .i64 tk, .int .i64 ta, .int .i64 tt0, .int .i64 tt1] 29) = W from hW.symm]
  have HW := Lib.hid (hw.ext hB)
  have HB := Lib.hid hB
  have x0 : W.cell? ⟨w.heap.size, 0, none⟩ = some (.int .i64 k) := by rw [cell_of_row _ _ _ _ _ _ hr1]; rfl
  have x1 : W.cell? ⟨w.heap.size, 1, none⟩ = some (.int .i64 a) := by rw [cell_of_row _ _ _ _ _ _ hr1]; rfl
  have y1 : W.cell? ⟨w.heap.size + 1, 1, none⟩ = some (.int .i64 ta) := by rw [cell_of_row _ _ _ _ _ _ hr2]; rfl
  have h0l := (Array.getElem?_eq_some_iff.1 hr1).1
  have h1l := (Array.getElem?_eq_some_iff.1 hr2).1
  have HL1 := Lib.hid hr1
  have HL2 := Lib.hid hr2
  clear hW hr1 hr2 hB hw
  have HC0 : Hid (Chg (WT g b) w W) := (Chg.refl _ _).of_ext HB.out
  by_cases h2 : k = 2
  · subst h2
    have HE : Hid (fe2 = needV K (a, false, ta) fe 14) := by rw [Hid, HFE.out]; rfl
    clear HFE
    go_wp2_with (
      (go_at_call 54
       refine (need_any m a1 a2 n1 c1 n2 c2 U g b K fe 14 a (false, ta) W HW.out).mono ?_
       rintro e w2 ⟨rfl, hs2, hc2⟩
       have HS2 := Lib.hid hs2
       have HC2 := Lib.hid (HC0.out.trans hc2)
       clear hs2 hc2))
    go_end0
    exact ⟨rfl, by rw [HE.out]; exact HS2.out, HC2.out⟩
  · have hk2 : (k == 2) = false := by simpa using h2
    by_cases h3 : k = 3
    · subst h3
      clear hk2 h2
      obtain ⟨fe1, hfe1⟩ : ∃ x, x = (if a = 0 then fe else needV K (a, false, ta) fe 14) := ⟨_, rfl⟩
      have HE : Hid (fe2 = needsK K (keepsL m) fe1 15) := by rw [Hid, HFE.out, hfe1]; rfl
      have HFE1 := Lib.hid hfe1
      clear HFE hfe1
      go_upto_if 23 with (fail)
      go_cut [] (fun wx => Hid (WS m a1 n1 c1 a2 n2 c2 U g b K fe1 wx) ∧ Hid (Chg (WT g b) w wx))
      case first =>
        by_cases ha : a = 0
        · have HE1 : Hid (fe1 = fe) := by rw [Hid, HFE1.out, if_pos ha]
          have hb : (a != 0) = false := by simpa using ha
          clear ha
          go_wp2
          go_meet
          exact ⟨by rw [Hid, HE1.out]; exact HW.out, HC0⟩
        · have HE1 : Hid (fe1 = needV K (a, false, ta) fe 14) := by rw [Hid, HFE1.out, if_neg ha]
          have hb : (a != 0) = true := by simpa using ha
          clear ha
          go_wp2_with (
            (go_at_call 54
             refine (need_any m a1 a2 n1 c1 n2 c2 U g b K fe 14 a (false, ta) W HW.out).mono ?_
             rintro e w2 ⟨rfl, hs2, hc2⟩
             have HS2 := Lib.hid hs2
             have HC2 := Lib.hid (HC0.out.trans hc2)
             clear hs2 hc2))
          go_meet
          exact ⟨by rw [Hid, HE1.out]; exact HS2.out, HC2⟩
      case rest =>
        obtain ⟨HW1, HC1⟩ := hcut
        obtain ⟨w1, rfl⟩ : ∃ w1, w1 = wc := ⟨_, rfl⟩
        clear x0 x1 y1 HW HC0 HFE1 HL1 HL2 h0l h1l
        obtain ⟨_, k1, k2, k3, k4, _⟩ := HW1.out.cells
        have HMM := Lib.hid (HMG.out _ HC1.out)
        go_wp2_with (
          (go_at_call 57
           refine (keeps_any m a1 a2 n1 c1 n2 c2 w1 HMM.out).mono ?_
           rintro e w2 ⟨v2, rfl, ho2, hb2⟩
           obtain ⟨av, cv, rfl⟩ := ho2.form
           have HO2 := Lib.hid ho2
           have HW2 := Lib.hid (HW1.out.ext hb2)
           have HC2 := Lib.hid (HC1.out.of_ext hb2)
           have HSB := Lib.hid hb2.size
           clear ho2 hb2 k1 k2 k3 k4))
        have HLS : Hid ((keepsL m).length ≤ 17592186044416) := HO2.out.2
        have hls := HLS.out
        generalize hkl : keepsL m = ls at *
        clear hkl
        have HNW : Hid (∀ q o, av = some ⟨q, o, none⟩ → ¬ WT g b q) := fun q o e h => by
          have h1 := (HO2.out.low (k := q) (by rw [e]; rfl)).1
          have h2 := HW1.out.lt
          rcases h with h | h <;> omega
        go_loopw [7, 37] (fun _ i wr => ∃ j, j ≤ ls.length ∧ i = .int .i64 (j : Nat) ∧ Hid (WS m a1 n1 c1 a2 n2 c2 U g b K (needsK K (ls.take j) fe1 15) wr) ∧ Hid (Chg (WT g b) w2 wr)) (fun _ i _ => ls.length - (intOf i).toNat)
        case atStart => exact ⟨0, by omega, rfl, by rw [Hid, List.take_zero]; exact HW2.out, Chg.refl _ _⟩
        case round =>
          obtain ⟨j, hj, rfl, HKr, HCr⟩ := hrel
          by_cases hjl : j < ls.length
          · obtain ⟨x, q, o, hx, rfl, d0, d1, d2⟩ := fcts_cells (recs_chg (HO2.out.recs csF_len) HCr.out HNW.out) hjl
            have HX := Lib.hid hx
            have hk1 : (j : Int) < (ls.length : Int) := by omega
            clear hx
            obtain ⟨xv, xs, xn⟩ := x
            go_wp2_with (
              (go_at_call 54
               refine (need_any m a1 a2 n1 c1 n2 c2 U g b K (needsK K (ls.take j) fe1 15) 15 xv (xs, xn) _ (HKr.out.ext (ext_alloc _ _))).mono ?_
               rintro e w3 ⟨rfl, hs3, hc3⟩
               have HS3 : Hid (WS m a1 n1 c1 a2 n2 c2 U g b K (needsK K (ls.take (j + 1)) fe1 15) w3) := (by
                 have e : ls.take (j + 1) = ls.take j ++ [(xv, xs, xn)] := (by rw [List.take_add_one, HX.out]; rfl)
                 rw [Hid, e, needsK_snoc]
                 exact hs3)
               have HC3 := Lib.hid ((HCr.out.of_ext (ext_alloc _ _)).trans hc3)
               clear hs3 hc3))
            go_roundw
            case rel => exact ⟨j + 1, by omega, by go_num, HS3, HC3⟩
            case measure => simp [intOf]; omega
          · obtain rfl : j = ls.length := by omega
            go_wp2
            go_end0
            refine ⟨rfl, ?_, HC2.out.trans HCr.out⟩
            have := HKr.out
            rw [List.take_length] at this
            rw [HE.out]
            exact this
    · have hk3 : (k == 3) = false := by simpa using h3
      have HE : Hid (fe2 = fe) := by rw [Hid, HFE.out, if_neg h2, if_neg h3]
      clear HFE h2 h3
      go_wp2
      go_end0
      exact ⟨rfl, by rw [HE.out]; exact HW.out, HC0.out⟩
end
end Go.Proofs.YtfpbfdkjcmlimaaGreat
