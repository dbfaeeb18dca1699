/-
  Flat: what a fact asks for ahead of an instruction that is done.
-/
import Derived.Test.YtfpbfdkjcmlimaaGreatFP
namespace Go.Proofs.YtfpbfdkjcmlimaaGreat
set_option linter.unusedSimpArgs false
set_option linter.unusedVariables false
set_option linter.unusedSectionVars false
set_option maxRecDepth 100000
set_option maxHeartbeats 40000000
section
open Go.RowKit
def ownB (s : InsD) (x : Int × Bool × Int) : Bool := decide (0 < definesV s) && (x.1 == definesV s)
def firstIs (l : List (Bool × Int)) (p : Bool × Int) : Bool := match l with | [] => false | y :: _ => sameLoc y p
def lostAt (m : MachD) (p : Bool × Int) : Bool := !p.1 && decide (0 ≤ idx (lostL m) p.2)
def askV (m : MachD) (s t : InsD) (lost : Bool) (x : Int × Bool × Int) : Int :=
  if ownB s x && firstIs (writesL m t) x.2 then 1 else if ownB s x || hasLoc (writesL m t) x.2 then 2 else if lost && lostAt m x.2 then 2 else 3
abbrev doneC (s t : InsR) (lost : Bool) : Array Value := #[.int .i64 s.d.op, .int .i64 s.d.dst, .int .i64 s.d.a, .int .i64 s.d.b, .int .i64 s.d.imm, .int .i64 s.d.callee, .slice s.aa s.na s.ca, .int .i64 s.d.many, .int .i64 t.d.op, .int .i64 t.d.dst, .int .i64 t.d.a, .int .i64 t.d.b, .int .i64 t.d.imm, .int .i64 t.d.callee, .slice t.aa t.na t.ca, .int .i64 t.d.many, .bool lost]
theorem ask_any (m : MachD) (a1 a2 : Option Addr) (n1 c1 n2 c2 : Nat) (s t : InsR) (lost : Bool) (x : Int × Bool × Int) (w : World) (hm : MachOK w m a1 n1 c1 a2 n2 c2) (hs : InsOK w s) (ht : InsOK w t) (hx : I64 x.1 ∧ I64 x.2.2) :
    Calls Tryz.prog 65 #[.agg (doneC s t lost), machV m a1 n1 c1 a2 n2 c2, factV x] w fun e w' => e = .returned (.int .i64 (askV m s.d t.d lost x)) ∧ Below w.heap.size w w' := by
  have HM := Lib.hid hm
  have HS := Lib.hid hs
  have HT := Lib.hid ht
  clear hm hs ht
  go_enter Tryz.func65, Tryz.ntmps65
  go_wp2
  obtain ⟨W0, HW0, hD, hM, hF, hW0⟩ : ∃ W0, Hid (Below w.heap.size w W0) ∧ W0.heap[w.heap.size]? = some (.cells (doneC s t lost) 93 (0, 0)) ∧ W0.heap[w.heap.size + 1]? = some (machO m a1 n1 c1 a2 n2 c2) ∧ W0.heap[w.heap.size + 1 + 1]? = some (.cells #[.int .i64 x.1, .bool x.2.1, .int .i64 x.2.2] 36 (0, 0)) ∧ ((w.alloc (.cells (doneC s t lost) 93)).alloc (machO m a1 n1 c1 a2 n2 c2)).alloc (.cells #[.int .i64 x.1, .bool x.2.1, .int .i64 x.2.2] 36) = W0 :=
    ⟨_, ext_trans (ext_trans (ext_alloc _ _) (ext_alloc _ _)) (ext_alloc _ _), (box3 w _ _ _).1, (box3 w _ _ _).2.1, (box3 w _ _ _).2.2, rfl⟩
  rw [hW0]
  clear hW0
  generalize w.heap.size = pD at hD hM hF ⊢
  generalize pD + 1 = pM at *
  generalize pM + 1 = pF at *
  have d0 : ∀ w', Below W0.heap.size W0 w' → w'.cell? ⟨pD, 0, none⟩ = some (.int .i64 s.d.op) := fun w' hb => by rw [cell_of_row _ _ _ _ _ _ (block_ext hb hD)]; rfl
  have d1 : ∀ w', Below W0.heap.size W0 w' → w'.cell? ⟨pD, 1, none⟩ = some (.int .i64 s.d.dst) := fun w' hb => by rw [cell_of_row _ _ _ _ _ _ (block_ext hb hD)]; rfl
  have d2 : ∀ w', Below W0.heap.size W0 w' → w'.cell? ⟨pD, 2, none⟩ = some (.int .i64 s.d.a) := fun w' hb => by rw [cell_of_row _ _ _ _ _ _ (block_ext hb hD)]; rfl
  have d3 : ∀ w', Below W0.heap.size W0 w' → w'.cell? ⟨pD, 3, none⟩ = some (.int .i64 s.d.b) := fun w' hb => by rw [cell_of_row _ _ _ _ _ _ (block_ext hb hD)]; rfl
  have d4 : ∀ w', Below W0.heap.size W0 w' → w'.cell? ⟨pD, 4, none⟩ = some (.int .i64 s.d.imm) := fun w' hb => by rw [cell_of_row _ _ _ _ _ _ (block_ext hb hD)]; rfl
  have d5 : ∀ w', Below W0.heap.size W0 w' → w'.cell? ⟨pD, 5, none⟩ = some (.int .i64 s.d.callee) := fun w' hb => by rw [cell_of_row _ _ _ _ _ _ (block_ext hb hD)]; rfl
  have d6 : ∀ w', Below W0.heap.size W0 w' → w'.cell? ⟨pD, 6, none⟩ = some (.slice s.aa s.na s.ca) := fun w' hb => by rw [cell_of_row _ _ _ _ _ _ (block_ext hb hD)]; rfl
  have d7 : ∀ w', Below W0.heap.size W0 w' → w'.cell? ⟨pD, 7, none⟩ = some (.int .i64 s.d.many) := fun w' hb => by rw [cell_of_row _ _ _ _ _ _ (block_ext hb hD)]; rfl
  have d8 : ∀ w', Below W0.heap.size W0 w' → w'.cell? ⟨pD, 8, none⟩ = some (.int .i64 t.d.op) := fun w' hb => by rw [cell_of_row _ _ _ _ _ _ (block_ext hb hD)]; rfl
  have d9 : ∀ w', Below W0.heap.size W0 w' → w'.cell? ⟨pD, 9, none⟩ = some (.int .i64 t.d.dst) := fun w' hb => by rw [cell_of_row _ _ _ _ _ _ (block_ext hb hD)]; rfl
  have d10 : ∀ w', Below W0.heap.size W0 w' → w'.cell? ⟨pD, 10, none⟩ = some (.int .i64 t.d.a) := fun w' hb => by rw [cell_of_row _ _ _ _ _ _ (block_ext hb hD)]; rfl
  have d11 : ∀ w', Below W0.heap.size W0 w' → w'.cell? ⟨pD, 11, none⟩ = some (.int .i64 t.d.b) := fun w' hb => by rw [cell_of_row _ _ _ _ _ _ (block_ext hb hD)]; rfl
  have d12 : ∀ w', Below W0.heap.size W0 w' → w'.cell? ⟨pD, 12, none⟩ = some (.int .i64 t.d.imm) := fun w' hb => by rw [cell_of_row _ _ _ _ _ _ (block_ext hb hD)]; rfl
  have d13 : ∀ w', Below W0.heap.size W0 w' → w'.cell? ⟨pD, 13, none⟩ = some (.int .i64 t.d.callee) := fun w' hb => by rw [cell_of_row _ _ _ _ _ _ (block_ext hb hD)]; rfl
  have d14 : ∀ w', Below W0.heap.size W0 w' → w'.cell? ⟨pD, 14, none⟩ = some (.slice t.aa t.na t.ca) := fun w' hb => by rw [cell_of_row _ _ _ _ _ _ (block_ext hb hD)]; rfl
  have d15 : ∀ w', Below W0.heap.size W0 w' → w'.cell? ⟨pD, 15, none⟩ = some (.int .i64 t.d.many) := fun w' hb => by rw [cell_of_row _ _ _ _ _ _ (block_ext hb hD)]; rfl
  have d16 : ∀ w', Below W0.heap.size W0 w' → w'.cell? ⟨pD, 16, none⟩ = some (.bool lost) := fun w' hb => by rw [cell_of_row _ _ _ _ _ _ (block_ext hb hD)]; rfl
  have m0 : ∀ w', Below W0.heap.size W0 w' → w'.cell? ⟨pM, 0, none⟩ = some (.int .i64 m.regs) := fun w' hb => by rw [cell_of_row _ _ _ _ _ _ (block_ext hb hM)]; rfl
  have m1 : ∀ w', Below W0.heap.size W0 w' → w'.cell? ⟨pM, 1, none⟩ = some (.slice a1 n1 c1) := fun w' hb => by rw [cell_of_row _ _ _ _ _ _ (block_ext hb hM)]; rfl
  have m2 : ∀ w', Below W0.heap.size W0 w' → w'.cell? ⟨pM, 2, none⟩ = some (.int .i64 m.ret) := fun w' hb => by rw [cell_of_row _ _ _ _ _ _ (block_ext hb hM)]; rfl
  have m3 : ∀ w', Below W0.heap.size W0 w' → w'.cell? ⟨pM, 3, none⟩ = some (.slice a2 n2 c2) := fun w' hb => by rw [cell_of_row _ _ _ _ _ _ (block_ext hb hM)]; rfl
  have f0 : ∀ w', Below W0.heap.size W0 w' → w'.cell? ⟨pF, 0, none⟩ = some (.int .i64 x.1) := fun w' hb => by rw [cell_of_row _ _ _ _ _ _ (block_ext hb hF)]; rfl
  have f1 : ∀ w', Below W0.heap.size W0 w' → w'.cell? ⟨pF, 1, none⟩ = some (.bool x.2.1) := fun w' hb => by rw [cell_of_row _ _ _ _ _ _ (block_ext hb hF)]; rfl
  have f2 : ∀ w', Below W0.heap.size W0 w' → w'.cell? ⟨pF, 2, none⟩ = some (.int .i64 x.2.2) := fun w' hb => by rw [cell_of_row _ _ _ _ _ _ (block_ext hb hF)]; rfl
  clear hD hM hF
  go_cut [7, 8] (fun s7 s8 wx => s7 = .int .i64 (definesV s.d) ∧ (∃ a c, s8 = .slice a (writesL m t.d).length c ∧ Hid (Locs wx a (writesL m t.d).length (writesL m t.d))) ∧ Below W0.heap.size W0 wx)
  case first =>
    go_region_held3 (fun w' => Below W0.heap.size W0 w')
      (first
        | exact ext_drewN (Below.refl _ _) 1
        | exact ext_trans (by assumption) hb1
        | exact ext_trans (by assumption) hb2
        | assumption)
      (first
        | (go_at_call 56
           refine (defines_any s.d s.aa s.na s.ca _ (((HS.out.ext HW0.out).ext (by assumption)).1) HS.out.2.2.2.2.1 HS.out.2.2.2.2.2.1 HS.out.2.2.2.2.2.2.1 HS.out.2.2.2.2.2.2.2.1).mono ?_
           rintro e w1 ⟨rfl, hb1⟩)
        | (go_at_call 41
           refine (writes_any m t.d a1 a2 t.aa n1 c1 n2 c2 t.na t.ca _ HM.out.2.2.2.2.2.2.2 HT.out.2.2.2.1).mono ?_
           rintro e w2 ⟨la, lc, rfl, hl2, hb2⟩))
    go_wp2_with fail
    go_meet
    exact ⟨rfl, ⟨la, lc, rfl, hl2⟩, by assumption⟩
  case rest =>
    obtain ⟨rfl, ⟨la, lc, rfl, HL⟩, E⟩ := hcut
    have HAsk : Hid (askV m s.d t.d lost x = if ownB s.d x && firstIs (writesL m t.d) x.2 then 1 else if ownB s.d x || hasLoc (writesL m t.d) x.2 then 2 else if lost && lostAt m x.2 then 2 else 3) := rfl
    have hown : ownB s.d x = (decide (0 < definesV s.d) && (x.1 == definesV s.d)) := rfl
    generalize writesL m t.d = ws at *
    generalize definesV s.d = dv at *
    generalize ownB s.d x = own at *
    have hwlen : ws.length ≤ 17592186044416 := HL.out.2.1
    have HLL := Lib.hid HL.out.1
    have hq0 : ∀ w b y b' y', (binOp .eql 34 (.agg #[.bool b, .int .i64 y]) (.agg #[.bool b', .int .i64 y'])).run Tryz.prog w = .ok (.bool (sameLoc (b, y) (b', y'))) w := fun w b y b' y' => eql_loc w b b' y y'
    have HOwn := Lib.hid hown
    clear hown
    go_upto_region 2 with fail
    go_cut [9] (fun s9 wx => s9 = .bool own ∧ wx = wc)
    case first =>
      by_cases g1 : 0 < dv
      · go_wp2
        go_meet
        exact ⟨by rw [HOwn.out, show decide (0 < dv) = true by simpa using g1, Bool.true_and], rfl⟩
      · go_wp2
        go_meet
        exact ⟨by rw [HOwn.out, show decide (0 < dv) = false by simpa using g1, Bool.false_and], rfl⟩
    case rest =>
      obtain ⟨rfl, rfl⟩ := hcut
      clear HOwn
      obtain ⟨wd, rfl⟩ : ∃ wd, wd = wc := ⟨_, rfl⟩
      go_upto_region 3 with fail
      go_cut [25] (fun s25 wx => s25 = .bool (own && firstIs ws x.2) ∧ Hid (Below wd.heap.size wd wx))
      case first =>
        have k1 := f1 wd E
        have k2 := f2 wd E
        clear d0 d1 d2 d3 d4 d5 d6 d7 d8 d9 d10 d11 d12 d13 d14 d15 d16 m0 m1 m2 m3 f0 f1 f2
        cases own with
        | false =>
          go_quiet (fail)
          go_wp2_with fail
          go_meet
          exact ⟨rfl, ext_drewN (Below.refl _ _) _⟩
        | true =>
          cases ws with
          | nil =>
            have h00 : decide ((0 : Int) < ((([] : List (Bool × Int)).length : Nat) : Int)) = false := rfl
            go_quiet (fail)
            go_wp2_with fail
            go_meet
            exact ⟨rfl, ext_drewN (Below.refl _ _) _⟩
          | cons l0 ws =>
            obtain ⟨r, b, o, hr, rfl, c0, c1⟩ := locs_cells HL.out (k := 0) (by simp)
            obtain rfl : l0 = r := by simpa using hr
            simp only [Nat.zero_mul, Nat.add_zero] at c0 c1
            have hl0 : (0 : Int) < (((l0 :: ws).length : Nat) : Int) := by simp
            have hd0 : decide ((0 : Int) < (((l0 :: ws).length : Nat) : Int)) = true := by simp
            have hl1 : 0 < (l0 :: ws).length := by simp
            have HFI : Hid (firstIs (l0 :: ws) x.2 = sameLoc (l0.1, l0.2) (x.2.1, x.2.2)) := rfl
            generalize (l0 :: ws).length = L at *
            go_quiet (fail)
            go_wp2_with fail
            go_meet
            exact ⟨by rw [HFI.out]; rfl, ext_drewN (Below.refl _ _) _⟩
      case rest =>
        obtain ⟨rfl, HX⟩ := hcut
        have E2 : Below W0.heap.size W0 wc := ext_trans E HX.out
        have HL2 := Lib.hid (HL.out.ext locC_len HX.out)
        generalize (own && firstIs ws x.2) = q1 at *
        cases q1 with
        | true =>
          go_wp2
          go_ret
          exact ⟨ret_int (by rw [HAsk.out]; rfl), ext_trans HW0.out E2⟩
        | false =>
          cases own with
          | true =>
            go_wp2
            go_ret
            exact ⟨ret_int (by rw [HAsk.out]; rfl), ext_trans HW0.out E2⟩
          | false =>
            go_wp2_with (go_at_call 77; refine (containsLoc_any la _ lc ws x.2 _ HL2.out).mono ?_; rintro e w3 ⟨rfl, hb3⟩; have E3 : Below W0.heap.size W0 w3 := ext_trans E2 hb3; clear hb3)
            · go_ret
              exact ⟨ret_int (by rw [HAsk.out]; go_light; simp_all), ext_trans HW0.out E3⟩
            · go_upto_region 8 with fail
              have HHas : Hid (hasLoc ws x.2 = false) := by rw [Hid]; go_light; simp_all
              go_cut [40, 46] (fun _ s46 wx => s46 = .bool (lost && lostAt m x.2) ∧ Hid (Below W0.heap.size W0 wx))
              case first =>
                have k0 := d16 w3 E3
                have k1 := f1 w3 E3
                cases lost with
                | false =>
                  clear d0 d1 d2 d3 d4 d5 d6 d7 d8 d9 d10 d11 d12 d13 d14 d15 d16 m0 m1 m2 m3 f0 f1 f2
                  go_quiet (fail)
                  go_wp2_with fail
                  go_meet
                  exact ⟨rfl, ext_drewN E3 _⟩
                | true =>
                  obtain ⟨xv, xs, xn⟩ := x
                  cases xs with
                  | true =>
                    clear d0 d1 d2 d3 d4 d5 d6 d7 d8 d9 d10 d11 d12 d13 d14 d15 d16 m0 m1 m2 m3 f0 f1 f2
                    go_quiet (fail)
                    go_wp2_with fail
                    go_meet
                    exact ⟨rfl, ext_drewN E3 _⟩
                  | false =>
                    clear k0 k1
                    go_region_held3 (fun w' => Below W0.heap.size W0 w')
                      (first
                        | exact ext_drewN E3 1
                        | exact ext_trans (by assumption) hb4
                        | assumption)
                      (first
                        | (go_at_call 55
                           refine (lost_any m a1 a2 n1 c1 n2 c2 _ ((HM.out.ext HW0.out).ext (by assumption))).mono ?_
                           rintro e w4 ⟨ga, gc, rfl, _, hg4, hb4⟩)
                        | (go_at_call 78
                           refine (scontains_any ga _ gc (lostL m) xn _ hg4).mono ?_
                           rintro e w5 ⟨rfl, rfl⟩))
                    go_wp2_with fail
                    go_meet
                    exact ⟨rfl, by assumption⟩
              case rest =>
                obtain ⟨rfl, HX3⟩ := hcut
                generalize hq3 : (lost && lostAt m x.2) = q3 at *
                cases q3 with
                | true =>
                  go_wp2
                  go_ret
                  exact ⟨ret_int (by rw [HAsk.out, HHas.out]; rfl), ext_trans HW0.out HX3.out⟩
                | false =>
                  go_wp2
                  go_ret
                  exact ⟨ret_int (by rw [HAsk.out, HHas.out]; rfl), ext_trans HW0.out HX3.out⟩
end
end Go.Proofs.YtfpbfdkjcmlimaaGreat
