/-
  Flat: the reference's Right and Lost (05).
-/
import Derived.Test.YtdoahpblphlabaaGC
import Derived.Test.YtdoahpblphlabaaFM
import Derived.Test.YtdoahpblphlabaaLentI
import Derived.Test.YtdoahpblphlabaaFP
import Derived.Test.YtdoahpblphlabaaFO
namespace Go.Proofs.Ytdoahpblphlabaa
set_option linter.unusedSimpArgs false
set_option linter.unusedVariables false
open Go.RowKit

def hd05 (m : MachD) : Bool := decide (1 ≤ m.regs) && decide (m.regs ≤ 64) && decide (m.args.length ≤ 8) && decide ((m.saved.length : Int) ≤ m.regs) && decide (0 ≤ m.ret) && decide (m.ret < m.regs) && !memI m.saved m.ret
def a05 (m : MachD) (k : Nat) : Bool := decide (0 ≤ m.args.getD k 0) && decide (m.args.getD k 0 < m.regs) && !memI (m.args.take k) (m.args.getD k 0)
def s05 (m : MachD) (k : Nat) : Bool := decide (0 ≤ m.saved.getD k 0) && decide (m.saved.getD k 0 < m.regs) && (decide (k = 0) || decide (m.saved.getD (k - 1) 0 < m.saved.getD k 0))
def right05B (m : MachD) : Bool := hd05 m && (List.range m.args.length).all (a05 m) && (List.range m.saved.length).all (s05 m)

set_option maxRecDepth 100000 in
set_option maxHeartbeats 4000000 in
theorem right05_no (m : MachD) (a1 a2 : Option Addr) (n1 c1 n2 c2 : Nat) (w : World) (h : MachOK w m a1 n1 c1 a2 n2 c2) (hno : hd05 m = false) :
    Calls Try.prog 50 #[machV m a1 n1 c1 a2 n2 c2] w fun e w' => e = .returned (.bool (right05B m)) ∧ Below w.heap.size w w' := by
  have HR : Hid (right05B m = false) := by rw [Hid, right05B, hno]; rfl
  have H2 := Lib.hid h.2.1
  have HL1 := Lib.hid h.1.1
  have HL2 := Lib.hid h.2.1.1
  have hn1 := h.1.2.1
  have hn2 := h.2.1.2.1
  rw [hd05, HL1.out, HL2.out] at hno
  have HN := Lib.hid hno
  clear h hno
  go_enter Try.func50, Try.ntmps50
  go_wp2_with (first
    | (go_at_call 65
       refine (has05_any _ _ _ _ _ _ (H2.out.ext (ext_alloc w _))).mono ?_
       rintro e w1 ⟨rfl, rfl⟩))
  all_goals first
    | (go_ret; exact ⟨ret_bool (by go_light; rw [HR.out]), ext_alloc w _⟩)
    | (exfalso; have hno := HN.out; simp_all; omega)

theorem range_all (n : Nat) (p : Nat → Bool) (h : ∀ j, j < n → p j = true) : (List.range n).all p = true := by
  rw [List.all_eq_true]
  intro x hx
  exact h x (List.mem_range.1 hx)
theorem range_not (n : Nat) (p : Nat → Bool) (k : Nat) (hk : k < n) (h : p k = false) : (List.range n).all p = false := by
  rw [List.all_eq_false]
  exact ⟨k, List.mem_range.2 hk, by simp [h]⟩

set_option maxRecDepth 100000 in
set_option maxHeartbeats 8000000 in
theorem right05_yes (m : MachD) (a1 a2 : Option Addr) (n1 c1 n2 c2 : Nat) (w : World) (h : MachOK w m a1 n1 c1 a2 n2 c2) (hyes : hd05 m = true) :
    Calls Try.prog 50 #[machV m a1 n1 c1 a2 n2 c2] w fun e w' => e = .returned (.bool (right05B m)) ∧ Below w.heap.size w w' := by
  have HY := Lib.hid hyes
  have H1 := Lib.hid (h.1.ext (ext_alloc w (machO m a1 n1 c1 a2 n2 c2)))
  have H2 := Lib.hid (h.2.1.ext (ext_alloc w (machO m a1 n1 c1 a2 n2 c2)))
  have HL1 := Lib.hid h.1.1
  have HL2 := Lib.hid h.2.1.1
  have hc1 := h.2.2.1
  have hn1 := h.2.2.2.2.1
  have hn2 := h.2.2.2.2.2.1
  rw [hd05, HL1.out, HL2.out] at hyes
  simp only [Bool.and_eq_true, decide_eq_true_eq, Bool.not_eq_true'] at hyes
  obtain ⟨⟨⟨⟨⟨⟨g1, g2⟩, g3⟩, g4⟩, g5⟩, g6⟩, g7⟩ := hyes
  clear h
  go_enter Try.func50, Try.ntmps50
  go_wp2_with (first
    | (go_at_call 65
       refine (has05_any _ _ _ _ _ _ H2.out).mono ?_
       rintro e w1 ⟨rfl, rfl⟩))
  go_loopw [3] (fun i wr => ∃ (k q : Nat), k ≤ n1 ∧ i = .int .i64 k ∧ wr = (w.alloc (machO m a1 n1 c1 a2 n2 c2)).drewN q ∧ Hid (∀ j, j < k → a05 m j = true)) (fun i _ => n1 - (intOf i).toNat)
  case atStart => exact ⟨0, 0, by omega, rfl, rfl, fun j hj => absurd hj (by omega)⟩
  case round =>
    obtain ⟨k, q, hk, rfl, rfl, HR⟩ := hrel
    by_cases hlt : k < n1
    · obtain ⟨b, o, rfl, hcell, _⟩ := H1.out.2.2 k hlt
      have HT : Hid (Ints (w.alloc (machO m (some ⟨b, o, none⟩) n1 c1 a2 n2 c2)) (some ⟨b, o, none⟩) k (m.args.take k)) := H1.out.takeN k hk
      have HA : Hid (a05 m k = (decide (0 ≤ m.args.getD k 0) && decide (m.args.getD k 0 < m.regs) && !memI (m.args.take k) (m.args.getD k 0))) := rfl
      have HE : Hid (a05 m k = true → ∀ j, j < k + 1 → a05 m j = true) := fun he j hj => by
        by_cases hjk : j = k
        · subst hjk; exact he
        · exact HR.out j (by omega)
      have HN : Hid (a05 m k = false → right05B m = false) := fun he => by
        rw [right05B, range_not m.args.length (a05 m) k (by rw [HL1.out]; exact hlt) he]; simp
      generalize m.args.getD k 0 = y at *
      generalize m.args.take k = ys at *
      generalize a05 m k = A at *
      have s1 : k ≤ c1 := by omega
      have s2 : (k : Int) ≤ (c1 : Int) := by omega
      have s3 : decide (c1 < k) = false := by simp; omega
      have s4 : decide ((c1 : Int) < (k : Int)) = false := by simp; omega
      by_cases p1 : y < 0
      · have p1' : ¬ 0 ≤ y := by omega
        go_wp2
        go_quiet ((go_at_call 65; first | exact quiet_left (has05_any _ _ _ _ _ _ ((HT.out.drewN _).drewN _)) | exact quiet_add_left (has05_any _ _ _ _ _ _ (HT.out.drewN _))))
        go_wp2
        go_ret
        refine ⟨ret_bool ?_, ?_⟩
        · go_light
          rw [HN.out (by rw [HA.out, show decide (0 ≤ y) = false by simp; omega]; simp)]
        · first
          | exact below_drewN (ext_alloc w _) _
          | exact below_drewN (below_drewN (ext_alloc w _) _) _
      · have p1' : 0 ≤ y := by omega
        by_cases p2 : m.regs ≤ y
        · have p2' : Hid (decide (y < m.regs) = false) := by rw [Hid]; simp; omega
          have q1 : decide (y < 0) = false := by simp; omega
          have q2 : decide (m.regs ≤ y) = true := by simpa using p2
          clear p1 p1' p2
          go_wp2
          go_quiet ((go_at_call 65; first | exact quiet_left (has05_any _ _ _ _ _ _ ((HT.out.drewN _).drewN _)) | exact quiet_add_left (has05_any _ _ _ _ _ _ (HT.out.drewN _))))
          go_wp2
          go_ret
          refine ⟨ret_bool ?_, ?_⟩
          · go_light
            rw [HN.out (by rw [HA.out, p2'.out]; simp)]
          · first
            | exact below_drewN (ext_alloc w _) _
            | exact below_drewN (below_drewN (ext_alloc w _) _) _
        · have p2' : y < m.regs := by omega
          by_cases p3 : memI ys y = true
          · skip
            go_wp2
            go_quiet ((go_at_call 65; first | exact quiet_left (has05_any _ _ _ _ _ _ ((HT.out.drewN _).drewN _)) | exact quiet_add_left (has05_any _ _ _ _ _ _ (HT.out.drewN _))))
            go_wp2
            go_ret
            refine ⟨ret_bool ?_, ?_⟩
            · go_light
              rw [HN.out (by rw [HA.out]; simp [p3])]
            · first
              | exact below_drewN (ext_alloc w _) _
              | exact below_drewN (below_drewN (ext_alloc w _) _) _
          · rw [Bool.not_eq_true] at p3
            have HAT : Hid (A = true) := by rw [Hid, HA.out, p3]; simp; omega
            go_wp2
            go_quiet ((go_at_call 65; first | exact quiet_left (has05_any _ _ _ _ _ _ ((HT.out.drewN _).drewN _)) | exact quiet_add_left (has05_any _ _ _ _ _ _ (HT.out.drewN _))))
            go_wp2
            go_roundw
            case rel => exact ⟨k + 1, _, by omega, by go_num, rfl, HE.out HAT.out⟩
            case measure => simp [intOf]; omega
    · have HA1 : Hid ((List.range m.args.length).all (a05 m) = true) := range_all _ _ fun j hj => HR.out j (by rw [HL1.out] at hj; omega)
      obtain rfl : k = n1 := by omega
      clear HR H1
      go_wp2
      go_loopw [4] (fun i wr => ∃ (k2 q2 : Nat), k2 ≤ n2 ∧ i = .int .i64 k2 ∧ wr = (w.alloc (machO m a1 k c1 a2 n2 c2)).drewN q2 ∧ Hid (∀ j, j < k2 → s05 m j = true)) (fun i _ => n2 - (intOf i).toNat)
      case atStart => exact ⟨0, _, by omega, rfl, rfl, fun j hj => absurd hj (by omega)⟩
      case round =>
        obtain ⟨k2, q2, hk2, rfl, rfl, HR⟩ := hrel
        by_cases hlt2 : k2 < n2
        · obtain ⟨b, o, rfl, hcell, _⟩ := H2.out.2.2 k2 hlt2
          have HE : Hid (s05 m k2 = true → ∀ j, j < k2 + 1 → s05 m j = true) := fun he j hj => by
            by_cases hjk : j = k2
            · subst hjk; exact he
            · exact HR.out j (by omega)
          have HN : Hid (s05 m k2 = false → right05B m = false) := fun he => by
            rw [right05B, range_not m.saved.length (s05 m) k2 (by rw [HL2.out]; exact hlt2) he]; simp
          have HA : Hid (s05 m k2 = (decide (0 ≤ m.saved.getD k2 0) && decide (m.saved.getD k2 0 < m.regs) && (decide (k2 = 0) || decide (m.saved.getD (k2 - 1) 0 < m.saved.getD k2 0)))) := rfl
          by_cases p1 : m.saved.getD k2 0 < 0
          · have r1 : Hid (decide (0 ≤ m.saved.getD k2 0) = false) := by rw [Hid]; simp only [decide_eq_false_iff_not]; omega
            have q1 : decide (m.saved.getD k2 0 < 0) = true := by simpa only [decide_eq_true_eq] using p1
            generalize m.saved.getD k2 0 = y at *
            generalize s05 m k2 = A at *
            clear p1
            go_wp2
            go_quiet (fail)
            go_wp2
            go_ret
            refine ⟨ret_bool ?_, ?_⟩
            · go_light
              rw [HN.out (by rw [HA.out, r1.out]; simp)]
            · first
              | exact below_drewN (ext_alloc w _) _
              | exact below_drewN (below_drewN (ext_alloc w _) _) _
          · have r1 : Hid (decide (0 ≤ m.saved.getD k2 0) = true) := by rw [Hid]; simp only [decide_eq_true_eq]; omega
            have q1 : decide (m.saved.getD k2 0 < 0) = false := by simp only [decide_eq_false_iff_not]; exact p1
            clear p1
            by_cases p2 : m.regs ≤ m.saved.getD k2 0
            · have r2 : Hid (decide (m.saved.getD k2 0 < m.regs) = false) := by rw [Hid]; simp only [decide_eq_false_iff_not]; omega
              have q3 : decide (m.regs ≤ m.saved.getD k2 0) = true := by simpa only [decide_eq_true_eq] using p2
              generalize m.saved.getD k2 0 = y at *
              generalize s05 m k2 = A at *
              clear p2
              go_wp2
              go_quiet (fail)
              go_wp2
              go_ret
              refine ⟨ret_bool ?_, ?_⟩
              · go_light
                rw [HN.out (by rw [HA.out, r2.out]; simp)]
              · first
                | exact below_drewN (ext_alloc w _) _
                | exact below_drewN (below_drewN (ext_alloc w _) _) _
            · have r2 : Hid (decide (m.saved.getD k2 0 < m.regs) = true) := by rw [Hid]; simp only [decide_eq_true_eq]; omega
              have q3 : decide (m.regs ≤ m.saved.getD k2 0) = false := by simp only [decide_eq_false_iff_not]; exact p2
              clear p2
              by_cases p3 : k2 = 0
              · subst p3
                have HAT : Hid (s05 m 0 = true) := by rw [Hid, HA.out, r1.out, r2.out]; rfl
                have hcell0 := hcell
                rw [Nat.add_zero] at hcell0
                generalize m.saved.getD 0 0 = y at *
                generalize s05 m 0 = A at *
                go_wp2
                go_quiet (fail)
                go_wp2
                go_roundw
                case rel => exact ⟨0 + 1, _, by omega, by go_num, rfl, HE.out HAT.out⟩
                case measure => simp [intOf]; omega
              · obtain ⟨j, rfl⟩ : ∃ j, k2 = j + 1 := ⟨k2 - 1, by omega⟩
                obtain ⟨b', o', he', hcell', _⟩ := H2.out.2.2 j (by omega)
                injection he' with he'
                injection he' with hb' ho'
                subst hb' ho'
                have d5 : IntKind.i64.wrap (((j + 1 : Nat) : Int) - 1) = (j : Int) := by rw [IntKind.wrap_i64]; omega
                have d6 : decide (0 < ((j + 1 : Nat) : Int)) = true := by simp only [decide_eq_true_eq]; omega
                rw [Nat.add_sub_cancel] at HA
                by_cases p4 : m.saved.getD (j + 1) 0 ≤ m.saved.getD j 0
                · have r4 : Hid ((decide (j + 1 = 0) || decide (m.saved.getD j 0 < m.saved.getD (j + 1) 0)) = false) := by rw [Hid]; simp only [Bool.or_eq_false_iff, decide_eq_false_iff_not]; omega
                  have q4 : decide (m.saved.getD (j + 1) 0 ≤ m.saved.getD j 0) = true := by simpa only [decide_eq_true_eq] using p4
                  generalize m.saved.getD (j + 1) 0 = y at *
                  generalize m.saved.getD j 0 = z at *
                  generalize s05 m (j + 1) = A at *
                  clear p4
                  go_wp2
                  go_quiet (fail)
                  go_wp2
                  go_ret
                  refine ⟨ret_bool ?_, ?_⟩
                  · go_light
                    rw [HN.out (by rw [HA.out, r4.out]; simp)]
                  · first
                    | exact below_drewN (ext_alloc w _) _
                    | exact below_drewN (below_drewN (ext_alloc w _) _) _
                · have r4 : Hid ((decide (j + 1 = 0) || decide (m.saved.getD j 0 < m.saved.getD (j + 1) 0)) = true) := by rw [Hid]; simp only [Bool.or_eq_true, decide_eq_true_eq]; omega
                  have q4 : decide (m.saved.getD (j + 1) 0 ≤ m.saved.getD j 0) = false := by simp only [decide_eq_false_iff_not]; exact p4
                  have HAT : Hid (s05 m (j + 1) = true) := by rw [Hid, HA.out, r1.out, r2.out, r4.out]; rfl
                  generalize m.saved.getD (j + 1) 0 = y at *
                  generalize m.saved.getD j 0 = z at *
                  generalize s05 m (j + 1) = A at *
                  clear p4
                  go_wp2
                  go_quiet (fail)
                  go_wp2
                  go_roundw
                  case rel => exact ⟨j + 1 + 1, _, by omega, by go_num, rfl, HE.out HAT.out⟩
                  case measure => simp [intOf]; omega
        · have HA2 : Hid ((List.range m.saved.length).all (s05 m) = true) := range_all _ _ fun j hj => HR.out j (by rw [HL2.out] at hj; omega)
          have HT : Hid (right05B m = true) := by rw [Hid, right05B, HY.out, HA1.out, HA2.out]; rfl
          clear HR
          go_wp2
          go_ret
          refine ⟨ret_bool ?_, below_drewN (ext_alloc w _) _⟩
          go_light
          rw [HT.out]

theorem right05_any (m : MachD) (a1 a2 : Option Addr) (n1 c1 n2 c2 : Nat) (w : World) (h : MachOK w m a1 n1 c1 a2 n2 c2) :
    Calls Try.prog 50 #[machV m a1 n1 c1 a2 n2 c2] w fun e w' => e = .returned (.bool (right05B m)) ∧ Below w.heap.size w w' := by
  by_cases hy : hd05 m = true
  · exact right05_yes m a1 a2 n1 c1 n2 c2 w h hy
  · exact right05_no m a1 a2 n1 c1 n2 c2 w h (by simpa using hy)

open Go.RowKit

def holdsB (ls : List (Bool × Int)) (x : Bool × Int) : Bool := ls.any fun y => sameLoc y x
theorem holdsB_yes (ls : List (Bool × Int)) (x r : Bool × Int) (k : Nat) (hr : ls[k]? = some r) (h : sameLoc r x = true) : holdsB ls x = true := by
  unfold holdsB
  rw [List.any_eq_true]
  exact ⟨r, List.mem_of_getElem? hr, h⟩
set_option maxHeartbeats 1000000 in
theorem holds_any (a : Option Addr) (n c : Nat) (ls : List (Bool × Int)) (x : Bool × Int) (w : World) (h : Locs w a n ls) :
    Calls Try.prog 71 #[.slice a n c, .agg #[.bool x.1, .int .i64 x.2]] w fun e w' => e = .returned (.bool (holdsB ls x)) ∧ Below w.heap.size w w' := by
  have HL := Lib.hid h.1
  have hn := h.2.1
  have H := Lib.hid h
  clear h
  have hq := fun w b y => eql_loc w b x.1 y x.2
  go_enter Try.func71, Try.ntmps71
  go_wp2
  go_loopw [5] (fun i wr => ∃ (k : Nat), k ≤ n ∧ i = .int .i64 k ∧ Hid (∀ j y, j < k → ls[j]? = some y → sameLoc y x = false) ∧ Hid (Below (w.alloc (.cells #[.bool x.1, .int .i64 x.2] 33)).heap.size (w.alloc (.cells #[.bool x.1, .int .i64 x.2] 33)) wr)) (fun i _ => n - (intOf i).toNat)
  case atStart => exact ⟨0, by omega, rfl, fun j y hj => absurd hj (by omega), Below.refl _ _⟩
  case round =>
    obtain ⟨k, hk, rfl, HR, HB⟩ := hrel
    have HBw : Hid (Below w.heap.size w wr) := ext_trans (ext_alloc _ _) HB.out
    have hx := block_ext HB.out (heap_alloc_new w _)
    have x0 : wr.cell? ⟨w.heap.size, 0, none⟩ = some (.bool x.1) := by rw [cell_of_row _ _ _ _ _ _ hx]; rfl
    have x1 : wr.cell? ⟨w.heap.size, 1, none⟩ = some (.int .i64 x.2) := by rw [cell_of_row _ _ _ _ _ _ hx]; rfl
    clear hx
    by_cases hlt : k < n
    · obtain ⟨r, b, o, hr, rfl, c0, c1⟩ := locs_cells (H.out.ext locC_len HBw.out) hlt
      have HG := Lib.hid hr
      clear hr
      have hk0 : (0 : Int) ≤ (k : Int) := by omega
      have hk1 : (k : Int) < (n : Int) := by omega
      have hq2 : ∀ w, (binOp .eql 33 (.agg #[.bool r.1, .int .i64 r.2]) (.agg #[.bool x.1, .int .i64 x.2])).run Try.prog w = .ok (.bool (sameLoc r x)) w := fun w => hq w r.1 r.2
      by_cases hy : sameLoc r x = true
      · have HE : Hid (holdsB ls x = true) := holdsB_yes ls x r k HG.out hy
        go_wp2
        go_quiet (fail)
        go_wp2
        go_ret
        exact ⟨by rw [HE.out]; rfl, ext_drewN HBw.out _⟩
      · have hy' : sameLoc r x = false := by simpa using hy
        have HE : Hid (∀ j z, j < k + 1 → ls[j]? = some z → sameLoc z x = false) := fun j z hj hz => by
          by_cases e : j = k
          · subst e
            rw [HG.out] at hz
            injection hz with hz
            subst hz
            exact hy'
          · exact HR.out j z (by omega) hz
        go_wp2
        go_quiet (fail)
        go_wp2
        go_roundw
        case rel => exact ⟨k + 1, by omega, by go_num, HE, ext_drewN HB.out _⟩
        case measure => simp [intOf]; omega
    · have HE : Hid (holdsB ls x = false) := by
        rw [Hid, holdsB, List.any_eq_false]
        intro z hz
        obtain ⟨j, hj, e⟩ := List.mem_iff_getElem.1 hz
        rw [HR.out j z (by rw [HL.out] at hj; omega) (by rw [List.getElem?_eq_getElem hj, e])]
        simp
      go_wp2
      go_ret
      exact ⟨by rw [HE.out]; rfl, HBw.out⟩

open Go.RowKit

def lost5To (m : MachD) (k : Nat) : List Int := ((List.range k).map fun (x : Nat) => (x : Int)).filter fun x => !memI m.saved x
theorem lost5To_succ (m : MachD) (k : Nat) : lost5To m (k + 1) = lost5To m k ++ (if memI m.saved k then [] else [(k : Int)]) := by
  rw [lost5To, lost5To, List.range_succ, List.map_append, List.filter_append]
  congr 1
  rw [List.map_cons, List.map_nil]
  cases h : memI m.saved k <;> simp [h]
theorem lost5To_len (m : MachD) (k : Nat) : (lost5To m k).length ≤ k := by
  have h := List.length_filter_le (fun x => !memI m.saved x) ((List.range k).map fun (x : Nat) => (x : Int))
  rw [List.length_map, List.length_range] at h
  exact h
theorem lost5_i64 (m : MachD) (k : Nat) (hk : k ≤ 1000) : ∀ x ∈ lost5To m k, I64 x := by
  intro x hx
  have h := (List.mem_filter.1 hx).1
  obtain ⟨j, hj, rfl⟩ := List.mem_map.1 h
  have := List.mem_range.1 hj
  exact ⟨by omega, by omega⟩
def lost5L (m : MachD) : List Int := if right05B m then lost5To m m.regs.toNat else []
theorem right05_regs {m : MachD} (h : right05B m = true) : 1 ≤ m.regs ∧ m.regs ≤ 64 := by
  simp only [right05B, hd05, Bool.and_eq_true, decide_eq_true_eq] at h
  omega

set_option maxRecDepth 100000 in
set_option maxHeartbeats 4000000 in
theorem lost05_any (m : MachD) (a1 a2 : Option Addr) (n1 c1 n2 c2 : Nat) (w : World) (h : MachOK w m a1 n1 c1 a2 n2 c2) :
    Calls Try.prog 70 #[machV m a1 n1 c1 a2 n2 c2] w (IntsPost w (lost5L m)) := by
  have H := Lib.hid h
  clear h
  obtain ⟨W0, hW0⟩ : ∃ W0, W0 = w.alloc (machO m a1 n1 c1 a2 n2 c2) := ⟨_, rfl⟩
  have HX : Hid (Below w.heap.size w W0) := by rw [Hid, hW0]; exact ext_alloc w _
  have hx0 : W0.heap[w.heap.size]? = some (machO m a1 n1 c1 a2 n2 c2) := by rw [hW0]; exact heap_alloc_new w _
  have CM : ∀ w', Below W0.heap.size W0 w' → w'.cell? ⟨w.heap.size, 0, none⟩ = some (.int .i64 m.regs) ∧ w'.cell? ⟨w.heap.size, 1, none⟩ = some (.slice a1 n1 c1) ∧ w'.cell? ⟨w.heap.size, 2, none⟩ = some (.int .i64 m.ret) ∧ w'.cell? ⟨w.heap.size, 3, none⟩ = some (.slice a2 n2 c2) := fun w' hb => by
    have hx := block_ext hb hx0
    refine ⟨?_, ?_, ?_, ?_⟩ <;> (rw [cell_of_row _ _ _ _ _ _ hx]; rfl)
  have HCM := Lib.hid CM
  clear CM hx0
  cases hR : right05B m with
  | false =>
    have HE : Hid (lost5L m = []) := by rw [Hid, lost5L, hR]; rfl
    go_enter Try.func70, Try.ntmps70
    go_wp2
    refine wp_loop_rounds 1 ?_
    rw [rounds_succ]
    go_wp2_with (first
      | (go_at_call 50
         refine (right05_any m a1 a2 n1 c1 n2 c2 _ (H.out.ext (ext_alloc w _))).mono ?_
         rintro e w1 ⟨rfl, hb1⟩
         have HB1 := Lib.hid (ext_trans (ext_alloc w _) hb1)
         clear hb1))
    go_ret
    rw [IntsPost, HE.out]
    exact ⟨none, 0, rfl, Nat.le_refl _, ⟨rfl, by simp, fun k hk => absurd hk (by simp)⟩, HB1.out⟩
  | true =>
    have HE : Hid (lost5L m = lost5To m m.regs.toNat) := by rw [Hid, lost5L, hR]; rfl
    obtain ⟨g1, g2⟩ := right05_regs hR
    go_enter Try.func70, Try.ntmps70
    go_wp2
    rw [← hW0]
    go_loopw [3, 4] (fun v i wr => ∃ (k : Nat), (k : Int) ≤ m.regs ∧ i = .int .i64 k ∧ Hid (wr.ownsRow W0.heap.size 3 1 v (lost5To m k).length ((lost5To m k).map (Value.int .i64))) ∧ Hid (Below W0.heap.size W0 wr)) (fun _ i _ => m.regs.toNat - (intOf i).toNat)
    case atStart => exact ⟨0, by omega, rfl, World.ownsRow_nil _ _ _ _, Below.refl _ _⟩
    case round =>
      obtain ⟨k, hk, rfl, HO, HB⟩ := hrel
      have hll := lost5To_len m k
      obtain ⟨y0, y1, y2, y3⟩ := HCM.out wr HB.out
      by_cases hlt : (k : Int) < m.regs
      · have HS := Lib.hid (lost5To_succ m k)
        cases hq : memI m.saved (k : Int) with
        | true =>
          rw [hq] at HS
          go_wp2_with (first
            | (go_at_call 50
               refine (right05_any m a1 a2 n1 c1 n2 c2 _ ((H.out.ext HX.out).ext HB.out)).mono ?_
               rintro e w1 ⟨rfl, hb1⟩
               have HB1 := Lib.hid (ext_trans HB.out hb1)
               obtain ⟨z0, z1, z2, z3⟩ := HCM.out w1 HB1.out
               have HO1 := Lib.hid ((Steady.ownsRow wr.heap.size _ _ _ _ _ _).ext HO.out hb1)
               clear hb1)
            | (go_at_call 65
               refine (has05_any _ _ _ _ _ _ (((H.out.ext HX.out).ext HB1.out).2.1)).mono ?_
               rintro e w2 ⟨rfl, rfl⟩))
          go_roundw
          case rel => exact ⟨k + 1, by omega, by go_num, by rw [Hid, HS.out]; simpa using HO1.out, HB1⟩
          case measure => simp [intOf]; omega
        | false =>
          rw [hq] at HS
          go_wp2_with (first
            | (go_at_call 50
               refine (right05_any m a1 a2 n1 c1 n2 c2 _ ((H.out.ext HX.out).ext HB.out)).mono ?_
               rintro e w1 ⟨rfl, hb1⟩
               have HB1 := Lib.hid (ext_trans HB.out hb1)
               obtain ⟨z0, z1, z2, z3⟩ := HCM.out w1 HB1.out
               have HO1 := Lib.hid ((Steady.ownsRow wr.heap.size _ _ _ _ _ _).ext HO.out hb1)
               clear hb1)
            | (go_at_call 65
               refine (has05_any _ _ _ _ _ _ (((H.out.ext HX.out).ext HB1.out).2.1)).mono ?_
               rintro e w2 ⟨rfl, rfl⟩)
            | (at_builtin
               refine wpList_append1 rfl w1 (.tmp 20) (.tmp 22) 22 3 rfl W0.heap.size _ 1 8 Try.underlying22 info_int rfl (by omega) u3 _ _ [.int .i64 (k : Int)] rfl HO1.out w1.heap.size rfl rfl rfl (by simp [Value.oneCell']) (by simp only [maxLen]; omega) (by omega) HB1.out.size ?_
               intro g cap w3 hown3 hg3 hat3
               have HO3 : Hid (w3.ownsRow W0.heap.size 3 1 (.slice (some ⟨g, 0, none⟩) ((lost5To m k).length + 1) cap) ((lost5To m k).length + 1) ((lost5To m (k + 1)).map (Value.int .i64))) := by rw [Hid, HS.out, List.map_append]; exact hown3
               have HB3 : Hid (Below W0.heap.size W0 w3) := HB1.out.grown hg3 HB1.out.size (fun j e => (HO1.out.lt j e).1)
               clear hown3 hg3 hat3))
          go_roundw
          case rel => exact ⟨k + 1, by omega, by go_num, by rw [Hid, show (lost5To m (k + 1)).length = (lost5To m k).length + 1 by rw [HS.out]; simp]; exact HO3.out, HB3⟩
          case measure => simp [intOf]; omega
      · obtain rfl : k = m.regs.toNat := by omega
        have hlt' : ¬ ((m.regs.toNat : Int) < m.regs) := hlt
        go_wp2_with (first
          | (go_at_call 50
             refine (right05_any m a1 a2 n1 c1 n2 c2 _ ((H.out.ext HX.out).ext HB.out)).mono ?_
             rintro e w1 ⟨rfl, hb1⟩
             have HB1 := Lib.hid (ext_trans HB.out hb1)
             obtain ⟨z0, z1, z2, z3⟩ := HCM.out w1 HB1.out
             have HO1 := Lib.hid ((Steady.ownsRow wr.heap.size _ _ _ _ _ _).ext HO.out hb1)
             clear hb1))
        go_ret
        rw [IntsPost, HE.out]
        obtain ⟨a, c, e, h1, h2⟩ := ints_post HO1.out (lost5_i64 m _ (by omega)) (by omega)
        exact ⟨a, c, congrArg _ e, h1, h2, ext_trans HX.out HB1.out⟩
end Go.Proofs.Ytdoahpblphlabaa
