/-
  (walker).done.
-/
import Derived.Test.YtfpbfdkjcmlimaaGreatKL
import Derived.Test.YtfpbfdkjcmlimaaGreatKI
import Derived.Test.YtfpbfdkjcmlimaaGreatFP
namespace Go.Proofs.YtfpbfdkjcmlimaaGreat
set_option linter.unusedSimpArgs false
set_option linter.unusedVariables false
set_option linter.unusedSectionVars false
set_option maxRecDepth 100000
set_option maxHeartbeats 40000000
section
open Go.RowKit
def zipF (vs : List Int) (ps : List (Bool × Int)) : List Fct := vs.zip ps
def lostK (K : Fct → Bool) (l : List Int) : Fct → Bool := fun y => K y && !(!y.2.1 && decide (y.2.2 ∈ l))
def defK (K : Fct → Bool) (v : Int) : Fct → Bool := fun y => K y && !(decide (0 < v) && y.1 == v)
def putW (v : Int) (K : Fct → Bool) (p : Bool × Int) : Fct → Bool := fun y => if y.2 = p then decide (0 < v) && (y.1 == v) else K y
def putsW (v : Int) (ps : List (Bool × Int)) (K : Fct → Bool) : Fct → Bool := ps.foldl (fun K p => putW v K p) K
theorem putsW_snoc (v : Int) (ps : List (Bool × Int)) (p : Bool × Int) (K : Fct → Bool) : putsW v (ps ++ [p]) K = putW v (putsW v ps K) p := by simp [putsW, List.foldl_append]
def doneK (m : MachD) (s t : InsD) (K : Fct → Bool) : Fct → Bool := putsW (definesV s) (writesL m t) (defK (if s.op = 13 then lostK K (lostL m) else K) (definesV s))
def doneFe (m : MachD) (s t : InsD) (K : Fct → Bool) (fe : Int) : Int := needsK K (zipF (readsI s) (readsL m t)) fe 14
theorem writes_le (m : MachD) (t : InsD) : (writesL m t).length ≤ 1 := by
  unfold writesL
  repeat' split
  all_goals simp
theorem doneK_step (m : MachD) (s t : InsR) (K : Fct → Bool) (x : Fct) : doneK m s.d t.d K x = kStep m (.done s t (s.d.op == 13)) K x := by
  have hw := writes_le m t.d
  unfold doneK kStep
  simp only
  have hl : ∀ (y : Fct), (if s.d.op = 13 then lostK K (lostL m) else K) y = (if (s.d.op == 13) && lostAt m y.2 then false else K y) := fun y => by
    have e : lostAt m y.2 = (!y.2.1 && decide (y.2.2 ∈ lostL m)) := by
      unfold lostAt
      congr 1
      rw [decide_eq_decide]
      have := idx_neg_iff (lostL m) y.2.2
      constructor
      · intro h
        apply Classical.byContradiction
        intro c
        have := this.2 c
        omega
      · intro h
        apply Classical.byContradiction
        intro c
        exact this.1 (by omega) h
    rw [e]
    by_cases h13 : s.d.op = 13
    · rw [if_pos h13]
      unfold lostK
      rw [show (s.d.op == 13) = true by simpa using h13, Bool.true_and]
      cases (!y.2.1 && decide (y.2.2 ∈ lostL m)) <;> simp
    · rw [if_neg h13, show (s.d.op == 13) = false by simpa using h13]
      simp
  generalize (if s.d.op = 13 then lostK K (lostL m) else K) = K1 at hl
  unfold ownB
  generalize definesV s.d = v
  match writesL m t.d, hw with
  | [], _ =>
    simp only [putsW, List.foldl_nil, firstIs, hasLoc, List.any_nil, Bool.and_false, Bool.false_eq_true, if_false, Bool.or_false]
    unfold defK
    rw [hl]
    cases hv : (decide (0 < v) && x.1 == v) <;> simp
  | [p], _ =>
    simp only [putsW, List.foldl_cons, List.foldl_nil, firstIs, hasLoc, List.any_cons, List.any_nil, Bool.or_false]
    unfold putW defK
    have hp : sameLoc p x.2 = decide (x.2 = p) := by
      rw [Bool.eq_iff_iff, sameLoc_iff, decide_eq_true_eq]
      exact eq_comm
    have hp2 : sameLoc x.2 p = decide (x.2 = p) := by rw [Bool.eq_iff_iff, sameLoc_iff, decide_eq_true_eq]
    rw [hl, hp, hp2]
    by_cases hx : x.2 = p
    · rw [Bool.eq_iff_iff]
      simp [hx]
    · simp only [hx, if_false, decide_false, Bool.and_false, Bool.or_false, Bool.false_eq_true]
      cases hv : (decide (0 < v) && x.1 == v) <;> simp
theorem lostK_step (K : Fct → Bool) (l : List Int) (r : Int) (Out : List Fct) (h : ∀ y, y ∈ Out ↔ lostK K l y = true ∧ sameLoc y.2 (false, r) = true) (y : Fct) : lostK K (l ++ [r]) y = cutK (lostK K l) Out y := by
  have hy := h y
  rw [sameLoc_iff] at hy
  unfold cutK
  by_cases e : y.2 = (false, r)
  · have h1 : lostK K (l ++ [r]) y = false := by simp [lostK, e]
    rw [h1]
    cases h2 : lostK K l y with
    | false => rfl
    | true => rw [decide_eq_true (hy.2 ⟨h2, e⟩)]; rfl
  · have h1 : lostK K (l ++ [r]) y = lostK K l y := by
      obtain ⟨yv, ys, yn⟩ := y
      unfold lostK
      cases ys with
      | true => rfl
      | false =>
        have : yn ≠ r := fun c => e (by rw [c])
        simp [this]
    rw [h1, decide_eq_false (fun c => e (hy.1 c).2)]
    simp
theorem defK_step (K : Fct → Bool) (v : Int) (hv : 0 < v) (Out : List Fct) (h : ∀ y, y ∈ Out ↔ K y = true ∧ (y.1 == v) = true) (y : Fct) : defK K v y = cutK K Out y := by
  have hy := h y
  unfold cutK defK
  rw [decide_eq_true hv, Bool.true_and]
  cases h1 : K y with
  | false => rfl
  | true =>
    cases h2 : (y.1 == v) with
    | true => rw [decide_eq_true (hy.2 ⟨h1, h2⟩)]; try rfl
    | false => rw [decide_eq_false (fun c => by have := (hy.1 c).2; rw [h2] at this; cases this)]; try rfl
theorem defK_none (K : Fct → Bool) (v : Int) (hv : ¬ 0 < v) (y : Fct) : defK K v y = K y := by
  unfold defK
  rw [decide_eq_false hv]
  simp
theorem putW_none (K : Fct → Bool) (v : Int) (hv : ¬ 0 < v) (p : Bool × Int) (Out : List Fct) (h : ∀ y, y ∈ Out ↔ K y = true ∧ sameLoc y.2 p = true) (y : Fct) : putW v K p y = cutK K Out y := by
  have hy := h y
  rw [sameLoc_iff] at hy
  unfold cutK putW
  rw [decide_eq_false hv, Bool.false_and]
  by_cases e : y.2 = p
  · rw [if_pos e]
    cases h1 : K y with
    | false => rfl
    | true => rw [decide_eq_true (hy.2 ⟨h1, e⟩)]; rfl
  · rw [if_neg e, decide_eq_false (fun c => e (hy.1 c).2)]
    simp
theorem putW_some (K : Fct → Bool) (v : Int) (hv : 0 < v) (p : Bool × Int) (Out : List Fct) (h : ∀ y, y ∈ Out ↔ K y = true ∧ sameLoc y.2 p = true) (y : Fct) : putW v K p y = true ↔ cutK K Out y = true ∨ y = (v, p) := by
  have hy := h y
  rw [sameLoc_iff] at hy
  unfold cutK putW
  rw [decide_eq_true hv, Bool.true_and]
  by_cases e : y.2 = p
  · rw [if_pos e]
    constructor
    · intro h1
      refine .inr (Prod.ext (by simpa using h1) e)
    · rintro (h1 | rfl)
      · rw [Bool.and_eq_true] at h1
        have := hy.2 ⟨h1.1, e⟩
        simp [this] at h1
      · simp
  · rw [if_neg e, decide_eq_false (fun c => e (hy.1 c).2)]
    simp only [Bool.not_false, Bool.and_true]
    constructor
    · exact .inl
    · rintro (h1 | rfl)
      · exact h1
      · exact absurd rfl e
theorem cells_op {W : World} {q : Nat} {r : InsR} (h : W.heap[q]? = some (insO r.d r.aa r.na r.ca)) : W.cell? ⟨q, 0, none⟩ = some (.int .i64 r.d.op) := by rw [cell_of_row _ _ _ _ _ _ h]; rfl
theorem WS.nobool {m : MachD} {a1 a2 : Option Addr} {n1 c1 n2 c2 : Nat} {U : Univ} {g b : Nat} {K : Fct → Bool} {fe : Int} {W : World} (h : WS m a1 n1 c1 a2 n2 c2 U g b K fe W) {q o : Nat} {x : Bool} (hc : W.cell? ⟨q, o, none⟩ = some (.bool x)) : ¬ WT g b q := by
  rintro (rfl | rfl)
  · rw [cell_of_row _ _ _ _ _ _ h.1] at hc
    match o, hc with
    | 0, hc => cases hc
    | 1, hc => cases hc
    | 2, hc => cases hc
    | 3, hc => cases hc
    | 4, hc => cases hc
    | 5, hc => cases hc
    | n + 6, hc => simp at hc
  · obtain ⟨L, hS, _⟩ := h.2
    exact hS.nocell hc rfl
theorem locs_chg {m : MachD} {a1 a2 : Option Addr} {n1 c1 n2 c2 : Nat} {U : Univ} {g b : Nat} {K : Fct → Bool} {fe : Int} {W W' : World} (h : WS m a1 n1 c1 a2 n2 c2 U g b K fe W) {a : Option Addr} {n : Nat} {ls : List (Bool × Int)} (hl : Locs W a n ls) (hc : Chg (WT g b) W W') : Locs W' a n ls :=
  ⟨hl.1, hl.2.1, fun j x hx => by
    obtain ⟨q, o, e, hcell⟩ := hl.2.2 j x hx
    have h0 : W.cell? ⟨q, o + j * 2 + 0, none⟩ = some (.bool x.1) := hcell 0 (by omega)
    have hn := h.nobool h0
    refine ⟨q, o, e, fun i hi => ?_⟩
    rw [← hcell i hi]
    exact cell_heap' (hc.block q (World.block_lt_of_cell? W _ h0) hn)⟩
theorem ints_chg {S : Nat → Prop} {W W' : World} {a : Option Addr} {n : Nat} {xs : List Int} (hl : Ints W a n xs) (hc : Chg S W W') (hn : ∀ q o, a = some ⟨q, o, none⟩ → ¬ S q) : Ints W' a n xs :=
  ⟨hl.1, hl.2.1, fun k hk => by
    obtain ⟨q, o, e, hcell, hi⟩ := hl.2.2 k hk
    exact ⟨q, o, e, (cell_heap' (hc.block q (World.block_lt_of_cell? W _ hcell) (hn q o e))).trans hcell, hi⟩⟩
theorem locs_chg_b {b : Nat} {L : List Fct} {W W' : World} (h : FSet W b L) {a : Option Addr} {n : Nat} {ls : List (Bool × Int)} (hl : Locs W a n ls) (hc : Chg (fun k => k = b) W W') : Locs W' a n ls :=
  ⟨hl.1, hl.2.1, fun j x hx => by
    obtain ⟨q, o, e, hcell⟩ := hl.2.2 j x hx
    have h0 : W.cell? ⟨q, o + j * 2 + 0, none⟩ = some (.bool x.1) := hcell 0 (by omega)
    refine ⟨q, o, e, fun i hi => ?_⟩
    rw [← hcell i hi]
    exact cell_heap' (hc.block q (World.block_lt_of_cell? W _ h0) fun e => h.nocell h0 e)⟩
theorem ints_chg_b {b : Nat} {L : List Fct} {W W' : World} (h : FSet W b L) {a : Option Addr} {n : Nat} {xs : List Int} (hl : Ints W a n xs) (hc : Chg (fun k => k = b) W W') : Ints W' a n xs :=
  ⟨hl.1, hl.2.1, fun k hk => by
    obtain ⟨q, o, e, hcell, hi⟩ := hl.2.2 k hk
    exact ⟨q, o, e, (cell_heap' (hc.block q (World.block_lt_of_cell? W _ hcell) fun e => h.nocell hcell e)).trans hcell, hi⟩⟩
theorem doneW_any (m : MachD) (a1 a2 : Option Addr) (n1 c1 n2 c2 : Nat) (U : Univ) (hU : U.ok) (g b : Nat) (K : Fct → Bool) (fe : Int) (s t : InsR) (w0 w : World) (hm : MachOK w0 m a1 n1 c1 a2 n2 c2) (hs : InsOK w0 s) (ht : InsOK w0 t) (hna : s.na ≤ 1000000)
    (hb0 : Below w0.heap.size w0 w) (hg0 : w0.heap.size ≤ g) (hbb0 : w0.heap.size ≤ b) (hw : WS m a1 n1 c1 a2 n2 c2 U g b K fe w) (hle : (readsI s.d).length ≤ (readsL m t.d).length) (hV : 0 < definesV s.d → definesV s.d ∈ U.V) (hP : ∀ p ∈ writesL m t.d, p ∈ U.P) :
    Calls Tryz.prog 34 #[.pointer (some ⟨g, 0, none⟩), insVR s, insVR t] w fun e w' => e = .returned (.tuple #[]) ∧ WS m a1 n1 c1 a2 n2 c2 U g b (doneK m s.d t.d K) (doneFe m s.d t.d K fe) w' ∧ Chg (WT g b) w w' := by
  have hlt := hw.lt
  have HG : Hid (∀ W, Chg (WT g b) w W → Below w0.heap.size w0 W) := fun W hc => hb0.trans (hc.below hb0.size (fun k hk => by rcases hk with rfl | rfl <;> assumption))
  have HM := Lib.hid hm
  have HS := Lib.hid hs
  have HT := Lib.hid ht
  have HLE := Lib.hid hle
  have HPP := Lib.hid hP
  have HVV := Lib.hid hV
  obtain ⟨fe1, hfe1⟩ : ∃ x, x = doneFe m s.d t.d K fe := ⟨_, rfl⟩
  obtain ⟨K9, hK9⟩ : ∃ x, x = doneK m s.d t.d K := ⟨_, rfl⟩
  rw [← hfe1, ← hK9]
  have HFE := Lib.hid hfe1
  have HK9 := Lib.hid hK9
  clear hfe1 hK9 hm hs ht hle hP hV hb0
  go_enter Tryz.func34, Tryz.ntmps34
  go_upto_region 1 with (fail)
  obtain ⟨W, hW⟩ : ∃ W, W = (w.alloc (insO s.d s.aa s.na s.ca)).alloc (insO t.d t.aa t.na t.ca) := ⟨_, rfl⟩
  have hr1 : W.heap[w.heap.size]? = some (insO s.d s.aa s.na s.ca) := by rw [hW]; exact block_ext (ext_alloc _ _) (heap_alloc_new _ _)
  have hr2 : W.heap[w.heap.size + 1]? = some (insO t.d t.aa t.na t.ca) := by
    rw [hW]
    have := heap_alloc_new (w.alloc (insO s.d s.aa s.na s.ca)) (insO t.d t.aa t.na t.ca)
    simpa using this
  have hB : Below w.heap.size w W := by rw [hW]; exact ext_trans (ext_alloc _ _) (ext_alloc _ _)
  rw [← hW]
  have HW := Lib.hid (hw.ext hB)
  have HB := Lib.hid hB
  have HC0 : Hid (Chg (WT g b) w W) := (Chg.refl _ _).of_ext hB
  have H1 := Lib.hid hr1
  have H2 := Lib.hid hr2
  have h1l := (Array.getElem?_eq_some_iff.1 hr1).1
  have h2l := (Array.getElem?_eq_some_iff.1 hr2).1
  clear hW hr1 hr2 hB hw
  have HN1 : Hid (¬ WT g b w.heap.size) := fun h => by rcases h with h | h <;> omega
  have HN2 : Hid (¬ WT g b (w.heap.size + 1)) := fun h => by rcases h with h | h <;> omega
  have hne : Nonempty (ExtW W) := ⟨⟨W, Below.refl _ _⟩⟩
  have k1 : ∀ n : ExtW W, n.val.cell? ⟨g, 1, none⟩ = some (.int .i64 m.regs) := fun n => ExtW.cell HW.out.cells.2.1 n
  have k2 : ∀ n : ExtW W, n.val.cell? ⟨g, 2, none⟩ = some (.slice a1 n1 c1) := fun n => ExtW.cell HW.out.cells.2.2.1 n
  have k3 : ∀ n : ExtW W, n.val.cell? ⟨g, 3, none⟩ = some (.int .i64 m.ret) := fun n => ExtW.cell HW.out.cells.2.2.2.1 n
  have k4 : ∀ n : ExtW W, n.val.cell? ⟨g, 4, none⟩ = some (.slice a2 n2 c2) := fun n => ExtW.cell HW.out.cells.2.2.2.2.1 n
  have k5 : ∀ w', (∃ n : ExtW W, w' = n.val) → w'.heap[w.heap.size + 1]? = some (insO t.d t.aa t.na t.ca) := fun w' ⟨n, e⟩ => by rw [e]; exact block_ext n.ext H2.out
  refine region_mix (fun w' => ∃ n' : ExtW W, w' = n'.val) [(0, 5, some (5, true)), (6, 1, none)] (by kernel_rfl) (by kernel_rfl) ⟨⟨_, ext_drewN (Below.refl _ _) 1⟩, rfl⟩ ?_
  simp only [wpMix, List.take_succ_cons, List.take_zero, List.drop_succ_cons, List.drop_zero]
  repeat (first
    | (refine wpQuiet_load_row (o := ⟨some 18, .load 52 _, _, _, _, _⟩) (by rfl) 52 _ rfl (w.heap.size + 1) rfl 52 _ (0, 0) _ k5 Tryz.underlying52 rfl size_ins ?_; simp only [Act.put, List.setIfInBounds_toArray, List.set_cons_succ, List.set_cons_zero])
    | go_big_quiet_step (fail))
  refine wpQuiet_nil ?_
  refine wpOp_at rfl rfl ?_
  go_simp
  refine (reads_any m t.d a1 a2 t.aa n1 c1 n2 c2 t.na t.ca W.drew ((HM.out.ext ((HG.out W HC0.out).drew)).1) HM.out.2.2.2.2.1 HM.out.2.2.1 HT.out.2.2.2.2.1 HT.out.2.2.2.2.2.1 HT.out.2.2.2.2.2.2.2.2).mono ?_
  rintro e w1 ⟨la, lc, rfl, hl, hb1⟩
  have hb1 : Below W.heap.size W w1 := unDrew1 hb1
  refine ⟨⟨⟨w1, hb1⟩, rfl⟩, ?_⟩
  try simp only [Act.put, List.setIfInBounds_toArray, List.set_cons_succ, List.set_cons_zero]
  repeat (go_big_quiet_step (fail))
  refine wpQuiet_nil ?_
  refine NoPanic.normal ?_
  have HPL := Lib.hid hl
  have HW1 := Lib.hid (HW.out.ext hb1)
  have HC1 := Lib.hid (HC0.out.of_ext hb1)
  have H11 := Lib.hid (block_ext hb1 H1.out)
  have H21 := Lib.hid (block_ext hb1 H2.out)
  have HSZ1 := Lib.hid hb1.size
  clear hl hb1 k1 k2 k3 k4 k5 hne HW HC0 H1 H2 HB
  go_wp2_with (first
    | ((with_reducible show wpList _ _ _ (⟨some 20, _, _, _, _, _⟩ :: _) _ _); refine wpList_load_row (o := ⟨some 20, .load 52 _, _, _, _, _⟩) rfl 52 _ rfl w.heap.size rfl 52 _ (0, 0) _ H11.out Tryz.underlying52 rfl size_ins ?_)
    | (go_at_call 53
       refine (readsI_any s.d s.aa s.na s.ca w1 ((HS.out.ext (HG.out _ HC1.out)).1) HS.out.2.2.2.2.1 HS.out.2.2.2.2.2.1 HS.out.2.2.2.2.2.2.1 HS.out.2.2.2.2.2.2.2.1 hna).mono ?_
       rintro e w2 ⟨ra, rc, rfl, hri, hb2, hfr⟩
       have HFR := Lib.hid hfr
       have HRI := Lib.hid hri
       have HPL2 := Lib.hid (HPL.out.ext locC_len hb2)
       have HW2 := Lib.hid (HW1.out.ext hb2)
       have HC2 := Lib.hid (HC1.out.of_ext hb2)
       have H12 := Lib.hid (block_ext hb2 H11.out)
       have H22 := Lib.hid (block_ext hb2 H21.out)
       have HSZ2 := Lib.hid hb2.size
       clear hri hb2 hfr HPL HW1 HC1 H11 H21))
  have hrl := HLE.out
  have hPl2 := HPL2.out.1
  generalize hvs : readsI s.d = vs at *
  generalize hps : readsL m t.d = ps at *
  have HE1 : Hid (fe1 = needsK K (zipF vs ps) fe 14) := by rw [Hid, HFE.out, doneFe, hvs, hps]
  clear hvs hps HFE hPl2
  have hvl := HRI.out.2.1
  have HRN : Hid (∀ q o, ra = some ⟨q, o, none⟩ → ¬ WT g b q) := fun q o e h => by
    have h1 := HFR.out q o none e
    have h2 := HSZ1.out
    rcases h with h | h <;> omega
  have HL12 := (Array.getElem?_eq_some_iff.1 H12.out).1
  have HL22 := (Array.getElem?_eq_some_iff.1 H22.out).1
  have HZL : Hid ((zipF vs ps).length = vs.length) := by rw [Hid, zipF, List.length_zip]; omega
  clear HFR HSZ1 HSZ2
  go_loopw [7, 8, 23] (fun _ _ i wr => ∃ k, k ≤ vs.length ∧ i = .int .i64 (k : Nat) ∧ Hid (WS m a1 n1 c1 a2 n2 c2 U g b K (needsK K ((zipF vs ps).take k) fe 14) wr) ∧ Hid (Chg (WT g b) w2 wr)) (fun _ _ i _ => vs.length - (intOf i).toNat)
  case atStart => exact ⟨0, by omega, rfl, by rw [Hid, List.take_zero]; exact HW2.out, Chg.refl _ _⟩
  case round =>
    obtain ⟨k, hk, rfl, HKr, HCr⟩ := hrel
    by_cases hkl : k < vs.length
    · obtain ⟨q, o, rfl, hcv, hvi⟩ := (ints_chg HRI.out HCr.out HRN.out).2.2 k hkl
      have hkp : k < ps.length := by omega
      obtain ⟨p, q2, o2, hp, rfl, d0, d1⟩ := locs_cells (locs_chg HW2.out HPL2.out HCr.out) hkp
      have hz : (zipF vs ps)[k]? = some (vs.getD k 0, p) := by
        rw [zipF, List.getElem?_zip_eq_some]
        exact ⟨by rw [List.getElem?_eq_getElem hkl, List.getD_eq_getElem?_getD, List.getElem?_eq_getElem hkl]; rfl, hp⟩
      have HZ := Lib.hid hz
      have hk1 : (k : Int) < (vs.length : Int) := by omega
      have hk2 : (k : Int) < (ps.length : Int) := by omega
      obtain ⟨hv1, hv2⟩ := hvi
      clear hz hp
      generalize vs.getD k 0 = v at *
      obtain ⟨ps1, ps2⟩ := p
      go_wp2_with (
        (go_at_call 54
         refine (need_any m a1 a2 n1 c1 n2 c2 U g b K (needsK K ((zipF vs ps).take k) fe 14) 14 v (ps1, ps2) wr HKr.out).mono ?_
         rintro e w3 ⟨rfl, hs3, hc3⟩
         have HS3 : Hid (WS m a1 n1 c1 a2 n2 c2 U g b K (needsK K ((zipF vs ps).take (k + 1)) fe 14) w3) := (by
           have e : (zipF vs ps).take (k + 1) = (zipF vs ps).take k ++ [(v, ps1, ps2)] := (by rw [List.take_add_one, HZ.out]; rfl)
           rw [Hid, e, needsK_snoc]
           exact hs3)
         have HC3 := Lib.hid (HCr.out.trans hc3)
         clear hs3 hc3))
      go_roundw
      case rel => exact ⟨k + 1, by omega, by go_num, HS3, HC3⟩
      case measure => simp [intOf]; omega
    · obtain rfl : k = vs.length := by omega
      have HK3 : Hid (WS m a1 n1 c1 a2 n2 c2 U g b K fe1 wr) := by
        have := HKr.out
        rw [← HZL.out, List.take_length] at this
        rw [Hid, HE1.out]
        exact this
      have HC3 : Hid (Chg (WT g b) w wr) := HC2.out.trans HCr.out
      have H13 : Hid (wr.heap[w.heap.size]? = some (insO s.d s.aa s.na s.ca)) := (HCr.out.block _ HL12 HN1.out).trans H12.out
      have H23 : Hid (wr.heap[w.heap.size + 1]? = some (insO t.d t.aa t.na t.ca)) := (HCr.out.block _ HL22 HN2.out).trans H22.out
      clear HKr HCr HRI HPL2 HW2 HC2 H12 H22 HZL HE1 HRN
      obtain ⟨w3, rfl⟩ : ∃ w3, w3 = wr := ⟨_, rfl⟩
      have i0 := cells_op H13.out
      have hl13 := (Array.getElem?_eq_some_iff.1 H13.out).1
      go_upto_if 38 with (fail)
      obtain ⟨K1, hK1⟩ : ∃ x, x = (if s.d.op = 13 then lostK K (lostL m) else K) := ⟨_, rfl⟩
      have HK1 := Lib.hid hK1
      clear hK1
      go_cut [] (fun wx => Hid (WS m a1 n1 c1 a2 n2 c2 U g b K1 fe1 wx) ∧ Hid (Chg (fun k => k = b) w3 wx))
      case first =>
        by_cases h13 : s.d.op = 13
        · have HE : Hid (K1 = lostK K (lostL m)) := by rw [Hid, HK1.out, if_pos h13]
          have hb13 : (s.d.op == 13) = true := by simpa using h13
          clear h13 HK1
          obtain ⟨j0, j1, j2, j3, j4, _⟩ := HK3.out.cells
          go_wp2_with (
            (go_at_call 55
             refine (lost_any m a1 a2 n1 c1 n2 c2 w3 (HM.out.ext (HG.out _ HC3.out))).mono ?_
             rintro e w4 ⟨la4, lc4, rfl, hlc4, hil4, hb4⟩
             have HIL := Lib.hid hil4
             have HK4 := Lib.hid (HK3.out.ext hb4)
             have HC4 : Hid (Chg (fun k => k = b) w3 w4) := ((Chg.refl _ _).of_ext hb4)
             clear hil4 hb4 j0 j1 j2 j3 j4 i0))
          have hll := HIL.out.2.1
          generalize hlm : lostL m = ls at *
          clear hlm
          go_loopw [10, 45] (fun _ i wr => ∃ j, j ≤ ls.length ∧ i = .int .i64 (j : Nat) ∧ Hid (WS m a1 n1 c1 a2 n2 c2 U g b (lostK K (ls.take j)) fe1 wr) ∧ Hid (Chg (fun k => k = b) w4 wr)) (fun _ i _ => ls.length - (intOf i).toNat)
          case atStart => exact ⟨0, by omega, rfl, HK4.out.congr fun y => by simp [lostK], Chg.refl _ _⟩
          case round =>
            obtain ⟨j, hj, rfl, HKr, HCr⟩ := hrel
            by_cases hjl : j < ls.length
            · obtain ⟨q, o, rfl, hcv, hvi⟩ := (by
                obtain ⟨_, L, hS, _⟩ := HK4.out
                exact (ints_chg_b hS HIL.out HCr.out).2.2 j hjl : ∃ q o, la4 = some ⟨q, o, none⟩ ∧ wr.cell? ⟨q, o + j, none⟩ = some (.int .i64 (ls.getD j 0)) ∧ I64 (ls.getD j 0))
              have hk1 : (j : Int) < (ls.length : Int) := by omega
              have HX : Hid (ls.take (j + 1) = ls.take j ++ [ls.getD j 0]) := takeS ls j 0 hjl
              generalize ls.getD j 0 = r at *
              clear hvi
              go_upto_region 11 with (fail)
              have hne : Nonempty (ExtW wr) := ⟨⟨wr, Below.refl _ _⟩⟩
              have g0 : ∀ n : ExtW wr, n.val.cell? ⟨g, 0, none⟩ = some (.map (some b)) := fun n => ExtW.cell HKr.out.cells.1 n
              refine region_mix (fun w' => ∃ n' : ExtW wr, w' = n'.val) [(0, 10, some (10, true)), (11, 0, some (11, false))] (by kernel_rfl) (by kernel_rfl) ⟨⟨_, ext_drewN (Below.refl _ _) 1⟩, rfl⟩ ?_
              simp only [wpMix, List.take_succ_cons, List.take_zero, List.drop_succ_cons, List.drop_zero]
              repeat (go_big_quiet_step (fail))
              refine wpQuiet_nil ?_
              refine wpOp_at rfl rfl ?_
              go_simp
              refine (atW_any m a1 a2 n1 c1 n2 c2 U hU g b _ fe1 (false, r) wr.drew HKr.out).mono ?_
              rintro e w5 ⟨vl5, Out5, rfl, ho5, hn5, hm5, hb5⟩
              have hb5 : Below wr.heap.size wr w5 := unDrew1 hb5
              refine ⟨⟨⟨w5, hb5⟩, rfl⟩, ?_⟩
              obtain ⟨av5, cv5, rfl⟩ := ho5.form
              refine wpQuiet_nil ?_
              refine wpOp_at rfl rfl ?_
              go_simp
              refine (forgetW_any m a1 a2 n1 c1 n2 c2 U g b _ fe1 av5 _ cv5 Out5 w5 (HKr.out.ext hb5) (ho5.recs csF_len)).mono ?_
              rintro e w6 ⟨rfl, hs6, hc6⟩
              have HK6 : Hid (WS m a1 n1 c1 a2 n2 c2 U g b (lostK K (ls.take (j + 1))) fe1 w6) := by
                refine hs6.congr fun y => ?_
                rw [HX.out]
                exact lostK_step K _ r Out5 hm5 y
              have HC6 : Hid (Chg (fun k => k = b) w4 w6) := (HCr.out.of_ext hb5).trans hc6
              clear ho5 hn5 hm5 hb5 hs6 hc6 g0 hne hcv
              refine NoPanic.normal ?_
              go_wp2
              go_roundw
              case rel => exact ⟨j + 1, by omega, by go_num, HK6, HC6⟩
              case measure => simp [intOf]; omega
            · obtain rfl : j = ls.length := by omega
              go_wp2
              go_meet
              refine ⟨?_, HC4.out.trans HCr.out⟩
              have := HKr.out
              rw [List.take_length] at this
              rw [Hid, HE.out]
              exact this
        · have HE : Hid (K1 = K) := by rw [Hid, HK1.out, if_neg h13]
          have hb13 : (s.d.op == 13) = false := by simpa using h13
          clear h13
          go_wp2
          go_meet
          exact ⟨by rw [Hid, HE.out]; exact HK3.out, Chg.refl _ _⟩
      case rest =>
        obtain ⟨HK4, HC4⟩ := hcut
        obtain ⟨w4, rfl⟩ : ∃ w4, w4 = wc := ⟨_, rfl⟩
        have HC4w : Hid (Chg (WT g b) w w4) := HC3.out.trans (HC4.out.mono fun k hk => .inr hk)
        have H14 : Hid (w4.heap[w.heap.size]? = some (insO s.d s.aa s.na s.ca)) := (HC4.out.block _ hl13 (fun h => HN1.out (.inr h))).trans H13.out
        have H24 : Hid (w4.heap[w.heap.size + 1]? = some (insO t.d t.aa t.na t.ca)) := (HC4.out.block _ (Array.getElem?_eq_some_iff.1 H23.out).1 (fun h => HN2.out (.inr h))).trans H23.out
        clear HC4 HC3 H13 H23 HK3 i0 hl13
        obtain ⟨v, hv⟩ : ∃ v, v = definesV s.d := ⟨_, rfl⟩
        have HVE := Lib.hid hv
        have HVV2 : Hid (0 < v → v ∈ U.V) := by rw [Hid, hv]; exact HVV.out
        have HDF : Hid (Calls Tryz.prog 56 #[insVR s] w4 fun e w' => e = .returned (.int .i64 v) ∧ Below w4.heap.size w4 w') := by
          rw [Hid, hv]
          exact defines_any s.d s.aa s.na s.ca w4 ((HS.out.ext (HG.out _ HC4w.out)).1) HS.out.2.2.2.2.1 HS.out.2.2.2.2.2.1 HS.out.2.2.2.2.2.2.1 HS.out.2.2.2.2.2.2.2.1
        clear hv HVV
        go_upto_if 65 with (first
          | ((with_reducible show wpList _ _ _ (⟨some 62, _, _, _, _, _⟩ :: _) _ _); refine wpList_load_row (o := ⟨some 62, .load 52 _, _, _, _, _⟩) rfl 52 _ rfl w.heap.size rfl 52 _ (0, 0) _ H14.out Tryz.underlying52 rfl size_ins ?_)
          | (go_at_call 56
             refine HDF.out.mono ?_
             rintro e w5 ⟨rfl, hb5⟩
             have HK5 := Lib.hid (HK4.out.ext hb5)
             have HC5 := Lib.hid (HC4w.out.of_ext hb5)
             have H25 := Lib.hid (block_ext hb5 H24.out)
             clear hb5))
        clear HK4 HC4w H14 H24 HDF
        have HL25 := (Array.getElem?_eq_some_iff.1 H25.out).1
        obtain ⟨K2, hK2⟩ : ∃ x, x = defK K1 v := ⟨_, rfl⟩
        have HK2 := Lib.hid hK2
        clear hK2
        go_cut [] (fun wx => Hid (WS m a1 n1 c1 a2 n2 c2 U g b K2 fe1 wx) ∧ Hid (Chg (fun k => k = b) w5 wx))
        case first =>
          by_cases hv0 : 0 < v
          · have hb : decide (0 < v) = true := by simpa using hv0
            go_upto_region 15 with (fail)
            have hne : Nonempty (ExtW w5) := ⟨⟨w5, Below.refl _ _⟩⟩
            have g0 : ∀ n : ExtW w5, n.val.cell? ⟨g, 0, none⟩ = some (.map (some b)) := fun n => ExtW.cell HK5.out.cells.1 n
            refine region_mix (fun w' => ∃ n' : ExtW w5, w' = n'.val) [(0, 9, some (9, true)), (10, 0, some (10, false))] (by kernel_rfl) (by kernel_rfl) ⟨⟨_, ext_drewN (Below.refl _ _) 1⟩, rfl⟩ ?_
            simp only [wpMix, List.take_succ_cons, List.take_zero, List.drop_succ_cons, List.drop_zero]
            repeat (go_big_quiet_step (fail))
            refine wpQuiet_nil ?_
            refine wpOp_at rfl rfl ?_
            go_simp
            refine (ofW_any m a1 a2 n1 c1 n2 c2 U hU g b K1 fe1 v w5.drew HK5.out).mono ?_
            rintro e w6 ⟨vl6, Out6, rfl, ho6, hn6, hm6, hb6⟩
            have hb6 : Below w5.heap.size w5 w6 := unDrew1 hb6
            refine ⟨⟨⟨w6, hb6⟩, rfl⟩, ?_⟩
            obtain ⟨av6, cv6, rfl⟩ := ho6.form
            refine wpQuiet_nil ?_
            refine wpOp_at rfl rfl ?_
            go_simp
            refine (forgetW_any m a1 a2 n1 c1 n2 c2 U g b K1 fe1 av6 _ cv6 Out6 w6 (HK5.out.ext hb6) (ho6.recs csF_len)).mono ?_
            rintro e w7 ⟨rfl, hs7, hc7⟩
            have HK7 : Hid (WS m a1 n1 c1 a2 n2 c2 U g b K2 fe1 w7) := hs7.congr fun y => by rw [HK2.out]; exact defK_step K1 v hv0 Out6 hm6 y
            have HC7 : Hid (Chg (fun k => k = b) w5 w7) := ((Chg.refl _ _).of_ext hb6).trans hc7
            clear ho6 hn6 hm6 hb6 hs7 hc7 g0 hne
            refine NoPanic.normal ?_
            go_wp2
            go_meet
            exact ⟨HK7, HC7⟩
          · have hb : decide (0 < v) = false := by simpa using hv0
            have HK7 : Hid (WS m a1 n1 c1 a2 n2 c2 U g b K2 fe1 w5) := HK5.out.congr fun y => by rw [HK2.out]; exact defK_none K1 v hv0 y
            go_wp2
            go_meet
            exact ⟨HK7, Chg.refl _ _⟩
        case rest =>
          obtain ⟨HK6, HC6⟩ := hcut
          obtain ⟨w6, rfl⟩ : ∃ w6, w6 = wc := ⟨_, rfl⟩
          have HC6w : Hid (Chg (WT g b) w w6) := HC5.out.trans (HC6.out.mono fun k hk => .inr hk)
          have H26 : Hid (w6.heap[w.heap.size + 1]? = some (insO t.d t.aa t.na t.ca)) := (HC6.out.block _ HL25 (fun h => HN2.out (.inr h))).trans H25.out
          have HE9 : Hid (K9 = putsW v (writesL m t.d) K2) := by rw [Hid, HK9.out, doneK, HK2.out, HK1.out, HVE.out]
          clear HC6 HC5 H25 HL25 HK5 HK9 HK2 HK1 HVE
          go_upto_region 16 with (fail)
          have hne : Nonempty (ExtW w6) := ⟨⟨w6, Below.refl _ _⟩⟩
          have k1 : ∀ n : ExtW w6, n.val.cell? ⟨g, 1, none⟩ = some (.int .i64 m.regs) := fun n => ExtW.cell HK6.out.cells.2.1 n
          have k2 : ∀ n : ExtW w6, n.val.cell? ⟨g, 2, none⟩ = some (.slice a1 n1 c1) := fun n => ExtW.cell HK6.out.cells.2.2.1 n
          have k3 : ∀ n : ExtW w6, n.val.cell? ⟨g, 3, none⟩ = some (.int .i64 m.ret) := fun n => ExtW.cell HK6.out.cells.2.2.2.1 n
          have k4 : ∀ n : ExtW w6, n.val.cell? ⟨g, 4, none⟩ = some (.slice a2 n2 c2) := fun n => ExtW.cell HK6.out.cells.2.2.2.2.1 n
          have k5 : ∀ w', (∃ n : ExtW w6, w' = n.val) → w'.heap[w.heap.size + 1]? = some (insO t.d t.aa t.na t.ca) := fun w' ⟨n, e⟩ => by rw [e]; exact block_ext n.ext H26.out
          refine region_mix (fun w' => ∃ n' : ExtW w6, w' = n'.val) [(0, 5, none), (7, 1, some (5, true)), (6, 1, none)] (by kernel_rfl) (by kernel_rfl) ⟨⟨_, ext_drewN (Below.refl _ _) 1⟩, rfl⟩ ?_
          simp only [wpMix, List.take_succ_cons, List.take_zero, List.drop_succ_cons, List.drop_zero]
          repeat (first
            | (refine wpQuiet_load_row (o := ⟨some 81, .load 52 _, _, _, _, _⟩) (by rfl) 52 _ rfl (w.heap.size + 1) rfl 52 _ (0, 0) _ k5 Tryz.underlying52 rfl size_ins ?_; simp only [Act.put, List.setIfInBounds_toArray, List.set_cons_succ, List.set_cons_zero])
            | refine wpQuiet_nil ?_
            | go_big_quiet_step (fail))
          refine wpOp_at rfl rfl ?_
          go_simp
          refine (writes_any m t.d a1 a2 t.aa n1 c1 n2 c2 t.na t.ca w6.drew HM.out.2.2.2.2.2.2.2 HT.out.2.2.2.1).mono ?_
          rintro e w7 ⟨la7, lc7, rfl, hl7, hb7⟩
          have hb7 : Below w6.heap.size w6 w7 := unDrew1 hb7
          refine ⟨⟨⟨w7, hb7⟩, rfl⟩, ?_⟩
          have HPL := Lib.hid hl7
          have HK7 := Lib.hid (HK6.out.ext hb7)
          have HC7 := Lib.hid (HC6w.out.of_ext hb7)
          generalize hws : writesL m t.d = ws at *
          clear hws
          try simp only [Act.put, List.setIfInBounds_toArray, List.set_cons_succ, List.set_cons_zero]
          repeat (go_big_quiet_step (fail))
          refine wpQuiet_nil ?_
          refine NoPanic.normal ?_
          clear hl7 hb7 k1 k2 k3 k4 k5 hne HK6 HC6w H26
          have hwl := HPL.out.2.1
          go_wp2
          go_loopw [13, 84] (fun _ i wr => ∃ j, j ≤ ws.length ∧ i = .int .i64 (j : Nat) ∧ Hid (WS m a1 n1 c1 a2 n2 c2 U g b (putsW v (ws.take j) K2) fe1 wr) ∧ Hid (Chg (fun k => k = b) w7 wr)) (fun _ i _ => ws.length - (intOf i).toNat)
          case atStart => exact ⟨0, by omega, rfl, HK7, Chg.refl _ _⟩
          case round =>
            obtain ⟨j, hj, rfl, HKr, HCr⟩ := hrel
            by_cases hjl : j < ws.length
            · obtain ⟨p, q, o, hp, rfl, d0, d1⟩ := (by
                obtain ⟨_, L, hS, _⟩ := HK7.out
                exact locs_cells (locs_chg_b hS HPL.out HCr.out) hjl : ∃ r b o, ws[j]? = some r ∧ la7 = some ⟨b, o, none⟩ ∧ wr.cell? ⟨b, o + j * 2, none⟩ = some (.bool r.1) ∧ wr.cell? ⟨b, o + j * 2 + 1, none⟩ = some (.int .i64 r.2))
              have hk1 : (j : Int) < (ws.length : Int) := by omega
              have HX : Hid (putsW v (ws.take (j + 1)) K2 = putW v (putsW v (ws.take j) K2) p) := by
                have e : ws.take (j + 1) = ws.take j ++ [p] := by rw [List.take_add_one, hp]; rfl
                rw [Hid, e, putsW_snoc]
              have HPU := Lib.hid (HPP.out p (List.mem_of_getElem? hp))
              generalize hK4 : putsW v (ws.take (j + 1)) K2 = K4 at *
              have HX4 := Lib.hid hK4
              clear hK4
              generalize putsW v (ws.take j) K2 = K3 at *
              obtain ⟨ps1, ps2⟩ := p
              clear hp
              go_upto_region 19 with (fail)
              obtain ⟨w8, hw8⟩ : ∃ w8, w8 = wr.alloc (locO (ps1, ps2)) := ⟨_, rfl⟩
              rw [show wr.alloc (Obj.cells #[.bool ps1, .int .i64 ps2] 34) = w8 from hw8.symm]
              have hb8 : Below wr.heap.size wr w8 := by rw [hw8]; exact ext_alloc _ _
              have hx8 : w8.heap[wr.heap.size]? = some (locO (ps1, ps2)) := by rw [hw8]; exact heap_alloc_new _ _
              have HK8 := Lib.hid (HKr.out.ext hb8)
              have HC8 : Hid (Chg (fun k => k = b) w7 w8) := HCr.out.of_ext hb8
              have HX8 := Lib.hid hx8
              have hlr : wr.heap.size < w8.heap.size := (Array.getElem?_eq_some_iff.1 hx8).1
              have HBR : Hid (b < wr.heap.size) := HKr.out.lt.2.1
              clear hw8 hb8 hx8 d0 d1 HKr HCr
              have hne : Nonempty (ExtW w8) := ⟨⟨w8, Below.refl _ _⟩⟩
              have g0 : ∀ n : ExtW w8, n.val.cell? ⟨g, 0, none⟩ = some (.map (some b)) := fun n => ExtW.cell HK8.out.cells.1 n
              have g1 : ∀ n : ExtW w8, n.val.cell? ⟨wr.heap.size, 0, none⟩ = some (.bool ps1) := fun n => by rw [cell_of_row _ _ _ _ _ _ (block_ext n.ext HX8.out)]; rfl
              have g2 : ∀ n : ExtW w8, n.val.cell? ⟨wr.heap.size, 1, none⟩ = some (.int .i64 ps2) := fun n => by rw [cell_of_row _ _ _ _ _ _ (block_ext n.ext HX8.out)]; rfl
              refine region_mix (fun w' => ∃ n' : ExtW w8, w' = n'.val) [(0, 9, some (9, true)), (10, 0, some (10, false))] (by kernel_rfl) (by kernel_rfl) ⟨⟨_, ext_drewN (Below.refl _ _) 1⟩, rfl⟩ ?_
              simp only [wpMix, List.take_succ_cons, List.take_zero, List.drop_succ_cons, List.drop_zero]
              repeat (go_big_quiet_step (fail))
              refine wpQuiet_nil ?_
              refine wpOp_at rfl rfl ?_
              go_simp
              refine (atW_any m a1 a2 n1 c1 n2 c2 U hU g b K3 fe1 (ps1, ps2) w8.drew HK8.out).mono ?_
              rintro e w9 ⟨vl9, Out9, rfl, ho9, hn9, hm9, hb9⟩
              have hb9 : Below w8.heap.size w8 w9 := unDrew1 hb9
              refine ⟨⟨⟨w9, hb9⟩, rfl⟩, ?_⟩
              obtain ⟨av9, cv9, rfl⟩ := ho9.form
              refine wpQuiet_nil ?_
              refine wpOp_at rfl rfl ?_
              go_simp
              refine (forgetW_any m a1 a2 n1 c1 n2 c2 U g b K3 fe1 av9 _ cv9 Out9 w9 (HK8.out.ext hb9) (ho9.recs csF_len)).mono ?_
              rintro e w10 ⟨rfl, hs10, hc10⟩
              have HK10 : Hid (WS m a1 n1 c1 a2 n2 c2 U g b (cutK K3 Out9) fe1 w10) := hs10
              have HC10 : Hid (Chg (fun k => k = b) w7 w10) := (HC8.out.of_ext hb9).trans hc10
              have HX10 : Hid (w10.heap[wr.heap.size]? = some (locO (ps1, ps2))) := (hc10.block _ (Nat.lt_of_lt_of_le hlr hb9.size) (fun h => by have := HBR.out; omega)).trans (block_ext hb9 HX8.out)
              have HM9 := Lib.hid hm9
              clear ho9 hn9 hm9 hb9 hs10 hc10 g0 g1 g2 hne HX8 HC8 HK8 hlr
              refine NoPanic.normal ?_
              by_cases hv0 : 0 < v
              · have hbv : decide (0 < v) = true := by simpa using hv0
                go_upto_region 21 with (fail)
                have hne : Nonempty (ExtW w10) := ⟨⟨w10, Below.refl _ _⟩⟩
                have g0 : ∀ n : ExtW w10, n.val.cell? ⟨g, 0, none⟩ = some (.map (some b)) := fun n => ExtW.cell HK10.out.cells.1 n
                have g1 : ∀ n : ExtW w10, n.val.cell? ⟨wr.heap.size, 0, none⟩ = some (.bool ps1) := fun n => by rw [cell_of_row _ _ _ _ _ _ (block_ext n.ext HX10.out)]; rfl
                have g2 : ∀ n : ExtW w10, n.val.cell? ⟨wr.heap.size, 1, none⟩ = some (.int .i64 ps2) := fun n => by rw [cell_of_row _ _ _ _ _ _ (block_ext n.ext HX10.out)]; rfl
                refine region_mix (fun w' => ∃ n' : ExtW w10, w' = n'.val) [(0, 7, some (7, false))] (by kernel_rfl) (by kernel_rfl) ⟨⟨_, ext_drewN (Below.refl _ _) 1⟩, rfl⟩ ?_
                simp only [wpMix, List.take_succ_cons, List.take_zero, List.drop_succ_cons, List.drop_zero]
                repeat (go_big_quiet_step (fail))
                refine wpQuiet_nil ?_
                refine wpOp_at rfl rfl ?_
                obtain ⟨_, L, hS, hm', hD⟩ := HK10.out
                refine op_putM _ _ _ rfl keyF mapT (show FSet w10.drew b L from hS) rfl (v, ps1, ps2) rfl rfl ?_
                intro w11 L11 hs11 hm11 hg11 hz11
                have hg11 : w10.grownBy w11 (some b) := ⟨hg11.os, hg11.tape, hg11.output, hg11.size, hg11.block⟩
                have HK11 : Hid (WS m a1 n1 c1 a2 n2 c2 U g b K4 fe1 w11) := HK10.out.put hm' hD hs11 hm11 ⟨HVV2.out hv0, HPU.out⟩ hg11 fun y => by rw [HX.out]; exact putW_some K3 v hv0 (ps1, ps2) Out9 HM9.out y
                have HC11 : Hid (Chg (fun k => k = b) w7 w11) := HC10.out.grown hg11 fun j e => by injection e with e; exact .inl e.symm
                clear hS hm' hD hs11 hm11 hg11 hz11 g0 g1 g2 hne
                try simp only [Act.put, List.setIfInBounds_toArray, List.set_cons_succ, List.set_cons_zero]
                refine NoPanic.normal ?_
                go_wp2
                go_roundw
                case rel => exact ⟨j + 1, by omega, by go_num, by rw [Hid, HX4.out]; exact HK11.out, HC11⟩
                case measure => simp [intOf]; omega
              · have hbv : decide (0 < v) = false := by simpa using hv0
                have HK11 : Hid (WS m a1 n1 c1 a2 n2 c2 U g b K4 fe1 w10) := HK10.out.congr fun y => by rw [HX.out]; exact putW_none K3 v hv0 (ps1, ps2) Out9 HM9.out y
                go_wp2
                go_roundw
                case rel => exact ⟨j + 1, by omega, by go_num, by rw [Hid, HX4.out]; exact HK11.out, HC10⟩
                case measure => simp [intOf]; omega
            · obtain rfl : j = ws.length := by omega
              go_wp2
              go_end0
              refine ⟨rfl, ?_, HC7.out.trans (HCr.out.mono fun k hk => .inr hk)⟩
              have := HKr.out
              rw [List.take_length] at this
              rw [HE9.out]
              exact this
end
end Go.Proofs.YtfpbfdkjcmlimaaGreat
