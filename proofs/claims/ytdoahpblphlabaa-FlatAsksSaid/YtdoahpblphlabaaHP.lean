/-
  Flat: plain laws: the reference's answers (03, 05, 06, 29, 30) are the program's.
-/
import Derived.Test.YtdoahpblphlabaaHF
namespace Go.Proofs.Ytdoahpblphlabaa
set_option linter.unusedSimpArgs false
set_option linter.unusedVariables false
open Go.RowKit

theorem memI_iff (l : List Int) (n : Int) : memI l n = true ↔ n ∈ l := by
  unfold memI
  rw [List.any_eq_true]
  constructor
  · rintro ⟨x, hx, h⟩
    have : x = n := by simpa using h
    rw [← this]; exact hx
  · intro h
    exact ⟨n, h, by simp⟩
theorem ofB_iff2 (regs : Int) (l : List Int) : ofB regs l = true ↔ ∀ k, k < l.length → 0 ≤ l.getD k 0 ∧ l.getD k 0 < regs ∧ l.getD k 0 ∉ l.take k := by
  unfold ofB
  rw [decide_eq_true_iff]
  constructor
  · intro h k hk
    have := h ⟨k, hk⟩
    simpa [List.getD_eq_getElem?_getD, hk] using this
  · intro h i
    have := h i.val i.isLt
    simpa [List.getD_eq_getElem?_getD, i.isLt] using this
theorem sortedB_iff2 (l : List Int) : sortedB l = true ↔ ∀ k, k + 1 < l.length → l.getD k 0 ≤ l.getD (k + 1) 0 := by
  unfold sortedB
  rw [decide_eq_true_iff]
  constructor
  · intro h k hk
    have := h ⟨k, by omega⟩ ⟨k + 1, hk⟩ rfl
    simpa [List.getD_eq_getElem?_getD, hk, show k < l.length by omega] using this
  · intro h i j hij
    have hj := j.isLt
    have := h i.val (by omega)
    rw [hij] at this
    simpa [List.getD_eq_getElem?_getD, i.isLt, j.isLt] using this
theorem mem_take_iff (l : List Int) (k : Nat) (x : Int) : x ∈ l.take k ↔ ∃ j, j < k ∧ j < l.length ∧ l.getD j 0 = x := by
  constructor
  · intro h
    obtain ⟨j, hj, e⟩ := List.mem_iff_getElem.1 h
    rw [List.length_take] at hj
    refine ⟨j, by omega, by omega, ?_⟩
    rw [List.getElem_take] at e
    simp [List.getD_eq_getElem?_getD, show j < l.length by omega, e]
  · rintro ⟨j, h1, h2, e⟩
    refine List.mem_iff_getElem.2 ⟨j, by rw [List.length_take]; omega, ?_⟩
    rw [List.getElem_take]
    simpa [List.getD_eq_getElem?_getD, h2] using e
theorem mem_iff_at (l : List Int) (x : Int) : x ∈ l ↔ ∃ j, j < l.length ∧ l.getD j 0 = x := by
  have := mem_take_iff l l.length x
  rw [List.take_length] at this
  rw [this]
  constructor
  · rintro ⟨j, _, h, e⟩; exact ⟨j, h, e⟩
  · rintro ⟨j, h, e⟩; exact ⟨j, h, h, e⟩
theorem rising_all (l : List Int) (h : ∀ k, k + 1 < l.length → l.getD k 0 < l.getD (k + 1) 0) : ∀ d k, k + d + 1 < l.length → l.getD k 0 < l.getD (k + d + 1) 0 := by
  intro d
  induction d with
  | zero => intro k hk; exact h k hk
  | succ d ih =>
    intro k hk
    have h1 := ih k (by omega)
    have h2 := h (k + d + 1) (by omega)
    rw [show k + (d + 1) + 1 = k + d + 1 + 1 by omega]
    omega
theorem right05_right (m : MachD) : right05B m = rightB m := by
  rw [Bool.eq_iff_iff]
  unfold right05B rightB hd05
  simp only [Bool.and_eq_true, decide_eq_true_eq, Bool.not_eq_true', List.all_eq_true, List.mem_range]
  have hret : memI m.saved m.ret = false ↔ m.ret ∉ m.saved := by
    rw [← memI_iff]; simp
  rw [hret, sortedB_iff2, ofB_iff2, ofB_iff2]
  have ha : (∀ x, x < m.args.length → a05 m x = true) ↔ ∀ k, k < m.args.length → 0 ≤ m.args.getD k 0 ∧ m.args.getD k 0 < m.regs ∧ m.args.getD k 0 ∉ m.args.take k := by
    refine forall_congr' fun k => forall_congr' fun _ => ?_
    unfold a05
    have : memI (m.args.take k) (m.args.getD k 0) = false ↔ m.args.getD k 0 ∉ m.args.take k := by rw [← memI_iff]; simp
    simp only [Bool.and_eq_true, decide_eq_true_eq, Bool.not_eq_true', this, and_assoc]
  rw [ha]
  have hs : (∀ x, x < m.saved.length → s05 m x = true) ↔ ∀ k, k < m.saved.length → 0 ≤ m.saved.getD k 0 ∧ m.saved.getD k 0 < m.regs ∧ (k = 0 ∨ m.saved.getD (k - 1) 0 < m.saved.getD k 0) := by
    refine forall_congr' fun k => forall_congr' fun _ => ?_
    unfold s05
    simp only [Bool.and_eq_true, Bool.or_eq_true, decide_eq_true_eq, and_assoc]
  rw [hs]
  constructor
  · rintro ⟨⟨⟨⟨⟨⟨⟨⟨h1, h2⟩, h3⟩, h4⟩, h5⟩, h6⟩, h7⟩, h8⟩, h9⟩
    have hr : ∀ k, k + 1 < m.saved.length → m.saved.getD k 0 < m.saved.getD (k + 1) 0 := fun k hk => by
      rcases (h9 (k + 1) hk).2.2 with h | h
      · omega
      · exact h
    refine ⟨⟨⟨⟨⟨⟨h1, h2⟩, h3⟩, h4⟩, fun k hk => Int.le_of_lt (hr k hk)⟩, h8⟩, fun k hk => ?_⟩
    cases k with
    | zero => exact ⟨h5, h6, by simp⟩
    | succ k =>
      have hk' : k < m.saved.length := by simpa using hk
      obtain ⟨g1, g2, _⟩ := h9 k hk'
      refine ⟨by simpa using g1, by simpa using g2, ?_⟩
      simp only [List.getD_cons_succ, List.take_succ_cons, List.mem_cons, not_or]
      refine ⟨fun e => h7 ?_, fun hm => ?_⟩
      · rw [← e]; exact (mem_iff_at _ _).2 ⟨k, hk', rfl⟩
      · obtain ⟨j, hj, hjl, e⟩ := (mem_take_iff _ _ _).1 hm
        have := rising_all m.saved hr (k - j - 1) j (by omega)
        rw [show j + (k - j - 1) + 1 = k by omega] at this
        omega
  · rintro ⟨⟨⟨⟨⟨⟨h1, h2⟩, h3⟩, h4⟩, h5⟩, h6⟩, h7⟩
    obtain ⟨r1, r2, _⟩ := h7 0 (by simp)
    have hin : ∀ k, k < m.saved.length → 0 ≤ m.saved.getD k 0 ∧ m.saved.getD k 0 < m.regs ∧ ¬ m.saved.getD k 0 = m.ret ∧ m.saved.getD k 0 ∉ m.saved.take k := fun k hk => by
      obtain ⟨g1, g2, g3⟩ := h7 (k + 1) (by simpa using hk)
      simp only [List.getD_cons_succ, List.take_succ_cons, List.mem_cons, not_or] at g1 g2 g3
      exact ⟨g1, g2, g3.1, g3.2⟩
    refine ⟨⟨⟨⟨⟨⟨⟨⟨h1, h2⟩, h3⟩, h4⟩, by simpa using r1⟩, by simpa using r2⟩, fun hm => ?_⟩, h6⟩, fun k hk => ?_⟩
    · obtain ⟨j, hj, e⟩ := (mem_iff_at _ _).1 hm
      exact (hin j hj).2.2.1 e
    · obtain ⟨g1, g2, _, g4⟩ := hin k hk
      refine ⟨g1, g2, ?_⟩
      cases k with
      | zero => exact Or.inl rfl
      | succ k =>
        right
        have h8 := h5 k hk
        have : m.saved.getD k 0 ≠ m.saved.getD (k + 1) 0 := fun e => g4 ((mem_take_iff _ _ _).2 ⟨k, by omega, by omega, e⟩)
        rw [Nat.add_sub_cancel]
        omega
theorem varI_varB (n : Int) : varI n = varB n := by
  unfold varI varB
  rw [Bool.eq_iff_iff]
  simp
theorem lost5_lost (m : MachD) : lost5L m = lostL m := by
  unfold lost5L lostL
  rw [right05_right, lost5To_lostTo]
theorem is03_isIns (i : InsD) : is03B i (has03V i.op) = isInsB i := by
  have hany : i.args.all varI = !i.args.any (fun x => !varB x) := by
    rw [List.all_eq_not_any_not]
    congr 2
    funext x
    rw [varI_varB]
  have hop : i.op = 1 ∨ (2 ≤ i.op ∧ i.op ≤ 10) ∨ i.op = 11 ∨ i.op = 12 ∨ i.op = 13 ∨ i.op = 14 ∨ (i.op < 1 ∨ 14 < i.op) := by omega
  rcases hop with h | h | h | h | h | h | h
  · have e1 : has03V i.op = ⟨#[100, 105]⟩ := by rw [h]; rfl
    have e2 : shapeD i.op = ((true, false, false, true, false), true) := by rw [h]; rfl
    have f1 : inB ⟨#[100, 105]⟩ 97 = false := rfl
    have f2 : inB ⟨#[100, 105]⟩ 98 = false := rfl
    have f3 : inB ⟨#[100, 105]⟩ 100 = true := rfl
    have f4 : inB ⟨#[100, 105]⟩ 105 = true := rfl
    have f5 : (ByteArray.mk #[100, 105]).toList.isEmpty = false := by kernel_rfl
    have f6 : ((ByteArray.mk #[100, 105]).toList == [99]) = false := by kernel_rfl
    rw [e1]
    simp only [is03B, isInsB, e2, partB, imm03, f1, f2, f3, f4, f5, f6, fitsB, varI_varB, hany, noneB]
    simp only [Bool.false_or, Bool.or_false, Bool.not_false, Bool.not_true, Bool.true_and, Bool.false_and, if_true, if_false, Bool.false_eq_true]
    generalize varB i.dst = vd
    generalize varB i.a = va
    generalize varB i.b = vb
    generalize i.args.length = nl
    generalize (i.args.any fun x => !varB x) = an
    rw [Bool.eq_iff_iff]
    grind
  · have e1 : has03V i.op = ⟨#[100, 97, 98]⟩ := by unfold has03V; rw [if_neg (by omega), if_pos h]
    have e2 : shapeD i.op = ((true, true, true, false, false), true) := by unfold shapeD; rw [if_neg (by omega), if_neg (by omega), if_neg (by omega), if_neg (by omega), if_neg (by omega), decide_eq_true h]
    have f1 : inB ⟨#[100, 97, 98]⟩ 97 = true := rfl
    have f2 : inB ⟨#[100, 97, 98]⟩ 98 = true := rfl
    have f3 : inB ⟨#[100, 97, 98]⟩ 100 = true := rfl
    have f4 : inB ⟨#[100, 97, 98]⟩ 105 = false := rfl
    have f5 : (ByteArray.mk #[100, 97, 98]).toList.isEmpty = false := by kernel_rfl
    have f6 : ((ByteArray.mk #[100, 97, 98]).toList == [99]) = false := by kernel_rfl
    rw [e1]
    simp only [is03B, isInsB, e2, partB, imm03, f1, f2, f3, f4, f5, f6, fitsB, varI_varB, hany, noneB]
    simp only [Bool.false_or, Bool.or_false, Bool.not_false, Bool.not_true, Bool.true_and, Bool.false_and, if_true, if_false, Bool.false_eq_true]
    generalize varB i.dst = vd
    generalize varB i.a = va
    generalize varB i.b = vb
    generalize i.args.length = nl
    generalize (i.args.any fun x => !varB x) = an
    rw [Bool.eq_iff_iff]
    grind
  · have e1 : has03V i.op = ⟨#[100, 97, 105]⟩ := by rw [h]; rfl
    have e2 : shapeD i.op = ((true, true, false, true, false), true) := by rw [h]; rfl
    have f1 : inB ⟨#[100, 97, 105]⟩ 97 = true := rfl
    have f2 : inB ⟨#[100, 97, 105]⟩ 98 = false := rfl
    have f3 : inB ⟨#[100, 97, 105]⟩ 100 = true := rfl
    have f4 : inB ⟨#[100, 97, 105]⟩ 105 = true := rfl
    have f5 : (ByteArray.mk #[100, 97, 105]).toList.isEmpty = false := by kernel_rfl
    have f6 : ((ByteArray.mk #[100, 97, 105]).toList == [99]) = false := by kernel_rfl
    rw [e1]
    simp only [is03B, isInsB, e2, partB, imm03, f1, f2, f3, f4, f5, f6, fitsB, varI_varB, hany, noneB]
    simp only [Bool.false_or, Bool.or_false, Bool.not_false, Bool.not_true, Bool.true_and, Bool.false_and, if_true, if_false, Bool.false_eq_true]
    generalize varB i.dst = vd
    generalize varB i.a = va
    generalize varB i.b = vb
    generalize i.args.length = nl
    generalize (i.args.any fun x => !varB x) = an
    rw [Bool.eq_iff_iff]
    grind
  · have e1 : has03V i.op = ⟨#[97, 98, 105]⟩ := by rw [h]; rfl
    have e2 : shapeD i.op = ((false, true, true, true, false), true) := by rw [h]; rfl
    have f1 : inB ⟨#[97, 98, 105]⟩ 97 = true := rfl
    have f2 : inB ⟨#[97, 98, 105]⟩ 98 = true := rfl
    have f3 : inB ⟨#[97, 98, 105]⟩ 100 = false := rfl
    have f4 : inB ⟨#[97, 98, 105]⟩ 105 = true := rfl
    have f5 : (ByteArray.mk #[97, 98, 105]).toList.isEmpty = false := by kernel_rfl
    have f6 : ((ByteArray.mk #[97, 98, 105]).toList == [99]) = false := by kernel_rfl
    rw [e1]
    simp only [is03B, isInsB, e2, partB, imm03, f1, f2, f3, f4, f5, f6, fitsB, varI_varB, hany, noneB]
    simp only [Bool.false_or, Bool.or_false, Bool.not_false, Bool.not_true, Bool.true_and, Bool.false_and, if_true, if_false, Bool.false_eq_true]
    generalize varB i.dst = vd
    generalize varB i.a = va
    generalize varB i.b = vb
    generalize i.args.length = nl
    generalize (i.args.any fun x => !varB x) = an
    rw [Bool.eq_iff_iff]
    grind
  · have e1 : has03V i.op = ⟨#[99]⟩ := by rw [h]; rfl
    have e2 : shapeD i.op = ((false, false, false, false, true), true) := by rw [h]; rfl
    have f1 : inB ⟨#[99]⟩ 97 = false := rfl
    have f2 : inB ⟨#[99]⟩ 98 = false := rfl
    have f3 : inB ⟨#[99]⟩ 100 = false := rfl
    have f4 : inB ⟨#[99]⟩ 105 = false := rfl
    have f5 : (ByteArray.mk #[99]).toList.isEmpty = false := by kernel_rfl
    have f6 : ((ByteArray.mk #[99]).toList == [99]) = true := by kernel_rfl
    rw [e1]
    simp only [is03B, isInsB, e2, partB, imm03, f1, f2, f3, f4, f5, f6, fitsB, varI_varB, hany, noneB]
    simp only [Bool.false_or, Bool.or_false, Bool.not_false, Bool.not_true, Bool.true_and, Bool.false_and, if_true, if_false, Bool.false_eq_true]
    generalize varB i.dst = vd
    generalize varB i.a = va
    generalize varB i.b = vb
    generalize i.args.length = nl
    generalize (i.args.any fun x => !varB x) = an
    rw [Bool.eq_iff_iff]
    grind
  · have e1 : has03V i.op = ⟨#[100, 97]⟩ := by rw [h]; rfl
    have e2 : shapeD i.op = ((true, true, false, false, false), true) := by rw [h]; rfl
    have f1 : inB ⟨#[100, 97]⟩ 97 = true := rfl
    have f2 : inB ⟨#[100, 97]⟩ 98 = false := rfl
    have f3 : inB ⟨#[100, 97]⟩ 100 = true := rfl
    have f4 : inB ⟨#[100, 97]⟩ 105 = false := rfl
    have f5 : (ByteArray.mk #[100, 97]).toList.isEmpty = false := by kernel_rfl
    have f6 : ((ByteArray.mk #[100, 97]).toList == [99]) = false := by kernel_rfl
    rw [e1]
    simp only [is03B, isInsB, e2, partB, imm03, f1, f2, f3, f4, f5, f6, fitsB, varI_varB, hany, noneB]
    simp only [Bool.false_or, Bool.or_false, Bool.not_false, Bool.not_true, Bool.true_and, Bool.false_and, if_true, if_false, Bool.false_eq_true]
    generalize varB i.dst = vd
    generalize varB i.a = va
    generalize varB i.b = vb
    generalize i.args.length = nl
    generalize (i.args.any fun x => !varB x) = an
    rw [Bool.eq_iff_iff]
    grind
  · have e1 : has03V i.op = ⟨#[]⟩ := by
      unfold has03V
      rw [if_neg (by omega), if_neg (by omega), if_neg (by omega), if_neg (by omega), if_neg (by omega), if_neg (by omega)]
    have e2 : (shapeD i.op).2 = false := by
      unfold shapeD
      rw [if_neg (by omega), if_neg (by omega), if_neg (by omega), if_neg (by omega), if_neg (by omega)]
      simp; omega
    have f5 : (ByteArray.mk #[]).toList.isEmpty = true := by kernel_rfl
    rw [e1]
    simp [is03B, isInsB, e2, f5]
theorem def03_defines (i : InsD) : def03V i = definesV i := by
  unfold def03V definesV
  rw [is03_isIns]
theorem w30_writes (m : MachD) (t : InsD) : w30 m t = writesL m t := by
  have hop : t.op = 1 ∨ (2 ≤ t.op ∧ t.op ≤ 10) ∨ t.op = 11 ∨ t.op = 12 ∨ t.op = 13 ∨ t.op = 15 ∨ t.op = 16 ∨ t.op = 17 ∨ (t.op < 1 ∨ t.op = 14 ∨ 17 < t.op) := by omega
  unfold w30 writes06L writesL
  rcases hop with h | h | h | h | h | h | h | h | h
  · rw [h]; rfl
  · have e1 : has06V t.op = ⟨#[100, 97, 98]⟩ := by unfold has06V; rw [if_neg (by omega), if_pos h]
    have e2 : hasV t.op = 7 := by unfold hasV; rw [if_neg (by omega), if_pos h]
    rw [e1, e2]; rfl
  · rw [h]; rfl
  · rw [h]
    have f6 : ((has06V 12).toList == [99]) = false := by kernel_rfl
    rw [f6]; rfl
  · rw [h]
    have f6 : ((has06V 13).toList == [99]) = true := by kernel_rfl
    rw [f6]; rfl
  · rw [h]; rfl
  · rw [h]; rfl
  · rw [h]; rfl
  · have e1 : has06V t.op = ⟨#[]⟩ := by
      unfold has06V
      rw [if_neg (by omega), if_neg (by omega), if_neg (by omega), if_neg (by omega), if_neg (by omega), if_neg (by omega), if_neg (by omega), if_neg (by omega)]
    have e2 : hasV t.op = 0 := by
      unfold hasV
      rw [if_neg (by omega), if_neg (by omega), if_neg (by omega), if_neg (by omega), if_neg (by omega), if_neg (by omega), if_neg (by omega), if_neg (by omega)]
    have e3 : (t.op == 16) = false := by simp; omega
    have f6 : ((ByteArray.mk #[]).toList == [99]) = false := by kernel_rfl
    rw [e1, e2, e3, f6]; rfl
theorem reads06_reads (m : MachD) (t : InsD) (h : insB t.op = true) : reads06L t = readsL m t := by
  simp only [insB, decide_eq_true_eq] at h
  unfold reads06L readsL
  rcases h with h | h | h <;> rw [h] <;> rfl
theorem first30_firstIs (l : List (Bool × Int)) (p : Bool × Int) : first30 l p = firstIs l p := by
  unfold first30 firstIs
  split
  · rfl
  · rw [sameLoc_comm]
theorem idx_mem (l : List Int) (x : Int) : decide (0 ≤ idx l x) = memI l x := by
  rw [Bool.eq_iff_iff, memI_iff, decide_eq_true_iff]
  have := idx_neg_iff l x
  constructor
  · intro h
    by_cases hm : x ∈ l
    · exact hm
    · have := this.2 hm; omega
  · intro h
    by_cases h0 : idx l x < 0
    · exact absurd h (this.1 h0)
    · omega
theorem eqFB_and {α : Type} (p : α → α → Bool) (q : α → Bool) (l m : List α) : eqFB (fun r u => p r u && !q u) l m = (eqFB p l m && !m.any q) := by
  induction l generalizing m with
  | nil => cases m with
    | nil => rfl
    | cons y m => simp [eqFB]
  | cons x l ih => cases m with
    | nil => simp [eqFB]
    | cons y m =>
      simp only [eqFB, ih, List.any_cons, Bool.not_or]
      cases p x y <;> cases q y <;> simp
theorem does29_does (m : MachD) (s t : BlkD) : does29B m s t = doesB m s t := by
  unfold does29B doesB
  have : eqFB (same29 m.args.length) (bareS s) (bareT t) = (eqFB alikeR (bareS s) (bareT t) && !manyB m.args.length (bareT t)) := eqFB_and alikeR (isMany m.args.length) _ _
  rw [right05_right, this, ← Bool.and_assoc]
/-- the program's event of the reference's -/
def toEv (m : MachD) (e : Ev30) : EvD := if e.what = 1 then .copied e.s.d.dst e.s.d.a else if e.what = 2 then insEv m e.t else if e.what = 3 then .done e.s e.t (e.s.d.op == 13) else .ended
theorem takeWhile_all {α : Type} (p : α → Bool) (l : List α) (h : ∀ x ∈ l, p x = true) : l.takeWhile p = l := by
  induction l with
  | nil => rfl
  | cons x l ih => rw [List.takeWhile_cons, if_pos (h x (by simp)), ih (fun y hy => h y (by simp [hy]))]
theorem even_nil {tl : List InsR} (h : Even [] tl) : tl.takeWhile isInserted = tl := by
  refine takeWhile_all _ _ ?_
  intro x hx
  unfold Even at h
  cases hq : isInserted x with
  | true => rfl
  | false =>
    have : x ∈ tl.filter fun x => !isInserted x := List.mem_filter.2 ⟨hx, by simp [hq]⟩
    rw [List.eq_nil_of_length_eq_zero h.symm] at this
    cases this
theorem evGo_go30 (m : MachD) : ∀ (sl tl : List InsR), Even sl tl → evGo m sl tl = (go30 sl tl).map (toEv m)
  | [], tl, h => by
    rw [evGo_end, go30_end, even_nil h, List.map_append, List.map_map]
    rfl
  | i :: sl, tl, h => by
    cases hc : isCopy i with
    | true =>
      rw [evGo_copy m i sl tl hc, go30_copy i sl tl hc, List.map_cons, evGo_go30 m sl tl (h.copy hc)]
      rfl
    | false =>
      obtain ⟨u, tl', hd, hev⟩ := h.next hc
      rw [evGo_done m i u sl tl tl' hc hd, go30_done i u sl tl tl' hc hd, List.map_append, List.map_cons, List.map_map, evGo_go30 m sl tl' hev]
      rfl
theorem ahead_ask (m : MachD) (e : Ev30) (x : Int × Bool × Int) (hw : Ev30What e) : (aheadV m (toEv m e) x).1 = (ask30V m e x).1 ∧ ((ask30V m e x).1 = 3 → (aheadV m (toEv m e) x).2 = (ask30V m e x).2) := by
  obtain ⟨k, s, t⟩ := e
  rcases hw with h | ⟨h, hi⟩ | h | h
  · obtain rfl : k = 1 := h
    simp only [toEv, ask30V, aheadV, if_true]
    by_cases hd : x.1 = s.d.dst
    · simp [hd]
    · simp [hd]
  · obtain rfl : k = 2 := h
    have hi' : insB t.d.op = true := hi
    obtain ⟨p1, hp1⟩ := ins_reads m t hi
    obtain ⟨p2, hp2⟩ := ins_writes m t hi
    have e1 : toEv m ⟨2, s, t⟩ = .inserted p1 p2 := by
      simp only [toEv]
      rw [if_neg (by decide), if_pos trivial, insEv, hp1, hp2]
      rfl
    have e2 : w30 m t.d = [p2] := by rw [w30_writes, hp2]
    have e3 : reads06L t.d = [p1] := by rw [reads06_reads m t.d hi', hp1]
    rw [e1]
    simp only [ask30V, aheadV, e2, e3, first30, headL]
    cases hq : sameLoc x.2 p2 <;> simp
  · obtain rfl : k = 3 := h
    have e1 : toEv m ⟨3, s, t⟩ = .done s t (s.d.op == 13) := by
      simp only [toEv]
      rw [if_neg (by decide), if_neg (by decide), if_pos trivial]
    rw [e1]
    have o1 : own30 s.d x = ownB s.d x := by unfold own30 ownB; rw [def03_defines]
    have o2 : lost30 m s.d x.2 = ((s.d.op == 13) && lostAt m x.2) := by
      unfold lost30 lostAt
      rw [idx_mem, lost5_lost, Bool.and_assoc]
    simp only [ask30V, aheadV, askV, o1, o2, w30_writes, first30_firstIs, holdsB_has]
    generalize ownB s.d x = b1
    generalize firstIs (writesL m t.d) x.2 = b2
    generalize hasLoc (writesL m t.d) x.2 = b3
    generalize lostAt m x.2 = b4
    generalize (s.d.op == 13) = b5
    cases b1 <;> cases b2 <;> cases b3 <;> cases b4 <;> cases b5 <;> simp
  · obtain rfl : k = 4 := h
    have e1 : toEv m ⟨4, s, t⟩ = .ended := by
      simp only [toEv]
      rw [if_neg (by decide), if_neg (by decide), if_neg (by decide)]
    rw [e1]
    simp [ask30V, aheadV]
theorem beforeGo_30 (m : MachD) : ∀ (es : List Ev30) (x : Int × Bool × Int), (∀ e ∈ es, Ev30What e) → beforeGo m (es.map (toEv m)) x = before30Go m es x
  | [], x, _ => rfl
  | e :: es, x, h => by
    obtain ⟨h1, h2⟩ := ahead_ask m e x (h e (by simp))
    rw [List.map_cons, beforeGo, before30Go, h1]
    by_cases h3 : (ask30V m e x).1 = 3
    · rw [if_pos h3, if_pos h3, h2 h3]
      exact beforeGo_30 m es _ (fun e he => h e (by simp [he]))
    · rw [if_neg h3, if_neg h3]
theorem go30_what : ∀ (sl tl : List InsR), Even sl tl → ∀ e ∈ go30 sl tl, Ev30What e
  | [], tl, he => by
    intro e hm
    rw [go30_end, List.mem_append] at hm
    rcases hm with hm | hm
    · obtain ⟨r, hr, rfl⟩ := List.mem_map.1 hm
      refine Or.inr (Or.inl ⟨rfl, ?_⟩)
      rw [← even_nil he] at hr
      exact List.all_eq_true.1 List.all_takeWhile r hr
    · rw [List.mem_singleton] at hm; subst hm; exact Or.inr (Or.inr (Or.inr rfl))
  | i :: sl, tl, he => by
    intro e hm
    cases hc : isCopy i with
    | true =>
      rw [go30_copy i sl tl hc, List.mem_cons] at hm
      rcases hm with rfl | hm
      · exact Or.inl rfl
      · exact go30_what sl tl (he.copy hc) e hm
    | false =>
      obtain ⟨u, tl', hd, hev⟩ := he.next hc
      rw [go30_done i u sl tl tl' hc hd, List.mem_append, List.mem_cons] at hm
      rcases hm with hm | rfl | hm
      · obtain ⟨r, hr, rfl⟩ := List.mem_map.1 hm
        exact Or.inr (Or.inl ⟨rfl, List.all_eq_true.1 List.all_takeWhile r hr⟩)
      · exact Or.inr (Or.inr (Or.inl rfl))
      · exact go30_what sl tl' hev e hm
theorem events_30 (m : MachD) (s t : BlkD) : events30N m s t = eventsN m s t := by
  unfold events30N eventsN
  rw [does29_does]
  cases hd : doesB m s t with
  | false => rfl
  | true => simp only [if_true]; rw [evGo_go30 m _ _ (even_of_does hd), List.length_map]
theorem before_30 (m : MachD) (s t : BlkD) (n : Int) (x : Int × Bool × Int) : before30B m s t n x = beforeB m s t n x := by
  unfold before30B beforeB
  rw [does29_does]
  cases hd : doesB m s t with
  | false => rfl
  | true =>
    have he := even_of_does hd
    have hb : beforeV m ((evGo m s.ins t.ins).take n.toNat) x = before30V m ((go30 s.ins t.ins).take n.toNat) x := by
      unfold beforeV before30V
      rw [evGo_go30 m _ _ he, ← List.map_take, ← List.map_reverse]
      exact beforeGo_30 m _ _ (fun e hm => go30_what _ _ he e (List.mem_of_mem_take (List.mem_reverse.1 hm)))
    simp only [if_true]
    rw [hb, evGo_go30 m _ _ he, List.length_map]
/-- what is told depends on what the instructions are, not on where their arguments lie -/
def eR (r : InsR) : InsR := ⟨r.d, none, 0, 0⟩
def eB (s : BlkD) : BlkD := ⟨s.ins.map eR, s.kind, s.a, s.to0, s.to1⟩
def eE : EvD → EvD
  | .done s t l => .done (eR s) (eR t) l
  | e => e
theorem eqFB_er (l m : List InsR) : eqFB alikeR (l.map eR) (m.map eR) = eqFB alikeR l m := by
  induction l generalizing m with
  | nil => cases m <;> rfl
  | cons x l ih => cases m with
    | nil => rfl
    | cons y m =>
      simp only [List.map_cons, eqFB, ih]
      rfl
theorem bareS_er (s : BlkD) : bareS (eB s) = (bareS s).map eR := by
  unfold bareS eB
  simp only [List.filter_map]
  rfl
theorem bareT_er (s : BlkD) : bareT (eB s) = (bareT s).map eR := by
  unfold bareT eB
  simp only [List.filter_map]
  rfl
theorem does_er (m : MachD) (s t : BlkD) : doesB m (eB s) (eB t) = doesB m s t := by
  unfold doesB
  rw [bareS_er, bareT_er, eqFB_er]
  have : manyB m.args.length ((bareT t).map eR) = manyB m.args.length (bareT t) := by
    unfold manyB
    rw [List.any_map]
    rfl
  rw [this]
  rfl
theorem takeWhile_er (l : List InsR) : (l.map eR).takeWhile isInserted = (l.takeWhile isInserted).map eR := by
  induction l with
  | nil => rfl
  | cons x l ih =>
    rw [List.map_cons, List.takeWhile_cons, List.takeWhile_cons, show isInserted (eR x) = isInserted x from rfl]
    cases isInserted x
    · rfl
    · simp only [if_true, List.map_cons, ih]
theorem dropWhile_er (l : List InsR) : (l.map eR).dropWhile isInserted = (l.dropWhile isInserted).map eR := by
  induction l with
  | nil => rfl
  | cons x l ih =>
    rw [List.map_cons, List.dropWhile_cons, List.dropWhile_cons, show isInserted (eR x) = isInserted x from rfl]
    cases isInserted x
    · rfl
    · simp only [if_true, ih]
theorem evGo_er (m : MachD) : ∀ (sl tl : List InsR), evGo m (sl.map eR) (tl.map eR) = (evGo m sl tl).map eE
  | [], tl => by
    rw [List.map_nil, evGo_end, evGo_end, takeWhile_er, List.map_append, List.map_map, List.map_map]
    rfl
  | i :: sl, tl => by
    cases hc : isCopy i with
    | true =>
      rw [List.map_cons, evGo_copy m i sl tl hc, evGo_copy m (eR i) _ _ hc, evGo_er m sl tl, List.map_cons]
      rfl
    | false =>
      cases hd : tl.dropWhile isInserted with
      | nil =>
        have hd2 : (tl.map eR).dropWhile isInserted = [] := by rw [dropWhile_er, hd]; rfl
        rw [List.map_cons, evGo, if_neg (by rw [show isCopy (eR i) = isCopy i from rfl, hc]; simp), hd2, evGo, if_neg (by rw [hc]; simp), hd, takeWhile_er, List.append_nil, List.append_nil, List.map_map, List.map_map]
        rfl
      | cons u tl' =>
        have hd2 : (tl.map eR).dropWhile isInserted = eR u :: tl'.map eR := by rw [dropWhile_er, hd]; rfl
        rw [List.map_cons, evGo_done m (eR i) (eR u) _ _ _ hc hd2, evGo_done m i u sl tl tl' hc hd, takeWhile_er, evGo_er m sl tl', List.map_append, List.map_cons, List.map_map, List.map_map]
        rfl
theorem ahead_er (m : MachD) (e : EvD) (x : Int × Bool × Int) : aheadV m (eE e) x = aheadV m e x := by cases e <;> rfl
theorem beforeGo_er (m : MachD) : ∀ (es : List EvD) (x : Int × Bool × Int), beforeGo m (es.map eE) x = beforeGo m es x
  | [], x => rfl
  | e :: es, x => by
    rw [List.map_cons, beforeGo, beforeGo, ahead_er]
    by_cases h3 : (aheadV m e x).1 = 3
    · rw [if_pos h3, if_pos h3, beforeGo_er m es]
    · rw [if_neg h3, if_neg h3]
theorem events_er (m : MachD) (s t : BlkD) : eventsN m (eB s) (eB t) = eventsN m s t := by
  unfold eventsN
  rw [does_er, show (eB s).ins = s.ins.map eR from rfl, show (eB t).ins = t.ins.map eR from rfl, evGo_er, List.length_map]
theorem before_er (m : MachD) (s t : BlkD) (n : Int) (x : Int × Bool × Int) : beforeB m (eB s) (eB t) n x = beforeB m s t n x := by
  unfold beforeB
  rw [does_er, show (eB s).ins = s.ins.map eR from rfl, show (eB t).ins = t.ins.map eR from rfl, evGo_er, List.length_map]
  have : beforeV m (((evGo m s.ins t.ins).map eE).take n.toNat) x = beforeV m ((evGo m s.ins t.ins).take n.toNat) x := by
    unfold beforeV
    rw [← List.map_take, ← List.map_reverse, beforeGo_er]
  rw [this]
theorem er_of_same {rs ss : List InsR} (h : SameR rs ss) : rs.map eR = ss.map eR := by
  refine List.ext_getElem? fun k => ?_
  rw [List.getElem?_map, List.getElem?_map]
  by_cases hk : k < rs.length
  · have hk2 : k < ss.length := by rw [← h.1]; exact hk
    rw [List.getElem?_eq_getElem hk, List.getElem?_eq_getElem hk2]
    simp only [Option.map_some, Option.some.injEq, eR]
    rw [h.2 k rs[k] ss[k] (List.getElem?_eq_getElem hk) (List.getElem?_eq_getElem hk2)]
  · rw [List.getElem?_eq_none (by omega), List.getElem?_eq_none (by rw [← h.1]; omega)]
/-- a block with other instructions -/
def withI (s : BlkD) (rs : List InsR) : BlkD := ⟨rs, s.kind, s.a, s.to0, s.to1⟩
theorem eB_with {s : BlkD} {rs : List InsR} (h : SameR rs s.ins) : eB (withI s rs) = eB s := by
  unfold eB withI
  simp only [er_of_same h]
theorem events_lent (m : MachD) (s t : BlkD) (rs ts : List InsR) (hs : SameR rs s.ins) (ht : SameR ts t.ins) : eventsN m (withI s rs) (withI t ts) = events30N m s t := by
  rw [events_30, ← events_er, eB_with hs, eB_with ht, events_er]
theorem before_lent (m : MachD) (s t : BlkD) (rs ts : List InsR) (hs : SameR rs s.ins) (ht : SameR ts t.ins) (n : Int) (x : Int × Bool × Int) : beforeB m (withI s rs) (withI t ts) n x = before30B m s t n x := by
  rw [before_30, ← before_er, eB_with hs, eB_with ht, before_er]
end Go.Proofs.Ytdoahpblphlabaa
