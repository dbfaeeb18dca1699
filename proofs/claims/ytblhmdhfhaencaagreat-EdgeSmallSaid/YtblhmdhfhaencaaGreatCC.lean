/-
 Building tiles, plain: conditionals. No program in sight.
-/
import Derived.Test.YtblhmdhfhaencaaGreatBP
namespace Go.Proofs.YtblhmdhfhaencaaGreat
set_option linter.unusedSimpArgs false
set_option linter.unusedVariables false
set_option linter.unusedSectionVars false
set_option maxRecDepth 100000
set_option maxHeartbeats 40000000
section
def wholeP (n : Nat) : PartD := ⟨wholeS n, 1, 0⟩
def smallStep (k : Nat) (best p : PartD) : PartD := if p.s k && withinB p.s best.s then p else best
def smallestP (n : Nat) (ps : List PartD) (k : Nat) : PartD := ps.foldl (smallStep k) (wholeP n)
def guardedP (ts : List TermD) (k : Nat) (of : Nat → Bool) : Nat → Bool := fun x => of x && !(x == 0 || walkF (nx ts) (lessS (wholeS ts.length) k) 0 x)
def condP (ts : List TermD) (ps : List PartD) (k : Nat) : Option PartD :=
 if (pv ts k).length = 1 ∧ (nx ts ((pv ts k).headD 0)).length = 2 ∧ (smallestP ts.length ps k).kind ≠ 3 ∧ (smallestP ts.length ps k).entry ≠ k ∧ 1 < (listS (guardedP ts k (smallestP ts.length ps k).s)).length then
  some ⟨guardedP ts k (smallestP ts.length ps k).s, 4, k⟩ else none
def condsP (ts : List TermD) (ps : List PartD) : List PartD := (List.range ts.length).filterMap (condP ts ps)
def partsP (ts : List TermD) : List PartD := loopsP ts 201 (wholeS ts.length) ++ condsP ts (loopsP ts 201 (wholeS ts.length))
def Strict (a b : Nat → Bool) : Prop := (∀ y, a y = true → b y = true) ∧ ∃ y, b y = true ∧ a y = false
theorem within_iff {a b : Nat → Bool} (ha : Canon a) (hb : Canon b) : withinB a b = true ↔ Strict a b := by
 simp only [withinB, Bool.and_eq_true, List.all_eq_true, Bool.not_eq_true']
 constructor
 · rintro ⟨h1, h2⟩;have h1 : ∀ y, a y = true → b y = true := fun y hy => h1 y ((mem_listS ha y).2 hy);refine ⟨h1, Classical.byContradiction fun hn => ?_⟩;have e : a = b := by
    funext y
    cases e : b y with
    | false =>
      cases e2 : a y with
      | false => rfl
      | true => rw [h1 y e2] at e; cases e
    | true =>
      cases e2 : a y with
      | true => rfl
      | false => exact absurd ⟨y, e, e2⟩ hn
   rw [(eqS_iff ha hb).2 e] at h2;cases h2
 · rintro ⟨h1, y, h2, h3⟩;refine ⟨fun y hy => h1 y ((mem_listS ha y).1 hy), ?_⟩;cases e : eqS a b with
   | false => rfl
   | true => rw [(eqS_iff ha hb).1 e, h2] at h3; cases h3
def Disj (a b : Nat → Bool) : Prop := ∀ y, a y = true → b y = false
theorem Disj.symm {a b : Nat → Bool} (h : Disj a b) : Disj b a := fun y hy => by
 cases e : a y with
 | false => rfl
 | true => rw [h y e] at hy; cases hy
def ApartP (p q : PartD) : Prop := Disj p.s q.s ∨ Strict p.s q.s ∨ Strict q.s p.s
theorem ApartP.symm {p q : PartD} (h : ApartP p q) : ApartP q p := h.elim (fun h => .inl h.symm) fun h => .inr h.symm
theorem Strict.irrefl {a : Nat → Bool} (h : Strict a a) : False := by obtain ⟨_, y, h1, h2⟩ := h; rw [h1] at h2; cases h2
theorem Strict.trans {a b c : Nat → Bool} (h : Strict a b) (k : Strict b c) : Strict a c := by
 obtain ⟨h1, y, h2, h3⟩ := h
 exact ⟨fun y hy => k.1 y (h1 y hy), y, k.1 y h2, h3⟩
theorem Strict.asymm {a b : Nat → Bool} (h : Strict a b) (k : Strict b a) : False := (h.trans k).irrefl
def Dom (ts : List TermD) (k x : Nat) : Prop := ¬ Reach (nx ts) (lessS (wholeS ts.length) k) 0 x
section
variable {ts : List TermD}
theorem dom_self (k : Nat) : Dom ts k k := fun h => by have := h.inn; simp [lessS] at this
theorem whole_less {k y : Nat} : lessS (wholeS ts.length) k y = true ↔ y ≠ k ∧ y < ts.length := by simp [lessS, wholeS]
theorem dom_trans {a b x : Nat} (h : Dom ts a b) (k : Dom ts b x) : Dom ts a x := by
 intro hr
 have key : ∀ y, Reach (nx ts) (lessS (wholeS ts.length) a) 0 y → Reach (nx ts) (lessS (wholeS ts.length) b) 0 y := by
  intro y hr
  induction hr with
  | @one y hy hi =>
    by_cases e : y = b
    · subst e; exact absurd (.one hy hi) h
    · exact .one hy (whole_less.2 ⟨e, (whole_less.1 hi).2⟩)
  | @step x y hx hy hi ih =>
    by_cases e : y = b
    · subst e; exact absurd (.step hx hy hi) h
    · exact .step ih hy (whole_less.2 ⟨e, (whole_less.1 hi).2⟩)
 exact k (key x hr)
theorem dom_anti {a b : Nat} (hr : Reach (nx ts) (wholeS ts.length) 0 a) (hne : a ≠ b) (h : Dom ts a b) (k : Dom ts b a) : False := by
 have key : ∀ y, Reach (nx ts) (wholeS ts.length) 0 y → Reach (nx ts) (lessS (lessS (wholeS ts.length) a) b) 0 y := by
  have ex : ∀ y x, (x = 0 ∨ Reach (nx ts) (lessS (lessS (wholeS ts.length) a) b) 0 x) → y ∈ nx ts x → wholeS ts.length y = true → Reach (nx ts) (lessS (lessS (wholeS ts.length) a) b) 0 y := by
   intro y x hx hy hi;have hi2 : y < ts.length := by simpa [wholeS] using hi
   have up : ∀ (c : Nat), (∀ z, lessS (lessS (wholeS ts.length) a) b z = true → lessS (wholeS ts.length) c z = true) → y ≠ c → Reach (nx ts) (lessS (wholeS ts.length) c) 0 y := fun c hc hyc => by
    rcases hx with rfl | hx
    · exact .one hy (whole_less.2 ⟨hyc, hi2⟩)
    · exact .step (hx.mono hc) hy (whole_less.2 ⟨hyc, hi2⟩)
   by_cases e1 : y = a
   · subst e1;exact absurd (up b (fun z hz => by simp [lessS] at hz ⊢; exact ⟨hz.1, hz.2.2⟩) hne) k
   · by_cases e2 : y = b
     · subst e2;exact absurd (up a (fun z hz => by simp [lessS] at hz ⊢; exact hz.2) (fun e => hne e.symm)) h
     · have hin : lessS (lessS (wholeS ts.length) a) b y = true := by simp [lessS, wholeS, e1, e2, hi2]
       rcases hx with rfl | hx
       · exact .one hy hin
       · exact .step hx hy hin
  intro y hr
  induction hr with
  | one hy hi => exact ex _ _ (.inl rfl) hy hi
  | step hx hy hi ih => exact ex _ _ (.inr ih) hy hi
 have := (key a hr).inn
 simp [lessS] at this
theorem dom_chain {a b x : Nat} (hr : Reach (nx ts) (wholeS ts.length) 0 x) (h : Dom ts a x) (k : Dom ts b x) : Dom ts a b ∨ Dom ts b a := by
 apply Classical.byContradiction
 intro hn
 rw [not_or] at hn
 have h1 := Classical.not_not.1 hn.1
 have h2 := Classical.not_not.1 hn.2
 have key : ∀ y, Reach (nx ts) (wholeS ts.length) 0 y → Reach (nx ts) (lessS (wholeS ts.length) a) 0 y ∨ Reach (nx ts) (lessS (wholeS ts.length) b) 0 y := by
  intro y hr
  induction hr with
  | @one y hy hi =>
    have hi2 : y < ts.length := by simpa [wholeS] using hi
    by_cases e : y = a
    · subst e; exact .inr h2
    · exact .inl (.one hy (whole_less.2 ⟨e, hi2⟩))
  | @step x y hx hy hi ih =>
    have hi2 : y < ts.length := by simpa [wholeS] using hi
    by_cases e : y = a
    · subst e; exact .inr h2
    · by_cases e2 : y = b
      · subst e2; exact .inl h1
      · rcases ih with ih | ih
        · exact .inl (.step ih hy (whole_less.2 ⟨e, hi2⟩))
        · exact .inr (.step ih hy (whole_less.2 ⟨e2, hi2⟩))
 rcases key x hr with hk | hk
 · exact h hk
 · exact k hk
theorem dom_all {s : Nat → Bool} (hs : ∀ y, s y = true → y < ts.length) (ht : ∀ a b, s a = true → s b = true → Reach (nx ts) s a b) {k x : Nat} (hk : s k = false) (hx : s x = true) (hd : Dom ts k x) : ∀ y, s y = true → Dom ts k y := by
 intro y hy hr
 refine hd (hr.trans ((ht y x hy hx).mono fun z hz => whole_less.2 ⟨fun e => ?_, hs z hz⟩))
 subst e
 rw [hk] at hz
 cases hz
theorem reach_first {next : Nat → List Nat} {inn : Nat → Bool} {a b : Nat} (h : Reach next inn a b) (s : Nat → Bool) (ha : s a = false) (hb : s b = true) : ∃ x y, (x = a ∨ Reach next (diffS inn s) a x) ∧ s x = false ∧ y ∈ next x ∧ s y = true ∧ inn y = true := by
 have key : ∀ y, Reach next inn a y → (∃ x z, (x = a ∨ Reach next (diffS inn s) a x) ∧ s x = false ∧ z ∈ next x ∧ s z = true ∧ inn z = true) ∨ (s y = false ∧ Reach next (diffS inn s) a y) := by
  have ex : ∀ x y, s x = false → (x = a ∨ Reach next (diffS inn s) a x) → y ∈ next x → inn y = true → (∃ x z, (x = a ∨ Reach next (diffS inn s) a x) ∧ s x = false ∧ z ∈ next x ∧ s z = true ∧ inn z = true) ∨ (s y = false ∧ Reach next (diffS inn s) a y) := by
   intro x y hsx hx hy hi;cases e : s y with
   | true => exact .inl ⟨x, y, hx, hsx, hy, e, hi⟩
   | false =>
     have hd : diffS inn s y = true := by simp [diffS, e, hi]
     refine .inr ⟨rfl, ?_⟩;rcases hx with rfl | hx
     · exact .one hy hd
     · exact .step hx hy hd
  intro y hr
  induction hr with
  | one hy hi => exact ex _ _ ha (.inl rfl) hy hi
  | step hx hy hi ih =>
    rcases ih with ih | ⟨h1, h2⟩
    · exact .inl ih
    · exact ex _ _ h1 (.inr h2) hy hi
 rcases key b h with h1 | ⟨h1, _⟩
 · exact h1
 · rw [hb] at h1; cases h1
theorem entry_free {p : PartD} (hf : fitsB ts = true) (hok : LoopOK ts p) (h2 : p.kind = 2) {k : Nat} (hk : p.s k = true) (hne : k ≠ p.entry.toNat) : ¬ Dom ts k p.entry.toNat ∧ p.s p.entry.toNat = true := by
 obtain ⟨hg, hl, hr⟩ := fits_facts hf
 have hcan : Canon p.s := fun y hy => by have := hok.low y hy; omega
 have he : entriesS ts p.s = [p.entry.toNat] := by
  rcases hok.ent with ⟨h, _⟩ | ⟨_, _, h⟩
  · rw [h2] at h; cases h
  · exact h
 have hes := (mem_entries hcan p.entry.toNat).1 (by rw [he]; simp)
 refine ⟨fun hd => ?_, hes.1⟩
 have h0 : p.s 0 = false := by
  cases e : p.s 0 with
  | false => rfl
  | true => have := hok.low 0 e; omega
 obtain ⟨x, y, hx, h3, h4, h5, h6⟩ := reach_first (hr k (hok.low k hk).1 (hok.low k hk).2) p.s h0 hk
 have hy : y = p.entry.toNat := by
  have : y ∈ entriesS ts p.s := (mem_entries hcan y).2 ⟨h5, (hok.low y h5).2, x, h4, h3⟩;rw [he] at this;simpa using this
 subst hy
 have hin : lessS (wholeS ts.length) k p.entry.toNat = true := whole_less.2 ⟨fun e => hne e.symm, hes.2.1⟩
 rcases hx with rfl | hx
 · exact hd (.one h4 hin)
 · refine hd (.step (hx.mono fun z hz => ?_) h4 hin);simp only [diffS] at hz
   split at hz
   · cases hz
   · rename_i hz2
     refine whole_less.2 ⟨fun e => ?_, by simpa [wholeS] using hz⟩;subst e;exact hz2 hk
end
end

section
structure PartsOK (ts : List TermD) (ps : List PartD) : Prop where
 some : ∀ p ∈ ps, ∃ y, p.s y = true
 low : ∀ p ∈ ps, ∀ y, p.s y = true → 1 ≤ y ∧ y < ts.length
 kind : ∀ p ∈ ps, p.kind = 2 ∨ p.kind = 3 ∨ p.kind = 4
 pw : ps.Pairwise ApartP
 noreg : ∀ p ∈ ps, p.kind = 3 → ∀ q ∈ ps, ¬ Strict q.s p.s
 ent : ∀ p ∈ ps, p.kind ≠ 3 → 0 ≤ p.entry ∧ entriesS ts p.s = [p.entry.toNat] ∧ p.s p.entry.toNat = true ∧ ∀ q ∈ ps, Strict q.s p.s → q.s p.entry.toNat = false
 ent3 : ∀ p ∈ ps, p.kind = 3 → 1 < (entriesS ts p.s).length
 tog : ∀ p ∈ ps, p.kind ≠ 4 → ∀ a b, p.s a = true → p.s b = true → Reach (nx ts) p.s a b
 ring2 : ∀ p ∈ ps, p.kind = 2 → ∀ b, p.s b = true → (∀ q ∈ ps, Strict q.s p.s → q.s b = false) → ¬ Reach (nx ts) (lessS p.s p.entry.toNat) b b
 ring4 : ∀ p ∈ ps, p.kind = 4 → ∀ b, p.s b = true → (∀ q ∈ ps, Strict q.s p.s → q.s b = false) → ¬ Reach (nx ts) p.s b b
 ring1 : ∀ b, (∀ q ∈ ps, q.s b = false) → ¬ Reach (nx ts) (wholeS ts.length) b b
theorem pair_of {α : Type} {R : α → α → Prop} {l : List α} (h : l.Pairwise R) {p q : α} (hp : p ∈ l) (hq : q ∈ l) : p = q ∨ R p q ∨ R q p := by
 induction l with
 | nil => cases hp
 | cons x l ih =>
   rw [List.pairwise_cons] at h;rcases List.mem_cons.1 hp with ep | hp'
   · rcases List.mem_cons.1 hq with eq | hq'
     · exact .inl (ep.trans eq.symm)
     · exact .inr (.inl (ep ▸ h.1 q hq'))
   · rcases List.mem_cons.1 hq with eq | hq'
     · exact .inr (.inr (eq ▸ h.1 p hp'))
     · exact ih h.2 hp' hq'
section
variable {ts : List TermD} {ps : List PartD} (hf : fitsB ts = true) (F : LoopsF ts (wholeS ts.length) ps)
include hf F
omit hf in
theorem loop_can {p : PartD} (hp : p ∈ ps) (hl : ts.length ≤ 200) : Canon p.s := fun y hy => by have := (F.ok p hp).low y hy; omega
omit hf in
theorem loop_two {p q : PartD} (hp : p ∈ ps) (hq : q ∈ ps) : p = q ∨ Disj p.s q.s ∨ (p.kind = 2 ∧ p.s p.entry.toNat = true ∧ ∀ y, q.s y = true → p.s y = true ∧ y ≠ p.entry.toNat) ∨ (q.kind = 2 ∧ q.s q.entry.toNat = true ∧ ∀ y, p.s y = true → q.s y = true ∧ y ≠ q.entry.toNat) := by
 have ent : ∀ p ∈ ps, p.kind = 2 → (∃ q ∈ ps, ∀ y, q.s y = true → p.s y = true ∧ y ≠ p.entry.toNat) → p.s p.entry.toNat = true := by
  intro p hp h2 _;rcases (F.ok p hp).ent with ⟨h, _⟩ | ⟨_, _, h⟩
  · rw [h2] at h; cases h
  · have : p.entry.toNat ∈ entriesS ts p.s := by rw [h]; simp
    simp only [entriesS, List.mem_filter, listS] at this;exact this.1.2
 rcases pair_of F.pw hp hq with h | (h | ⟨h1, h2⟩) | (h | ⟨h1, h2⟩)
 · exact .inl h
 · exact .inr (.inl h)
 · exact .inr (.inr (.inl ⟨h1, ent p hp h1 ⟨q, hq, h2⟩, h2⟩))
 · exact .inr (.inl (Disj.symm h))
 · exact .inr (.inr (.inr ⟨h1, ent q hq h1 ⟨p, hp, h2⟩, h2⟩))
theorem small_spec {k : Nat} (hk : k < ts.length) : (smallestP ts.length ps k).s k = true ∧ (smallestP ts.length ps k = wholeP ts.length ∨ smallestP ts.length ps k ∈ ps) ∧ ∀ q ∈ ps, q.s k = true → ∀ y, (smallestP ts.length ps k).s y = true → q.s y = true := by
 obtain ⟨hg, hl, hr⟩ := fits_facts hf
 rw [smallestP]
 have key : (fun (d : List PartD) (best : PartD) => best.s k = true ∧ (best = wholeP ts.length ∨ best ∈ ps) ∧ ∀ q ∈ d, q.s k = true → ∀ y, best.s y = true → q.s y = true) ([] ++ ps) (ps.foldl (smallStep k) (wholeP ts.length)) := by
  refine foldl_inv (fun (d : List PartD) (best : PartD) => best.s k = true ∧ (best = wholeP ts.length ∨ best ∈ ps) ∧ ∀ q ∈ d, q.s k = true → ∀ y, best.s y = true → q.s y = true) _ _ _ ⟨by simp [wholeP, wholeS, hk], .inl rfl, fun q hq => by cases hq⟩ ?_;intro d q best hq ⟨h1, h2, h3⟩;unfold smallStep;have cq := loop_can F hq hl.2;have cb : Canon best.s := by
   rcases h2 with rfl | h2
   · exact whole_canon hl.2
   · exact loop_can F h2 hl.2
  by_cases hw : (q.s k && withinB q.s best.s) = true
  · rw [if_pos hw];rw [Bool.and_eq_true, within_iff cq cb] at hw;refine ⟨hw.1, .inr hq, fun q' hq' hk' y hy => ?_⟩;rcases List.mem_append.1 hq' with hq' | hq'
    · exact h3 q' hq' hk' y (hw.2.1 y hy)
    · have : q' = q := by simpa using hq'
      subst this; exact hy
  · rw [if_neg hw];refine ⟨h1, h2, fun q' hq' hk' y hy => ?_⟩;rcases List.mem_append.1 hq' with hq' | hq'
    · exact h3 q' hq' hk' y hy
    · have : q' = q := by simpa using hq'
      subst this;rw [Bool.and_eq_true, within_iff cq cb, not_and] at hw;have hw := hw hk';rcases h2 with rfl | h2
      · refine absurd ⟨fun z hz => ?_, 0, ?_, ?_⟩ hw
        · have := (F.ok q' hq).low z hz; simp [wholeP, wholeS]; omega
        · simp [wholeP, wholeS]; omega
        · cases e : q'.s 0 with
          | false => rfl
          | true => have := (F.ok q' hq).low 0 e; omega
      · rcases loop_two F h2 hq with rfl | h | ⟨_, h4, h5⟩ | ⟨_, h4, h5⟩
        · exact hy
        · rw [h k h1] at hk'; cases hk'
        · refine absurd ⟨fun z hz => (h5 z hz).1, _, h4, ?_⟩ hw;cases e : q'.s best.entry.toNat with
          | false => rfl
          | true => exact absurd rfl (h5 _ e).2
        · exact (h5 y hy).1
 simpa using key
omit F in
theorem mem_guarded {k x : Nat} (hk : 1 ≤ k) (of : Nat → Bool) : guardedP ts k of x = true ↔ of x = true ∧ 1 ≤ x ∧ Dom ts k x := by
 obtain ⟨hg, hl, hr⟩ := fits_facts hf
 simp only [guardedP, Bool.and_eq_true, Bool.not_eq_true', Bool.or_eq_false_iff, beq_eq_false_iff_ne]
 have h0 : lessS (wholeS ts.length) k 0 = true := whole_less.2 ⟨by omega, by omega⟩
 have := walkF_iff (less_canon (whole_canon hl.2) k) (next := nx ts) 0 x
 rw [h0] at this
 simp only [true_and] at this
 constructor
 · rintro ⟨h1, h2, h3⟩;exact ⟨h1, by omega, fun h => by rw [this.2 h] at h3; cases h3⟩
 · rintro ⟨h1, h2, h3⟩;refine ⟨h1, by omega, ?_⟩;cases e : walkF (nx ts) (lessS (wholeS ts.length) k) 0 x with
   | false => rfl
   | true => exact absurd (this.1 e) h3
structure CondOK (ts : List TermD) (ps : List PartD) (c : PartD) (k : Nat) (p : PartD) : Prop where
 low : 1 ≤ k ∧ k < ts.length
 from_ : ∃ b, pv ts k = [b]
 c4 : c.kind = 4
 ce : c.entry = k
 small : p.s k = true ∧ (p = wholeP ts.length ∨ p ∈ ps) ∧ ∀ q ∈ ps, q.s k = true → ∀ y, p.s y = true → q.s y = true
 no3 : p.kind ≠ 3
 noe : p.entry ≠ k
 set : ∀ x, c.s x = true ↔ p.s x = true ∧ 1 ≤ x ∧ Dom ts k x
theorem cond_ok {c : PartD} {k : Nat} (hk : k < ts.length) (h : condP ts ps k = some c) : ∃ p, CondOK ts ps c k p := by
 unfold condP at h
 split at h
 case isFalse => cases h
 case isTrue hc =>
  obtain ⟨h1, h2, h3, h4, h5⟩ := hc;simp only [Option.some.injEq] at h;subst h;obtain ⟨b, hb⟩ : ∃ b, pv ts k = [b] := by
   match e : pv ts k, h1 with
   | [b], _ => exact ⟨b, rfl⟩
  have hk1 : 1 ≤ k := by
   have : k ∈ nx ts b := (mem_pv ts k b).1 (by rw [hb]; simp);exact (good_nx (fits_facts hf).1 this).1
  exact ⟨smallestP ts.length ps k, ⟨hk1, hk⟩, ⟨b, hb⟩, rfl, rfl, small_spec hf F hk, h3, h4, fun x => mem_guarded hf hk1 _⟩
end
section
variable {ts : List TermD} {ps : List PartD} {c p : PartD} {k : Nat} (hf : fitsB ts = true) (F : LoopsF ts (wholeS ts.length) ps) (C : CondOK ts ps c k p)
include hf F C
omit hf F in
theorem CondOK.self : c.s k = true := (C.set k).2 ⟨C.small.1, C.low.1, dom_self k⟩
theorem CondOK.lows : ∀ y, c.s y = true → 1 ≤ y ∧ y < ts.length := fun y hy => by
 obtain ⟨h1, h2, _⟩ := (C.set y).1 hy
 rcases C.small.2.1 with h | h
 · rw [h] at h1;simp [wholeP, wholeS] at h1;exact ⟨h2, h1⟩
 · exact (F.ok p h).low y h1
omit hf in
theorem CondOK.kinds : p = wholeP ts.length ∨ (p ∈ ps ∧ p.kind = 2) := by
 rcases C.small.2.1 with h | h
 · exact .inl h
 · rcases (F.ok p h).ent with ⟨h2, _⟩ | ⟨h2, _⟩
   · exact absurd h2 C.no3
   · exact .inr ⟨h, h2⟩
theorem CondOK.entry_out (hp : p ∈ ps) : p.s p.entry.toNat = true ∧ c.s p.entry.toNat = false := by
 have h2 : p.kind = 2 := by
  rcases (F.ok p hp).ent with ⟨h2, _⟩ | ⟨h2, _⟩
  · exact absurd h2 C.no3
  · exact h2
 have he0 : 0 ≤ p.entry := by
  rcases (F.ok p hp).ent with ⟨h, _⟩ | ⟨_, h, _⟩
  · rw [h2] at h; cases h
  · exact h
 have hne : k ≠ p.entry.toNat := fun e => C.noe (by omega)
 obtain ⟨h3, h4⟩ := entry_free hf (F.ok p hp) h2 C.small.1 hne
 refine ⟨h4, ?_⟩
 cases e : c.s p.entry.toNat with
 | false => rfl
 | true => exact absurd ((C.set _).1 e).2.2 h3
theorem CondOK.loop_in {q : PartD} (hq : q ∈ ps) (hk : q.s k = false) {x : Nat} (hx : q.s x = true) (hc : c.s x = true) : Strict q.s c.s := by
 obtain ⟨h1, h2, h3⟩ := (C.set x).1 hc
 have hd := dom_all (fun y hy => ((F.ok q hq).low y hy).2) (F.ok q hq).tog hk hx h3
 refine ⟨fun y hy => (C.set y).2 ⟨?_, ((F.ok q hq).low y hy).1, hd y hy⟩, k, C.self, hk⟩
 rcases C.small.2.1 with h | h
 · rw [h]; simp [wholeP, wholeS]; exact ((F.ok q hq).low y hy).2
 · rcases loop_two F h hq with rfl | h4 | ⟨_, _, h4⟩ | ⟨_, _, h4⟩
   · exact hy
   · rw [h4 x h1] at hx; cases hx
   · exact (h4 y hy).1
   · rw [(h4 k C.small.1).1] at hk; cases hk
theorem CondOK.in_loop {q : PartD} (hq : q ∈ ps) (hk : q.s k = true) : Strict c.s q.s := by
 have h1 := C.small.2.2 q hq hk
 rcases C.small.2.1 with h | h
 · exfalso;have := h1 0 (by rw [h]; simp [wholeP, wholeS]; have := (fits_facts hf).2.1; omega);have := (F.ok q hq).low 0 this;omega
 · obtain ⟨h2, h3⟩ := C.entry_out hf F h;exact ⟨fun y hy => h1 y ((C.set y).1 hy).1, _, h1 _ h2, h3⟩
theorem CondOK.loop_apart {q : PartD} (hq : q ∈ ps) : ApartP q c := by
 cases hk : q.s k with
 | true => exact .inr (.inr (C.in_loop hf F hq hk))
 | false =>
   by_cases hx : ∃ x, q.s x = true ∧ c.s x = true
   · obtain ⟨x, h1, h2⟩ := hx;exact .inr (.inl (C.loop_in hf F hq hk h1 h2))
   · refine .inl fun y hy => ?_;cases e : c.s y with
     | false => rfl
     | true => exact absurd ⟨y, hy, e⟩ hx
omit F in
theorem CondOK.reach : Reach (nx ts) (wholeS ts.length) 0 k := (fits_facts hf).2.2 k C.low.1 C.low.2
theorem CondOK.cond_in {c' p' : PartD} {k' : Nat} (C' : CondOK ts ps c' k' p') (hne : k ≠ k') {x : Nat} (h : c.s x = true) (h' : c'.s x = true) (hd : Dom ts k k') : Strict c'.s c.s := by
 have hnd : ¬ Dom ts k' k := fun h2 => dom_anti (C.reach hf) hne hd h2
 have hsub : ∀ y, p'.s y = true → y < ts.length → p.s y = true := by
  intro y hy hyl;rcases C.small.2.1 with h1 | h1
  · rw [h1]; simp [wholeP, wholeS, hyl]
  · cases e : p.s k' with
    | true => exact C'.small.2.2 p h1 e y hy
    | false =>
      exact absurd (dom_all (fun y hy => ((F.ok p h1).low y hy).2) (F.ok p h1).tog e ((C.set x).1 h).1 ((C'.set x).1 h').2.2 k C.small.1) hnd
 refine ⟨fun y hy => ?_, k, C.self, ?_⟩
 · have h1 := (C'.set y).1 hy;exact (C.set y).2 ⟨hsub y h1.1 (C'.lows hf F y hy).2, h1.2.1, dom_trans hd h1.2.2⟩
 · cases e : c'.s k with
   | false => rfl
   | true => exact absurd ((C'.set k).1 e).2.2 hnd
theorem CondOK.cond_apart {c' p' : PartD} {k' : Nat} (C' : CondOK ts ps c' k' p') (hne : k ≠ k') : ApartP c c' := by
 by_cases hx : ∃ x, c.s x = true ∧ c'.s x = true
 · obtain ⟨x, h1, h2⟩ := hx;have hl := C.lows hf F x h1;rcases dom_chain ((fits_facts hf).2.2 x hl.1 hl.2) ((C.set x).1 h1).2.2 ((C'.set x).1 h2).2.2 with hd | hd
   · exact .inr (.inr (C.cond_in hf F C' hne h1 h2 hd))
   · exact .inr (.inl (C'.cond_in hf F C (fun e => hne e.symm) h2 h1 hd))
 · refine .inl fun y hy => ?_;cases e : c'.s y with
   | false => rfl
   | true => exact absurd ⟨y, hy, e⟩ hx
theorem CondOK.entries : entriesS ts c.s = [k] := by
 have hl := (fits_facts hf).2.1
 have hcan : Canon c.s := fun y hy => by have := (C.lows hf F y hy).2; omega
 have hnd : (entriesS ts c.s).Nodup := (List.nodup_range.filter _).filter _
 have hm : ∀ x, x ∈ entriesS ts c.s ↔ x = k := by
  intro x;rw [mem_entries hcan];constructor
  · rintro ⟨h1, h2, y, h3, h4⟩;apply Classical.byContradiction;intro hne;obtain ⟨h5, h6, h7⟩ := (C.set x).1 h1;have hyl : y < ts.length := by
     apply Classical.byContradiction;intro hn;rw [nx_none ts y (by omega)] at h3;cases h3
    have hin : lessS (wholeS ts.length) k x = true := whole_less.2 ⟨hne, h2⟩;have hy0 : 1 ≤ y := by
     cases y with
     | zero => exact absurd (.one h3 hin) h7
     | succ y => omega
    have hyd : Dom ts k y := fun hr => h7 (.step hr h3 hin);have hyp : p.s y = false := by
     cases e : p.s y with
     | false => rfl
     | true => rw [(C.set y).2 ⟨e, hy0, hyd⟩] at h4; cases h4
    rcases C.kinds F with h | ⟨h, h2k⟩
    · rw [h] at hyp; simp [wholeP, wholeS] at hyp; omega
    · have hpc := loop_can F h hl.2;have he : entriesS ts p.s = [p.entry.toNat] := by
       rcases (F.ok p h).ent with ⟨h8, _⟩ | ⟨_, _, h8⟩
       · rw [h2k] at h8; cases h8
       · exact h8
      have : x ∈ entriesS ts p.s := (mem_entries hpc x).2 ⟨h5, h2, y, h3, hyp⟩;rw [he] at this;have : x = p.entry.toNat := by simpa using this
      rw [this, (C.entry_out hf F h).2] at h1;cases h1
  · rintro rfl;obtain ⟨b, hb⟩ := C.from_;have hbk : x ∈ nx ts b := (mem_pv ts x b).1 (by rw [hb]; simp);refine ⟨C.self, C.low.2, b, hbk, ?_⟩;cases e : c.s b with
    | false => rfl
    | true =>
      exfalso;obtain ⟨h1, h2, h3⟩ := (C.set b).1 e;obtain ⟨y, z, hy, h4, h5, h6, _⟩ := reach_first (C.reach hf) (fun z => z == x) (by have := C.low.1; simp; omega) (by simp);have hz : z = x := by simpa using h6
      subst hz;have : y ∈ pv ts z := (mem_pv ts z y).2 h5;rw [hb] at this;have hyb : y = b := by simpa using this
      subst hyb;rcases hy with rfl | hy
      · omega
      · refine h3 (hy.mono fun u hu => ?_);simp only [diffS] at hu
        split at hu
        · cases hu
        · rename_i hu2
          exact whole_less.2 ⟨by simpa using hu2, by simpa [wholeS] using hu⟩
 match e : entriesS ts c.s, hnd, hm with
 | [], _, hm => have := (hm k).2 rfl; cases this
 | [x], _, hm => rw [(hm x).1 (by simp)]
 | x :: y :: l, hnd, hm =>
   have h1 := (hm x).1 (by simp);have h2 := (hm y).1 (by simp);rw [h1, h2] at hnd;simp at hnd
theorem CondOK.ring (b : Nat) (hb : c.s b = true) (hno : ∀ q ∈ ps, Strict q.s c.s → q.s b = false) : ¬ Reach (nx ts) c.s b b := by
 intro hr
 have fin : ∀ q ∈ ps, q.s b = true → q.s k = true := fun q hq hqb => by
  cases e : q.s k with
  | true => rfl
  | false => rw [hno q hq (C.loop_in hf F hq e hqb hb)] at hqb; cases hqb
 rcases C.kinds F with h | ⟨h, h2⟩
 · obtain ⟨q, hq, hqb⟩ := F.ring b (by simp [wholeS]; exact (C.lows hf F b hb).2) (hr.mono fun y hy => by simp [wholeS]; exact (C.lows hf F y hy).2);have := C.small.2.2 q hq (fin q hq hqb) 0 (by rw [h]; simp [wholeP, wholeS]; have := (fits_facts hf).2.1; omega);have := (F.ok q hq).low 0 this;omega
 · obtain ⟨h3, h4⟩ := C.entry_out hf F h;obtain ⟨q, hq, hqb, h5⟩ := F.inner p h h2 b ((C.set b).1 hb).1 (hr.mono fun y hy => mem_less.2 ⟨fun e => (by subst e; rw [h4] at hy; cases hy), ((C.set y).1 hy).1⟩);exact absurd rfl (h5 _ (C.small.2.2 q hq (fin q hq hqb) _ h3)).2
end
end

section
theorem parts_ok {ts : List TermD} (hf : fitsB ts = true) : PartsOK ts (partsP ts) := by
 obtain ⟨hg, hl, hr⟩ := fits_facts hf
 have hcw := whole_canon (n := ts.length) hl.2
 have F := loopsP_ok hf 201 (wholeS ts.length) hcw (fun y hy => by simpa [wholeS] using hy) (by
  have : (listS (wholeS ts.length)).length ≤ 200 := by
   have := List.length_filter_le (wholeS ts.length) (List.range 200);simpa [listS] using this
  omega)
 unfold partsP
 generalize loopsP ts 201 (wholeS ts.length) = ps at F ⊢
 have HC : ∀ c ∈ condsP ts ps, ∃ k p, CondOK ts ps c k p := by
  intro c hc;simp only [condsP, List.mem_filterMap, List.mem_range] at hc;obtain ⟨k, hk, hc⟩ := hc;obtain ⟨p, C⟩ := cond_ok hf F hk hc;exact ⟨k, p, C⟩
 have pwc : (condsP ts ps).Pairwise ApartP := by
  unfold condsP;rw [List.pairwise_filterMap];refine List.pairwise_lt_range.imp_of_mem ?_;intro k k' hk hk' hlt c hc c' hc';obtain ⟨p, C⟩ := cond_ok hf F (List.mem_range.1 hk) hc;obtain ⟨p', C'⟩ := cond_ok hf F (List.mem_range.1 hk') hc';exact C.cond_apart hf F C' (by omega)
 have pwl : ps.Pairwise ApartP := by
  refine F.pw.imp_of_mem ?_;intro p q hp hq h;rcases h with h | ⟨h2, h⟩
  · exact .inl h
  · refine .inr (.inr ⟨fun y hy => (h y hy).1, p.entry.toNat, ?_, ?_⟩)
    · rcases (F.ok p hp).ent with ⟨h3, _⟩ | ⟨_, _, h3⟩
      · rw [h2] at h3; cases h3
      · have : p.entry.toNat ∈ entriesS ts p.s := by rw [h3]; simp
        exact ((mem_entries (loop_can F hp hl.2) _).1 this).1
    · cases e : q.s p.entry.toNat with
      | false => rfl
      | true => exact absurd rfl (h _ e).2
 refine ⟨?_, ?_, ?_, ?_, ?_, ?_, ?_, ?_, ?_, ?_, ?_⟩
 · intro p hp;rcases List.mem_append.1 hp with hp | hp
   · exact (F.ok p hp).some
   · obtain ⟨k, _, C⟩ := HC p hp; exact ⟨k, C.self⟩
 · intro p hp;rcases List.mem_append.1 hp with hp | hp
   · exact (F.ok p hp).low
   · obtain ⟨k, _, C⟩ := HC p hp; exact C.lows hf F
 · intro p hp;rcases List.mem_append.1 hp with hp | hp
   · rcases (F.ok p hp).ent with ⟨h, _⟩ | ⟨h, _⟩
     · exact .inr (.inl h)
     · exact .inl h
   · obtain ⟨k, _, C⟩ := HC p hp; exact .inr (.inr C.c4)
 · rw [List.pairwise_append];refine ⟨pwl, pwc, fun q hq c hc => ?_⟩;obtain ⟨k, p, C⟩ := HC c hc;exact C.loop_apart hf F hq
 · intro p hp h3 q hq hs;rcases List.mem_append.1 hp with hp | hp
   · rcases List.mem_append.1 hq with hq | hq
     · obtain ⟨y, hy⟩ := (F.ok q hq).some;rcases loop_two F hp hq with rfl | h | ⟨h, _, _⟩ | ⟨_, _, h⟩
       · exact hs.irrefl
       · have := h y (hs.1 y hy); rw [hy] at this; cases this
       · rw [h3] at h; cases h
       · exact hs.asymm ⟨fun z hz => (h z hz).1, by
          rename_i hqe
          exact ⟨_, hqe, by
           cases e : p.s q.entry.toNat with
           | false => rfl
           | true => exact absurd rfl (h _ e).2⟩⟩
     · obtain ⟨k, p', C⟩ := HC q hq;cases hk : p.s k with
       | true =>
         rcases C.kinds F with h | ⟨h, h2⟩
         · have := C.small.2.2 p hp hk 0 (by rw [h]; simp [wholeP, wholeS]; omega);have := (F.ok p hp).low 0 this;omega
         · rcases loop_two F h hp with rfl | h4 | ⟨_, h5, h4⟩ | ⟨h4, _, _⟩
           · rw [h3] at h2; cases h2
           · rw [h4 k C.small.1] at hk; cases hk
           · exact absurd rfl (h4 _ (C.small.2.2 p hp hk _ h5)).2
           · rw [h3] at h4; cases h4
       | false =>
         exact hs.asymm (C.loop_in hf F hp hk (hs.1 _ C.self) C.self)
   · obtain ⟨k, _, C⟩ := HC p hp;rw [C.c4] at h3; cases h3
 · intro p hp h3;rcases List.mem_append.1 hp with hp | hp
   · rcases (F.ok p hp).ent with ⟨h, _⟩ | ⟨h2, h0, h⟩
     · exact absurd h h3
     · have hcan := loop_can F hp hl.2;have he : p.s p.entry.toNat = true := ((mem_entries hcan _).1 (by rw [h]; simp)).1;refine ⟨h0, h, he, fun q hq hs => ?_⟩;rcases List.mem_append.1 hq with hq | hq
       · obtain ⟨y, hy⟩ := (F.ok q hq).some;rcases loop_two F hp hq with rfl | h4 | ⟨_, _, h4⟩ | ⟨_, h5, h4⟩
         · exact hs.irrefl.elim
         · exact h4 _ he
         · cases e : q.s p.entry.toNat with
           | false => rfl
           | true => exact absurd rfl (h4 _ e).2
         · exact absurd rfl (h4 _ (hs.1 _ h5)).2
       · obtain ⟨k, p', C⟩ := HC q hq;cases e : q.s p.entry.toNat with
         | false => rfl
         | true =>
           exfalso;cases hk : p.s k with
           | false => exact hs.asymm (C.loop_in hf F hp hk he e)
           | true =>
             by_cases hke : k = p.entry.toNat
             · rcases C.small.2.1 with h4 | h4
               · have := C.small.2.2 p hp hk 0 (by rw [h4]; simp [wholeP, wholeS]; omega);have := (F.ok p hp).low 0 this;omega
               · rcases loop_two F h4 hp with rfl | h5 | ⟨_, h6, h5⟩ | ⟨_, _, h5⟩
                 · exact C.noe (by omega)
                 · rw [h5 k C.small.1] at hk; cases hk
                 · exact absurd rfl (h5 _ (C.small.2.2 p hp hk _ h6)).2
                 · exact (h5 k C.small.1).2 hke
             · exact (entry_free hf (F.ok p hp) h2 hk hke).1 ((C.set _).1 e).2.2
   · obtain ⟨k, p', C⟩ := HC p hp;have he : p.entry.toNat = k := by rw [C.ce]; omega
     rw [he];refine ⟨by rw [C.ce]; omega, C.entries hf F, C.self, fun q hq hs => ?_⟩;cases e : q.s k with
     | false => rfl
     | true =>
       exfalso;rcases List.mem_append.1 hq with hq | hq
       · exact hs.asymm (C.in_loop hf F hq e)
       · obtain ⟨k2, p2, C2⟩ := HC q hq;by_cases hkk : k = k2
         · subst hkk;have h1 := hs.2;obtain ⟨y, h2, h3⟩ := h1;have hsub : ∀ z, p'.s z = true → p2.s z = true := by
            intro z hz;rcases C2.small.2.1 with h4 | h4
            · rw [h4]; simp [wholeP, wholeS];rcases C.small.2.1 with h5 | h5
              · rw [h5] at hz; simpa [wholeP, wholeS] using hz
              · exact ((F.ok p' h5).low z hz).2
            · exact C.small.2.2 p2 h4 C2.small.1 z hz
           obtain ⟨h4, h5, h6⟩ := (C.set y).1 h2;rw [(C2.set y).2 ⟨hsub y h4, h5, h6⟩] at h3;cases h3
         · exact dom_anti (C.reach hf) hkk ((C.set k2).1 (hs.1 _ C2.self)).2.2 ((C2.set k).1 e).2.2
 · intro p hp h3;rcases List.mem_append.1 hp with hp | hp
   · rcases (F.ok p hp).ent with ⟨_, _, h⟩ | ⟨h2, _⟩
     · exact h
     · rw [h3] at h2; cases h2
   · obtain ⟨k, _, C⟩ := HC p hp;rw [C.c4] at h3; cases h3
 · intro p hp h4;rcases List.mem_append.1 hp with hp | hp
   · exact (F.ok p hp).tog
   · obtain ⟨k, _, C⟩ := HC p hp;exact absurd C.c4 h4
 · intro p hp h2 b hb hno hrr;rcases List.mem_append.1 hp with hp | hp
   · have he : p.s p.entry.toNat = true := by
      rcases (F.ok p hp).ent with ⟨h3, _⟩ | ⟨_, _, h3⟩
      · rw [h2] at h3; cases h3
      · have : p.entry.toNat ∈ entriesS ts p.s := by rw [h3]; simp
        exact ((mem_entries (loop_can F hp hl.2) _).1 this).1
     obtain ⟨q, hq, hqb, hin⟩ := F.inner p hp h2 b hb hrr
     have : Strict q.s p.s := ⟨fun y hy => (hin y hy).1, _, he, by
      cases e : q.s p.entry.toNat with
      | false => rfl
      | true => exact absurd rfl (hin _ e).2⟩
     rw [hno q (List.mem_append_left _ hq) this] at hqb;cases hqb
   · obtain ⟨k, _, C⟩ := HC p hp;rw [C.c4] at h2; cases h2
 · intro p hp h4 b hb hno;rcases List.mem_append.1 hp with hp | hp
   · rcases (F.ok p hp).ent with ⟨h, _⟩ | ⟨h, _⟩
     · rw [h4] at h; cases h
     · rw [h4] at h; cases h
   · obtain ⟨k, _, C⟩ := HC p hp;exact C.ring hf F b hb fun q hq hs => hno q (List.mem_append_left _ hq) hs
 · intro b hno hrr;obtain ⟨q, hq, hqb⟩ := F.ring b hrr.inn hrr;rw [hno q (List.mem_append_left _ hq)] at hqb;cases hqb
theorem PartsOK.perm {ts : List TermD} {ps qs : List PartD} (h : PartsOK ts ps) (hp : ps.Perm qs) : PartsOK ts qs := by
 have m : ∀ p, p ∈ qs → p ∈ ps := fun p hq => hp.mem_iff.2 hq
 have m2 : ∀ p, p ∈ ps → p ∈ qs := fun p hq => hp.mem_iff.1 hq
 exact {
  some := fun p hq => h.some p (m p hq)
  low := fun p hq => h.low p (m p hq)
  kind := fun p hq => h.kind p (m p hq)
  pw := hp.pairwise h.pw fun h => h.symm
  noreg := fun p hq h3 q hqq => h.noreg p (m p hq) h3 q (m q hqq)
  ent := fun p hq h3 => let ⟨h1, h2, h4, h5⟩ := h.ent p (m p hq) h3; ⟨h1, h2, h4, fun q hqq => h5 q (m q hqq)⟩
  ent3 := fun p hq => h.ent3 p (m p hq)
  tog := fun p hq => h.tog p (m p hq)
  ring2 := fun p hq h2 b hb hno => h.ring2 p (m p hq) h2 b hb fun q hqq => hno q (m2 q hqq)
  ring4 := fun p hq h2 b hb hno => h.ring4 p (m p hq) h2 b hb fun q hqq => hno q (m2 q hqq)
  ring1 := fun b hno => h.ring1 b fun q hqq => hno q (m2 q hqq) }
end

section
def zPart : PartD := ⟨fun _ => false, 0, 0⟩
def lastP (qs : List PartD) (x : Nat) : Nat → Nat
 | 0 => 0
 | k + 1 => if (qs.getD k zPart).s x then k + 1 else lastP qs x k
def firstP (p : PartD) : Nat := (listS p.s).headD 0
def ownBl (n : Nat) (qs : List PartD) (j : Nat) : List Int := intsN ((List.range n).filter fun x => lastP qs x qs.length == j)
def tileP (n : Nat) (qs : List PartD) (k : Nat) : TileD := ⟨(qs.getD k zPart).kind, (lastP qs (firstP (qs.getD k zPart)) k : Nat), ownBl n qs (k + 1)⟩
def tilesP (n : Nat) (qs : List PartD) : List TileD := ⟨1, -1, ownBl n qs 0⟩ :: (List.range qs.length).map (tileP n qs)
theorem lastP_le (qs : List PartD) (x : Nat) : ∀ k, lastP qs x k ≤ k
 | 0 => by simp [lastP]
 | k + 1 => by
   have := lastP_le qs x k;simp only [lastP]
   split <;> omega
theorem lastP_has (qs : List PartD) (x : Nat) : ∀ k j, lastP qs x k = j + 1 → (qs.getD j zPart).s x = true ∧ j < k
 | 0, j, h => by simp [lastP] at h
 | k + 1, j, h => by
   simp only [lastP] at h
   split at h
   · rename_i hx
     obtain rfl : k = j := by omega
     exact ⟨hx, by omega⟩
   · have := lastP_has qs x k j h;exact ⟨this.1, by omega⟩
theorem lastP_max (qs : List PartD) (x : Nat) : ∀ k i, i < k → (qs.getD i zPart).s x = true → i + 1 ≤ lastP qs x k
 | 0, i, h, _ => by omega
 | k + 1, i, h, hx => by
   simp only [lastP]
   split
   · omega
   · rename_i hn
     have : i ≠ k := fun e => by subst e; exact hn hx
     exact lastP_max qs x k i (by omega) hx
section
variable {ts : List TermD} {qs : List PartD} (hf : fitsB ts = true) (P : PartsOK ts qs) (hord : ∀ i j, i < j → j < qs.length → ¬ Strict (qs.getD i zPart).s (qs.getD j zPart).s)
theorem getD_memP {i : Nat} (h : i < qs.length) : qs.getD i zPart ∈ qs := by
 rw [List.getD_eq_getElem?_getD, List.getElem?_eq_getElem h]; exact List.getElem_mem _
include P hord
theorem part_in {i j x : Nat} (hij : i < j) (hj : j < qs.length) (hi : (qs.getD i zPart).s x = true) (hx : (qs.getD j zPart).s x = true) : Strict (qs.getD j zPart).s (qs.getD i zPart).s := by
 have hpw := List.pairwise_iff_getElem.1 P.pw i j (by omega) hj hij
 have e1 : qs.getD i zPart = qs[i] := by simp [List.getD_eq_getElem?_getD, show i < qs.length by omega]
 have e2 : qs.getD j zPart = qs[j] := by simp [List.getD_eq_getElem?_getD, hj]
 rw [e1] at hi ⊢
 rw [e2] at hx ⊢
 have ho := hord i j hij hj
 rw [e1, e2] at ho
 rcases hpw with h | h | h
 · rw [h x hi] at hx; cases hx
 · exact absurd h ho
 · exact h
theorem own_in {i j x : Nat} (ho : lastP qs x qs.length = j + 1) (hi : i < qs.length) (hx : (qs.getD i zPart).s x = true) : i = j ∨ Strict (qs.getD j zPart).s (qs.getD i zPart).s := by
 obtain ⟨h1, h2⟩ := lastP_has qs x _ j ho
 have h3 := lastP_max qs x _ i hi hx
 by_cases e : i = j
 · exact .inl e
 · exact .inr (part_in P hord (by omega) h2 hx h1)
include hf
omit hord in
theorem first_in {j : Nat} (hj : j < qs.length) : (qs.getD j zPart).s (firstP (qs.getD j zPart)) = true := by
 have hl := (fits_facts hf).2.1
 have hm := getD_memP hj
 have hc : Canon (qs.getD j zPart).s := fun y hy => by have := P.low _ hm y hy; omega
 obtain ⟨y, hy⟩ := P.some _ hm
 have h1 := (mem_listS hc y).2 hy
 unfold firstP
 cases e : listS (qs.getD j zPart).s with
 | nil => rw [e] at h1; cases h1
 | cons b r =>
   simp only [List.headD_cons];exact (mem_listS hc b).1 (by rw [e]; simp)
omit P hord hf in
theorem tilesP_len (n : Nat) : (tilesP n qs).length = qs.length + 1 := by simp [tilesP]
omit P hord hf in
theorem tilesP_zero (n : Nat) : (tilesP n qs).getD 0 zTile = ⟨1, -1, ownBl n qs 0⟩ := rfl
omit P hord hf in
theorem tilesP_at (n : Nat) {j : Nat} (hj : j < qs.length) : (tilesP n qs).getD (j + 1) zTile = tileP n qs j := by
 simp [tilesP, List.getD_eq_getElem?_getD, hj]
omit P hord hf in
theorem tilesP_par (n : Nat) : parentsB (tilesP n qs) = true := by
 rw [parentsB_iff]
 intro k hk
 rw [tilesP_len] at hk
 cases k with
 | zero => rw [parL, tilesP_zero]; simp
 | succ k =>
   rw [parL, tilesP_at n (by omega)];simp only [tileP];have := lastP_le qs (firstP (qs.getD k zPart)) k;omega
theorem desc_in (n : Nat) (j : Nat) (hj : j < qs.length) : ∀ i, i < qs.length → (descB (tilesP n qs) (j + 1) (i + 1) = true ↔ i = j ∨ Strict (qs.getD i zPart).s (qs.getD j zPart).s) := by
 have hp := tilesP_par (qs := qs) n
 intro i
 induction i using Nat.strongRecOn with
 | _ i ih =>
   intro hi;have hfi := first_in hf P hi;obtain ⟨v, e⟩ : ∃ v, v = lastP qs (firstP (qs.getD i zPart)) i := ⟨_, rfl⟩
   have hv : parL (tilesP n qs) (i + 1) = (v : Int) := by rw [parL, tilesP_at n hi, e]; rfl
   rw [descB_eq hp _ _ (by rw [tilesP_len]; omega), hv];have hd0 : (0 : Int) ≤ (v : Int) := by omega
   simp only [hd0, decide_true, Bool.true_and, Bool.or_eq_true, beq_iff_eq, Int.toNat_natCast]
   replace e := e.symm
   cases v with
   | zero =>
     constructor
     · rintro (h | h)
       · left; omega
       · have := descB_ge hp (j + 1) 0 (by rw [tilesP_len]; omega) h;omega
     · rintro (h | h)
       · left; omega
       · exfalso;have hji : j < i := by
          apply Classical.byContradiction;intro hn;by_cases e2 : i = j
          · subst e2; exact h.irrefl
          · exact hord i j (by omega) hj h
         have := lastP_max qs _ i j hji (h.1 _ hfi);omega
   | succ i' =>
     obtain ⟨h1, h2⟩ := lastP_has qs _ i i' e;have h3 := part_in P hord h2 hi h1 hfi;rw [ih i' h2 (by omega)];constructor
     · rintro (h | h | h)
       · left; omega
       · subst h; exact .inr h3
       · exact .inr (h3.trans h)
     · rintro (h | h)
       · left; omega
       · refine .inr ?_;have hji : j < i := by
          apply Classical.byContradiction;intro hn;by_cases e2 : i = j
          · subst e2; exact h.irrefl
          · exact hord i j (by omega) hj h
         have hjf := h.1 _ hfi;have := lastP_max qs _ i j hji hjf;by_cases e2 : i' = j
         · exact .inl e2
         · exact .inr (part_in P hord (by omega) (by omega) hjf h1)
end
end

section
section
variable {α : Type} (z : α) (key : α → Nat)
variable {z}
end
section
variable {β : Type}
end
section
variable {α : Type} {z : α} {key : α → Nat}
def s0 (a m b : Nat) : Nat := if (a + b) / 2 < m then (a + b) / 2 + m - b else a
def r0 (a m b : Nat) : Nat := if (a + b) / 2 < m then (a + b) / 2 else m
end
section
variable {β : Type}
end
section
variable {α : Type} {z : α} {key : α → Nat}
end
end

section
theorem mem_ownBl {n : Nat} {qs : List PartD} {j : Nat} {x : Nat} : (x : Int) ∈ ownBl n qs j ↔ x < n ∧ lastP qs x qs.length = j := by
 simp only [ownBl, intsN, List.mem_map, List.mem_filter, List.mem_range, beq_iff_eq]
 constructor
 · rintro ⟨y, ⟨h1, h2⟩, h3⟩;obtain rfl : y = x := by omega
   exact ⟨h1, h2⟩
 · intro h; exact ⟨x, h, rfl⟩
theorem blk_at (n : Nat) {qs : List PartD} {k : Nat} (hk : k ≤ qs.length) : blkL (tilesP n qs) k = ownBl n qs k := by
 cases k with
 | zero => rfl
 | succ k => rw [blkL, tilesP_at n (by omega)]; rfl
theorem flat_one (v : Nat) : ∀ m, (List.range m).flatMap (fun k => if k = v then [k] else []) = if v < m then [v] else []
 | 0 => by simp
 | m + 1 => by
   rw [List.range_succ, List.flatMap_append, flat_one v m];by_cases h : m = v
   · subst h; simp
   · by_cases h2 : v < m
     · simp [h, h2, show v < m + 1 by omega]
     · simp [h, h2, show ¬ v < m + 1 by omega]
theorem filter_one (p : Nat → Bool) (b : Nat) (n : Nat) : ((intsN ((List.range n).filter p)).filter fun x => x == (b : Int)) = if b < n ∧ p b = true then [(b : Int)] else [] := by
 induction n with
 | zero => simp [intsN]
 | succ n ih =>
   unfold intsN at ih ⊢;rw [List.range_succ, List.filter_append, List.map_append, List.filter_append, ih];by_cases hp : p n = true
   · by_cases hb : n = b
     · subst hb; simp [hp]
     · have h1 : ¬ ((n : Int) = (b : Int)) := by omega
       have h2 : (b < n + 1) = (b < n) := by apply propext; omega
       simp [hp, h1, h2]
   · by_cases hb : n = b
     · subst hb; simp [hp]
     · have h2 : (b < n + 1) = (b < n) := by apply propext; omega
       simp [hp, h2]
theorem homes_at (n : Nat) {qs : List PartD} {b : Nat} (hb : b < n) : homes (tilesP n qs) b = [lastP qs b qs.length] := by
 unfold homes
 rw [tilesP_len]
 have hl := lastP_le qs b qs.length
 have h : ∀ k ∈ List.range (qs.length + 1), ((blkL (tilesP n qs) k).filter fun x => x == (b : Int)).map (fun _ => k) = if k = lastP qs b qs.length then [k] else [] := by
  intro k hk;rw [List.mem_range] at hk;rw [blk_at n (by omega), ownBl, filter_one];by_cases e : k = lastP qs b qs.length
  · subst e; simp [hb]
  · have e' : ¬ lastP qs b qs.length = k := fun h => e h.symm;simp [e, e']
 have h2 : ∀ (l : List Nat) (f g : Nat → List Nat), (∀ k ∈ l, f k = g k) → l.flatMap f = l.flatMap g := by
  intro l
  induction l with
  | nil => intros; rfl
  | cons a l ih => intro f g hfg; rw [List.flatMap_cons, List.flatMap_cons, hfg a (by simp), ih f g (fun k hk => hfg k (by simp [hk]))]
 rw [h2 _ _ _ h, flat_one, if_pos (by omega)]
theorem desc_zero (n : Nat) (qs : List PartD) : ∀ i, i < qs.length + 1 → descB (tilesP n qs) 0 i = true := by
 have hp := tilesP_par (qs := qs) n
 intro i
 induction i using Nat.strongRecOn with
 | _ i ih =>
   intro hi;cases i with
   | zero => exact descB_self _ _
   | succ i =>
     rw [descB_eq hp _ _ (by rw [tilesP_len]; omega)];have hv : parL (tilesP n qs) (i + 1) = (lastP qs (firstP (qs.getD i zPart)) i : Nat) := by rw [parL, tilesP_at n (by omega)]; rfl
     have := lastP_le qs (firstP (qs.getD i zPart)) i;rw [hv];simp only [Int.toNat_natCast];rw [ih _ (by omega) (by omega)];simp
theorem setK_zero {n : Nat} (hn : n ≤ 200) (qs : List PartD) : setK (tilesP n qs) 0 = wholeS n := by
 funext x
 rw [Bool.eq_iff_iff]
 simp only [setK, ofS, wholeS, Bool.and_eq_true, decide_eq_true_eq, List.contains_iff_mem]
 have h := mem_allL (tilesP n qs) 0 (by rw [tilesP_len]; omega) (tilesP_par n) (x : Int)
 rw [show ((0 : Nat) : Int) = 0 from rfl] at h
 constructor
 · rintro ⟨_, h2⟩;obtain ⟨i, h3, _, h4⟩ := h.1 h2;rw [tilesP_len] at h3;rw [blk_at n (by omega)] at h4;exact (mem_ownBl.1 h4).1
 · intro hx;refine ⟨by omega, h.2 ⟨lastP qs x qs.length, ?_, ?_, ?_⟩⟩
   · rw [tilesP_len]; have := lastP_le qs x qs.length; omega
   · exact desc_zero n qs _ (by have := lastP_le qs x qs.length; omega)
   · rw [blk_at n (lastP_le _ _ _)]; exact mem_ownBl.2 ⟨hx, rfl⟩
section
variable {ts : List TermD} {qs : List PartD} (hf : fitsB ts = true) (P : PartsOK ts qs) (hord : ∀ i j, i < j → j < qs.length → ¬ Strict (qs.getD i zPart).s (qs.getD j zPart).s)
include hf P hord
theorem setK_at {j : Nat} (hj : j < qs.length) : setK (tilesP ts.length qs) (j + 1) = (qs.getD j zPart).s := by
 have hl := (fits_facts hf).2.1
 funext x
 rw [Bool.eq_iff_iff]
 simp only [setK, ofS, Bool.and_eq_true, decide_eq_true_eq, List.contains_iff_mem]
 have h := mem_allL (tilesP ts.length qs) (j + 1) (by rw [tilesP_len]; omega) (tilesP_par _) (x : Int)
 constructor
 · rintro ⟨_, h2⟩;obtain ⟨i, h3, hd, h4⟩ := h.1 (by simpa using h2);rw [tilesP_len] at h3;rw [blk_at _ (by omega)] at h4;cases i with
   | zero => have := descB_ge (tilesP_par _) (j + 1) 0 (by rw [tilesP_len]; omega) hd; omega
   | succ i =>
     obtain ⟨h5, h6⟩ := mem_ownBl.1 h4;have h7 := lastP_has qs x _ i h6;rcases (desc_in hf P hord _ j hj i (by omega)).1 hd with e | e
     · subst e; exact h7.1
     · exact e.1 x h7.1
 · intro hx;have hlow := P.low _ (getD_memP hj) x hx;refine ⟨by omega, ?_⟩;have hm := lastP_max qs x qs.length j hj hx;have hle := lastP_le qs x qs.length;obtain ⟨i, hi⟩ : ∃ i, lastP qs x qs.length = i + 1 := ⟨lastP qs x qs.length - 1, by omega⟩
   have h2 := own_in P hord hi hj hx;have := h.2 ⟨i + 1, by rw [tilesP_len]; omega, (desc_in hf P hord _ j hj i (by omega)).2 (h2.imp (fun e => e.symm) id), by rw [blk_at _ (by omega)]; exact mem_ownBl.2 ⟨by omega, hi⟩⟩;simpa using this
omit hf in
theorem ownP_at {j x : Nat} (hj : j < qs.length) : (x : Int) ∈ ownBl ts.length qs (j + 1) ↔ (qs.getD j zPart).s x = true ∧ ∀ q ∈ qs, Strict q.s (qs.getD j zPart).s → q.s x = false := by
 rw [mem_ownBl]
 constructor
 · rintro ⟨_, h⟩;obtain ⟨h1, h2⟩ := lastP_has qs x _ j h;refine ⟨h1, fun q hq hs => ?_⟩;cases e : q.s x with
   | false => rfl
   | true =>
     exfalso;obtain ⟨i, hi, rfl⟩ := List.mem_iff_getElem.1 hq;have e1 : qs.getD i zPart = qs[i] := by simp [List.getD_eq_getElem?_getD, hi]
     rw [← e1] at e hs;rcases own_in P hord h hi e with h3 | h3
     · subst h3; exact hs.irrefl
     · exact hs.asymm h3
 · rintro ⟨h1, h2⟩;have hlow := P.low _ (getD_memP hj) x h1;refine ⟨by omega, ?_⟩;have hm := lastP_max qs x qs.length j hj h1;obtain ⟨i, hi⟩ : ∃ i, lastP qs x qs.length = i + 1 := ⟨lastP qs x qs.length - 1, by omega⟩
   rcases own_in P hord hi hj h1 with h3 | h3
   · omega
   · have h4 := lastP_has qs x _ i hi;have := h2 _ (getD_memP h4.2) h3;rw [h4.1] at this; cases this
omit hf P hord in
theorem zero_at {x : Nat} : (x : Int) ∈ ownBl ts.length qs 0 ↔ x < ts.length ∧ ∀ q ∈ qs, q.s x = false := by
 rw [mem_ownBl]
 refine and_congr_right fun _ => ⟨fun h q hq => ?_, fun h => ?_⟩
 · cases e : q.s x with
   | false => rfl
   | true =>
     obtain ⟨i, hi, rfl⟩ := List.mem_iff_getElem.1 hq;have e1 : qs.getD i zPart = qs[i] := by simp [List.getD_eq_getElem?_getD, hi]
     rw [← e1] at e;have := lastP_max qs x qs.length i hi e;omega
 · apply Classical.byContradiction;intro hn;obtain ⟨i, hi⟩ : ∃ i, lastP qs x qs.length = i + 1 := ⟨lastP qs x qs.length - 1, by omega⟩
   have h4 := lastP_has qs x _ i hi;rw [h _ (getD_memP h4.2)] at h4;cases h4.1
omit hf in
theorem own_some {j : Nat} (hj : j < qs.length) : ∃ x : Nat, (x : Int) ∈ ownBl ts.length qs (j + 1) := by
 have hm := getD_memP hj
 by_cases h3 : (qs.getD j zPart).kind = 3
 · obtain ⟨y, hy⟩ := P.some _ hm;exact ⟨y, (ownP_at P hord hj).2 ⟨hy, fun q hq hs => absurd hs (P.noreg _ hm h3 q hq)⟩⟩
 · obtain ⟨_, _, h1, h2⟩ := P.ent _ hm h3;exact ⟨_, (ownP_at P hord hj).2 ⟨h1, h2⟩⟩
end
end

section
section
variable {ts : List TermD} {qs : List PartD} (hf : fitsB ts = true) (P : PartsOK ts qs) (hord : ∀ i j, i < j → j < qs.length → ¬ Strict (qs.getD i zPart).s (qs.getD j zPart).s)
include hf P hord
omit hord in
theorem zero_in : (0 : Int) ∈ ownBl ts.length qs 0 := by
 have hl := (fits_facts hf).2.1
 have := (zero_at (ts := ts) (qs := qs) (x := 0)).2 ⟨by omega, fun q hq => by
  cases e : q.s 0 with
  | false => rfl
  | true => have := P.low q hq 0 e; omega⟩
 exact this
theorem len_tiles : qs.length + 1 ≤ ts.length := by
 have hl := (fits_facts hf).2.1
 have h : ∀ j, j < qs.length + 1 → ∃ x : Nat, (x : Int) ∈ ownBl ts.length qs j := by
  intro j hj;cases j with
  | zero => exact ⟨0, zero_in hf P⟩
  | succ j => exact own_some P hord (by omega)
 have hc : ∀ j, ∃ x : Nat, j < qs.length + 1 → (x : Int) ∈ ownBl ts.length qs j := by
  intro j;by_cases hj : j < qs.length + 1
  · obtain ⟨x, hx⟩ := h j hj; exact ⟨x, fun _ => hx⟩
  · exact ⟨0, fun e => absurd e hj⟩
 obtain ⟨f, hfn⟩ := Classical.axiomOfChoice hc
 have hn : ((List.range (qs.length + 1)).map f).Nodup := by
  rw [List.Nodup, List.pairwise_map];refine List.Pairwise.imp_of_mem ?_ List.pairwise_lt_range;intro a b ha hb hab e;rw [List.mem_range] at ha hb;have h1 := mem_ownBl.1 (hfn a ha);have h2 := mem_ownBl.1 (hfn b hb);rw [e] at h1;omega
 have := nodup_len ts.length _ hn (by
  intro y hy;obtain ⟨j, hj, rfl⟩ := List.mem_map.1 hy;rw [List.mem_range] at hj
  exact (mem_ownBl.1 (hfn j hj)).1)
 simpa using this
end
end

section
def aroundP (ps : List PartD) (p : PartD) : Nat := (ps.filter fun x => withinB p.s x.s).length
theorem around_perm {ps qs : List PartD} (h : ps.Perm qs) (p : PartD) : aroundP ps p = aroundP qs p := (h.filter _).length_eq
theorem filter_sub {α : Type} {f g : α → Bool} : ∀ (l : List α), (∀ x ∈ l, f x = true → g x = true) → (l.filter f).length ≤ (l.filter g).length
 | [], _ => by simp
 | a :: l, h => by
   have ih := filter_sub l (fun x hx => h x (by simp [hx]));have ha := h a (by simp);cases e : f a with
   | true => simp [List.filter_cons, e, ha e, ih]
   | false =>
     cases e2 : g a with
     | true => simp [List.filter_cons, e, e2]; omega
     | false => simp [List.filter_cons, e, e2, ih]
theorem filter_lt {α : Type} {f g : α → Bool} : ∀ (l : List α), (∀ x ∈ l, f x = true → g x = true) → (∃ x ∈ l, g x = true ∧ f x = false) → (l.filter f).length < (l.filter g).length
 | [], _, h => by obtain ⟨x, hx, _⟩ := h; cases hx
 | a :: l, h, hw => by
   have hs := filter_sub l (fun x hx => h x (by simp [hx]));have ha := h a (by simp);obtain ⟨x, hx, h1, h2⟩ := hw;rcases List.mem_cons.1 hx with rfl | hx
   · simp [List.filter_cons, h1, h2]; omega
   · have ih := filter_lt l (fun x hx => h x (by simp [hx])) ⟨x, hx, h1, h2⟩;cases e : f a with
     | true => simp [List.filter_cons, e, ha e, ih]
     | false =>
       cases e2 : g a with
       | true => simp [List.filter_cons, e, e2]; omega
       | false => simp [List.filter_cons, e, e2, ih]
def OrderOK (qs : List PartD) : Prop := ∀ i j, i < j → j < qs.length → aroundP qs (qs.getD i zPart) ≤ aroundP qs (qs.getD j zPart)
theorem order_ok {ts : List TermD} {qs : List PartD} (hl : ts.length ≤ 200) (P : PartsOK ts qs) (ho : OrderOK qs) : ∀ i j, i < j → j < qs.length → ¬ Strict (qs.getD i zPart).s (qs.getD j zPart).s := by
 intro i j hij hj hs
 have hcan : ∀ p ∈ qs, Canon p.s := fun p hp y hy => by have := P.low p hp y hy; omega
 have hi : i < qs.length := by omega
 have h1 := ho i j hij hj
 have h2 : aroundP qs (qs.getD j zPart) < aroundP qs (qs.getD i zPart) := by
  have cj := hcan _ (getD_memP hj);have ci := hcan _ (getD_memP hi);refine filter_lt qs ?_ ⟨qs.getD j zPart, getD_memP hj, (within_iff ci cj).2 hs, ?_⟩
  · intro x hx h;exact (within_iff ci (hcan x hx)).2 (hs.trans ((within_iff cj (hcan x hx)).1 h))
  · cases e : withinB (qs.getD j zPart).s (qs.getD j zPart).s with
    | false => rfl
    | true => exact ((within_iff cj cj).1 e).irrefl.elim
 omega
end

section
theorem parts_len {ts : List TermD} (hf : fitsB ts = true) : (partsP ts).length + 1 ≤ ts.length := by
 have hP := parts_ok hf
 have hl := (fits_facts hf).2.1.2
 obtain ⟨ms, hp, ho⟩ : ∃ ms : List PartD, ms.Perm (partsP ts) ∧ OrderOK ms := by
  refine ⟨(partsP ts).mergeSort (fun p q => decide (aroundP (partsP ts) p ≤ aroundP (partsP ts) q)), List.mergeSort_perm _ _, ?_⟩;have hs : ((partsP ts).mergeSort (fun p q => decide (aroundP (partsP ts) p ≤ aroundP (partsP ts) q))).Pairwise (fun a b => decide (aroundP (partsP ts) a ≤ aroundP (partsP ts) b) = true) := by
   refine List.pairwise_mergeSort ?_ ?_ _
   · intro a b c h1 h2;simp only [decide_eq_true_eq] at *;omega
   · intro a b;simp only [Bool.or_eq_true, decide_eq_true_eq];omega
  have hp := List.mergeSort_perm (partsP ts) (fun p q => decide (aroundP (partsP ts) p ≤ aroundP (partsP ts) q));generalize (partsP ts).mergeSort (fun p q => decide (aroundP (partsP ts) p ≤ aroundP (partsP ts) q)) = ms at *;intro i j hij hj;have hi : i < ms.length := by omega
  have h1 := (List.pairwise_iff_getElem.1 hs) i j hi hj hij;simp only [decide_eq_true_eq] at h1;rw [around_perm hp, around_perm hp, List.getD_eq_getElem?_getD, List.getD_eq_getElem?_getD, List.getElem?_eq_getElem hi, List.getElem?_eq_getElem hj];exact h1
 have hP2 := hP.perm hp.symm
 have := len_tiles hf hP2 (order_ok hl hP2 ho)
 rw [hp.length_eq] at this
 exact this
theorem loops_canon {ts : List TermD} (hf : fitsB ts = true) : ∀ p ∈ loopsP ts 201 (wholeS ts.length), Canon p.s := by
 have hl := (fits_facts hf).2.1.2
 have F := loopsP_ok hf 201 (wholeS ts.length) (whole_canon hl) (fun y hy => by simpa [wholeS] using hy) (by
  have : (listS (wholeS ts.length)).length ≤ 200 := by
   have := List.length_filter_le (wholeS ts.length) (List.range 200);simpa [listS] using this
  omega)
 exact fun p hp y hy => by have := (F.ok p hp).low y hy; omega
theorem parts_listS {ts : List TermD} {qs : List PartD} (hl : ts.length ≤ 200) (P : PartsOK ts qs) : ∀ p ∈ qs, listS p.s ≠ [] ∧ firstP p < 200 ∧ p.s (firstP p) = true ∧ firstP p < ts.length ∧ Canon p.s := by
 intro p hp
 have hc : Canon p.s := fun y hy => by have := P.low p hp y hy; omega
 obtain ⟨y, hy⟩ := P.some p hp
 have h1 := (mem_listS hc y).2 hy
 have h2 : listS p.s ≠ [] := fun e => by rw [e] at h1; cases h1
 have h3 : firstP p ∈ listS p.s := by
  unfold firstP;cases e : listS p.s with
  | nil => exact absurd e h2
  | cons b r => simp
 have h4 := (mem_listS hc _).1 h3
 have h5 := P.low p hp _ h4
 exact ⟨h2, by omega, h4, h5.2, hc⟩
def tileK (qs : List PartD) (k : Nat) (bs : List Int) : TileD := ⟨(qs.getD k zPart).kind, (lastP qs (firstP (qs.getD k zPart)) k : Nat), bs⟩
def tilesK (qs : List PartD) (k : Nat) : List TileD := ⟨1, -1, []⟩ :: (List.range k).map fun i => tileK qs i []
theorem tilesK_len (qs : List PartD) (k : Nat) : (tilesK qs k).length = k + 1 := by simp [tilesK]
theorem tilesK_succ (qs : List PartD) (k : Nat) : tilesK qs (k + 1) = tilesK qs k ++ [tileK qs k []] := by
 simp [tilesK, List.range_succ]
def obJ (qs : List PartD) (j m : Nat) : List Int := intsN ((List.range j).filter fun x => lastP qs x qs.length == m)
def tilesJ (qs : List PartD) (j : Nat) : List TileD := ⟨1, -1, obJ qs j 0⟩ :: (List.range qs.length).map fun i => tileK qs i (obJ qs j (i + 1))
theorem tilesJ_zero (qs : List PartD) : tilesJ qs 0 = tilesK qs qs.length := rfl
theorem tilesJ_end (n : Nat) (qs : List PartD) : tilesJ qs n = tilesP n qs := rfl
theorem tilesJ_len (qs : List PartD) (j : Nat) : (tilesJ qs j).length = qs.length + 1 := by simp [tilesJ]
theorem obJ_succ (qs : List PartD) (j m : Nat) : obJ qs (j + 1) m = obJ qs j m ++ if lastP qs j qs.length = m then [(j : Int)] else [] := by
 unfold obJ intsN
 rw [List.range_succ, List.filter_append, List.map_append]
 congr 1
 by_cases h : lastP qs j qs.length = m <;> simp [h]
theorem tilesJ_at (qs : List PartD) (j k : Nat) (hk : k ≤ qs.length) : (tilesJ qs j)[k]? = some (if k = 0 then ⟨1, -1, obJ qs j 0⟩ else tileK qs (k - 1) (obJ qs j k)) := by
 cases k with
 | zero => rfl
 | succ k =>
   have : k < qs.length := by omega
   simp [tilesJ, this]
theorem tilesJ_succ (qs : List PartD) (j : Nat) (t : TileD) (h : (tilesJ qs j)[lastP qs j qs.length]? = some t) : (tilesJ qs j).set (lastP qs j qs.length) ⟨t.kind, t.parent, t.blocks ++ [(j : Int)]⟩ = tilesJ qs (j + 1) := by
 have hle := lastP_le qs j qs.length
 apply List.ext_getElem?
 intro i
 rw [List.getElem?_set]
 by_cases hi : i ≤ qs.length
 · by_cases e : lastP qs j qs.length = i
   · subst e;rw [if_pos rfl, if_pos (by rw [tilesJ_len]; omega)];rw [tilesJ_at _ _ _ hle] at h;rw [tilesJ_at _ _ _ hle];injection h with h;subst h
     congr 1
     by_cases h0 : lastP qs j qs.length = 0
     · rw [if_pos h0, if_pos h0, obJ_succ, if_pos h0]
     · rw [if_neg h0, if_neg h0, obJ_succ, if_pos rfl];rfl
   · rw [if_neg e, tilesJ_at _ _ _ hi, tilesJ_at _ _ _ hi]
     congr 1
     by_cases h0 : i = 0
     · subst h0;rw [if_pos rfl, if_pos rfl, obJ_succ, if_neg e, List.append_nil]
     · rw [if_neg h0, if_neg h0, obJ_succ, if_neg e, List.append_nil]
 · have h1 : (tilesJ qs j)[i]? = none := List.getElem?_eq_none (by rw [tilesJ_len]; omega);have h2 : (tilesJ qs (j + 1))[i]? = none := List.getElem?_eq_none (by rw [tilesJ_len]; omega);rw [h1, h2];rw [if_neg (by omega)]
theorem tilesJ_blocks (qs : List PartD) (j k : Nat) (t : TileD) (h : (tilesJ qs j)[k]? = some t) : t.blocks.length ≤ j := by
 have hl : ∀ m, (obJ qs j m).length ≤ j := fun m => by
  have := List.length_filter_le (fun x => lastP qs x qs.length == m) (List.range j);rw [List.length_range] at this;simpa [obJ, intsN] using this
 have hk : k ≤ qs.length := by have := (List.getElem?_eq_some_iff.1 h).1; rw [tilesJ_len] at this; omega
 rw [tilesJ_at _ _ _ hk] at h
 injection h with h
 subst h
 by_cases h0 : k = 0
 · rw [if_pos h0]; exact hl 0
 · rw [if_neg h0]; exact hl k
end

section
theorem perm_two {α : Type} (p : α → Bool) : ∀ l : List α, (l.filter p ++ l.filter fun a => !p a).Perm l
 | [] => List.Perm.nil
 | a :: l => by
   have ih := perm_two p l;cases h : p a with
   | true => simp only [List.filter_cons, h, if_true, List.cons_append]; simpa using ih
   | false =>
     simp only [List.filter_cons, h, Bool.not_false, if_true];exact (List.perm_middle).trans (by simpa using ih)
theorem perm_class {α : Type} (g : α → Nat) (l : List α) : ∀ M, ((List.range M).flatMap fun d => l.filter fun a => g a == d).Perm (l.filter fun a => decide (g a < M))
 | 0 => by simp
 | M + 1 => by
   have ih := perm_class g l M;rw [List.range_succ, List.flatMap_append];refine (ih.append_right _).trans ?_;have h := perm_two (fun a => decide (g a < M)) (l.filter fun a => decide (g a < M + 1));refine List.Perm.trans (List.Perm.of_eq ?_) h;simp only [List.flatMap_cons, List.flatMap_nil, List.append_nil, List.filter_filter]
   congr 1
   · apply List.filter_congr;intro a _;by_cases h1 : g a < M
     · have h2 : g a < M + 1 := by omega
       simp [h1, h2]
     · simp [h1]
   · apply List.filter_congr;intro a _;by_cases h1 : g a = M
     · simp [h1]
     · by_cases h2 : g a < M
       · simp [h2]; omega
       · have h3 : ¬ g a < M + 1 := by omega
         simp [h1, h2, h3]
def keyL (L : List PartD) (p : PartD) : Nat := 300 * aroundP L p + firstP p
def rowD (n : Nat) (L : List PartD) (d : Nat) : List PartD := (List.range n).flatMap fun b => L.filter fun p => aroundP L p == d && firstP p == b
def ordP (n : Nat) (L : List PartD) : List PartD := (List.range (L.length + 1)).flatMap (rowD n L)
theorem around_le (L : List PartD) (p : PartD) : aroundP L p ≤ L.length := List.length_filter_le _ _
theorem row_perm {n : Nat} {L : List PartD} (hf : ∀ p ∈ L, firstP p < n) (d : Nat) : (rowD n L d).Perm (L.filter fun p => aroundP L p == d) := by
 have h := perm_class firstP (L.filter fun p => aroundP L p == d) n
 have e1 : rowD n L d = (List.range n).flatMap fun b => (L.filter fun p => aroundP L p == d).filter fun p => firstP p == b := by
  unfold rowD
  congr 1
  funext b
  rw [List.filter_filter];apply List.filter_congr;intro p _;rw [Bool.and_comm]
 rw [e1]
 refine h.trans (List.Perm.of_eq ?_)
 rw [List.filter_filter]
 apply List.filter_congr
 intro p hp
 simp [hf p hp]
theorem ord_perm {n : Nat} {L : List PartD} (hf : ∀ p ∈ L, firstP p < n) : (ordP n L).Perm L := by
 have h := perm_class (aroundP L) L (L.length + 1)
 have h2 : (L.filter fun a => decide (aroundP L a < L.length + 1)) = L := by
  rw [List.filter_eq_self];intro p _;have := around_le L p;simp; omega
 rw [h2] at h
 refine List.Perm.trans ?_ h
 unfold ordP
 have key : ∀ l : List Nat, (l.flatMap (rowD n L)).Perm (l.flatMap fun d => L.filter fun a => aroundP L a == d) := by
  intro l
  induction l with
  | nil => exact List.Perm.refl _
  | cons d l ih => exact (row_perm hf d).append ih
 exact key _
theorem mem_row {n : Nat} {L : List PartD} {d : Nat} {p : PartD} (h : p ∈ rowD n L d) : p ∈ L ∧ aroundP L p = d ∧ firstP p < n := by
 simp only [rowD, List.mem_flatMap, List.mem_range, List.mem_filter, Bool.and_eq_true, beq_iff_eq] at h
 obtain ⟨b, hb, h1, h2, h3⟩ := h
 exact ⟨h1, h2, by omega⟩
theorem ord_sorted {n : Nat} {L : List PartD} (hn : n ≤ 300) : (ordP n L).Pairwise fun p q => keyL L p ≤ keyL L q := by
 unfold ordP
 rw [List.pairwise_flatMap]
 refine ⟨fun d _ => ?_, ?_⟩
 · unfold rowD;rw [List.pairwise_flatMap];refine ⟨fun b _ => ?_, ?_⟩
   · rw [List.pairwise_iff_getElem];intro i j hi hj _;have h1 := List.getElem_mem hi;have h2 := List.getElem_mem hj;simp only [List.mem_filter, Bool.and_eq_true, beq_iff_eq] at h1 h2;unfold keyL;omega
   · refine List.Pairwise.imp ?_ (List.pairwise_lt_range (n := n));intro b1 b2 hb x hx y hy;simp only [List.mem_filter, Bool.and_eq_true, beq_iff_eq] at hx hy;unfold keyL;omega
 · refine List.Pairwise.imp ?_ (List.pairwise_lt_range (n := L.length + 1));intro d1 d2 hd x hx y hy;have h1 := mem_row hx;have h2 := mem_row hy;unfold keyL;omega
def parP (qs : List PartD) (k : Nat) : Nat → Nat
 | 0 => 0
 | i + 1 => if withinB (qs.getD k zPart).s (qs.getD i zPart).s || eqS (qs.getD i zPart).s (qs.getD k zPart).s then i + 1 else parP qs k i
theorem par_last {ts : List TermD} {qs : List PartD} (hl : ts.length ≤ 200) (P : PartsOK ts qs) (ho : ∀ i j, i < j → j < qs.length → ¬ Strict (qs.getD i zPart).s (qs.getD j zPart).s) {k : Nat} (hk : k < qs.length) : ∀ j, j ≤ k → parP qs k j = lastP qs (firstP (qs.getD k zPart)) j := by
 have hP := parts_listS hl P
 have hmem : ∀ {i}, i < qs.length → qs.getD i zPart ∈ qs := fun h => by simp [List.getD_eq_getElem?_getD, h]
 obtain ⟨_, _, hkk, _, ck⟩ := hP _ (hmem hk)
 intro j
 induction j with
 | zero => intro _; rfl
 | succ i ih =>
   intro hi;have ci := (hP _ (hmem (i := i) (by omega))).2.2.2.2;have hpw : ApartP (qs.getD i zPart) (qs.getD k zPart) := by
    have := (List.pairwise_iff_getElem.1 P.pw) i k (by omega) hk (by omega);simpa [List.getD_eq_getElem?_getD, hk, show i < qs.length by omega] using this
   rw [parP, lastP, ih (by omega)];by_cases hs : (qs.getD i zPart).s (firstP (qs.getD k zPart)) = true
   · rw [if_pos hs, if_pos];rcases hpw with h | h | h
     · rw [h _ hs] at hkk; cases hkk
     · exact absurd h (ho i k (by omega) hk)
     · rw [Bool.or_eq_true]; exact .inl ((within_iff ck ci).2 h)
   · rw [if_neg hs, if_neg];intro hw;apply hs;simp only [Bool.or_eq_true] at hw;rcases hw with hw | hw
     · exact ((within_iff ck ci).1 hw).1 _ hkk
     · exact ((eqS_iff ci ck).1 hw ▸ hkk)
end

section
theorem in_no {a b : Nat → Bool} {i : Nat} (hi : i < 200) (ha : a i = true) (hb : b i = false) : withinB a b = false := by
 have : (listS a).all b = false := by
  rw [List.all_eq_false];exact ⟨i, by simp [listS, hi, ha], by simp [hb]⟩
 rw [withinB, this]; rfl
theorem in_end {a b : Nat → Bool} (h : ∀ i, i < 200 → a i = true → b i = true) : withinB a b = decide ((listS a).length < (listS b).length) := by
 have h1 : (listS a).all b = true := by
  rw [List.all_eq_true];intro x hx;simp only [listS, List.mem_filter, List.mem_range] at hx;exact h x hx.1 hx.2
 rw [withinB, h1, Bool.true_and]
 by_cases he : eqS a b = true
 · have h2 : ∀ k, k < 200 → a k = b k := fun k hk => by
    simp only [eqS, List.all_eq_true, List.mem_range, beq_iff_eq] at he;exact he k hk
   have h3 : listS a = listS b := by
    unfold listS;apply List.filter_congr;intro x hx;exact h2 x (List.mem_range.1 hx)
   rw [he, h3]; simp
 · have h4 : ∃ k, k < 200 ∧ a k ≠ b k := by
    apply Classical.byContradiction;intro hn;apply he;simp only [eqS, List.all_eq_true, List.mem_range, beq_iff_eq];intro k hk;apply Classical.byContradiction;intro hne;exact hn ⟨k, hk, hne⟩
   obtain ⟨k, hk, hne⟩ := h4;have he' : eqS a b = false := by simpa using he
   have hak : a k = false := by
    cases hx : a k with
    | false => rfl
    | true => exact absurd (hx.trans (h k hk hx).symm) hne
   have hbk : b k = true := by
    cases hx : b k with
    | true => rfl
    | false => exact absurd (hak.trans hx.symm) hne
   have hlt : (listS a).length < (listS b).length := filter_lt (List.range 200) (fun x hx => h x (List.mem_range.1 hx)) ⟨k, List.mem_range.2 hk, hbk, hak⟩;rw [he'];simp [hlt]
theorem many_lt {a b : Nat → Bool} (ca : Canon a) (cb : Canon b) (h : Strict a b) : (listS a).length < (listS b).length := by
 have h1 := (within_iff ca cb).2 h
 rw [in_end fun i _ hi => h.1 i hi] at h1
 simpa using h1
def smOK (n : Nat) (L : List PartD) (b j : Nat) (best : Int) : Prop := (best = -1 ∧ smallestP n (L.take j) b = wholeP n) ∨ ∃ i : Nat, best = i ∧ i < j ∧ L.getD i zPart = smallestP n (L.take j) b ∧ (L.getD i zPart).s b = true
theorem smOK.start (n : Nat) (L : List PartD) (b : Nat) : smOK n L b 0 (-1) := .inl ⟨rfl, by simp [smallestP]⟩
theorem take_stepP (L : List PartD) {j : Nat} (hj : j < L.length) : L.take (j + 1) = L.take j ++ [L.getD j zPart] := by
 rw [List.take_add_one, List.getElem?_eq_getElem hj, List.getD_eq_getElem?_getD, List.getElem?_eq_getElem hj]; rfl
theorem small_snoc (n : Nat) (L : List PartD) (b : Nat) {j : Nat} (hj : j < L.length) : smallestP n (L.take (j + 1)) b = smallStep b (smallestP n (L.take j) b) (L.getD j zPart) := by
 rw [take_stepP L hj, smallestP, List.foldl_append]; rfl
section
variable {ts : List TermD} {L : List PartD} (hl : ts.length ≤ 200) (F : LoopsF ts (wholeS ts.length) L) {b j : Nat} {best : Int} (hj : j < L.length)
include hl F hj
omit F hl in
theorem smOK.skip (h : smOK ts.length L b j best) (hp : (L.getD j zPart).s b = false) : smOK ts.length L b (j + 1) best := by
 have e : smallestP ts.length (L.take (j + 1)) b = smallestP ts.length (L.take j) b := by rw [small_snoc _ _ _ hj, smallStep, hp]; rfl
 rcases h with ⟨h1, h2⟩ | ⟨i, h1, h2, h3, h4⟩
 · exact .inl ⟨h1, by rw [e]; exact h2⟩
 · exact .inr ⟨i, h1, by omega, by rw [e]; exact h3, h4⟩
theorem smOK.less (h : smOK ts.length L b j best) (hp : (L.getD j zPart).s b = true) : (∀ i : Nat, best = i → (listS (L.getD j zPart).s).length < (listS (L.getD i zPart).s).length) ∧ smOK ts.length L b (j + 1) (j : Int) := by
 have hm : L.getD j zPart ∈ L := by simp [List.getD_eq_getElem?_getD, hj]
 have cj := loop_can F hm hl
 rcases h with ⟨h1, h2⟩ | ⟨i, h1, h2, h3, h4⟩
 · have hw : Strict (L.getD j zPart).s (wholeP ts.length).s := by
    refine ⟨fun y hy => ?_, 0, ?_, ?_⟩
    · have := ((F.ok _ hm).low y hy).2;simpa [wholeP, wholeS] using this
    · obtain ⟨y, hy⟩ := (F.ok _ hm).some;have := (F.ok _ hm).low y hy;simp [wholeP, wholeS]; omega
    · cases h0 : (L.getD j zPart).s 0 with
      | false => rfl
      | true => have := (F.ok _ hm).low 0 h0; omega
   refine ⟨fun i e => by omega, .inr ⟨j, rfl, by omega, ?_, hp⟩⟩;rw [small_snoc _ _ _ hj, smallStep, hp, h2, show withinB (L.getD j zPart).s (wholeP ts.length).s = true from (within_iff cj (whole_canon hl)).2 hw]; rfl
 · have him : L.getD i zPart ∈ L := by simp [List.getD_eq_getElem?_getD, show i < L.length by omega]
   have ci := loop_can F him hl;have hR : LoopR (L.getD i zPart) (L.getD j zPart) := by
    have := (List.pairwise_iff_getElem.1 F.pw) i j (by omega) hj h2;simpa [List.getD_eq_getElem?_getD, hj, show i < L.length by omega] using this
   have hs : Strict (L.getD j zPart).s (L.getD i zPart).s := by
    rcases hR with h | ⟨hk, h⟩
    · have := h b h4; rw [hp] at this; cases this
    · rcases (F.ok _ him).ent with ⟨h5, _⟩ | ⟨_, _, h5⟩
      · rw [hk] at h5; cases h5
      · have : (L.getD i zPart).entry.toNat ∈ entriesS ts (L.getD i zPart).s := by rw [h5]; simp
        simp only [entriesS, List.mem_filter, listS] at this;refine ⟨fun y hy => (h y hy).1, _, this.1.2, ?_⟩;cases h0 : (L.getD j zPart).s (L.getD i zPart).entry.toNat with
        | false => rfl
        | true => exact absurd rfl (h _ h0).2
   refine ⟨fun i' e => ?_, .inr ⟨j, rfl, by omega, ?_, hp⟩⟩
   · have : i' = i := by omega
     subst this;exact many_lt cj ci hs
   · rw [small_snoc _ _ _ hj, smallStep, hp, ← h3, (within_iff cj ci).2 hs]; rfl
end
theorem smOK.done {n : Nat} {L : List PartD} {b : Nat} {best : Int} (h : smOK n L b L.length best) : (best = -1 ∧ smallestP n L b = wholeP n) ∨ ∃ i : Nat, best = i ∧ i < L.length ∧ L.getD i zPart = smallestP n L b := by
 rcases h with ⟨h1, h2⟩ | ⟨i, h1, h2, h3, _⟩
 · exact .inl ⟨h1, by rwa [List.take_length] at h2⟩
 · exact .inr ⟨i, h1, h2, by rwa [List.take_length] at h3⟩
def brV (ts : List TermD) (l : List Nat) : Bool := match l.getLast? with
 | none => false
 | some x => (nx ts x).length == 2
theorem brV_snoc (ts : List TermD) (l : List Nat) (x : Nat) : brV ts (l ++ [x]) = ((nx ts x).length == 2) := by simp [brV]
theorem br_one {ts : List TermD} {l : List Nat} (h : l.length = 1) : brV ts l = ((nx ts (l.headD 0)).length == 2) := by
 obtain ⟨x, rfl⟩ := List.length_eq_one_iff.1 h
 rfl
theorem pv_first {ts : List TermD} (hg : goodB ts = true) : pv ts 0 = [] := by
 cases h : pv ts 0 with
 | nil => rfl
 | cons x l =>
   have h1 : x ∈ pv ts 0 := by rw [h]; simp
   have := (good_nx hg ((mem_pv ts 0 x).1 h1)).1;omega
theorem cond_first {ts : List TermD} (hg : goodB ts = true) (L : List PartD) : condP ts L 0 = none := by
 unfold condP
 rw [if_neg]
 rintro ⟨h, _⟩
 rw [pv_first hg] at h
 cases h
def stD (ts : List TermD) (f : Nat) (inn : Nat → Bool) (dn : List Nat) : (Nat → Bool) × List PartD := dn.foldl (stepP ts (loopsP ts f) inn) (inn, [])
def upTo (inn : Nat → Bool) (b : Nat) : List Nat := (List.range b).filter inn
def lefD (ts : List TermD) (f : Nat) (inn : Nat → Bool) (b : Nat) : Nat → Bool := (stD ts f inn (upTo inn b)).1
def outD (ts : List TermD) (f : Nat) (inn : Nat → Bool) (b : Nat) : List PartD := (stD ts f inn (upTo inn b)).2
def donD (ts : List TermD) (f : Nat) (inn : Nat → Bool) (b : Nat) : Nat → Bool := fun x => inn x && !lefD ts f inn b x
theorem stD_snoc (ts : List TermD) (f : Nat) (inn : Nat → Bool) (dn : List Nat) (x : Nat) : stD ts f inn (dn ++ [x]) = stepP ts (loopsP ts f) inn (stD ts f inn dn) x := by rw [stD, List.foldl_append]; rfl
theorem upTo_no {inn : Nat → Bool} {b : Nat} (h : inn b = false) : upTo inn (b + 1) = upTo inn b := by simp [upTo, List.range_succ, h]
theorem upTo_yes {inn : Nat → Bool} {b : Nat} (h : inn b = true) : upTo inn (b + 1) = upTo inn b ++ [b] := by simp [upTo, List.range_succ, h]
theorem upTo_all {inn : Nat → Bool} {n : Nat} (hn : n ≤ 200) (h : ∀ y, inn y = true → y < n) : upTo inn n = listS inn := by
 unfold upTo listS
 have key : ∀ k, (List.range (n + k)).filter inn = (List.range n).filter inn := by
  intro k
  induction k with
  | zero => rfl
  | succ k ih =>
    rw [← Nat.add_assoc, List.range_succ, List.filter_append, ih];cases hx : inn (n + k) with
    | false => simp [hx]
    | true => have := h _ hx; omega
 have := key (200 - n)
 rw [show n + (200 - n) = 200 by omega] at this
 exact this.symm
theorem done_start (ts : List TermD) (f : Nat) (inn : Nat → Bool) : donD ts f inn 0 = fun _ => false := by funext x; simp [donD, lefD, stD, upTo]
theorem out_end {ts : List TermD} {f : Nat} {inn : Nat → Bool} (hn : ts.length ≤ 200) (h : ∀ y, inn y = true → y < ts.length) : outD ts f inn ts.length = loopsP ts (f + 1) inn := by
 rw [outD, upTo_all hn h]; rfl
theorem step_pre' (ts : List TermD) (rec : (Nat → Bool) → List PartD) (inn : Nat → Bool) (st : (Nat → Bool) × List PartD) (x : Nat) : st.2.length ≤ (stepP ts rec inn st x).2.length := by
 unfold stepP
 split
 · split <;> simp
 · exact Nat.le_refl _
theorem stD_len (ts : List TermD) (f : Nat) (inn : Nat → Bool) : ∀ (r dn : List Nat), (stD ts f inn dn).2.length ≤ (stD ts f inn (dn ++ r)).2.length
 | [], dn => by simp
 | x :: r, dn => by
   rw [show dn ++ x :: r = (dn ++ [x]) ++ r by simp];refine Nat.le_trans ?_ (stD_len ts f inn r (dn ++ [x]));rw [stD_snoc];exact step_pre' _ _ _ _ _
theorem out_len {ts : List TermD} {f : Nat} {inn : Nat → Bool} (hn : ts.length ≤ 200) (h : ∀ y, inn y = true → y < ts.length) {b : Nat} (hb : b ≤ ts.length) : (outD ts f inn b).length ≤ (loopsP ts (f + 1) inn).length := by
 rw [← out_end hn h]
 obtain ⟨k, e⟩ : ∃ k, ts.length = b + k := ⟨ts.length - b, by omega⟩
 rw [e]
 clear e hb
 unfold outD
 have : ∃ r, upTo inn (b + k) = upTo inn b ++ r := by
  induction k with
  | zero => exact ⟨[], by simp⟩
  | succ k ih =>
    obtain ⟨r, hr⟩ := ih;rw [← Nat.add_assoc];cases hx : inn (b + k) with
    | false => exact ⟨r, by rw [upTo_no hx, hr]⟩
    | true => exact ⟨r ++ [b + k], by rw [upTo_yes hx, hr]; simp⟩
 obtain ⟨r, hr⟩ := this
 rw [hr]
 exact stD_len ts f inn r _
section
variable {ts : List TermD} {f : Nat} {inn : Nat → Bool} {b : Nat}
theorem loop_skip (hc : Canon inn) (h : inn b = false ∨ donD ts f inn b b = true ∨ walkF (nx ts) inn b b = false) : outD ts f inn (b + 1) = outD ts f inn b ∧ donD ts f inn (b + 1) = donD ts f inn b := by
 cases hb : inn b with
 | false => exact ⟨by simp only [outD, upTo_no hb], by funext x; simp only [donD, lefD, upTo_no hb]⟩
 | true =>
   have hst : stD ts f inn (upTo inn (b + 1)) = stD ts f inn (upTo inn b) := by
    rw [upTo_yes hb, stD_snoc, stepP, if_neg];intro hn;rw [Bool.and_eq_true] at hn;rcases h with h | h | h
    · rw [hb] at h; cases h
    · have h3 : lefD ts f inn b b = true := hn.1;rw [donD, h3] at h; simp at h
    · have hr := ((knot_iff hc b b).1 hn.2).2.1;rw [(walkF_iff hc b b).2 ⟨hb, hr⟩] at h;cases h
   exact ⟨by simp only [outD, hst], by funext x; simp only [donD, lefD, hst]⟩
theorem knot_two (hc : Canon inn) (x : Nat) : knotS ts b inn x = (walkF (nx ts) inn b x && walkF (nx ts) inn x b) := by
 rw [Bool.eq_iff_iff, knot_iff hc, Bool.and_eq_true, walkF_iff hc, walkF_iff hc]
 constructor
 · rintro ⟨h1, h2, h3⟩; exact ⟨⟨h1, h2⟩, h2.inn, h3⟩
 · rintro ⟨⟨h1, h2⟩, _, h3⟩; exact ⟨h1, h2, h3⟩
theorem loop_found (hc : Canon inn) (hb : inn b = true) (hd : donD ts f inn b b = false) (hw : walkF (nx ts) inn b b = true) :
  (∀ x, donD ts f inn (b + 1) x = (donD ts f inn b x || knotS ts b inn x)) ∧
  outD ts f inn (b + 1) = (if 1 < (entriesS ts (knotS ts b inn)).length then outD ts f inn b ++ [⟨knotS ts b inn, 3, -1⟩]
   else outD ts f inn b ++ ⟨knotS ts b inn, 2, (((entriesS ts (knotS ts b inn)).headD 0 : Nat) : Int)⟩ :: loopsP ts f (lessS (knotS ts b inn) ((entriesS ts (knotS ts b inn)).headD 0))) := by
 have hl : lefD ts f inn b b = true := by
  rw [donD, hb, Bool.true_and] at hd;simpa using hd
 have hk : knotS ts b inn b = true := by rw [knot_two hc, hw]; rfl
 have hst : stD ts f inn (upTo inn (b + 1)) = stepP ts (loopsP ts f) inn (stD ts f inn (upTo inn b)) b := by rw [upTo_yes hb, stD_snoc]
 have hl2 : (stD ts f inn (upTo inn b)).1 b = true := hl
 have hst2 : stD ts f inn (upTo inn (b + 1)) = (if 1 < (entriesS ts (knotS ts b inn)).length then (diffS (stD ts f inn (upTo inn b)).1 (knotS ts b inn), (stD ts f inn (upTo inn b)).2 ++ [⟨knotS ts b inn, 3, -1⟩])
   else (diffS (stD ts f inn (upTo inn b)).1 (knotS ts b inn), (stD ts f inn (upTo inn b)).2 ++ ⟨knotS ts b inn, 2, (((entriesS ts (knotS ts b inn)).headD 0 : Nat) : Int)⟩ :: loopsP ts f (lessS (knotS ts b inn) ((entriesS ts (knotS ts b inn)).headD 0)))) := by
  rw [hst, stepP, hl2, hk, Bool.true_and, if_pos rfl]
 have h1 : (stD ts f inn (upTo inn (b + 1))).1 = diffS (stD ts f inn (upTo inn b)).1 (knotS ts b inn) := by rw [hst2]; split <;> rfl
 refine ⟨fun x => ?_, ?_⟩
 · simp only [donD, lefD, h1, diffS];cases hx : knotS ts b inn x with
   | true =>
     have := ((knot_iff hc b x).1 hx).2.1.inn;simp [this]
   | false => simp
 · unfold outD;rw [hst2]
   split <;> rfl
theorem knot_low (hf : fitsB ts = true) (hc : Canon inn) {y : Nat} (hy : knotS ts b inn y = true) : 1 ≤ y ∧ y < ts.length := by
 obtain ⟨x, _, hx⟩ := reach_step ((knot_iff hc b y).1 hy).2.1
 have := good_nx (fits_facts hf).1 hx
 omega
end
end

section
section
variable {ts : List TermD} {L : List PartD} (hl : ts.length ≤ 200) (P : PartsOK ts L)
include hl P
theorem eq_same {i k : Nat} (hi : i < L.length) (hk : k < L.length) (h : eqS (L.getD i zPart).s (L.getD k zPart).s = true) : i = k := by
 have hP := parts_listS hl P
 have hmem : ∀ {i}, i < L.length → L.getD i zPart ∈ L := fun h => by simp [List.getD_eq_getElem?_getD, h]
 obtain ⟨_, _, s1, _, c1⟩ := hP _ (hmem hi)
 obtain ⟨_, _, s2, _, c2⟩ := hP _ (hmem hk)
 have he := (eqS_iff c1 c2).1 h
 apply Classical.byContradiction
 intro hne
 have key : ∀ a b, a < b → b < L.length → (L.getD a zPart).s = (L.getD b zPart).s → False := by
  intro a b hab hb e;have hpw : ApartP (L.getD a zPart) (L.getD b zPart) := by
   have := (List.pairwise_iff_getElem.1 P.pw) a b (by omega) hb hab;simpa [List.getD_eq_getElem?_getD, hb, show a < L.length by omega] using this
  obtain ⟨_, _, sa, _, _⟩ := hP _ (hmem (i := a) (by omega));rcases hpw with h | h | h
  · have h1 := h _ sa; rw [← e, sa] at h1; cases h1
  · rw [e] at h; exact h.irrefl
  · rw [e] at h; exact h.irrefl
 rcases Nat.lt_or_ge i k with h1 | h1
 · exact key i k h1 hk he
 · exact key k i (by omega) hi he.symm
end
def ordJ (n : Nat) (L : List PartD) (d b k : Nat) : List PartD := (List.range d).flatMap (rowD n L) ++ ((List.range b).flatMap (fun b => L.filter fun p => aroundP L p == d && firstP p == b) ++ (L.take k).filter fun p => aroundP L p == d && firstP p == b)
theorem ordJ_start (n : Nat) (L : List PartD) : ordJ n L 0 0 0 = [] := rfl
theorem ordJ_k {n : Nat} {L : List PartD} {d b k : Nat} (hk : k < L.length) : ordJ n L d b (k + 1) = ordJ n L d b k ++ (if aroundP L (L.getD k zPart) = d ∧ firstP (L.getD k zPart) = b then [L.getD k zPart] else []) := by
 unfold ordJ
 rw [take_stepP L hk, List.filter_append, ← List.append_assoc, ← List.append_assoc, ← List.append_assoc]
 congr 1
 generalize L.getD k zPart = x
 by_cases h : aroundP L x = d ∧ firstP x = b
 · rw [if_pos h]; simp [h.1, h.2]
 · rw [if_neg h];by_cases h1 : aroundP L x = d
   · have h2 : firstP x ≠ b := fun e => h ⟨h1, e⟩;simp [h2]
   · simp [h1]
theorem ordJ_b (n : Nat) (L : List PartD) (d b : Nat) : ordJ n L d b L.length = ordJ n L d (b + 1) 0 := by
 unfold ordJ
 rw [List.take_length, List.range_succ, List.flatMap_append]
 simp
theorem ordJ_d (n : Nat) (L : List PartD) (d : Nat) : ordJ n L d n 0 = ordJ n L (d + 1) 0 0 := by
 unfold ordJ
 rw [List.range_succ (n := d), List.flatMap_append]
 simp [rowD]
theorem ordJ_end (n : Nat) (L : List PartD) : ordJ n L (L.length + 1) 0 0 = ordP n L := by simp [ordJ, ordP]
theorem ordJ_len {n : Nat} {L : List PartD} (hf : ∀ p ∈ L, firstP p < n) {d b k : Nat} (hd : d ≤ L.length) (hb : b < n) (hk : k ≤ L.length) : (ordJ n L d b k).length ≤ L.length := by
 have h1 := (ord_perm hf).length_eq
 rw [← h1]
 have pre : ∀ {f : Nat → List PartD} {m M : Nat}, m ≤ M → ∃ r, (List.range M).flatMap f = (List.range m).flatMap f ++ r := by
  intro f m M h;obtain ⟨q, rfl⟩ := Nat.exists_eq_add_of_le h;exact ⟨_, by rw [List.range_add, List.flatMap_append]⟩
 obtain ⟨r1, e1⟩ := pre (f := rowD n L) (m := d + 1) (M := L.length + 1) (by omega)
 obtain ⟨r2, e2⟩ := pre (f := fun b => L.filter fun p => aroundP L p == d && firstP p == b) (m := b + 1) (M := n) (by omega)
 have e3 : ordP n L = (List.range d).flatMap (rowD n L) ++ (List.range (b + 1)).flatMap (fun b => L.filter fun p => aroundP L p == d && firstP p == b) ++ r2 ++ r1 := by
  rw [ordP, e1, List.range_succ (n := d), List.flatMap_append];simp only [List.flatMap_cons, List.flatMap_nil, List.append_nil];rw [rowD, e2];simp
 have e4 : ((L.take k).filter fun p => aroundP L p == d && firstP p == b).length ≤ (L.filter fun p => aroundP L p == d && firstP p == b).length := by
  have : L.take k ++ L.drop k = L := List.take_append_drop k L;have h := congrArg (fun l => (l.filter fun p => aroundP L p == d && firstP p == b).length) this;simp only [List.filter_append, List.length_append] at h;omega
 rw [e3, ordJ, List.range_succ (n := b), List.flatMap_append]
 simp only [List.length_append, List.flatMap_cons, List.flatMap_nil, List.append_nil]
 omega
end
end Go.Proofs.YtblhmdhfhaencaaGreat
