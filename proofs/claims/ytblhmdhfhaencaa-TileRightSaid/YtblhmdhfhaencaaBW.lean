/-
  Building tiles, plain: all parts of a function that fits are as they must be. No program in sight.
-/
import Derived.Test.YtblhmdhfhaencaaBR
namespace Go.Proofs.Ytblhmdhfhaencaa
set_option linter.unusedSimpArgs false
set_option linter.unusedVariables false
set_option linter.unusedSectionVars false
section
theorem parts_ok {ts : List TermD} (hf : fitsB ts = true) : PartsOK ts (partsP ts) := by
  obtain ⟨hg, hl, hr⟩ := fits_facts hf
  have hcw := whole_canon (n := ts.length) hl.2
  have F := loopsP_ok hf 201 (wholeS ts.length) hcw (fun y hy => by simpa [wholeS] using hy) (by
    have : (listS (wholeS ts.length)).length ≤ 200 := by
      have := List.length_filter_le (wholeS ts.length) (List.range 200)
      simpa [listS] using this
    omega)
  unfold partsP
  generalize loopsP ts 201 (wholeS ts.length) = ps at F ⊢
  have HC : ∀ c ∈ condsP ts ps, ∃ k p, CondOK ts ps c k p := by
    intro c hc
    simp only [condsP, List.mem_filterMap, List.mem_range] at hc
    obtain ⟨k, hk, hc⟩ := hc
    obtain ⟨p, C⟩ := cond_ok hf F hk hc
    exact ⟨k, p, C⟩
  have pwc : (condsP ts ps).Pairwise ApartP := by
    unfold condsP
    rw [List.pairwise_filterMap]
    refine List.pairwise_lt_range.imp_of_mem ?_
    intro k k' hk hk' hlt c hc c' hc'
    obtain ⟨p, C⟩ := cond_ok hf F (List.mem_range.1 hk) hc
    obtain ⟨p', C'⟩ := cond_ok hf F (List.mem_range.1 hk') hc'
    exact C.cond_apart hf F C' (by omega)
  have pwl : ps.Pairwise ApartP := by
    refine F.pw.imp_of_mem ?_
    intro p q hp hq h
    rcases h with h | ⟨h2, h⟩
    · exact .inl h
    · refine .inr (.inr ⟨fun y hy => (h y hy).1, p.entry.toNat, ?_, ?_⟩)
      · rcases (F.ok p hp).ent with ⟨h3, _⟩ | ⟨_, _, h3⟩
        · rw [h2] at h3; cases h3
        · have : p.entry.toNat ∈ entriesS ts p.s := by rw [h3]; simp
          exact ((mem_entries (loop_can F hp hl.2) _).1 this).1
      · cases e : q.s p.entry.toNat with
        | false => rfl
        | true => exact absurd rfl (h _ e).2
  refine ⟨?_, ?_, ?_, ?_, ?_, ?_, ?_, ?_, ?_, ?_, ?_⟩
  · intro p hp
    rcases List.mem_append.1 hp with hp | hp
    · exact (F.ok p hp).some
    · obtain ⟨k, _, C⟩ := HC p hp; exact ⟨k, C.self⟩
  · intro p hp
    rcases List.mem_append.1 hp with hp | hp
    · exact (F.ok p hp).low
    · obtain ⟨k, _, C⟩ := HC p hp; exact C.lows hf F
  · intro p hp
    rcases List.mem_append.1 hp with hp | hp
    · rcases (F.ok p hp).ent with ⟨h, _⟩ | ⟨h, _⟩
      · exact .inr (.inl h)
      · exact .inl h
    · obtain ⟨k, _, C⟩ := HC p hp; exact .inr (.inr C.c4)
  · rw [List.pairwise_append]
    refine ⟨pwl, pwc, fun q hq c hc => ?_⟩
    obtain ⟨k, p, C⟩ := HC c hc
    exact C.loop_apart hf F hq
  · intro p hp h3 q hq hs
    rcases List.mem_append.1 hp with hp | hp
    · rcases List.mem_append.1 hq with hq | hq
      · obtain ⟨y, hy⟩ := (F.ok q hq).some
        rcases loop_two F hp hq with rfl | h | ⟨h, _, _⟩ | ⟨_, _, h⟩
        · exact hs.irrefl
        · have := h y (hs.1 y hy); rw [hy] at this; cases this
        · rw [h3] at h; cases h
        · exact hs.asymm ⟨fun z hz => (h z hz).1, by
            rename_i hqe
            exact ⟨_, hqe, by
              cases e : p.s q.entry.toNat with
              | false => rfl
              | true => exact absurd rfl (h _ e).2⟩⟩
      · obtain ⟨k, p', C⟩ := HC q hq
        cases hk : p.s k with
        | true =>
          rcases C.kinds F with h | ⟨h, h2⟩
          · have := C.small.2.2 p hp hk 0 (by rw [h]; simp [wholeP, wholeS]; omega)
            have := (F.ok p hp).low 0 this
            omega
          · rcases loop_two F h hp with rfl | h4 | ⟨_, h5, h4⟩ | ⟨h4, _, _⟩
            · rw [h3] at h2; cases h2
            · rw [h4 k C.small.1] at hk; cases hk
            · exact absurd rfl (h4 _ (C.small.2.2 p hp hk _ h5)).2
            · rw [h3] at h4; cases h4
        | false =>
          exact hs.asymm (C.loop_in hf F hp hk (hs.1 _ C.self) C.self)
    · obtain ⟨k, _, C⟩ := HC p hp
      rw [C.c4] at h3; cases h3
  · intro p hp h3
    rcases List.mem_append.1 hp with hp | hp
    · rcases (F.ok p hp).ent with ⟨h, _⟩ | ⟨h2, h0, h⟩
      · exact absurd h h3
      · have hcan := loop_can F hp hl.2
        have he : p.s p.entry.toNat = true := ((mem_entries hcan _).1 (by rw [h]; simp)).1
        refine ⟨h0, h, he, fun q hq hs => ?_⟩
        rcases List.mem_append.1 hq with hq | hq
        · obtain ⟨y, hy⟩ := (F.ok q hq).some
          rcases loop_two F hp hq with rfl | h4 | ⟨_, _, h4⟩ | ⟨_, h5, h4⟩
          · exact hs.irrefl.elim
          · exact h4 _ he
          · cases e : q.s p.entry.toNat with
            | false => rfl
            | true => exact absurd rfl (h4 _ e).2
          · exact absurd rfl (h4 _ (hs.1 _ h5)).2
        · obtain ⟨k, p', C⟩ := HC q hq
          cases e : q.s p.entry.toNat with
          | false => rfl
          | true =>
            exfalso
            cases hk : p.s k with
            | false => exact hs.asymm (C.loop_in hf F hp hk he e)
            | true =>
              by_cases hke : k = p.entry.toNat
              · rcases C.small.2.1 with h4 | h4
                · have := C.small.2.2 p hp hk 0 (by rw [h4]; simp [wholeP, wholeS]; omega)
                  have := (F.ok p hp).low 0 this
                  omega
                · rcases loop_two F h4 hp with rfl | h5 | ⟨_, h6, h5⟩ | ⟨_, _, h5⟩
                  · exact C.noe (by omega)
                  · rw [h5 k C.small.1] at hk; cases hk
                  · exact absurd rfl (h5 _ (C.small.2.2 p hp hk _ h6)).2
                  · exact (h5 k C.small.1).2 hke
              · exact (entry_free hf (F.ok p hp) h2 hk hke).1 ((C.set _).1 e).2.2
    · obtain ⟨k, p', C⟩ := HC p hp
      have he : p.entry.toNat = k := by rw [C.ce]; omega
      rw [he]
      refine ⟨by rw [C.ce]; omega, C.entries hf F, C.self, fun q hq hs => ?_⟩
      cases e : q.s k with
      | false => rfl
      | true =>
        exfalso
        rcases List.mem_append.1 hq with hq | hq
        · exact hs.asymm (C.in_loop hf F hq e)
        · obtain ⟨k2, p2, C2⟩ := HC q hq
          by_cases hkk : k = k2
          · subst hkk
            have h1 := hs.2
            obtain ⟨y, h2, h3⟩ := h1
            have hsub : ∀ z, p'.s z = true → p2.s z = true := by
              intro z hz
              rcases C2.small.2.1 with h4 | h4
              · rw [h4]; simp [wholeP, wholeS]
                rcases C.small.2.1 with h5 | h5
                · rw [h5] at hz; simpa [wholeP, wholeS] using hz
                · exact ((F.ok p' h5).low z hz).2
              · exact C.small.2.2 p2 h4 C2.small.1 z hz
            obtain ⟨h4, h5, h6⟩ := (C.set y).1 h2
            rw [(C2.set y).2 ⟨hsub y h4, h5, h6⟩] at h3
            cases h3
          · exact dom_anti (C.reach hf) hkk ((C.set k2).1 (hs.1 _ C2.self)).2.2 ((C2.set k).1 e).2.2
  · intro p hp h3
    rcases List.mem_append.1 hp with hp | hp
    · rcases (F.ok p hp).ent with ⟨_, _, h⟩ | ⟨h2, _⟩
      · exact h
      · rw [h3] at h2; cases h2
    · obtain ⟨k, _, C⟩ := HC p hp
      rw [C.c4] at h3; cases h3
  · intro p hp h4
    rcases List.mem_append.1 hp with hp | hp
    · exact (F.ok p hp).tog
    · obtain ⟨k, _, C⟩ := HC p hp
      exact absurd C.c4 h4
  · intro p hp h2 b hb hno hrr
    rcases List.mem_append.1 hp with hp | hp
    · have he : p.s p.entry.toNat = true := by
        rcases (F.ok p hp).ent with ⟨h3, _⟩ | ⟨_, _, h3⟩
        · rw [h2] at h3; cases h3
        · have : p.entry.toNat ∈ entriesS ts p.s := by rw [h3]; simp
          exact ((mem_entries (loop_can F hp hl.2) _).1 this).1
      obtain ⟨q, hq, hqb, hin⟩ := F.inner p hp h2 b hb hrr
      have : Strict q.s p.s := ⟨fun y hy => (hin y hy).1, _, he, by
        cases e : q.s p.entry.toNat with
        | false => rfl
        | true => exact absurd rfl (hin _ e).2⟩
      rw [hno q (List.mem_append_left _ hq) this] at hqb
      cases hqb
    · obtain ⟨k, _, C⟩ := HC p hp
      rw [C.c4] at h2; cases h2
  · intro p hp h4 b hb hno
    rcases List.mem_append.1 hp with hp | hp
    · rcases (F.ok p hp).ent with ⟨h, _⟩ | ⟨h, _⟩
      · rw [h4] at h; cases h
      · rw [h4] at h; cases h
    · obtain ⟨k, _, C⟩ := HC p hp
      exact C.ring hf F b hb fun q hq hs => hno q (List.mem_append_left _ hq) hs
  · intro b hno hrr
    obtain ⟨q, hq, hqb⟩ := F.ring b hrr.inn hrr
    rw [hno q (List.mem_append_left _ hq)] at hqb
    cases hqb
/-- in another order it holds, too -/
theorem PartsOK.perm {ts : List TermD} {ps qs : List PartD} (h : PartsOK ts ps) (hp : ps.Perm qs) : PartsOK ts qs := by
  have m : ∀ p, p ∈ qs → p ∈ ps := fun p hq => hp.mem_iff.2 hq
  have m2 : ∀ p, p ∈ ps → p ∈ qs := fun p hq => hp.mem_iff.1 hq
  exact {
    some := fun p hq => h.some p (m p hq)
    low := fun p hq => h.low p (m p hq)
    kind := fun p hq => h.kind p (m p hq)
    pw := hp.pairwise h.pw fun h => h.symm
    noreg := fun p hq h3 q hqq => h.noreg p (m p hq) h3 q (m q hqq)
    ent := fun p hq h3 => let ⟨h1, h2, h4, h5⟩ := h.ent p (m p hq) h3; ⟨h1, h2, h4, fun q hqq => h5 q (m q hqq)⟩
    ent3 := fun p hq => h.ent3 p (m p hq)
    tog := fun p hq => h.tog p (m p hq)
    ring2 := fun p hq h2 b hb hno => h.ring2 p (m p hq) h2 b hb fun q hqq => hno q (m2 q hqq)
    ring4 := fun p hq h2 b hb hno => h.ring4 p (m p hq) h2 b hb fun q hqq => hno q (m2 q hqq)
    ring1 := fun b hno => h.ring1 b fun q hqq => hno q (m2 q hqq) }
end

section
def zPart : PartD := ⟨fun _ => false, 0, 0⟩
/-- one above the place of the last of the first k parts that hold x; 0: none -/
def lastP (qs : List PartD) (x : Nat) : Nat → Nat
  | 0 => 0
  | k + 1 => if (qs.getD k zPart).s x then k + 1 else lastP qs x k
def firstP (p : PartD) : Nat := (listS p.s).headD 0
def ownBl (n : Nat) (qs : List PartD) (j : Nat) : List Int := intsN ((List.range n).filter fun x => lastP qs x qs.length == j)
def tileP (n : Nat) (qs : List PartD) (k : Nat) : TileD := ⟨(qs.getD k zPart).kind, (lastP qs (firstP (qs.getD k zPart)) k : Nat), ownBl n qs (k + 1)⟩
def tilesP (n : Nat) (qs : List PartD) : List TileD := ⟨1, -1, ownBl n qs 0⟩ :: (List.range qs.length).map (tileP n qs)

theorem lastP_le (qs : List PartD) (x : Nat) : ∀ k, lastP qs x k ≤ k
  | 0 => by simp [lastP]
  | k + 1 => by
    have := lastP_le qs x k
    simp only [lastP]
    split <;> omega
theorem lastP_has (qs : List PartD) (x : Nat) : ∀ k j, lastP qs x k = j + 1 → (qs.getD j zPart).s x = true ∧ j < k
  | 0, j, h => by simp [lastP] at h
  | k + 1, j, h => by
    simp only [lastP] at h
    split at h
    · rename_i hx
      obtain rfl : k = j := by omega
      exact ⟨hx, by omega⟩
    · have := lastP_has qs x k j h
      exact ⟨this.1, by omega⟩
theorem lastP_max (qs : List PartD) (x : Nat) : ∀ k i, i < k → (qs.getD i zPart).s x = true → i + 1 ≤ lastP qs x k
  | 0, i, h, _ => by omega
  | k + 1, i, h, hx => by
    simp only [lastP]
    split
    · omega
    · rename_i hn
      have : i ≠ k := fun e => by subst e; exact hn hx
      exact lastP_max qs x k i (by omega) hx
section
variable {ts : List TermD} {qs : List PartD} (hf : fitsB ts = true) (P : PartsOK ts qs) (hord : ∀ i j, i < j → j < qs.length → ¬ Strict (qs.getD i zPart).s (qs.getD j zPart).s)
theorem getD_memP {i : Nat} (h : i < qs.length) : qs.getD i zPart ∈ qs := by
  rw [List.getD_eq_getElem?_getD, List.getElem?_eq_getElem h]; exact List.getElem_mem _
include P hord
/-- of two that have a block in common the one behind lies in the one ahead -/
theorem part_in {i j x : Nat} (hij : i < j) (hj : j < qs.length) (hi : (qs.getD i zPart).s x = true) (hx : (qs.getD j zPart).s x = true) : Strict (qs.getD j zPart).s (qs.getD i zPart).s := by
  have hpw := List.pairwise_iff_getElem.1 P.pw i j (by omega) hj hij
  have e1 : qs.getD i zPart = qs[i] := by simp [List.getD_eq_getElem?_getD, show i < qs.length by omega]
  have e2 : qs.getD j zPart = qs[j] := by simp [List.getD_eq_getElem?_getD, hj]
  rw [e1] at hi ⊢
  rw [e2] at hx ⊢
  have ho := hord i j hij hj
  rw [e1, e2] at ho
  rcases hpw with h | h | h
  · rw [h x hi] at hx; cases hx
  · exact absurd h ho
  · exact h
theorem own_in {i j x : Nat} (ho : lastP qs x qs.length = j + 1) (hi : i < qs.length) (hx : (qs.getD i zPart).s x = true) : i = j ∨ Strict (qs.getD j zPart).s (qs.getD i zPart).s := by
  obtain ⟨h1, h2⟩ := lastP_has qs x _ j ho
  have h3 := lastP_max qs x _ i hi hx
  by_cases e : i = j
  · exact .inl e
  · exact .inr (part_in P hord (by omega) h2 hx h1)
include hf
omit hord in
theorem first_in {j : Nat} (hj : j < qs.length) : (qs.getD j zPart).s (firstP (qs.getD j zPart)) = true := by
  have hl := (fits_facts hf).2.1
  have hm := getD_memP hj
  have hc : Canon (qs.getD j zPart).s := fun y hy => by have := P.low _ hm y hy; omega
  obtain ⟨y, hy⟩ := P.some _ hm
  have h1 := (mem_listS hc y).2 hy
  unfold firstP
  cases e : listS (qs.getD j zPart).s with
  | nil => rw [e] at h1; cases h1
  | cons b r =>
    simp only [List.headD_cons]
    exact (mem_listS hc b).1 (by rw [e]; simp)
omit P hord hf in
theorem tilesP_len (n : Nat) : (tilesP n qs).length = qs.length + 1 := by simp [tilesP]
omit P hord hf in
theorem tilesP_zero (n : Nat) : (tilesP n qs).getD 0 zTile = ⟨1, -1, ownBl n qs 0⟩ := rfl
omit P hord hf in
theorem tilesP_at (n : Nat) {j : Nat} (hj : j < qs.length) : (tilesP n qs).getD (j + 1) zTile = tileP n qs j := by
  simp [tilesP, List.getD_eq_getElem?_getD, hj]
omit P hord hf in
theorem tilesP_par (n : Nat) : parentsB (tilesP n qs) = true := by
  rw [parentsB_iff]
  intro k hk
  rw [tilesP_len] at hk
  cases k with
  | zero => rw [parL, tilesP_zero]; simp
  | succ k =>
    rw [parL, tilesP_at n (by omega)]
    simp only [tileP]
    have := lastP_le qs (firstP (qs.getD k zPart)) k
    omega
theorem desc_in (n : Nat) (j : Nat) (hj : j < qs.length) : ∀ i, i < qs.length → (descB (tilesP n qs) (j + 1) (i + 1) = true ↔ i = j ∨ Strict (qs.getD i zPart).s (qs.getD j zPart).s) := by
  have hp := tilesP_par (qs := qs) n
  intro i
  induction i using Nat.strongRecOn with
  | _ i ih =>
    intro hi
    have hfi := first_in hf P hi
    obtain ⟨v, e⟩ : ∃ v, v = lastP qs (firstP (qs.getD i zPart)) i := ⟨_, rfl⟩
    have hv : parL (tilesP n qs) (i + 1) = (v : Int) := by rw [parL, tilesP_at n hi, e]; rfl
    rw [descB_eq hp _ _ (by rw [tilesP_len]; omega), hv]
    have hd0 : (0 : Int) ≤ (v : Int) := by omega
    simp only [hd0, decide_true, Bool.true_and, Bool.or_eq_true, beq_iff_eq, Int.toNat_natCast]
    replace e := e.symm
    cases v with
    | zero =>
      constructor
      · rintro (h | h)
        · left; omega
        · have := descB_ge hp (j + 1) 0 (by rw [tilesP_len]; omega) h
          omega
      · rintro (h | h)
        · left; omega
        · exfalso
          have hji : j < i := by
            apply Classical.byContradiction
            intro hn
            by_cases e2 : i = j
            · subst e2; exact h.irrefl
            · exact hord i j (by omega) hj h
          have := lastP_max qs _ i j hji (h.1 _ hfi)
          omega
    | succ i' =>
      obtain ⟨h1, h2⟩ := lastP_has qs _ i i' e
      have h3 := part_in P hord h2 hi h1 hfi
      rw [ih i' h2 (by omega)]
      constructor
      · rintro (h | h | h)
        · left; omega
        · subst h; exact .inr h3
        · exact .inr (h3.trans h)
      · rintro (h | h)
        · left; omega
        · refine .inr ?_
          have hji : j < i := by
            apply Classical.byContradiction
            intro hn
            by_cases e2 : i = j
            · subst e2; exact h.irrefl
            · exact hord i j (by omega) hj h
          have hjf := h.1 _ hfi
          have := lastP_max qs _ i j hji hjf
          by_cases e2 : i' = j
          · exact .inl e2
          · exact .inr (part_in P hord (by omega) (by omega) hjf h1)
end
end

section
theorem mem_ownBl {n : Nat} {qs : List PartD} {j : Nat} {x : Nat} : (x : Int) ∈ ownBl n qs j ↔ x < n ∧ lastP qs x qs.length = j := by
  simp only [ownBl, intsN, List.mem_map, List.mem_filter, List.mem_range, beq_iff_eq]
  constructor
  · rintro ⟨y, ⟨h1, h2⟩, h3⟩
    obtain rfl : y = x := by omega
    exact ⟨h1, h2⟩
  · intro h; exact ⟨x, h, rfl⟩
theorem nat_ownBl {n : Nat} {qs : List PartD} {j : Nat} {z : Int} (h : z ∈ ownBl n qs j) : ∃ x : Nat, z = x := by
  simp only [ownBl, intsN, List.mem_map] at h
  obtain ⟨y, _, h3⟩ := h
  exact ⟨y, h3.symm⟩
theorem blk_at (n : Nat) {qs : List PartD} {k : Nat} (hk : k ≤ qs.length) : blkL (tilesP n qs) k = ownBl n qs k := by
  cases k with
  | zero => rfl
  | succ k => rw [blkL, tilesP_at n (by omega)]; rfl
theorem flat_one (v : Nat) : ∀ m, (List.range m).flatMap (fun k => if k = v then [k] else []) = if v < m then [v] else []
  | 0 => by simp
  | m + 1 => by
    rw [List.range_succ, List.flatMap_append, flat_one v m]
    by_cases h : m = v
    · subst h; simp
    · by_cases h2 : v < m
      · simp [h, h2, show v < m + 1 by omega]
      · simp [h, h2, show ¬ v < m + 1 by omega]
theorem filter_one (p : Nat → Bool) (b : Nat) (n : Nat) : ((intsN ((List.range n).filter p)).filter fun x => x == (b : Int)) = if b < n ∧ p b = true then [(b : Int)] else [] := by
  induction n with
  | zero => simp [intsN]
  | succ n ih =>
    unfold intsN at ih ⊢
    rw [List.range_succ, List.filter_append, List.map_append, List.filter_append, ih]
    by_cases hp : p n = true
    · by_cases hb : n = b
      · subst hb; simp [hp]
      · have h1 : ¬ ((n : Int) = (b : Int)) := by omega
        have h2 : (b < n + 1) = (b < n) := by apply propext; omega
        simp [hp, h1, h2]
    · by_cases hb : n = b
      · subst hb; simp [hp]
      · have h2 : (b < n + 1) = (b < n) := by apply propext; omega
        simp [hp, h2]
theorem homes_at (n : Nat) {qs : List PartD} {b : Nat} (hb : b < n) : homes (tilesP n qs) b = [lastP qs b qs.length] := by
  unfold homes
  rw [tilesP_len]
  have hl := lastP_le qs b qs.length
  have h : ∀ k ∈ List.range (qs.length + 1), ((blkL (tilesP n qs) k).filter fun x => x == (b : Int)).map (fun _ => k) = if k = lastP qs b qs.length then [k] else [] := by
    intro k hk
    rw [List.mem_range] at hk
    rw [blk_at n (by omega), ownBl, filter_one]
    by_cases e : k = lastP qs b qs.length
    · subst e; simp [hb]
    · have e' : ¬ lastP qs b qs.length = k := fun h => e h.symm
      simp [e, e']
  have h2 : ∀ (l : List Nat) (f g : Nat → List Nat), (∀ k ∈ l, f k = g k) → l.flatMap f = l.flatMap g := by
    intro l
    induction l with
    | nil => intros; rfl
    | cons a l ih => intro f g hfg; rw [List.flatMap_cons, List.flatMap_cons, hfg a (by simp), ih f g (fun k hk => hfg k (by simp [hk]))]
  rw [h2 _ _ _ h, flat_one, if_pos (by omega)]
theorem desc_zero (n : Nat) (qs : List PartD) : ∀ i, i < qs.length + 1 → descB (tilesP n qs) 0 i = true := by
  have hp := tilesP_par (qs := qs) n
  intro i
  induction i using Nat.strongRecOn with
  | _ i ih =>
    intro hi
    cases i with
    | zero => exact descB_self _ _
    | succ i =>
      rw [descB_eq hp _ _ (by rw [tilesP_len]; omega)]
      have hv : parL (tilesP n qs) (i + 1) = (lastP qs (firstP (qs.getD i zPart)) i : Nat) := by rw [parL, tilesP_at n (by omega)]; rfl
      have := lastP_le qs (firstP (qs.getD i zPart)) i
      rw [hv]
      simp only [Int.toNat_natCast]
      rw [ih _ (by omega) (by omega)]
      simp
theorem setK_zero {n : Nat} (hn : n ≤ 200) (qs : List PartD) : setK (tilesP n qs) 0 = wholeS n := by
  funext x
  rw [Bool.eq_iff_iff]
  simp only [setK, ofS, wholeS, Bool.and_eq_true, decide_eq_true_eq, List.contains_iff_mem]
  have h := mem_allL (tilesP n qs) 0 (by rw [tilesP_len]; omega) (tilesP_par n) (x : Int)
  rw [show ((0 : Nat) : Int) = 0 from rfl] at h
  constructor
  · rintro ⟨_, h2⟩
    obtain ⟨i, h3, _, h4⟩ := h.1 h2
    rw [tilesP_len] at h3
    rw [blk_at n (by omega)] at h4
    exact (mem_ownBl.1 h4).1
  · intro hx
    refine ⟨by omega, h.2 ⟨lastP qs x qs.length, ?_, ?_, ?_⟩⟩
    · rw [tilesP_len]; have := lastP_le qs x qs.length; omega
    · exact desc_zero n qs _ (by have := lastP_le qs x qs.length; omega)
    · rw [blk_at n (lastP_le _ _ _)]; exact mem_ownBl.2 ⟨hx, rfl⟩
section
variable {ts : List TermD} {qs : List PartD} (hf : fitsB ts = true) (P : PartsOK ts qs) (hord : ∀ i j, i < j → j < qs.length → ¬ Strict (qs.getD i zPart).s (qs.getD j zPart).s)
include hf P hord
theorem setK_at {j : Nat} (hj : j < qs.length) : setK (tilesP ts.length qs) (j + 1) = (qs.getD j zPart).s := by
  have hl := (fits_facts hf).2.1
  funext x
  rw [Bool.eq_iff_iff]
  simp only [setK, ofS, Bool.and_eq_true, decide_eq_true_eq, List.contains_iff_mem]
  have h := mem_allL (tilesP ts.length qs) (j + 1) (by rw [tilesP_len]; omega) (tilesP_par _) (x : Int)
  constructor
  · rintro ⟨_, h2⟩
    obtain ⟨i, h3, hd, h4⟩ := h.1 (by simpa using h2)
    rw [tilesP_len] at h3
    rw [blk_at _ (by omega)] at h4
    cases i with
    | zero => have := descB_ge (tilesP_par _) (j + 1) 0 (by rw [tilesP_len]; omega) hd; omega
    | succ i =>
      obtain ⟨h5, h6⟩ := mem_ownBl.1 h4
      have h7 := lastP_has qs x _ i h6
      rcases (desc_in hf P hord _ j hj i (by omega)).1 hd with e | e
      · subst e; exact h7.1
      · exact e.1 x h7.1
  · intro hx
    have hlow := P.low _ (getD_memP hj) x hx
    refine ⟨by omega, ?_⟩
    have hm := lastP_max qs x qs.length j hj hx
    have hle := lastP_le qs x qs.length
    obtain ⟨i, hi⟩ : ∃ i, lastP qs x qs.length = i + 1 := ⟨lastP qs x qs.length - 1, by omega⟩
    have h2 := own_in P hord hi hj hx
    have := h.2 ⟨i + 1, by rw [tilesP_len]; omega, (desc_in hf P hord _ j hj i (by omega)).2 (h2.imp (fun e => e.symm) id), by rw [blk_at _ (by omega)]; exact mem_ownBl.2 ⟨by omega, hi⟩⟩
    simpa using this
omit hf in
/-- the blocks that are a part's own: in it and in none that lies in it -/
theorem ownP_at {j x : Nat} (hj : j < qs.length) : (x : Int) ∈ ownBl ts.length qs (j + 1) ↔ (qs.getD j zPart).s x = true ∧ ∀ q ∈ qs, Strict q.s (qs.getD j zPart).s → q.s x = false := by
  rw [mem_ownBl]
  constructor
  · rintro ⟨_, h⟩
    obtain ⟨h1, h2⟩ := lastP_has qs x _ j h
    refine ⟨h1, fun q hq hs => ?_⟩
    cases e : q.s x with
    | false => rfl
    | true =>
      exfalso
      obtain ⟨i, hi, rfl⟩ := List.mem_iff_getElem.1 hq
      have e1 : qs.getD i zPart = qs[i] := by simp [List.getD_eq_getElem?_getD, hi]
      rw [← e1] at e hs
      rcases own_in P hord h hi e with h3 | h3
      · subst h3; exact hs.irrefl
      · exact hs.asymm h3
  · rintro ⟨h1, h2⟩
    have hlow := P.low _ (getD_memP hj) x h1
    refine ⟨by omega, ?_⟩
    have hm := lastP_max qs x qs.length j hj h1
    obtain ⟨i, hi⟩ : ∃ i, lastP qs x qs.length = i + 1 := ⟨lastP qs x qs.length - 1, by omega⟩
    rcases own_in P hord hi hj h1 with h3 | h3
    · omega
    · have h4 := lastP_has qs x _ i hi
      have := h2 _ (getD_memP h4.2) h3
      rw [h4.1] at this; cases this
omit hf P hord in
theorem zero_at {x : Nat} : (x : Int) ∈ ownBl ts.length qs 0 ↔ x < ts.length ∧ ∀ q ∈ qs, q.s x = false := by
  rw [mem_ownBl]
  refine and_congr_right fun _ => ⟨fun h q hq => ?_, fun h => ?_⟩
  · cases e : q.s x with
    | false => rfl
    | true =>
      obtain ⟨i, hi, rfl⟩ := List.mem_iff_getElem.1 hq
      have e1 : qs.getD i zPart = qs[i] := by simp [List.getD_eq_getElem?_getD, hi]
      rw [← e1] at e
      have := lastP_max qs x qs.length i hi e
      omega
  · apply Classical.byContradiction
    intro hn
    obtain ⟨i, hi⟩ : ∃ i, lastP qs x qs.length = i + 1 := ⟨lastP qs x qs.length - 1, by omega⟩
    have h4 := lastP_has qs x _ i hi
    rw [h _ (getD_memP h4.2)] at h4
    cases h4.1
omit hf in
theorem own_some {j : Nat} (hj : j < qs.length) : ∃ x : Nat, (x : Int) ∈ ownBl ts.length qs (j + 1) := by
  have hm := getD_memP hj
  by_cases h3 : (qs.getD j zPart).kind = 3
  · obtain ⟨y, hy⟩ := P.some _ hm
    exact ⟨y, (ownP_at P hord hj).2 ⟨hy, fun q hq hs => absurd hs (P.noreg _ hm h3 q hq)⟩⟩
  · obtain ⟨_, _, h1, h2⟩ := P.ent _ hm h3
    exact ⟨_, (ownP_at P hord hj).2 ⟨h1, h2⟩⟩
end
end

section
theorem rising_own (n : Nat) (qs : List PartD) (j : Nat) : risingB n (ownBl n qs j) = true := by
  have hpw : (ownBl n qs j).Pairwise (· < ·) := by
    unfold ownBl intsN
    rw [List.pairwise_map]
    exact (List.pairwise_lt_range.filter _).imp (fun h => by omega)
  simp only [risingB, List.all_eq_true, List.mem_range, Bool.and_eq_true, Bool.or_eq_true, beq_iff_eq, decide_eq_true_eq]
  intro i hi
  have e : (ownBl n qs j).getD i 0 = (ownBl n qs j)[i] := by rw [List.getD_eq_getElem?_getD, List.getElem?_eq_getElem hi]; rfl
  have hm : (ownBl n qs j)[i] ∈ ownBl n qs j := List.getElem_mem _
  obtain ⟨x, hx⟩ := nat_ownBl hm
  rw [hx] at hm
  have hb := (mem_ownBl.1 hm).1
  rw [e]
  refine ⟨by omega, ?_⟩
  by_cases h0 : i = 0
  · exact .inl h0
  · refine .inr ?_
    have e2 : (ownBl n qs j).getD (i - 1) 0 = (ownBl n qs j)[i - 1] := by rw [List.getD_eq_getElem?_getD, List.getElem?_eq_getElem (by omega)]; rfl
    rw [e2]
    exact List.pairwise_iff_getElem.1 hpw (i - 1) i (by omega) hi (by omega)
theorem rings_false {ts : List TermD} {bs : List Int} {inn : Nat → Bool} (hc : Canon inn) (h : ∀ z ∈ bs, ¬ Reach (nx ts) inn z.toNat z.toNat) : ringsB ts bs inn = false := by
  rw [ringsB, List.any_eq_false]
  intro z hz e
  rw [ring_iff hc, walkF_iff hc] at e
  exact h z hz e.2
section
variable {ts : List TermD} {qs : List PartD} (hf : fitsB ts = true) (P : PartsOK ts qs) (hord : ∀ i j, i < j → j < qs.length → ¬ Strict (qs.getD i zPart).s (qs.getD j zPart).s)
include hf P hord
omit hord in
theorem zero_in : (0 : Int) ∈ ownBl ts.length qs 0 := by
  have hl := (fits_facts hf).2.1
  have := (zero_at (ts := ts) (qs := qs) (x := 0)).2 ⟨by omega, fun q hq => by
    cases e : q.s 0 with
    | false => rfl
    | true => have := P.low q hq 0 e; omega⟩
  exact this
theorem len_tiles : qs.length + 1 ≤ ts.length := by
  have hl := (fits_facts hf).2.1
  have h : ∀ j, j < qs.length + 1 → ∃ x : Nat, (x : Int) ∈ ownBl ts.length qs j := by
    intro j hj
    cases j with
    | zero => exact ⟨0, zero_in hf P⟩
    | succ j => exact own_some P hord (by omega)
  have hc : ∀ j, ∃ x : Nat, j < qs.length + 1 → (x : Int) ∈ ownBl ts.length qs j := by
    intro j
    by_cases hj : j < qs.length + 1
    · obtain ⟨x, hx⟩ := h j hj; exact ⟨x, fun _ => hx⟩
    · exact ⟨0, fun e => absurd e hj⟩
  obtain ⟨f, hfn⟩ := Classical.axiomOfChoice hc
  have hn : ((List.range (qs.length + 1)).map f).Nodup := by
    rw [List.Nodup, List.pairwise_map]
    refine List.Pairwise.imp_of_mem ?_ List.pairwise_lt_range
    intro a b ha hb hab e
    rw [List.mem_range] at ha hb
    have h1 := mem_ownBl.1 (hfn a ha)
    have h2 := mem_ownBl.1 (hfn b hb)
    rw [e] at h1
    omega
  have := nodup_len ts.length _ hn (by
    intro y hy
    obtain ⟨j, hj, rfl⟩ := List.mem_map.1 hy
    rw [List.mem_range] at hj
    exact (mem_ownBl.1 (hfn j hj)).1)
  simpa using this
theorem stands_tiles {k : Nat} (hk : k < qs.length + 1) : standsB ts.length (tilesP ts.length qs) k = true := by
  have hne : ∀ j, j < qs.length + 1 → (ownBl ts.length qs j).length ≠ 0 := by
    intro j hj e
    have e' := List.length_eq_zero_iff.1 e
    cases j with
    | zero => have := zero_in hf P; rw [e'] at this; cases this
    | succ j => obtain ⟨x, hx⟩ := own_some P hord (j := j) (by omega); rw [e'] at hx; cases hx
  cases k with
  | zero =>
    have h0 := hne 0 (by omega)
    simp only [standsB, tilesP_zero, rising_own]
    simp [h0]
  | succ j =>
    have hj : j < qs.length := by omega
    have h0 := hne (j + 1) (by omega)
    have hkd := P.kind _ (getD_memP hj)
    have hk1 : ((tileP ts.length qs j).kind == 1) = false := by
      simp only [tileP, beq_eq_false_iff_ne, ne_eq]; omega
    have hp1 : ((tileP ts.length qs j).parent == -1) = false := by
      simp only [tileP, beq_eq_false_iff_ne, ne_eq]; omega
    have hb : (tileP ts.length qs j).blocks = ownBl ts.length qs (j + 1) := rfl
    have hk3 : (((tilesP ts.length qs).getD (tileP ts.length qs j).parent.toNat zTile).kind == 3) = false := by
      simp only [beq_eq_false_iff_ne, ne_eq]
      have hpe : (tileP ts.length qs j).parent.toNat = lastP qs (firstP (qs.getD j zPart)) j := by simp [tileP]
      rw [hpe]
      cases e : lastP qs (firstP (qs.getD j zPart)) j with
      | zero => rw [tilesP_zero]; simp
      | succ i =>
        obtain ⟨h1, h2⟩ := lastP_has qs _ j i e
        rw [tilesP_at _ (by omega)]
        intro h3
        exact P.noreg _ (getD_memP (show i < qs.length by omega)) h3 _ (getD_memP hj) (part_in P hord h2 hj h1 (first_in hf P hj))
    simp only [standsB, tilesP_at _ hj, hk1, hp1, hb, hk3, rising_own]
    simp [h0]
theorem holds_tiles {k : Nat} (hk : k < qs.length + 1) : holdsB ts ((tilesP ts.length qs).getD k zTile) (setK (tilesP ts.length qs) k) = true := by
  have hl := (fits_facts hf).2.1
  cases k with
  | zero =>
    rw [setK_zero hl.2, tilesP_zero]
    have hr := rings_false (ts := ts) (bs := ownBl ts.length qs 0) (whole_canon hl.2) (by
      intro z hz
      obtain ⟨x, rfl⟩ := nat_ownBl hz
      exact P.ring1 x (zero_at.1 hz).2)
    simp [holdsB, hr]
  | succ j =>
    have hj : j < qs.length := by omega
    have hm := getD_memP hj
    rw [setK_at hf P hord hj, tilesP_at _ hj]
    have hc : Canon (qs.getD j zPart).s := fun y hy => by have := P.low _ hm y hy; omega
    have hk : (tileP ts.length qs j).kind = (qs.getD j zPart).kind := rfl
    have hb : (tileP ts.length qs j).blocks = ownBl ts.length qs (j + 1) := rfl
    have hone : (qs.getD j zPart).kind ≠ 3 → oneB (tileP ts.length qs j) (entriesS ts (qs.getD j zPart).s) = true ∧ (entriesS ts (qs.getD j zPart).s).headD 0 = (qs.getD j zPart).entry.toNat := by
      intro h3
      obtain ⟨_, h4, h5, h6⟩ := P.ent _ hm h3
      have h7 := (ownP_at P hord hj).2 ⟨h5, h6⟩
      rw [h4]
      refine ⟨?_, rfl⟩
      simp only [oneB, hb, List.length_singleton, List.headD_cons, Bool.and_eq_true, List.contains_iff_mem]
      exact ⟨rfl, h7⟩
    have htog : (qs.getD j zPart).kind ≠ 4 → togetherB ts (qs.getD j zPart).s = true := fun h4 => (together_iff hc).2 (P.tog _ hm h4)
    rcases P.kind _ hm with h | h | h
    · obtain ⟨h1, h2⟩ := hone (by omega)
      have hr := rings_false (ts := ts) (bs := ownBl ts.length qs (j + 1)) (less_canon hc (qs.getD j zPart).entry.toNat) (by
        intro z hz
        obtain ⟨x, rfl⟩ := nat_ownBl hz
        have h5 := (ownP_at P hord hj).1 hz
        exact P.ring2 _ hm h x h5.1 h5.2)
      simp only [holdsB, hk, h, hb, h1, h2, htog (by omega), hr]
      rfl
    · have h1 := P.ent3 _ hm h
      simp only [holdsB, hk, h, htog (by omega), h1]
      rfl
    · obtain ⟨h1, h2⟩ := hone (by omega)
      have hr := rings_false (ts := ts) (bs := ownBl ts.length qs (j + 1)) hc (by
        intro z hz
        obtain ⟨x, rfl⟩ := nat_ownBl hz
        have h5 := (ownP_at P hord hj).1 hz
        exact P.ring4 _ hm h x h5.1 h5.2)
      simp only [holdsB, hk, h, hb, h1, hr]
      rfl
/-- what Build lays is right -/
theorem right_tiles : rightB ts (tilesP ts.length qs) = true := by
  have hl := (fits_facts hf).2.1
  have hlen := len_tiles hf P hord
  have hz := mem_ownBl.1 (zero_in hf P : ((0 : Nat) : Int) ∈ _)
  have hown : ownB (tilesP ts.length qs) ts.length = true := by
    simp only [ownB, List.all_eq_true, List.mem_range]
    intro b hb
    rw [homes_at _ hb]; rfl
  have h0 : (ownF (tilesP ts.length qs) 0 == 0) = true := by
    rw [ownF, homes_at _ (by omega), hz.2]; rfl
  simp only [rightB, hf, tilesP_par, hown, h0, Bool.and_eq_true, decide_eq_true_eq, List.all_eq_true, List.mem_range, Bool.true_and, Bool.and_true]
  rw [tilesP_len]
  exact ⟨by omega, fun k hk => ⟨stands_tiles hf P hord hk, holds_tiles hf P hord hk⟩⟩
end
end

section
/-- in how many parts one lies -/
def aroundP (ps : List PartD) (p : PartD) : Nat := (ps.filter fun x => withinB p.s x.s).length
theorem around_perm {ps qs : List PartD} (h : ps.Perm qs) (p : PartD) : aroundP ps p = aroundP qs p := (h.filter _).length_eq
theorem filter_sub {α : Type} {f g : α → Bool} : ∀ (l : List α), (∀ x ∈ l, f x = true → g x = true) → (l.filter f).length ≤ (l.filter g).length
  | [], _ => by simp
  | a :: l, h => by
    have ih := filter_sub l (fun x hx => h x (by simp [hx]))
    have ha := h a (by simp)
    cases e : f a with
    | true => simp [List.filter_cons, e, ha e, ih]
    | false =>
      cases e2 : g a with
      | true => simp [List.filter_cons, e, e2]; omega
      | false => simp [List.filter_cons, e, e2, ih]
theorem filter_lt {α : Type} {f g : α → Bool} : ∀ (l : List α), (∀ x ∈ l, f x = true → g x = true) → (∃ x ∈ l, g x = true ∧ f x = false) → (l.filter f).length < (l.filter g).length
  | [], _, h => by obtain ⟨x, hx, _⟩ := h; cases hx
  | a :: l, h, hw => by
    have hs := filter_sub l (fun x hx => h x (by simp [hx]))
    have ha := h a (by simp)
    obtain ⟨x, hx, h1, h2⟩ := hw
    rcases List.mem_cons.1 hx with rfl | hx
    · simp [List.filter_cons, h1, h2]; omega
    · have ih := filter_lt l (fun x hx => h x (by simp [hx])) ⟨x, hx, h1, h2⟩
      cases e : f a with
      | true => simp [List.filter_cons, e, ha e, ih]
      | false =>
        cases e2 : g a with
        | true => simp [List.filter_cons, e, e2]; omega
        | false => simp [List.filter_cons, e, e2, ih]
/-- an order of parts that Build may lay -/
def OrderOK (qs : List PartD) : Prop := ∀ i j, i < j → j < qs.length → aroundP qs (qs.getD i zPart) ≤ aroundP qs (qs.getD j zPart)
theorem order_ok {ts : List TermD} {qs : List PartD} (hl : ts.length ≤ 200) (P : PartsOK ts qs) (ho : OrderOK qs) : ∀ i j, i < j → j < qs.length → ¬ Strict (qs.getD i zPart).s (qs.getD j zPart).s := by
  intro i j hij hj hs
  have hcan : ∀ p ∈ qs, Canon p.s := fun p hp y hy => by have := P.low p hp y hy; omega
  have hi : i < qs.length := by omega
  have h1 := ho i j hij hj
  have h2 : aroundP qs (qs.getD j zPart) < aroundP qs (qs.getD i zPart) := by
    have cj := hcan _ (getD_memP hj)
    have ci := hcan _ (getD_memP hi)
    refine filter_lt qs ?_ ⟨qs.getD j zPart, getD_memP hj, (within_iff ci cj).2 hs, ?_⟩
    · intro x hx h
      exact (within_iff ci (hcan x hx)).2 (hs.trans ((within_iff cj (hcan x hx)).1 h))
    · cases e : withinB (qs.getD j zPart).s (qs.getD j zPart).s with
      | false => rfl
      | true => exact ((within_iff cj cj).1 e).irrefl.elim
  omega
/-- what Build tells of terms that fit: some order of the parts, laid as tiles -/
theorem build_right {ts : List TermD} (hf : fitsB ts = true) {qs : List PartD} (hp : (partsP ts).Perm qs) (ho : OrderOK qs) : rightB ts (tilesP ts.length qs) = true := by
  have P := (parts_ok hf).perm hp
  exact right_tiles hf P (order_ok (fits_facts hf).2.1.2 P ho)
end
end Go.Proofs.Ytblhmdhfhaencaa
