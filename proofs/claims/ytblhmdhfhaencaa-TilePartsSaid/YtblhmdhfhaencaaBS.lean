/-
 Edges between tiles, plain: which tiles a block lies in, what an edge leaves and enters. No program in sight.
-/
import Derived.Test.YtblhmdhfhaencaaEQ
namespace Go.Proofs.Ytblhmdhfhaencaa
set_option linter.unusedSimpArgs false
set_option linter.unusedVariables false
set_option linter.unusedSectionVars false
set_option maxRecDepth 100000
set_option maxHeartbeats 40000000
section
/-- a tile and those that it lies in, from it up -/
def chainF (l : List TileD) : Nat → Int → List Int
 | 0, _ => []
 | f + 1, k => if 0 ≤ k then k :: chainF l f (parL l k.toNat) else []
def chainL (l : List TileD) (k : Int) : List Int := chainF l (k.toNat + 1) k
theorem chainF_eq {l : List TileD} (hp : parentsB l = true) : ∀ (f : Nat) (k : Int), k < l.length → k < f → chainF l f k = chainL l k := by
 rw [parentsB_iff] at hp
 intro f
 induction f using Nat.strongRecOn with
 | _ f ih =>
   intro k hk hf
   by_cases h0 : 0 ≤ k
   · have h1 := hp k.toNat (by omega)
     cases f with
     | zero => omega
     | succ f =>
       rw [chainL, chainF, chainF, if_pos h0, if_pos h0]
       have e : ((k.toNat : Nat) : Int) = k := by omega
       rw [ih f (by omega) _ (by omega) (by omega)]
       by_cases e2 : k.toNat = f
       · rw [e2, ← ih f (by omega) (parL l f) (by rw [← e2]; omega) (by rw [← e2]; omega)]
       · rw [ih k.toNat (by omega) _ (by omega) (by omega)]
   · rw [chainL]
     cases f with
     | zero => rw [show k.toNat = 0 by omega]; simp [chainF, h0]
     | succ f => rw [show k.toNat = 0 by omega]; simp [chainF, h0]
theorem chainL_step {l : List TileD} (hp : parentsB l = true) {k : Int} (h0 : 0 ≤ k) (hk : k < l.length) : chainL l k = k :: chainL l (parL l k.toNat) := by
 have h1 := (parentsB_iff l).1 hp k.toNat (by omega)
 rw [chainL, chainF, if_pos h0, chainF_eq hp _ _ (by omega) (by omega)]
theorem chainL_end (l : List TileD) {k : Int} (h0 : k < 0) : chainL l k = [] := by
 rw [chainL, show k.toNat = 0 by omega, chainF, if_neg (by omega)]
theorem chainL_len {l : List TileD} (hp : parentsB l = true) : ∀ (n : Nat) (k : Int), k < n → k < l.length → (chainL l k).length ≤ n := by
 intro n
 induction n with
 | zero => intro k hk _; rw [chainL_end l (by omega)]; simp
 | succ n ih =>
   intro k hk hl
   by_cases h0 : 0 ≤ k
   · have h1 := (parentsB_iff l).1 hp k.toNat (by omega)
     rw [chainL_step hp h0 hl]
     have := ih (parL l k.toNat) (by omega) (by omega)
     simp; omega
   · rw [chainL_end l (by omega)]; simp
theorem mem_chainL {l : List TileD} (hp : parentsB l = true) (m : Int) : ∀ (n : Nat), n < l.length → (m ∈ chainL l n ↔ 0 ≤ m ∧ descB l m.toNat n = true) := by
 intro n
 induction n using Nat.strongRecOn with
 | _ n ih =>
   intro hn
   have h1 := (parentsB_iff l).1 hp n hn
   rw [chainL_step hp (by omega) (by omega), List.mem_cons, descB_eq hp _ n hn]
   simp only [Int.toNat_natCast, Bool.or_eq_true, Bool.and_eq_true, decide_eq_true_eq, beq_iff_eq]
   by_cases h2 : 0 ≤ parL l n
   · have e : ((parL l n).toNat : Int) = parL l n := by omega
     have := ih (parL l n).toNat (by omega) (by omega)
     rw [e] at this
     rw [this]
     constructor
     · rintro (rfl | ⟨h3, h4⟩)
       · exact ⟨by omega, .inl (by omega)⟩
       · exact ⟨h3, .inr ⟨h2, h4⟩⟩
     · rintro ⟨h3, (h4 | ⟨_, h4⟩)⟩
       · left; omega
       · exact .inr ⟨h3, h4⟩
   · rw [chainL_end l (by omega)]
     constructor
     · rintro (rfl | h3)
       · exact ⟨by omega, .inl (by omega)⟩
       · cases h3
     · rintro ⟨h3, (h4 | ⟨h4, _⟩)⟩
       · left; omega
       · exact absurd h4 h2
/-- one behind another is its parent -/
theorem chain_next {l : List TileD} (hp : parentsB l = true) : ∀ (n : Nat) (k : Int), k < n → k < l.length → ∀ i, i + 1 < (chainL l k).length → 0 ≤ (chainL l k).getD i 0 ∧ (chainL l k).getD i 0 < l.length ∧ (chainL l k).getD (i + 1) 0 = parL l ((chainL l k).getD i 0).toNat := by
 intro n
 induction n with
 | zero => intro k hk _ i hi; rw [chainL_end l (by omega)] at hi; simp at hi
 | succ n ih =>
   intro k hk hl i hi
   by_cases h0 : 0 ≤ k
   · have h1 := (parentsB_iff l).1 hp k.toNat (by omega)
     rw [chainL_step hp h0 hl] at hi ⊢
     cases i with
     | zero =>
       simp only [List.getD_cons_zero, List.getD_cons_succ]
       refine ⟨h0, hl, ?_⟩
       simp only [List.length_cons] at hi
       by_cases h2 : 0 ≤ parL l k.toNat
       · rw [chainL_step hp h2 (by omega)]; rfl
       · rw [chainL_end l (by omega)] at hi; simp at hi
     | succ i =>
       simp only [List.getD_cons_succ]
       exact ih _ (by omega) (by omega) i (by simpa using hi)
   · rw [chainL_end l (by omega)] at hi; simp at hi
theorem chain_mem {l : List TileD} (hp : parentsB l = true) : ∀ (n : Nat) (k : Int), k < n → k < l.length → ∀ x ∈ chainL l k, 0 ≤ x ∧ x ≤ k := by
 intro n
 induction n with
 | zero => intro k hk _ x hx; rw [chainL_end l (by omega)] at hx; cases hx
 | succ n ih =>
   intro k hk hl x hx
   by_cases h0 : 0 ≤ k
   · have h1 := (parentsB_iff l).1 hp k.toNat (by omega)
     rw [chainL_step hp h0 hl, List.mem_cons] at hx
     rcases hx with rfl | hx
     · omega
     · have := ih _ (by omega) (by omega) x hx; omega
   · rw [chainL_end l (by omega)] at hx; cases hx

/-- which tiles a block lies in -/
def inL (l : List TileD) (b : Int) : List Int := chainL l (ownF l b.toNat)
def besL (l : List TileD) (b o : Int) : List Int := (inL l b).filter fun k => !(inL l o).contains k
structure RowD where
 e : EdgeD
 lv : List Int
 en : List Int
def rowOf (l : List TileD) (x : EdgeD) : RowD := ⟨x, besL l x.fr x.to, (besL l x.to x.fr).reverse⟩
def betwB (l : List TileD) (asked : EdgeD → Bool) (x : EdgeD) : Bool := (ownF l x.fr.toNat != ownF l x.to.toNat) && asked x
def rowsL (ts : List TermD) (l : List TileD) (asked : EdgeD → Bool) : List RowD := ((edgesL ts).filter (betwB l asked)).map (rowOf l)
theorem inL_len {l : List TileD} (hp : parentsB l = true) (b : Int) (hb : ownF l b.toNat < l.length) : (inL l b).length ≤ l.length := chainL_len hp _ _ (by omega) (by omega)
theorem besL_len {l : List TileD} (hp : parentsB l = true) (b o : Int) (hb : ownF l b.toNat < l.length) : (besL l b o).length ≤ l.length := Nat.le_trans (List.length_filter_le _ _) (inL_len hp b hb)

/-! ### whose own -/
theorem own_home {l : List TileD} {n : Nat} (h : ownB l n = true) {b : Nat} (hb : b < n) : homes l b = [ownF l b] := by
 simp only [ownB, List.all_eq_true, List.mem_range, beq_iff_eq] at h
 have := h b hb
 unfold ownF
 match e : homes l b, this with
 | [x], _ => rfl
theorem mem_homes (l : List TileD) (b k : Nat) : k ∈ homes l b ↔ k < l.length ∧ (b : Int) ∈ blkL l k := by
 simp only [homes, List.mem_flatMap, List.mem_range, List.mem_map, List.mem_filter, beq_iff_eq]
 constructor
 · rintro ⟨q, hq, x, ⟨hx, rfl⟩, rfl⟩; exact ⟨hq, hx⟩
 · rintro ⟨hk, hb⟩; exact ⟨k, hk, b, ⟨hb, rfl⟩, rfl⟩
theorem own_iff {l : List TileD} {n : Nat} (h : ownB l n = true) {b : Nat} (hb : b < n) (k : Nat) : (k < l.length ∧ (b : Int) ∈ blkL l k) ↔ ownF l b = k := by
 rw [← mem_homes, own_home h hb, List.mem_singleton]
 exact ⟨fun e => e.symm, fun e => e.symm⟩
theorem own_lt {l : List TileD} {n : Nat} (h : ownB l n = true) {b : Nat} (hb : b < n) : ownF l b < l.length := ((own_iff h hb _).2 rfl).1
theorem mem_all_own {l : List TileD} {n : Nat} (hp : parentsB l = true) (h : ownB l n = true) {b : Nat} (hb : b < n) {k : Nat} (hk : k < l.length) : (b : Int) ∈ allL l k ↔ descB l k (ownF l b) = true := by
 rw [mem_allL l k hk hp]
 constructor
 · rintro ⟨m, hm, hd, hx⟩; rw [(own_iff h hb m).1 ⟨hm, hx⟩]; exact hd
 · intro hd; exact ⟨ownF l b, own_lt h hb, hd, ((own_iff h hb _).2 rfl).2⟩
theorem mem_inL {l : List TileD} {n : Nat} (hp : parentsB l = true) (h : ownB l n = true) {b : Int} (h0 : 0 ≤ b) (hb : b < n) {k : Nat} (hk : k < l.length) : (k : Int) ∈ inL l b ↔ b ∈ allL l k := by
 rw [inL, mem_chainL hp _ _ (own_lt h (b := b.toNat) (by omega))]
 have := mem_all_own hp h (b := b.toNat) (by omega) hk
 rw [show ((b.toNat : Nat) : Int) = b by omega] at this
 rw [this]
 simp

/-! ### what is left, entered -/
/-- of a list in which all behind one that is not let in are not, what is let in is its begin -/
theorem filter_pre (p : Int → Bool) : ∀ (L : List Int), (∀ i j, i < j → j < L.length → p (L.getD j 0) = true → p (L.getD i 0) = true) → L.filter p = L.take (L.filter p).length := by
 intro L
 induction L with
 | nil => intro _; rfl
 | cons x L ih =>
   intro h
   by_cases hx : p x = true
   · rw [List.filter_cons, if_pos hx, List.length_cons, List.take_succ_cons]
     congr 1
     exact ih fun i j hij hj hp => by
      have := h (i + 1) (j + 1) (by omega) (by simpa using hj) (by simpa using hp)
      simpa using this
   · have : L.filter p = [] := by
      rw [List.filter_eq_nil_iff]
      intro y hy hpy
      obtain ⟨j, hj, rfl⟩ := List.getElem_of_mem hy
      have := h 0 (j + 1) (by omega) (by simpa using hj) (by simpa [List.getD_eq_getElem?_getD, hj] using hpy)
      exact hx (by simpa using this)
     rw [List.filter_cons, if_neg hx, this]; rfl
theorem getD_mem {L : List Int} {i : Nat} (h : i < L.length) : L.getD i 0 ∈ L := by
 rw [List.getD_eq_getElem?_getD, List.getElem?_eq_getElem h]; exact List.getElem_mem _
/-- what lies in a tile lies in what that lies in -/
theorem chain_up {l : List TileD} (hp : parentsB l = true) (n : Nat) (hn : n < l.length) : ∀ (m : Nat) (k : Int), k < m → k < l.length → ∀ i j, i < j → j < (chainL l k).length → (chainL l k).getD i 0 ∈ chainL l n → (chainL l k).getD j 0 ∈ chainL l n := by
 intro m k hm hk i j hij
 induction j with
 | zero => omega
 | succ j ih =>
   intro hj hi
   obtain ⟨h1, h2, h3⟩ := chain_next hp m k hm hk j hj
   have h4 : (chainL l k).getD j 0 ∈ chainL l n := by
    by_cases e : i = j
    · subst e; exact hi
    · exact ih (by omega) (by omega) hi
   have h5 := chain_mem hp m k hm hk _ (getD_mem hj)
   rw [mem_chainL hp _ _ hn] at h4 ⊢
   refine ⟨h5.1, ?_⟩
   rw [h3]
   rw [h3] at h5
   refine descB_trans hp _ ((chainL l k).getD j 0).toNat ?_ n hn h4.2
   rw [descB_eq hp _ _ (by omega), descB_self, decide_eq_true h5.1]
   simp
theorem bes_pre {l : List TileD} (hp : parentsB l = true) (b o : Int) (hb : ownF l b.toNat < l.length) (ho : ownF l o.toNat < l.length) : besL l b o = (inL l b).take (besL l b o).length := by
 refine filter_pre _ _ fun i j hij hj h => ?_
 simp only [Bool.not_eq_true', List.contains_eq_mem, decide_eq_false_iff_not] at h ⊢
 exact fun h2 => h (chain_up hp _ ho _ _ (Int.lt_succ _) (by omega) i j hij hj h2)
theorem bes_next {l : List TileD} (hp : parentsB l = true) (b o : Int) (hb : ownF l b.toNat < l.length) (ho : ownF l o.toNat < l.length) (i : Nat) (hi : i + 1 < (besL l b o).length) :
  0 ≤ (besL l b o).getD i 0 ∧ (besL l b o).getD i 0 < l.length ∧ parL l ((besL l b o).getD i 0).toNat = (besL l b o).getD (i + 1) 0 := by
 have hpre := bes_pre hp b o hb ho
 have hl : (besL l b o).length ≤ (inL l b).length := List.length_filter_le _ _
 have e : ∀ j, j < (besL l b o).length → (besL l b o).getD j 0 = (inL l b).getD j 0 := fun j hj => by
  rw [hpre, List.getD_eq_getElem?_getD, List.getElem?_take_of_lt hj, ← List.getD_eq_getElem?_getD]
 obtain ⟨h1, h2, h3⟩ := chain_next hp _ _ (Int.lt_succ _) (by omega) i (show i + 1 < (inL l b).length by omega)
 rw [e i (by omega), e (i + 1) hi]
 exact ⟨h1, h2, h3.symm⟩
theorem mem_bes {l : List TileD} {n : Nat} (hp : parentsB l = true) (h : ownB l n = true) {b o : Int} (h0 : 0 ≤ b) (hb : b < n) (h1 : 0 ≤ o) (ho : o < n) {k : Nat} (hk : k < l.length) : (k : Int) ∈ besL l b o ↔ b ∈ allL l k ∧ o ∉ allL l k := by
 rw [besL, List.mem_filter, mem_inL hp h h0 hb hk]
 simp only [Bool.not_eq_true', List.contains_eq_mem, decide_eq_false_iff_not]
 rw [mem_inL hp h h1 ho hk]
theorem bes_some {l : List TileD} (hp : parentsB l = true) {b o : Int} (hb : ownF l b.toNat < l.length) (ho : ownF l o.toNat < l.length) (hne : ownF l b.toNat ≠ ownF l o.toNat) : 0 < (besL l b o).length + (besL l o b).length := by
 apply Classical.byContradiction
 intro hn
 have e1 : besL l b o = [] := List.eq_nil_of_length_eq_zero (by omega)
 have e2 : besL l o b = [] := List.eq_nil_of_length_eq_zero (by omega)
 have key : ∀ {x y : Int}, ownF l x.toNat < l.length → ownF l y.toNat < l.length → besL l x y = [] → ownF l x.toNat ≤ ownF l y.toNat := fun {x y} hx hy e => by
  rw [besL, List.filter_eq_nil_iff] at e
  have h1 : ((ownF l x.toNat : Nat) : Int) ∈ inL l x := by rw [inL, chainL_step hp (by omega) (by omega)]; simp
  have h2 := e _ h1
  simp only [Bool.not_eq_true, Bool.not_eq_false', List.contains_eq_mem, decide_eq_true_eq] at h2
  have := chain_mem hp _ _ (Int.lt_succ _) (by omega) _ h2
  omega
 have := key hb ho e1
 have := key ho hb e2
 omega
end

section
structure PartD where
 s : Nat → Bool
 kind : Int
 entry : Int
def diffS (a b : Nat → Bool) : Nat → Bool := fun k => if b k then false else a k
def withinB (a b : Nat → Bool) : Bool := (listS a).all b && !eqS a b
/-- one block on the way: what is left, what is found -/
def stepP (ts : List TermD) (rec : (Nat → Bool) → List PartD) (inn : Nat → Bool) (st : (Nat → Bool) × List PartD) (k : Nat) : (Nat → Bool) × List PartD :=
 if st.1 k && knotS ts k inn k then
  if 1 < (entriesS ts (knotS ts k inn)).length then (diffS st.1 (knotS ts k inn), st.2 ++ [⟨knotS ts k inn, 3, -1⟩])
  else (diffS st.1 (knotS ts k inn), st.2 ++ ⟨knotS ts k inn, 2, (((entriesS ts (knotS ts k inn)).headD 0 : Nat) : Int)⟩ :: rec (lessS (knotS ts k inn) ((entriesS ts (knotS ts k inn)).headD 0)))
 else st
def loopsP (ts : List TermD) : Nat → (Nat → Bool) → List PartD
 | 0, _ => []
 | f + 1, inn => ((listS inn).foldl (stepP ts (loopsP ts f) inn) (inn, [])).2

/-! ### hanging together -/
def Tog (ts : List TermD) (inn : Nat → Bool) (a b : Nat) : Prop := Reach (nx ts) inn a b ∧ Reach (nx ts) inn b a
theorem Tog.symm {ts : List TermD} {inn : Nat → Bool} {a b : Nat} (h : Tog ts inn a b) : Tog ts inn b a := ⟨h.2, h.1⟩
theorem Tog.trans {ts : List TermD} {inn : Nat → Bool} {a b c : Nat} (h : Tog ts inn a b) (k : Tog ts inn b c) : Tog ts inn a c := ⟨h.1.trans k.1, k.2.trans h.2⟩
theorem Tog.self {ts : List TermD} {inn : Nat → Bool} {a b : Nat} (h : Tog ts inn a b) : Tog ts inn a a := h.trans h.symm
/-- what lies on a way between two of a knot is in it -/
theorem knot_way {ts : List TermD} {inn : Nat → Bool} (hc : Canon inn) {k a b : Nat} (ha : knotS ts k inn a = true) (hb : knotS ts k inn b = true) : Reach (nx ts) (knotS ts k inn) a b := by
 obtain ⟨hk, h1, h2⟩ := (knot_iff hc k a).1 ha
 obtain ⟨_, h3, h4⟩ := (knot_iff hc k b).1 hb
 have key : ∀ y, Reach (nx ts) inn a y → Reach (nx ts) inn y k → Reach (nx ts) (knotS ts k inn) a y := by
  intro y hr
  induction hr with
  | one hy hi => exact fun h => .one hy ((knot_iff hc k _).2 ⟨hk, h1.trans (.one hy hi), h⟩)
  | @step x y hx hy hi ih => exact fun h => .step (ih ((Reach.one hy hi).trans h)) hy ((knot_iff hc k _).2 ⟨hk, h1.trans (.step hx hy hi), h⟩)
 exact key b (h2.trans h3) h4
theorem reach_step {next : Nat → List Nat} {inn : Nat → Bool} {a b : Nat} (h : Reach next inn a b) : ∃ x, (x = a ∨ Reach next inn a x) ∧ b ∈ next x := by
 cases h with
 | one hy _ => exact ⟨a, .inl rfl, hy⟩
 | step hx hy _ => exact ⟨_, .inr hx, hy⟩
/-- a way into a set enters it -/
theorem reach_enters {next : Nat → List Nat} {inn : Nat → Bool} {a b : Nat} (h : Reach next inn a b) (s : Nat → Bool) (ha : s a = false) (hb : s b = true) : ∃ x y, (x = a ∨ Reach next inn a x) ∧ s x = false ∧ y ∈ next x ∧ s y = true ∧ inn y = true := by
 induction h with
 | one hy hi => exact ⟨a, _, .inl rfl, ha, hy, hb, hi⟩
 | @step x y hx hy hi ih =>
   cases hs : s x with
   | true => exact ih hs
   | false => exact ⟨x, y, .inr hx, hs, hy, hb, hi⟩

/-! ### what holds of a loop, a region -/
structure LoopOK (ts : List TermD) (p : PartD) : Prop where
 some : ∃ y, p.s y = true
 low : ∀ y, p.s y = true → 1 ≤ y ∧ y < ts.length
 tog : ∀ a b, p.s a = true → p.s b = true → Reach (nx ts) p.s a b
 ent : (p.kind = 3 ∧ p.entry = -1 ∧ 1 < (entriesS ts p.s).length) ∨ (p.kind = 2 ∧ 0 ≤ p.entry ∧ entriesS ts p.s = [p.entry.toNat])
/-- of two the second one lies apart from the first one, or in it, but for where it is entered -/
def LoopR (p q : PartD) : Prop := (∀ y, p.s y = true → q.s y = false) ∨ (p.kind = 2 ∧ ∀ y, q.s y = true → p.s y = true ∧ y ≠ p.entry.toNat)
def InnerP (ts : List TermD) (ps : List PartD) (p : PartD) : Prop :=
 p.kind = 2 → ∀ b, p.s b = true → Reach (nx ts) (lessS p.s p.entry.toNat) b b → ∃ q ∈ ps, q.s b = true ∧ ∀ y, q.s y = true → p.s y = true ∧ y ≠ p.entry.toNat
/-- all loops, regions within some blocks -/
structure LoopsF (ts : List TermD) (inn : Nat → Bool) (ps : List PartD) : Prop where
 ring : ∀ b, inn b = true → Reach (nx ts) inn b b → ∃ p ∈ ps, p.s b = true
 out : ∀ p ∈ ps, ∀ y, p.s y = true → inn y = true ∧ Reach (nx ts) inn y y
 ok : ∀ p ∈ ps, LoopOK ts p
 pw : ps.Pairwise LoopR
 inner : ∀ p ∈ ps, InnerP ts ps p
/-- the same on the way, d gone through -/
structure LoopsJ (ts : List TermD) (inn : Nat → Bool) (d : List Nat) (left : Nat → Bool) (ps : List PartD) : Prop where
 sub : ∀ y, left y = true → inn y = true
 cls : ∀ y z, inn y = true → left y = false → Tog ts inn y z → left z = false
 seen : ∀ k ∈ d, Reach (nx ts) inn k k → left k = false
 cov : ∀ y, inn y = true → left y = false → ∃ p ∈ ps, p.s y = true
 out : ∀ p ∈ ps, ∀ y, p.s y = true → inn y = true ∧ left y = false ∧ Reach (nx ts) inn y y
 ok : ∀ p ∈ ps, LoopOK ts p
 pw : ps.Pairwise LoopR
 inner : ∀ p ∈ ps, InnerP ts ps p

theorem fits_facts {ts : List TermD} (hf : fitsB ts = true) : goodB ts = true ∧ (1 ≤ ts.length ∧ ts.length ≤ 200) ∧ ∀ y, 1 ≤ y → y < ts.length → Reach (nx ts) (wholeS ts.length) 0 y := by
 simp only [fitsB, Bool.and_eq_true, List.all_eq_true, List.mem_range, Bool.or_eq_true, beq_iff_eq] at hf
 have hl := ((goodB_iff ts).1 hf.1).1
 refine ⟨hf.1, hl, fun y h1 h2 => ?_⟩
 rcases hf.2 y h2 with h | h
 · omega
 · exact ((walkF_iff (whole_canon hl.2) 0 y).1 h).2
theorem mem_entries {ts : List TermD} {s : Nat → Bool} (hs : Canon s) (b : Nat) : b ∈ entriesS ts s ↔ s b = true ∧ b < ts.length ∧ ∃ x, b ∈ nx ts x ∧ s x = false := by
 simp only [entriesS, List.mem_filter, mem_listS hs, Bool.and_eq_true, decide_eq_true_eq, List.any_eq_true, Bool.not_eq_true']
 constructor
 · rintro ⟨h1, h2, x, h3, h4⟩; exact ⟨h1, h2, x, (mem_pv ts b x).1 h3, h4⟩
 · rintro ⟨h1, h2, x, h3, h4⟩; exact ⟨h1, h2, x, (mem_pv ts b x).2 h3, h4⟩
/-- blocks without the first one are entered -/
theorem entered {ts : List TermD} (hf : fitsB ts = true) {s : Nat → Bool} (hs : Canon s) {y : Nat} (hy : s y = true) (hlow : ∀ y, s y = true → 1 ≤ y ∧ y < ts.length) : entriesS ts s ≠ [] := by
 obtain ⟨hg, hl, hr⟩ := fits_facts hf
 have h0 : s 0 = false := by
  cases e : s 0 with
  | false => rfl
  | true => have := hlow 0 e; omega
 obtain ⟨x, z, _, h1, h2, h3, _⟩ := reach_enters (hr y (hlow y hy).1 (hlow y hy).2) s h0 hy
 intro e
 have : z ∈ entriesS ts s := (mem_entries hs z).2 ⟨h3, (hlow z h3).2, x, h2, h1⟩
 rw [e] at this
 cases this
theorem entries_one {l : List Nat} (h0 : l ≠ []) (h1 : ¬ 1 < l.length) : l = [l.headD 0] := by
 match l, h0, h1 with
 | [x], _, _ => rfl
 | x :: y :: l, _, h => simp at h
theorem less_len {s inn : Nat → Bool} {e : Nat} (hs : ∀ y, s y = true → inn y = true) (hc : Canon inn) (he : s e = true) : (listS (lessS s e)).length < (listS inn).length := by
 unfold listS
 have key : ∀ (l : List Nat), (l.filter (lessS s e)).length ≤ (l.filter inn).length ∧ (e ∈ l → (l.filter (lessS s e)).length < (l.filter inn).length) := by
  intro l
  induction l with
  | nil => simp
  | cons x l ih =>
    simp only [List.filter_cons]
    by_cases h1 : lessS s e x = true
    · have h2 : x ≠ e ∧ s x = true := by simpa [lessS] using h1
      have h3 := hs x h2.2
      rw [if_pos h1, if_pos h3]
      refine ⟨by simp; exact ih.1, fun h => ?_⟩
      rcases List.mem_cons.1 h with rfl | h
      · exact absurd rfl h2.1
      · simp; exact ih.2 h
    · rw [if_neg h1]
      by_cases h3 : inn x = true
      · rw [if_pos h3]
        exact ⟨by simp; omega, fun _ => by simp; omega⟩
      · rw [if_neg h3]
        refine ⟨ih.1, fun h => ?_⟩
        rcases List.mem_cons.1 h with rfl | h
        · exact absurd (hs _ he) h3
        · exact ih.2 h
 exact (key (List.range 200)).2 (by simp; exact hc _ (hs _ he))
theorem mem_less {s : Nat → Bool} {e y : Nat} : lessS s e y = true ↔ y ≠ e ∧ s y = true := by simp [lessS]
section
variable {ts : List TermD} {inn : Nat → Bool} {d : List Nat} {left : Nat → Bool} {ps : List PartD} {k : Nat}
theorem LoopsJ.skip (h : LoopsJ ts inn d left ps) (hc : Canon inn) (hk : inn k = true) (hn : ¬ (left k && knotS ts k inn k) = true) : LoopsJ ts inn (d ++ [k]) left ps where
 sub := h.sub
 cls := h.cls
 seen := fun x hx hr => by
  rcases List.mem_append.1 hx with hx | hx
  · exact h.seen x hx hr
  · have hx : x = k := by simpa using hx
    subst hx
    cases e : left x with
    | false => rfl
    | true =>
      have : knotS ts x inn x = true := (knot_iff hc x x).2 ⟨hk, hr, hr⟩
      exact absurd (by rw [e, this]; rfl) hn
 cov := h.cov
 out := h.out
 ok := h.ok
 pw := h.pw
 inner := h.inner
theorem knot_ok (hf : fitsB ts = true) (hc : Canon inn) (hin : ∀ y, inn y = true → y < ts.length) (hk : knotS ts k inn k = true) (kind entry : Int)
  (hent : (kind = 3 ∧ entry = -1 ∧ 1 < (entriesS ts (knotS ts k inn)).length) ∨ (kind = 2 ∧ 0 ≤ entry ∧ entriesS ts (knotS ts k inn) = [entry.toNat])) : LoopOK ts ⟨knotS ts k inn, kind, entry⟩ where
 some := ⟨k, hk⟩
 low := fun y hy => by
  have h := ((knot_iff hc k y).1 hy).2.1
  obtain ⟨x, _, hx⟩ := reach_step h
  have := good_nx (fits_facts hf).1 hx
  exact this
 tog := fun a b ha hb => knot_way hc ha hb
 ent := hent
/-- a knot is found, with what lies in it -/
theorem LoopsJ.found (h : LoopsJ ts inn d left ps) (hc : Canon inn) (hk : inn k = true) (hl : left k = true) (hkk : knotS ts k inn k = true) (p : PartD) (hp : p.s = knotS ts k inn) (hok : LoopOK ts p) (sub : List PartD)
  (hsub : (p.kind = 3 ∧ sub = []) ∨ (p.kind = 2 ∧ LoopsF ts (lessS p.s p.entry.toNat) sub)) : LoopsJ ts inn (d ++ [k]) (diffS left (knotS ts k inn)) (ps ++ p :: sub) := by
 have hd : ∀ y, diffS left (knotS ts k inn) y = true ↔ left y = true ∧ knotS ts k inn y = false := fun y => by
  simp only [diffS]
  split
  · simp_all
  · simp_all
 have hdf : ∀ y, diffS left (knotS ts k inn) y = false ↔ left y = false ∨ knotS ts k inn y = true := fun y => by
  simp only [diffS]
  split
  · simp_all
  · simp_all
 have hkn : ∀ y, knotS ts k inn y = true ↔ Tog ts inn k y := fun y => by rw [knot_iff hc]; exact ⟨fun h => h.2, fun h => ⟨hk, h⟩⟩
 -- all that is found now lies in the knot
 have hin : ∀ q ∈ p :: sub, ∀ y, q.s y = true → knotS ts k inn y = true := by
  intro q hq y hy
  rcases List.mem_cons.1 hq with rfl | hq
  · rw [← hp]; exact hy
  · rcases hsub with ⟨_, rfl⟩ | ⟨_, hF⟩
    · cases hq
    · have := (hF.out q hq y hy).1
      rw [← hp]
      exact (mem_less.1 this).2
 have hleft : ∀ y, knotS ts k inn y = true → left y = true := fun y hy => by
  cases e : left y with
  | true => rfl
  | false =>
    have h1 := (hkn y).1 hy
    have := h.cls y k h1.1.inn e h1.symm
    rw [hl] at this
    cases this
 refine ⟨fun y hy => h.sub y ((hd y).1 hy).1, ?_, ?_, ?_, ?_, ?_, ?_, ?_⟩
 · intro y z hy hly ht
   rw [hdf] at hly ⊢
   rcases hly with hly | hly
   · exact .inl (h.cls y z hy hly ht)
   · exact .inr ((hkn z).2 (((hkn y).1 hly).trans ht))
 · intro x hx hr
   rw [hdf]
   rcases List.mem_append.1 hx with hx | hx
   · exact .inl (h.seen x hx hr)
   · have hx : x = k := by simpa using hx
     subst hx
     exact .inr hkk
 · intro y hy hly
   rcases (hdf y).1 hly with hly | hly
   · obtain ⟨q, hq, hqs⟩ := h.cov y hy hly
     exact ⟨q, List.mem_append_left _ hq, hqs⟩
   · exact ⟨p, List.mem_append_right _ (List.mem_cons_self ..), by rw [hp]; exact hly⟩
 · intro q hq y hy
   rcases List.mem_append.1 hq with hq | hq
   · obtain ⟨h1, h2, h3⟩ := h.out q hq y hy
     exact ⟨h1, (hdf y).2 (.inl h2), h3⟩
   · have h1 := hin q hq y hy
     have h2 := (hkn y).1 h1
     exact ⟨h2.1.inn, (hdf y).2 (.inr h1), (h2.symm.self).1⟩
 · intro q hq
   rcases List.mem_append.1 hq with hq | hq
   · exact h.ok q hq
   · rcases List.mem_cons.1 hq with rfl | hq
     · exact hok
     · rcases hsub with ⟨_, rfl⟩ | ⟨_, hF⟩
       · cases hq
       · exact hF.ok q hq
 · rw [List.pairwise_append]
   refine ⟨h.pw, ?_, fun a ha b hb => .inl fun y hy => ?_⟩
   · rw [List.pairwise_cons]
     rcases hsub with ⟨_, rfl⟩ | ⟨h2, hF⟩
     · exact ⟨fun q hq => absurd hq (by simp), List.Pairwise.nil⟩
     · refine ⟨fun q hq => .inr ⟨h2, fun y hy => ?_⟩, hF.pw⟩
       have := mem_less.1 (hF.out q hq y hy).1
       exact ⟨this.2, this.1⟩
   · cases e : b.s y with
     | false => rfl
     | true =>
       have h1 := hleft y (hin b hb y e)
       have h2 := (h.out a ha y hy).2.1
       rw [h1] at h2
       cases h2
 · intro q hq h2 b hb hr
   rcases List.mem_append.1 hq with hq | hq
   · obtain ⟨q', h3, h4⟩ := h.inner q hq h2 b hb hr
     exact ⟨q', List.mem_append_left _ h3, h4⟩
   · rcases hsub with ⟨h3, rfl⟩ | ⟨h3, hF⟩
     · have : q = p := by simpa using hq
       subst this
       rw [h3] at h2
       cases h2
     · rcases List.mem_cons.1 hq with rfl | hq
       · obtain ⟨q', h4, h5⟩ := hF.ring b hr.inn hr
         refine ⟨q', by simp [h4], h5, fun y hy => ?_⟩
         have := mem_less.1 (hF.out q' h4 y hy).1
         exact ⟨this.2, this.1⟩
       · obtain ⟨q', h4, h5⟩ := hF.inner q hq h2 b hb hr
         exact ⟨q', by simp [h4], h5⟩
end
theorem foldl_inv {α β : Type} {f : β → α → β} (I : List α → β → Prop) : ∀ (r d : List α) (b : β), I d b → (∀ d x b, x ∈ r → I d b → I (d ++ [x]) (f b x)) → I (d ++ r) (r.foldl f b)
 | [], d, b, h, _ => by simpa using h
 | x :: r, d, b, h, hs => by
   rw [show d ++ x :: r = (d ++ [x]) ++ r by simp, List.foldl_cons]
   exact foldl_inv I r (d ++ [x]) (f b x) (hs d x b (by simp) h) (fun d y b hy => hs d y b (by simp [hy]))
theorem loopsP_ok {ts : List TermD} (hf : fitsB ts = true) : ∀ (f : Nat) (inn : Nat → Bool), Canon inn → (∀ y, inn y = true → y < ts.length) → (listS inn).length < f → LoopsF ts inn (loopsP ts f inn) := by
 intro f
 induction f with
 | zero => intro inn _ _ h; omega
 | succ f ih =>
   intro inn hc hin hlen
   have key : LoopsJ ts inn ([] ++ listS inn) ((listS inn).foldl (stepP ts (loopsP ts f) inn) (inn, [])).1 ((listS inn).foldl (stepP ts (loopsP ts f) inn) (inn, [])).2 := by
    refine foldl_inv (fun d (st : (Nat → Bool) × List PartD) => LoopsJ ts inn d st.1 st.2) _ _ _ ⟨fun y h => h, fun y z h1 h2 => (by cases h1.symm.trans h2), fun k hk => (by cases hk), fun y h1 h2 => (by cases h1.symm.trans h2), fun p hp => (by cases hp), fun p hp => (by cases hp), List.Pairwise.nil, fun p hp => (by cases hp)⟩ ?_
    intro d k st hk h
    have hk' := (mem_listS hc k).1 hk
    unfold stepP
    by_cases hkk : (st.1 k && knotS ts k inn k) = true
    · rw [if_pos hkk]
      simp only [Bool.and_eq_true] at hkk
      by_cases he : 1 < (entriesS ts (knotS ts k inn)).length
      · rw [if_pos he]
        have hok := knot_ok hf hc hin hkk.2 3 (-1) (.inl ⟨rfl, rfl, he⟩)
        exact h.found hc hk' hkk.1 hkk.2 ⟨_, 3, -1⟩ rfl hok [] (.inl ⟨rfl, rfl⟩)
      · rw [if_neg he]
        have hcn : Canon (knotS ts k inn) := knot_canon hc k
        have hlow : ∀ y, knotS ts k inn y = true → 1 ≤ y ∧ y < ts.length := fun y hy => by
         obtain ⟨x, _, hx⟩ := reach_step ((knot_iff hc k y).1 hy).2.1
         exact good_nx (fits_facts hf).1 hx
        have he0 := entries_one (entered hf hcn hkk.2 hlow) he
        generalize (entriesS ts (knotS ts k inn)).headD 0 = e at *
        have hes : knotS ts k inn e = true := ((mem_entries hcn e).1 (by rw [he0]; simp)).1
        have hok := knot_ok hf hc hin hkk.2 2 (e : Int) (.inr ⟨rfl, by omega, by simpa using he0⟩)
        refine h.found hc hk' hkk.1 hkk.2 ⟨_, 2, (e : Int)⟩ rfl hok _ (.inr ⟨rfl, ?_⟩)
        refine ih _ (less_canon hcn _) (fun y hy => (hlow y (mem_less.1 hy).2).2) ?_
        exact Nat.lt_of_lt_of_le (less_len (s := knotS ts k inn) (inn := inn) (e := e) (fun y hy => ((knot_iff hc k y).1 hy).2.1.inn) hc hes) (by omega)
    · rw [if_neg hkk]
      exact h.skip hc hk' hkk
   simp only [List.nil_append] at key
   rw [loopsP]
   exact {
    ring := fun b hb hr => key.cov b hb (key.seen b ((mem_listS hc b).2 hb) hr)
    out := fun p hp y hy => ⟨(key.out p hp y hy).1, (key.out p hp y hy).2.2⟩
    ok := key.ok
    pw := key.pw
    inner := key.inner }
end

section
def wholeP (n : Nat) : PartD := ⟨wholeS n, 1, 0⟩
def smallStep (k : Nat) (best p : PartD) : PartD := if p.s k && withinB p.s best.s then p else best
def smallestP (n : Nat) (ps : List PartD) (k : Nat) : PartD := ps.foldl (smallStep k) (wholeP n)
def guardedP (ts : List TermD) (k : Nat) (of : Nat → Bool) : Nat → Bool := fun x => of x && !(x == 0 || walkF (nx ts) (lessS (wholeS ts.length) k) 0 x)
def condP (ts : List TermD) (ps : List PartD) (k : Nat) : Option PartD :=
 if (pv ts k).length = 1 ∧ (nx ts ((pv ts k).headD 0)).length = 2 ∧ (smallestP ts.length ps k).kind ≠ 3 ∧ (smallestP ts.length ps k).entry ≠ k ∧ 1 < (listS (guardedP ts k (smallestP ts.length ps k).s)).length then
  some ⟨guardedP ts k (smallestP ts.length ps k).s, 4, k⟩ else none
def condsP (ts : List TermD) (ps : List PartD) : List PartD := (List.range ts.length).filterMap (condP ts ps)
def partsP (ts : List TermD) : List PartD := loopsP ts 201 (wholeS ts.length) ++ condsP ts (loopsP ts 201 (wholeS ts.length))

/-! ### sets in sets -/
def Strict (a b : Nat → Bool) : Prop := (∀ y, a y = true → b y = true) ∧ ∃ y, b y = true ∧ a y = false
theorem within_iff {a b : Nat → Bool} (ha : Canon a) (hb : Canon b) : withinB a b = true ↔ Strict a b := by
 simp only [withinB, Bool.and_eq_true, List.all_eq_true, Bool.not_eq_true']
 constructor
 · rintro ⟨h1, h2⟩
   have h1 : ∀ y, a y = true → b y = true := fun y hy => h1 y ((mem_listS ha y).2 hy)
   refine ⟨h1, Classical.byContradiction fun hn => ?_⟩
   have e : a = b := by
    funext y
    cases e : b y with
    | false =>
      cases e2 : a y with
      | false => rfl
      | true => rw [h1 y e2] at e; cases e
    | true =>
      cases e2 : a y with
      | true => rfl
      | false => exact absurd ⟨y, e, e2⟩ hn
   rw [(eqS_iff ha hb).2 e] at h2
   cases h2
 · rintro ⟨h1, y, h2, h3⟩
   refine ⟨fun y hy => h1 y ((mem_listS ha y).1 hy), ?_⟩
   cases e : eqS a b with
   | false => rfl
   | true => rw [(eqS_iff ha hb).1 e, h2] at h3; cases h3
def Disj (a b : Nat → Bool) : Prop := ∀ y, a y = true → b y = false
theorem Disj.symm {a b : Nat → Bool} (h : Disj a b) : Disj b a := fun y hy => by
 cases e : a y with
 | false => rfl
 | true => rw [h y e] at hy; cases hy
def ApartP (p q : PartD) : Prop := Disj p.s q.s ∨ Strict p.s q.s ∨ Strict q.s p.s
theorem ApartP.symm {p q : PartD} (h : ApartP p q) : ApartP q p := h.elim (fun h => .inl h.symm) fun h => .inr h.symm
theorem Strict.irrefl {a : Nat → Bool} (h : Strict a a) : False := by obtain ⟨_, y, h1, h2⟩ := h; rw [h1] at h2; cases h2
theorem Strict.trans {a b c : Nat → Bool} (h : Strict a b) (k : Strict b c) : Strict a c := by
 obtain ⟨h1, y, h2, h3⟩ := h
 exact ⟨fun y hy => k.1 y (h1 y hy), y, k.1 y h2, h3⟩
theorem Strict.asymm {a b : Nat → Bool} (h : Strict a b) (k : Strict b a) : False := (h.trans k).irrefl

/-! ### without which there is no way -/
def Dom (ts : List TermD) (k x : Nat) : Prop := ¬ Reach (nx ts) (lessS (wholeS ts.length) k) 0 x
section
variable {ts : List TermD}
theorem dom_self (k : Nat) : Dom ts k k := fun h => by have := h.inn; simp [lessS] at this
theorem whole_less {k y : Nat} : lessS (wholeS ts.length) k y = true ↔ y ≠ k ∧ y < ts.length := by simp [lessS, wholeS]
theorem dom_trans {a b x : Nat} (h : Dom ts a b) (k : Dom ts b x) : Dom ts a x := by
 intro hr
 have key : ∀ y, Reach (nx ts) (lessS (wholeS ts.length) a) 0 y → Reach (nx ts) (lessS (wholeS ts.length) b) 0 y := by
  intro y hr
  induction hr with
  | @one y hy hi =>
    by_cases e : y = b
    · subst e; exact absurd (.one hy hi) h
    · exact .one hy (whole_less.2 ⟨e, (whole_less.1 hi).2⟩)
  | @step x y hx hy hi ih =>
    by_cases e : y = b
    · subst e; exact absurd (.step hx hy hi) h
    · exact .step ih hy (whole_less.2 ⟨e, (whole_less.1 hi).2⟩)
 exact k (key x hr)
theorem dom_anti {a b : Nat} (hr : Reach (nx ts) (wholeS ts.length) 0 a) (hne : a ≠ b) (h : Dom ts a b) (k : Dom ts b a) : False := by
 have key : ∀ y, Reach (nx ts) (wholeS ts.length) 0 y → Reach (nx ts) (lessS (lessS (wholeS ts.length) a) b) 0 y := by
  have ex : ∀ y x, (x = 0 ∨ Reach (nx ts) (lessS (lessS (wholeS ts.length) a) b) 0 x) → y ∈ nx ts x → wholeS ts.length y = true → Reach (nx ts) (lessS (lessS (wholeS ts.length) a) b) 0 y := by
   intro y x hx hy hi
   have hi2 : y < ts.length := by simpa [wholeS] using hi
   have up : ∀ (c : Nat), (∀ z, lessS (lessS (wholeS ts.length) a) b z = true → lessS (wholeS ts.length) c z = true) → y ≠ c → Reach (nx ts) (lessS (wholeS ts.length) c) 0 y := fun c hc hyc => by
    rcases hx with rfl | hx
    · exact .one hy (whole_less.2 ⟨hyc, hi2⟩)
    · exact .step (hx.mono hc) hy (whole_less.2 ⟨hyc, hi2⟩)
   by_cases e1 : y = a
   · subst e1
     exact absurd (up b (fun z hz => by simp [lessS] at hz ⊢; exact ⟨hz.1, hz.2.2⟩) hne) k
   · by_cases e2 : y = b
     · subst e2
       exact absurd (up a (fun z hz => by simp [lessS] at hz ⊢; exact hz.2) (fun e => hne e.symm)) h
     · have hin : lessS (lessS (wholeS ts.length) a) b y = true := by simp [lessS, wholeS, e1, e2, hi2]
       rcases hx with rfl | hx
       · exact .one hy hin
       · exact .step hx hy hin
  intro y hr
  induction hr with
  | one hy hi => exact ex _ _ (.inl rfl) hy hi
  | step hx hy hi ih => exact ex _ _ (.inr ih) hy hi
 have := (key a hr).inn
 simp [lessS] at this
theorem dom_chain {a b x : Nat} (hr : Reach (nx ts) (wholeS ts.length) 0 x) (h : Dom ts a x) (k : Dom ts b x) : Dom ts a b ∨ Dom ts b a := by
 apply Classical.byContradiction
 intro hn
 rw [not_or] at hn
 have h1 := Classical.not_not.1 hn.1
 have h2 := Classical.not_not.1 hn.2
 have key : ∀ y, Reach (nx ts) (wholeS ts.length) 0 y → Reach (nx ts) (lessS (wholeS ts.length) a) 0 y ∨ Reach (nx ts) (lessS (wholeS ts.length) b) 0 y := by
  intro y hr
  induction hr with
  | @one y hy hi =>
    have hi2 : y < ts.length := by simpa [wholeS] using hi
    by_cases e : y = a
    · subst e; exact .inr h2
    · exact .inl (.one hy (whole_less.2 ⟨e, hi2⟩))
  | @step x y hx hy hi ih =>
    have hi2 : y < ts.length := by simpa [wholeS] using hi
    by_cases e : y = a
    · subst e; exact .inr h2
    · by_cases e2 : y = b
      · subst e2; exact .inl h1
      · rcases ih with ih | ih
        · exact .inl (.step ih hy (whole_less.2 ⟨e, hi2⟩))
        · exact .inr (.step ih hy (whole_less.2 ⟨e2, hi2⟩))
 rcases key x hr with hk | hk
 · exact h hk
 · exact k hk
/-- all of what hangs together without k are guarded by k, if one is -/
theorem dom_all {s : Nat → Bool} (hs : ∀ y, s y = true → y < ts.length) (ht : ∀ a b, s a = true → s b = true → Reach (nx ts) s a b) {k x : Nat} (hk : s k = false) (hx : s x = true) (hd : Dom ts k x) : ∀ y, s y = true → Dom ts k y := by
 intro y hy hr
 refine hd (hr.trans ((ht y x hy hx).mono fun z hz => whole_less.2 ⟨fun e => ?_, hs z hz⟩))
 subst e
 rw [hk] at hz
 cases hz
/-- a way into a set: its begin lies outside of that -/
theorem reach_first {next : Nat → List Nat} {inn : Nat → Bool} {a b : Nat} (h : Reach next inn a b) (s : Nat → Bool) (ha : s a = false) (hb : s b = true) : ∃ x y, (x = a ∨ Reach next (diffS inn s) a x) ∧ s x = false ∧ y ∈ next x ∧ s y = true ∧ inn y = true := by
 have key : ∀ y, Reach next inn a y → (∃ x z, (x = a ∨ Reach next (diffS inn s) a x) ∧ s x = false ∧ z ∈ next x ∧ s z = true ∧ inn z = true) ∨ (s y = false ∧ Reach next (diffS inn s) a y) := by
  have ex : ∀ x y, s x = false → (x = a ∨ Reach next (diffS inn s) a x) → y ∈ next x → inn y = true → (∃ x z, (x = a ∨ Reach next (diffS inn s) a x) ∧ s x = false ∧ z ∈ next x ∧ s z = true ∧ inn z = true) ∨ (s y = false ∧ Reach next (diffS inn s) a y) := by
   intro x y hsx hx hy hi
   cases e : s y with
   | true => exact .inl ⟨x, y, hx, hsx, hy, e, hi⟩
   | false =>
     have hd : diffS inn s y = true := by simp [diffS, e, hi]
     refine .inr ⟨rfl, ?_⟩
     rcases hx with rfl | hx
     · exact .one hy hd
     · exact .step hx hy hd
  intro y hr
  induction hr with
  | one hy hi => exact ex _ _ ha (.inl rfl) hy hi
  | step hx hy hi ih =>
    rcases ih with ih | ⟨h1, h2⟩
    · exact .inl ih
    · exact ex _ _ h1 (.inr h2) hy hi
 rcases key b h with h1 | ⟨h1, _⟩
 · exact h1
 · rw [hb] at h1; cases h1
/-- where a loop is entered is not guarded by another one of its -/
theorem entry_free {p : PartD} (hf : fitsB ts = true) (hok : LoopOK ts p) (h2 : p.kind = 2) {k : Nat} (hk : p.s k = true) (hne : k ≠ p.entry.toNat) : ¬ Dom ts k p.entry.toNat ∧ p.s p.entry.toNat = true := by
 obtain ⟨hg, hl, hr⟩ := fits_facts hf
 have hcan : Canon p.s := fun y hy => by have := hok.low y hy; omega
 have he : entriesS ts p.s = [p.entry.toNat] := by
  rcases hok.ent with ⟨h, _⟩ | ⟨_, _, h⟩
  · rw [h2] at h; cases h
  · exact h
 have hes := (mem_entries hcan p.entry.toNat).1 (by rw [he]; simp)
 refine ⟨fun hd => ?_, hes.1⟩
 have h0 : p.s 0 = false := by
  cases e : p.s 0 with
  | false => rfl
  | true => have := hok.low 0 e; omega
 obtain ⟨x, y, hx, h3, h4, h5, h6⟩ := reach_first (hr k (hok.low k hk).1 (hok.low k hk).2) p.s h0 hk
 have hy : y = p.entry.toNat := by
  have : y ∈ entriesS ts p.s := (mem_entries hcan y).2 ⟨h5, (hok.low y h5).2, x, h4, h3⟩
  rw [he] at this
  simpa using this
 subst hy
 have hin : lessS (wholeS ts.length) k p.entry.toNat = true := whole_less.2 ⟨fun e => hne e.symm, hes.2.1⟩
 rcases hx with rfl | hx
 · exact hd (.one h4 hin)
 · refine hd (.step (hx.mono fun z hz => ?_) h4 hin)
   simp only [diffS] at hz
   split at hz
   · cases hz
   · rename_i hz2
     refine whole_less.2 ⟨fun e => ?_, by simpa [wholeS] using hz⟩
     subst e
     exact hz2 hk
end
end

section
/-- what holds of the parts that are found, in whatever order -/
structure PartsOK (ts : List TermD) (ps : List PartD) : Prop where
 some : ∀ p ∈ ps, ∃ y, p.s y = true
 low : ∀ p ∈ ps, ∀ y, p.s y = true → 1 ≤ y ∧ y < ts.length
 kind : ∀ p ∈ ps, p.kind = 2 ∨ p.kind = 3 ∨ p.kind = 4
 pw : ps.Pairwise ApartP
 noreg : ∀ p ∈ ps, p.kind = 3 → ∀ q ∈ ps, ¬ Strict q.s p.s
 ent : ∀ p ∈ ps, p.kind ≠ 3 → 0 ≤ p.entry ∧ entriesS ts p.s = [p.entry.toNat] ∧ p.s p.entry.toNat = true ∧ ∀ q ∈ ps, Strict q.s p.s → q.s p.entry.toNat = false
 ent3 : ∀ p ∈ ps, p.kind = 3 → 1 < (entriesS ts p.s).length
 tog : ∀ p ∈ ps, p.kind ≠ 4 → ∀ a b, p.s a = true → p.s b = true → Reach (nx ts) p.s a b
 ring2 : ∀ p ∈ ps, p.kind = 2 → ∀ b, p.s b = true → (∀ q ∈ ps, Strict q.s p.s → q.s b = false) → ¬ Reach (nx ts) (lessS p.s p.entry.toNat) b b
 ring4 : ∀ p ∈ ps, p.kind = 4 → ∀ b, p.s b = true → (∀ q ∈ ps, Strict q.s p.s → q.s b = false) → ¬ Reach (nx ts) p.s b b
 ring1 : ∀ b, (∀ q ∈ ps, q.s b = false) → ¬ Reach (nx ts) (wholeS ts.length) b b

theorem pair_of {α : Type} {R : α → α → Prop} {l : List α} (h : l.Pairwise R) {p q : α} (hp : p ∈ l) (hq : q ∈ l) : p = q ∨ R p q ∨ R q p := by
 induction l with
 | nil => cases hp
 | cons x l ih =>
   rw [List.pairwise_cons] at h
   rcases List.mem_cons.1 hp with ep | hp'
   · rcases List.mem_cons.1 hq with eq | hq'
     · exact .inl (ep.trans eq.symm)
     · exact .inr (.inl (ep ▸ h.1 q hq'))
   · rcases List.mem_cons.1 hq with eq | hq'
     · exact .inr (.inr (eq ▸ h.1 p hp'))
     · exact ih h.2 hp' hq'
section
variable {ts : List TermD} {ps : List PartD} (hf : fitsB ts = true) (F : LoopsF ts (wholeS ts.length) ps)
include hf F
omit hf in
theorem loop_can {p : PartD} (hp : p ∈ ps) (hl : ts.length ≤ 200) : Canon p.s := fun y hy => by have := (F.ok p hp).low y hy; omega
omit hf in
/-- two loops: one, apart, or one in the other, but for where that is entered -/
theorem loop_two {p q : PartD} (hp : p ∈ ps) (hq : q ∈ ps) : p = q ∨ Disj p.s q.s ∨ (p.kind = 2 ∧ p.s p.entry.toNat = true ∧ ∀ y, q.s y = true → p.s y = true ∧ y ≠ p.entry.toNat) ∨ (q.kind = 2 ∧ q.s q.entry.toNat = true ∧ ∀ y, p.s y = true → q.s y = true ∧ y ≠ q.entry.toNat) := by
 have ent : ∀ p ∈ ps, p.kind = 2 → (∃ q ∈ ps, ∀ y, q.s y = true → p.s y = true ∧ y ≠ p.entry.toNat) → p.s p.entry.toNat = true := by
  intro p hp h2 _
  rcases (F.ok p hp).ent with ⟨h, _⟩ | ⟨_, _, h⟩
  · rw [h2] at h; cases h
  · have : p.entry.toNat ∈ entriesS ts p.s := by rw [h]; simp
    simp only [entriesS, List.mem_filter, listS] at this
    exact this.1.2
 rcases pair_of F.pw hp hq with h | (h | ⟨h1, h2⟩) | (h | ⟨h1, h2⟩)
 · exact .inl h
 · exact .inr (.inl h)
 · exact .inr (.inr (.inl ⟨h1, ent p hp h1 ⟨q, hq, h2⟩, h2⟩))
 · exact .inr (.inl (Disj.symm h))
 · exact .inr (.inr (.inr ⟨h1, ent q hq h1 ⟨p, hp, h2⟩, h2⟩))
/-- the smallest part in which one is -/
theorem small_spec {k : Nat} (hk : k < ts.length) : (smallestP ts.length ps k).s k = true ∧ (smallestP ts.length ps k = wholeP ts.length ∨ smallestP ts.length ps k ∈ ps) ∧ ∀ q ∈ ps, q.s k = true → ∀ y, (smallestP ts.length ps k).s y = true → q.s y = true := by
 obtain ⟨hg, hl, hr⟩ := fits_facts hf
 rw [smallestP]
 have key : (fun (d : List PartD) (best : PartD) => best.s k = true ∧ (best = wholeP ts.length ∨ best ∈ ps) ∧ ∀ q ∈ d, q.s k = true → ∀ y, best.s y = true → q.s y = true) ([] ++ ps) (ps.foldl (smallStep k) (wholeP ts.length)) := by
  refine foldl_inv (fun (d : List PartD) (best : PartD) => best.s k = true ∧ (best = wholeP ts.length ∨ best ∈ ps) ∧ ∀ q ∈ d, q.s k = true → ∀ y, best.s y = true → q.s y = true) _ _ _ ⟨by simp [wholeP, wholeS, hk], .inl rfl, fun q hq => by cases hq⟩ ?_
  intro d q best hq ⟨h1, h2, h3⟩
  unfold smallStep
  have cq := loop_can F hq hl.2
  have cb : Canon best.s := by
   rcases h2 with rfl | h2
   · exact whole_canon hl.2
   · exact loop_can F h2 hl.2
  by_cases hw : (q.s k && withinB q.s best.s) = true
  · rw [if_pos hw]
    rw [Bool.and_eq_true, within_iff cq cb] at hw
    refine ⟨hw.1, .inr hq, fun q' hq' hk' y hy => ?_⟩
    rcases List.mem_append.1 hq' with hq' | hq'
    · exact h3 q' hq' hk' y (hw.2.1 y hy)
    · have : q' = q := by simpa using hq'
      subst this; exact hy
  · rw [if_neg hw]
    refine ⟨h1, h2, fun q' hq' hk' y hy => ?_⟩
    rcases List.mem_append.1 hq' with hq' | hq'
    · exact h3 q' hq' hk' y hy
    · have : q' = q := by simpa using hq'
      subst this
      rw [Bool.and_eq_true, within_iff cq cb, not_and] at hw
      have hw := hw hk'
      rcases h2 with rfl | h2
      · refine absurd ⟨fun z hz => ?_, 0, ?_, ?_⟩ hw
        · have := (F.ok q' hq).low z hz; simp [wholeP, wholeS]; omega
        · simp [wholeP, wholeS]; omega
        · cases e : q'.s 0 with
          | false => rfl
          | true => have := (F.ok q' hq).low 0 e; omega
      · rcases loop_two F h2 hq with rfl | h | ⟨_, h4, h5⟩ | ⟨_, h4, h5⟩
        · exact hy
        · rw [h k h1] at hk'; cases hk'
        · refine absurd ⟨fun z hz => (h5 z hz).1, _, h4, ?_⟩ hw
          cases e : q'.s best.entry.toNat with
          | false => rfl
          | true => exact absurd rfl (h5 _ e).2
        · exact (h5 y hy).1
 simpa using key
omit F in
theorem mem_guarded {k x : Nat} (hk : 1 ≤ k) (of : Nat → Bool) : guardedP ts k of x = true ↔ of x = true ∧ 1 ≤ x ∧ Dom ts k x := by
 obtain ⟨hg, hl, hr⟩ := fits_facts hf
 simp only [guardedP, Bool.and_eq_true, Bool.not_eq_true', Bool.or_eq_false_iff, beq_eq_false_iff_ne]
 have h0 : lessS (wholeS ts.length) k 0 = true := whole_less.2 ⟨by omega, by omega⟩
 have := walkF_iff (less_canon (whole_canon hl.2) k) (next := nx ts) 0 x
 rw [h0] at this
 simp only [true_and] at this
 constructor
 · rintro ⟨h1, h2, h3⟩
   exact ⟨h1, by omega, fun h => by rw [this.2 h] at h3; cases h3⟩
 · rintro ⟨h1, h2, h3⟩
   refine ⟨h1, by omega, ?_⟩
   cases e : walkF (nx ts) (lessS (wholeS ts.length) k) 0 x with
   | false => rfl
   | true => exact absurd (this.1 e) h3

/-- a conditional: by which block, in what -/
structure CondOK (ts : List TermD) (ps : List PartD) (c : PartD) (k : Nat) (p : PartD) : Prop where
 low : 1 ≤ k ∧ k < ts.length
 from_ : ∃ b, pv ts k = [b]
 c4 : c.kind = 4
 ce : c.entry = k
 small : p.s k = true ∧ (p = wholeP ts.length ∨ p ∈ ps) ∧ ∀ q ∈ ps, q.s k = true → ∀ y, p.s y = true → q.s y = true
 no3 : p.kind ≠ 3
 noe : p.entry ≠ k
 set : ∀ x, c.s x = true ↔ p.s x = true ∧ 1 ≤ x ∧ Dom ts k x
theorem cond_ok {c : PartD} {k : Nat} (hk : k < ts.length) (h : condP ts ps k = some c) : ∃ p, CondOK ts ps c k p := by
 unfold condP at h
 split at h
 case isFalse => cases h
 case isTrue hc =>
  obtain ⟨h1, h2, h3, h4, h5⟩ := hc
  simp only [Option.some.injEq] at h
  subst h
  obtain ⟨b, hb⟩ : ∃ b, pv ts k = [b] := by
   match e : pv ts k, h1 with
   | [b], _ => exact ⟨b, rfl⟩
  have hk1 : 1 ≤ k := by
   have : k ∈ nx ts b := (mem_pv ts k b).1 (by rw [hb]; simp)
   exact (good_nx (fits_facts hf).1 this).1
  exact ⟨smallestP ts.length ps k, ⟨hk1, hk⟩, ⟨b, hb⟩, rfl, rfl, small_spec hf F hk, h3, h4, fun x => mem_guarded hf hk1 _⟩
end
section
variable {ts : List TermD} {ps : List PartD} {c p : PartD} {k : Nat} (hf : fitsB ts = true) (F : LoopsF ts (wholeS ts.length) ps) (C : CondOK ts ps c k p)
include hf F C
omit hf F in
theorem CondOK.self : c.s k = true := (C.set k).2 ⟨C.small.1, C.low.1, dom_self k⟩
theorem CondOK.lows : ∀ y, c.s y = true → 1 ≤ y ∧ y < ts.length := fun y hy => by
 obtain ⟨h1, h2, _⟩ := (C.set y).1 hy
 rcases C.small.2.1 with h | h
 · rw [h] at h1
   simp [wholeP, wholeS] at h1
   exact ⟨h2, h1⟩
 · exact (F.ok p h).low y h1
omit hf in
theorem CondOK.kinds : p = wholeP ts.length ∨ (p ∈ ps ∧ p.kind = 2) := by
 rcases C.small.2.1 with h | h
 · exact .inl h
 · rcases (F.ok p h).ent with ⟨h2, _⟩ | ⟨h2, _⟩
   · exact absurd h2 C.no3
   · exact .inr ⟨h, h2⟩
/-- where the part around is entered lies not in the conditional -/
theorem CondOK.entry_out (hp : p ∈ ps) : p.s p.entry.toNat = true ∧ c.s p.entry.toNat = false := by
 have h2 : p.kind = 2 := by
  rcases (F.ok p hp).ent with ⟨h2, _⟩ | ⟨h2, _⟩
  · exact absurd h2 C.no3
  · exact h2
 have he0 : 0 ≤ p.entry := by
  rcases (F.ok p hp).ent with ⟨h, _⟩ | ⟨_, h, _⟩
  · rw [h2] at h; cases h
  · exact h
 have hne : k ≠ p.entry.toNat := fun e => C.noe (by omega)
 obtain ⟨h3, h4⟩ := entry_free hf (F.ok p hp) h2 C.small.1 hne
 refine ⟨h4, ?_⟩
 cases e : c.s p.entry.toNat with
 | false => rfl
 | true => exact absurd ((C.set _).1 e).2.2 h3
/-- a loop that has one of a conditional's, but not its first one, lies in it -/
theorem CondOK.loop_in {q : PartD} (hq : q ∈ ps) (hk : q.s k = false) {x : Nat} (hx : q.s x = true) (hc : c.s x = true) : Strict q.s c.s := by
 obtain ⟨h1, h2, h3⟩ := (C.set x).1 hc
 have hd := dom_all (fun y hy => ((F.ok q hq).low y hy).2) (F.ok q hq).tog hk hx h3
 refine ⟨fun y hy => (C.set y).2 ⟨?_, ((F.ok q hq).low y hy).1, hd y hy⟩, k, C.self, hk⟩
 rcases C.small.2.1 with h | h
 · rw [h]; simp [wholeP, wholeS]; exact ((F.ok q hq).low y hy).2
 · rcases loop_two F h hq with rfl | h4 | ⟨_, _, h4⟩ | ⟨_, _, h4⟩
   · exact hy
   · rw [h4 x h1] at hx; cases hx
   · exact (h4 y hy).1
   · rw [(h4 k C.small.1).1] at hk; cases hk
/-- a loop that has its first one has it all -/
theorem CondOK.in_loop {q : PartD} (hq : q ∈ ps) (hk : q.s k = true) : Strict c.s q.s := by
 have h1 := C.small.2.2 q hq hk
 rcases C.small.2.1 with h | h
 · exfalso
   have := h1 0 (by rw [h]; simp [wholeP, wholeS]; have := (fits_facts hf).2.1; omega)
   have := (F.ok q hq).low 0 this
   omega
 · obtain ⟨h2, h3⟩ := C.entry_out hf F h
   exact ⟨fun y hy => h1 y ((C.set y).1 hy).1, _, h1 _ h2, h3⟩
theorem CondOK.loop_apart {q : PartD} (hq : q ∈ ps) : ApartP q c := by
 cases hk : q.s k with
 | true => exact .inr (.inr (C.in_loop hf F hq hk))
 | false =>
   by_cases hx : ∃ x, q.s x = true ∧ c.s x = true
   · obtain ⟨x, h1, h2⟩ := hx
     exact .inr (.inl (C.loop_in hf F hq hk h1 h2))
   · refine .inl fun y hy => ?_
     cases e : c.s y with
     | false => rfl
     | true => exact absurd ⟨y, hy, e⟩ hx
omit F in
theorem CondOK.reach : Reach (nx ts) (wholeS ts.length) 0 k := (fits_facts hf).2.2 k C.low.1 C.low.2
theorem CondOK.cond_in {c' p' : PartD} {k' : Nat} (C' : CondOK ts ps c' k' p') (hne : k ≠ k') {x : Nat} (h : c.s x = true) (h' : c'.s x = true) (hd : Dom ts k k') : Strict c'.s c.s := by
 have hnd : ¬ Dom ts k' k := fun h2 => dom_anti (C.reach hf) hne hd h2
 have hsub : ∀ y, p'.s y = true → y < ts.length → p.s y = true := by
  intro y hy hyl
  rcases C.small.2.1 with h1 | h1
  · rw [h1]; simp [wholeP, wholeS, hyl]
  · cases e : p.s k' with
    | true => exact C'.small.2.2 p h1 e y hy
    | false =>
      exact absurd (dom_all (fun y hy => ((F.ok p h1).low y hy).2) (F.ok p h1).tog e ((C.set x).1 h).1 ((C'.set x).1 h').2.2 k C.small.1) hnd
 refine ⟨fun y hy => ?_, k, C.self, ?_⟩
 · have h1 := (C'.set y).1 hy
   exact (C.set y).2 ⟨hsub y h1.1 (C'.lows hf F y hy).2, h1.2.1, dom_trans hd h1.2.2⟩
 · cases e : c'.s k with
   | false => rfl
   | true => exact absurd ((C'.set k).1 e).2.2 hnd
theorem CondOK.cond_apart {c' p' : PartD} {k' : Nat} (C' : CondOK ts ps c' k' p') (hne : k ≠ k') : ApartP c c' := by
 by_cases hx : ∃ x, c.s x = true ∧ c'.s x = true
 · obtain ⟨x, h1, h2⟩ := hx
   have hl := C.lows hf F x h1
   rcases dom_chain ((fits_facts hf).2.2 x hl.1 hl.2) ((C.set x).1 h1).2.2 ((C'.set x).1 h2).2.2 with hd | hd
   · exact .inr (.inr (C.cond_in hf F C' hne h1 h2 hd))
   · exact .inr (.inl (C'.cond_in hf F C (fun e => hne e.symm) h2 h1 hd))
 · refine .inl fun y hy => ?_
   cases e : c'.s y with
   | false => rfl
   | true => exact absurd ⟨y, hy, e⟩ hx
theorem CondOK.entries : entriesS ts c.s = [k] := by
 have hl := (fits_facts hf).2.1
 have hcan : Canon c.s := fun y hy => by have := (C.lows hf F y hy).2; omega
 have hnd : (entriesS ts c.s).Nodup := (List.nodup_range.filter _).filter _
 have hm : ∀ x, x ∈ entriesS ts c.s ↔ x = k := by
  intro x
  rw [mem_entries hcan]
  constructor
  · rintro ⟨h1, h2, y, h3, h4⟩
    apply Classical.byContradiction
    intro hne
    obtain ⟨h5, h6, h7⟩ := (C.set x).1 h1
    have hyl : y < ts.length := by
     apply Classical.byContradiction
     intro hn
     rw [nx_none ts y (by omega)] at h3
     cases h3
    have hin : lessS (wholeS ts.length) k x = true := whole_less.2 ⟨hne, h2⟩
    have hy0 : 1 ≤ y := by
     cases y with
     | zero => exact absurd (.one h3 hin) h7
     | succ y => omega
    have hyd : Dom ts k y := fun hr => h7 (.step hr h3 hin)
    have hyp : p.s y = false := by
     cases e : p.s y with
     | false => rfl
     | true => rw [(C.set y).2 ⟨e, hy0, hyd⟩] at h4; cases h4
    rcases C.kinds F with h | ⟨h, h2k⟩
    · rw [h] at hyp; simp [wholeP, wholeS] at hyp; omega
    · have hpc := loop_can F h hl.2
      have he : entriesS ts p.s = [p.entry.toNat] := by
       rcases (F.ok p h).ent with ⟨h8, _⟩ | ⟨_, _, h8⟩
       · rw [h2k] at h8; cases h8
       · exact h8
      have : x ∈ entriesS ts p.s := (mem_entries hpc x).2 ⟨h5, h2, y, h3, hyp⟩
      rw [he] at this
      have : x = p.entry.toNat := by simpa using this
      rw [this, (C.entry_out hf F h).2] at h1
      cases h1
  · rintro rfl
    obtain ⟨b, hb⟩ := C.from_
    have hbk : x ∈ nx ts b := (mem_pv ts x b).1 (by rw [hb]; simp)
    refine ⟨C.self, C.low.2, b, hbk, ?_⟩
    cases e : c.s b with
    | false => rfl
    | true =>
      exfalso
      obtain ⟨h1, h2, h3⟩ := (C.set b).1 e
      obtain ⟨y, z, hy, h4, h5, h6, _⟩ := reach_first (C.reach hf) (fun z => z == x) (by have := C.low.1; simp; omega) (by simp)
      have hz : z = x := by simpa using h6
      subst hz
      have : y ∈ pv ts z := (mem_pv ts z y).2 h5
      rw [hb] at this
      have hyb : y = b := by simpa using this
      subst hyb
      rcases hy with rfl | hy
      · omega
      · refine h3 (hy.mono fun u hu => ?_)
        simp only [diffS] at hu
        split at hu
        · cases hu
        · rename_i hu2
          exact whole_less.2 ⟨by simpa using hu2, by simpa [wholeS] using hu⟩
 match e : entriesS ts c.s, hnd, hm with
 | [], _, hm => have := (hm k).2 rfl; cases this
 | [x], _, hm => rw [(hm x).1 (by simp)]
 | x :: y :: l, hnd, hm =>
   have h1 := (hm x).1 (by simp)
   have h2 := (hm y).1 (by simp)
   rw [h1, h2] at hnd
   simp at hnd
theorem CondOK.ring (b : Nat) (hb : c.s b = true) (hno : ∀ q ∈ ps, Strict q.s c.s → q.s b = false) : ¬ Reach (nx ts) c.s b b := by
 intro hr
 have fin : ∀ q ∈ ps, q.s b = true → q.s k = true := fun q hq hqb => by
  cases e : q.s k with
  | true => rfl
  | false => rw [hno q hq (C.loop_in hf F hq e hqb hb)] at hqb; cases hqb
 rcases C.kinds F with h | ⟨h, h2⟩
 · obtain ⟨q, hq, hqb⟩ := F.ring b (by simp [wholeS]; exact (C.lows hf F b hb).2) (hr.mono fun y hy => by simp [wholeS]; exact (C.lows hf F y hy).2)
   have := C.small.2.2 q hq (fin q hq hqb) 0 (by rw [h]; simp [wholeP, wholeS]; have := (fits_facts hf).2.1; omega)
   have := (F.ok q hq).low 0 this
   omega
 · obtain ⟨h3, h4⟩ := C.entry_out hf F h
   obtain ⟨q, hq, hqb, h5⟩ := F.inner p h h2 b ((C.set b).1 hb).1 (hr.mono fun y hy => mem_less.2 ⟨fun e => (by subst e; rw [h4] at hy; cases hy), ((C.set y).1 hy).1⟩)
   exact absurd rfl (h5 _ (C.small.2.2 q hq (fin q hq hqb) _ h3)).2
end
end

section
theorem parts_ok {ts : List TermD} (hf : fitsB ts = true) : PartsOK ts (partsP ts) := by
 obtain ⟨hg, hl, hr⟩ := fits_facts hf
 have hcw := whole_canon (n := ts.length) hl.2
 have F := loopsP_ok hf 201 (wholeS ts.length) hcw (fun y hy => by simpa [wholeS] using hy) (by
  have : (listS (wholeS ts.length)).length ≤ 200 := by
   have := List.length_filter_le (wholeS ts.length) (List.range 200)
   simpa [listS] using this
  omega)
 unfold partsP
 generalize loopsP ts 201 (wholeS ts.length) = ps at F ⊢
 have HC : ∀ c ∈ condsP ts ps, ∃ k p, CondOK ts ps c k p := by
  intro c hc
  simp only [condsP, List.mem_filterMap, List.mem_range] at hc
  obtain ⟨k, hk, hc⟩ := hc
  obtain ⟨p, C⟩ := cond_ok hf F hk hc
  exact ⟨k, p, C⟩
 have pwc : (condsP ts ps).Pairwise ApartP := by
  unfold condsP
  rw [List.pairwise_filterMap]
  refine List.pairwise_lt_range.imp_of_mem ?_
  intro k k' hk hk' hlt c hc c' hc'
  obtain ⟨p, C⟩ := cond_ok hf F (List.mem_range.1 hk) hc
  obtain ⟨p', C'⟩ := cond_ok hf F (List.mem_range.1 hk') hc'
  exact C.cond_apart hf F C' (by omega)
 have pwl : ps.Pairwise ApartP := by
  refine F.pw.imp_of_mem ?_
  intro p q hp hq h
  rcases h with h | ⟨h2, h⟩
  · exact .inl h
  · refine .inr (.inr ⟨fun y hy => (h y hy).1, p.entry.toNat, ?_, ?_⟩)
    · rcases (F.ok p hp).ent with ⟨h3, _⟩ | ⟨_, _, h3⟩
      · rw [h2] at h3; cases h3
      · have : p.entry.toNat ∈ entriesS ts p.s := by rw [h3]; simp
        exact ((mem_entries (loop_can F hp hl.2) _).1 this).1
    · cases e : q.s p.entry.toNat with
      | false => rfl
      | true => exact absurd rfl (h _ e).2
 refine ⟨?_, ?_, ?_, ?_, ?_, ?_, ?_, ?_, ?_, ?_, ?_⟩
 · intro p hp
   rcases List.mem_append.1 hp with hp | hp
   · exact (F.ok p hp).some
   · obtain ⟨k, _, C⟩ := HC p hp; exact ⟨k, C.self⟩
 · intro p hp
   rcases List.mem_append.1 hp with hp | hp
   · exact (F.ok p hp).low
   · obtain ⟨k, _, C⟩ := HC p hp; exact C.lows hf F
 · intro p hp
   rcases List.mem_append.1 hp with hp | hp
   · rcases (F.ok p hp).ent with ⟨h, _⟩ | ⟨h, _⟩
     · exact .inr (.inl h)
     · exact .inl h
   · obtain ⟨k, _, C⟩ := HC p hp; exact .inr (.inr C.c4)
 · rw [List.pairwise_append]
   refine ⟨pwl, pwc, fun q hq c hc => ?_⟩
   obtain ⟨k, p, C⟩ := HC c hc
   exact C.loop_apart hf F hq
 · intro p hp h3 q hq hs
   rcases List.mem_append.1 hp with hp | hp
   · rcases List.mem_append.1 hq with hq | hq
     · obtain ⟨y, hy⟩ := (F.ok q hq).some
       rcases loop_two F hp hq with rfl | h | ⟨h, _, _⟩ | ⟨_, _, h⟩
       · exact hs.irrefl
       · have := h y (hs.1 y hy); rw [hy] at this; cases this
       · rw [h3] at h; cases h
       · exact hs.asymm ⟨fun z hz => (h z hz).1, by
          rename_i hqe
          exact ⟨_, hqe, by
           cases e : p.s q.entry.toNat with
           | false => rfl
           | true => exact absurd rfl (h _ e).2⟩⟩
     · obtain ⟨k, p', C⟩ := HC q hq
       cases hk : p.s k with
       | true =>
         rcases C.kinds F with h | ⟨h, h2⟩
         · have := C.small.2.2 p hp hk 0 (by rw [h]; simp [wholeP, wholeS]; omega)
           have := (F.ok p hp).low 0 this
           omega
         · rcases loop_two F h hp with rfl | h4 | ⟨_, h5, h4⟩ | ⟨h4, _, _⟩
           · rw [h3] at h2; cases h2
           · rw [h4 k C.small.1] at hk; cases hk
           · exact absurd rfl (h4 _ (C.small.2.2 p hp hk _ h5)).2
           · rw [h3] at h4; cases h4
       | false =>
         exact hs.asymm (C.loop_in hf F hp hk (hs.1 _ C.self) C.self)
   · obtain ⟨k, _, C⟩ := HC p hp
     rw [C.c4] at h3; cases h3
 · intro p hp h3
   rcases List.mem_append.1 hp with hp | hp
   · rcases (F.ok p hp).ent with ⟨h, _⟩ | ⟨h2, h0, h⟩
     · exact absurd h h3
     · have hcan := loop_can F hp hl.2
       have he : p.s p.entry.toNat = true := ((mem_entries hcan _).1 (by rw [h]; simp)).1
       refine ⟨h0, h, he, fun q hq hs => ?_⟩
       rcases List.mem_append.1 hq with hq | hq
       · obtain ⟨y, hy⟩ := (F.ok q hq).some
         rcases loop_two F hp hq with rfl | h4 | ⟨_, _, h4⟩ | ⟨_, h5, h4⟩
         · exact hs.irrefl.elim
         · exact h4 _ he
         · cases e : q.s p.entry.toNat with
           | false => rfl
           | true => exact absurd rfl (h4 _ e).2
         · exact absurd rfl (h4 _ (hs.1 _ h5)).2
       · obtain ⟨k, p', C⟩ := HC q hq
         cases e : q.s p.entry.toNat with
         | false => rfl
         | true =>
           exfalso
           cases hk : p.s k with
           | false => exact hs.asymm (C.loop_in hf F hp hk he e)
           | true =>
             by_cases hke : k = p.entry.toNat
             · rcases C.small.2.1 with h4 | h4
               · have := C.small.2.2 p hp hk 0 (by rw [h4]; simp [wholeP, wholeS]; omega)
                 have := (F.ok p hp).low 0 this
                 omega
               · rcases loop_two F h4 hp with rfl | h5 | ⟨_, h6, h5⟩ | ⟨_, _, h5⟩
                 · exact C.noe (by omega)
                 · rw [h5 k C.small.1] at hk; cases hk
                 · exact absurd rfl (h5 _ (C.small.2.2 p hp hk _ h6)).2
                 · exact (h5 k C.small.1).2 hke
             · exact (entry_free hf (F.ok p hp) h2 hk hke).1 ((C.set _).1 e).2.2
   · obtain ⟨k, p', C⟩ := HC p hp
     have he : p.entry.toNat = k := by rw [C.ce]; omega
     rw [he]
     refine ⟨by rw [C.ce]; omega, C.entries hf F, C.self, fun q hq hs => ?_⟩
     cases e : q.s k with
     | false => rfl
     | true =>
       exfalso
       rcases List.mem_append.1 hq with hq | hq
       · exact hs.asymm (C.in_loop hf F hq e)
       · obtain ⟨k2, p2, C2⟩ := HC q hq
         by_cases hkk : k = k2
         · subst hkk
           have h1 := hs.2
           obtain ⟨y, h2, h3⟩ := h1
           have hsub : ∀ z, p'.s z = true → p2.s z = true := by
            intro z hz
            rcases C2.small.2.1 with h4 | h4
            · rw [h4]; simp [wholeP, wholeS]
              rcases C.small.2.1 with h5 | h5
              · rw [h5] at hz; simpa [wholeP, wholeS] using hz
              · exact ((F.ok p' h5).low z hz).2
            · exact C.small.2.2 p2 h4 C2.small.1 z hz
           obtain ⟨h4, h5, h6⟩ := (C.set y).1 h2
           rw [(C2.set y).2 ⟨hsub y h4, h5, h6⟩] at h3
           cases h3
         · exact dom_anti (C.reach hf) hkk ((C.set k2).1 (hs.1 _ C2.self)).2.2 ((C2.set k).1 e).2.2
 · intro p hp h3
   rcases List.mem_append.1 hp with hp | hp
   · rcases (F.ok p hp).ent with ⟨_, _, h⟩ | ⟨h2, _⟩
     · exact h
     · rw [h3] at h2; cases h2
   · obtain ⟨k, _, C⟩ := HC p hp
     rw [C.c4] at h3; cases h3
 · intro p hp h4
   rcases List.mem_append.1 hp with hp | hp
   · exact (F.ok p hp).tog
   · obtain ⟨k, _, C⟩ := HC p hp
     exact absurd C.c4 h4
 · intro p hp h2 b hb hno hrr
   rcases List.mem_append.1 hp with hp | hp
   · have he : p.s p.entry.toNat = true := by
      rcases (F.ok p hp).ent with ⟨h3, _⟩ | ⟨_, _, h3⟩
      · rw [h2] at h3; cases h3
      · have : p.entry.toNat ∈ entriesS ts p.s := by rw [h3]; simp
        exact ((mem_entries (loop_can F hp hl.2) _).1 this).1
     obtain ⟨q, hq, hqb, hin⟩ := F.inner p hp h2 b hb hrr
     have : Strict q.s p.s := ⟨fun y hy => (hin y hy).1, _, he, by
      cases e : q.s p.entry.toNat with
      | false => rfl
      | true => exact absurd rfl (hin _ e).2⟩
     rw [hno q (List.mem_append_left _ hq) this] at hqb
     cases hqb
   · obtain ⟨k, _, C⟩ := HC p hp
     rw [C.c4] at h2; cases h2
 · intro p hp h4 b hb hno
   rcases List.mem_append.1 hp with hp | hp
   · rcases (F.ok p hp).ent with ⟨h, _⟩ | ⟨h, _⟩
     · rw [h4] at h; cases h
     · rw [h4] at h; cases h
   · obtain ⟨k, _, C⟩ := HC p hp
     exact C.ring hf F b hb fun q hq hs => hno q (List.mem_append_left _ hq) hs
 · intro b hno hrr
   obtain ⟨q, hq, hqb⟩ := F.ring b hrr.inn hrr
   rw [hno q (List.mem_append_left _ hq)] at hqb
   cases hqb
/-- in another order it holds, too -/
theorem PartsOK.perm {ts : List TermD} {ps qs : List PartD} (h : PartsOK ts ps) (hp : ps.Perm qs) : PartsOK ts qs := by
 have m : ∀ p, p ∈ qs → p ∈ ps := fun p hq => hp.mem_iff.2 hq
 have m2 : ∀ p, p ∈ ps → p ∈ qs := fun p hq => hp.mem_iff.1 hq
 exact {
  some := fun p hq => h.some p (m p hq)
  low := fun p hq => h.low p (m p hq)
  kind := fun p hq => h.kind p (m p hq)
  pw := hp.pairwise h.pw fun h => h.symm
  noreg := fun p hq h3 q hqq => h.noreg p (m p hq) h3 q (m q hqq)
  ent := fun p hq h3 => let ⟨h1, h2, h4, h5⟩ := h.ent p (m p hq) h3; ⟨h1, h2, h4, fun q hqq => h5 q (m q hqq)⟩
  ent3 := fun p hq => h.ent3 p (m p hq)
  tog := fun p hq => h.tog p (m p hq)
  ring2 := fun p hq h2 b hb hno => h.ring2 p (m p hq) h2 b hb fun q hqq => hno q (m2 q hqq)
  ring4 := fun p hq h2 b hb hno => h.ring4 p (m p hq) h2 b hb fun q hqq => hno q (m2 q hqq)
  ring1 := fun b hno => h.ring1 b fun q hqq => hno q (m2 q hqq) }
end
end Go.Proofs.Ytblhmdhfhaencaa
