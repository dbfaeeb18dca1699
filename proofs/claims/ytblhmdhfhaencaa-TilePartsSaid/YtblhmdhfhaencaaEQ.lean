/-
 Words on memory that every text of this family uses: slices of ints that read as lists, worlds that only grow. No program in sight.
-/
import Derived.WalkKit
import Derived.ProofKit
import Derived.Below
import Derived.Lib.Hide
import Derived.Deep.QuietTactic
import Derived.BigQuiet
import Derived.Deep.Draws
import Derived.Laws.OwnMore
import Derived.Outline
namespace Go.Proofs.Ytblhmdhfhaencaa
set_option linter.unusedSimpArgs false
set_option linter.unusedVariables false
set_option linter.unusedSectionVars false
set_option maxRecDepth 100000
set_option maxHeartbeats 40000000
section
open Go.RowKit

def I64 (n : Int) : Prop := -9223372036854775808 ≤ n ∧ n ≤ 9223372036854775807

/-- a slice of ints that reads as a list (nil let in) -/
def Ints (w : World) (a : Option Addr) (n : Nat) (xs : List Int) : Prop :=
 xs.length = n ∧ n ≤ 17592186044416 ∧ ∀ k, k < n → ∃ b o, a = some ⟨b, o, none⟩ ∧ w.cell? ⟨b, o + k, none⟩ = some (.int .i64 (xs.getD k 0)) ∧ I64 (xs.getD k 0)

/-- the same of slices of pairs of ints -/
def Prs (w : World) (a : Option Addr) (n : Nat) (ps : List (Int × Int)) : Prop :=
 ps.length = n ∧ n ≤ 17592186044416 ∧ ∀ k, k < n → ∃ b o, a = some ⟨b, o, none⟩ ∧ w.cell? ⟨b, o + k * 2, none⟩ = some (.int .i64 (ps.getD k (0, 0)).1) ∧
  w.cell? ⟨b, o + k * 2 + 1, none⟩ = some (.int .i64 (ps.getD k (0, 0)).2) ∧ I64 (ps.getD k (0, 0)).1 ∧ I64 (ps.getD k (0, 0)).2

theorem cell_ext {w w' : World} (h : Below w.heap.size w w') {p : Addr} {v : Value} (hc : w.cell? p = some v) : w'.cell? p = some v :=
 (h.cell (World.block_lt_of_cell? w p hc)).trans hc

theorem Ints.ext {w w' : World} {a : Option Addr} {n : Nat} {xs : List Int} (h : Ints w a n xs) (hb : Below w.heap.size w w') : Ints w' a n xs :=
 ⟨h.1, h.2.1, fun k hk => let ⟨b, o, e, hc, hi⟩ := h.2.2 k hk; ⟨b, o, e, cell_ext hb hc, hi⟩⟩

theorem Prs.ext {w w' : World} {a : Option Addr} {n : Nat} {ps : List (Int × Int)} (h : Prs w a n ps) (hb : Below w.heap.size w w') : Prs w' a n ps :=
 ⟨h.1, h.2.1, fun k hk => let ⟨b, o, e, hc, hc', hi⟩ := h.2.2 k hk; ⟨b, o, e, cell_ext hb hc, cell_ext hb hc', hi⟩⟩

theorem Ints.drewN {w : World} {a : Option Addr} {n : Nat} {xs : List Int} (h : Ints w a n xs) (m : Nat) : Ints (w.drewN m) a n xs := h
theorem below_drewN {B : Nat} {a w : World} (h : Below B a w) (n : Nat) : Below B a (w.drewN n) := ⟨h.os, h.tape, h.output, h.size, h.block⟩
theorem ext_drewN {a w : World} (h : Below a.heap.size a w) (n : Nat) : Below a.heap.size a (w.drewN n) := below_drewN h n
theorem ext_trans {a b c : World} (h : Below a.heap.size a b) (k : Below b.heap.size b c) : Below a.heap.size a c := h.trans (k.mono h.size)

theorem bcell {W w1 : World} (hb : Below W.heap.size W w1) : (∀ b o, b < W.heap.size → w1.cell? ⟨b, o, none⟩ = W.cell? ⟨b, o, none⟩) ∧ (∀ b o, b < W.heap.size → w1.frozen? ⟨b, o, none⟩ = W.frozen? ⟨b, o, none⟩) :=
 ⟨fun b o h => hb.cell (p := ⟨b, o, none⟩) h, fun b o h => hb.frozen (p := ⟨b, o, none⟩) h⟩

theorem ret_int {k : IntKind} {a b : Int} (h : a = b) : Ending.returned (.int k a) = .returned (.int k b) := by rw [h]
theorem ret_bool {a b : Bool} (h : a = b) : Ending.returned (.bool a) = .returned (.bool b) := by rw [h]

/-- where a number is; -1: nowhere -/
def idx : List Int → Int → Int
 | [], _ => -1
 | y :: l, x => if y = x then 0 else if idx l x < 0 then -1 else idx l x + 1

theorem idx_ge (l : List Int) (x : Int) : -1 ≤ idx l x ∧ idx l x < l.length := by
 induction l with
 | nil => simp [idx]
 | cons y l ih =>
   simp only [idx, List.length_cons]
   split
   · omega
   · split <;> omega
theorem idx_neg_iff (l : List Int) (x : Int) : idx l x < 0 ↔ x ∉ l := by
 induction l with
 | nil => simp [idx]
 | cons y l ih =>
   have := idx_ge l x
   simp only [idx, List.mem_cons, not_or]
   by_cases h : y = x
   · simp [h]
   · rw [if_neg h]
     have h' : ¬ x = y := fun e => h e.symm
     split
     · simp_all
     · rename_i hn
       have : x ∈ l := by
        by_cases hx : x ∈ l
        · exact hx
        · exact absurd (ih.2 hx) hn
       simp [this]; omega
/-- nothing ahead of k is x, what is at k is: then the index is k -/
theorem idx_found (l : List Int) (x : Int) (k : Nat) (hk : k < l.length) (hx : l.getD k 0 = x) (hno : ∀ j, j < k → l.getD j 0 ≠ x) : idx l x = k := by
 induction l generalizing k with
 | nil => simp at hk
 | cons y l ih =>
   cases k with
   | zero => simp at hx; simp [idx, hx]
   | succ k =>
     have h0 := hno 0 (by omega)
     simp at h0
     have := ih k (by simpa using hk) (by simpa using hx) (fun j hj => by have := hno (j + 1) (by omega); simpa using this)
     simp only [idx, if_neg h0, this]
     rw [if_neg (by omega)]; omega
theorem idx_none (l : List Int) (x : Int) (hno : ∀ j, j < l.length → l.getD j 0 ≠ x) : idx l x = -1 := by
 have h := idx_ge l x
 have := (idx_neg_iff l x).2 (fun hx => by
  obtain ⟨j, hj, e⟩ := List.getElem_of_mem hx
  exact hno j hj (by simp [List.getD, hj, e]))
 omega
end

section
/-! ### ends of blocks -/
structure TermD where
 kind : Int
 a : Int
 t0 : Int
 t1 : Int
abbrev zTerm : TermD := ⟨0, 0, 0, 0⟩
def varB (n : Int) : Bool := decide (1 ≤ n ∧ n ≤ 200)
def termB (t : TermD) : Bool :=
 if t.kind = 1 then decide (t.a = 0 ∧ t.t1 = 0) else if t.kind = 2 then varB t.a
 else if t.kind = 3 then (decide (t.a = 0) || varB t.a) && decide (t.t0 = 0 ∧ t.t1 = 0) else decide (t.kind = 4 ∧ t.a = 0 ∧ t.t0 = 0 ∧ t.t1 = 0)
def toD (t : TermD) : List Int := if termB t then (if t.kind = 1 then [t.t0] else if t.kind = 2 then [t.t0, t.t1] else []) else []
theorem toD_len (t : TermD) : (toD t).length ≤ 2 := by unfold toD; repeat (first | split | simp)
/-- where a block goes, whence it is reached -/
def nx (ts : List TermD) (k : Nat) : List Nat := (toD (ts.getD k zTerm)).map Int.toNat
def pv (ts : List TermD) (y : Nat) : List Nat := (List.range ts.length).flatMap fun k => ((nx ts k).filter (fun x => x == y)).map fun _ => k
theorem nx_none (ts : List TermD) (k : Nat) (h : ts.length ≤ k) : nx ts k = [] := by
 have : ts.getD k zTerm = zTerm := by rw [List.getD_eq_getElem?_getD, List.getElem?_eq_none h]; rfl
 rw [nx, this]; rfl
theorem mem_pv (ts : List TermD) (y k : Nat) : k ∈ pv ts y ↔ y ∈ nx ts k := by
 simp only [pv, List.mem_flatMap, List.mem_range, List.mem_map, List.mem_filter, beq_iff_eq]
 constructor
 · rintro ⟨j, _, x, ⟨h, rfl⟩, rfl⟩; exact h
 · intro h
   refine ⟨k, ?_, y, ⟨h, rfl⟩, rfl⟩
   apply Classical.byContradiction
   intro hk
   rw [nx_none ts k (by omega)] at h
   cases h
def goodB (ts : List TermD) : Bool := decide (1 ≤ ts.length ∧ ts.length ≤ 200) && ts.all fun t => termB t && (toD t).all fun x => decide (1 ≤ x ∧ x < ts.length)
theorem goodB_iff (ts : List TermD) : goodB ts = true ↔ (1 ≤ ts.length ∧ ts.length ≤ 200) ∧ ∀ t ∈ ts, termB t = true ∧ ∀ x ∈ toD t, 1 ≤ x ∧ x < ts.length := by
 simp [goodB]
theorem good_nx {ts : List TermD} (h : goodB ts = true) {k y : Nat} (hy : y ∈ nx ts k) : 1 ≤ y ∧ y < ts.length := by
 obtain ⟨_, h⟩ := (goodB_iff ts).1 h
 by_cases hk : k < ts.length
 · have hm : ts.getD k zTerm ∈ ts := by rw [List.getD_eq_getElem?_getD, List.getElem?_eq_getElem hk]; exact List.getElem_mem _
   rw [nx, List.mem_map] at hy
   obtain ⟨x, hx, rfl⟩ := hy
   have := (h _ hm).2 x hx
   omega
 · rw [nx_none ts k (by omega)] at hy
   cases hy

/-! ### ways -/
inductive Reach (next : Nat → List Nat) (inn : Nat → Bool) (b : Nat) : Nat → Prop
 | one {y : Nat} : y ∈ next b → inn y = true → Reach next inn b y
 | step {x y : Nat} : Reach next inn b x → y ∈ next x → inn y = true → Reach next inn b y
theorem Reach.inn {next : Nat → List Nat} {inn : Nat → Bool} {b y : Nat} (h : Reach next inn b y) : inn y = true := by cases h <;> assumption
theorem Reach.trans {next : Nat → List Nat} {inn : Nat → Bool} {a b c : Nat} (h : Reach next inn a b) (k : Reach next inn b c) : Reach next inn a c := by
 induction k with
 | one hy hi => exact .step h hy hi
 | step _ hy hi ih => exact .step ih hy hi
theorem Reach.mono {next : Nat → List Nat} {inn inn' : Nat → Bool} (hs : ∀ y, inn y = true → inn' y = true) {b y : Nat} (h : Reach next inn b y) : Reach next inn' b y := by
 induction h with
 | one hy hi => exact .one hy (hs _ hi)
 | step _ hy hi ih => exact .step ih hy (hs _ hi)
/-- a way the other way round -/
theorem Reach.rev {next prev : Nat → List Nat} (hp : ∀ x y, y ∈ next x → x ∈ prev y) {inn : Nat → Bool} {b y : Nat} (hb : inn b = true) (h : Reach next inn b y) : Reach prev inn y b := by
 induction h with
 | one hy hi => exact .one (hp _ _ hy) hb
 | @step x y hx hy hi ih => exact (Reach.one (hp _ _ hy) hx.inn).trans ih

/-- what holds while blocks are gone through: 'todo' still to come, s gone to, and of one of them (x) only the first j ways -/
structure WInv (next : Nat → List Nat) (inn : Nat → Bool) (b : Nat) (todo : List Nat) (s : Nat → Bool) (x : Option (Nat × Nat)) : Prop where
 sound : ∀ y, s y = true → Reach next inn b y
 src : ∀ z ∈ todo, z = b ∨ s z = true
 cur : ∀ z j, x = some (z, j) → z = b ∨ s z = true
 closed : ∀ z, (z = b ∨ s z = true) → z ∈ todo ∨ (∃ j, x = some (z, j) ∧ ∀ y ∈ (next z).take j, inn y = true → s y = true) ∨ ∀ y ∈ next z, inn y = true → s y = true
section
variable {next : Nat → List Nat} {inn : Nat → Bool} {b : Nat} {todo : List Nat} {s : Nat → Bool}
theorem WInv.start (next : Nat → List Nat) (inn : Nat → Bool) (b : Nat) : WInv next inn b [b] (fun _ => false) none where
 sound := fun y h => by cases h
 src := fun z h => by simp at h; exact .inl h
 cur := fun z j h => by cases h
 closed := fun z h => h.elim (fun e => .inl (by simp [e])) (fun h => by cases h)
/-- one is taken out of those to come -/
theorem WInv.take (h : WInv next inn b todo s none) (x : Nat) (todo' : List Nat) (hm : ∀ z, z ∈ todo ↔ z = x ∨ z ∈ todo') : WInv next inn b todo' s (some (x, 0)) where
 sound := h.sound
 src := fun z hz => h.src z ((hm z).2 (.inr hz))
 cur := fun z j e => by cases e; exact h.src x ((hm x).2 (.inl rfl))
 closed := fun z hz => by
  rcases h.closed z hz with h1 | ⟨j, h1, _⟩ | h1
  · rcases (hm z).1 h1 with rfl | h2
    · exact .inr (.inl ⟨0, rfl, fun y hy => by simp at hy⟩)
    · exact .inl h2
  · cases h1
  · exact .inr (.inr h1)
theorem takeN {l : List Nat} {j : Nat} (hj : j < l.length) {y : Nat} (hy : y ∈ l.take (j + 1)) : y ∈ l.take j ∨ y = l.getD j 0 := by
 rw [List.take_add_one, List.getElem?_eq_getElem hj, List.mem_append] at hy
 rcases hy with h | h
 · exact .inl h
 · exact .inr (by simpa [List.getD_eq_getElem?_getD, hj] using h)
/-- one of the ways leads to where nothing is to be done -/
theorem WInv.skip {x j : Nat} (h : WInv next inn b todo s (some (x, j))) (hj : j < (next x).length) (hn : inn ((next x).getD j 0) = true → s ((next x).getD j 0) = true) : WInv next inn b todo s (some (x, j + 1)) where
 sound := h.sound
 src := h.src
 cur := fun z k e => by cases e; exact h.cur x j rfl
 closed := fun z hz => by
  rcases h.closed z hz with h1 | ⟨k, h1, h2⟩ | h1
  · exact .inl h1
  · cases h1
    refine .inr (.inl ⟨j + 1, rfl, fun y hy hi => ?_⟩)
    rcases takeN hj hy with h3 | rfl
    · exact h2 y h3 hi
    · exact hn hi
  · exact .inr (.inr h1)
/-- one of the ways leads on -/
theorem WInv.push {x j : Nat} (h : WInv next inn b todo s (some (x, j))) (hj : j < (next x).length) (hi : inn ((next x).getD j 0) = true) (todo' : List Nat) (hm : ∀ z, z ∈ todo' ↔ z = (next x).getD j 0 ∨ z ∈ todo) (s' : Nat → Bool) (hs : ∀ z, s' z = true ↔ z = (next x).getD j 0 ∨ s z = true) :
  WInv next inn b todo' s' (some (x, j + 1)) where
 sound := fun y hy => by
  rcases (hs y).1 hy with rfl | h1
  · have hx : (next x).getD j 0 ∈ next x := by rw [List.getD_eq_getElem?_getD, List.getElem?_eq_getElem hj]; exact List.getElem_mem _
    rcases h.cur x j rfl with rfl | h2
    · exact .one hx hi
    · exact .step (h.sound x h2) hx hi
  · exact h.sound y h1
 src := fun z hz => by
  rcases (hm z).1 hz with rfl | h1
  · exact .inr ((hs _).2 (.inl rfl))
  · exact (h.src z h1).imp id (fun h2 => (hs z).2 (.inr h2))
 cur := fun z k e => by cases e; exact (h.cur x j rfl).imp id (fun h2 => (hs x).2 (.inr h2))
 closed := fun z hz => by
  have hz' : z = (next x).getD j 0 ∨ (z = b ∨ s z = true) := by
   rcases hz with rfl | h1
   · exact .inr (.inl rfl)
   · exact ((hs z).1 h1).imp id .inr
  rcases hz' with rfl | hz'
  · exact .inl ((hm _).2 (.inl rfl))
  · rcases h.closed z hz' with h1 | ⟨k, h1, h2⟩ | h1
    · exact .inl ((hm z).2 (.inr h1))
    · cases h1
      refine .inr (.inl ⟨j + 1, rfl, fun y hy hi => ?_⟩)
      rcases takeN hj hy with h3 | rfl
      · exact (hs y).2 (.inr (h2 y h3 hi))
      · exact (hs _).2 (.inl rfl)
    · exact .inr (.inr fun y hy hi => (hs y).2 (.inr (h1 y hy hi)))
/-- all ways of the one are gone -/
theorem WInv.fin {x j : Nat} (h : WInv next inn b todo s (some (x, j))) (hj : (next x).length ≤ j) : WInv next inn b todo s none where
 sound := h.sound
 src := h.src
 cur := fun z k e => by cases e
 closed := fun z hz => by
  rcases h.closed z hz with h1 | ⟨k, h1, h2⟩ | h1
  · exact .inl h1
  · cases h1
    rw [List.take_of_length_le hj] at h2
    exact .inr (.inr h2)
  · exact .inr (.inr h1)
/-- nothing is to come: all that is reached is gone to -/
theorem WInv.done (h : WInv next inn b [] s none) (y : Nat) : s y = true ↔ Reach next inn b y := by
 refine ⟨h.sound y, fun hr => ?_⟩
 have hc : ∀ z, (z = b ∨ s z = true) → ∀ y ∈ next z, inn y = true → s y = true := fun z hz => by
  rcases h.closed z hz with h1 | ⟨k, h1, _⟩ | h1
  · cases h1
  · cases h1
  · exact h1
 induction hr with
 | one hy hi => exact hc b (.inl rfl) _ hy hi
 | step _ hy hi ih => exact hc _ (.inr ih) _ hy hi
end

/-! ### the same, as it can be computed -/
def pushL (inn : Nat → Bool) (ts : List Nat × List Nat) (y : Nat) : List Nat × List Nat := if inn y && !ts.2.contains y then (y :: ts.1, y :: ts.2) else ts
def dfs (next : Nat → List Nat) (inn : Nat → Bool) : Nat → List Nat → List Nat → List Nat
 | 0, _, seen => seen
 | _ + 1, [], seen => seen
 | f + 1, x :: todo, seen => dfs next inn f ((next x).foldl (pushL inn) (todo, seen)).1 ((next x).foldl (pushL inn) (todo, seen)).2
def walkL (next : Nat → List Nat) (inn : Nat → Bool) (b : Nat) : List Nat := if inn b then dfs next inn 202 [b] [] else []
def walkF (next : Nat → List Nat) (inn : Nat → Bool) (b : Nat) : Nat → Bool := fun y => (walkL next inn b).contains y
def Canon (s : Nat → Bool) : Prop := ∀ y, s y = true → y < 200

theorem fold_inv {next : Nat → List Nat} {inn : Nat → Bool} {b x : Nat} (hc : Canon inn) : ∀ (m j : Nat) (todo seen : List Nat), (next x).length - j = m → WInv next inn b todo (fun y => seen.contains y) (some (x, j)) → seen.Nodup → (∀ y ∈ seen, y < 200) →
  ∃ todo' seen', ((next x).drop j).foldl (pushL inn) (todo, seen) = (todo', seen') ∧ WInv next inn b todo' (fun y => seen'.contains y) none ∧ seen'.Nodup ∧ (∀ y ∈ seen', y < 200) ∧ todo'.length + seen.length = todo.length + seen'.length := by
 intro m
 induction m with
 | zero =>
   intro j todo seen hm h hn hl
   rw [List.drop_of_length_le (by omega)]
   exact ⟨todo, seen, rfl, h.fin (by omega), hn, hl, by omega⟩
 | succ m ih =>
   intro j todo seen hm h hn hl
   have hj : j < (next x).length := by omega
   have hg : (next x).getD j 0 = (next x)[j] := by simp [List.getD_eq_getElem?_getD, hj]
   rw [List.drop_eq_getElem_cons hj, List.foldl_cons, ← hg]
   by_cases hp : (inn ((next x).getD j 0) && !seen.contains ((next x).getD j 0)) = true
   · have e : pushL inn (todo, seen) ((next x).getD j 0) = ((next x).getD j 0 :: todo, (next x).getD j 0 :: seen) := by unfold pushL; rw [if_pos hp]
     rw [e]
     simp only [Bool.and_eq_true, Bool.not_eq_true'] at hp
     obtain ⟨hi, hs⟩ := hp
     have hns : (next x).getD j 0 ∉ seen := by simpa using hs
     obtain ⟨t', s', e1, e2, e3, e4, e5⟩ := ih (j + 1) ((next x).getD j 0 :: todo) ((next x).getD j 0 :: seen) (by omega)
      (h.push hj hi _ (fun z => by simp) _ (fun z => by simp)) (List.nodup_cons.2 ⟨hns, hn⟩) (fun y hy => (List.mem_cons.1 hy).elim (fun e => e ▸ hc _ hi) (hl y))
     exact ⟨t', s', e1, e2, e3, e4, by simp at e5; omega⟩
   · have e : pushL inn (todo, seen) ((next x).getD j 0) = (todo, seen) := by unfold pushL; rw [if_neg hp]
     rw [e]
     exact ih (j + 1) todo seen (by omega) (h.skip hj (fun hi => by
      cases e2 : seen.contains ((next x).getD j 0) with
      | true => rfl
      | false => exact absurd (by rw [hi, e2]; rfl) hp)) hn hl
theorem nodup_len : ∀ (N : Nat) (l : List Nat), l.Nodup → (∀ y ∈ l, y < N) → l.length ≤ N := by
 intro N
 induction N with
 | zero =>
   intro l _ h
   cases l with
   | nil => simp
   | cons x l => have := h x (by simp); omega
 | succ N ih =>
   intro l hn h
   have h1 := ih (l.filter fun y => y != N) (hn.filter _) (fun y hy => by
    simp at hy
    have := h y hy.1
    omega)
   have h2 : l.length ≤ (l.filter fun y => y != N).length + 1 := by
    clear ih h h1
    induction l with
    | nil => simp
    | cons x l ih =>
      rw [List.nodup_cons] at hn
      by_cases e : x = N
      · subst e
        have : l.filter (fun y => y != x) = l := by
         rw [List.filter_eq_self]
         intro y hy
         have : y ≠ x := fun e => hn.1 (e ▸ hy)
         simpa using this
        simp [this]
      · have := ih hn.2
        simp [e]
        omega
   omega
theorem dfs_inv {next : Nat → List Nat} {inn : Nat → Bool} {b : Nat} (hc : Canon inn) : ∀ (f : Nat) (todo seen : List Nat), WInv next inn b todo (fun y => seen.contains y) none → seen.Nodup → (∀ y ∈ seen, y < 200) → todo.length + 200 ≤ f + seen.length →
  ∀ y, (dfs next inn f todo seen).contains y = true ↔ Reach next inn b y := by
 intro f
 induction f with
 | zero =>
   intro todo seen h hn hl hf
   have := nodup_len 200 seen hn hl
   cases todo with
   | nil => exact fun y => h.done y
   | cons x todo => simp at hf; omega
 | succ f ih =>
   intro todo seen h hn hl hf
   cases todo with
   | nil => exact fun y => h.done y
   | cons x todo =>
     obtain ⟨t', s', e1, e2, e3, e4, e5⟩ := fold_inv (next := next) (inn := inn) (b := b) (x := x) hc _ 0 todo seen rfl (h.take x todo (fun z => by simp)) hn hl
     rw [List.drop_zero] at e1
     simp only [dfs, e1]
     exact ih t' s' e2 e3 e4 (by simp at hf; omega)
theorem walkF_iff {next : Nat → List Nat} {inn : Nat → Bool} (hc : Canon inn) (b y : Nat) : walkF next inn b y = true ↔ inn b = true ∧ Reach next inn b y := by
 unfold walkF walkL
 by_cases hb : inn b = true
 · rw [if_pos hb]
   rw [dfs_inv hc 202 [b] [] (by simpa using WInv.start next inn b) (by simp) (by simp) (by simp)]
   simp [hb]
 · rw [if_neg hb]
   simp [hb]
theorem walkF_canon {next : Nat → List Nat} {inn : Nat → Bool} (hc : Canon inn) (b : Nat) : Canon (walkF next inn b) := fun y h => hc y ((walkF_iff hc b y).1 h).2.inn
/-- what is gone to is told by it -/
theorem walkF_of {next : Nat → List Nat} {inn : Nat → Bool} (hc : Canon inn) {b : Nat} (hb : inn b = true) {s : Nat → Bool} (h : WInv next inn b [] s none) : s = walkF next inn b := by
 funext y
 rw [Bool.eq_iff_iff, h.done y, walkF_iff hc]
 simp [hb]
theorem walkF_no {next : Nat → List Nat} {inn : Nat → Bool} {b : Nat} (hb : inn b = false) : walkF next inn b = fun _ => false := by
 funext y
 simp [walkF, walkL, hb]

/-! ### sets of blocks -/
def wholeS (n : Nat) : Nat → Bool := fun k => decide (k < n)
def lessS (s : Nat → Bool) (b : Nat) : Nat → Bool := fun k => k != b && s k
def ofS (l : List Int) : Nat → Bool := fun j => decide (j < 200) && l.contains (j : Int)
def listS (s : Nat → Bool) : List Nat := (List.range 200).filter s
def intsN (l : List Nat) : List Int := l.map fun (k : Nat) => (k : Int)
theorem whole_canon {n : Nat} (h : n ≤ 200) : Canon (wholeS n) := fun y hy => by simp [wholeS] at hy; omega
theorem less_canon {s : Nat → Bool} (h : Canon s) (b : Nat) : Canon (lessS s b) := fun y hy => by simp [lessS] at hy; exact h y hy.2
theorem of_canon (l : List Int) : Canon (ofS l) := fun y hy => by simp [ofS] at hy; exact hy.1
theorem mem_listS {s : Nat → Bool} (h : Canon s) (y : Nat) : y ∈ listS s ↔ s y = true := by
 simp [listS]
 exact fun h1 => h y h1

/-! ### functions that fit -/
def fitsB (ts : List TermD) : Bool := goodB ts && (List.range ts.length).all fun k => k == 0 || walkF (nx ts) (wholeS ts.length) 0 k
def knotS (ts : List TermD) (b : Nat) (inn : Nat → Bool) : Nat → Bool := fun k => walkF (nx ts) inn b k && walkF (pv ts) inn b k
def entriesS (ts : List TermD) (s : Nat → Bool) : List Nat := (listS s).filter fun b => decide (b < ts.length) && (pv ts b).any fun x => !s x
theorem knot_canon {ts : List TermD} {inn : Nat → Bool} (h : Canon inn) (b : Nat) : Canon (knotS ts b inn) := fun y hy => by
 simp only [knotS, Bool.and_eq_true] at hy
 exact walkF_canon h b y hy.1
theorem back_iff {ts : List TermD} {inn : Nat → Bool} {b y : Nat} (hb : inn b = true) (hy : inn y = true) : Reach (pv ts) inn b y ↔ Reach (nx ts) inn y b :=
 ⟨fun h => h.rev (fun x y h => (mem_pv ts x y).1 h) hb, fun h => h.rev (fun x y h => (mem_pv ts y x).2 h) hy⟩
theorem knot_iff {ts : List TermD} {inn : Nat → Bool} (hc : Canon inn) (b y : Nat) : knotS ts b inn y = true ↔ inn b = true ∧ Reach (nx ts) inn b y ∧ Reach (nx ts) inn y b := by
 simp only [knotS, Bool.and_eq_true, walkF_iff hc]
 constructor
 · rintro ⟨⟨h1, h2⟩, _, h3⟩
   exact ⟨h1, h2, (back_iff h1 h2.inn).1 h3⟩
 · rintro ⟨h1, h2, h3⟩
   exact ⟨⟨h1, h2⟩, h1, (back_iff h1 h2.inn).2 h3⟩
end

section
/-! ### rising lists, each number once -/
def insD (x : Int) : List Int → List Int
 | [] => [x]
 | y :: l => if x < y then x :: y :: l else if x = y then y :: l else y :: insD x l
def sortD : List Int → List Int
 | [] => []
 | x :: l => insD x (sortD l)
theorem mem_insD (x z : Int) (l : List Int) : z ∈ insD x l ↔ z = x ∨ z ∈ l := by
 induction l with
 | nil => simp [insD]
 | cons y l ih =>
   simp only [insD]
   split
   · simp
   · split
     · rename_i _ e; subst e; simp
     · simp only [List.mem_cons, ih]
       constructor
       · rintro (h | h | h) <;> simp [h]
       · rintro (h | h | h) <;> simp [h]
theorem mem_sortD (z : Int) (l : List Int) : z ∈ sortD l ↔ z ∈ l := by
 induction l with
 | nil => simp [sortD]
 | cons x l ih => rw [sortD, mem_insD, ih, List.mem_cons]
theorem sorted_insD (x : Int) (l : List Int) (h : l.Pairwise (· < ·)) : (insD x l).Pairwise (· < ·) := by
 induction l with
 | nil => simp [insD]
 | cons y l ih =>
   rw [List.pairwise_cons] at h
   simp only [insD]
   split
   · rename_i hx
     rw [List.pairwise_cons]
     refine ⟨fun z hz => ?_, List.pairwise_cons.2 h⟩
     rcases List.mem_cons.1 hz with rfl | hz
     · exact hx
     · have := h.1 z hz; omega
   · split
     · exact List.pairwise_cons.2 h
     · rw [List.pairwise_cons]
       refine ⟨fun z hz => ?_, ih h.2⟩
       rcases (mem_insD x z l).1 hz with rfl | hz
       · omega
       · exact h.1 z hz
theorem sorted_sortD (l : List Int) : (sortD l).Pairwise (· < ·) := by
 induction l with
 | nil => simp [sortD]
 | cons x l ih => exact sorted_insD x _ ih
theorem sorted_eq : ∀ (l l' : List Int), l.Pairwise (· < ·) → l'.Pairwise (· < ·) → (∀ x, x ∈ l ↔ x ∈ l') → l = l' := by
 intro l
 induction l with
 | nil =>
   intro l' _ _ h
   cases l' with
   | nil => rfl
   | cons y l' => have := (h y).2 (by simp); cases this
 | cons x l ih =>
   intro l' h1 h2 h
   cases l' with
   | nil => have := (h x).1 (by simp); cases this
   | cons y l' =>
     rw [List.pairwise_cons] at h1 h2
     have e : x = y := by
      rcases List.mem_cons.1 ((h x).1 (by simp)) with e | hx
      · exact e
      · rcases List.mem_cons.1 ((h y).2 (by simp)) with e | hy
        · exact e.symm
        · have := h2.1 x hx
          have := h1.1 y hy
          omega
     subst e
     rw [ih l' h1.2 h2.2 (fun z => ?_)]
     have hz := h z
     simp only [List.mem_cons] at hz
     constructor
     · intro hm
       rcases hz.1 (.inr hm) with e | h3
       · subst e; have := h1.1 z hm; omega
       · exact h3
     · intro hm
       rcases hz.2 (.inr hm) with e | h3
       · subst e; have := h2.1 z hm; omega
       · exact h3
theorem len_insD (x : Int) (l : List Int) : (insD x l).length ≤ l.length + 1 := by
 induction l with
 | nil => simp [insD]
 | cons y l ih =>
   simp only [insD]
   split
   · simp
   · split
     · simp
     · simp only [List.length_cons]; omega
theorem len_sortD (l : List Int) : (sortD l).length ≤ l.length := by
 induction l with
 | nil => simp [sortD]
 | cons x l ih => have := len_insD x (sortD l); simp [sortD]; omega

/-! ### trees -/
structure TileD where
 kind : Int
 parent : Int
 blocks : List Int
abbrev zTile : TileD := ⟨0, 0, []⟩
abbrev parL (l : List TileD) (n : Nat) : Int := (l.getD n zTile).parent
abbrev blkL (l : List TileD) (n : Nat) : List Int := (l.getD n zTile).blocks
def parentsB (l : List TileD) : Bool := (List.range l.length).all fun k => decide (-1 ≤ parL l k ∧ parL l k < k)
theorem parentsB_iff (l : List TileD) : parentsB l = true ↔ ∀ k, k < l.length → -1 ≤ parL l k ∧ parL l k < k := by simp [parentsB]
def descF (l : List TileD) (k : Nat) : Nat → Nat → Bool
 | 0, n => n == k
 | f + 1, n => n == k || (decide (0 ≤ parL l n) && descF l k f (parL l n).toNat)
/-- does a tile lie in another one? -/
def descB (l : List TileD) (k n : Nat) : Bool := descF l k n n
theorem descF_eq {l : List TileD} (hp : parentsB l = true) (k : Nat) : ∀ (n f : Nat), n < l.length → n ≤ f → descF l k f n = descF l k n n := by
 rw [parentsB_iff] at hp
 intro n
 induction n using Nat.strongRecOn with
 | _ n ih =>
   intro f hn hf
   have h1 := hp n hn
   cases f with
   | zero => obtain rfl : n = 0 := by omega
             rfl
   | succ f =>
     cases n with
     | zero =>
       have h2 : ¬ 0 ≤ parL l 0 := by omega
       simp [descF, h2]
     | succ n =>
       simp only [descF]
       by_cases h2 : 0 ≤ parL l (n + 1)
       · rw [ih (parL l (n + 1)).toNat (by omega) f (by omega) (by omega), ih (parL l (n + 1)).toNat (by omega) n (by omega) (by omega)]
       · simp [h2]
theorem descB_eq {l : List TileD} (hp : parentsB l = true) (k n : Nat) (hn : n < l.length) : descB l k n = (n == k || (decide (0 ≤ parL l n) && descB l k (parL l n).toNat)) := by
 have h1 := (parentsB_iff l).1 hp n hn
 unfold descB
 cases n with
 | zero =>
   have h2 : ¬ 0 ≤ parL l 0 := by omega
   simp [descF, h2]
 | succ n =>
   simp only [descF]
   by_cases h2 : 0 ≤ parL l (n + 1)
   · rw [descF_eq hp k (parL l (n + 1)).toNat n (by omega) (by omega)]
   · simp [h2]
theorem descB_self (l : List TileD) (k : Nat) : descB l k k = true := by unfold descB; cases k <;> simp [descF]
theorem descB_ge {l : List TileD} (hp : parentsB l = true) (k : Nat) : ∀ n, n < l.length → descB l k n = true → k ≤ n := by
 intro n
 induction n using Nat.strongRecOn with
 | _ n ih =>
   intro hn h
   have h1 := (parentsB_iff l).1 hp n hn
   rw [descB_eq hp k n hn, Bool.or_eq_true] at h
   rcases h with h | h
   · have : n = k := by simpa using h
     omega
   · simp only [Bool.and_eq_true, decide_eq_true_eq] at h
     have := ih _ (by omega) (by omega) h.2
     omega
/-- of two tiles in which one lies, one lies in the other -/
theorem descB_chain {l : List TileD} (hp : parentsB l = true) (a b : Nat) (hab : a ≤ b) : ∀ n, n < l.length → descB l a n = true → descB l b n = true → descB l a b = true := by
 intro n
 induction n using Nat.strongRecOn with
 | _ n ih =>
   intro hn ha hb
   have h1 := (parentsB_iff l).1 hp n hn
   have hb0 := hb
   rw [descB_eq hp b n hn, Bool.or_eq_true] at hb
   rcases hb with hb | hb
   · have : n = b := by simpa using hb
     subst this; exact ha
   · simp only [Bool.and_eq_true, decide_eq_true_eq] at hb
     rw [descB_eq hp a n hn, Bool.or_eq_true] at ha
     rcases ha with ha | ha
     · have e : n = a := by simpa using ha
       have := descB_ge hp b n hn hb0
       obtain rfl : a = b := by omega
       exact descB_self l a
     · simp only [Bool.and_eq_true, decide_eq_true_eq] at ha
       exact ih _ (by omega) (by omega) ha.2 hb.2
theorem descB_trans {l : List TileD} (hp : parentsB l = true) (a b : Nat) (hab : descB l a b = true) : ∀ n, n < l.length → descB l b n = true → descB l a n = true := by
 intro n
 induction n using Nat.strongRecOn with
 | _ n ih =>
   intro hn hb
   have h1 := (parentsB_iff l).1 hp n hn
   rw [descB_eq hp b n hn, Bool.or_eq_true] at hb
   rcases hb with hb | hb
   · have : n = b := by simpa using hb
     subst this; exact hab
   · simp only [Bool.and_eq_true, decide_eq_true_eq] at hb
     rw [descB_eq hp a n hn, ih _ (by omega) (by omega) hb.2]
     simp [hb.1]
/-- the blocks of a tile and of those in it, as they are put together -/
def rawL (l : List TileD) (k m : Nat) : List Int := blkL l k ++ ((List.range m).filter fun n => n != k && descB l k n).flatMap (blkL l)
def allL (l : List TileD) (k : Int) : List Int := if 0 ≤ k ∧ k < l.length ∧ parentsB l = true then sortD (rawL l k.toNat l.length) else []
theorem mem_rawL (l : List TileD) (k : Nat) (hk : k < l.length) (x : Int) : x ∈ rawL l k l.length ↔ ∃ n, n < l.length ∧ descB l k n = true ∧ x ∈ blkL l n := by
 simp only [rawL, List.mem_append, List.mem_flatMap, List.mem_filter, List.mem_range, Bool.and_eq_true, bne_iff_ne, ne_eq]
 constructor
 · rintro (h | ⟨n, ⟨h1, _, h2⟩, h3⟩)
   · exact ⟨k, hk, descB_self l k, h⟩
   · exact ⟨n, h1, h2, h3⟩
 · rintro ⟨n, h1, h2, h3⟩
   by_cases e : n = k
   · subst e; exact .inl h3
   · exact .inr ⟨n, ⟨h1, e, h2⟩, h3⟩
theorem mem_allL (l : List TileD) (k : Nat) (hk : k < l.length) (hp : parentsB l = true) (x : Int) : x ∈ allL l k ↔ ∃ n, n < l.length ∧ descB l k n = true ∧ x ∈ blkL l n := by
 rw [allL, if_pos ⟨by omega, by omega, hp⟩, mem_sortD]
 exact mem_rawL l k hk x

/-! ### whose own a block is -/
def homes (l : List TileD) (b : Nat) : List Nat := (List.range l.length).flatMap fun k => ((blkL l k).filter fun x => x == (b : Int)).map fun _ => k
def ownB (l : List TileD) (n : Nat) : Bool := (List.range n).all fun b => (homes l b).length == 1
def ownF (l : List TileD) (b : Nat) : Nat := (homes l b).headD 0
def ownL (l : List TileD) (n : Nat) : List Int := (List.range n).map fun (b : Nat) => (ownF l b : Int)

/-! ### what must hold of tiles -/
def eqS (f g : Nat → Bool) : Bool := (List.range 200).all fun k => f k == g k
theorem eqS_iff {f g : Nat → Bool} (hf : Canon f) (hg : Canon g) : eqS f g = true ↔ f = g := by
 simp only [eqS, List.all_eq_true, List.mem_range, beq_iff_eq]
 constructor
 · intro h
   funext k
   by_cases hk : k < 200
   · exact h k hk
   · have h1 : f k = false := by
      cases e : f k with
      | false => rfl
      | true => exact absurd (hf k e) hk
     have h2 : g k = false := by
      cases e : g k with
      | false => rfl
      | true => exact absurd (hg k e) hk
     rw [h1, h2]
 · rintro rfl k _; rfl
def ringsB (ts : List TermD) (bs : List Int) (inn : Nat → Bool) : Bool := bs.any fun b => knotS ts b.toNat inn b.toNat
def togetherB (ts : List TermD) (s : Nat → Bool) : Bool := match listS s with
 | [] => true
 | b :: _ => eqS (knotS ts b s) s
def oneB (t : TileD) (e : List Nat) : Bool := e.length == 1 && t.blocks.contains ((e.headD 0 : Nat) : Int)
def holdsB (ts : List TermD) (t : TileD) (s : Nat → Bool) : Bool :=
 if t.kind = 3 then decide (1 < (entriesS ts s).length) && togetherB ts s
 else if t.kind = 2 then oneB t (entriesS ts s) && togetherB ts s && !ringsB ts t.blocks (lessS s ((entriesS ts s).headD 0))
 else if t.kind = 4 then oneB t (entriesS ts s) && !ringsB ts t.blocks s
 else if t.kind = 1 then !ringsB ts t.blocks s else false
def risingB (n : Nat) (bs : List Int) : Bool := (List.range bs.length).all fun i => decide (0 ≤ bs.getD i 0 ∧ bs.getD i 0 < n) && (i == 0 || decide (bs.getD (i - 1) 0 < bs.getD i 0))
def standsB (n : Nat) (l : List TileD) (k : Nat) : Bool :=
 let t := l.getD k zTile
 !(((k == 0) != (t.kind == 1)) || ((k == 0) != (t.parent == -1)) || (t.blocks.length == 0) || (decide (0 < k) && ((l.getD t.parent.toNat zTile).kind == 3))) && risingB n t.blocks
def setK (l : List TileD) (k : Nat) : Nat → Bool := ofS (allL l k)
def rightB (ts : List TermD) (l : List TileD) : Bool :=
 fitsB ts && decide (l.length ≤ 200) && parentsB l && ownB l ts.length && (ownF l 0 == 0) &&
  (List.range l.length).all fun k => standsB ts.length l k && holdsB ts (l.getD k zTile) (setK l k)

/-- hanging together, as the document says it -/
theorem together_iff {ts : List TermD} {s : Nat → Bool} (hs : Canon s) : togetherB ts s = true ↔ ∀ b y, s b = true → s y = true → Reach (nx ts) s b y := by
 unfold togetherB
 cases h : listS s with
 | nil =>
   simp only [true_iff]
   intro b y hb
   have := (mem_listS hs b).2 hb
   rw [h] at this; cases this
 | cons b l =>
   have hb : s b = true := (mem_listS hs b).1 (by rw [h]; simp)
   simp only
   rw [eqS_iff (knot_canon hs b) hs]
   constructor
   · intro e x y hx hy
     have h1 : knotS ts b s x = true := by rw [e]; exact hx
     have h2 : knotS ts b s y = true := by rw [e]; exact hy
     exact ((knot_iff hs b x).1 h1).2.2.trans ((knot_iff hs b y).1 h2).2.1
   · intro h2
     funext y
     rw [Bool.eq_iff_iff, knot_iff hs]
     constructor
     · exact fun h3 => h3.2.1.inn
     · exact fun hy => ⟨hb, h2 b y hb hy, h2 y b hy hb⟩
theorem together_all {ts : List TermD} {s : Nat → Bool} (hs : Canon s) : togetherB ts s = (listS s).all fun b => eqS (walkF (nx ts) s b) s := by
 rw [Bool.eq_iff_iff, together_iff hs, List.all_eq_true]
 constructor
 · intro h b hb
   have hb := (mem_listS hs b).1 hb
   rw [eqS_iff (walkF_canon hs b) hs]
   funext y
   rw [Bool.eq_iff_iff, walkF_iff hs]
   exact ⟨fun h3 => h3.2.inn, fun hy => ⟨hb, h b y hb hy⟩⟩
 · intro h b y hb hy
   have := h b ((mem_listS hs b).2 hb)
   rw [eqS_iff (walkF_canon hs b) hs] at this
   have h2 : walkF (nx ts) s b y = true := by rw [this]; exact hy
   exact ((walkF_iff hs b y).1 h2).2
theorem ring_iff {ts : List TermD} {s : Nat → Bool} (hs : Canon s) (b : Nat) : knotS ts b s b = walkF (nx ts) s b b := by
 rw [Bool.eq_iff_iff, knot_iff hs, walkF_iff hs]
 exact ⟨fun h => ⟨h.1, h.2.1⟩, fun h => ⟨h.1, h.2, h.2⟩⟩
end

section
structure EdgeD where
 fr : Int
 arm : Int
 to : Int
deriving DecidableEq
def armsF (b : Nat) : Nat → List Int → List EdgeD
 | _, [] => []
 | i, x :: l => ⟨b, i, x⟩ :: armsF b (i + 1) l
def edgesAt (ts : List TermD) (b : Nat) : List EdgeD := armsF b 0 (toD (ts.getD b zTerm))
def edgesFrom (ts : List TermD) (b : Nat) : List EdgeD := (List.range' b (ts.length - b)).flatMap (edgesAt ts)
def edgesL (ts : List TermD) : List EdgeD := edgesFrom ts 0
theorem edgesFrom_step (ts : List TermD) (b : Nat) (h : b < ts.length) : edgesFrom ts b = edgesAt ts b ++ edgesFrom ts (b + 1) := by
 rw [edgesFrom, show ts.length - b = (ts.length - (b + 1)) + 1 by omega, List.range'_succ, List.flatMap_cons]
 rfl
theorem edgesFrom_end (ts : List TermD) (b : Nat) (h : ts.length ≤ b) : edgesFrom ts b = [] := by
 rw [edgesFrom, show ts.length - b = 0 by omega]; rfl
theorem armsF_drop (b : Nat) : ∀ (l : List Int) (i j : Nat), (armsF b i l).drop j = armsF b (i + j) (l.drop j)
 | [], i, j => by simp [armsF]
 | x :: l, i, 0 => by simp [armsF]
 | x :: l, i, j + 1 => by
   simp only [armsF, List.drop_succ_cons]
   rw [armsF_drop b l (i + 1) j, show i + 1 + j = i + (j + 1) by omega]
theorem armsF_len (b : Nat) : ∀ (l : List Int) (i : Nat), (armsF b i l).length = l.length
 | [], i => rfl
 | x :: l, i => by simp [armsF, armsF_len b l (i + 1)]
theorem edgesAt_len (ts : List TermD) (b : Nat) : (edgesAt ts b).length ≤ 2 := by rw [edgesAt, armsF_len]; exact toD_len _
theorem edgesL_len (ts : List TermD) : (edgesL ts).length ≤ 2 * ts.length := by
 have key : ∀ n b, ((List.range' b n).flatMap (edgesAt ts)).length ≤ 2 * n := by
  intro n
  induction n with
  | zero => intro b; simp
  | succ n ih =>
    intro b
    rw [List.range'_succ, List.flatMap_cons, List.length_append]
    have := ih (b + 1)
    have := edgesAt_len ts b
    omega
 exact key _ _
end

section
def allE (ts : List TermD) : List EdgeD := if fitsB ts then edgesL ts else []
def outE (ts : List TermD) (e : EdgeD) : Nat := if e ∈ allE ts then (allE ts).countP (fun x => x.fr == e.fr) else 0
def inE (ts : List TermD) (e : EdgeD) : Nat := if e ∈ allE ts then (allE ts).countP (fun x => x.to == e.to) else 0
def critB (ts : List TermD) (e : EdgeD) : Bool := decide (1 < min (outE ts e) (inE ts e))
def spotD (ts : List TermD) (e : EdgeD) : Int × Bool × Int :=
 if outE ts e = 0 then (0, false, 2) else if outE ts e = 1 then (e.fr, true, 0) else if inE ts e = 1 then (e.to, false, 0) else (0, false, 5)

theorem armsF_mem (b : Nat) : ∀ (l : List Int) (i : Nat) (x : EdgeD), x ∈ armsF b i l ↔ ∃ j, j < l.length ∧ x = ⟨b, ((i + j : Nat) : Int), l.getD j 0⟩
 | [], i, x => by simp [armsF]
 | y :: l, i, x => by
   rw [armsF, List.mem_cons, armsF_mem b l (i + 1)]
   constructor
   · rintro (rfl | ⟨j, hj, rfl⟩)
     · exact ⟨0, by simp, by simp⟩
     · exact ⟨j + 1, by simp; omega, by simp; omega⟩
   · rintro ⟨j, hj, rfl⟩
     cases j with
     | zero => left; simp
     | succ j => right; exact ⟨j, by simp at hj; omega, by simp; omega⟩
theorem mem_edgesL (ts : List TermD) (x : EdgeD) : x ∈ edgesL ts ↔ ∃ b j, b < ts.length ∧ j < (toD (ts.getD b zTerm)).length ∧ x = ⟨(b : Nat), (j : Nat), (toD (ts.getD b zTerm)).getD j 0⟩ := by
 simp only [edgesL, edgesFrom, Nat.sub_zero, List.mem_flatMap, List.mem_range', Nat.one_mul, Nat.zero_add, edgesAt, armsF_mem]
 constructor
 · rintro ⟨b, ⟨q, hq, e⟩, j, hj, rfl⟩
   have hb : b < ts.length := by omega
   exact ⟨b, j, hb, hj, rfl⟩
 · rintro ⟨b, j, hb, hj, rfl⟩; exact ⟨b, ⟨b, hb, rfl⟩, j, hj, rfl⟩
theorem allE_mem {ts : List TermD} {x : EdgeD} (h : x ∈ allE ts) : 0 ≤ x.fr ∧ x.fr < ts.length ∧ 1 ≤ x.to ∧ x.to < ts.length := by
 unfold allE at h
 split at h
 case isFalse => cases h
 case isTrue hf =>
  have hg : goodB ts = true := by simp only [fitsB, Bool.and_eq_true] at hf; exact hf.1
  obtain ⟨b, j, hb, hj, rfl⟩ := (mem_edgesL _ _).1 h
  have hm : ts.getD b zTerm ∈ ts := by rw [List.getD_eq_getElem?_getD, List.getElem?_eq_getElem hb]; exact List.getElem_mem _
  have := (((goodB_iff ts).1 hg).2 _ hm).2 ((toD (ts.getD b zTerm)).getD j 0) (by rw [List.getD_eq_getElem?_getD (l := toD _), List.getElem?_eq_getElem hj]; exact List.getElem_mem _)
  refine ⟨by simp, by simp; omega, this.1, this.2⟩
theorem count_one {α : Type} (p : α → Bool) : ∀ (l : List α), l.countP p = 1 → ∀ (i j : Nat) (x y : α), l[i]? = some x → l[j]? = some y → p x = true → p y = true → i = j
 | [], h, _, _, _, _, _, _, _, _ => by simp at h
 | z :: l, h, i, j, x, y, hi, hj, hx, hy => by
   have key : ∀ {k : Nat} {u : α}, l[k]? = some u → p u = true → 0 < l.countP p := fun hk hu => List.countP_pos_iff.2 ⟨_, List.mem_of_getElem? hk, hu⟩
   rw [List.countP_cons] at h
   cases i with
   | zero =>
     simp only [List.getElem?_cons_zero, Option.some.injEq] at hi
     subst hi
     rw [if_pos hx] at h
     cases j with
     | zero => rfl
     | succ j =>
       rw [List.getElem?_cons_succ] at hj
       have := key hj hy
       omega
   | succ i =>
     rw [List.getElem?_cons_succ] at hi
     have h1 := key hi hx
     cases j with
     | zero =>
       simp only [List.getElem?_cons_zero, Option.some.injEq] at hj
       subst hj
       rw [if_pos hy] at h
       omega
     | succ j =>
       rw [List.getElem?_cons_succ] at hj
       have h2 : l.countP p = 1 := by split at h <;> omega
       rw [count_one p l h2 i j x y hi hj hx hy]
/-- what the spot of an edge is -/
theorem spot_cases {ts : List TermD} {i : Nat} {x : EdgeD} (hx : (allE ts)[i]? = some x) :
  (critB ts x = true ∧ spotD ts x = (0, false, 5)) ∨
  (critB ts x = false ∧ spotD ts x = (x.fr, true, 0) ∧ ∀ j y, (allE ts)[j]? = some y → y.fr = x.fr → j = i) ∨
  (critB ts x = false ∧ spotD ts x = (x.to, false, 0) ∧ ∀ j y, (allE ts)[j]? = some y → y.to = x.to → j = i) := by
 have hm := List.mem_of_getElem? hx
 have ho : outE ts x = (allE ts).countP (fun y => y.fr == x.fr) := if_pos hm
 have hi : inE ts x = (allE ts).countP (fun y => y.to == x.to) := if_pos hm
 have ho1 : 0 < outE ts x := by rw [ho]; exact List.countP_pos_iff.2 ⟨x, hm, by simp⟩
 have hi1 : 0 < inE ts x := by rw [hi]; exact List.countP_pos_iff.2 ⟨x, hm, by simp⟩
 by_cases e1 : outE ts x = 1
 · refine .inr (.inl ⟨by simp [critB, e1]; omega, by simp [spotD, e1], fun j y hj hy => ?_⟩)
   exact count_one _ _ (ho ▸ e1) j i y x hj hx (by simp [hy]) (by simp)
 · by_cases e2 : inE ts x = 1
   · refine .inr (.inr ⟨by simp [critB, e2]; omega, by simp [spotD, e1, e2, show outE ts x ≠ 0 by omega], fun j y hj hy => ?_⟩)
     exact count_one _ _ (hi ▸ e2) j i y x hj hx (by simp [hy]) (by simp)
   · exact .inl ⟨by simp [critB]; omega, by simp [spotD, e1, e2, show outE ts x ≠ 0 by omega]⟩
theorem spot_none {ts : List TermD} {x : EdgeD} (hx : x ∉ allE ts) : spotD ts x = (0, false, 2) ∧ critB ts x = false := by
 have ho : outE ts x = 0 := if_neg hx
 exact ⟨by simp [spotD, ho], by simp [critB, ho]⟩
end
end Go.Proofs.Ytblhmdhfhaencaa
