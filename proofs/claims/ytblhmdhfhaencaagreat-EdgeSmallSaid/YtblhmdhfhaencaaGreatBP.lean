/-
 Words on memory that every text of this family uses: slices of ints that read as lists, worlds that only grow. No program in sight.
-/
import Derived.WalkKit
import Derived.ProofKit
import Derived.Below
import Derived.Lib.Hide
import Derived.Deep.QuietTactic
import Derived.BigQuiet
import Derived.Deep.Draws
import Derived.Laws.OwnMore
import Derived.Outline
import Derived.Test.YtblhmdhfhaencaaGreatRows
namespace Go.Proofs.YtblhmdhfhaencaaGreat
set_option linter.unusedSimpArgs false
set_option linter.unusedVariables false
set_option linter.unusedSectionVars false
set_option maxRecDepth 100000
set_option maxHeartbeats 40000000
section
open Go.RowKit
def I64 (n : Int) : Prop := -9223372036854775808 ≤ n ∧ n ≤ 9223372036854775807
def Ints (w : World) (a : Option Addr) (n : Nat) (xs : List Int) : Prop :=
 xs.length = n ∧ n ≤ 17592186044416 ∧ ∀ k, k < n → ∃ b o, a = some ⟨b, o, none⟩ ∧ w.cell? ⟨b, o + k, none⟩ = some (.int .i64 (xs.getD k 0)) ∧ I64 (xs.getD k 0)
theorem cell_ext {w w' : World} (h : Below w.heap.size w w') {p : Addr} {v : Value} (hc : w.cell? p = some v) : w'.cell? p = some v :=
 (h.cell (World.block_lt_of_cell? w p hc)).trans hc
theorem Ints.ext {w w' : World} {a : Option Addr} {n : Nat} {xs : List Int} (h : Ints w a n xs) (hb : Below w.heap.size w w') : Ints w' a n xs :=
 ⟨h.1, h.2.1, fun k hk => let ⟨b, o, e, hc, hi⟩ := h.2.2 k hk; ⟨b, o, e, cell_ext hb hc, hi⟩⟩
theorem below_drewN {B : Nat} {a w : World} (h : Below B a w) (n : Nat) : Below B a (w.drewN n) := ⟨h.os, h.tape, h.output, h.size, h.block⟩
theorem ext_drewN {a w : World} (h : Below a.heap.size a w) (n : Nat) : Below a.heap.size a (w.drewN n) := below_drewN h n
theorem ext_trans {a b c : World} (h : Below a.heap.size a b) (k : Below b.heap.size b c) : Below a.heap.size a c := h.trans (k.mono h.size)
theorem bcell {W w1 : World} (hb : Below W.heap.size W w1) : (∀ b o, b < W.heap.size → w1.cell? ⟨b, o, none⟩ = W.cell? ⟨b, o, none⟩) ∧ (∀ b o, b < W.heap.size → w1.frozen? ⟨b, o, none⟩ = W.frozen? ⟨b, o, none⟩) :=
 ⟨fun b o h => hb.cell (p := ⟨b, o, none⟩) h, fun b o h => hb.frozen (p := ⟨b, o, none⟩) h⟩
theorem ret_bool {a b : Bool} (h : a = b) : Ending.returned (.bool a) = .returned (.bool b) := by rw [h]
def idx : List Int → Int → Int
 | [], _ => -1
 | y :: l, x => if y = x then 0 else if idx l x < 0 then -1 else idx l x + 1
theorem idx_ge (l : List Int) (x : Int) : -1 ≤ idx l x ∧ idx l x < l.length := by
 induction l with
 | nil => simp [idx]
 | cons y l ih =>
   simp only [idx, List.length_cons]
   split
   · omega
   · split <;> omega
theorem idx_neg_iff (l : List Int) (x : Int) : idx l x < 0 ↔ x ∉ l := by
 induction l with
 | nil => simp [idx]
 | cons y l ih =>
   have := idx_ge l x;simp only [idx, List.mem_cons, not_or];by_cases h : y = x
   · simp [h]
   · rw [if_neg h];have h' : ¬ x = y := fun e => h e.symm
     split
     · simp_all
     · rename_i hn
       have : x ∈ l := by
        by_cases hx : x ∈ l
        · exact hx
        · exact absurd (ih.2 hx) hn
       simp [this]; omega
theorem idx_found (l : List Int) (x : Int) (k : Nat) (hk : k < l.length) (hx : l.getD k 0 = x) (hno : ∀ j, j < k → l.getD j 0 ≠ x) : idx l x = k := by
 induction l generalizing k with
 | nil => simp at hk
 | cons y l ih =>
   cases k with
   | zero => simp at hx; simp [idx, hx]
   | succ k =>
     have h0 := hno 0 (by omega);simp at h0;have := ih k (by simpa using hk) (by simpa using hx) (fun j hj => by have := hno (j + 1) (by omega); simpa using this);simp only [idx, if_neg h0, this];rw [if_neg (by omega)]; omega
theorem idx_none (l : List Int) (x : Int) (hno : ∀ j, j < l.length → l.getD j 0 ≠ x) : idx l x = -1 := by
 have h := idx_ge l x
 have := (idx_neg_iff l x).2 (fun hx => by
  obtain ⟨j, hj, e⟩ := List.getElem_of_mem hx
  exact hno j hj (by simp [List.getD, hj, e]))
 omega
end

section
structure TermD where
 kind : Int
 a : Int
 t0 : Int
 t1 : Int
abbrev zTerm : TermD := ⟨0, 0, 0, 0⟩
def varB (n : Int) : Bool := decide (1 ≤ n ∧ n ≤ 200)
def termB (t : TermD) : Bool :=
 if t.kind = 1 then decide (t.a = 0 ∧ t.t1 = 0) else if t.kind = 2 then varB t.a
 else if t.kind = 3 then (decide (t.a = 0) || varB t.a) && decide (t.t0 = 0 ∧ t.t1 = 0) else decide (t.kind = 4 ∧ t.a = 0 ∧ t.t0 = 0 ∧ t.t1 = 0)
def toD (t : TermD) : List Int := if termB t then (if t.kind = 1 then [t.t0] else if t.kind = 2 then [t.t0, t.t1] else []) else []
theorem toD_len (t : TermD) : (toD t).length ≤ 2 := by unfold toD; repeat (first | split | simp)
def nx (ts : List TermD) (k : Nat) : List Nat := (toD (ts.getD k zTerm)).map Int.toNat
def pv (ts : List TermD) (y : Nat) : List Nat := (List.range ts.length).flatMap fun k => ((nx ts k).filter (fun x => x == y)).map fun _ => k
theorem nx_none (ts : List TermD) (k : Nat) (h : ts.length ≤ k) : nx ts k = [] := by
 have : ts.getD k zTerm = zTerm := by rw [List.getD_eq_getElem?_getD, List.getElem?_eq_none h]; rfl
 rw [nx, this]; rfl
theorem mem_pv (ts : List TermD) (y k : Nat) : k ∈ pv ts y ↔ y ∈ nx ts k := by
 simp only [pv, List.mem_flatMap, List.mem_range, List.mem_map, List.mem_filter, beq_iff_eq]
 constructor
 · rintro ⟨j, _, x, ⟨h, rfl⟩, rfl⟩; exact h
 · intro h;refine ⟨k, ?_, y, ⟨h, rfl⟩, rfl⟩;apply Classical.byContradiction;intro hk;rw [nx_none ts k (by omega)] at h;cases h
def goodB (ts : List TermD) : Bool := decide (1 ≤ ts.length ∧ ts.length ≤ 200) && ts.all fun t => termB t && (toD t).all fun x => decide (1 ≤ x ∧ x < ts.length)
theorem goodB_iff (ts : List TermD) : goodB ts = true ↔ (1 ≤ ts.length ∧ ts.length ≤ 200) ∧ ∀ t ∈ ts, termB t = true ∧ ∀ x ∈ toD t, 1 ≤ x ∧ x < ts.length := by
 simp [goodB]
theorem good_nx {ts : List TermD} (h : goodB ts = true) {k y : Nat} (hy : y ∈ nx ts k) : 1 ≤ y ∧ y < ts.length := by
 obtain ⟨_, h⟩ := (goodB_iff ts).1 h
 by_cases hk : k < ts.length
 · have hm : ts.getD k zTerm ∈ ts := by rw [List.getD_eq_getElem?_getD, List.getElem?_eq_getElem hk]; exact List.getElem_mem _
   rw [nx, List.mem_map] at hy;obtain ⟨x, hx, rfl⟩ := hy;have := (h _ hm).2 x hx;omega
 · rw [nx_none ts k (by omega)] at hy;cases hy
inductive Reach (next : Nat → List Nat) (inn : Nat → Bool) (b : Nat) : Nat → Prop
 | one {y : Nat} : y ∈ next b → inn y = true → Reach next inn b y
 | step {x y : Nat} : Reach next inn b x → y ∈ next x → inn y = true → Reach next inn b y
theorem Reach.inn {next : Nat → List Nat} {inn : Nat → Bool} {b y : Nat} (h : Reach next inn b y) : inn y = true := by cases h <;> assumption
theorem Reach.trans {next : Nat → List Nat} {inn : Nat → Bool} {a b c : Nat} (h : Reach next inn a b) (k : Reach next inn b c) : Reach next inn a c := by
 induction k with
 | one hy hi => exact .step h hy hi
 | step _ hy hi ih => exact .step ih hy hi
theorem Reach.mono {next : Nat → List Nat} {inn inn' : Nat → Bool} (hs : ∀ y, inn y = true → inn' y = true) {b y : Nat} (h : Reach next inn b y) : Reach next inn' b y := by
 induction h with
 | one hy hi => exact .one hy (hs _ hi)
 | step _ hy hi ih => exact .step ih hy (hs _ hi)
theorem Reach.rev {next prev : Nat → List Nat} (hp : ∀ x y, y ∈ next x → x ∈ prev y) {inn : Nat → Bool} {b y : Nat} (hb : inn b = true) (h : Reach next inn b y) : Reach prev inn y b := by
 induction h with
 | one hy hi => exact .one (hp _ _ hy) hb
 | @step x y hx hy hi ih => exact (Reach.one (hp _ _ hy) hx.inn).trans ih
structure WInv (next : Nat → List Nat) (inn : Nat → Bool) (b : Nat) (todo : List Nat) (s : Nat → Bool) (x : Option (Nat × Nat)) : Prop where
 sound : ∀ y, s y = true → Reach next inn b y
 src : ∀ z ∈ todo, z = b ∨ s z = true
 cur : ∀ z j, x = some (z, j) → z = b ∨ s z = true
 closed : ∀ z, (z = b ∨ s z = true) → z ∈ todo ∨ (∃ j, x = some (z, j) ∧ ∀ y ∈ (next z).take j, inn y = true → s y = true) ∨ ∀ y ∈ next z, inn y = true → s y = true
section
variable {next : Nat → List Nat} {inn : Nat → Bool} {b : Nat} {todo : List Nat} {s : Nat → Bool}
theorem WInv.start (next : Nat → List Nat) (inn : Nat → Bool) (b : Nat) : WInv next inn b [b] (fun _ => false) none where
 sound := fun y h => by cases h
 src := fun z h => by simp at h; exact .inl h
 cur := fun z j h => by cases h
 closed := fun z h => h.elim (fun e => .inl (by simp [e])) (fun h => by cases h)
theorem WInv.take (h : WInv next inn b todo s none) (x : Nat) (todo' : List Nat) (hm : ∀ z, z ∈ todo ↔ z = x ∨ z ∈ todo') : WInv next inn b todo' s (some (x, 0)) where
 sound := h.sound
 src := fun z hz => h.src z ((hm z).2 (.inr hz))
 cur := fun z j e => by cases e; exact h.src x ((hm x).2 (.inl rfl))
 closed := fun z hz => by
  rcases h.closed z hz with h1 | ⟨j, h1, _⟩ | h1
  · rcases (hm z).1 h1 with rfl | h2
    · exact .inr (.inl ⟨0, rfl, fun y hy => by simp at hy⟩)
    · exact .inl h2
  · cases h1
  · exact .inr (.inr h1)
theorem takeN {l : List Nat} {j : Nat} (hj : j < l.length) {y : Nat} (hy : y ∈ l.take (j + 1)) : y ∈ l.take j ∨ y = l.getD j 0 := by
 rw [List.take_add_one, List.getElem?_eq_getElem hj, List.mem_append] at hy
 rcases hy with h | h
 · exact .inl h
 · exact .inr (by simpa [List.getD_eq_getElem?_getD, hj] using h)
theorem WInv.skip {x j : Nat} (h : WInv next inn b todo s (some (x, j))) (hj : j < (next x).length) (hn : inn ((next x).getD j 0) = true → s ((next x).getD j 0) = true) : WInv next inn b todo s (some (x, j + 1)) where
 sound := h.sound
 src := h.src
 cur := fun z k e => by cases e; exact h.cur x j rfl
 closed := fun z hz => by
  rcases h.closed z hz with h1 | ⟨k, h1, h2⟩ | h1
  · exact .inl h1
  · cases h1;refine .inr (.inl ⟨j + 1, rfl, fun y hy hi => ?_⟩);rcases takeN hj hy with h3 | rfl
    · exact h2 y h3 hi
    · exact hn hi
  · exact .inr (.inr h1)
theorem WInv.push {x j : Nat} (h : WInv next inn b todo s (some (x, j))) (hj : j < (next x).length) (hi : inn ((next x).getD j 0) = true) (todo' : List Nat) (hm : ∀ z, z ∈ todo' ↔ z = (next x).getD j 0 ∨ z ∈ todo) (s' : Nat → Bool) (hs : ∀ z, s' z = true ↔ z = (next x).getD j 0 ∨ s z = true) :
  WInv next inn b todo' s' (some (x, j + 1)) where
 sound := fun y hy => by
  rcases (hs y).1 hy with rfl | h1
  · have hx : (next x).getD j 0 ∈ next x := by rw [List.getD_eq_getElem?_getD, List.getElem?_eq_getElem hj]; exact List.getElem_mem _
    rcases h.cur x j rfl with rfl | h2
    · exact .one hx hi
    · exact .step (h.sound x h2) hx hi
  · exact h.sound y h1
 src := fun z hz => by
  rcases (hm z).1 hz with rfl | h1
  · exact .inr ((hs _).2 (.inl rfl))
  · exact (h.src z h1).imp id (fun h2 => (hs z).2 (.inr h2))
 cur := fun z k e => by cases e; exact (h.cur x j rfl).imp id (fun h2 => (hs x).2 (.inr h2))
 closed := fun z hz => by
  have hz' : z = (next x).getD j 0 ∨ (z = b ∨ s z = true) := by
   rcases hz with rfl | h1
   · exact .inr (.inl rfl)
   · exact ((hs z).1 h1).imp id .inr
  rcases hz' with rfl | hz'
  · exact .inl ((hm _).2 (.inl rfl))
  · rcases h.closed z hz' with h1 | ⟨k, h1, h2⟩ | h1
    · exact .inl ((hm z).2 (.inr h1))
    · cases h1;refine .inr (.inl ⟨j + 1, rfl, fun y hy hi => ?_⟩);rcases takeN hj hy with h3 | rfl
      · exact (hs y).2 (.inr (h2 y h3 hi))
      · exact (hs _).2 (.inl rfl)
    · exact .inr (.inr fun y hy hi => (hs y).2 (.inr (h1 y hy hi)))
theorem WInv.fin {x j : Nat} (h : WInv next inn b todo s (some (x, j))) (hj : (next x).length ≤ j) : WInv next inn b todo s none where
 sound := h.sound
 src := h.src
 cur := fun z k e => by cases e
 closed := fun z hz => by
  rcases h.closed z hz with h1 | ⟨k, h1, h2⟩ | h1
  · exact .inl h1
  · cases h1;rw [List.take_of_length_le hj] at h2;exact .inr (.inr h2)
  · exact .inr (.inr h1)
theorem WInv.done (h : WInv next inn b [] s none) (y : Nat) : s y = true ↔ Reach next inn b y := by
 refine ⟨h.sound y, fun hr => ?_⟩
 have hc : ∀ z, (z = b ∨ s z = true) → ∀ y ∈ next z, inn y = true → s y = true := fun z hz => by
  rcases h.closed z hz with h1 | ⟨k, h1, _⟩ | h1
  · cases h1
  · cases h1
  · exact h1
 induction hr with
 | one hy hi => exact hc b (.inl rfl) _ hy hi
 | step _ hy hi ih => exact hc _ (.inr ih) _ hy hi
end
def pushL (inn : Nat → Bool) (ts : List Nat × List Nat) (y : Nat) : List Nat × List Nat := if inn y && !ts.2.contains y then (y :: ts.1, y :: ts.2) else ts
def dfs (next : Nat → List Nat) (inn : Nat → Bool) : Nat → List Nat → List Nat → List Nat
 | 0, _, seen => seen
 | _ + 1, [], seen => seen
 | f + 1, x :: todo, seen => dfs next inn f ((next x).foldl (pushL inn) (todo, seen)).1 ((next x).foldl (pushL inn) (todo, seen)).2
def walkL (next : Nat → List Nat) (inn : Nat → Bool) (b : Nat) : List Nat := if inn b then dfs next inn 202 [b] [] else []
def walkF (next : Nat → List Nat) (inn : Nat → Bool) (b : Nat) : Nat → Bool := fun y => (walkL next inn b).contains y
def Canon (s : Nat → Bool) : Prop := ∀ y, s y = true → y < 200
theorem fold_inv {next : Nat → List Nat} {inn : Nat → Bool} {b x : Nat} (hc : Canon inn) : ∀ (m j : Nat) (todo seen : List Nat), (next x).length - j = m → WInv next inn b todo (fun y => seen.contains y) (some (x, j)) → seen.Nodup → (∀ y ∈ seen, y < 200) →
  ∃ todo' seen', ((next x).drop j).foldl (pushL inn) (todo, seen) = (todo', seen') ∧ WInv next inn b todo' (fun y => seen'.contains y) none ∧ seen'.Nodup ∧ (∀ y ∈ seen', y < 200) ∧ todo'.length + seen.length = todo.length + seen'.length := by
 intro m
 induction m with
 | zero =>
   intro j todo seen hm h hn hl;rw [List.drop_of_length_le (by omega)];exact ⟨todo, seen, rfl, h.fin (by omega), hn, hl, by omega⟩
 | succ m ih =>
   intro j todo seen hm h hn hl;have hj : j < (next x).length := by omega
   have hg : (next x).getD j 0 = (next x)[j] := by simp [List.getD_eq_getElem?_getD, hj]
   rw [List.drop_eq_getElem_cons hj, List.foldl_cons, ← hg];by_cases hp : (inn ((next x).getD j 0) && !seen.contains ((next x).getD j 0)) = true
   · have e : pushL inn (todo, seen) ((next x).getD j 0) = ((next x).getD j 0 :: todo, (next x).getD j 0 :: seen) := by unfold pushL; rw [if_pos hp]
     rw [e];simp only [Bool.and_eq_true, Bool.not_eq_true'] at hp;obtain ⟨hi, hs⟩ := hp;have hns : (next x).getD j 0 ∉ seen := by simpa using hs
     obtain ⟨t', s', e1, e2, e3, e4, e5⟩ := ih (j + 1) ((next x).getD j 0 :: todo) ((next x).getD j 0 :: seen) (by omega)
      (h.push hj hi _ (fun z => by simp) _ (fun z => by simp)) (List.nodup_cons.2 ⟨hns, hn⟩) (fun y hy => (List.mem_cons.1 hy).elim (fun e => e ▸ hc _ hi) (hl y))
     exact ⟨t', s', e1, e2, e3, e4, by simp at e5; omega⟩
   · have e : pushL inn (todo, seen) ((next x).getD j 0) = (todo, seen) := by unfold pushL; rw [if_neg hp]
     rw [e]
     exact ih (j + 1) todo seen (by omega) (h.skip hj (fun hi => by
      cases e2 : seen.contains ((next x).getD j 0) with
      | true => rfl
      | false => exact absurd (by rw [hi, e2]; rfl) hp)) hn hl
theorem nodup_len : ∀ (N : Nat) (l : List Nat), l.Nodup → (∀ y ∈ l, y < N) → l.length ≤ N := by
 intro N
 induction N with
 | zero =>
   intro l _ h;cases l with
   | nil => simp
   | cons x l => have := h x (by simp); omega
 | succ N ih =>
   intro l hn h
   have h1 := ih (l.filter fun y => y != N) (hn.filter _) (fun y hy => by
    simp at hy;have := h y hy.1
    omega)
   have h2 : l.length ≤ (l.filter fun y => y != N).length + 1 := by
    clear ih h h1
    induction l with
    | nil => simp
    | cons x l ih =>
      rw [List.nodup_cons] at hn;by_cases e : x = N
      · subst e;have : l.filter (fun y => y != x) = l := by
         rw [List.filter_eq_self];intro y hy;have : y ≠ x := fun e => hn.1 (e ▸ hy);simpa using this
        simp [this]
      · have := ih hn.2;simp [e];omega
   omega
theorem dfs_inv {next : Nat → List Nat} {inn : Nat → Bool} {b : Nat} (hc : Canon inn) : ∀ (f : Nat) (todo seen : List Nat), WInv next inn b todo (fun y => seen.contains y) none → seen.Nodup → (∀ y ∈ seen, y < 200) → todo.length + 200 ≤ f + seen.length →
  ∀ y, (dfs next inn f todo seen).contains y = true ↔ Reach next inn b y := by
 intro f
 induction f with
 | zero =>
   intro todo seen h hn hl hf;have := nodup_len 200 seen hn hl;cases todo with
   | nil => exact fun y => h.done y
   | cons x todo => simp at hf; omega
 | succ f ih =>
   intro todo seen h hn hl hf;cases todo with
   | nil => exact fun y => h.done y
   | cons x todo =>
     obtain ⟨t', s', e1, e2, e3, e4, e5⟩ := fold_inv (next := next) (inn := inn) (b := b) (x := x) hc _ 0 todo seen rfl (h.take x todo (fun z => by simp)) hn hl;rw [List.drop_zero] at e1;simp only [dfs, e1];exact ih t' s' e2 e3 e4 (by simp at hf; omega)
theorem walkF_iff {next : Nat → List Nat} {inn : Nat → Bool} (hc : Canon inn) (b y : Nat) : walkF next inn b y = true ↔ inn b = true ∧ Reach next inn b y := by
 unfold walkF walkL
 by_cases hb : inn b = true
 · rw [if_pos hb];rw [dfs_inv hc 202 [b] [] (by simpa using WInv.start next inn b) (by simp) (by simp) (by simp)];simp [hb]
 · rw [if_neg hb];simp [hb]
theorem walkF_canon {next : Nat → List Nat} {inn : Nat → Bool} (hc : Canon inn) (b : Nat) : Canon (walkF next inn b) := fun y h => hc y ((walkF_iff hc b y).1 h).2.inn
theorem walkF_of {next : Nat → List Nat} {inn : Nat → Bool} (hc : Canon inn) {b : Nat} (hb : inn b = true) {s : Nat → Bool} (h : WInv next inn b [] s none) : s = walkF next inn b := by
 funext y
 rw [Bool.eq_iff_iff, h.done y, walkF_iff hc]
 simp [hb]
theorem walkF_no {next : Nat → List Nat} {inn : Nat → Bool} {b : Nat} (hb : inn b = false) : walkF next inn b = fun _ => false := by
 funext y
 simp [walkF, walkL, hb]
def wholeS (n : Nat) : Nat → Bool := fun k => decide (k < n)
def lessS (s : Nat → Bool) (b : Nat) : Nat → Bool := fun k => k != b && s k
def ofS (l : List Int) : Nat → Bool := fun j => decide (j < 200) && l.contains (j : Int)
def listS (s : Nat → Bool) : List Nat := (List.range 200).filter s
def intsN (l : List Nat) : List Int := l.map fun (k : Nat) => (k : Int)
theorem whole_canon {n : Nat} (h : n ≤ 200) : Canon (wholeS n) := fun y hy => by simp [wholeS] at hy; omega
theorem less_canon {s : Nat → Bool} (h : Canon s) (b : Nat) : Canon (lessS s b) := fun y hy => by simp [lessS] at hy; exact h y hy.2
theorem of_canon (l : List Int) : Canon (ofS l) := fun y hy => by simp [ofS] at hy; exact hy.1
theorem mem_listS {s : Nat → Bool} (h : Canon s) (y : Nat) : y ∈ listS s ↔ s y = true := by
 simp [listS]
 exact fun h1 => h y h1
def fitsB (ts : List TermD) : Bool := goodB ts && (List.range ts.length).all fun k => k == 0 || walkF (nx ts) (wholeS ts.length) 0 k
def knotS (ts : List TermD) (b : Nat) (inn : Nat → Bool) : Nat → Bool := fun k => walkF (nx ts) inn b k && walkF (pv ts) inn b k
def entriesS (ts : List TermD) (s : Nat → Bool) : List Nat := (listS s).filter fun b => decide (b < ts.length) && (pv ts b).any fun x => !s x
theorem knot_canon {ts : List TermD} {inn : Nat → Bool} (h : Canon inn) (b : Nat) : Canon (knotS ts b inn) := fun y hy => by
 simp only [knotS, Bool.and_eq_true] at hy
 exact walkF_canon h b y hy.1
theorem back_iff {ts : List TermD} {inn : Nat → Bool} {b y : Nat} (hb : inn b = true) (hy : inn y = true) : Reach (pv ts) inn b y ↔ Reach (nx ts) inn y b :=
 ⟨fun h => h.rev (fun x y h => (mem_pv ts x y).1 h) hb, fun h => h.rev (fun x y h => (mem_pv ts y x).2 h) hy⟩
theorem knot_iff {ts : List TermD} {inn : Nat → Bool} (hc : Canon inn) (b y : Nat) : knotS ts b inn y = true ↔ inn b = true ∧ Reach (nx ts) inn b y ∧ Reach (nx ts) inn y b := by
 simp only [knotS, Bool.and_eq_true, walkF_iff hc]
 constructor
 · rintro ⟨⟨h1, h2⟩, _, h3⟩;exact ⟨h1, h2, (back_iff h1 h2.inn).1 h3⟩
 · rintro ⟨h1, h2, h3⟩;exact ⟨⟨h1, h2⟩, h1, (back_iff h1 h2.inn).2 h3⟩
end

section
def insD (x : Int) : List Int → List Int
 | [] => [x]
 | y :: l => if x < y then x :: y :: l else if x = y then y :: l else y :: insD x l
def sortD : List Int → List Int
 | [] => []
 | x :: l => insD x (sortD l)
theorem mem_insD (x z : Int) (l : List Int) : z ∈ insD x l ↔ z = x ∨ z ∈ l := by
 induction l with
 | nil => simp [insD]
 | cons y l ih =>
   simp only [insD]
   split
   · simp
   · split
     · rename_i _ e; subst e; simp
     · simp only [List.mem_cons, ih];constructor
       · rintro (h | h | h) <;> simp [h]
       · rintro (h | h | h) <;> simp [h]
theorem mem_sortD (z : Int) (l : List Int) : z ∈ sortD l ↔ z ∈ l := by
 induction l with
 | nil => simp [sortD]
 | cons x l ih => rw [sortD, mem_insD, ih, List.mem_cons]
theorem sorted_insD (x : Int) (l : List Int) (h : l.Pairwise (· < ·)) : (insD x l).Pairwise (· < ·) := by
 induction l with
 | nil => simp [insD]
 | cons y l ih =>
   rw [List.pairwise_cons] at h;simp only [insD]
   split
   · rename_i hx
     rw [List.pairwise_cons];refine ⟨fun z hz => ?_, List.pairwise_cons.2 h⟩;rcases List.mem_cons.1 hz with rfl | hz
     · exact hx
     · have := h.1 z hz; omega
   · split
     · exact List.pairwise_cons.2 h
     · rw [List.pairwise_cons];refine ⟨fun z hz => ?_, ih h.2⟩;rcases (mem_insD x z l).1 hz with rfl | hz
       · omega
       · exact h.1 z hz
theorem sorted_sortD (l : List Int) : (sortD l).Pairwise (· < ·) := by
 induction l with
 | nil => simp [sortD]
 | cons x l ih => exact sorted_insD x _ ih
theorem sorted_eq : ∀ (l l' : List Int), l.Pairwise (· < ·) → l'.Pairwise (· < ·) → (∀ x, x ∈ l ↔ x ∈ l') → l = l' := by
 intro l
 induction l with
 | nil =>
   intro l' _ _ h;cases l' with
   | nil => rfl
   | cons y l' => have := (h y).2 (by simp); cases this
 | cons x l ih =>
   intro l' h1 h2 h;cases l' with
   | nil => have := (h x).1 (by simp); cases this
   | cons y l' =>
     rw [List.pairwise_cons] at h1 h2;have e : x = y := by
      rcases List.mem_cons.1 ((h x).1 (by simp)) with e | hx
      · exact e
      · rcases List.mem_cons.1 ((h y).2 (by simp)) with e | hy
        · exact e.symm
        · have := h2.1 x hx;have := h1.1 y hy;omega
     subst e;rw [ih l' h1.2 h2.2 (fun z => ?_)];have hz := h z;simp only [List.mem_cons] at hz;constructor
     · intro hm;rcases hz.1 (.inr hm) with e | h3
       · subst e; have := h1.1 z hm; omega
       · exact h3
     · intro hm;rcases hz.2 (.inr hm) with e | h3
       · subst e; have := h2.1 z hm; omega
       · exact h3
structure TileD where
 kind : Int
 parent : Int
 blocks : List Int
abbrev zTile : TileD := ⟨0, 0, []⟩
abbrev parL (l : List TileD) (n : Nat) : Int := (l.getD n zTile).parent
abbrev blkL (l : List TileD) (n : Nat) : List Int := (l.getD n zTile).blocks
def parentsB (l : List TileD) : Bool := (List.range l.length).all fun k => decide (-1 ≤ parL l k ∧ parL l k < k)
theorem parentsB_iff (l : List TileD) : parentsB l = true ↔ ∀ k, k < l.length → -1 ≤ parL l k ∧ parL l k < k := by simp [parentsB]
def descF (l : List TileD) (k : Nat) : Nat → Nat → Bool
 | 0, n => n == k
 | f + 1, n => n == k || (decide (0 ≤ parL l n) && descF l k f (parL l n).toNat)
def descB (l : List TileD) (k n : Nat) : Bool := descF l k n n
theorem descF_eq {l : List TileD} (hp : parentsB l = true) (k : Nat) : ∀ (n f : Nat), n < l.length → n ≤ f → descF l k f n = descF l k n n := by
 rw [parentsB_iff] at hp
 intro n
 induction n using Nat.strongRecOn with
 | _ n ih =>
   intro f hn hf;have h1 := hp n hn;cases f with
   | zero => obtain rfl : n = 0 := by omega
             rfl
   | succ f =>
     cases n with
     | zero =>
       have h2 : ¬ 0 ≤ parL l 0 := by omega
       simp [descF, h2]
     | succ n =>
       simp only [descF];by_cases h2 : 0 ≤ parL l (n + 1)
       · rw [ih (parL l (n + 1)).toNat (by omega) f (by omega) (by omega), ih (parL l (n + 1)).toNat (by omega) n (by omega) (by omega)]
       · simp [h2]
theorem descB_eq {l : List TileD} (hp : parentsB l = true) (k n : Nat) (hn : n < l.length) : descB l k n = (n == k || (decide (0 ≤ parL l n) && descB l k (parL l n).toNat)) := by
 have h1 := (parentsB_iff l).1 hp n hn
 unfold descB
 cases n with
 | zero =>
   have h2 : ¬ 0 ≤ parL l 0 := by omega
   simp [descF, h2]
 | succ n =>
   simp only [descF];by_cases h2 : 0 ≤ parL l (n + 1)
   · rw [descF_eq hp k (parL l (n + 1)).toNat n (by omega) (by omega)]
   · simp [h2]
theorem descB_self (l : List TileD) (k : Nat) : descB l k k = true := by unfold descB; cases k <;> simp [descF]
theorem descB_ge {l : List TileD} (hp : parentsB l = true) (k : Nat) : ∀ n, n < l.length → descB l k n = true → k ≤ n := by
 intro n
 induction n using Nat.strongRecOn with
 | _ n ih =>
   intro hn h;have h1 := (parentsB_iff l).1 hp n hn;rw [descB_eq hp k n hn, Bool.or_eq_true] at h;rcases h with h | h
   · have : n = k := by simpa using h
     omega
   · simp only [Bool.and_eq_true, decide_eq_true_eq] at h;have := ih _ (by omega) (by omega) h.2;omega
theorem descB_chain {l : List TileD} (hp : parentsB l = true) (a b : Nat) (hab : a ≤ b) : ∀ n, n < l.length → descB l a n = true → descB l b n = true → descB l a b = true := by
 intro n
 induction n using Nat.strongRecOn with
 | _ n ih =>
   intro hn ha hb;have h1 := (parentsB_iff l).1 hp n hn;have hb0 := hb;rw [descB_eq hp b n hn, Bool.or_eq_true] at hb;rcases hb with hb | hb
   · have : n = b := by simpa using hb
     subst this; exact ha
   · simp only [Bool.and_eq_true, decide_eq_true_eq] at hb;rw [descB_eq hp a n hn, Bool.or_eq_true] at ha;rcases ha with ha | ha
     · have e : n = a := by simpa using ha
       have := descB_ge hp b n hn hb0;obtain rfl : a = b := by omega
       exact descB_self l a
     · simp only [Bool.and_eq_true, decide_eq_true_eq] at ha;exact ih _ (by omega) (by omega) ha.2 hb.2
theorem descB_trans {l : List TileD} (hp : parentsB l = true) (a b : Nat) (hab : descB l a b = true) : ∀ n, n < l.length → descB l b n = true → descB l a n = true := by
 intro n
 induction n using Nat.strongRecOn with
 | _ n ih =>
   intro hn hb;have h1 := (parentsB_iff l).1 hp n hn;rw [descB_eq hp b n hn, Bool.or_eq_true] at hb;rcases hb with hb | hb
   · have : n = b := by simpa using hb
     subst this; exact hab
   · simp only [Bool.and_eq_true, decide_eq_true_eq] at hb;rw [descB_eq hp a n hn, ih _ (by omega) (by omega) hb.2];simp [hb.1]
def rawL (l : List TileD) (k m : Nat) : List Int := blkL l k ++ ((List.range m).filter fun n => n != k && descB l k n).flatMap (blkL l)
def allL (l : List TileD) (k : Int) : List Int := if 0 ≤ k ∧ k < l.length ∧ parentsB l = true then sortD (rawL l k.toNat l.length) else []
theorem mem_rawL (l : List TileD) (k : Nat) (hk : k < l.length) (x : Int) : x ∈ rawL l k l.length ↔ ∃ n, n < l.length ∧ descB l k n = true ∧ x ∈ blkL l n := by
 simp only [rawL, List.mem_append, List.mem_flatMap, List.mem_filter, List.mem_range, Bool.and_eq_true, bne_iff_ne, ne_eq]
 constructor
 · rintro (h | ⟨n, ⟨h1, _, h2⟩, h3⟩)
   · exact ⟨k, hk, descB_self l k, h⟩
   · exact ⟨n, h1, h2, h3⟩
 · rintro ⟨n, h1, h2, h3⟩;by_cases e : n = k
   · subst e; exact .inl h3
   · exact .inr ⟨n, ⟨h1, e, h2⟩, h3⟩
theorem mem_allL (l : List TileD) (k : Nat) (hk : k < l.length) (hp : parentsB l = true) (x : Int) : x ∈ allL l k ↔ ∃ n, n < l.length ∧ descB l k n = true ∧ x ∈ blkL l n := by
 rw [allL, if_pos ⟨by omega, by omega, hp⟩, mem_sortD]
 exact mem_rawL l k hk x
def homes (l : List TileD) (b : Nat) : List Nat := (List.range l.length).flatMap fun k => ((blkL l k).filter fun x => x == (b : Int)).map fun _ => k
def ownB (l : List TileD) (n : Nat) : Bool := (List.range n).all fun b => (homes l b).length == 1
def ownF (l : List TileD) (b : Nat) : Nat := (homes l b).headD 0
def ownL (l : List TileD) (n : Nat) : List Int := (List.range n).map fun (b : Nat) => (ownF l b : Int)
def eqS (f g : Nat → Bool) : Bool := (List.range 200).all fun k => f k == g k
theorem eqS_iff {f g : Nat → Bool} (hf : Canon f) (hg : Canon g) : eqS f g = true ↔ f = g := by
 simp only [eqS, List.all_eq_true, List.mem_range, beq_iff_eq]
 constructor
 · intro h
   funext k
   by_cases hk : k < 200
   · exact h k hk
   · have h1 : f k = false := by
      cases e : f k with
      | false => rfl
      | true => exact absurd (hf k e) hk
     have h2 : g k = false := by
      cases e : g k with
      | false => rfl
      | true => exact absurd (hg k e) hk
     rw [h1, h2]
 · rintro rfl k _; rfl
def ringsB (ts : List TermD) (bs : List Int) (inn : Nat → Bool) : Bool := bs.any fun b => knotS ts b.toNat inn b.toNat
def togetherB (ts : List TermD) (s : Nat → Bool) : Bool := match listS s with
 | [] => true
 | b :: _ => eqS (knotS ts b s) s
def oneB (t : TileD) (e : List Nat) : Bool := e.length == 1 && t.blocks.contains ((e.headD 0 : Nat) : Int)
def holdsB (ts : List TermD) (t : TileD) (s : Nat → Bool) : Bool :=
 if t.kind = 3 then decide (1 < (entriesS ts s).length) && togetherB ts s
 else if t.kind = 2 then oneB t (entriesS ts s) && togetherB ts s && !ringsB ts t.blocks (lessS s ((entriesS ts s).headD 0))
 else if t.kind = 4 then oneB t (entriesS ts s) && !ringsB ts t.blocks s
 else if t.kind = 1 then !ringsB ts t.blocks s else false
def risingB (n : Nat) (bs : List Int) : Bool := (List.range bs.length).all fun i => decide (0 ≤ bs.getD i 0 ∧ bs.getD i 0 < n) && (i == 0 || decide (bs.getD (i - 1) 0 < bs.getD i 0))
def standsB (n : Nat) (l : List TileD) (k : Nat) : Bool :=
 let t := l.getD k zTile
 !(((k == 0) != (t.kind == 1)) || ((k == 0) != (t.parent == -1)) || (t.blocks.length == 0) || (decide (0 < k) && ((l.getD t.parent.toNat zTile).kind == 3))) && risingB n t.blocks
def setK (l : List TileD) (k : Nat) : Nat → Bool := ofS (allL l k)
def rightB (ts : List TermD) (l : List TileD) : Bool :=
 fitsB ts && decide (l.length ≤ 200) && parentsB l && ownB l ts.length && (ownF l 0 == 0) &&
  (List.range l.length).all fun k => standsB ts.length l k && holdsB ts (l.getD k zTile) (setK l k)
theorem together_iff {ts : List TermD} {s : Nat → Bool} (hs : Canon s) : togetherB ts s = true ↔ ∀ b y, s b = true → s y = true → Reach (nx ts) s b y := by
 unfold togetherB
 cases h : listS s with
 | nil =>
   simp only [true_iff];intro b y hb;have := (mem_listS hs b).2 hb;rw [h] at this; cases this
 | cons b l =>
   have hb : s b = true := (mem_listS hs b).1 (by rw [h]; simp);simp only;rw [eqS_iff (knot_canon hs b) hs];constructor
   · intro e x y hx hy;have h1 : knotS ts b s x = true := by rw [e]; exact hx
     have h2 : knotS ts b s y = true := by rw [e]; exact hy
     exact ((knot_iff hs b x).1 h1).2.2.trans ((knot_iff hs b y).1 h2).2.1
   · intro h2
     funext y
     rw [Bool.eq_iff_iff, knot_iff hs];constructor
     · exact fun h3 => h3.2.1.inn
     · exact fun hy => ⟨hb, h2 b y hb hy, h2 y b hy hb⟩
theorem together_all {ts : List TermD} {s : Nat → Bool} (hs : Canon s) : togetherB ts s = (listS s).all fun b => eqS (walkF (nx ts) s b) s := by
 rw [Bool.eq_iff_iff, together_iff hs, List.all_eq_true]
 constructor
 · intro h b hb;have hb := (mem_listS hs b).1 hb;rw [eqS_iff (walkF_canon hs b) hs]
   funext y
   rw [Bool.eq_iff_iff, walkF_iff hs];exact ⟨fun h3 => h3.2.inn, fun hy => ⟨hb, h b y hb hy⟩⟩
 · intro h b y hb hy;have := h b ((mem_listS hs b).2 hb);rw [eqS_iff (walkF_canon hs b) hs] at this;have h2 : walkF (nx ts) s b y = true := by rw [this]; exact hy
   exact ((walkF_iff hs b y).1 h2).2
theorem ring_iff {ts : List TermD} {s : Nat → Bool} (hs : Canon s) (b : Nat) : knotS ts b s b = walkF (nx ts) s b b := by
 rw [Bool.eq_iff_iff, knot_iff hs, walkF_iff hs]
 exact ⟨fun h => ⟨h.1, h.2.1⟩, fun h => ⟨h.1, h.2, h.2⟩⟩
end

section
structure EdgeD where
 fr : Int
 arm : Int
 to : Int
deriving DecidableEq
def armsF (b : Nat) : Nat → List Int → List EdgeD
 | _, [] => []
 | i, x :: l => ⟨b, i, x⟩ :: armsF b (i + 1) l
def edgesAt (ts : List TermD) (b : Nat) : List EdgeD := armsF b 0 (toD (ts.getD b zTerm))
def edgesFrom (ts : List TermD) (b : Nat) : List EdgeD := (List.range' b (ts.length - b)).flatMap (edgesAt ts)
def edgesL (ts : List TermD) : List EdgeD := edgesFrom ts 0
theorem edgesFrom_step (ts : List TermD) (b : Nat) (h : b < ts.length) : edgesFrom ts b = edgesAt ts b ++ edgesFrom ts (b + 1) := by
 rw [edgesFrom, show ts.length - b = (ts.length - (b + 1)) + 1 by omega, List.range'_succ, List.flatMap_cons]
 rfl
theorem edgesFrom_end (ts : List TermD) (b : Nat) (h : ts.length ≤ b) : edgesFrom ts b = [] := by
 rw [edgesFrom, show ts.length - b = 0 by omega]; rfl
theorem armsF_len (b : Nat) : ∀ (l : List Int) (i : Nat), (armsF b i l).length = l.length
 | [], i => rfl
 | x :: l, i => by simp [armsF, armsF_len b l (i + 1)]
theorem edgesAt_len (ts : List TermD) (b : Nat) : (edgesAt ts b).length ≤ 2 := by rw [edgesAt, armsF_len]; exact toD_len _
theorem edgesL_len (ts : List TermD) : (edgesL ts).length ≤ 2 * ts.length := by
 have key : ∀ n b, ((List.range' b n).flatMap (edgesAt ts)).length ≤ 2 * n := by
  intro n
  induction n with
  | zero => intro b; simp
  | succ n ih =>
    intro b;rw [List.range'_succ, List.flatMap_cons, List.length_append];have := ih (b + 1);have := edgesAt_len ts b;omega
 exact key _ _
end

section
open Go.RowKit
def idxF {α : Type} (p : α → Bool) : List α → Int
 | [] => -1
 | y :: l => if p y then 0 else if idxF p l < 0 then -1 else idxF p l + 1
theorem idxF_ge {α : Type} (p : α → Bool) (l : List α) : -1 ≤ idxF p l ∧ idxF p l < l.length := by
 induction l with
 | nil => simp [idxF]
 | cons y l ih =>
   simp only [idxF, List.length_cons]
   split
   · omega
   · split <;> omega
theorem idxF_found {α : Type} (p : α → Bool) (l : List α) (k : Nat) (x : α) (hx : l[k]? = some x) (hp : p x = true) (hno : ∀ j y, j < k → l[j]? = some y → p y = false) : idxF p l = k := by
 induction l generalizing k with
 | nil => simp at hx
 | cons y l ih =>
   cases k with
   | zero => simp at hx; subst hx; simp [idxF, hp]
   | succ k =>
     have h0 := hno 0 y (by omega) rfl;have := ih k (by simpa using hx) (fun j z hj hz => hno (j + 1) z (by omega) (by simpa using hz));simp only [idxF, h0, this];simp;omega
theorem idxF_none {α : Type} (p : α → Bool) (l : List α) (hno : ∀ y ∈ l, p y = false) : idxF p l = -1 := by
 induction l with
 | nil => rfl
 | cons y l ih => simp [idxF, hno y (by simp), ih (fun z hz => hno z (by simp [hz]))]
theorem idxF_iff {α : Type} (p : α → Bool) (l : List α) : 0 ≤ idxF p l ↔ l.any p = true := by
 induction l with
 | nil => simp [idxF]
 | cons y l ih =>
   have hg := idxF_ge p l;have e : idxF p (y :: l) = (if p y then 0 else if idxF p l < 0 then -1 else idxF p l + 1) := rfl;rw [e, List.any_cons, Bool.or_eq_true, ← ih];by_cases hp : p y = true
   · simp [hp]
   · rw [if_neg hp]
     split
     · constructor
       · intro h; omega
       · rintro (h | h)
         · exact absurd h hp
         · omega
     · constructor
       · intro h; exact .inr (by omega)
       · intro h; omega
theorem idxF_any {α : Type} (p : α → Bool) (l : List α) : decide (0 ≤ idxF p l) = l.any p := by
 rw [Bool.eq_iff_iff, decide_eq_true_eq]
 exact idxF_iff p l
theorem ext_alloc (w : World) (o : Obj) : Below w.heap.size w (w.alloc o) := (Below.refl _ w).alloc (Nat.le_refl _) o
theorem indexFunc_any (F : Nat) (caps : Array Value) (eF : ∀ args w, (callFunc F args).run Tryz.prog w = .ok (.enter F args) w) (p : Int → Bool) (a : Option Addr) (n c : Nat) (xs : List Int) (w : World)
  (hp : ∀ (x : Int) (W : World), x ∈ xs → Below w.heap.size w W → Calls Tryz.prog F (#[.int .i64 x] ++ caps) W fun e W' => e = .returned (.bool (p x)) ∧ Below W.heap.size W W') (h : Ints w a n xs) :
  Calls Tryz.prog 208 #[.slice a n c, .func (.func F) #[] caps] w fun e w' => e = .returned (.int .i64 (idxF p xs)) ∧ Below w.heap.size w w' := by
 have HL := Lib.hid h.1
 have hn := h.2.1
 have H := Lib.hid h
 have HP := Lib.hid hp
 clear h hp
 go_enter Tryz.func208, Tryz.ntmps208
 go_wp2
 go_loopw [5, 8] (fun _ i wr => ∃ (k : Nat), k ≤ n ∧ i = .int .i64 k ∧ Hid (∀ j y, j < k → xs[j]? = some y → p y = false) ∧ Hid (Below w.heap.size w wr)) (fun _ i _ => n - (intOf i).toNat)
 case atStart => exact ⟨0, by omega, rfl, fun j y hj => absurd hj (by omega), Below.refl _ _⟩
 case round =>
  obtain ⟨k, hk, rfl, HR, HB⟩ := hrel;by_cases hlt : k < n
  · obtain ⟨b, o, rfl, hcell, hw1, hw2⟩ := (H.out.ext HB.out).2.2 k hlt;have hgk : xs[k]? = some (xs.getD k 0) := by
     have hk' : k < xs.length := by rw [HL.out]; exact hlt
     simp [List.getD_eq_getElem?_getD, hk']
    have HG := Lib.hid hgk;have HM := Lib.hid (List.mem_of_getElem? hgk);clear hgk;generalize xs.getD k 0 = r at *;by_cases hy : p r = true
    · have HE : Hid (idxF p xs = k) := idxF_found p xs k r HG.out hy HR.out;go_wp2;refine (HP.out r wr HM.out HB.out).mono ?_;rintro e w' ⟨rfl, hb'⟩;have HB' := Lib.hid (ext_trans HB.out hb');clear hb';rw [hy];go_wp2
      go_ret
      exact ⟨by rw [HE.out]; rfl, HB'.out⟩
    · have hy' : p r = false := by simpa using hy
      have HE : Hid (∀ j z, j < k + 1 → xs[j]? = some z → p z = false) := fun j z hj hz => by
       by_cases e : j = k
       · subst e;rw [HG.out] at hz;injection hz with hz;subst hz;exact hy'
       · exact HR.out j z (by omega) hz
      go_wp2;refine (HP.out r wr HM.out HB.out).mono ?_;rintro e w' ⟨rfl, hb'⟩;have HB' := Lib.hid (ext_trans HB.out hb');clear hb';rw [hy'];go_wp2
      go_roundw
      case rel => exact ⟨k + 1, by omega, by go_num, HE, HB'⟩
      case measure => simp [intOf]; omega
  · obtain rfl : k = n := by omega
    have HE : Hid (idxF p xs = -1) := idxF_none p xs (fun z hz => by
     obtain ⟨j, hj, e⟩ := List.mem_iff_getElem.1 hz
     exact HR.out j z (by rw [HL.out] at hj; exact hj) (by rw [List.getElem?_eq_getElem hj, e]))
    go_wp2
    go_ret
    exact ⟨by rw [HE.out]; rfl, HB.out⟩
theorem containsFunc_any (F : Nat) (caps : Array Value) (eF : ∀ args w, (callFunc F args).run Tryz.prog w = .ok (.enter F args) w) (p : Int → Bool) (a : Option Addr) (n c : Nat) (xs : List Int) (w : World)
  (hp : ∀ (x : Int) (W : World), x ∈ xs → Below w.heap.size w W → Calls Tryz.prog F (#[.int .i64 x] ++ caps) W fun e W' => e = .returned (.bool (p x)) ∧ Below W.heap.size W W') (h : Ints w a n xs) :
  Calls Tryz.prog 168 #[.slice a n c, .func (.func F) #[] caps] w fun e w' => e = .returned (.bool (xs.any p)) ∧ Below w.heap.size w w' := by
 have HA := Lib.hid (idxF_any p xs)
 have hg := idxF_ge p xs
 have HP := Lib.hid hp
 have H := Lib.hid h
 clear hp h
 go_enter Tryz.func168, Tryz.ntmps168
 go_wp2_with (go_at_call 208; refine (indexFunc_any F caps eF p a n c xs w HP.out H.out).mono ?_; rintro e w' ⟨rfl, hb'⟩; have HB' := Lib.hid hb'; clear hb')
 go_ret
 exact ⟨by rw [← HA.out]; rfl, HB'.out⟩
end

section
def allE (ts : List TermD) : List EdgeD := if fitsB ts then edgesL ts else []
def outE (ts : List TermD) (e : EdgeD) : Nat := if e ∈ allE ts then (allE ts).countP (fun x => x.fr == e.fr) else 0
def inE (ts : List TermD) (e : EdgeD) : Nat := if e ∈ allE ts then (allE ts).countP (fun x => x.to == e.to) else 0
def critB (ts : List TermD) (e : EdgeD) : Bool := decide (1 < min (outE ts e) (inE ts e))
def spotD (ts : List TermD) (e : EdgeD) : Int × Bool × Int :=
 if outE ts e = 0 then (0, false, 2) else if outE ts e = 1 then (e.fr, true, 0) else if inE ts e = 1 then (e.to, false, 0) else (0, false, 5)
theorem armsF_mem (b : Nat) : ∀ (l : List Int) (i : Nat) (x : EdgeD), x ∈ armsF b i l ↔ ∃ j, j < l.length ∧ x = ⟨b, ((i + j : Nat) : Int), l.getD j 0⟩
 | [], i, x => by simp [armsF]
 | y :: l, i, x => by
   rw [armsF, List.mem_cons, armsF_mem b l (i + 1)];constructor
   · rintro (rfl | ⟨j, hj, rfl⟩)
     · exact ⟨0, by simp, by simp⟩
     · exact ⟨j + 1, by simp; omega, by simp; omega⟩
   · rintro ⟨j, hj, rfl⟩;cases j with
     | zero => left; simp
     | succ j => right; exact ⟨j, by simp at hj; omega, by simp; omega⟩
theorem mem_edgesL (ts : List TermD) (x : EdgeD) : x ∈ edgesL ts ↔ ∃ b j, b < ts.length ∧ j < (toD (ts.getD b zTerm)).length ∧ x = ⟨(b : Nat), (j : Nat), (toD (ts.getD b zTerm)).getD j 0⟩ := by
 simp only [edgesL, edgesFrom, Nat.sub_zero, List.mem_flatMap, List.mem_range', Nat.one_mul, Nat.zero_add, edgesAt, armsF_mem]
 constructor
 · rintro ⟨b, ⟨q, hq, e⟩, j, hj, rfl⟩;have hb : b < ts.length := by omega
   exact ⟨b, j, hb, hj, rfl⟩
 · rintro ⟨b, j, hb, hj, rfl⟩; exact ⟨b, ⟨b, hb, rfl⟩, j, hj, rfl⟩
theorem allE_mem {ts : List TermD} {x : EdgeD} (h : x ∈ allE ts) : 0 ≤ x.fr ∧ x.fr < ts.length ∧ 1 ≤ x.to ∧ x.to < ts.length := by
 unfold allE at h
 split at h
 case isFalse => cases h
 case isTrue hf =>
  have hg : goodB ts = true := by simp only [fitsB, Bool.and_eq_true] at hf; exact hf.1
  obtain ⟨b, j, hb, hj, rfl⟩ := (mem_edgesL _ _).1 h;have hm : ts.getD b zTerm ∈ ts := by rw [List.getD_eq_getElem?_getD, List.getElem?_eq_getElem hb]; exact List.getElem_mem _
  have := (((goodB_iff ts).1 hg).2 _ hm).2 ((toD (ts.getD b zTerm)).getD j 0) (by rw [List.getD_eq_getElem?_getD (l := toD _), List.getElem?_eq_getElem hj]; exact List.getElem_mem _);refine ⟨by simp, by simp; omega, this.1, this.2⟩
end

section
open Go.RowKit
theorem sindex_any (a : Option Addr) (n cap : Nat) (xs : List Int) (x : Int) (w : World) (h : Ints w a n xs) :
  Calls Tryz.prog 195 #[.slice a n cap, .int .i64 x] w fun e w' => e = .returned (.int .i64 (idx xs x)) ∧ w = w' := by
 obtain ⟨hl, hn, hc⟩ := h
 have HL := Lib.hid hl
 have HC := Lib.hid hc
 clear hl hc
 go_enter Tryz.func195, Tryz.ntmps195
 go_wp2
 go_loop [5, 8] (fun _ i => ∃ (k : Nat), k ≤ n ∧ i = .int .i64 k ∧ Hid (∀ j, j < k → xs.getD j 0 ≠ x)) (fun _ i => n - (intOf i).toNat)
 case atStart => exact ⟨0, by omega, rfl, fun j hj => absurd hj (by omega)⟩
 case round =>
  obtain ⟨k, hk, rfl, HR⟩ := hrel;by_cases hlt : k < n
  · obtain ⟨b, o, rfl, hcell, hw1, hw2⟩ := HC.out k hlt;by_cases he : x = xs.getD k 0
    · have HE : Hid (idx xs x = k) := idx_found xs x k (by rw [HL.out]; exact hlt) he.symm HR.out;have hb : (x == xs.getD k 0) = true := by simpa using he
      generalize xs.getD k 0 = y at *;clear he;go_wp2
      go_ret
      exact ⟨by rw [HE.out]; rfl, rfl⟩
    · have HE : Hid (∀ j, j < k + 1 → xs.getD j 0 ≠ x) := fun j hj => by
       by_cases hjk : j = k
       · subst hjk; exact fun e => he e.symm
       · exact HR.out j (by omega)
      have hb : (x == xs.getD k 0) = false := by simpa using he
      generalize xs.getD k 0 = y at *;clear he;go_wp2
      go_round
      case rel => exact ⟨k + 1, by omega, by go_num, HE⟩
      case measure => simp [intOf]; omega
  · go_wp2
    go_ret
    have : k = n := by omega
    subst this;exact ⟨by rw [idx_none xs x (by rw [HL.out]; exact HR.out)]; rfl, rfl⟩
theorem scontains_any (a : Option Addr) (n cap : Nat) (xs : List Int) (x : Int) (w : World) (h : Ints w a n xs) :
  Calls Tryz.prog 159 #[.slice a n cap, .int .i64 x] w fun e w' => e = .returned (.bool (decide (0 ≤ idx xs x))) ∧ w = w' := by
 have hi := idx_ge xs x
 have H := Lib.hid h
 clear h
 go_enter Tryz.func159, Tryz.ntmps159
 go_wp2_with (go_at_call 195; refine (sindex_any a n cap xs x w H.out).mono ?_; rintro e w' ⟨rfl, rfl⟩)
 go_ret
 exact ⟨rfl, rfl⟩
end

section
def chainF (l : List TileD) : Nat → Int → List Int
 | 0, _ => []
 | f + 1, k => if 0 ≤ k then k :: chainF l f (parL l k.toNat) else []
def chainL (l : List TileD) (k : Int) : List Int := chainF l (k.toNat + 1) k
theorem chainF_eq {l : List TileD} (hp : parentsB l = true) : ∀ (f : Nat) (k : Int), k < l.length → k < f → chainF l f k = chainL l k := by
 rw [parentsB_iff] at hp
 intro f
 induction f using Nat.strongRecOn with
 | _ f ih =>
   intro k hk hf;by_cases h0 : 0 ≤ k
   · have h1 := hp k.toNat (by omega);cases f with
     | zero => omega
     | succ f =>
       rw [chainL, chainF, chainF, if_pos h0, if_pos h0];have e : ((k.toNat : Nat) : Int) = k := by omega
       rw [ih f (by omega) _ (by omega) (by omega)];by_cases e2 : k.toNat = f
       · rw [e2, ← ih f (by omega) (parL l f) (by rw [← e2]; omega) (by rw [← e2]; omega)]
       · rw [ih k.toNat (by omega) _ (by omega) (by omega)]
   · rw [chainL];cases f with
     | zero => rw [show k.toNat = 0 by omega]; simp [chainF, h0]
     | succ f => rw [show k.toNat = 0 by omega]; simp [chainF, h0]
theorem chainL_step {l : List TileD} (hp : parentsB l = true) {k : Int} (h0 : 0 ≤ k) (hk : k < l.length) : chainL l k = k :: chainL l (parL l k.toNat) := by
 have h1 := (parentsB_iff l).1 hp k.toNat (by omega)
 rw [chainL, chainF, if_pos h0, chainF_eq hp _ _ (by omega) (by omega)]
theorem chainL_end (l : List TileD) {k : Int} (h0 : k < 0) : chainL l k = [] := by
 rw [chainL, show k.toNat = 0 by omega, chainF, if_neg (by omega)]
theorem chainL_len {l : List TileD} (hp : parentsB l = true) : ∀ (n : Nat) (k : Int), k < n → k < l.length → (chainL l k).length ≤ n := by
 intro n
 induction n with
 | zero => intro k hk _; rw [chainL_end l (by omega)]; simp
 | succ n ih =>
   intro k hk hl;by_cases h0 : 0 ≤ k
   · have h1 := (parentsB_iff l).1 hp k.toNat (by omega);rw [chainL_step hp h0 hl];have := ih (parL l k.toNat) (by omega) (by omega);simp; omega
   · rw [chainL_end l (by omega)]; simp
theorem mem_chainL {l : List TileD} (hp : parentsB l = true) (m : Int) : ∀ (n : Nat), n < l.length → (m ∈ chainL l n ↔ 0 ≤ m ∧ descB l m.toNat n = true) := by
 intro n
 induction n using Nat.strongRecOn with
 | _ n ih =>
   intro hn;have h1 := (parentsB_iff l).1 hp n hn;rw [chainL_step hp (by omega) (by omega), List.mem_cons, descB_eq hp _ n hn];simp only [Int.toNat_natCast, Bool.or_eq_true, Bool.and_eq_true, decide_eq_true_eq, beq_iff_eq];by_cases h2 : 0 ≤ parL l n
   · have e : ((parL l n).toNat : Int) = parL l n := by omega
     have := ih (parL l n).toNat (by omega) (by omega);rw [e] at this;rw [this];constructor
     · rintro (rfl | ⟨h3, h4⟩)
       · exact ⟨by omega, .inl (by omega)⟩
       · exact ⟨h3, .inr ⟨h2, h4⟩⟩
     · rintro ⟨h3, (h4 | ⟨_, h4⟩)⟩
       · left; omega
       · exact .inr ⟨h3, h4⟩
   · rw [chainL_end l (by omega)];constructor
     · rintro (rfl | h3)
       · exact ⟨by omega, .inl (by omega)⟩
       · cases h3
     · rintro ⟨h3, (h4 | ⟨h4, _⟩)⟩
       · left; omega
       · exact absurd h4 h2
theorem chain_mem {l : List TileD} (hp : parentsB l = true) : ∀ (n : Nat) (k : Int), k < n → k < l.length → ∀ x ∈ chainL l k, 0 ≤ x ∧ x ≤ k := by
 intro n
 induction n with
 | zero => intro k hk _ x hx; rw [chainL_end l (by omega)] at hx; cases hx
 | succ n ih =>
   intro k hk hl x hx;by_cases h0 : 0 ≤ k
   · have h1 := (parentsB_iff l).1 hp k.toNat (by omega);rw [chainL_step hp h0 hl, List.mem_cons] at hx;rcases hx with rfl | hx
     · omega
     · have := ih _ (by omega) (by omega) x hx; omega
   · rw [chainL_end l (by omega)] at hx; cases hx
def inL (l : List TileD) (b : Int) : List Int := chainL l (ownF l b.toNat)
def besL (l : List TileD) (b o : Int) : List Int := (inL l b).filter fun k => !(inL l o).contains k
structure RowD where
 e : EdgeD
 lv : List Int
 en : List Int
def rowOf (l : List TileD) (x : EdgeD) : RowD := ⟨x, besL l x.fr x.to, (besL l x.to x.fr).reverse⟩
def betwB (l : List TileD) (asked : EdgeD → Bool) (x : EdgeD) : Bool := (ownF l x.fr.toNat != ownF l x.to.toNat) && asked x
def rowsL (ts : List TermD) (l : List TileD) (asked : EdgeD → Bool) : List RowD := ((edgesL ts).filter (betwB l asked)).map (rowOf l)
theorem inL_len {l : List TileD} (hp : parentsB l = true) (b : Int) (hb : ownF l b.toNat < l.length) : (inL l b).length ≤ l.length := chainL_len hp _ _ (by omega) (by omega)
theorem besL_len {l : List TileD} (hp : parentsB l = true) (b o : Int) (hb : ownF l b.toNat < l.length) : (besL l b o).length ≤ l.length := Nat.le_trans (List.length_filter_le _ _) (inL_len hp b hb)
theorem own_home {l : List TileD} {n : Nat} (h : ownB l n = true) {b : Nat} (hb : b < n) : homes l b = [ownF l b] := by
 simp only [ownB, List.all_eq_true, List.mem_range, beq_iff_eq] at h
 have := h b hb
 unfold ownF
 match e : homes l b, this with
 | [x], _ => rfl
theorem mem_homes (l : List TileD) (b k : Nat) : k ∈ homes l b ↔ k < l.length ∧ (b : Int) ∈ blkL l k := by
 simp only [homes, List.mem_flatMap, List.mem_range, List.mem_map, List.mem_filter, beq_iff_eq]
 constructor
 · rintro ⟨q, hq, x, ⟨hx, rfl⟩, rfl⟩; exact ⟨hq, hx⟩
 · rintro ⟨hk, hb⟩; exact ⟨k, hk, b, ⟨hb, rfl⟩, rfl⟩
theorem own_iff {l : List TileD} {n : Nat} (h : ownB l n = true) {b : Nat} (hb : b < n) (k : Nat) : (k < l.length ∧ (b : Int) ∈ blkL l k) ↔ ownF l b = k := by
 rw [← mem_homes, own_home h hb, List.mem_singleton]
 exact ⟨fun e => e.symm, fun e => e.symm⟩
theorem own_lt {l : List TileD} {n : Nat} (h : ownB l n = true) {b : Nat} (hb : b < n) : ownF l b < l.length := ((own_iff h hb _).2 rfl).1
theorem mem_all_own {l : List TileD} {n : Nat} (hp : parentsB l = true) (h : ownB l n = true) {b : Nat} (hb : b < n) {k : Nat} (hk : k < l.length) : (b : Int) ∈ allL l k ↔ descB l k (ownF l b) = true := by
 rw [mem_allL l k hk hp]
 constructor
 · rintro ⟨m, hm, hd, hx⟩; rw [(own_iff h hb m).1 ⟨hm, hx⟩]; exact hd
 · intro hd; exact ⟨ownF l b, own_lt h hb, hd, ((own_iff h hb _).2 rfl).2⟩
theorem mem_inL {l : List TileD} {n : Nat} (hp : parentsB l = true) (h : ownB l n = true) {b : Int} (h0 : 0 ≤ b) (hb : b < n) {k : Nat} (hk : k < l.length) : (k : Int) ∈ inL l b ↔ b ∈ allL l k := by
 rw [inL, mem_chainL hp _ _ (own_lt h (b := b.toNat) (by omega))]
 have := mem_all_own hp h (b := b.toNat) (by omega) hk
 rw [show ((b.toNat : Nat) : Int) = b by omega] at this
 rw [this]
 simp
end

section
def awTs : List TermD := [⟨1, 0, 1, 0⟩, ⟨2, 1, 1, 2⟩, ⟨3, 0, 0, 0⟩]
def awL : List TileD := [⟨1, -1, [0, 2]⟩, ⟨2, 0, [1]⟩]
theorem aw_right : rightB awTs awL = true := by decide +kernel
theorem aw_crit : critB awTs ⟨1, 0, 1⟩ = true := by decide +kernel
end

section
open Go.RowKit
theorem sameInts_any (a b : Option Addr) (n m c d : Nat) (xs ys : List Int) (w : World) (h : Ints w a n xs) (h' : Ints w b m ys) :
  Calls Tryz.prog 44 #[.slice a n c, .slice b m d] w fun e w' => e = .returned (.bool (decide (xs = ys))) ∧ ∃ q, w' = w.drewN q := by
 obtain ⟨hl, hn, hc⟩ := h
 obtain ⟨hl', hn', hc'⟩ := h'
 by_cases hnm : n = m
 · subst hnm;have HL := Lib.hid hl;have HC := Lib.hid hc;have HL' := Lib.hid hl';have HC' := Lib.hid hc';clear hl hc hl' hc';have hne : ((n : Int) != (n : Int)) = false := by simp
   go_enter Tryz.func44, Tryz.ntmps44
   go_wp2
   go_loopw [5] (fun i wr => ∃ (k q : Nat), k ≤ n ∧ i = .int .i64 k ∧ wr = w.drewN q ∧ Hid (∀ j, j < k → xs.getD j 0 = ys.getD j 0)) (fun i _ => n - (intOf i).toNat)
   case atStart => exact ⟨0, 0, by omega, rfl, rfl, fun j hj => absurd hj (by omega)⟩
   case round =>
    obtain ⟨k, q, hk, rfl, rfl, HR⟩ := hrel;by_cases hlt : k < n
    · obtain ⟨b1, o1, rfl, hcell1, hw1, hw2⟩ := HC.out k hlt;obtain ⟨b2, o2, rfl, hcell2, hw3, hw4⟩ := HC'.out k hlt;by_cases he : xs.getD k 0 = ys.getD k 0
      · have HE : Hid (∀ j, j < k + 1 → xs.getD j 0 = ys.getD j 0) := fun j hj => by
         by_cases hjk : j = k
         · subst hjk; exact he
         · exact HR.out j (by omega)
        rw [← he] at hcell2;generalize xs.getD k 0 = y at *;clear he;go_wp2
        go_quiet (fail)
        go_wp2
        go_roundw
        case rel => exact ⟨k + 1, _, by omega, by go_num, rfl, HE⟩
        case measure => simp [intOf]; omega
      · have HE : Hid (xs ≠ ys) := fun e => he (by rw [e]);have hb : (xs.getD k 0 != ys.getD k 0) = true := by simpa using he
        generalize xs.getD k 0 = y at *;generalize ys.getD k 0 = z at *;clear he;go_wp2
        go_quiet (fail)
        go_wp2
        go_ret
        exact ⟨ret_bool (by rw [decide_eq_false HE.out]), _, World.drewN_drewN _ _ _⟩
    · have HE : Hid (xs = ys) := List.ext_getElem (by rw [HL.out, HL'.out]) (fun j h1 h2 => by
       have := HR.out j (by rw [HL.out] at h1; omega)
       simpa [List.getD, h1, h2] using this)
      go_wp2
      go_ret
      exact ⟨ret_bool (by rw [decide_eq_true HE.out]), _, rfl⟩
 · have HE : Hid (xs ≠ ys) := fun e => hnm (by rw [← hl, ← hl', e]);have hne : ((n : Int) != (m : Int)) = true := by simp; omega
   clear hc hc' hl hl' hnm
   go_enter Tryz.func44, Tryz.ntmps44
   go_wp2
   go_ret
   exact ⟨ret_bool (by rw [decide_eq_false HE.out]), 0, rfl⟩
end

section
open Go.RowKit
def markV (k i : Int) : Int := 1000003 * (k + 7) + i
theorem mark_any (k i : Int) (w : World) (hk : 0 ≤ k ∧ k ≤ 1000000000) (hi : 0 ≤ i ∧ i ≤ 100000000000000) :
  Calls Tryz.prog 112 #[.int .i64 k, .int .i64 i] w fun e w' => e = .returned (.int .i64 (markV k i)) ∧ w = w' := by
 obtain ⟨_, _⟩ := hk
 obtain ⟨_, _⟩ := hi
 go_enter Tryz.func112, Tryz.ntmps112
 go_wp2
 go_ret
 exact ⟨rfl, rfl⟩
end

section
structure PartD where
 s : Nat → Bool
 kind : Int
 entry : Int
def diffS (a b : Nat → Bool) : Nat → Bool := fun k => if b k then false else a k
def withinB (a b : Nat → Bool) : Bool := (listS a).all b && !eqS a b
def stepP (ts : List TermD) (rec : (Nat → Bool) → List PartD) (inn : Nat → Bool) (st : (Nat → Bool) × List PartD) (k : Nat) : (Nat → Bool) × List PartD :=
 if st.1 k && knotS ts k inn k then
  if 1 < (entriesS ts (knotS ts k inn)).length then (diffS st.1 (knotS ts k inn), st.2 ++ [⟨knotS ts k inn, 3, -1⟩])
  else (diffS st.1 (knotS ts k inn), st.2 ++ ⟨knotS ts k inn, 2, (((entriesS ts (knotS ts k inn)).headD 0 : Nat) : Int)⟩ :: rec (lessS (knotS ts k inn) ((entriesS ts (knotS ts k inn)).headD 0)))
 else st
def loopsP (ts : List TermD) : Nat → (Nat → Bool) → List PartD
 | 0, _ => []
 | f + 1, inn => ((listS inn).foldl (stepP ts (loopsP ts f) inn) (inn, [])).2
def Tog (ts : List TermD) (inn : Nat → Bool) (a b : Nat) : Prop := Reach (nx ts) inn a b ∧ Reach (nx ts) inn b a
theorem Tog.symm {ts : List TermD} {inn : Nat → Bool} {a b : Nat} (h : Tog ts inn a b) : Tog ts inn b a := ⟨h.2, h.1⟩
theorem Tog.trans {ts : List TermD} {inn : Nat → Bool} {a b c : Nat} (h : Tog ts inn a b) (k : Tog ts inn b c) : Tog ts inn a c := ⟨h.1.trans k.1, k.2.trans h.2⟩
theorem Tog.self {ts : List TermD} {inn : Nat → Bool} {a b : Nat} (h : Tog ts inn a b) : Tog ts inn a a := h.trans h.symm
theorem knot_way {ts : List TermD} {inn : Nat → Bool} (hc : Canon inn) {k a b : Nat} (ha : knotS ts k inn a = true) (hb : knotS ts k inn b = true) : Reach (nx ts) (knotS ts k inn) a b := by
 obtain ⟨hk, h1, h2⟩ := (knot_iff hc k a).1 ha
 obtain ⟨_, h3, h4⟩ := (knot_iff hc k b).1 hb
 have key : ∀ y, Reach (nx ts) inn a y → Reach (nx ts) inn y k → Reach (nx ts) (knotS ts k inn) a y := by
  intro y hr
  induction hr with
  | one hy hi => exact fun h => .one hy ((knot_iff hc k _).2 ⟨hk, h1.trans (.one hy hi), h⟩)
  | @step x y hx hy hi ih => exact fun h => .step (ih ((Reach.one hy hi).trans h)) hy ((knot_iff hc k _).2 ⟨hk, h1.trans (.step hx hy hi), h⟩)
 exact key b (h2.trans h3) h4
theorem reach_step {next : Nat → List Nat} {inn : Nat → Bool} {a b : Nat} (h : Reach next inn a b) : ∃ x, (x = a ∨ Reach next inn a x) ∧ b ∈ next x := by
 cases h with
 | one hy _ => exact ⟨a, .inl rfl, hy⟩
 | step hx hy _ => exact ⟨_, .inr hx, hy⟩
theorem reach_enters {next : Nat → List Nat} {inn : Nat → Bool} {a b : Nat} (h : Reach next inn a b) (s : Nat → Bool) (ha : s a = false) (hb : s b = true) : ∃ x y, (x = a ∨ Reach next inn a x) ∧ s x = false ∧ y ∈ next x ∧ s y = true ∧ inn y = true := by
 induction h with
 | one hy hi => exact ⟨a, _, .inl rfl, ha, hy, hb, hi⟩
 | @step x y hx hy hi ih =>
   cases hs : s x with
   | true => exact ih hs
   | false => exact ⟨x, y, .inr hx, hs, hy, hb, hi⟩
structure LoopOK (ts : List TermD) (p : PartD) : Prop where
 some : ∃ y, p.s y = true
 low : ∀ y, p.s y = true → 1 ≤ y ∧ y < ts.length
 tog : ∀ a b, p.s a = true → p.s b = true → Reach (nx ts) p.s a b
 ent : (p.kind = 3 ∧ p.entry = -1 ∧ 1 < (entriesS ts p.s).length) ∨ (p.kind = 2 ∧ 0 ≤ p.entry ∧ entriesS ts p.s = [p.entry.toNat])
def LoopR (p q : PartD) : Prop := (∀ y, p.s y = true → q.s y = false) ∨ (p.kind = 2 ∧ ∀ y, q.s y = true → p.s y = true ∧ y ≠ p.entry.toNat)
def InnerP (ts : List TermD) (ps : List PartD) (p : PartD) : Prop :=
 p.kind = 2 → ∀ b, p.s b = true → Reach (nx ts) (lessS p.s p.entry.toNat) b b → ∃ q ∈ ps, q.s b = true ∧ ∀ y, q.s y = true → p.s y = true ∧ y ≠ p.entry.toNat
structure LoopsF (ts : List TermD) (inn : Nat → Bool) (ps : List PartD) : Prop where
 ring : ∀ b, inn b = true → Reach (nx ts) inn b b → ∃ p ∈ ps, p.s b = true
 out : ∀ p ∈ ps, ∀ y, p.s y = true → inn y = true ∧ Reach (nx ts) inn y y
 ok : ∀ p ∈ ps, LoopOK ts p
 pw : ps.Pairwise LoopR
 inner : ∀ p ∈ ps, InnerP ts ps p
structure LoopsJ (ts : List TermD) (inn : Nat → Bool) (d : List Nat) (left : Nat → Bool) (ps : List PartD) : Prop where
 sub : ∀ y, left y = true → inn y = true
 cls : ∀ y z, inn y = true → left y = false → Tog ts inn y z → left z = false
 seen : ∀ k ∈ d, Reach (nx ts) inn k k → left k = false
 cov : ∀ y, inn y = true → left y = false → ∃ p ∈ ps, p.s y = true
 out : ∀ p ∈ ps, ∀ y, p.s y = true → inn y = true ∧ left y = false ∧ Reach (nx ts) inn y y
 ok : ∀ p ∈ ps, LoopOK ts p
 pw : ps.Pairwise LoopR
 inner : ∀ p ∈ ps, InnerP ts ps p
theorem fits_facts {ts : List TermD} (hf : fitsB ts = true) : goodB ts = true ∧ (1 ≤ ts.length ∧ ts.length ≤ 200) ∧ ∀ y, 1 ≤ y → y < ts.length → Reach (nx ts) (wholeS ts.length) 0 y := by
 simp only [fitsB, Bool.and_eq_true, List.all_eq_true, List.mem_range, Bool.or_eq_true, beq_iff_eq] at hf
 have hl := ((goodB_iff ts).1 hf.1).1
 refine ⟨hf.1, hl, fun y h1 h2 => ?_⟩
 rcases hf.2 y h2 with h | h
 · omega
 · exact ((walkF_iff (whole_canon hl.2) 0 y).1 h).2
theorem mem_entries {ts : List TermD} {s : Nat → Bool} (hs : Canon s) (b : Nat) : b ∈ entriesS ts s ↔ s b = true ∧ b < ts.length ∧ ∃ x, b ∈ nx ts x ∧ s x = false := by
 simp only [entriesS, List.mem_filter, mem_listS hs, Bool.and_eq_true, decide_eq_true_eq, List.any_eq_true, Bool.not_eq_true']
 constructor
 · rintro ⟨h1, h2, x, h3, h4⟩; exact ⟨h1, h2, x, (mem_pv ts b x).1 h3, h4⟩
 · rintro ⟨h1, h2, x, h3, h4⟩; exact ⟨h1, h2, x, (mem_pv ts b x).2 h3, h4⟩
theorem entered {ts : List TermD} (hf : fitsB ts = true) {s : Nat → Bool} (hs : Canon s) {y : Nat} (hy : s y = true) (hlow : ∀ y, s y = true → 1 ≤ y ∧ y < ts.length) : entriesS ts s ≠ [] := by
 obtain ⟨hg, hl, hr⟩ := fits_facts hf
 have h0 : s 0 = false := by
  cases e : s 0 with
  | false => rfl
  | true => have := hlow 0 e; omega
 obtain ⟨x, z, _, h1, h2, h3, _⟩ := reach_enters (hr y (hlow y hy).1 (hlow y hy).2) s h0 hy
 intro e
 have : z ∈ entriesS ts s := (mem_entries hs z).2 ⟨h3, (hlow z h3).2, x, h2, h1⟩
 rw [e] at this
 cases this
theorem entries_one {l : List Nat} (h0 : l ≠ []) (h1 : ¬ 1 < l.length) : l = [l.headD 0] := by
 match l, h0, h1 with
 | [x], _, _ => rfl
 | x :: y :: l, _, h => simp at h
theorem less_len {s inn : Nat → Bool} {e : Nat} (hs : ∀ y, s y = true → inn y = true) (hc : Canon inn) (he : s e = true) : (listS (lessS s e)).length < (listS inn).length := by
 unfold listS
 have key : ∀ (l : List Nat), (l.filter (lessS s e)).length ≤ (l.filter inn).length ∧ (e ∈ l → (l.filter (lessS s e)).length < (l.filter inn).length) := by
  intro l
  induction l with
  | nil => simp
  | cons x l ih =>
    simp only [List.filter_cons];by_cases h1 : lessS s e x = true
    · have h2 : x ≠ e ∧ s x = true := by simpa [lessS] using h1
      have h3 := hs x h2.2;rw [if_pos h1, if_pos h3];refine ⟨by simp; exact ih.1, fun h => ?_⟩;rcases List.mem_cons.1 h with rfl | h
      · exact absurd rfl h2.1
      · simp; exact ih.2 h
    · rw [if_neg h1];by_cases h3 : inn x = true
      · rw [if_pos h3];exact ⟨by simp; omega, fun _ => by simp; omega⟩
      · rw [if_neg h3];refine ⟨ih.1, fun h => ?_⟩;rcases List.mem_cons.1 h with rfl | h
        · exact absurd (hs _ he) h3
        · exact ih.2 h
 exact (key (List.range 200)).2 (by simp; exact hc _ (hs _ he))
theorem mem_less {s : Nat → Bool} {e y : Nat} : lessS s e y = true ↔ y ≠ e ∧ s y = true := by simp [lessS]
section
variable {ts : List TermD} {inn : Nat → Bool} {d : List Nat} {left : Nat → Bool} {ps : List PartD} {k : Nat}
theorem LoopsJ.skip (h : LoopsJ ts inn d left ps) (hc : Canon inn) (hk : inn k = true) (hn : ¬ (left k && knotS ts k inn k) = true) : LoopsJ ts inn (d ++ [k]) left ps where
 sub := h.sub
 cls := h.cls
 seen := fun x hx hr => by
  rcases List.mem_append.1 hx with hx | hx
  · exact h.seen x hx hr
  · have hx : x = k := by simpa using hx
    subst hx;cases e : left x with
    | false => rfl
    | true =>
      have : knotS ts x inn x = true := (knot_iff hc x x).2 ⟨hk, hr, hr⟩;exact absurd (by rw [e, this]; rfl) hn
 cov := h.cov
 out := h.out
 ok := h.ok
 pw := h.pw
 inner := h.inner
theorem knot_ok (hf : fitsB ts = true) (hc : Canon inn) (hin : ∀ y, inn y = true → y < ts.length) (hk : knotS ts k inn k = true) (kind entry : Int)
  (hent : (kind = 3 ∧ entry = -1 ∧ 1 < (entriesS ts (knotS ts k inn)).length) ∨ (kind = 2 ∧ 0 ≤ entry ∧ entriesS ts (knotS ts k inn) = [entry.toNat])) : LoopOK ts ⟨knotS ts k inn, kind, entry⟩ where
 some := ⟨k, hk⟩
 low := fun y hy => by
  have h := ((knot_iff hc k y).1 hy).2.1;obtain ⟨x, _, hx⟩ := reach_step h;have := good_nx (fits_facts hf).1 hx;exact this
 tog := fun a b ha hb => knot_way hc ha hb
 ent := hent
theorem LoopsJ.found (h : LoopsJ ts inn d left ps) (hc : Canon inn) (hk : inn k = true) (hl : left k = true) (hkk : knotS ts k inn k = true) (p : PartD) (hp : p.s = knotS ts k inn) (hok : LoopOK ts p) (sub : List PartD)
  (hsub : (p.kind = 3 ∧ sub = []) ∨ (p.kind = 2 ∧ LoopsF ts (lessS p.s p.entry.toNat) sub)) : LoopsJ ts inn (d ++ [k]) (diffS left (knotS ts k inn)) (ps ++ p :: sub) := by
 have hd : ∀ y, diffS left (knotS ts k inn) y = true ↔ left y = true ∧ knotS ts k inn y = false := fun y => by
  simp only [diffS]
  split
  · simp_all
  · simp_all
 have hdf : ∀ y, diffS left (knotS ts k inn) y = false ↔ left y = false ∨ knotS ts k inn y = true := fun y => by
  simp only [diffS]
  split
  · simp_all
  · simp_all
 have hkn : ∀ y, knotS ts k inn y = true ↔ Tog ts inn k y := fun y => by rw [knot_iff hc]; exact ⟨fun h => h.2, fun h => ⟨hk, h⟩⟩
 have hin : ∀ q ∈ p :: sub, ∀ y, q.s y = true → knotS ts k inn y = true := by
  intro q hq y hy;rcases List.mem_cons.1 hq with rfl | hq
  · rw [← hp]; exact hy
  · rcases hsub with ⟨_, rfl⟩ | ⟨_, hF⟩
    · cases hq
    · have := (hF.out q hq y hy).1;rw [← hp];exact (mem_less.1 this).2
 have hleft : ∀ y, knotS ts k inn y = true → left y = true := fun y hy => by
  cases e : left y with
  | true => rfl
  | false =>
    have h1 := (hkn y).1 hy;have := h.cls y k h1.1.inn e h1.symm;rw [hl] at this;cases this
 refine ⟨fun y hy => h.sub y ((hd y).1 hy).1, ?_, ?_, ?_, ?_, ?_, ?_, ?_⟩
 · intro y z hy hly ht;rw [hdf] at hly ⊢;rcases hly with hly | hly
   · exact .inl (h.cls y z hy hly ht)
   · exact .inr ((hkn z).2 (((hkn y).1 hly).trans ht))
 · intro x hx hr;rw [hdf];rcases List.mem_append.1 hx with hx | hx
   · exact .inl (h.seen x hx hr)
   · have hx : x = k := by simpa using hx
     subst hx;exact .inr hkk
 · intro y hy hly;rcases (hdf y).1 hly with hly | hly
   · obtain ⟨q, hq, hqs⟩ := h.cov y hy hly;exact ⟨q, List.mem_append_left _ hq, hqs⟩
   · exact ⟨p, List.mem_append_right _ (List.mem_cons_self ..), by rw [hp]; exact hly⟩
 · intro q hq y hy;rcases List.mem_append.1 hq with hq | hq
   · obtain ⟨h1, h2, h3⟩ := h.out q hq y hy;exact ⟨h1, (hdf y).2 (.inl h2), h3⟩
   · have h1 := hin q hq y hy;have h2 := (hkn y).1 h1;exact ⟨h2.1.inn, (hdf y).2 (.inr h1), (h2.symm.self).1⟩
 · intro q hq;rcases List.mem_append.1 hq with hq | hq
   · exact h.ok q hq
   · rcases List.mem_cons.1 hq with rfl | hq
     · exact hok
     · rcases hsub with ⟨_, rfl⟩ | ⟨_, hF⟩
       · cases hq
       · exact hF.ok q hq
 · rw [List.pairwise_append];refine ⟨h.pw, ?_, fun a ha b hb => .inl fun y hy => ?_⟩
   · rw [List.pairwise_cons];rcases hsub with ⟨_, rfl⟩ | ⟨h2, hF⟩
     · exact ⟨fun q hq => absurd hq (by simp), List.Pairwise.nil⟩
     · refine ⟨fun q hq => .inr ⟨h2, fun y hy => ?_⟩, hF.pw⟩;have := mem_less.1 (hF.out q hq y hy).1;exact ⟨this.2, this.1⟩
   · cases e : b.s y with
     | false => rfl
     | true =>
       have h1 := hleft y (hin b hb y e);have h2 := (h.out a ha y hy).2.1;rw [h1] at h2;cases h2
 · intro q hq h2 b hb hr;rcases List.mem_append.1 hq with hq | hq
   · obtain ⟨q', h3, h4⟩ := h.inner q hq h2 b hb hr;exact ⟨q', List.mem_append_left _ h3, h4⟩
   · rcases hsub with ⟨h3, rfl⟩ | ⟨h3, hF⟩
     · have : q = p := by simpa using hq
       subst this;rw [h3] at h2;cases h2
     · rcases List.mem_cons.1 hq with rfl | hq
       · obtain ⟨q', h4, h5⟩ := hF.ring b hr.inn hr;refine ⟨q', by simp [h4], h5, fun y hy => ?_⟩;have := mem_less.1 (hF.out q' h4 y hy).1;exact ⟨this.2, this.1⟩
       · obtain ⟨q', h4, h5⟩ := hF.inner q hq h2 b hb hr;exact ⟨q', by simp [h4], h5⟩
end
theorem foldl_inv {α β : Type} {f : β → α → β} (I : List α → β → Prop) : ∀ (r d : List α) (b : β), I d b → (∀ d x b, x ∈ r → I d b → I (d ++ [x]) (f b x)) → I (d ++ r) (r.foldl f b)
 | [], d, b, h, _ => by simpa using h
 | x :: r, d, b, h, hs => by
   rw [show d ++ x :: r = (d ++ [x]) ++ r by simp, List.foldl_cons];exact foldl_inv I r (d ++ [x]) (f b x) (hs d x b (by simp) h) (fun d y b hy => hs d y b (by simp [hy]))
theorem loopsP_ok {ts : List TermD} (hf : fitsB ts = true) : ∀ (f : Nat) (inn : Nat → Bool), Canon inn → (∀ y, inn y = true → y < ts.length) → (listS inn).length < f → LoopsF ts inn (loopsP ts f inn) := by
 intro f
 induction f with
 | zero => intro inn _ _ h; omega
 | succ f ih =>
   intro inn hc hin hlen;have key : LoopsJ ts inn ([] ++ listS inn) ((listS inn).foldl (stepP ts (loopsP ts f) inn) (inn, [])).1 ((listS inn).foldl (stepP ts (loopsP ts f) inn) (inn, [])).2 := by
    refine foldl_inv (fun d (st : (Nat → Bool) × List PartD) => LoopsJ ts inn d st.1 st.2) _ _ _ ⟨fun y h => h, fun y z h1 h2 => (by cases h1.symm.trans h2), fun k hk => (by cases hk), fun y h1 h2 => (by cases h1.symm.trans h2), fun p hp => (by cases hp), fun p hp => (by cases hp), List.Pairwise.nil, fun p hp => (by cases hp)⟩ ?_;intro d k st hk h;have hk' := (mem_listS hc k).1 hk;unfold stepP;by_cases hkk : (st.1 k && knotS ts k inn k) = true
    · rw [if_pos hkk];simp only [Bool.and_eq_true] at hkk;by_cases he : 1 < (entriesS ts (knotS ts k inn)).length
      · rw [if_pos he];have hok := knot_ok hf hc hin hkk.2 3 (-1) (.inl ⟨rfl, rfl, he⟩);exact h.found hc hk' hkk.1 hkk.2 ⟨_, 3, -1⟩ rfl hok [] (.inl ⟨rfl, rfl⟩)
      · rw [if_neg he];have hcn : Canon (knotS ts k inn) := knot_canon hc k;have hlow : ∀ y, knotS ts k inn y = true → 1 ≤ y ∧ y < ts.length := fun y hy => by
         obtain ⟨x, _, hx⟩ := reach_step ((knot_iff hc k y).1 hy).2.1;exact good_nx (fits_facts hf).1 hx
        have he0 := entries_one (entered hf hcn hkk.2 hlow) he;generalize (entriesS ts (knotS ts k inn)).headD 0 = e at *;have hes : knotS ts k inn e = true := ((mem_entries hcn e).1 (by rw [he0]; simp)).1;have hok := knot_ok hf hc hin hkk.2 2 (e : Int) (.inr ⟨rfl, by omega, by simpa using he0⟩);refine h.found hc hk' hkk.1 hkk.2 ⟨_, 2, (e : Int)⟩ rfl hok _ (.inr ⟨rfl, ?_⟩);refine ih _ (less_canon hcn _) (fun y hy => (hlow y (mem_less.1 hy).2).2) ?_;exact Nat.lt_of_lt_of_le (less_len (s := knotS ts k inn) (inn := inn) (e := e) (fun y hy => ((knot_iff hc k y).1 hy).2.1.inn) hc hes) (by omega)
    · rw [if_neg hkk];exact h.skip hc hk' hkk
   simp only [List.nil_append] at key;rw [loopsP]
   exact {
    ring := fun b hb hr => key.cov b hb (key.seen b ((mem_listS hc b).2 hb) hr)
    out := fun p hp y hy => ⟨(key.out p hp y hy).1, (key.out p hp y hy).2.2⟩
    ok := key.ok
    pw := key.pw
    inner := key.inner }
end
end Go.Proofs.YtblhmdhfhaencaaGreat
