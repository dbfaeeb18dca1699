/-
  Words on memory that every text of this family uses: slices of ints that read as lists, worlds that only grow. No program in sight.
-/
import Derived.WalkKit
import Derived.ProofKit
import Derived.Below
import Derived.Lib.Hide
import Derived.Deep.QuietTactic
import Derived.BigQuiet
import Derived.Deep.Draws
import Derived.Laws.OwnMore
import Derived.Outline
import Derived.Test.YtblhmdhfhaencaaGreatRows
namespace Go.Proofs.YtblhmdhfhaencaaGreat
set_option linter.unusedSimpArgs false
set_option linter.unusedVariables false
set_option linter.unusedSectionVars false
set_option maxRecDepth 100000
set_option maxHeartbeats 40000000
section
open Go.RowKit
def I64 (n : Int) : Prop := -9223372036854775808 ≤ n ∧ n ≤ 9223372036854775807
def Ints (w : World) (a : Option Addr) (n : Nat) (xs : List Int) : Prop :=
  xs.length = n ∧ n ≤ 17592186044416 ∧ ∀ k, k < n → ∃ b o, a = some ⟨b, o, none⟩ ∧ w.cell? ⟨b, o + k, none⟩ = some (.int .i64 (xs.getD k 0)) ∧ I64 (xs.getD k 0)
theorem cell_ext {w w' : World} (h : Below w.heap.size w w') {p : Addr} {v : Value} (hc : w.cell? p = some v) : w'.cell? p = some v :=
  (h.cell (World.block_lt_of_cell? w p hc)).trans hc
theorem Ints.ext {w w' : World} {a : Option Addr} {n : Nat} {xs : List Int} (h : Ints w a n xs) (hb : Below w.heap.size w w') : Ints w' a n xs :=
  ⟨h.1, h.2.1, fun k hk => let ⟨b, o, e, hc, hi⟩ := h.2.2 k hk; ⟨b, o, e, cell_ext hb hc, hi⟩⟩
theorem below_drewN {B : Nat} {a w : World} (h : Below B a w) (n : Nat) : Below B a (w.drewN n) := ⟨h.os, h.tape, h.output, h.size, h.block⟩
theorem ext_drewN {a w : World} (h : Below a.heap.size a w) (n : Nat) : Below a.heap.size a (w.drewN n) := below_drewN h n
theorem ext_trans {a b c : World} (h : Below a.heap.size a b) (k : Below b.heap.size b c) : Below a.heap.size a c := h.trans (k.mono h.size)
theorem bcell {W w1 : World} (hb : Below W.heap.size W w1) : (∀ b o, b < W.heap.size → w1.cell? ⟨b, o, none⟩ = W.cell? ⟨b, o, none⟩) ∧ (∀ b o, b < W.heap.size → w1.frozen? ⟨b, o, none⟩ = W.frozen? ⟨b, o, none⟩) :=
  ⟨fun b o h => hb.cell (p := ⟨b, o, none⟩) h, fun b o h => hb.frozen (p := ⟨b, o, none⟩) h⟩
theorem ret_bool {a b : Bool} (h : a = b) : Ending.returned (.bool a) = .returned (.bool b) := by rw [h]
def idx : List Int → Int → Int
  | [], _ => -1
  | y :: l, x => if y = x then 0 else if idx l x < 0 then -1 else idx l x + 1
theorem idx_ge (l : List Int) (x : Int) : -1 ≤ idx l x ∧ idx l x < l.length := by
  induction l with
  | nil => simp [idx]
  | cons y l ih =>
    simp only [idx, List.length_cons]
    split
    · omega
    · split <;> omega
theorem idx_neg_iff (l : List Int) (x : Int) : idx l x < 0 ↔ x ∉ l := by
  induction l with
  | nil => simp [idx]
  | cons y l ih =>
    have := idx_ge l x;simp only [idx, List.mem_cons, not_or];by_cases h : y = x
    · simp [h]
    · rw [if_neg h];have h' : ¬ x = y := fun e => h e.symm
      split
      · simp_all
      · rename_i hn
        have : x ∈ l := by
          by_cases hx : x ∈ l
          · exact hx
          · exact absurd (ih.2 hx) hn
        simp [this]; omega
theorem idx_found (l : List Int) (x : Int) (k : Nat) (hk : k < l.length) (hx : l.getD k 0 = x) (hno : ∀ j, j < k → l.getD j 0 ≠ x) : idx l x = k := by
  induction l generalizing k with
  | nil => simp at hk
  | cons y l ih =>
    cases k with
    | zero => simp at hx; simp [idx, hx]
    | succ k =>
      have h0 := hno 0 (by omega);simp at h0;have := ih k (by simpa using hk) (by simpa using hx) (fun j hj => by have := hno (j + 1) (by omega); simpa using this);simp only [idx, if_neg h0, this];rw [if_neg (by omega)]; omega
theorem idx_none (l : List Int) (x : Int) (hno : ∀ j, j < l.length → l.getD j 0 ≠ x) : idx l x = -1 := by
  have h := idx_ge l x
  have := (idx_neg_iff l x).2 (fun hx => by
    obtain ⟨j, hj, e⟩ := List.getElem_of_mem hx;exact hno j hj (by simp [List.getD, hj, e]))
  omega
end

section
open Go.RowKit
theorem sindex_any (a : Option Addr) (n cap : Nat) (xs : List Int) (x : Int) (w : World) (h : Ints w a n xs) :
    Calls Tryz.prog 195 #[.slice a n cap, .int .i64 x] w fun e w' => e = .returned (.int .i64 (idx xs x)) ∧ w = w' := by
  obtain ⟨hl, hn, hc⟩ := h
  have HL := Lib.hid hl
  have HC := Lib.hid hc
  clear hl hc
  go_enter Tryz.func195, Tryz.ntmps195
  go_wp2
  go_loop [5, 8] (fun _ i => ∃ (k : Nat), k ≤ n ∧ i = .int .i64 k ∧ Hid (∀ j, j < k → xs.getD j 0 ≠ x)) (fun _ i => n - (intOf i).toNat)
  case atStart => exact ⟨0, by omega, rfl, fun j hj => absurd hj (by omega)⟩
  case round =>
    obtain ⟨k, hk, rfl, HR⟩ := hrel;by_cases hlt : k < n
    · obtain ⟨b, o, rfl, hcell, hw1, hw2⟩ := HC.out k hlt;by_cases he : x = xs.getD k 0
      · have HE : Hid (idx xs x = k) := idx_found xs x k (by rw [HL.out]; exact hlt) he.symm HR.out;have hb : (x == xs.getD k 0) = true := by simpa using he
        generalize xs.getD k 0 = y at *;clear he;go_wp2
        go_ret
        exact ⟨by rw [HE.out]; rfl, rfl⟩
      · have HE : Hid (∀ j, j < k + 1 → xs.getD j 0 ≠ x) := fun j hj => by
          by_cases hjk : j = k
          · subst hjk; exact fun e => he e.symm
          · exact HR.out j (by omega)
        have hb : (x == xs.getD k 0) = false := by simpa using he
        generalize xs.getD k 0 = y at *;clear he;go_wp2
        go_round
        case rel => exact ⟨k + 1, by omega, by go_num, HE⟩
        case measure => simp [intOf]; omega
    · go_wp2
      go_ret
      have : k = n := by omega
      subst this;exact ⟨by rw [idx_none xs x (by rw [HL.out]; exact HR.out)]; rfl, rfl⟩
theorem scontains_any (a : Option Addr) (n cap : Nat) (xs : List Int) (x : Int) (w : World) (h : Ints w a n xs) :
    Calls Tryz.prog 159 #[.slice a n cap, .int .i64 x] w fun e w' => e = .returned (.bool (decide (0 ≤ idx xs x))) ∧ w = w' := by
  have hi := idx_ge xs x
  have H := Lib.hid h
  clear h
  go_enter Tryz.func159, Tryz.ntmps159
  go_wp2_with (go_at_call 195; refine (sindex_any a n cap xs x w H.out).mono ?_; rintro e w' ⟨rfl, rfl⟩)
  go_ret
  exact ⟨rfl, rfl⟩
end

section
open Go.RowKit
theorem sameInts_any (a b : Option Addr) (n m c d : Nat) (xs ys : List Int) (w : World) (h : Ints w a n xs) (h' : Ints w b m ys) :
    Calls Tryz.prog 44 #[.slice a n c, .slice b m d] w fun e w' => e = .returned (.bool (decide (xs = ys))) ∧ ∃ q, w' = w.drewN q := by
  obtain ⟨hl, hn, hc⟩ := h
  obtain ⟨hl', hn', hc'⟩ := h'
  by_cases hnm : n = m
  · subst hnm;have HL := Lib.hid hl;have HC := Lib.hid hc;have HL' := Lib.hid hl';have HC' := Lib.hid hc';clear hl hc hl' hc';have hne : ((n : Int) != (n : Int)) = false := by simp
    go_enter Tryz.func44, Tryz.ntmps44
    go_wp2
    go_loopw [5] (fun i wr => ∃ (k q : Nat), k ≤ n ∧ i = .int .i64 k ∧ wr = w.drewN q ∧ Hid (∀ j, j < k → xs.getD j 0 = ys.getD j 0)) (fun i _ => n - (intOf i).toNat)
    case atStart => exact ⟨0, 0, by omega, rfl, rfl, fun j hj => absurd hj (by omega)⟩
    case round =>
      obtain ⟨k, q, hk, rfl, rfl, HR⟩ := hrel;by_cases hlt : k < n
      · obtain ⟨b1, o1, rfl, hcell1, hw1, hw2⟩ := HC.out k hlt;obtain ⟨b2, o2, rfl, hcell2, hw3, hw4⟩ := HC'.out k hlt;by_cases he : xs.getD k 0 = ys.getD k 0
        · have HE : Hid (∀ j, j < k + 1 → xs.getD j 0 = ys.getD j 0) := fun j hj => by
            by_cases hjk : j = k
            · subst hjk; exact he
            · exact HR.out j (by omega)
          rw [← he] at hcell2;generalize xs.getD k 0 = y at *;clear he;go_wp2
          go_quiet (fail)
          go_wp2
          go_roundw
          case rel => exact ⟨k + 1, _, by omega, by go_num, rfl, HE⟩
          case measure => simp [intOf]; omega
        · have HE : Hid (xs ≠ ys) := fun e => he (by rw [e]);have hb : (xs.getD k 0 != ys.getD k 0) = true := by simpa using he
          generalize xs.getD k 0 = y at *;generalize ys.getD k 0 = z at *;clear he;go_wp2
          go_quiet (fail)
          go_wp2
          go_ret
          exact ⟨ret_bool (by rw [decide_eq_false HE.out]), _, World.drewN_drewN _ _ _⟩
      · have HE : Hid (xs = ys) := List.ext_getElem (by rw [HL.out, HL'.out]) (fun j h1 h2 => by
          have := HR.out j (by rw [HL.out] at h1; omega);simpa [List.getD, h1, h2] using this)
        go_wp2
        go_ret
        exact ⟨ret_bool (by rw [decide_eq_true HE.out]), _, rfl⟩
  · have HE : Hid (xs ≠ ys) := fun e => hnm (by rw [← hl, ← hl', e]);have hne : ((n : Int) != (m : Int)) = true := by simp; omega
    clear hc hc' hl hl' hnm
    go_enter Tryz.func44, Tryz.ntmps44
    go_wp2
    go_ret
    exact ⟨ret_bool (by rw [decide_eq_false HE.out]), 0, rfl⟩
end

section
open Go.RowKit
def markV (k i : Int) : Int := 1000003 * (k + 7) + i
theorem mark_any (k i : Int) (w : World) (hk : 0 ≤ k ∧ k ≤ 1000000000) (hi : 0 ≤ i ∧ i ≤ 100000000000000) :
    Calls Tryz.prog 112 #[.int .i64 k, .int .i64 i] w fun e w' => e = .returned (.int .i64 (markV k i)) ∧ w = w' := by
  obtain ⟨_, _⟩ := hk
  obtain ⟨_, _⟩ := hi
  go_enter Tryz.func112, Tryz.ntmps112
  go_wp2
  go_ret
  exact ⟨rfl, rfl⟩
end

section
open Go.RowKit
def idxF {α : Type} (p : α → Bool) : List α → Int
  | [] => -1
  | y :: l => if p y then 0 else if idxF p l < 0 then -1 else idxF p l + 1
theorem idxF_ge {α : Type} (p : α → Bool) (l : List α) : -1 ≤ idxF p l ∧ idxF p l < l.length := by
  induction l with
  | nil => simp [idxF]
  | cons y l ih =>
    simp only [idxF, List.length_cons]
    split
    · omega
    · split <;> omega
theorem idxF_found {α : Type} (p : α → Bool) (l : List α) (k : Nat) (x : α) (hx : l[k]? = some x) (hp : p x = true) (hno : ∀ j y, j < k → l[j]? = some y → p y = false) : idxF p l = k := by
  induction l generalizing k with
  | nil => simp at hx
  | cons y l ih =>
    cases k with
    | zero => simp at hx; subst hx; simp [idxF, hp]
    | succ k =>
      have h0 := hno 0 y (by omega) rfl;have := ih k (by simpa using hx) (fun j z hj hz => hno (j + 1) z (by omega) (by simpa using hz));simp only [idxF, h0, this];simp;omega
theorem idxF_none {α : Type} (p : α → Bool) (l : List α) (hno : ∀ y ∈ l, p y = false) : idxF p l = -1 := by
  induction l with
  | nil => rfl
  | cons y l ih => simp [idxF, hno y (by simp), ih (fun z hz => hno z (by simp [hz]))]
theorem idxF_iff {α : Type} (p : α → Bool) (l : List α) : 0 ≤ idxF p l ↔ l.any p = true := by
  induction l with
  | nil => simp [idxF]
  | cons y l ih =>
    have hg := idxF_ge p l;have e : idxF p (y :: l) = (if p y then 0 else if idxF p l < 0 then -1 else idxF p l + 1) := rfl;rw [e, List.any_cons, Bool.or_eq_true, ← ih];by_cases hp : p y = true
    · simp [hp]
    · rw [if_neg hp]
      split
      · constructor
        · intro h; omega
        · rintro (h | h)
          · exact absurd h hp
          · omega
      · constructor
        · intro h; exact .inr (by omega)
        · intro h; omega
theorem idxF_any {α : Type} (p : α → Bool) (l : List α) : decide (0 ≤ idxF p l) = l.any p := by
  rw [Bool.eq_iff_iff, decide_eq_true_eq]
  exact idxF_iff p l
theorem ext_alloc (w : World) (o : Obj) : Below w.heap.size w (w.alloc o) := (Below.refl _ w).alloc (Nat.le_refl _) o
theorem indexFunc_any (F : Nat) (caps : Array Value) (eF : ∀ args w, (callFunc F args).run Tryz.prog w = .ok (.enter F args) w) (p : Int → Bool) (a : Option Addr) (n c : Nat) (xs : List Int) (w : World)
    (hp : ∀ (x : Int) (W : World), x ∈ xs → Below w.heap.size w W → Calls Tryz.prog F (#[.int .i64 x] ++ caps) W fun e W' => e = .returned (.bool (p x)) ∧ Below W.heap.size W W') (h : Ints w a n xs) :
    Calls Tryz.prog 208 #[.slice a n c, .func (.func F) #[] caps] w fun e w' => e = .returned (.int .i64 (idxF p xs)) ∧ Below w.heap.size w w' := by
  have HL := Lib.hid h.1
  have hn := h.2.1
  have H := Lib.hid h
  have HP := Lib.hid hp
  clear h hp
  go_enter Tryz.func208, Tryz.ntmps208
  go_wp2
  go_loopw [5, 8] (fun _ i wr => ∃ (k : Nat), k ≤ n ∧ i = .int .i64 k ∧ Hid (∀ j y, j < k → xs[j]? = some y → p y = false) ∧ Hid (Below w.heap.size w wr)) (fun _ i _ => n - (intOf i).toNat)
  case atStart => exact ⟨0, by omega, rfl, fun j y hj => absurd hj (by omega), Below.refl _ _⟩
  case round =>
    obtain ⟨k, hk, rfl, HR, HB⟩ := hrel;by_cases hlt : k < n
    · obtain ⟨b, o, rfl, hcell, hw1, hw2⟩ := (H.out.ext HB.out).2.2 k hlt;have hgk : xs[k]? = some (xs.getD k 0) := by
        have hk' : k < xs.length := by rw [HL.out]; exact hlt
        simp [List.getD_eq_getElem?_getD, hk']
      have HG := Lib.hid hgk;have HM := Lib.hid (List.mem_of_getElem? hgk);clear hgk;generalize xs.getD k 0 = r at *;by_cases hy : p r = true
      · have HE : Hid (idxF p xs = k) := idxF_found p xs k r HG.out hy HR.out;go_wp2;refine (HP.out r wr HM.out HB.out).mono ?_;rintro e w' ⟨rfl, hb'⟩;have HB' := Lib.hid (ext_trans HB.out hb');clear hb';rw [hy];go_wp2
        go_ret
        exact ⟨by rw [HE.out]; rfl, HB'.out⟩
      · have hy' : p r = false := by simpa using hy
        have HE : Hid (∀ j z, j < k + 1 → xs[j]? = some z → p z = false) := fun j z hj hz => by
          by_cases e : j = k
          · subst e;rw [HG.out] at hz;injection hz with hz;subst hz;exact hy'
          · exact HR.out j z (by omega) hz
        go_wp2;refine (HP.out r wr HM.out HB.out).mono ?_;rintro e w' ⟨rfl, hb'⟩;have HB' := Lib.hid (ext_trans HB.out hb');clear hb';rw [hy'];go_wp2
        go_roundw
        case rel => exact ⟨k + 1, by omega, by go_num, HE, HB'⟩
        case measure => simp [intOf]; omega
    · obtain rfl : k = n := by omega
      have HE : Hid (idxF p xs = -1) := idxF_none p xs (fun z hz => by
        obtain ⟨j, hj, e⟩ := List.mem_iff_getElem.1 hz;exact HR.out j z (by rw [HL.out] at hj; exact hj) (by rw [List.getElem?_eq_getElem hj, e]))
      go_wp2
      go_ret
      exact ⟨by rw [HE.out]; rfl, HB.out⟩
theorem containsFunc_any (F : Nat) (caps : Array Value) (eF : ∀ args w, (callFunc F args).run Tryz.prog w = .ok (.enter F args) w) (p : Int → Bool) (a : Option Addr) (n c : Nat) (xs : List Int) (w : World)
    (hp : ∀ (x : Int) (W : World), x ∈ xs → Below w.heap.size w W → Calls Tryz.prog F (#[.int .i64 x] ++ caps) W fun e W' => e = .returned (.bool (p x)) ∧ Below W.heap.size W W') (h : Ints w a n xs) :
    Calls Tryz.prog 168 #[.slice a n c, .func (.func F) #[] caps] w fun e w' => e = .returned (.bool (xs.any p)) ∧ Below w.heap.size w w' := by
  have HA := Lib.hid (idxF_any p xs)
  have hg := idxF_ge p xs
  have HP := Lib.hid hp
  have H := Lib.hid h
  clear hp h
  go_enter Tryz.func168, Tryz.ntmps168
  go_wp2_with (go_at_call 208; refine (indexFunc_any F caps eF p a n c xs w HP.out H.out).mono ?_; rintro e w' ⟨rfl, hb'⟩; have HB' := Lib.hid hb'; clear hb')
  go_ret
  exact ⟨by rw [← HA.out]; rfl, HB'.out⟩
end

section
structure TermD where
  kind : Int
  a : Int
  t0 : Int
  t1 : Int
abbrev zTerm : TermD := ⟨0, 0, 0, 0⟩
def varB (n : Int) : Bool := decide (1 ≤ n ∧ n ≤ 200)
def termB (t : TermD) : Bool :=
  if t.kind = 1 then decide (t.a = 0 ∧ t.t1 = 0) else if t.kind = 2 then varB t.a
  else if t.kind = 3 then (decide (t.a = 0) || varB t.a) && decide (t.t0 = 0 ∧ t.t1 = 0) else decide (t.kind = 4 ∧ t.a = 0 ∧ t.t0 = 0 ∧ t.t1 = 0)
def toD (t : TermD) : List Int := if termB t then (if t.kind = 1 then [t.t0] else if t.kind = 2 then [t.t0, t.t1] else []) else []
theorem toD_len (t : TermD) : (toD t).length ≤ 2 := by unfold toD; repeat (first | split | simp)
def nx (ts : List TermD) (k : Nat) : List Nat := (toD (ts.getD k zTerm)).map Int.toNat
def pv (ts : List TermD) (y : Nat) : List Nat := (List.range ts.length).flatMap fun k => ((nx ts k).filter (fun x => x == y)).map fun _ => k
theorem nx_none (ts : List TermD) (k : Nat) (h : ts.length ≤ k) : nx ts k = [] := by
  have : ts.getD k zTerm = zTerm := by rw [List.getD_eq_getElem?_getD, List.getElem?_eq_none h]; rfl
  rw [nx, this]; rfl
theorem mem_pv (ts : List TermD) (y k : Nat) : k ∈ pv ts y ↔ y ∈ nx ts k := by
  simp only [pv, List.mem_flatMap, List.mem_range, List.mem_map, List.mem_filter, beq_iff_eq]
  constructor
  · rintro ⟨j, _, x, ⟨h, rfl⟩, rfl⟩; exact h
  · intro h;refine ⟨k, ?_, y, ⟨h, rfl⟩, rfl⟩;apply Classical.byContradiction;intro hk;rw [nx_none ts k (by omega)] at h;cases h
def goodB (ts : List TermD) : Bool := decide (1 ≤ ts.length ∧ ts.length ≤ 200) && ts.all fun t => termB t && (toD t).all fun x => decide (1 ≤ x ∧ x < ts.length)
theorem goodB_iff (ts : List TermD) : goodB ts = true ↔ (1 ≤ ts.length ∧ ts.length ≤ 200) ∧ ∀ t ∈ ts, termB t = true ∧ ∀ x ∈ toD t, 1 ≤ x ∧ x < ts.length := by
  simp [goodB]
theorem good_nx {ts : List TermD} (h : goodB ts = true) {k y : Nat} (hy : y ∈ nx ts k) : 1 ≤ y ∧ y < ts.length := by
  obtain ⟨_, h⟩ := (goodB_iff ts).1 h
  by_cases hk : k < ts.length
  · have hm : ts.getD k zTerm ∈ ts := by rw [List.getD_eq_getElem?_getD, List.getElem?_eq_getElem hk]; exact List.getElem_mem _
    rw [nx, List.mem_map] at hy;obtain ⟨x, hx, rfl⟩ := hy;have := (h _ hm).2 x hx;omega
  · rw [nx_none ts k (by omega)] at hy;cases hy
inductive Reach (next : Nat → List Nat) (inn : Nat → Bool) (b : Nat) : Nat → Prop
  | one {y : Nat} : y ∈ next b → inn y = true → Reach next inn b y
  | step {x y : Nat} : Reach next inn b x → y ∈ next x → inn y = true → Reach next inn b y
theorem Reach.inn {next : Nat → List Nat} {inn : Nat → Bool} {b y : Nat} (h : Reach next inn b y) : inn y = true := by cases h <;> assumption
theorem Reach.trans {next : Nat → List Nat} {inn : Nat → Bool} {a b c : Nat} (h : Reach next inn a b) (k : Reach next inn b c) : Reach next inn a c := by
  induction k with
  | one hy hi => exact .step h hy hi
  | step _ hy hi ih => exact .step ih hy hi
theorem Reach.mono {next : Nat → List Nat} {inn inn' : Nat → Bool} (hs : ∀ y, inn y = true → inn' y = true) {b y : Nat} (h : Reach next inn b y) : Reach next inn' b y := by
  induction h with
  | one hy hi => exact .one hy (hs _ hi)
  | step _ hy hi ih => exact .step ih hy (hs _ hi)
theorem Reach.rev {next prev : Nat → List Nat} (hp : ∀ x y, y ∈ next x → x ∈ prev y) {inn : Nat → Bool} {b y : Nat} (hb : inn b = true) (h : Reach next inn b y) : Reach prev inn y b := by
  induction h with
  | one hy hi => exact .one (hp _ _ hy) hb
  | @step x y hx hy hi ih => exact (Reach.one (hp _ _ hy) hx.inn).trans ih
structure WInv (next : Nat → List Nat) (inn : Nat → Bool) (b : Nat) (todo : List Nat) (s : Nat → Bool) (x : Option (Nat × Nat)) : Prop where
  sound : ∀ y, s y = true → Reach next inn b y
  src : ∀ z ∈ todo, z = b ∨ s z = true
  cur : ∀ z j, x = some (z, j) → z = b ∨ s z = true
  closed : ∀ z, (z = b ∨ s z = true) → z ∈ todo ∨ (∃ j, x = some (z, j) ∧ ∀ y ∈ (next z).take j, inn y = true → s y = true) ∨ ∀ y ∈ next z, inn y = true → s y = true
section
variable {next : Nat → List Nat} {inn : Nat → Bool} {b : Nat} {todo : List Nat} {s : Nat → Bool}
theorem WInv.start (next : Nat → List Nat) (inn : Nat → Bool) (b : Nat) : WInv next inn b [b] (fun _ => false) none where
  sound := fun y h => by cases h
  src := fun z h => by simp at h; exact .inl h
  cur := fun z j h => by cases h
  closed := fun z h => h.elim (fun e => .inl (by simp [e])) (fun h => by cases h)
theorem WInv.take (h : WInv next inn b todo s none) (x : Nat) (todo' : List Nat) (hm : ∀ z, z ∈ todo ↔ z = x ∨ z ∈ todo') : WInv next inn b todo' s (some (x, 0)) where
  sound := h.sound
  src := fun z hz => h.src z ((hm z).2 (.inr hz))
  cur := fun z j e => by cases e; exact h.src x ((hm x).2 (.inl rfl))
  closed := fun z hz => by
    rcases h.closed z hz with h1 | ⟨j, h1, _⟩ | h1
    · rcases (hm z).1 h1 with rfl | h2
      · exact .inr (.inl ⟨0, rfl, fun y hy => by simp at hy⟩)
      · exact .inl h2
    · cases h1
    · exact .inr (.inr h1)
theorem takeN {l : List Nat} {j : Nat} (hj : j < l.length) {y : Nat} (hy : y ∈ l.take (j + 1)) : y ∈ l.take j ∨ y = l.getD j 0 := by
  rw [List.take_add_one, List.getElem?_eq_getElem hj, List.mem_append] at hy
  rcases hy with h | h
  · exact .inl h
  · exact .inr (by simpa [List.getD_eq_getElem?_getD, hj] using h)
theorem WInv.skip {x j : Nat} (h : WInv next inn b todo s (some (x, j))) (hj : j < (next x).length) (hn : inn ((next x).getD j 0) = true → s ((next x).getD j 0) = true) : WInv next inn b todo s (some (x, j + 1)) where
  sound := h.sound
  src := h.src
  cur := fun z k e => by cases e; exact h.cur x j rfl
  closed := fun z hz => by
    rcases h.closed z hz with h1 | ⟨k, h1, h2⟩ | h1
    · exact .inl h1
    · cases h1;refine .inr (.inl ⟨j + 1, rfl, fun y hy hi => ?_⟩);rcases takeN hj hy with h3 | rfl
      · exact h2 y h3 hi
      · exact hn hi
    · exact .inr (.inr h1)
theorem WInv.push {x j : Nat} (h : WInv next inn b todo s (some (x, j))) (hj : j < (next x).length) (hi : inn ((next x).getD j 0) = true) (todo' : List Nat) (hm : ∀ z, z ∈ todo' ↔ z = (next x).getD j 0 ∨ z ∈ todo) (s' : Nat → Bool) (hs : ∀ z, s' z = true ↔ z = (next x).getD j 0 ∨ s z = true) :
    WInv next inn b todo' s' (some (x, j + 1)) where
  sound := fun y hy => by
    rcases (hs y).1 hy with rfl | h1
    · have hx : (next x).getD j 0 ∈ next x := by rw [List.getD_eq_getElem?_getD, List.getElem?_eq_getElem hj]; exact List.getElem_mem _
      rcases h.cur x j rfl with rfl | h2
      · exact .one hx hi
      · exact .step (h.sound x h2) hx hi
    · exact h.sound y h1
  src := fun z hz => by
    rcases (hm z).1 hz with rfl | h1
    · exact .inr ((hs _).2 (.inl rfl))
    · exact (h.src z h1).imp id (fun h2 => (hs z).2 (.inr h2))
  cur := fun z k e => by cases e; exact (h.cur x j rfl).imp id (fun h2 => (hs x).2 (.inr h2))
  closed := fun z hz => by
    have hz' : z = (next x).getD j 0 ∨ (z = b ∨ s z = true) := by
      rcases hz with rfl | h1
      · exact .inr (.inl rfl)
      · exact ((hs z).1 h1).imp id .inr
    rcases hz' with rfl | hz'
    · exact .inl ((hm _).2 (.inl rfl))
    · rcases h.closed z hz' with h1 | ⟨k, h1, h2⟩ | h1
      · exact .inl ((hm z).2 (.inr h1))
      · cases h1;refine .inr (.inl ⟨j + 1, rfl, fun y hy hi => ?_⟩);rcases takeN hj hy with h3 | rfl
        · exact (hs y).2 (.inr (h2 y h3 hi))
        · exact (hs _).2 (.inl rfl)
      · exact .inr (.inr fun y hy hi => (hs y).2 (.inr (h1 y hy hi)))
theorem WInv.fin {x j : Nat} (h : WInv next inn b todo s (some (x, j))) (hj : (next x).length ≤ j) : WInv next inn b todo s none where
  sound := h.sound
  src := h.src
  cur := fun z k e => by cases e
  closed := fun z hz => by
    rcases h.closed z hz with h1 | ⟨k, h1, h2⟩ | h1
    · exact .inl h1
    · cases h1;rw [List.take_of_length_le hj] at h2;exact .inr (.inr h2)
    · exact .inr (.inr h1)
theorem WInv.done (h : WInv next inn b [] s none) (y : Nat) : s y = true ↔ Reach next inn b y := by
  refine ⟨h.sound y, fun hr => ?_⟩
  have hc : ∀ z, (z = b ∨ s z = true) → ∀ y ∈ next z, inn y = true → s y = true := fun z hz => by
    rcases h.closed z hz with h1 | ⟨k, h1, _⟩ | h1
    · cases h1
    · cases h1
    · exact h1
  induction hr with
  | one hy hi => exact hc b (.inl rfl) _ hy hi
  | step _ hy hi ih => exact hc _ (.inr ih) _ hy hi
end
def pushL (inn : Nat → Bool) (ts : List Nat × List Nat) (y : Nat) : List Nat × List Nat := if inn y && !ts.2.contains y then (y :: ts.1, y :: ts.2) else ts
def dfs (next : Nat → List Nat) (inn : Nat → Bool) : Nat → List Nat → List Nat → List Nat
  | 0, _, seen => seen
  | _ + 1, [], seen => seen
  | f + 1, x :: todo, seen => dfs next inn f ((next x).foldl (pushL inn) (todo, seen)).1 ((next x).foldl (pushL inn) (todo, seen)).2
def walkL (next : Nat → List Nat) (inn : Nat → Bool) (b : Nat) : List Nat := if inn b then dfs next inn 202 [b] [] else []
def walkF (next : Nat → List Nat) (inn : Nat → Bool) (b : Nat) : Nat → Bool := fun y => (walkL next inn b).contains y
def Canon (s : Nat → Bool) : Prop := ∀ y, s y = true → y < 200
theorem fold_inv {next : Nat → List Nat} {inn : Nat → Bool} {b x : Nat} (hc : Canon inn) : ∀ (m j : Nat) (todo seen : List Nat), (next x).length - j = m → WInv next inn b todo (fun y => seen.contains y) (some (x, j)) → seen.Nodup → (∀ y ∈ seen, y < 200) →
    ∃ todo' seen', ((next x).drop j).foldl (pushL inn) (todo, seen) = (todo', seen') ∧ WInv next inn b todo' (fun y => seen'.contains y) none ∧ seen'.Nodup ∧ (∀ y ∈ seen', y < 200) ∧ todo'.length + seen.length = todo.length + seen'.length := by
  intro m
  induction m with
  | zero =>
    intro j todo seen hm h hn hl;rw [List.drop_of_length_le (by omega)];exact ⟨todo, seen, rfl, h.fin (by omega), hn, hl, by omega⟩
  | succ m ih =>
    intro j todo seen hm h hn hl;have hj : j < (next x).length := by omega
    have hg : (next x).getD j 0 = (next x)[j] := by simp [List.getD_eq_getElem?_getD, hj]
    rw [List.drop_eq_getElem_cons hj, List.foldl_cons, ← hg];by_cases hp : (inn ((next x).getD j 0) && !seen.contains ((next x).getD j 0)) = true
    · have e : pushL inn (todo, seen) ((next x).getD j 0) = ((next x).getD j 0 :: todo, (next x).getD j 0 :: seen) := by unfold pushL; rw [if_pos hp]
      rw [e];simp only [Bool.and_eq_true, Bool.not_eq_true'] at hp;obtain ⟨hi, hs⟩ := hp;have hns : (next x).getD j 0 ∉ seen := by simpa using hs
      obtain ⟨t', s', e1, e2, e3, e4, e5⟩ := ih (j + 1) ((next x).getD j 0 :: todo) ((next x).getD j 0 :: seen) (by omega)
        (h.push hj hi _ (fun z => by simp) _ (fun z => by simp)) (List.nodup_cons.2 ⟨hns, hn⟩) (fun y hy => (List.mem_cons.1 hy).elim (fun e => e ▸ hc _ hi) (hl y))
      exact ⟨t', s', e1, e2, e3, e4, by simp at e5; omega⟩
    · have e : pushL inn (todo, seen) ((next x).getD j 0) = (todo, seen) := by unfold pushL; rw [if_neg hp]
      rw [e];exact ih (j + 1) todo seen (by omega) (h.skip hj (fun hi => by
        cases e2 : seen.contains ((next x).getD j 0) with
        | true => rfl
        | false => exact absurd (by rw [hi, e2]; rfl) hp)) hn hl
theorem nodup_len : ∀ (N : Nat) (l : List Nat), l.Nodup → (∀ y ∈ l, y < N) → l.length ≤ N := by
  intro N
  induction N with
  | zero =>
    intro l _ h;cases l with
    | nil => simp
    | cons x l => have := h x (by simp); omega
  | succ N ih =>
    intro l hn h;have h1 := ih (l.filter fun y => y != N) (hn.filter _) (fun y hy => by
      simp at hy;have := h y hy.1;omega)
    have h2 : l.length ≤ (l.filter fun y => y != N).length + 1 := by
      clear ih h h1
      induction l with
      | nil => simp
      | cons x l ih =>
        rw [List.nodup_cons] at hn;by_cases e : x = N
        · subst e;have : l.filter (fun y => y != x) = l := by
            rw [List.filter_eq_self];intro y hy;have : y ≠ x := fun e => hn.1 (e ▸ hy);simpa using this
          simp [this]
        · have := ih hn.2;simp [e];omega
    omega
theorem dfs_inv {next : Nat → List Nat} {inn : Nat → Bool} {b : Nat} (hc : Canon inn) : ∀ (f : Nat) (todo seen : List Nat), WInv next inn b todo (fun y => seen.contains y) none → seen.Nodup → (∀ y ∈ seen, y < 200) → todo.length + 200 ≤ f + seen.length →
    ∀ y, (dfs next inn f todo seen).contains y = true ↔ Reach next inn b y := by
  intro f
  induction f with
  | zero =>
    intro todo seen h hn hl hf;have := nodup_len 200 seen hn hl;cases todo with
    | nil => exact fun y => h.done y
    | cons x todo => simp at hf; omega
  | succ f ih =>
    intro todo seen h hn hl hf;cases todo with
    | nil => exact fun y => h.done y
    | cons x todo =>
      obtain ⟨t', s', e1, e2, e3, e4, e5⟩ := fold_inv (next := next) (inn := inn) (b := b) (x := x) hc _ 0 todo seen rfl (h.take x todo (fun z => by simp)) hn hl;rw [List.drop_zero] at e1;simp only [dfs, e1];exact ih t' s' e2 e3 e4 (by simp at hf; omega)
theorem walkF_iff {next : Nat → List Nat} {inn : Nat → Bool} (hc : Canon inn) (b y : Nat) : walkF next inn b y = true ↔ inn b = true ∧ Reach next inn b y := by
  unfold walkF walkL
  by_cases hb : inn b = true
  · rw [if_pos hb];rw [dfs_inv hc 202 [b] [] (by simpa using WInv.start next inn b) (by simp) (by simp) (by simp)];simp [hb]
  · rw [if_neg hb];simp [hb]
theorem walkF_canon {next : Nat → List Nat} {inn : Nat → Bool} (hc : Canon inn) (b : Nat) : Canon (walkF next inn b) := fun y h => hc y ((walkF_iff hc b y).1 h).2.inn
theorem walkF_of {next : Nat → List Nat} {inn : Nat → Bool} (hc : Canon inn) {b : Nat} (hb : inn b = true) {s : Nat → Bool} (h : WInv next inn b [] s none) : s = walkF next inn b := by
  funext y
  rw [Bool.eq_iff_iff, h.done y, walkF_iff hc]
  simp [hb]
theorem walkF_no {next : Nat → List Nat} {inn : Nat → Bool} {b : Nat} (hb : inn b = false) : walkF next inn b = fun _ => false := by
  funext y
  simp [walkF, walkL, hb]
def wholeS (n : Nat) : Nat → Bool := fun k => decide (k < n)
def lessS (s : Nat → Bool) (b : Nat) : Nat → Bool := fun k => k != b && s k
def ofS (l : List Int) : Nat → Bool := fun j => decide (j < 200) && l.contains (j : Int)
def listS (s : Nat → Bool) : List Nat := (List.range 200).filter s
def intsN (l : List Nat) : List Int := l.map fun (k : Nat) => (k : Int)
theorem whole_canon {n : Nat} (h : n ≤ 200) : Canon (wholeS n) := fun y hy => by simp [wholeS] at hy; omega
theorem less_canon {s : Nat → Bool} (h : Canon s) (b : Nat) : Canon (lessS s b) := fun y hy => by simp [lessS] at hy; exact h y hy.2
theorem of_canon (l : List Int) : Canon (ofS l) := fun y hy => by simp [ofS] at hy; exact hy.1
theorem mem_listS {s : Nat → Bool} (h : Canon s) (y : Nat) : y ∈ listS s ↔ s y = true := by
  simp [listS]
  exact fun h1 => h y h1
def fitsB (ts : List TermD) : Bool := goodB ts && (List.range ts.length).all fun k => k == 0 || walkF (nx ts) (wholeS ts.length) 0 k
def knotS (ts : List TermD) (b : Nat) (inn : Nat → Bool) : Nat → Bool := fun k => walkF (nx ts) inn b k && walkF (pv ts) inn b k
def entriesS (ts : List TermD) (s : Nat → Bool) : List Nat := (listS s).filter fun b => decide (b < ts.length) && (pv ts b).any fun x => !s x
theorem knot_canon {ts : List TermD} {inn : Nat → Bool} (h : Canon inn) (b : Nat) : Canon (knotS ts b inn) := fun y hy => by
  simp only [knotS, Bool.and_eq_true] at hy
  exact walkF_canon h b y hy.1
theorem back_iff {ts : List TermD} {inn : Nat → Bool} {b y : Nat} (hb : inn b = true) (hy : inn y = true) : Reach (pv ts) inn b y ↔ Reach (nx ts) inn y b :=
  ⟨fun h => h.rev (fun x y h => (mem_pv ts x y).1 h) hb, fun h => h.rev (fun x y h => (mem_pv ts y x).2 h) hy⟩
theorem knot_iff {ts : List TermD} {inn : Nat → Bool} (hc : Canon inn) (b y : Nat) : knotS ts b inn y = true ↔ inn b = true ∧ Reach (nx ts) inn b y ∧ Reach (nx ts) inn y b := by
  simp only [knotS, Bool.and_eq_true, walkF_iff hc]
  constructor
  · rintro ⟨⟨h1, h2⟩, _, h3⟩;exact ⟨h1, h2, (back_iff h1 h2.inn).1 h3⟩
  · rintro ⟨h1, h2, h3⟩;exact ⟨⟨h1, h2⟩, h1, (back_iff h1 h2.inn).2 h3⟩
end

section
def insD (x : Int) : List Int → List Int
  | [] => [x]
  | y :: l => if x < y then x :: y :: l else if x = y then y :: l else y :: insD x l
def sortD : List Int → List Int
  | [] => []
  | x :: l => insD x (sortD l)
theorem mem_insD (x z : Int) (l : List Int) : z ∈ insD x l ↔ z = x ∨ z ∈ l := by
  induction l with
  | nil => simp [insD]
  | cons y l ih =>
    simp only [insD]
    split
    · simp
    · split
      · rename_i _ e; subst e; simp
      · simp only [List.mem_cons, ih];constructor
        · rintro (h | h | h) <;> simp [h]
        · rintro (h | h | h) <;> simp [h]
theorem mem_sortD (z : Int) (l : List Int) : z ∈ sortD l ↔ z ∈ l := by
  induction l with
  | nil => simp [sortD]
  | cons x l ih => rw [sortD, mem_insD, ih, List.mem_cons]
theorem sorted_insD (x : Int) (l : List Int) (h : l.Pairwise (· < ·)) : (insD x l).Pairwise (· < ·) := by
  induction l with
  | nil => simp [insD]
  | cons y l ih =>
    rw [List.pairwise_cons] at h;simp only [insD]
    split
    · rename_i hx
      rw [List.pairwise_cons];refine ⟨fun z hz => ?_, List.pairwise_cons.2 h⟩;rcases List.mem_cons.1 hz with rfl | hz
      · exact hx
      · have := h.1 z hz; omega
    · split
      · exact List.pairwise_cons.2 h
      · rw [List.pairwise_cons];refine ⟨fun z hz => ?_, ih h.2⟩;rcases (mem_insD x z l).1 hz with rfl | hz
        · omega
        · exact h.1 z hz
theorem sorted_sortD (l : List Int) : (sortD l).Pairwise (· < ·) := by
  induction l with
  | nil => simp [sortD]
  | cons x l ih => exact sorted_insD x _ ih
theorem sorted_eq : ∀ (l l' : List Int), l.Pairwise (· < ·) → l'.Pairwise (· < ·) → (∀ x, x ∈ l ↔ x ∈ l') → l = l' := by
  intro l
  induction l with
  | nil =>
    intro l' _ _ h;cases l' with
    | nil => rfl
    | cons y l' => have := (h y).2 (by simp); cases this
  | cons x l ih =>
    intro l' h1 h2 h;cases l' with
    | nil => have := (h x).1 (by simp); cases this
    | cons y l' =>
      rw [List.pairwise_cons] at h1 h2;have e : x = y := by
        rcases List.mem_cons.1 ((h x).1 (by simp)) with e | hx
        · exact e
        · rcases List.mem_cons.1 ((h y).2 (by simp)) with e | hy
          · exact e.symm
          · have := h2.1 x hx;have := h1.1 y hy;omega
      subst e;rw [ih l' h1.2 h2.2 (fun z => ?_)];have hz := h z;simp only [List.mem_cons] at hz;constructor
      · intro hm;rcases hz.1 (.inr hm) with e | h3
        · subst e; have := h1.1 z hm; omega
        · exact h3
      · intro hm;rcases hz.2 (.inr hm) with e | h3
        · subst e; have := h2.1 z hm; omega
        · exact h3
structure TileD where
  kind : Int
  parent : Int
  blocks : List Int
abbrev zTile : TileD := ⟨0, 0, []⟩
abbrev parL (l : List TileD) (n : Nat) : Int := (l.getD n zTile).parent
abbrev blkL (l : List TileD) (n : Nat) : List Int := (l.getD n zTile).blocks
def parentsB (l : List TileD) : Bool := (List.range l.length).all fun k => decide (-1 ≤ parL l k ∧ parL l k < k)
theorem parentsB_iff (l : List TileD) : parentsB l = true ↔ ∀ k, k < l.length → -1 ≤ parL l k ∧ parL l k < k := by simp [parentsB]
def descF (l : List TileD) (k : Nat) : Nat → Nat → Bool
  | 0, n => n == k
  | f + 1, n => n == k || (decide (0 ≤ parL l n) && descF l k f (parL l n).toNat)
def descB (l : List TileD) (k n : Nat) : Bool := descF l k n n
theorem descF_eq {l : List TileD} (hp : parentsB l = true) (k : Nat) : ∀ (n f : Nat), n < l.length → n ≤ f → descF l k f n = descF l k n n := by
  rw [parentsB_iff] at hp
  intro n
  induction n using Nat.strongRecOn with
  | _ n ih =>
    intro f hn hf;have h1 := hp n hn;cases f with
    | zero => obtain rfl : n = 0 := by omega
              rfl
    | succ f =>
      cases n with
      | zero =>
        have h2 : ¬ 0 ≤ parL l 0 := by omega
        simp [descF, h2]
      | succ n =>
        simp only [descF];by_cases h2 : 0 ≤ parL l (n + 1)
        · rw [ih (parL l (n + 1)).toNat (by omega) f (by omega) (by omega), ih (parL l (n + 1)).toNat (by omega) n (by omega) (by omega)]
        · simp [h2]
theorem descB_eq {l : List TileD} (hp : parentsB l = true) (k n : Nat) (hn : n < l.length) : descB l k n = (n == k || (decide (0 ≤ parL l n) && descB l k (parL l n).toNat)) := by
  have h1 := (parentsB_iff l).1 hp n hn
  unfold descB
  cases n with
  | zero =>
    have h2 : ¬ 0 ≤ parL l 0 := by omega
    simp [descF, h2]
  | succ n =>
    simp only [descF];by_cases h2 : 0 ≤ parL l (n + 1)
    · rw [descF_eq hp k (parL l (n + 1)).toNat n (by omega) (by omega)]
    · simp [h2]
theorem descB_self (l : List TileD) (k : Nat) : descB l k k = true := by unfold descB; cases k <;> simp [descF]
theorem descB_ge {l : List TileD} (hp : parentsB l = true) (k : Nat) : ∀ n, n < l.length → descB l k n = true → k ≤ n := by
  intro n
  induction n using Nat.strongRecOn with
  | _ n ih =>
    intro hn h;have h1 := (parentsB_iff l).1 hp n hn;rw [descB_eq hp k n hn, Bool.or_eq_true] at h;rcases h with h | h
    · have : n = k := by simpa using h
      omega
    · simp only [Bool.and_eq_true, decide_eq_true_eq] at h;have := ih _ (by omega) (by omega) h.2;omega
def rawL (l : List TileD) (k m : Nat) : List Int := blkL l k ++ ((List.range m).filter fun n => n != k && descB l k n).flatMap (blkL l)
def allL (l : List TileD) (k : Int) : List Int := if 0 ≤ k ∧ k < l.length ∧ parentsB l = true then sortD (rawL l k.toNat l.length) else []
theorem mem_rawL (l : List TileD) (k : Nat) (hk : k < l.length) (x : Int) : x ∈ rawL l k l.length ↔ ∃ n, n < l.length ∧ descB l k n = true ∧ x ∈ blkL l n := by
  simp only [rawL, List.mem_append, List.mem_flatMap, List.mem_filter, List.mem_range, Bool.and_eq_true, bne_iff_ne, ne_eq]
  constructor
  · rintro (h | ⟨n, ⟨h1, _, h2⟩, h3⟩)
    · exact ⟨k, hk, descB_self l k, h⟩
    · exact ⟨n, h1, h2, h3⟩
  · rintro ⟨n, h1, h2, h3⟩;by_cases e : n = k
    · subst e; exact .inl h3
    · exact .inr ⟨n, ⟨h1, e, h2⟩, h3⟩
theorem mem_allL (l : List TileD) (k : Nat) (hk : k < l.length) (hp : parentsB l = true) (x : Int) : x ∈ allL l k ↔ ∃ n, n < l.length ∧ descB l k n = true ∧ x ∈ blkL l n := by
  rw [allL, if_pos ⟨by omega, by omega, hp⟩, mem_sortD]
  exact mem_rawL l k hk x
def homes (l : List TileD) (b : Nat) : List Nat := (List.range l.length).flatMap fun k => ((blkL l k).filter fun x => x == (b : Int)).map fun _ => k
def ownB (l : List TileD) (n : Nat) : Bool := (List.range n).all fun b => (homes l b).length == 1
def ownF (l : List TileD) (b : Nat) : Nat := (homes l b).headD 0
def ownL (l : List TileD) (n : Nat) : List Int := (List.range n).map fun (b : Nat) => (ownF l b : Int)
def eqS (f g : Nat → Bool) : Bool := (List.range 200).all fun k => f k == g k
theorem eqS_iff {f g : Nat → Bool} (hf : Canon f) (hg : Canon g) : eqS f g = true ↔ f = g := by
  simp only [eqS, List.all_eq_true, List.mem_range, beq_iff_eq]
  constructor
  · intro h
    funext k
    by_cases hk : k < 200
    · exact h k hk
    · have h1 : f k = false := by
        cases e : f k with
        | false => rfl
        | true => exact absurd (hf k e) hk
      have h2 : g k = false := by
        cases e : g k with
        | false => rfl
        | true => exact absurd (hg k e) hk
      rw [h1, h2]
  · rintro rfl k _; rfl
def ringsB (ts : List TermD) (bs : List Int) (inn : Nat → Bool) : Bool := bs.any fun b => knotS ts b.toNat inn b.toNat
def togetherB (ts : List TermD) (s : Nat → Bool) : Bool := match listS s with
  | [] => true
  | b :: _ => eqS (knotS ts b s) s
def oneB (t : TileD) (e : List Nat) : Bool := e.length == 1 && t.blocks.contains ((e.headD 0 : Nat) : Int)
def holdsB (ts : List TermD) (t : TileD) (s : Nat → Bool) : Bool :=
  if t.kind = 3 then decide (1 < (entriesS ts s).length) && togetherB ts s
  else if t.kind = 2 then oneB t (entriesS ts s) && togetherB ts s && !ringsB ts t.blocks (lessS s ((entriesS ts s).headD 0))
  else if t.kind = 4 then oneB t (entriesS ts s) && !ringsB ts t.blocks s
  else if t.kind = 1 then !ringsB ts t.blocks s else false
def risingB (n : Nat) (bs : List Int) : Bool := (List.range bs.length).all fun i => decide (0 ≤ bs.getD i 0 ∧ bs.getD i 0 < n) && (i == 0 || decide (bs.getD (i - 1) 0 < bs.getD i 0))
def standsB (n : Nat) (l : List TileD) (k : Nat) : Bool :=
  let t := l.getD k zTile
  !(((k == 0) != (t.kind == 1)) || ((k == 0) != (t.parent == -1)) || (t.blocks.length == 0) || (decide (0 < k) && ((l.getD t.parent.toNat zTile).kind == 3))) && risingB n t.blocks
def setK (l : List TileD) (k : Nat) : Nat → Bool := ofS (allL l k)
def rightB (ts : List TermD) (l : List TileD) : Bool :=
  fitsB ts && decide (l.length ≤ 200) && parentsB l && ownB l ts.length && (ownF l 0 == 0) &&
    (List.range l.length).all fun k => standsB ts.length l k && holdsB ts (l.getD k zTile) (setK l k)
end

section
structure EdgeD where
  fr : Int
  arm : Int
  to : Int
deriving DecidableEq
end

section
def chainF (l : List TileD) : Nat → Int → List Int
  | 0, _ => []
  | f + 1, k => if 0 ≤ k then k :: chainF l f (parL l k.toNat) else []
def chainL (l : List TileD) (k : Int) : List Int := chainF l (k.toNat + 1) k
def inL (l : List TileD) (b : Int) : List Int := chainL l (ownF l b.toNat)
def besL (l : List TileD) (b o : Int) : List Int := (inL l b).filter fun k => !(inL l o).contains k
structure RowD where
  e : EdgeD
  lv : List Int
  en : List Int
def rowOf (l : List TileD) (x : EdgeD) : RowD := ⟨x, besL l x.fr x.to, (besL l x.to x.fr).reverse⟩
def betwB (l : List TileD) (asked : EdgeD → Bool) (x : EdgeD) : Bool := (ownF l x.fr.toNat != ownF l x.to.toNat) && asked x
end

section
structure PartD where
  s : Nat → Bool
  kind : Int
  entry : Int
def diffS (a b : Nat → Bool) : Nat → Bool := fun k => if b k then false else a k
def withinB (a b : Nat → Bool) : Bool := (listS a).all b && !eqS a b
def stepP (ts : List TermD) (rec : (Nat → Bool) → List PartD) (inn : Nat → Bool) (st : (Nat → Bool) × List PartD) (k : Nat) : (Nat → Bool) × List PartD :=
  if st.1 k && knotS ts k inn k then
    if 1 < (entriesS ts (knotS ts k inn)).length then (diffS st.1 (knotS ts k inn), st.2 ++ [⟨knotS ts k inn, 3, -1⟩])
    else (diffS st.1 (knotS ts k inn), st.2 ++ ⟨knotS ts k inn, 2, (((entriesS ts (knotS ts k inn)).headD 0 : Nat) : Int)⟩ :: rec (lessS (knotS ts k inn) ((entriesS ts (knotS ts k inn)).headD 0)))
  else st
def loopsP (ts : List TermD) : Nat → (Nat → Bool) → List PartD
  | 0, _ => []
  | f + 1, inn => ((listS inn).foldl (stepP ts (loopsP ts f) inn) (inn, [])).2
def Tog (ts : List TermD) (inn : Nat → Bool) (a b : Nat) : Prop := Reach (nx ts) inn a b ∧ Reach (nx ts) inn b a
theorem Tog.symm {ts : List TermD} {inn : Nat → Bool} {a b : Nat} (h : Tog ts inn a b) : Tog ts inn b a := ⟨h.2, h.1⟩
theorem Tog.trans {ts : List TermD} {inn : Nat → Bool} {a b c : Nat} (h : Tog ts inn a b) (k : Tog ts inn b c) : Tog ts inn a c := ⟨h.1.trans k.1, k.2.trans h.2⟩
theorem Tog.self {ts : List TermD} {inn : Nat → Bool} {a b : Nat} (h : Tog ts inn a b) : Tog ts inn a a := h.trans h.symm
theorem knot_way {ts : List TermD} {inn : Nat → Bool} (hc : Canon inn) {k a b : Nat} (ha : knotS ts k inn a = true) (hb : knotS ts k inn b = true) : Reach (nx ts) (knotS ts k inn) a b := by
  obtain ⟨hk, h1, h2⟩ := (knot_iff hc k a).1 ha
  obtain ⟨_, h3, h4⟩ := (knot_iff hc k b).1 hb
  have key : ∀ y, Reach (nx ts) inn a y → Reach (nx ts) inn y k → Reach (nx ts) (knotS ts k inn) a y := by
    intro y hr
    induction hr with
    | one hy hi => exact fun h => .one hy ((knot_iff hc k _).2 ⟨hk, h1.trans (.one hy hi), h⟩)
    | @step x y hx hy hi ih => exact fun h => .step (ih ((Reach.one hy hi).trans h)) hy ((knot_iff hc k _).2 ⟨hk, h1.trans (.step hx hy hi), h⟩)
  exact key b (h2.trans h3) h4
theorem reach_step {next : Nat → List Nat} {inn : Nat → Bool} {a b : Nat} (h : Reach next inn a b) : ∃ x, (x = a ∨ Reach next inn a x) ∧ b ∈ next x := by
  cases h with
  | one hy _ => exact ⟨a, .inl rfl, hy⟩
  | step hx hy _ => exact ⟨_, .inr hx, hy⟩
theorem reach_enters {next : Nat → List Nat} {inn : Nat → Bool} {a b : Nat} (h : Reach next inn a b) (s : Nat → Bool) (ha : s a = false) (hb : s b = true) : ∃ x y, (x = a ∨ Reach next inn a x) ∧ s x = false ∧ y ∈ next x ∧ s y = true ∧ inn y = true := by
  induction h with
  | one hy hi => exact ⟨a, _, .inl rfl, ha, hy, hb, hi⟩
  | @step x y hx hy hi ih =>
    cases hs : s x with
    | true => exact ih hs
    | false => exact ⟨x, y, .inr hx, hs, hy, hb, hi⟩
structure LoopOK (ts : List TermD) (p : PartD) : Prop where
  some : ∃ y, p.s y = true
  low : ∀ y, p.s y = true → 1 ≤ y ∧ y < ts.length
  tog : ∀ a b, p.s a = true → p.s b = true → Reach (nx ts) p.s a b
  ent : (p.kind = 3 ∧ p.entry = -1 ∧ 1 < (entriesS ts p.s).length) ∨ (p.kind = 2 ∧ 0 ≤ p.entry ∧ entriesS ts p.s = [p.entry.toNat])
def LoopR (p q : PartD) : Prop := (∀ y, p.s y = true → q.s y = false) ∨ (p.kind = 2 ∧ ∀ y, q.s y = true → p.s y = true ∧ y ≠ p.entry.toNat)
def InnerP (ts : List TermD) (ps : List PartD) (p : PartD) : Prop :=
  p.kind = 2 → ∀ b, p.s b = true → Reach (nx ts) (lessS p.s p.entry.toNat) b b → ∃ q ∈ ps, q.s b = true ∧ ∀ y, q.s y = true → p.s y = true ∧ y ≠ p.entry.toNat
structure LoopsF (ts : List TermD) (inn : Nat → Bool) (ps : List PartD) : Prop where
  ring : ∀ b, inn b = true → Reach (nx ts) inn b b → ∃ p ∈ ps, p.s b = true
  out : ∀ p ∈ ps, ∀ y, p.s y = true → inn y = true ∧ Reach (nx ts) inn y y
  ok : ∀ p ∈ ps, LoopOK ts p
  pw : ps.Pairwise LoopR
  inner : ∀ p ∈ ps, InnerP ts ps p
structure LoopsJ (ts : List TermD) (inn : Nat → Bool) (d : List Nat) (left : Nat → Bool) (ps : List PartD) : Prop where
  sub : ∀ y, left y = true → inn y = true
  cls : ∀ y z, inn y = true → left y = false → Tog ts inn y z → left z = false
  seen : ∀ k ∈ d, Reach (nx ts) inn k k → left k = false
  cov : ∀ y, inn y = true → left y = false → ∃ p ∈ ps, p.s y = true
  out : ∀ p ∈ ps, ∀ y, p.s y = true → inn y = true ∧ left y = false ∧ Reach (nx ts) inn y y
  ok : ∀ p ∈ ps, LoopOK ts p
  pw : ps.Pairwise LoopR
  inner : ∀ p ∈ ps, InnerP ts ps p
theorem fits_facts {ts : List TermD} (hf : fitsB ts = true) : goodB ts = true ∧ (1 ≤ ts.length ∧ ts.length ≤ 200) ∧ ∀ y, 1 ≤ y → y < ts.length → Reach (nx ts) (wholeS ts.length) 0 y := by
  simp only [fitsB, Bool.and_eq_true, List.all_eq_true, List.mem_range, Bool.or_eq_true, beq_iff_eq] at hf
  have hl := ((goodB_iff ts).1 hf.1).1
  refine ⟨hf.1, hl, fun y h1 h2 => ?_⟩
  rcases hf.2 y h2 with h | h
  · omega
  · exact ((walkF_iff (whole_canon hl.2) 0 y).1 h).2
theorem mem_entries {ts : List TermD} {s : Nat → Bool} (hs : Canon s) (b : Nat) : b ∈ entriesS ts s ↔ s b = true ∧ b < ts.length ∧ ∃ x, b ∈ nx ts x ∧ s x = false := by
  simp only [entriesS, List.mem_filter, mem_listS hs, Bool.and_eq_true, decide_eq_true_eq, List.any_eq_true, Bool.not_eq_true']
  constructor
  · rintro ⟨h1, h2, x, h3, h4⟩; exact ⟨h1, h2, x, (mem_pv ts b x).1 h3, h4⟩
  · rintro ⟨h1, h2, x, h3, h4⟩; exact ⟨h1, h2, x, (mem_pv ts b x).2 h3, h4⟩
theorem entered {ts : List TermD} (hf : fitsB ts = true) {s : Nat → Bool} (hs : Canon s) {y : Nat} (hy : s y = true) (hlow : ∀ y, s y = true → 1 ≤ y ∧ y < ts.length) : entriesS ts s ≠ [] := by
  obtain ⟨hg, hl, hr⟩ := fits_facts hf
  have h0 : s 0 = false := by
    cases e : s 0 with
    | false => rfl
    | true => have := hlow 0 e; omega
  obtain ⟨x, z, _, h1, h2, h3, _⟩ := reach_enters (hr y (hlow y hy).1 (hlow y hy).2) s h0 hy
  intro e
  have : z ∈ entriesS ts s := (mem_entries hs z).2 ⟨h3, (hlow z h3).2, x, h2, h1⟩
  rw [e] at this
  cases this
theorem entries_one {l : List Nat} (h0 : l ≠ []) (h1 : ¬ 1 < l.length) : l = [l.headD 0] := by
  match l, h0, h1 with
  | [x], _, _ => rfl
  | x :: y :: l, _, h => simp at h
theorem less_len {s inn : Nat → Bool} {e : Nat} (hs : ∀ y, s y = true → inn y = true) (hc : Canon inn) (he : s e = true) : (listS (lessS s e)).length < (listS inn).length := by
  unfold listS
  have key : ∀ (l : List Nat), (l.filter (lessS s e)).length ≤ (l.filter inn).length ∧ (e ∈ l → (l.filter (lessS s e)).length < (l.filter inn).length) := by
    intro l
    induction l with
    | nil => simp
    | cons x l ih =>
      simp only [List.filter_cons];by_cases h1 : lessS s e x = true
      · have h2 : x ≠ e ∧ s x = true := by simpa [lessS] using h1
        have h3 := hs x h2.2;rw [if_pos h1, if_pos h3];refine ⟨by simp; exact ih.1, fun h => ?_⟩;rcases List.mem_cons.1 h with rfl | h
        · exact absurd rfl h2.1
        · simp; exact ih.2 h
      · rw [if_neg h1];by_cases h3 : inn x = true
        · rw [if_pos h3];exact ⟨by simp; omega, fun _ => by simp; omega⟩
        · rw [if_neg h3];refine ⟨ih.1, fun h => ?_⟩;rcases List.mem_cons.1 h with rfl | h
          · exact absurd (hs _ he) h3
          · exact ih.2 h
  exact (key (List.range 200)).2 (by simp; exact hc _ (hs _ he))
theorem mem_less {s : Nat → Bool} {e y : Nat} : lessS s e y = true ↔ y ≠ e ∧ s y = true := by simp [lessS]
section
variable {ts : List TermD} {inn : Nat → Bool} {d : List Nat} {left : Nat → Bool} {ps : List PartD} {k : Nat}
theorem LoopsJ.skip (h : LoopsJ ts inn d left ps) (hc : Canon inn) (hk : inn k = true) (hn : ¬ (left k && knotS ts k inn k) = true) : LoopsJ ts inn (d ++ [k]) left ps where
  sub := h.sub
  cls := h.cls
  seen := fun x hx hr => by
    rcases List.mem_append.1 hx with hx | hx
    · exact h.seen x hx hr
    · have hx : x = k := by simpa using hx
      subst hx;cases e : left x with
      | false => rfl
      | true =>
        have : knotS ts x inn x = true := (knot_iff hc x x).2 ⟨hk, hr, hr⟩;exact absurd (by rw [e, this]; rfl) hn
  cov := h.cov
  out := h.out
  ok := h.ok
  pw := h.pw
  inner := h.inner
theorem knot_ok (hf : fitsB ts = true) (hc : Canon inn) (hin : ∀ y, inn y = true → y < ts.length) (hk : knotS ts k inn k = true) (kind entry : Int)
    (hent : (kind = 3 ∧ entry = -1 ∧ 1 < (entriesS ts (knotS ts k inn)).length) ∨ (kind = 2 ∧ 0 ≤ entry ∧ entriesS ts (knotS ts k inn) = [entry.toNat])) : LoopOK ts ⟨knotS ts k inn, kind, entry⟩ where
  some := ⟨k, hk⟩
  low := fun y hy => by
    have h := ((knot_iff hc k y).1 hy).2.1;obtain ⟨x, _, hx⟩ := reach_step h;have := good_nx (fits_facts hf).1 hx;exact this
  tog := fun a b ha hb => knot_way hc ha hb
  ent := hent
theorem LoopsJ.found (h : LoopsJ ts inn d left ps) (hc : Canon inn) (hk : inn k = true) (hl : left k = true) (hkk : knotS ts k inn k = true) (p : PartD) (hp : p.s = knotS ts k inn) (hok : LoopOK ts p) (sub : List PartD)
    (hsub : (p.kind = 3 ∧ sub = []) ∨ (p.kind = 2 ∧ LoopsF ts (lessS p.s p.entry.toNat) sub)) : LoopsJ ts inn (d ++ [k]) (diffS left (knotS ts k inn)) (ps ++ p :: sub) := by
  have hd : ∀ y, diffS left (knotS ts k inn) y = true ↔ left y = true ∧ knotS ts k inn y = false := fun y => by
    simp only [diffS]
    split
    · simp_all
    · simp_all
  have hdf : ∀ y, diffS left (knotS ts k inn) y = false ↔ left y = false ∨ knotS ts k inn y = true := fun y => by
    simp only [diffS]
    split
    · simp_all
    · simp_all
  have hkn : ∀ y, knotS ts k inn y = true ↔ Tog ts inn k y := fun y => by rw [knot_iff hc]; exact ⟨fun h => h.2, fun h => ⟨hk, h⟩⟩
  have hin : ∀ q ∈ p :: sub, ∀ y, q.s y = true → knotS ts k inn y = true := by
    intro q hq y hy;rcases List.mem_cons.1 hq with rfl | hq
    · rw [← hp]; exact hy
    · rcases hsub with ⟨_, rfl⟩ | ⟨_, hF⟩
      · cases hq
      · have := (hF.out q hq y hy).1;rw [← hp];exact (mem_less.1 this).2
  have hleft : ∀ y, knotS ts k inn y = true → left y = true := fun y hy => by
    cases e : left y with
    | true => rfl
    | false =>
      have h1 := (hkn y).1 hy;have := h.cls y k h1.1.inn e h1.symm;rw [hl] at this;cases this
  refine ⟨fun y hy => h.sub y ((hd y).1 hy).1, ?_, ?_, ?_, ?_, ?_, ?_, ?_⟩
  · intro y z hy hly ht;rw [hdf] at hly ⊢;rcases hly with hly | hly
    · exact .inl (h.cls y z hy hly ht)
    · exact .inr ((hkn z).2 (((hkn y).1 hly).trans ht))
  · intro x hx hr;rw [hdf];rcases List.mem_append.1 hx with hx | hx
    · exact .inl (h.seen x hx hr)
    · have hx : x = k := by simpa using hx
      subst hx;exact .inr hkk
  · intro y hy hly;rcases (hdf y).1 hly with hly | hly
    · obtain ⟨q, hq, hqs⟩ := h.cov y hy hly;exact ⟨q, List.mem_append_left _ hq, hqs⟩
    · exact ⟨p, List.mem_append_right _ (List.mem_cons_self ..), by rw [hp]; exact hly⟩
  · intro q hq y hy;rcases List.mem_append.1 hq with hq | hq
    · obtain ⟨h1, h2, h3⟩ := h.out q hq y hy;exact ⟨h1, (hdf y).2 (.inl h2), h3⟩
    · have h1 := hin q hq y hy;have h2 := (hkn y).1 h1;exact ⟨h2.1.inn, (hdf y).2 (.inr h1), (h2.symm.self).1⟩
  · intro q hq;rcases List.mem_append.1 hq with hq | hq
    · exact h.ok q hq
    · rcases List.mem_cons.1 hq with rfl | hq
      · exact hok
      · rcases hsub with ⟨_, rfl⟩ | ⟨_, hF⟩
        · cases hq
        · exact hF.ok q hq
  · rw [List.pairwise_append];refine ⟨h.pw, ?_, fun a ha b hb => .inl fun y hy => ?_⟩
    · rw [List.pairwise_cons];rcases hsub with ⟨_, rfl⟩ | ⟨h2, hF⟩
      · exact ⟨fun q hq => absurd hq (by simp), List.Pairwise.nil⟩
      · refine ⟨fun q hq => .inr ⟨h2, fun y hy => ?_⟩, hF.pw⟩;have := mem_less.1 (hF.out q hq y hy).1;exact ⟨this.2, this.1⟩
    · cases e : b.s y with
      | false => rfl
      | true =>
        have h1 := hleft y (hin b hb y e);have h2 := (h.out a ha y hy).2.1;rw [h1] at h2;cases h2
  · intro q hq h2 b hb hr;rcases List.mem_append.1 hq with hq | hq
    · obtain ⟨q', h3, h4⟩ := h.inner q hq h2 b hb hr;exact ⟨q', List.mem_append_left _ h3, h4⟩
    · rcases hsub with ⟨h3, rfl⟩ | ⟨h3, hF⟩
      · have : q = p := by simpa using hq
        subst this;rw [h3] at h2;cases h2
      · rcases List.mem_cons.1 hq with rfl | hq
        · obtain ⟨q', h4, h5⟩ := hF.ring b hr.inn hr;refine ⟨q', by simp [h4], h5, fun y hy => ?_⟩;have := mem_less.1 (hF.out q' h4 y hy).1;exact ⟨this.2, this.1⟩
        · obtain ⟨q', h4, h5⟩ := hF.inner q hq h2 b hb hr;exact ⟨q', by simp [h4], h5⟩
end
theorem foldl_inv {α β : Type} {f : β → α → β} (I : List α → β → Prop) : ∀ (r d : List α) (b : β), I d b → (∀ d x b, x ∈ r → I d b → I (d ++ [x]) (f b x)) → I (d ++ r) (r.foldl f b)
  | [], d, b, h, _ => by simpa using h
  | x :: r, d, b, h, hs => by
    rw [show d ++ x :: r = (d ++ [x]) ++ r by simp, List.foldl_cons];exact foldl_inv I r (d ++ [x]) (f b x) (hs d x b (by simp) h) (fun d y b hy => hs d y b (by simp [hy]))
theorem loopsP_ok {ts : List TermD} (hf : fitsB ts = true) : ∀ (f : Nat) (inn : Nat → Bool), Canon inn → (∀ y, inn y = true → y < ts.length) → (listS inn).length < f → LoopsF ts inn (loopsP ts f inn) := by
  intro f
  induction f with
  | zero => intro inn _ _ h; omega
  | succ f ih =>
    intro inn hc hin hlen;have key : LoopsJ ts inn ([] ++ listS inn) ((listS inn).foldl (stepP ts (loopsP ts f) inn) (inn, [])).1 ((listS inn).foldl (stepP ts (loopsP ts f) inn) (inn, [])).2 := by
      refine foldl_inv (fun d (st : (Nat → Bool) × List PartD) => LoopsJ ts inn d st.1 st.2) _ _ _ ⟨fun y h => h, fun y z h1 h2 => (by cases h1.symm.trans h2), fun k hk => (by cases hk), fun y h1 h2 => (by cases h1.symm.trans h2), fun p hp => (by cases hp), fun p hp => (by cases hp), List.Pairwise.nil, fun p hp => (by cases hp)⟩ ?_;intro d k st hk h;have hk' := (mem_listS hc k).1 hk;unfold stepP;by_cases hkk : (st.1 k && knotS ts k inn k) = true
      · rw [if_pos hkk];simp only [Bool.and_eq_true] at hkk;by_cases he : 1 < (entriesS ts (knotS ts k inn)).length
        · rw [if_pos he];have hok := knot_ok hf hc hin hkk.2 3 (-1) (.inl ⟨rfl, rfl, he⟩);exact h.found hc hk' hkk.1 hkk.2 ⟨_, 3, -1⟩ rfl hok [] (.inl ⟨rfl, rfl⟩)
        · rw [if_neg he];have hcn : Canon (knotS ts k inn) := knot_canon hc k;have hlow : ∀ y, knotS ts k inn y = true → 1 ≤ y ∧ y < ts.length := fun y hy => by
            obtain ⟨x, _, hx⟩ := reach_step ((knot_iff hc k y).1 hy).2.1;exact good_nx (fits_facts hf).1 hx
          have he0 := entries_one (entered hf hcn hkk.2 hlow) he;generalize (entriesS ts (knotS ts k inn)).headD 0 = e at *;have hes : knotS ts k inn e = true := ((mem_entries hcn e).1 (by rw [he0]; simp)).1;have hok := knot_ok hf hc hin hkk.2 2 (e : Int) (.inr ⟨rfl, by omega, by simpa using he0⟩);refine h.found hc hk' hkk.1 hkk.2 ⟨_, 2, (e : Int)⟩ rfl hok _ (.inr ⟨rfl, ?_⟩);refine ih _ (less_canon hcn _) (fun y hy => (hlow y (mem_less.1 hy).2).2) ?_;exact Nat.lt_of_lt_of_le (less_len (s := knotS ts k inn) (inn := inn) (e := e) (fun y hy => ((knot_iff hc k y).1 hy).2.1.inn) hc hes) (by omega)
      · rw [if_neg hkk];exact h.skip hc hk' hkk
    simp only [List.nil_append] at key;rw [loopsP];exact {
      ring := fun b hb hr => key.cov b hb (key.seen b ((mem_listS hc b).2 hb) hr)
      out := fun p hp y hy => ⟨(key.out p hp y hy).1, (key.out p hp y hy).2.2⟩
      ok := key.ok
      pw := key.pw
      inner := key.inner }
end

section
def wholeP (n : Nat) : PartD := ⟨wholeS n, 1, 0⟩
def smallStep (k : Nat) (best p : PartD) : PartD := if p.s k && withinB p.s best.s then p else best
def smallestP (n : Nat) (ps : List PartD) (k : Nat) : PartD := ps.foldl (smallStep k) (wholeP n)
def guardedP (ts : List TermD) (k : Nat) (of : Nat → Bool) : Nat → Bool := fun x => of x && !(x == 0 || walkF (nx ts) (lessS (wholeS ts.length) k) 0 x)
def condP (ts : List TermD) (ps : List PartD) (k : Nat) : Option PartD :=
  if (pv ts k).length = 1 ∧ (nx ts ((pv ts k).headD 0)).length = 2 ∧ (smallestP ts.length ps k).kind ≠ 3 ∧ (smallestP ts.length ps k).entry ≠ k ∧ 1 < (listS (guardedP ts k (smallestP ts.length ps k).s)).length then
    some ⟨guardedP ts k (smallestP ts.length ps k).s, 4, k⟩ else none
def condsP (ts : List TermD) (ps : List PartD) : List PartD := (List.range ts.length).filterMap (condP ts ps)
def partsP (ts : List TermD) : List PartD := loopsP ts 201 (wholeS ts.length) ++ condsP ts (loopsP ts 201 (wholeS ts.length))
def Strict (a b : Nat → Bool) : Prop := (∀ y, a y = true → b y = true) ∧ ∃ y, b y = true ∧ a y = false
theorem within_iff {a b : Nat → Bool} (ha : Canon a) (hb : Canon b) : withinB a b = true ↔ Strict a b := by
  simp only [withinB, Bool.and_eq_true, List.all_eq_true, Bool.not_eq_true']
  constructor
  · rintro ⟨h1, h2⟩;have h1 : ∀ y, a y = true → b y = true := fun y hy => h1 y ((mem_listS ha y).2 hy);refine ⟨h1, Classical.byContradiction fun hn => ?_⟩;have e : a = b := by
      funext y
      cases e : b y with
      | false =>
        cases e2 : a y with
        | false => rfl
        | true => rw [h1 y e2] at e; cases e
      | true =>
        cases e2 : a y with
        | true => rfl
        | false => exact absurd ⟨y, e, e2⟩ hn
    rw [(eqS_iff ha hb).2 e] at h2;cases h2
  · rintro ⟨h1, y, h2, h3⟩;refine ⟨fun y hy => h1 y ((mem_listS ha y).1 hy), ?_⟩;cases e : eqS a b with
    | false => rfl
    | true => rw [(eqS_iff ha hb).1 e, h2] at h3; cases h3
def Disj (a b : Nat → Bool) : Prop := ∀ y, a y = true → b y = false
theorem Disj.symm {a b : Nat → Bool} (h : Disj a b) : Disj b a := fun y hy => by
  cases e : a y with
  | false => rfl
  | true => rw [h y e] at hy; cases hy
def ApartP (p q : PartD) : Prop := Disj p.s q.s ∨ Strict p.s q.s ∨ Strict q.s p.s
theorem ApartP.symm {p q : PartD} (h : ApartP p q) : ApartP q p := h.elim (fun h => .inl h.symm) fun h => .inr h.symm
theorem Strict.irrefl {a : Nat → Bool} (h : Strict a a) : False := by obtain ⟨_, y, h1, h2⟩ := h; rw [h1] at h2; cases h2
theorem Strict.trans {a b c : Nat → Bool} (h : Strict a b) (k : Strict b c) : Strict a c := by
  obtain ⟨h1, y, h2, h3⟩ := h
  exact ⟨fun y hy => k.1 y (h1 y hy), y, k.1 y h2, h3⟩
theorem Strict.asymm {a b : Nat → Bool} (h : Strict a b) (k : Strict b a) : False := (h.trans k).irrefl
def Dom (ts : List TermD) (k x : Nat) : Prop := ¬ Reach (nx ts) (lessS (wholeS ts.length) k) 0 x
section
variable {ts : List TermD}
theorem dom_self (k : Nat) : Dom ts k k := fun h => by have := h.inn; simp [lessS] at this
theorem whole_less {k y : Nat} : lessS (wholeS ts.length) k y = true ↔ y ≠ k ∧ y < ts.length := by simp [lessS, wholeS]
theorem dom_trans {a b x : Nat} (h : Dom ts a b) (k : Dom ts b x) : Dom ts a x := by
  intro hr
  have key : ∀ y, Reach (nx ts) (lessS (wholeS ts.length) a) 0 y → Reach (nx ts) (lessS (wholeS ts.length) b) 0 y := by
    intro y hr
    induction hr with
    | @one y hy hi =>
      by_cases e : y = b
      · subst e; exact absurd (.one hy hi) h
      · exact .one hy (whole_less.2 ⟨e, (whole_less.1 hi).2⟩)
    | @step x y hx hy hi ih =>
      by_cases e : y = b
      · subst e; exact absurd (.step hx hy hi) h
      · exact .step ih hy (whole_less.2 ⟨e, (whole_less.1 hi).2⟩)
  exact k (key x hr)
theorem dom_anti {a b : Nat} (hr : Reach (nx ts) (wholeS ts.length) 0 a) (hne : a ≠ b) (h : Dom ts a b) (k : Dom ts b a) : False := by
  have key : ∀ y, Reach (nx ts) (wholeS ts.length) 0 y → Reach (nx ts) (lessS (lessS (wholeS ts.length) a) b) 0 y := by
    have ex : ∀ y x, (x = 0 ∨ Reach (nx ts) (lessS (lessS (wholeS ts.length) a) b) 0 x) → y ∈ nx ts x → wholeS ts.length y = true → Reach (nx ts) (lessS (lessS (wholeS ts.length) a) b) 0 y := by
      intro y x hx hy hi;have hi2 : y < ts.length := by simpa [wholeS] using hi
      have up : ∀ (c : Nat), (∀ z, lessS (lessS (wholeS ts.length) a) b z = true → lessS (wholeS ts.length) c z = true) → y ≠ c → Reach (nx ts) (lessS (wholeS ts.length) c) 0 y := fun c hc hyc => by
        rcases hx with rfl | hx
        · exact .one hy (whole_less.2 ⟨hyc, hi2⟩)
        · exact .step (hx.mono hc) hy (whole_less.2 ⟨hyc, hi2⟩)
      by_cases e1 : y = a
      · subst e1;exact absurd (up b (fun z hz => by simp [lessS] at hz ⊢; exact ⟨hz.1, hz.2.2⟩) hne) k
      · by_cases e2 : y = b
        · subst e2;exact absurd (up a (fun z hz => by simp [lessS] at hz ⊢; exact hz.2) (fun e => hne e.symm)) h
        · have hin : lessS (lessS (wholeS ts.length) a) b y = true := by simp [lessS, wholeS, e1, e2, hi2]
          rcases hx with rfl | hx
          · exact .one hy hin
          · exact .step hx hy hin
    intro y hr
    induction hr with
    | one hy hi => exact ex _ _ (.inl rfl) hy hi
    | step hx hy hi ih => exact ex _ _ (.inr ih) hy hi
  have := (key a hr).inn
  simp [lessS] at this
theorem dom_chain {a b x : Nat} (hr : Reach (nx ts) (wholeS ts.length) 0 x) (h : Dom ts a x) (k : Dom ts b x) : Dom ts a b ∨ Dom ts b a := by
  apply Classical.byContradiction
  intro hn
  rw [not_or] at hn
  have h1 := Classical.not_not.1 hn.1
  have h2 := Classical.not_not.1 hn.2
  have key : ∀ y, Reach (nx ts) (wholeS ts.length) 0 y → Reach (nx ts) (lessS (wholeS ts.length) a) 0 y ∨ Reach (nx ts) (lessS (wholeS ts.length) b) 0 y := by
    intro y hr
    induction hr with
    | @one y hy hi =>
      have hi2 : y < ts.length := by simpa [wholeS] using hi
      by_cases e : y = a
      · subst e; exact .inr h2
      · exact .inl (.one hy (whole_less.2 ⟨e, hi2⟩))
    | @step x y hx hy hi ih =>
      have hi2 : y < ts.length := by simpa [wholeS] using hi
      by_cases e : y = a
      · subst e; exact .inr h2
      · by_cases e2 : y = b
        · subst e2; exact .inl h1
        · rcases ih with ih | ih
          · exact .inl (.step ih hy (whole_less.2 ⟨e, hi2⟩))
          · exact .inr (.step ih hy (whole_less.2 ⟨e2, hi2⟩))
  rcases key x hr with hk | hk
  · exact h hk
  · exact k hk
theorem dom_all {s : Nat → Bool} (hs : ∀ y, s y = true → y < ts.length) (ht : ∀ a b, s a = true → s b = true → Reach (nx ts) s a b) {k x : Nat} (hk : s k = false) (hx : s x = true) (hd : Dom ts k x) : ∀ y, s y = true → Dom ts k y := by
  intro y hy hr
  refine hd (hr.trans ((ht y x hy hx).mono fun z hz => whole_less.2 ⟨fun e => ?_, hs z hz⟩))
  subst e
  rw [hk] at hz
  cases hz
theorem reach_first {next : Nat → List Nat} {inn : Nat → Bool} {a b : Nat} (h : Reach next inn a b) (s : Nat → Bool) (ha : s a = false) (hb : s b = true) : ∃ x y, (x = a ∨ Reach next (diffS inn s) a x) ∧ s x = false ∧ y ∈ next x ∧ s y = true ∧ inn y = true := by
  have key : ∀ y, Reach next inn a y → (∃ x z, (x = a ∨ Reach next (diffS inn s) a x) ∧ s x = false ∧ z ∈ next x ∧ s z = true ∧ inn z = true) ∨ (s y = false ∧ Reach next (diffS inn s) a y) := by
    have ex : ∀ x y, s x = false → (x = a ∨ Reach next (diffS inn s) a x) → y ∈ next x → inn y = true → (∃ x z, (x = a ∨ Reach next (diffS inn s) a x) ∧ s x = false ∧ z ∈ next x ∧ s z = true ∧ inn z = true) ∨ (s y = false ∧ Reach next (diffS inn s) a y) := by
      intro x y hsx hx hy hi;cases e : s y with
      | true => exact .inl ⟨x, y, hx, hsx, hy, e, hi⟩
      | false =>
        have hd : diffS inn s y = true := by simp [diffS, e, hi]
        refine .inr ⟨rfl, ?_⟩;rcases hx with rfl | hx
        · exact .one hy hd
        · exact .step hx hy hd
    intro y hr
    induction hr with
    | one hy hi => exact ex _ _ ha (.inl rfl) hy hi
    | step hx hy hi ih =>
      rcases ih with ih | ⟨h1, h2⟩
      · exact .inl ih
      · exact ex _ _ h1 (.inr h2) hy hi
  rcases key b h with h1 | ⟨h1, _⟩
  · exact h1
  · rw [hb] at h1; cases h1
theorem entry_free {p : PartD} (hf : fitsB ts = true) (hok : LoopOK ts p) (h2 : p.kind = 2) {k : Nat} (hk : p.s k = true) (hne : k ≠ p.entry.toNat) : ¬ Dom ts k p.entry.toNat ∧ p.s p.entry.toNat = true := by
  obtain ⟨hg, hl, hr⟩ := fits_facts hf
  have hcan : Canon p.s := fun y hy => by have := hok.low y hy; omega
  have he : entriesS ts p.s = [p.entry.toNat] := by
    rcases hok.ent with ⟨h, _⟩ | ⟨_, _, h⟩
    · rw [h2] at h; cases h
    · exact h
  have hes := (mem_entries hcan p.entry.toNat).1 (by rw [he]; simp)
  refine ⟨fun hd => ?_, hes.1⟩
  have h0 : p.s 0 = false := by
    cases e : p.s 0 with
    | false => rfl
    | true => have := hok.low 0 e; omega
  obtain ⟨x, y, hx, h3, h4, h5, h6⟩ := reach_first (hr k (hok.low k hk).1 (hok.low k hk).2) p.s h0 hk
  have hy : y = p.entry.toNat := by
    have : y ∈ entriesS ts p.s := (mem_entries hcan y).2 ⟨h5, (hok.low y h5).2, x, h4, h3⟩;rw [he] at this;simpa using this
  subst hy
  have hin : lessS (wholeS ts.length) k p.entry.toNat = true := whole_less.2 ⟨fun e => hne e.symm, hes.2.1⟩
  rcases hx with rfl | hx
  · exact hd (.one h4 hin)
  · refine hd (.step (hx.mono fun z hz => ?_) h4 hin);simp only [diffS] at hz
    split at hz
    · cases hz
    · rename_i hz2
      refine whole_less.2 ⟨fun e => ?_, by simpa [wholeS] using hz⟩;subst e;exact hz2 hk
end
end

section
structure PartsOK (ts : List TermD) (ps : List PartD) : Prop where
  some : ∀ p ∈ ps, ∃ y, p.s y = true
  low : ∀ p ∈ ps, ∀ y, p.s y = true → 1 ≤ y ∧ y < ts.length
  kind : ∀ p ∈ ps, p.kind = 2 ∨ p.kind = 3 ∨ p.kind = 4
  pw : ps.Pairwise ApartP
  noreg : ∀ p ∈ ps, p.kind = 3 → ∀ q ∈ ps, ¬ Strict q.s p.s
  ent : ∀ p ∈ ps, p.kind ≠ 3 → 0 ≤ p.entry ∧ entriesS ts p.s = [p.entry.toNat] ∧ p.s p.entry.toNat = true ∧ ∀ q ∈ ps, Strict q.s p.s → q.s p.entry.toNat = false
  ent3 : ∀ p ∈ ps, p.kind = 3 → 1 < (entriesS ts p.s).length
  tog : ∀ p ∈ ps, p.kind ≠ 4 → ∀ a b, p.s a = true → p.s b = true → Reach (nx ts) p.s a b
  ring2 : ∀ p ∈ ps, p.kind = 2 → ∀ b, p.s b = true → (∀ q ∈ ps, Strict q.s p.s → q.s b = false) → ¬ Reach (nx ts) (lessS p.s p.entry.toNat) b b
  ring4 : ∀ p ∈ ps, p.kind = 4 → ∀ b, p.s b = true → (∀ q ∈ ps, Strict q.s p.s → q.s b = false) → ¬ Reach (nx ts) p.s b b
  ring1 : ∀ b, (∀ q ∈ ps, q.s b = false) → ¬ Reach (nx ts) (wholeS ts.length) b b
theorem pair_of {α : Type} {R : α → α → Prop} {l : List α} (h : l.Pairwise R) {p q : α} (hp : p ∈ l) (hq : q ∈ l) : p = q ∨ R p q ∨ R q p := by
  induction l with
  | nil => cases hp
  | cons x l ih =>
    rw [List.pairwise_cons] at h;rcases List.mem_cons.1 hp with ep | hp'
    · rcases List.mem_cons.1 hq with eq | hq'
      · exact .inl (ep.trans eq.symm)
      · exact .inr (.inl (ep ▸ h.1 q hq'))
    · rcases List.mem_cons.1 hq with eq | hq'
      · exact .inr (.inr (eq ▸ h.1 p hp'))
      · exact ih h.2 hp' hq'
section
variable {ts : List TermD} {ps : List PartD} (hf : fitsB ts = true) (F : LoopsF ts (wholeS ts.length) ps)
include hf F
omit hf in
theorem loop_can {p : PartD} (hp : p ∈ ps) (hl : ts.length ≤ 200) : Canon p.s := fun y hy => by have := (F.ok p hp).low y hy; omega
omit hf in
theorem loop_two {p q : PartD} (hp : p ∈ ps) (hq : q ∈ ps) : p = q ∨ Disj p.s q.s ∨ (p.kind = 2 ∧ p.s p.entry.toNat = true ∧ ∀ y, q.s y = true → p.s y = true ∧ y ≠ p.entry.toNat) ∨ (q.kind = 2 ∧ q.s q.entry.toNat = true ∧ ∀ y, p.s y = true → q.s y = true ∧ y ≠ q.entry.toNat) := by
  have ent : ∀ p ∈ ps, p.kind = 2 → (∃ q ∈ ps, ∀ y, q.s y = true → p.s y = true ∧ y ≠ p.entry.toNat) → p.s p.entry.toNat = true := by
    intro p hp h2 _;rcases (F.ok p hp).ent with ⟨h, _⟩ | ⟨_, _, h⟩
    · rw [h2] at h; cases h
    · have : p.entry.toNat ∈ entriesS ts p.s := by rw [h]; simp
      simp only [entriesS, List.mem_filter, listS] at this;exact this.1.2
  rcases pair_of F.pw hp hq with h | (h | ⟨h1, h2⟩) | (h | ⟨h1, h2⟩)
  · exact .inl h
  · exact .inr (.inl h)
  · exact .inr (.inr (.inl ⟨h1, ent p hp h1 ⟨q, hq, h2⟩, h2⟩))
  · exact .inr (.inl (Disj.symm h))
  · exact .inr (.inr (.inr ⟨h1, ent q hq h1 ⟨p, hp, h2⟩, h2⟩))
theorem small_spec {k : Nat} (hk : k < ts.length) : (smallestP ts.length ps k).s k = true ∧ (smallestP ts.length ps k = wholeP ts.length ∨ smallestP ts.length ps k ∈ ps) ∧ ∀ q ∈ ps, q.s k = true → ∀ y, (smallestP ts.length ps k).s y = true → q.s y = true := by
  obtain ⟨hg, hl, hr⟩ := fits_facts hf
  rw [smallestP]
  have key : (fun (d : List PartD) (best : PartD) => best.s k = true ∧ (best = wholeP ts.length ∨ best ∈ ps) ∧ ∀ q ∈ d, q.s k = true → ∀ y, best.s y = true → q.s y = true) ([] ++ ps) (ps.foldl (smallStep k) (wholeP ts.length)) := by
    refine foldl_inv (fun (d : List PartD) (best : PartD) => best.s k = true ∧ (best = wholeP ts.length ∨ best ∈ ps) ∧ ∀ q ∈ d, q.s k = true → ∀ y, best.s y = true → q.s y = true) _ _ _ ⟨by simp [wholeP, wholeS, hk], .inl rfl, fun q hq => by cases hq⟩ ?_;intro d q best hq ⟨h1, h2, h3⟩;unfold smallStep;have cq := loop_can F hq hl.2;have cb : Canon best.s := by
      rcases h2 with rfl | h2
      · exact whole_canon hl.2
      · exact loop_can F h2 hl.2
    by_cases hw : (q.s k && withinB q.s best.s) = true
    · rw [if_pos hw];rw [Bool.and_eq_true, within_iff cq cb] at hw;refine ⟨hw.1, .inr hq, fun q' hq' hk' y hy => ?_⟩;rcases List.mem_append.1 hq' with hq' | hq'
      · exact h3 q' hq' hk' y (hw.2.1 y hy)
      · have : q' = q := by simpa using hq'
        subst this; exact hy
    · rw [if_neg hw];refine ⟨h1, h2, fun q' hq' hk' y hy => ?_⟩;rcases List.mem_append.1 hq' with hq' | hq'
      · exact h3 q' hq' hk' y hy
      · have : q' = q := by simpa using hq'
        subst this;rw [Bool.and_eq_true, within_iff cq cb, not_and] at hw;have hw := hw hk';rcases h2 with rfl | h2
        · refine absurd ⟨fun z hz => ?_, 0, ?_, ?_⟩ hw
          · have := (F.ok q' hq).low z hz; simp [wholeP, wholeS]; omega
          · simp [wholeP, wholeS]; omega
          · cases e : q'.s 0 with
            | false => rfl
            | true => have := (F.ok q' hq).low 0 e; omega
        · rcases loop_two F h2 hq with rfl | h | ⟨_, h4, h5⟩ | ⟨_, h4, h5⟩
          · exact hy
          · rw [h k h1] at hk'; cases hk'
          · refine absurd ⟨fun z hz => (h5 z hz).1, _, h4, ?_⟩ hw;cases e : q'.s best.entry.toNat with
            | false => rfl
            | true => exact absurd rfl (h5 _ e).2
          · exact (h5 y hy).1
  simpa using key
omit F in
theorem mem_guarded {k x : Nat} (hk : 1 ≤ k) (of : Nat → Bool) : guardedP ts k of x = true ↔ of x = true ∧ 1 ≤ x ∧ Dom ts k x := by
  obtain ⟨hg, hl, hr⟩ := fits_facts hf
  simp only [guardedP, Bool.and_eq_true, Bool.not_eq_true', Bool.or_eq_false_iff, beq_eq_false_iff_ne]
  have h0 : lessS (wholeS ts.length) k 0 = true := whole_less.2 ⟨by omega, by omega⟩
  have := walkF_iff (less_canon (whole_canon hl.2) k) (next := nx ts) 0 x
  rw [h0] at this
  simp only [true_and] at this
  constructor
  · rintro ⟨h1, h2, h3⟩;exact ⟨h1, by omega, fun h => by rw [this.2 h] at h3; cases h3⟩
  · rintro ⟨h1, h2, h3⟩;refine ⟨h1, by omega, ?_⟩;cases e : walkF (nx ts) (lessS (wholeS ts.length) k) 0 x with
    | false => rfl
    | true => exact absurd (this.1 e) h3
structure CondOK (ts : List TermD) (ps : List PartD) (c : PartD) (k : Nat) (p : PartD) : Prop where
  low : 1 ≤ k ∧ k < ts.length
  from_ : ∃ b, pv ts k = [b]
  c4 : c.kind = 4
  ce : c.entry = k
  small : p.s k = true ∧ (p = wholeP ts.length ∨ p ∈ ps) ∧ ∀ q ∈ ps, q.s k = true → ∀ y, p.s y = true → q.s y = true
  no3 : p.kind ≠ 3
  noe : p.entry ≠ k
  set : ∀ x, c.s x = true ↔ p.s x = true ∧ 1 ≤ x ∧ Dom ts k x
theorem cond_ok {c : PartD} {k : Nat} (hk : k < ts.length) (h : condP ts ps k = some c) : ∃ p, CondOK ts ps c k p := by
  unfold condP at h
  split at h
  case isFalse => cases h
  case isTrue hc =>
    obtain ⟨h1, h2, h3, h4, h5⟩ := hc;simp only [Option.some.injEq] at h;subst h;obtain ⟨b, hb⟩ : ∃ b, pv ts k = [b] := by
      match e : pv ts k, h1 with
      | [b], _ => exact ⟨b, rfl⟩
    have hk1 : 1 ≤ k := by
      have : k ∈ nx ts b := (mem_pv ts k b).1 (by rw [hb]; simp);exact (good_nx (fits_facts hf).1 this).1
    exact ⟨smallestP ts.length ps k, ⟨hk1, hk⟩, ⟨b, hb⟩, rfl, rfl, small_spec hf F hk, h3, h4, fun x => mem_guarded hf hk1 _⟩
end
section
variable {ts : List TermD} {ps : List PartD} {c p : PartD} {k : Nat} (hf : fitsB ts = true) (F : LoopsF ts (wholeS ts.length) ps) (C : CondOK ts ps c k p)
include hf F C
omit hf F in
theorem CondOK.self : c.s k = true := (C.set k).2 ⟨C.small.1, C.low.1, dom_self k⟩
theorem CondOK.lows : ∀ y, c.s y = true → 1 ≤ y ∧ y < ts.length := fun y hy => by
  obtain ⟨h1, h2, _⟩ := (C.set y).1 hy
  rcases C.small.2.1 with h | h
  · rw [h] at h1;simp [wholeP, wholeS] at h1;exact ⟨h2, h1⟩
  · exact (F.ok p h).low y h1
omit hf in
theorem CondOK.kinds : p = wholeP ts.length ∨ (p ∈ ps ∧ p.kind = 2) := by
  rcases C.small.2.1 with h | h
  · exact .inl h
  · rcases (F.ok p h).ent with ⟨h2, _⟩ | ⟨h2, _⟩
    · exact absurd h2 C.no3
    · exact .inr ⟨h, h2⟩
theorem CondOK.entry_out (hp : p ∈ ps) : p.s p.entry.toNat = true ∧ c.s p.entry.toNat = false := by
  have h2 : p.kind = 2 := by
    rcases (F.ok p hp).ent with ⟨h2, _⟩ | ⟨h2, _⟩
    · exact absurd h2 C.no3
    · exact h2
  have he0 : 0 ≤ p.entry := by
    rcases (F.ok p hp).ent with ⟨h, _⟩ | ⟨_, h, _⟩
    · rw [h2] at h; cases h
    · exact h
  have hne : k ≠ p.entry.toNat := fun e => C.noe (by omega)
  obtain ⟨h3, h4⟩ := entry_free hf (F.ok p hp) h2 C.small.1 hne
  refine ⟨h4, ?_⟩
  cases e : c.s p.entry.toNat with
  | false => rfl
  | true => exact absurd ((C.set _).1 e).2.2 h3
theorem CondOK.loop_in {q : PartD} (hq : q ∈ ps) (hk : q.s k = false) {x : Nat} (hx : q.s x = true) (hc : c.s x = true) : Strict q.s c.s := by
  obtain ⟨h1, h2, h3⟩ := (C.set x).1 hc
  have hd := dom_all (fun y hy => ((F.ok q hq).low y hy).2) (F.ok q hq).tog hk hx h3
  refine ⟨fun y hy => (C.set y).2 ⟨?_, ((F.ok q hq).low y hy).1, hd y hy⟩, k, C.self, hk⟩
  rcases C.small.2.1 with h | h
  · rw [h]; simp [wholeP, wholeS]; exact ((F.ok q hq).low y hy).2
  · rcases loop_two F h hq with rfl | h4 | ⟨_, _, h4⟩ | ⟨_, _, h4⟩
    · exact hy
    · rw [h4 x h1] at hx; cases hx
    · exact (h4 y hy).1
    · rw [(h4 k C.small.1).1] at hk; cases hk
theorem CondOK.in_loop {q : PartD} (hq : q ∈ ps) (hk : q.s k = true) : Strict c.s q.s := by
  have h1 := C.small.2.2 q hq hk
  rcases C.small.2.1 with h | h
  · exfalso;have := h1 0 (by rw [h]; simp [wholeP, wholeS]; have := (fits_facts hf).2.1; omega);have := (F.ok q hq).low 0 this;omega
  · obtain ⟨h2, h3⟩ := C.entry_out hf F h;exact ⟨fun y hy => h1 y ((C.set y).1 hy).1, _, h1 _ h2, h3⟩
theorem CondOK.loop_apart {q : PartD} (hq : q ∈ ps) : ApartP q c := by
  cases hk : q.s k with
  | true => exact .inr (.inr (C.in_loop hf F hq hk))
  | false =>
    by_cases hx : ∃ x, q.s x = true ∧ c.s x = true
    · obtain ⟨x, h1, h2⟩ := hx;exact .inr (.inl (C.loop_in hf F hq hk h1 h2))
    · refine .inl fun y hy => ?_;cases e : c.s y with
      | false => rfl
      | true => exact absurd ⟨y, hy, e⟩ hx
omit F in
theorem CondOK.reach : Reach (nx ts) (wholeS ts.length) 0 k := (fits_facts hf).2.2 k C.low.1 C.low.2
theorem CondOK.cond_in {c' p' : PartD} {k' : Nat} (C' : CondOK ts ps c' k' p') (hne : k ≠ k') {x : Nat} (h : c.s x = true) (h' : c'.s x = true) (hd : Dom ts k k') : Strict c'.s c.s := by
  have hnd : ¬ Dom ts k' k := fun h2 => dom_anti (C.reach hf) hne hd h2
  have hsub : ∀ y, p'.s y = true → y < ts.length → p.s y = true := by
    intro y hy hyl;rcases C.small.2.1 with h1 | h1
    · rw [h1]; simp [wholeP, wholeS, hyl]
    · cases e : p.s k' with
      | true => exact C'.small.2.2 p h1 e y hy
      | false =>
        exact absurd (dom_all (fun y hy => ((F.ok p h1).low y hy).2) (F.ok p h1).tog e ((C.set x).1 h).1 ((C'.set x).1 h').2.2 k C.small.1) hnd
  refine ⟨fun y hy => ?_, k, C.self, ?_⟩
  · have h1 := (C'.set y).1 hy;exact (C.set y).2 ⟨hsub y h1.1 (C'.lows hf F y hy).2, h1.2.1, dom_trans hd h1.2.2⟩
  · cases e : c'.s k with
    | false => rfl
    | true => exact absurd ((C'.set k).1 e).2.2 hnd
theorem CondOK.cond_apart {c' p' : PartD} {k' : Nat} (C' : CondOK ts ps c' k' p') (hne : k ≠ k') : ApartP c c' := by
  by_cases hx : ∃ x, c.s x = true ∧ c'.s x = true
  · obtain ⟨x, h1, h2⟩ := hx;have hl := C.lows hf F x h1;rcases dom_chain ((fits_facts hf).2.2 x hl.1 hl.2) ((C.set x).1 h1).2.2 ((C'.set x).1 h2).2.2 with hd | hd
    · exact .inr (.inr (C.cond_in hf F C' hne h1 h2 hd))
    · exact .inr (.inl (C'.cond_in hf F C (fun e => hne e.symm) h2 h1 hd))
  · refine .inl fun y hy => ?_;cases e : c'.s y with
    | false => rfl
    | true => exact absurd ⟨y, hy, e⟩ hx
theorem CondOK.entries : entriesS ts c.s = [k] := by
  have hl := (fits_facts hf).2.1
  have hcan : Canon c.s := fun y hy => by have := (C.lows hf F y hy).2; omega
  have hnd : (entriesS ts c.s).Nodup := (List.nodup_range.filter _).filter _
  have hm : ∀ x, x ∈ entriesS ts c.s ↔ x = k := by
    intro x;rw [mem_entries hcan];constructor
    · rintro ⟨h1, h2, y, h3, h4⟩;apply Classical.byContradiction;intro hne;obtain ⟨h5, h6, h7⟩ := (C.set x).1 h1;have hyl : y < ts.length := by
        apply Classical.byContradiction;intro hn;rw [nx_none ts y (by omega)] at h3;cases h3
      have hin : lessS (wholeS ts.length) k x = true := whole_less.2 ⟨hne, h2⟩;have hy0 : 1 ≤ y := by
        cases y with
        | zero => exact absurd (.one h3 hin) h7
        | succ y => omega
      have hyd : Dom ts k y := fun hr => h7 (.step hr h3 hin);have hyp : p.s y = false := by
        cases e : p.s y with
        | false => rfl
        | true => rw [(C.set y).2 ⟨e, hy0, hyd⟩] at h4; cases h4
      rcases C.kinds F with h | ⟨h, h2k⟩
      · rw [h] at hyp; simp [wholeP, wholeS] at hyp; omega
      · have hpc := loop_can F h hl.2;have he : entriesS ts p.s = [p.entry.toNat] := by
          rcases (F.ok p h).ent with ⟨h8, _⟩ | ⟨_, _, h8⟩
          · rw [h2k] at h8; cases h8
          · exact h8
        have : x ∈ entriesS ts p.s := (mem_entries hpc x).2 ⟨h5, h2, y, h3, hyp⟩;rw [he] at this;have : x = p.entry.toNat := by simpa using this
        rw [this, (C.entry_out hf F h).2] at h1;cases h1
    · rintro rfl;obtain ⟨b, hb⟩ := C.from_;have hbk : x ∈ nx ts b := (mem_pv ts x b).1 (by rw [hb]; simp);refine ⟨C.self, C.low.2, b, hbk, ?_⟩;cases e : c.s b with
      | false => rfl
      | true =>
        exfalso;obtain ⟨h1, h2, h3⟩ := (C.set b).1 e;obtain ⟨y, z, hy, h4, h5, h6, _⟩ := reach_first (C.reach hf) (fun z => z == x) (by have := C.low.1; simp; omega) (by simp);have hz : z = x := by simpa using h6
        subst hz;have : y ∈ pv ts z := (mem_pv ts z y).2 h5;rw [hb] at this;have hyb : y = b := by simpa using this
        subst hyb;rcases hy with rfl | hy
        · omega
        · refine h3 (hy.mono fun u hu => ?_);simp only [diffS] at hu
          split at hu
          · cases hu
          · rename_i hu2
            exact whole_less.2 ⟨by simpa using hu2, by simpa [wholeS] using hu⟩
  match e : entriesS ts c.s, hnd, hm with
  | [], _, hm => have := (hm k).2 rfl; cases this
  | [x], _, hm => rw [(hm x).1 (by simp)]
  | x :: y :: l, hnd, hm =>
    have h1 := (hm x).1 (by simp);have h2 := (hm y).1 (by simp);rw [h1, h2] at hnd;simp at hnd
theorem CondOK.ring (b : Nat) (hb : c.s b = true) (hno : ∀ q ∈ ps, Strict q.s c.s → q.s b = false) : ¬ Reach (nx ts) c.s b b := by
  intro hr
  have fin : ∀ q ∈ ps, q.s b = true → q.s k = true := fun q hq hqb => by
    cases e : q.s k with
    | true => rfl
    | false => rw [hno q hq (C.loop_in hf F hq e hqb hb)] at hqb; cases hqb
  rcases C.kinds F with h | ⟨h, h2⟩
  · obtain ⟨q, hq, hqb⟩ := F.ring b (by simp [wholeS]; exact (C.lows hf F b hb).2) (hr.mono fun y hy => by simp [wholeS]; exact (C.lows hf F y hy).2);have := C.small.2.2 q hq (fin q hq hqb) 0 (by rw [h]; simp [wholeP, wholeS]; have := (fits_facts hf).2.1; omega);have := (F.ok q hq).low 0 this;omega
  · obtain ⟨h3, h4⟩ := C.entry_out hf F h;obtain ⟨q, hq, hqb, h5⟩ := F.inner p h h2 b ((C.set b).1 hb).1 (hr.mono fun y hy => mem_less.2 ⟨fun e => (by subst e; rw [h4] at hy; cases hy), ((C.set y).1 hy).1⟩);exact absurd rfl (h5 _ (C.small.2.2 q hq (fin q hq hqb) _ h3)).2
end
end
end Go.Proofs.YtblhmdhfhaencaaGreat
