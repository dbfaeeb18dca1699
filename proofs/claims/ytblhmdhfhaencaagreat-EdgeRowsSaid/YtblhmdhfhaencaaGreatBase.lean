/-
  Words on memory that every text of this family uses: slices of ints that read as lists, worlds that only grow. No program in sight.
-/
import Derived.WalkKit
import Derived.ProofKit
import Derived.Below
import Derived.Lib.Hide
import Derived.Deep.QuietTactic
import Derived.BigQuiet
import Derived.Deep.Draws
import Derived.Laws.OwnMore
import Derived.Outline
namespace Go.Proofs.YtblhmdhfhaencaaGreat
set_option linter.unusedSimpArgs false
set_option linter.unusedVariables false
open Go.RowKit

def I64 (n : Int) : Prop := -9223372036854775808 ≤ n ∧ n ≤ 9223372036854775807

/-- a slice of ints that reads as a list (nil let in) -/
def Ints (w : World) (a : Option Addr) (n : Nat) (xs : List Int) : Prop :=
  xs.length = n ∧ n ≤ 17592186044416 ∧ ∀ k, k < n → ∃ b o, a = some ⟨b, o, none⟩ ∧ w.cell? ⟨b, o + k, none⟩ = some (.int .i64 (xs.getD k 0)) ∧ I64 (xs.getD k 0)

/-- the same of slices of pairs of ints -/
def Prs (w : World) (a : Option Addr) (n : Nat) (ps : List (Int × Int)) : Prop :=
  ps.length = n ∧ n ≤ 17592186044416 ∧ ∀ k, k < n → ∃ b o, a = some ⟨b, o, none⟩ ∧ w.cell? ⟨b, o + k * 2, none⟩ = some (.int .i64 (ps.getD k (0, 0)).1) ∧
    w.cell? ⟨b, o + k * 2 + 1, none⟩ = some (.int .i64 (ps.getD k (0, 0)).2) ∧ I64 (ps.getD k (0, 0)).1 ∧ I64 (ps.getD k (0, 0)).2

theorem cell_ext {w w' : World} (h : Below w.heap.size w w') {p : Addr} {v : Value} (hc : w.cell? p = some v) : w'.cell? p = some v :=
  (h.cell (World.block_lt_of_cell? w p hc)).trans hc

theorem Ints.ext {w w' : World} {a : Option Addr} {n : Nat} {xs : List Int} (h : Ints w a n xs) (hb : Below w.heap.size w w') : Ints w' a n xs :=
  ⟨h.1, h.2.1, fun k hk => let ⟨b, o, e, hc, hi⟩ := h.2.2 k hk; ⟨b, o, e, cell_ext hb hc, hi⟩⟩

theorem Prs.ext {w w' : World} {a : Option Addr} {n : Nat} {ps : List (Int × Int)} (h : Prs w a n ps) (hb : Below w.heap.size w w') : Prs w' a n ps :=
  ⟨h.1, h.2.1, fun k hk => let ⟨b, o, e, hc, hc', hi⟩ := h.2.2 k hk; ⟨b, o, e, cell_ext hb hc, cell_ext hb hc', hi⟩⟩

theorem Ints.drewN {w : World} {a : Option Addr} {n : Nat} {xs : List Int} (h : Ints w a n xs) (m : Nat) : Ints (w.drewN m) a n xs := h
theorem below_drewN {B : Nat} {a w : World} (h : Below B a w) (n : Nat) : Below B a (w.drewN n) := ⟨h.os, h.tape, h.output, h.size, h.block⟩
theorem ext_drewN {a w : World} (h : Below a.heap.size a w) (n : Nat) : Below a.heap.size a (w.drewN n) := below_drewN h n
theorem ext_trans {a b c : World} (h : Below a.heap.size a b) (k : Below b.heap.size b c) : Below a.heap.size a c := h.trans (k.mono h.size)

theorem bcell {W w1 : World} (hb : Below W.heap.size W w1) : (∀ b o, b < W.heap.size → w1.cell? ⟨b, o, none⟩ = W.cell? ⟨b, o, none⟩) ∧ (∀ b o, b < W.heap.size → w1.frozen? ⟨b, o, none⟩ = W.frozen? ⟨b, o, none⟩) :=
  ⟨fun b o h => hb.cell (p := ⟨b, o, none⟩) h, fun b o h => hb.frozen (p := ⟨b, o, none⟩) h⟩

theorem ret_int {k : IntKind} {a b : Int} (h : a = b) : Ending.returned (.int k a) = .returned (.int k b) := by rw [h]
theorem ret_bool {a b : Bool} (h : a = b) : Ending.returned (.bool a) = .returned (.bool b) := by rw [h]

/-- where a number is; -1: nowhere -/
def idx : List Int → Int → Int
  | [], _ => -1
  | y :: l, x => if y = x then 0 else if idx l x < 0 then -1 else idx l x + 1

theorem idx_ge (l : List Int) (x : Int) : -1 ≤ idx l x ∧ idx l x < l.length := by
  induction l with
  | nil => simp [idx]
  | cons y l ih =>
    simp only [idx, List.length_cons]
    split
    · omega
    · split <;> omega
theorem idx_neg_iff (l : List Int) (x : Int) : idx l x < 0 ↔ x ∉ l := by
  induction l with
  | nil => simp [idx]
  | cons y l ih =>
    have := idx_ge l x
    simp only [idx, List.mem_cons, not_or]
    by_cases h : y = x
    · simp [h]
    · rw [if_neg h]
      have h' : ¬ x = y := fun e => h e.symm
      split
      · simp_all
      · rename_i hn
        have : x ∈ l := by
          by_cases hx : x ∈ l
          · exact hx
          · exact absurd (ih.2 hx) hn
        simp [this]; omega
/-- nothing ahead of k is x, what is at k is: then the index is k -/
theorem idx_found (l : List Int) (x : Int) (k : Nat) (hk : k < l.length) (hx : l.getD k 0 = x) (hno : ∀ j, j < k → l.getD j 0 ≠ x) : idx l x = k := by
  induction l generalizing k with
  | nil => simp at hk
  | cons y l ih =>
    cases k with
    | zero => simp at hx; simp [idx, hx]
    | succ k =>
      have h0 := hno 0 (by omega)
      simp at h0
      have := ih k (by simpa using hk) (by simpa using hx) (fun j hj => by have := hno (j + 1) (by omega); simpa using this)
      simp only [idx, if_neg h0, this]
      rw [if_neg (by omega)]; omega
theorem idx_none (l : List Int) (x : Int) (hno : ∀ j, j < l.length → l.getD j 0 ≠ x) : idx l x = -1 := by
  have h := idx_ge l x
  have := (idx_neg_iff l x).2 (fun hx => by
    obtain ⟨j, hj, e⟩ := List.getElem_of_mem hx
    exact hno j hj (by simp [List.getD, hj, e]))
  omega
end Go.Proofs.YtblhmdhfhaencaaGreat
