/-
  Words on memory that every text of this family uses: slices of ints that read as lists, worlds that only grow. No program in sight.
-/
import Derived.WalkKit
import Derived.ProofKit
import Derived.Below
import Derived.Lib.Hide
import Derived.Deep.QuietTactic
import Derived.BigQuiet
import Derived.Deep.Draws
import Derived.Laws.OwnMore
import Derived.Outline
import Derived.Test.YtfpbfdkjcmlimaaGreatRows
namespace Go.Proofs.YtfpbfdkjcmlimaaGreat
set_option linter.unusedSimpArgs false
set_option linter.unusedVariables false
set_option linter.unusedSectionVars false
set_option maxRecDepth 100000
set_option maxHeartbeats 40000000
section
open Go.RowKit
def I64 (n : Int) : Prop := -9223372036854775808 ≤ n ∧ n ≤ 9223372036854775807
def Ints (w : World) (a : Option Addr) (n : Nat) (xs : List Int) : Prop :=
  xs.length = n ∧ n ≤ 17592186044416 ∧ ∀ k, k < n → ∃ b o, a = some ⟨b, o, none⟩ ∧ w.cell? ⟨b, o + k, none⟩ = some (.int .i64 (xs.getD k 0)) ∧ I64 (xs.getD k 0)
theorem cell_ext {w w' : World} (h : Below w.heap.size w w') {p : Addr} {v : Value} (hc : w.cell? p = some v) : w'.cell? p = some v :=
  (h.cell (World.block_lt_of_cell? w p hc)).trans hc
theorem Ints.ext {w w' : World} {a : Option Addr} {n : Nat} {xs : List Int} (h : Ints w a n xs) (hb : Below w.heap.size w w') : Ints w' a n xs :=
  ⟨h.1, h.2.1, fun k hk => let ⟨b, o, e, hc, hi⟩ := h.2.2 k hk; ⟨b, o, e, cell_ext hb hc, hi⟩⟩
theorem Ints.drewN {w : World} {a : Option Addr} {n : Nat} {xs : List Int} (h : Ints w a n xs) (m : Nat) : Ints (w.drewN m) a n xs := h
theorem below_drewN {B : Nat} {a w : World} (h : Below B a w) (n : Nat) : Below B a (w.drewN n) := ⟨h.os, h.tape, h.output, h.size, h.block⟩
theorem ext_drewN {a w : World} (h : Below a.heap.size a w) (n : Nat) : Below a.heap.size a (w.drewN n) := below_drewN h n
theorem ext_trans {a b c : World} (h : Below a.heap.size a b) (k : Below b.heap.size b c) : Below a.heap.size a c := h.trans (k.mono h.size)
theorem ret_int {k : IntKind} {a b : Int} (h : a = b) : Ending.returned (.int k a) = .returned (.int k b) := by rw [h]
theorem ret_bool {a b : Bool} (h : a = b) : Ending.returned (.bool a) = .returned (.bool b) := by rw [h]
def idx : List Int → Int → Int
  | [], _ => -1
  | y :: l, x => if y = x then 0 else if idx l x < 0 then -1 else idx l x + 1
theorem idx_ge (l : List Int) (x : Int) : -1 ≤ idx l x ∧ idx l x < l.length := by
  induction l with
  | nil => simp [idx]
  | cons y l ih =>
    simp only [idx, List.length_cons]
    split
    · omega
    · split <;> omega
theorem idx_neg_iff (l : List Int) (x : Int) : idx l x < 0 ↔ x ∉ l := by
  induction l with
  | nil => simp [idx]
  | cons y l ih =>
    have := idx_ge l x
    simp only [idx, List.mem_cons, not_or]
    by_cases h : y = x
    · simp [h]
    · rw [if_neg h]
      have h' : ¬ x = y := fun e => h e.symm
      split
      · simp_all
      · rename_i hn
        have : x ∈ l := by
          by_cases hx : x ∈ l
          · exact hx
          · exact absurd (ih.2 hx) hn
        simp [this]; omega
theorem idx_found (l : List Int) (x : Int) (k : Nat) (hk : k < l.length) (hx : l.getD k 0 = x) (hno : ∀ j, j < k → l.getD j 0 ≠ x) : idx l x = k := by
  induction l generalizing k with
  | nil => simp at hk
  | cons y l ih =>
    cases k with
    | zero => simp at hx; simp [idx, hx]
    | succ k =>
      have h0 := hno 0 (by omega)
      simp at h0
      have := ih k (by simpa using hk) (by simpa using hx) (fun j hj => by have := hno (j + 1) (by omega); simpa using this)
      simp only [idx, if_neg h0, this]
      rw [if_neg (by omega)]; omega
theorem idx_none (l : List Int) (x : Int) (hno : ∀ j, j < l.length → l.getD j 0 ≠ x) : idx l x = -1 := by
  have h := idx_ge l x
  have := (idx_neg_iff l x).2 (fun hx => by
    obtain ⟨j, hj, e⟩ := List.getElem_of_mem hx
    exact hno j hj (by simp [List.getD, hj, e]))
  omega
end

section
open Go.RowKit
theorem sindex_any (a : Option Addr) (n cap : Nat) (xs : List Int) (x : Int) (w : World) (h : Ints w a n xs) :
    Calls Tryz.prog 97 #[.slice a n cap, .int .i64 x] w fun e w' => e = .returned (.int .i64 (idx xs x)) ∧ w = w' := by
  obtain ⟨hl, hn, hc⟩ := h
  have HL := Lib.hid hl
  have HC := Lib.hid hc
  clear hl hc
  go_enter Tryz.func97, Tryz.ntmps97
  go_wp2
  go_loop [5, 8] (fun _ i => ∃ (k : Nat), k ≤ n ∧ i = .int .i64 k ∧ Hid (∀ j, j < k → xs.getD j 0 ≠ x)) (fun _ i => n - (intOf i).toNat)
  case atStart => exact ⟨0, by omega, rfl, fun j hj => absurd hj (by omega)⟩
  case round =>
    obtain ⟨k, hk, rfl, HR⟩ := hrel
    by_cases hlt : k < n
    · obtain ⟨b, o, rfl, hcell, hw1, hw2⟩ := HC.out k hlt
      by_cases he : x = xs.getD k 0
      · have HE : Hid (idx xs x = k) := idx_found xs x k (by rw [HL.out]; exact hlt) he.symm HR.out
        have hb : (x == xs.getD k 0) = true := by simpa using he
        generalize xs.getD k 0 = y at *
        clear he
        go_wp2
        go_ret
        exact ⟨by rw [HE.out]; rfl, rfl⟩
      · have HE : Hid (∀ j, j < k + 1 → xs.getD j 0 ≠ x) := fun j hj => by
          by_cases hjk : j = k
          · subst hjk; exact fun e => he e.symm
          · exact HR.out j (by omega)
        have hb : (x == xs.getD k 0) = false := by simpa using he
        generalize xs.getD k 0 = y at *
        clear he
        go_wp2
        go_round
        case rel => exact ⟨k + 1, by omega, by go_num, HE⟩
        case measure => simp [intOf]; omega
    · go_wp2
      go_ret
      have : k = n := by omega
      subst this
      exact ⟨by rw [idx_none xs x (by rw [HL.out]; exact HR.out)]; rfl, rfl⟩
theorem scontains_any (a : Option Addr) (n cap : Nat) (xs : List Int) (x : Int) (w : World) (h : Ints w a n xs) :
    Calls Tryz.prog 78 #[.slice a n cap, .int .i64 x] w fun e w' => e = .returned (.bool (decide (0 ≤ idx xs x))) ∧ w = w' := by
  have hi := idx_ge xs x
  have H := Lib.hid h
  clear h
  go_enter Tryz.func78, Tryz.ntmps78
  go_wp2_with (go_at_call 97; refine (sindex_any a n cap xs x w H.out).mono ?_; rintro e w' ⟨rfl, rfl⟩)
  go_ret
  exact ⟨rfl, rfl⟩
end
end Go.Proofs.YtfpbfdkjcmlimaaGreat
