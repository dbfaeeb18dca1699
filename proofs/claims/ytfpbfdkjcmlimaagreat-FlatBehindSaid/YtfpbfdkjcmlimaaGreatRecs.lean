/-
  Flat: leaves: mir.has, with, Inserted, places.
-/
import Derived.Test.YtfpbfdkjcmlimaaGreatRows
import Derived.Test.YtfpbfdkjcmlimaaGreatMix
import Derived.Test.YtfpbfdkjcmlimaaGreatIdx
import Derived.Laws.OwnMore
namespace Go.Proofs.YtfpbfdkjcmlimaaGreat
set_option linter.unusedSimpArgs false
set_option linter.unusedVariables false
set_option linter.unusedSectionVars false
set_option maxRecDepth 100000
set_option maxHeartbeats 40000000
section
open Go.RowKit
theorem ext_alloc (w : World) (o : Obj) : Below w.heap.size w (w.alloc o) := (Below.refl _ w).alloc (Nat.le_refl _) o
def hasV (o : Int) : Int := if o = 1 then 9 else if 2 ≤ o ∧ o ≤ 10 then 7 else if o = 11 then 11 else if o = 12 then 14 else if o = 13 then 32 else if o = 15 then 3 else if o = 16 then 18 else if o = 17 then 17 else 0
def insB (o : Int) : Bool := decide (o = 15 ∨ o = 16 ∨ o = 17)
theorem inserted_any (o : Int) (w : World) : Calls Tryz.prog 21 #[.int .i64 o] w fun e w' => e = .returned (.bool (insB o)) ∧ w = w' := by
  by_cases h1 : o = 15
  · subst h1
    go_enter Tryz.func21, Tryz.ntmps21
    go_wp2
    go_ret
    exact ⟨rfl, rfl⟩
  · by_cases h2 : o = 16
    · subst h2
      go_enter Tryz.func21, Tryz.ntmps21
      go_wp2
      go_ret
      exact ⟨rfl, rfl⟩
    · by_cases h3 : o = 17
      · subst h3
        go_enter Tryz.func21, Tryz.ntmps21
        go_wp2
        go_ret
        exact ⟨rfl, rfl⟩
      · have b1 : (o == 15) = false := by simpa using h1
        have b2 : (o == 16) = false := by simpa using h2
        have b3 : (o == 17) = false := by simpa using h3
        have HE : Hid (insB o = false) := by rw [Hid, insB, decide_eq_false_iff_not]; omega
        clear h1 h2 h3
        go_enter Tryz.func21, Tryz.ntmps21
        go_wp2
        go_ret
        exact ⟨by rw [HE.out]; rfl, rfl⟩
theorem hasV_zero (o : Int) (h : o < 0 ∨ 18 ≤ o) : hasV o = 0 := by
  unfold hasV
  rw [if_neg (by omega), if_neg (by omega), if_neg (by omega), if_neg (by omega), if_neg (by omega), if_neg (by omega), if_neg (by omega), if_neg (by omega)]
theorem has_range (o : Int) (h1 : 0 ≤ o) (h2 : o < 18) : o = 0 ∨ o = 1 ∨ o = 2 ∨ o = 3 ∨ o = 4 ∨ o = 5 ∨ o = 6 ∨ o = 7 ∨ o = 8 ∨ o = 9 ∨ o = 10 ∨ o = 11 ∨ o = 12 ∨ o = 13 ∨ o = 14 ∨ o = 15 ∨ o = 16 ∨ o = 17 := by omega
theorem has_any (o : Int) (w : World) : Calls Tryz.prog 61 #[.int .i64 o] w fun e w' => e = .returned (.int .u8 (hasV o)) ∧ Below w.heap.size w w' := by
  go_enter Tryz.func61, Tryz.ntmps61
  go_wp2
  refine wp_loop_rounds 10 ?_
  iterate 10 (rw [rounds_succ]; go_wp2)
  all_goals
    go_ret
    refine ⟨?_, ext_alloc _ _⟩
    first
      | (rw [hasV_zero o (by omega)]; rfl)
      | (rcases has_range o (by omega) (by omega) with rfl | rfl | rfl | rfl | rfl | rfl | rfl | rfl | rfl | rfl | rfl | rfl | rfl | rfl | rfl | rfl | rfl | rfl <;> rfl)
end

section
open Go.RowKit
theorem flatMap_at {α : Type} (cs : α → List Value) (size : Nat) (hs : ∀ x, (cs x).length = size) (l : List α) (k j : Nat) (hj : j < size) (x : α) (hx : l[k]? = some x) : (l.flatMap cs)[k * size + j]? = (cs x)[j]? := by
  induction l generalizing k with
  | nil => simp at hx
  | cons y l ih =>
    rw [List.flatMap_cons]
    cases k with
    | zero =>
      simp only [List.getElem?_cons_zero, Option.some.injEq] at hx
      subst hx
      rw [Nat.zero_mul, Nat.zero_add, List.getElem?_append_left (by rw [hs]; exact hj)]
    | succ k =>
      simp only [List.getElem?_cons_succ] at hx
      rw [List.getElem?_append_right (by rw [hs, Nat.add_mul]; omega), hs, show (k + 1) * size + j - size = k * size + j by rw [Nat.add_mul]; omega]
      exact ih k hx
theorem flatMap_len {α : Type} (cs : α → List Value) (size : Nat) (hs : ∀ x, (cs x).length = size) (l : List α) : (l.flatMap cs).length = l.length * size := by
  induction l with
  | nil => simp
  | cons y l ih => rw [List.flatMap_cons, List.length_append, ih, hs, List.length_cons, Nat.add_mul]; omega
theorem takeS {α : Type} (l : List α) (k : Nat) (d : α) (h : k < l.length) : l.take (k + 1) = l.take k ++ [l.getD k d] := by
  rw [List.take_add_one, List.getElem?_eq_getElem h]
  simp [List.getD_eq_getElem?_getD, h]
def Recs {α : Type} (size : Nat) (cs : α → List Value) (w : World) (a : Option Addr) (n : Nat) (ls : List α) : Prop :=
  ls.length = n ∧ n ≤ 17592186044416 ∧ ∀ k x, ls[k]? = some x → ∃ b o, a = some ⟨b, o, none⟩ ∧ ∀ j, j < size → w.cell? ⟨b, o + k * size + j, none⟩ = (cs x)[j]?
section
variable {α : Type} {size : Nat} {cs : α → List Value} {w w' : World} {a : Option Addr} {n : Nat} {ls : List α}
theorem Recs.ext (h : Recs size cs w a n ls) (hs : ∀ x, (cs x).length = size) (hb : Below w.heap.size w w') : Recs size cs w' a n ls :=
  ⟨h.1, h.2.1, fun k x hx => by
    obtain ⟨b, o, e, hc⟩ := h.2.2 k x hx
    refine ⟨b, o, e, fun j hj => ?_⟩
    have h1 := hc j hj
    rw [List.getElem?_eq_getElem (by rw [hs]; exact hj)] at h1 ⊢
    exact cell_ext hb h1⟩
theorem Recs.drewN (h : Recs size cs w a n ls) (q : Nat) : Recs size cs (w.drewN q) a n ls := h
theorem Recs.nil (size : Nat) (cs : α → List Value) (w : World) : Recs size cs w none 0 [] := ⟨rfl, by omega, fun k x hx => by simp at hx⟩
theorem recs_of_own {base : Nat} {e : TypeId} {v : Value} (hs : ∀ x, (cs x).length = size) (h : w.ownsRow base e size v ls.length (ls.flatMap cs)) (hl : ls.length ≤ 17592186044416) : ∃ a c, v = .slice a ls.length c ∧ Recs size cs w a ls.length ls ∧ ∀ g o s, a = some ⟨g, o, s⟩ → base ≤ g := by
  rcases h.2 with ⟨rfl, h0⟩ | ⟨g, cap, cur, rfl, hb, _⟩
  · have : ls = [] := List.eq_nil_of_length_eq_zero h0
    subst this
    exact ⟨none, 0, rfl, ⟨rfl, hl, fun k x hx => by simp at hx⟩, fun g o s e => by cases e⟩
  · refine ⟨some ⟨g, 0, none⟩, cap, rfl, ⟨rfl, hl, fun k x hx => ⟨g, 0, rfl, fun j hj => ?_⟩⟩, fun g' o s e => ?_⟩
    · have hk := (List.getElem?_eq_some_iff.1 hx).1
      have hlt : k * size + j < ls.length * size := by
        have : (k + 1) * size ≤ ls.length * size := Nat.mul_le_mul_right _ hk
        rw [Nat.add_mul] at this
        omega
      rw [Nat.zero_add, World.ownsRow.cellAt h (k * size + j) hlt, flatMap_at cs size hs ls k j hj x hx]
    · simp only [Option.some.injEq, Addr.mk.injEq] at e
      omega
theorem recs_new (X : World) (H : Nat) (hH : X.heap.size = H) (t : TypeId) (hs : ∀ x, (cs x).length = size) (hl : ls.length ≤ 17592186044416) : Recs size cs (X.alloc (.cells (ls.flatMap cs).toArray t)) (some ⟨H, 0, none⟩) ls.length ls := by
  subst hH
  have hh := heap_alloc_new X (.cells (ls.flatMap cs).toArray t)
  refine ⟨rfl, hl, fun k x hx => ⟨X.heap.size, 0, rfl, fun j hj => ?_⟩⟩
  have h1 := flatMap_at cs size hs ls k j hj x hx
  rw [cell_of_row _ _ _ _ _ _ hh, Nat.zero_add, ← h1]
  simp
end
end
end Go.Proofs.YtfpbfdkjcmlimaaGreat
