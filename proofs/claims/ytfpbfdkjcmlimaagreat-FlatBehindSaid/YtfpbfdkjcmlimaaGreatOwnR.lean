/-
  cmp.Compare, cmp.Or of ints (as wip/tile XQE, for any seat).
-/
import Derived.Test.YtfpbfdkjcmlimaaGreatRecs
import Derived.Test.YtfpbfdkjcmlimaaGreatMix
import Derived.Test.YtfpbfdkjcmlimaaGreatRows
import Derived.Test.YtfpbfdkjcmlimaaGreatFK
import Derived.Test.YtfpbfdkjcmlimaaGreatFlatBase
import Derived.Test.YtfpbfdkjcmlimaaGreatZed
import Derived.Deep.CutRange
import Derived.Test.YtfpbfdkjcmlimaaGreatRangeT
namespace Go.Proofs.YtfpbfdkjcmlimaaGreat
set_option linter.unusedSimpArgs false
set_option linter.unusedVariables false
set_option linter.unusedSectionVars false
set_option maxRecDepth 100000
set_option maxHeartbeats 40000000
section
open Go.RowKit
def cmpV (x y : Int) : Int := if x < y then -1 else if y < x then 1 else 0
def orV : List Int → Int
  | [] => 0
  | x :: l => if x = 0 then orV l else x
theorem orV_hit : ∀ (l : List Int) (k : Nat), k < l.length → (∀ j, j < k → l.getD j 0 = 0) → l.getD k 0 ≠ 0 → orV l = l.getD k 0
  | x :: l, 0, _, _, h => by simp only [orV, List.getD_cons_zero] at h ⊢; rw [if_neg h]
  | x :: l, k + 1, hk, h0, h => by
    have h1 : x = 0 := by have := h0 0 (by omega); simpa using this
    rw [orV, if_pos h1, List.getD_cons_succ]
    exact orV_hit l k (by simpa using hk) (fun j hj => by have := h0 (j + 1) (by omega); simpa using this) (by simpa using h)
theorem orV_none : ∀ (l : List Int), (∀ j, j < l.length → l.getD j 0 = 0) → orV l = 0
  | [], _ => rfl
  | x :: l, h => by
    have h1 : x = 0 := by have := h 0 (by simp); simpa using this
    rw [orV, if_pos h1]
    exact orV_none l fun j hj => by have := h (j + 1) (by simpa using hj); simpa using this
theorem isNaN_any (x : Int) (w : World) : Calls Tryz.prog 79 #[.int .i64 x] w fun e w' => e = .returned (.bool false) ∧ w = w' := by
  go_enter Tryz.func79, Tryz.ntmps79
  go_wp2
  go_ret
  exact ⟨rfl, rfl⟩
theorem compare_any (x y : Int) (w : World) : Calls Tryz.prog 69 #[.int .i64 x, .int .i64 y] w fun e w' => e = .returned (.int .i64 (cmpV x y)) ∧ w = w' := by
  by_cases h1 : x < y
  · have HE : Hid (cmpV x y = -1) := by rw [Hid, cmpV, if_pos h1]
    go_enter Tryz.func69, Tryz.ntmps69
    go_wp2_with (go_at_call 79; refine (isNaN_any _ _).mono ?_; rintro e w1 ⟨rfl, rfl⟩)
    go_ret
    exact ⟨by rw [HE.out]; rfl, rfl⟩
  · by_cases h2 : y < x
    · have HE : Hid (cmpV x y = 1) := by rw [Hid, cmpV, if_neg h1, if_pos h2]
      go_enter Tryz.func69, Tryz.ntmps69
      go_wp2_with (go_at_call 79; refine (isNaN_any _ _).mono ?_; rintro e w1 ⟨rfl, rfl⟩)
      go_ret
      exact ⟨by rw [HE.out]; rfl, rfl⟩
    · have HE : Hid (cmpV x y = 0) := by rw [Hid, cmpV, if_neg h1, if_neg h2]
      go_enter Tryz.func69, Tryz.ntmps69
      go_wp2_with (go_at_call 79; refine (isNaN_any _ _).mono ?_; rintro e w1 ⟨rfl, rfl⟩)
      go_ret
      exact ⟨by rw [HE.out]; rfl, rfl⟩
theorem cmpOr_any (a : Option Addr) (n c : Nat) (xs : List Int) (w : World) (h : Ints w a n xs) : Calls Tryz.prog 68 #[.slice a n c] w fun e w' => e = .returned (.int .i64 (orV xs)) ∧ w = w' := by
  obtain ⟨hl, hn, hc⟩ := h
  have HL := Lib.hid hl
  have HC := Lib.hid hc
  clear hl hc
  go_enter Tryz.func68, Tryz.ntmps68
  go_wp2
  go_loopw [5, 8] (fun _ i wr => ∃ (k : Nat), k ≤ n ∧ i = .int .i64 k ∧ wr = w ∧ Hid (∀ j, j < k → xs.getD j 0 = 0)) (fun _ i _ => n - (intOf i).toNat)
  case atStart => exact ⟨0, by omega, rfl, rfl, fun j hj => absurd hj (by omega)⟩
  case round =>
    obtain ⟨k, hk, rfl, rfl, HR⟩ := hrel
    by_cases hlt : k < n
    · have hlt' : (k : Int) < (n : Int) := by omega
      obtain ⟨b, o, rfl, hcell, _⟩ := HC.out k hlt
      by_cases he : xs.getD k 0 = 0
      · have HE : Hid (∀ j, j < k + 1 → xs.getD j 0 = 0) := fun j hj => by
          by_cases hjk : j = k
          · subst hjk; exact he
          · exact HR.out j (by omega)
        rw [he] at hcell
        clear he
        go_wp2
        go_roundw
        case rel => exact ⟨k + 1, by omega, by go_num, trivial, HE⟩
        case measure => simp [intOf]; omega
      · have HE : Hid (orV xs = xs.getD k 0) := orV_hit xs k (by rw [HL.out]; exact hlt) HR.out he
        have hne : (xs.getD k 0 != 0) = true := by simpa using he
        generalize xs.getD k 0 = y at *
        go_wp2
        go_ret
        exact ⟨by rw [HE.out]; rfl, rfl⟩
    · have hlt' : ¬ (k : Int) < (n : Int) := by omega
      have HE : Hid (orV xs = 0) := orV_none xs fun j hj => HR.out j (by rw [HL.out] at hj; omega)
      go_wp2
      go_ret
      exact ⟨by rw [HE.out]; rfl, rfl⟩
end

section
open Go.RowKit
abbrev fctV (x : Int × Bool × Int) : Value := .agg #[.int .i64 x.1, .bool x.2.1, .int .i64 x.2.2]
def bI (b : Bool) : Int := if b then 1 else 0
def ordF (x y : Int × Bool × Int) : Int := orV [cmpV x.1 y.1, cmpV (bI x.2.1) (bI y.2.1), cmpV x.2.2 y.2.2]
theorem cmp_i64 (x y : Int) : I64 (cmpV x y) := by unfold cmpV I64; split <;> (try split) <;> omega
theorem ints_new3 (w : World) (a b c : Int × Int) : Ints (w.alloc (.cells #[.int .i64 (cmpV a.1 a.2), .int .i64 (cmpV b.1 b.2), .int .i64 (cmpV c.1 c.2)] 3)) (some ⟨w.heap.size, 0, none⟩) 3 [cmpV a.1 a.2, cmpV b.1 b.2, cmpV c.1 c.2] :=
  ⟨rfl, by omega, fun k hk => ⟨w.heap.size, 0, rfl, by
    rw [cell_of_row _ _ _ _ _ _ (heap_alloc_new _ _), Nat.zero_add]
    have h3 : k = 0 ∨ k = 1 ∨ k = 2 := by omega
    rcases h3 with rfl | rfl | rfl <;> rfl, by
    have h3 : k = 0 ∨ k = 1 ∨ k = 2 := by omega
    rcases h3 with rfl | rfl | rfl <;> exact cmp_i64 _ _⟩⟩
end

section
open Go.RowKit
def OwnR {α : Type} (e : TypeId) (size : Nat) (cs : α → List Value) (w : World) (base : Nat) (v : Value) (ls : List α) : Prop := w.ownsRow base e size v ls.length (ls.flatMap cs) ∧ ls.length ≤ 17592186044416
section
variable {α : Type} {e : TypeId} {size : Nat} {cs : α → List Value} {w w' : World} {base base' : Nat} {v : Value} {ls : List α}
theorem OwnR.nil (e : TypeId) (size : Nat) (cs : α → List Value) (w : World) (base : Nat) : OwnR e size cs w base (.slice none 0 0) [] := ⟨World.ownsRow_nil _ _ _ _, by simp⟩
theorem OwnR.mono (h : OwnR e size cs w base v ls) (hb : base' ≤ base) : OwnR e size cs w base' v ls := by
  refine ⟨⟨h.1.1, ?_⟩, h.2⟩
  rcases h.1.2 with h0 | ⟨g, cap, cur, hv, h1, r⟩
  · exact .inl h0
  · exact .inr ⟨g, cap, cur, hv, Nat.le_trans hb h1, r⟩
theorem OwnR.kept {row : Option Nat} (h : OwnR e size cs w base v ls) (hg : w.grownBy w' row) (hne : v.ownBlock = none ∨ v.ownBlock ≠ row) : OwnR e size cs w' base v ls := ⟨h.1.kept hg hne, h.2⟩
theorem OwnR.ext (h : OwnR e size cs w base v ls) (hb : Below w.heap.size w w') : OwnR e size cs w' base v ls := by
  refine ⟨h.1.kept (row := none) ⟨hb.os, hb.tape, hb.output, hb.size, fun k hk _ => hb.block k hk⟩ ?_, h.2⟩
  cases h1 : v.ownBlock with
  | none => exact .inl rfl
  | some k => exact .inr (by simp)
theorem OwnR.form (h : OwnR e size cs w base v ls) : ∃ a c, v = .slice a ls.length c := by
  rcases h.1.2 with ⟨rfl, h0⟩ | ⟨g, cap, cur, hv, _⟩
  · have h0 : ls.length = 0 := h0
    rw [h0]
    exact ⟨none, 0, rfl⟩
  · exact ⟨_, _, hv⟩
theorem OwnR.recs {a : Option Addr} {n c : Nat} (hs : ∀ x, (cs x).length = size) (h : OwnR e size cs w base (.slice a n c) ls) : Recs size cs w a n ls := by
  obtain ⟨a', c', e1, e2, _⟩ := recs_of_own hs h.1 h.2
  injection e1 with h1 h2 h3
  subst h1 h2 h3
  exact e2
theorem OwnR.low {k : Nat} (h : OwnR e size cs w base v ls) (hk : v.ownBlock = some k) : base ≤ k ∧ k < w.heap.size := ⟨(h.1.lt k hk).1, (h.1.lt k hk).2⟩
end
def TV (B : Nat) (ty : TypeId) (W : World) (k : Nat) : Prop := k = B ∨ ∃ v, W.heap[B]? = some (.cells #[v] ty (0, 0)) ∧ v.ownBlock = some k
theorem TV.ext {B : Nat} {ty : TypeId} {W W' : World} (h : W'.heap[B]? = W.heap[B]?) {k : Nat} (ht : TV B ty W' k) : TV B ty W k := by
  rcases ht with ht | ⟨v, hv, hk⟩
  · exact .inl ht
  · exact .inr ⟨v, h ▸ hv, hk⟩
theorem tch_var {W W' : World} {B : Nat} {ty : TypeId} {v v' : Value} (hB : W.heap[B]? = some (.cells #[v] ty (0, 0))) (hB' : W'.heap[B]? = some (.cells #[v'] ty (0, 0))) (hs : W.heap.size ≤ W'.heap.size)
    (hk : ∀ k, k < W.heap.size → k ≠ B → v.ownBlock ≠ some k → W'.heap[k]? = W.heap[k]?) (ho : ∀ k, v'.ownBlock = some k → v.ownBlock = some k ∨ W.heap.size ≤ k) : Tch (TV B ty) W W' := by
  refine ⟨hs, fun k h1 h2 => hk k h1 (fun e => h2 (.inl e)) (fun e => h2 (.inr ⟨v, hB, e⟩)), fun k ht => ?_⟩
  rcases ht with ht | ⟨u, hu, huk⟩
  · exact .inl (.inl ht)
  · rw [hB'] at hu
    simp only [Option.some.injEq, Obj.cells.injEq, Array.mk.injEq, List.cons.injEq, and_true] at hu
    obtain ⟨rfl, _⟩ := hu
    rcases ho k huk with h | h
    · exact .inl (.inr ⟨v, hB, h⟩)
    · exact .inr h
theorem tch_below {W W' : World} {B : Nat} {ty : TypeId} (hB : B < W.heap.size) (hb : Below W.heap.size W W') : Tch (TV B ty) W W' :=
  ⟨hb.size, fun k hk _ => hb.block k hk, fun _ ht => .inl (ht.ext (hb.block B hB))⟩
section
variable {P : Program}
end
end
end Go.Proofs.YtfpbfdkjcmlimaaGreat
