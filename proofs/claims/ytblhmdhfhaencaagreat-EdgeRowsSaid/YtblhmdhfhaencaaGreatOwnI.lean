/-
  Slices of ints of the call's own; slices.Clone of ints.
-/
import Derived.Test.YtblhmdhfhaencaaGreatRows
import Derived.Test.YtblhmdhfhaencaaGreatRows2
import Derived.Test.YtblhmdhfhaencaaGreatAppend
import Derived.ChangeKeysEq
import Derived.WalkSpells
namespace Go.Proofs.YtblhmdhfhaencaaGreat
set_option linter.unusedSimpArgs false
set_option linter.unusedVariables false
open Go.RowKit

theorem infoI : (Tryz.prog.info? 3).map (fun i => (i.zero, i.size, i.bytes)) = some (some (.int .i64 0), 1, 8) := by kernel_rfl
def intVals (xs : List Int) : List Value := xs.map (Value.int .i64)
theorem intVals_len (xs : List Int) : (intVals xs).length = xs.length := by simp [intVals]
theorem intVals_one (xs : List Int) : ∀ u ∈ intVals xs, u.oneCell' = true := by
  intro u hu
  simp only [intVals, List.mem_map] at hu
  obtain ⟨x, _, rfl⟩ := hu
  rfl
/-- a slice of the call's own that reads as a list -/
def OwnI (w : World) (base : Nat) (v : Value) (xs : List Int) : Prop := w.ownsRow base 3 1 v xs.length (intVals xs) ∧ (∀ x ∈ xs, I64 x) ∧ xs.length ≤ 17592186044416
theorem OwnI.nil (w : World) (base : Nat) : OwnI w base (.slice none 0 0) [] := ⟨World.ownsRow_nil _ _ _ _, by simp, by simp⟩
theorem OwnI.mono {w : World} {base base' : Nat} {v : Value} {xs : List Int} (h : OwnI w base v xs) (hb : base' ≤ base) : OwnI w base' v xs := by
  refine ⟨⟨h.1.1, ?_⟩, h.2⟩
  rcases h.1.2 with h0 | ⟨g, cap, cur, hv, h1, r⟩
  · exact .inl h0
  · exact .inr ⟨g, cap, cur, hv, Nat.le_trans hb h1, r⟩
theorem OwnI.kept {w w' : World} {base : Nat} {v : Value} {xs : List Int} {row : Option Nat} (h : OwnI w base v xs) (hg : w.grownBy w' row) (hne : v.ownBlock = none ∨ v.ownBlock ≠ row) : OwnI w' base v xs := ⟨h.1.kept hg hne, h.2⟩
theorem OwnI.ext {w w' : World} {base : Nat} {v : Value} {xs : List Int} (h : OwnI w base v xs) (hb : Below w.heap.size w w') : OwnI w' base v xs := by
  refine ⟨h.1.kept (row := none) ⟨hb.os, hb.tape, hb.output, hb.size, fun k hk _ => hb.block k hk⟩ ?_, h.2⟩
  cases h1 : v.ownBlock with
  | none => exact .inl rfl
  | some k => exact .inr (by simp)
theorem OwnI.form {w : World} {base : Nat} {v : Value} {xs : List Int} (h : OwnI w base v xs) : ∃ a c, v = .slice a xs.length c := by
  rcases h.1.2 with ⟨rfl, h0⟩ | ⟨g, cap, cur, hv, _⟩
  · have h0 : xs.length = 0 := h0
    rw [h0]
    exact ⟨none, 0, rfl⟩
  · exact ⟨_, _, hv⟩
theorem OwnI.ints {w : World} {base : Nat} {a : Option Addr} {n c : Nat} {xs : List Int} (h : OwnI w base (.slice a n c) xs) : Ints w a n xs := by
  rcases h.1.2 with ⟨hv, h0⟩ | ⟨g, cap, cur, hv, _⟩
  · injection hv with e1 e2 e3
    subst e1 e2
    have h0 : xs.length = 0 := h0
    exact ⟨h0, by omega, fun k hk => by omega⟩
  · injection hv with e1 e2 e3
    subst e1 e2 e3
    exact intsOwn h.1 h.2.1 h.2.2
theorem OwnI.cap {w : World} {base : Nat} {a : Option Addr} {n c : Nat} {xs : List Int} (h : OwnI w base (.slice a n c) xs) : n ≤ c ∧ c ≤ 9223372036854775807 ∧ n = xs.length := by
  rcases h.1.2 with ⟨hv, h0⟩ | ⟨g, cap, cur, hv, _, _, h1, h2, _⟩
  · injection hv with e1 e2 e3
    subst e1 e2 e3
    exact ⟨by omega, by omega, by rw [show xs.length = 0 from h0]⟩
  · injection hv with e1 e2 e3
    subst e1 e2 e3
    unfold maxLen at h2
    exact ⟨h1, by omega, rfl⟩
/-- a list as a result -/
def IntsPost (w : World) (xs : List Int) (e : Ending) (w' : World) : Prop := ∃ v, e = .returned v ∧ OwnI w' w.heap.size v xs ∧ Below w.heap.size w w'
/-- a literal -/
theorem ownI_lit {W : World} {g : Nat} {xs : List Int} (hg : W.heap.size = g) (base : Nat) (hb : base ≤ g) (hx : ∀ x ∈ xs, I64 x) (hn : xs.length ≤ 1000) : OwnI (W.alloc (.cells (intVals xs).toArray 3)) base (.slice (some ⟨g, 0, none⟩) xs.length xs.length) xs := by
  subst hg
  refine ⟨?_, hx, by omega⟩
  have := World.ownsRow_lit (base := base) (e := 3) (size := 1) W (intVals xs).toArray xs.length hb (by unfold maxLen; omega) (by simp [intVals])
  simpa using this

set_option maxRecDepth 100000 in
set_option maxHeartbeats 1000000 in
theorem cloneInts_any (a : Option Addr) (n c : Nat) (xs : List Int) (w : World) (h : Ints w a n xs) :
    Calls Tryz.prog 93 #[.slice a n c] w (IntsPost w xs) := by
  have HL := Lib.hid h.1
  have hn := h.2.1
  have HM := Lib.hid h.mem
  have H := Lib.hid h
  clear h
  cases a with
  | none =>
    have hq := fun w n c n' c' => Lib.run_eql_slice_nil (P := Tryz.prog) w 22 3 none n c n' c' Tryz.underlying22
    go_enter Tryz.func93, Tryz.ntmps93
    go_wp2
    go_ret
    have h0 : xs = [] := by
      cases xs with
      | nil => rfl
      | cons r l => obtain ⟨b, o, e, _⟩ := H.out.2.2 0 (by rw [← HL.out]; simp); cases e
    subst h0
    exact ⟨_, rfl, OwnI.nil _ _, Below.refl _ _⟩
  | some ad =>
    have hq := fun w n c n' c' => Lib.run_eql_slice_nil (P := Tryz.prog) w 22 3 (some ad) n c n' c' Tryz.underlying22
    go_enter Tryz.func93, Tryz.ntmps93
    go_wp2_with (at_builtin; go_loud (refine wpList_appendR (w.alloc (.cells #[] 3)) rfl (.tmp 5) (.tmp 6) 22 3 rfl w.heap.size _ 1 8 Tryz.underlying22 infoI rfl (by omega) (.slice (some ⟨w.heap.size, 0, none⟩) 0 0) 0 [] rfl (World.ownsRow_lit w #[] 0 (by omega) (by unfold maxLen; omega) rfl) (some ad) n c rfl (intVals xs) (by rw [intVals_len, HL.out, Nat.mul_one]) ((H.out.ext ((Below.refl _ w).alloc (Nat.le_refl _) _)).news) (intVals_one xs) (by unfold maxLen; omega) (by omega) (by simp) ?_); intro v' w1 ho1 hg1 hv1; have HO1 := Lib.hid ho1; have HG1 := Lib.hid hg1; clear ho1 hg1 hv1)
    go_ret
    have ho := HO1.out
    rw [Nat.zero_add, List.nil_append, ← HL.out] at ho
    exact ⟨_, rfl, ⟨ho, HM.out, by rw [HL.out]; exact hn⟩, ((Below.refl _ w).alloc (Nat.le_refl _) _).grown HG1.out (by simp) (fun k hk => by simp [Value.ownBlock] at hk; omega)⟩
end Go.Proofs.YtblhmdhfhaencaaGreat
