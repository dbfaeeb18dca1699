/-
  Flat: check.alike, ir.shaped.
-/
import Derived.Test.YtdoahpblphlabaaFD
namespace Go.Proofs.Ytdoahpblphlabaa
set_option linter.unusedSimpArgs false
set_option linter.unusedVariables false
open Go.RowKit

def alikeB (s t : InsD) : Bool := decide (s.op = t.op ∧ s.imm = t.imm ∧ s.callee = t.callee ∧ (s.args.length : Int) = t.many)
set_option maxHeartbeats 1000000 in
theorem alike_any (s t : InsD) (aa ba : Option Addr) (na ca nb cb : Nat) (w : World) (hs : s.args.length = na) (hn : na ≤ 17592186044416) :
    Calls Try.prog 38 #[insV s aa na ca, insV t ba nb cb] w fun e w' => e = .returned (.bool (alikeB s t)) ∧ Below w.heap.size w w' := by
  have HB := Lib.hid (ext_trans (ext_alloc w (insO s aa na ca)) (ext_alloc _ (insO t ba nb cb)))
  by_cases h1 : s.op = t.op
  · have b1 : (s.op == t.op) = true := by simpa using h1
    by_cases h2 : s.imm = t.imm
    · have b2 : (s.imm == t.imm) = true := by simpa using h2
      by_cases h3 : s.callee = t.callee
      · have b3 : (s.callee == t.callee) = true := by simpa using h3
        have HE : Hid (alikeB s t = ((na : Int) == t.many)) := by
          rw [Hid, alikeB, hs]
          by_cases h : (na : Int) = t.many <;> simp [h1, h2, h3, h]
        clear h1 h2 h3
        go_enter Try.func38, Try.ntmps38
        go_wp2
        go_ret
        exact ⟨by rw [HE.out]; rfl, HB.out⟩
      · have b3 : (s.callee == t.callee) = false := by simpa using h3
        have HE : Hid (alikeB s t = false) := by rw [Hid, alikeB]; simp [h3]
        clear h1 h2 h3
        go_enter Try.func38, Try.ntmps38
        go_wp2
        go_ret
        exact ⟨by rw [HE.out]; rfl, HB.out⟩
    · have b2 : (s.imm == t.imm) = false := by simpa using h2
      have HE : Hid (alikeB s t = false) := by rw [Hid, alikeB]; simp [h2]
      clear h1 h2
      go_enter Try.func38, Try.ntmps38
      go_wp2
      go_ret
      exact ⟨by rw [HE.out]; rfl, HB.out⟩
  · have b1 : (s.op == t.op) = false := by simpa using h1
    have HE : Hid (alikeB s t = false) := by rw [Hid, alikeB]; simp [h1]
    clear h1
    go_enter Try.func38, Try.ntmps38
    go_wp2
    go_ret
    exact ⟨by rw [HE.out]; rfl, HB.out⟩

/-- what an instruction of a function has: dst, a, b, imm, call; and whether it is one -/
def shapeD (o : Int) : (Bool × Bool × Bool × Bool × Bool) × Bool :=
  if o = 13 then ((false, false, false, false, true), true) else if o = 1 then ((true, false, false, true, false), true) else if o = 12 then ((false, true, true, true, false), true) else if o = 11 then ((true, true, false, true, false), true) else if o = 14 then ((true, true, false, false, false), true) else ((true, true, true, false, false), decide (2 ≤ o ∧ o ≤ 10))
def shapeV (x : (Bool × Bool × Bool × Bool × Bool) × Bool) : Value := .tuple #[.agg #[.bool x.1.1, .bool x.1.2.1, .bool x.1.2.2.1, .bool x.1.2.2.2.1, .bool x.1.2.2.2.2], .bool x.2]
set_option maxHeartbeats 1000000 in
theorem shaped_any (o : Int) (w : World) : Calls Try.prog 89 #[.int .i64 o] w fun e w' => e = .returned (shapeV (shapeD o)) ∧ Below w.heap.size w w' := by
  by_cases h13 : o = 13
  · subst h13
    go_enter Try.func89, Try.ntmps89
    go_wp2
    exact bodyPost_ret (v := shapeV (shapeD 13)) (by simp [results, Try.results89, go_sem, shapeV, shapeD]) rfl ⟨rfl, ext_alloc _ _⟩
  have b13 : (o == 13) = false := by simpa using h13
  by_cases h1 : o = 1
  · subst h1
    go_enter Try.func89, Try.ntmps89
    go_wp2
    exact bodyPost_ret (v := shapeV (shapeD 1)) (by simp [results, Try.results89, go_sem, shapeV, shapeD]) rfl ⟨rfl, ext_alloc _ _⟩
  have b1 : (o == 1) = false := by simpa using h1
  by_cases h12 : o = 12
  · subst h12
    go_enter Try.func89, Try.ntmps89
    go_wp2
    exact bodyPost_ret (v := shapeV (shapeD 12)) (by simp [results, Try.results89, go_sem, shapeV, shapeD]) rfl ⟨rfl, ext_alloc _ _⟩
  have b12 : (o == 12) = false := by simpa using h12
  by_cases h11 : o = 11
  · subst h11
    go_enter Try.func89, Try.ntmps89
    go_wp2
    exact bodyPost_ret (v := shapeV (shapeD 11)) (by simp [results, Try.results89, go_sem, shapeV, shapeD]) rfl ⟨rfl, ext_alloc _ _⟩
  have b11 : (o == 11) = false := by simpa using h11
  by_cases h14 : o = 14
  · subst h14
    go_enter Try.func89, Try.ntmps89
    go_wp2
    exact bodyPost_ret (v := shapeV (shapeD 14)) (by simp [results, Try.results89, go_sem, shapeV, shapeD]) rfl ⟨rfl, ext_alloc _ _⟩
  have b14 : (o == 14) = false := by simpa using h14
  have HE : Hid (shapeD o = ((true, true, true, false, false), decide (2 ≤ o ∧ o ≤ 10))) := by
    rw [Hid, shapeD, if_neg h13, if_neg h1, if_neg h12, if_neg h11, if_neg h14]
  clear h13 h1 h12 h11 h14
  by_cases h2 : 2 ≤ o
  · have d2 : decide (2 ≤ o) = true := by simpa using h2
    have HF : Hid (decide (2 ≤ o ∧ o ≤ 10) = decide (o ≤ 10)) := by rw [Hid, decide_eq_decide]; omega
    go_enter Try.func89, Try.ntmps89
    go_wp2
    exact bodyPost_ret (v := .tuple #[.agg #[.bool true, .bool true, .bool true, .bool false, .bool false], .bool (decide (o ≤ 10))]) (by simp [results, Try.results89, go_sem]) rfl ⟨by rw [HE.out, HF.out]; rfl, ext_alloc _ _⟩
  · have d2 : decide (2 ≤ o) = false := by simpa using h2
    have HF : Hid (decide (2 ≤ o ∧ o ≤ 10) = false) := by rw [Hid, decide_eq_false_iff_not]; omega
    go_enter Try.func89, Try.ntmps89
    go_wp2
    exact bodyPost_ret (v := .tuple #[.agg #[.bool true, .bool true, .bool true, .bool false, .bool false], .bool false]) (by simp [results, Try.results89, go_sem]) rfl ⟨by rw [HE.out, HF.out]; rfl, ext_alloc _ _⟩
end Go.Proofs.Ytdoahpblphlabaa
