/-
  A walker: what is known, what failed first; fail, need.
-/
import Derived.Test.YtfpbfdkjcmlimaaGreatKF
import Derived.Test.YtfpbfdkjcmlimaaGreatFM
namespace Go.Proofs.YtfpbfdkjcmlimaaGreat
set_option linter.unusedSimpArgs false
set_option linter.unusedVariables false
set_option linter.unusedSectionVars false
set_option maxRecDepth 100000
set_option maxHeartbeats 40000000
section
open Go.RowKit
abbrev wkO (b : Nat) (m : MachD) (a1 : Option Addr) (n1 c1 : Nat) (a2 : Option Addr) (n2 c2 : Nat) (fe : Int) : Obj := .cells #[.map (some b), .int .i64 m.regs, .slice a1 n1 c1, .int .i64 m.ret, .slice a2 n2 c2, .int .i64 fe] 63
structure Univ where
  V : List Int
  P : List (Bool × Int)
def Univ.ok (U : Univ) : Prop := U.V.length ≤ 1000000 ∧ U.P.length ≤ 1000000
def Univ.all (U : Univ) : List Fct := U.V.flatMap fun v => U.P.map fun p => (v, p)
theorem Univ.mem (U : Univ) (x : Fct) : x ∈ U.all ↔ x.1 ∈ U.V ∧ x.2 ∈ U.P := by
  unfold Univ.all
  rw [List.mem_flatMap]
  constructor
  · rintro ⟨v, hv, hx⟩
    obtain ⟨p, hp, rfl⟩ := List.mem_map.1 hx
    exact ⟨hv, hp⟩
  · rintro ⟨h1, h2⟩
    exact ⟨x.1, h1, List.mem_map.2 ⟨x.2, h2, rfl⟩⟩
theorem Univ.len (U : Univ) : U.all.length = U.V.length * U.P.length := by
  obtain ⟨V, P⟩ := U
  show (V.flatMap fun v => P.map fun p => (v, p)).length = V.length * P.length
  induction V with
  | nil => simp
  | cons v V ih => rw [List.flatMap_cons, List.length_append, ih, List.length_map, List.length_cons, Nat.add_mul]; omega
def KS (U : Univ) (b : Nat) (K : Fct → Bool) (W : World) : Prop := ∃ L, FSet W b L ∧ (∀ x, x ∈ L ↔ K x = true) ∧ ∀ x ∈ L, x.1 ∈ U.V ∧ x.2 ∈ U.P
theorem KS.len {U : Univ} {b : Nat} {W : World} {L : List Fct} (hU : U.ok) (hS : FSet W b L) (hD : ∀ x ∈ L, x.1 ∈ U.V ∧ x.2 ∈ U.P) : L.length ≤ 1000000000000 := by
  have h := nodup_length_le hS.nodup (l' := U.all) fun x hx => (U.mem x).2 (hD x hx)
  rw [U.len] at h
  have := Nat.mul_le_mul hU.1 hU.2
  omega
theorem KS.ext {U : Univ} {b : Nat} {K : Fct → Bool} {W W' : World} (h : KS U b K W) (hb : Below W.heap.size W W') : KS U b K W' := let ⟨L, h1, h2⟩ := h; ⟨L, h1.ext hb, h2⟩
theorem KS.lt {U : Univ} {b : Nat} {K : Fct → Bool} {W : World} (h : KS U b K W) : b < W.heap.size := let ⟨_, h1, _⟩ := h; h1.lt
def WS (m : MachD) (a1 : Option Addr) (n1 c1 : Nat) (a2 : Option Addr) (n2 c2 : Nat) (U : Univ) (g b : Nat) (K : Fct → Bool) (fe : Int) (W : World) : Prop :=
  W.heap[g]? = some (wkO b m a1 n1 c1 a2 n2 c2 fe) ∧ KS U b K W
def WT (g b : Nat) (k : Nat) : Prop := k = g ∨ k = b
section
variable {m : MachD} {a1 : Option Addr} {n1 c1 : Nat} {a2 : Option Addr} {n2 c2 : Nat} {U : Univ} {g b : Nat} {K : Fct → Bool} {fe : Int} {W W' : World}
theorem WS.ext (h : WS m a1 n1 c1 a2 n2 c2 U g b K fe W) (hb : Below W.heap.size W W') : WS m a1 n1 c1 a2 n2 c2 U g b K fe W' := ⟨block_ext hb h.1, h.2.ext hb⟩
theorem WS.lt (h : WS m a1 n1 c1 a2 n2 c2 U g b K fe W) : g < W.heap.size ∧ b < W.heap.size ∧ b ≠ g := by
  refine ⟨(Array.getElem?_eq_some_iff.1 h.1).1, h.2.lt, fun e => ?_⟩
  obtain ⟨h1, L, ⟨es, c, hb, _⟩, _⟩ := h
  rw [e, h1] at hb
  cases hb
theorem WS.cells (h : WS m a1 n1 c1 a2 n2 c2 U g b K fe W) : W.cell? ⟨g, 0, none⟩ = some (.map (some b)) ∧ W.cell? ⟨g, 1, none⟩ = some (.int .i64 m.regs) ∧ W.cell? ⟨g, 2, none⟩ = some (.slice a1 n1 c1) ∧ W.cell? ⟨g, 3, none⟩ = some (.int .i64 m.ret) ∧ W.cell? ⟨g, 4, none⟩ = some (.slice a2 n2 c2) ∧ W.cell? ⟨g, 5, none⟩ = some (.int .i64 fe) := by
  refine ⟨?_, ?_, ?_, ?_, ?_, ?_⟩ <;> (rw [cell_of_row _ _ _ _ _ _ h.1]; rfl)
end
def failV (fe e : Int) : Int := if fe = 0 then e else fe
theorem failW_any (m : MachD) (a1 a2 : Option Addr) (n1 c1 n2 c2 : Nat) (U : Univ) (g b : Nat) (K : Fct → Bool) (fe x : Int) (W : World) (h : WS m a1 n1 c1 a2 n2 c2 U g b K fe W) :
    Calls Tryz.prog 50 #[.pointer (some ⟨g, 0, none⟩), .int .i64 x] W fun e W' => e = .returned (.tuple #[]) ∧ WS m a1 n1 c1 a2 n2 c2 U g b K (failV fe x) W' ∧ Chg (WT g b) W W' := by
  obtain ⟨c0, _, _, _, _, c5⟩ := h.cells
  have hf5 : W.frozen? ⟨g, 5, none⟩ = false := frozen_of_row _ _ _ _ _ h.1
  have hgl := h.lt.1
  have HW := Lib.hid h
  clear h
  by_cases h0 : fe = 0
  · have HE : Hid (failV fe x = x) := by rw [Hid, failV, if_pos h0]
    subst h0
    go_enter Tryz.func50, Tryz.ntmps50
    go_wp2
    go_end0
    have hB2 := heap_setCell_same W g 5 _ _ (.int .i64 x) HW.out.1
    refine ⟨rfl, ⟨?_, ?_⟩, (Chg.refl _ _).setCell (.inl (.inl rfl)) _⟩
    · rw [HE.out]; exact hB2
    · obtain ⟨L, h1, h2⟩ := HW.out.2
      exact ⟨L, h1.setCell _ _, h2⟩
  · have HE : Hid (failV fe x = fe) := by rw [Hid, failV, if_neg h0]
    have h1 : (fe == 0) = false := by simpa using h0
    go_enter Tryz.func50, Tryz.ntmps50
    go_wp2
    go_end0
    exact ⟨rfl, by rw [HE.out]; exact HW.out, Chg.refl _ _⟩
def needV (K : Fct → Bool) (x : Fct) (fe e : Int) : Int := if K x = true then fe else failV fe e
theorem need_any (m : MachD) (a1 a2 : Option Addr) (n1 c1 n2 c2 : Nat) (U : Univ) (g b : Nat) (K : Fct → Bool) (fe x : Int) (v : Int) (p : Bool × Int) (W : World) (h : WS m a1 n1 c1 a2 n2 c2 U g b K fe W) :
    Calls Tryz.prog 54 #[.pointer (some ⟨g, 0, none⟩), .int .i64 v, .agg #[.bool p.1, .int .i64 p.2], .int .i64 x] W fun e W' => e = .returned (.tuple #[]) ∧ WS m a1 n1 c1 a2 n2 c2 U g b K (needV K (v, p) fe x) W' ∧ Chg (WT g b) W W' := by
  obtain ⟨s, n⟩ := p
  have h1 : WS m a1 n1 c1 a2 n2 c2 U g b K fe (W.alloc (locO (s, n))) := h.ext (ext_alloc _ _)
  obtain ⟨c0, _, _, _, _, _⟩ := h1.cells
  have hgl := h.lt.1
  have hbl := h.lt.2.1
  have hlk : ∀ q, (Instr.lookup 59 (.map (some b)) (fctV (v, s, n)) false).run Tryz.prog ((W.alloc (locO (s, n))).drewN q) = .ok (.int .i64 (if K (v, s, n) = true then 1 else 0)) ((W.alloc (locO (s, n))).drewN q) := fun q => by
    obtain ⟨L, hS, hm, _⟩ := h1.2
    have := SetM.look (w := (W.alloc (locO (s, n))).drewN q) hS keyF mapT (Tryz.zeroValue3 _) (v, s, n)
    rw [this]
    by_cases hk : K (v, s, n) = true
    · rw [if_pos hk, if_pos ((hm _).2 hk)]
    · rw [if_neg hk, if_neg (fun c => hk ((hm _).1 c))]
  have HW := Lib.hid h1
  clear h h1
  by_cases hk : K (v, s, n) = true
  · have HE : Hid (needV K (v, s, n) fe x = fe) := by rw [Hid, needV, if_pos hk]
    rw [if_pos hk] at hlk
    clear hk
    go_enter Tryz.func54, Tryz.ntmps54
    go_wp2
    go_quiet (fail)
    go_wp2
    go_end0
    exact ⟨rfl, by rw [HE.out]; exact HW.out, (Chg.refl _ _).of_ext (ext_drewN (ext_alloc _ _) _)⟩
  · have HE : Hid (needV K (v, s, n) fe x = failV fe x) := by rw [Hid, needV, if_neg hk]
    rw [if_neg hk] at hlk
    clear hk
    go_enter Tryz.func54, Tryz.ntmps54
    go_wp2
    go_quiet (fail)
    go_wp2_with (
      (go_at_call 50
       refine (failW_any m a1 a2 n1 c1 n2 c2 U g b K fe x ((W.alloc (locO (s, n))).drewN nq) HW.out).mono ?_
       rintro e w2 ⟨rfl, hs, hc⟩
       have HS2 := Lib.hid hs
       have HC2 := Lib.hid hc
       clear hs hc))
    go_end0
    exact ⟨rfl, by rw [HE.out]; exact HS2.out, ((Chg.refl _ _).of_ext (ext_drewN (ext_alloc _ _) _)).trans HC2.out⟩
end
end Go.Proofs.YtfpbfdkjcmlimaaGreat
