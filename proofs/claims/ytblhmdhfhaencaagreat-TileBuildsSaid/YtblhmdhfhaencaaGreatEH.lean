/-
  Edge: over, where tiles are right.
-/
import Derived.Test.YtblhmdhfhaencaaGreatQueue
import Derived.Test.YtblhmdhfhaencaaGreatBR
import Derived.Test.YtblhmdhfhaencaaGreatEL
import Derived.Test.YtblhmdhfhaencaaGreatTV
import Derived.Test.YtblhmdhfhaencaaGreatSortI
namespace Go.Proofs.YtblhmdhfhaencaaGreat
set_option linter.unusedSimpArgs false
set_option linter.unusedVariables false
set_option linter.unusedSectionVars false
set_option maxRecDepth 100000
set_option maxHeartbeats 40000000
section
open Go.RowKit Go.Shelf
attribute [local go_sem] Oper.semAt_some wide_fn wide_depth wide_fnR wide_depthR
theorem grown_below {a b : World} (h : Below a.heap.size a b) (row : Option Nat) : a.grownBy b row := ⟨h.os, h.tape, h.output, h.size, fun k hk _ => h.block k hk⟩
theorem grown_setRow (w : World) (g : Nat) (cs : Array Value) : w.grownBy (w.setRow g cs) (some g) := ⟨rfl, rfl, rfl, by simp [World.setRow], fun k _ hne => setRow_other w g k cs (fun e => hne (by rw [e]))⟩
end

section
open Go.RowKit Go.Shelf
structure RowH where
  r : RowD
  lv : Value
  en : Value
def csR (h : RowH) : List Value := [.int .i64 h.r.e.fr, .int .i64 h.r.e.arm, .int .i64 h.r.e.to, h.lv, h.en]
def RowsIn (W : World) (base : Nat) (v : Value) (hs : List RowH) : Prop :=
  OwnR 79 5 csR W base v hs ∧ ∀ h ∈ hs, OwnI W base h.lv h.r.lv ∧ OwnI W base h.en h.r.en ∧ (∀ q, h.lv.ownBlock = some q → v.ownBlock ≠ some q) ∧ ∀ q, h.en.ownBlock = some q → v.ownBlock ≠ some q
theorem kept_ne {o : Option Nat} {row : Option Nat} (h : ∀ q, o = some q → row ≠ some q) : o = none ∨ o ≠ row := by
  cases o with
  | none => exact .inl rfl
  | some q => exact .inr fun e => h q rfl e.symm
def rowsTo (l : List TileD) (ask : EdgeD → Bool) (d : List EdgeD) : List RowD := (d.filter (betwB l ask)).map (rowOf l)
def RJ (w1 : World) (B : Nat) (l : List TileD) (ask : EdgeD → Bool) (d : List EdgeD) (W : World) : Prop :=
  ∃ v hs, W.heap[B]? = some (.cells #[v] 31 (0, 0)) ∧ RowsIn W w1.heap.size v hs ∧ hs.map (·.r) = rowsTo l ask d ∧ w1.grownBy W (some B) ∧ B < w1.heap.size
end
end Go.Proofs.YtblhmdhfhaencaaGreat
