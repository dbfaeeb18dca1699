/-
  maps.Clone of a set of facts.
-/
import Derived.Test.YtfpbfdkjcmlimaaGreatKG
import Derived.Shelf.SlMaps.Clone
namespace Go.Proofs.YtfpbfdkjcmlimaaGreat
set_option linter.unusedSimpArgs false
set_option linter.unusedVariables false
set_option linter.unusedSectionVars false
set_option maxRecDepth 100000
set_option maxHeartbeats 40000000
section
open Go.RowKit
theorem cloneM_any (b : Nat) (L : List Fct) (w : World) (h : FSet w b L) :
    Calls Tryz.prog 30 #[.map (some b)] w fun e w' => e = .returned (.map (some w.heap.size)) ∧ FSet w' w.heap.size L ∧ Below w.heap.size w w' := by
  obtain ⟨es, clock, hb, hc⟩ := h.copy
  have HC := Lib.hid hc
  have hq := fun w => run_eql_map_nil_sl (P := Tryz.prog) w 59 _ _ (some b) mapT
  clear h hc
  go_enter Tryz.func30, Tryz.ntmps30
  go_wp2
  rw [run_callFunc_extern Tryz.func48 (by kernel_rfl) (by kernel_rfl) (by kernel_rfl) (e := Extern.MapsClone.clone) (by kernel_rfl), run_maps_clone_sl w 59 hb]
  simp only [Result.andThen]
  rw [Oper.upon_value]
  go_wp2
  rw [run_typeAssert_map_sl _ 59 20 _ _ _ mapT]
  simp only [Result.andThen]
  rw [Oper.upon_value]
  go_wp2
  go_ret
  exact ⟨rfl, HC.out, ext_alloc _ _⟩
end
end Go.Proofs.YtfpbfdkjcmlimaaGreat
