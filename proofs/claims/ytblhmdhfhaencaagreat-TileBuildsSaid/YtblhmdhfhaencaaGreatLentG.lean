/-
  The flat.. functions of intarsiakit at no lists: true. (printed by gen_flatnil.py)
-/
import Derived.Test.YtblhmdhfhaencaaGreatFI2
import Derived.Test.YtblhmdhfhaencaaGreatBR
import Derived.Deep.Onto
import Derived.BigQuiet
import Derived.Deep.MidRow
namespace Go.Proofs.YtblhmdhfhaencaaGreat
set_option linter.unusedSimpArgs false
set_option linter.unusedVariables false
set_option linter.unusedSectionVars false
set_option maxRecDepth 100000
set_option maxHeartbeats 40000000
section
open Go.RowKit
theorem info_Limbs : (Tryz.prog.info? 225).map (fun i => (i.zero, i.size, i.bytes)) = some (some (.slice none 0 0), 1, 24) := by kernel_rfl
theorem flatLimbs_nil (w : World) : Calls Tryz.prog 141 #[.slice none 0 0] w fun e w' => e = .returned (.bool true) ∧ Below w.heap.size w w' := by
  obtain ⟨i0, hi, hz0, hz1, hz2⟩ := info_parts (P := Tryz.prog) info_Limbs
  go_enter Tryz.func141, Tryz.ntmps141
  go_wp2
  refine wp_loop_rounds 1 ?_
  rw [rounds_succ]
  go_wp2_with (first
    | (at_make
       refine wpList_make_full w rfl _ _ 137 rfl w.heap.size 225 i0 (.slice none 0 0) 1 Tryz.underlying137 hi hz0 hz1 .i64 .i64 _ _ 0 rfl rfl rfl rfl (by rw [hz2]; omega) (by simp only [maxLen]; omega) (Nat.le_refl _) ?_;intro w3 hown3 hg3;have HB := Lib.hid ((Below.refl w.heap.size w).grown hg3 (Nat.le_refl _) (by simp));clear hown3 hg3))
  refine wp_loop_rounds 1 ?_
  rw [rounds_succ]
  go_wp2
  refine wp_loop_rounds 1 ?_
  rw [rounds_succ]
  go_wp2
  refine wp_loop_rounds 1 ?_
  rw [rounds_succ]
  go_wp2
  refine wp_loop_rounds 1 ?_
  rw [rounds_succ]
  go_wp2
  go_ret
  exact ⟨rfl, HB.out⟩
theorem info_Words : (Tryz.prog.info? 227).map (fun i => (i.zero, i.size, i.bytes)) = some (some (.slice none 0 0), 1, 24) := by kernel_rfl
theorem flatWords_nil (w : World) : Calls Tryz.prog 142 #[.slice none 0 0] w fun e w' => e = .returned (.bool true) ∧ Below w.heap.size w w' := by
  obtain ⟨i0, hi, hz0, hz1, hz2⟩ := info_parts (P := Tryz.prog) info_Words
  go_enter Tryz.func142, Tryz.ntmps142
  go_wp2
  refine wp_loop_rounds 1 ?_
  rw [rounds_succ]
  go_wp2_with (first
    | (at_make
       refine wpList_make_full w rfl _ _ 138 rfl w.heap.size 227 i0 (.slice none 0 0) 1 Tryz.underlying138 hi hz0 hz1 .i64 .i64 _ _ 0 rfl rfl rfl rfl (by rw [hz2]; omega) (by simp only [maxLen]; omega) (Nat.le_refl _) ?_;intro w3 hown3 hg3;have HB := Lib.hid ((Below.refl w.heap.size w).grown hg3 (Nat.le_refl _) (by simp));clear hown3 hg3))
  refine wp_loop_rounds 1 ?_
  rw [rounds_succ]
  go_wp2
  refine wp_loop_rounds 1 ?_
  rw [rounds_succ]
  go_wp2
  refine wp_loop_rounds 1 ?_
  rw [rounds_succ]
  go_wp2
  refine wp_loop_rounds 1 ?_
  rw [rounds_succ]
  go_wp2
  go_ret
  exact ⟨rfl, HB.out⟩
theorem info_Longs : (Tryz.prog.info? 229).map (fun i => (i.zero, i.size, i.bytes)) = some (some (.slice none 0 0), 1, 24) := by kernel_rfl
theorem flatLongs_nil (w : World) : Calls Tryz.prog 144 #[.slice none 0 0] w fun e w' => e = .returned (.bool true) ∧ Below w.heap.size w w' := by
  obtain ⟨i0, hi, hz0, hz1, hz2⟩ := info_parts (P := Tryz.prog) info_Longs
  go_enter Tryz.func144, Tryz.ntmps144
  go_wp2
  refine wp_loop_rounds 1 ?_
  rw [rounds_succ]
  go_wp2_with (first
    | (at_make
       refine wpList_make_full w rfl _ _ 139 rfl w.heap.size 229 i0 (.slice none 0 0) 1 Tryz.underlying139 hi hz0 hz1 .i64 .i64 _ _ 0 rfl rfl rfl rfl (by rw [hz2]; omega) (by simp only [maxLen]; omega) (Nat.le_refl _) ?_;intro w3 hown3 hg3;have HB := Lib.hid ((Below.refl w.heap.size w).grown hg3 (Nat.le_refl _) (by simp));clear hown3 hg3))
  refine wp_loop_rounds 1 ?_
  rw [rounds_succ]
  go_wp2
  refine wp_loop_rounds 1 ?_
  rw [rounds_succ]
  go_wp2
  refine wp_loop_rounds 1 ?_
  rw [rounds_succ]
  go_wp2
  refine wp_loop_rounds 1 ?_
  rw [rounds_succ]
  go_wp2
  go_ret
  exact ⟨rfl, HB.out⟩
theorem info_Texts : (Tryz.prog.info? 230).map (fun i => (i.zero, i.size, i.bytes)) = some (some (.slice none 0 0), 1, 24) := by kernel_rfl
theorem flatTexts_nil (w : World) : Calls Tryz.prog 145 #[.slice none 0 0] w fun e w' => e = .returned (.bool true) ∧ Below w.heap.size w w' := by
  obtain ⟨i0, hi, hz0, hz1, hz2⟩ := info_parts (P := Tryz.prog) info_Texts
  go_enter Tryz.func145, Tryz.ntmps145
  go_wp2
  refine wp_loop_rounds 1 ?_
  rw [rounds_succ]
  go_wp2_with (first
    | (at_make
       refine wpList_make_full w rfl _ _ 140 rfl w.heap.size 230 i0 (.slice none 0 0) 1 Tryz.underlying140 hi hz0 hz1 .i64 .i64 _ _ 0 rfl rfl rfl rfl (by rw [hz2]; omega) (by simp only [maxLen]; omega) (Nat.le_refl _) ?_;intro w3 hown3 hg3;have HB := Lib.hid ((Below.refl w.heap.size w).grown hg3 (Nat.le_refl _) (by simp));clear hown3 hg3))
  refine wp_loop_rounds 1 ?_
  rw [rounds_succ]
  go_wp2
  refine wp_loop_rounds 1 ?_
  rw [rounds_succ]
  go_wp2
  refine wp_loop_rounds 1 ?_
  rw [rounds_succ]
  go_wp2
  refine wp_loop_rounds 1 ?_
  rw [rounds_succ]
  go_wp2
  go_ret
  exact ⟨rfl, HB.out⟩
theorem info_Bytes : (Tryz.prog.info? 232).map (fun i => (i.zero, i.size, i.bytes)) = some (some (.slice none 0 0), 1, 24) := by kernel_rfl
theorem flatBytes_nil (w : World) : Calls Tryz.prog 146 #[.slice none 0 0] w fun e w' => e = .returned (.bool true) ∧ Below w.heap.size w w' := by
  obtain ⟨i0, hi, hz0, hz1, hz2⟩ := info_parts (P := Tryz.prog) info_Bytes
  go_enter Tryz.func146, Tryz.ntmps146
  go_wp2
  refine wp_loop_rounds 1 ?_
  rw [rounds_succ]
  go_wp2_with (first
    | (at_make
       refine wpList_make_full w rfl _ _ 141 rfl w.heap.size 232 i0 (.slice none 0 0) 1 Tryz.underlying141 hi hz0 hz1 .i64 .i64 _ _ 0 rfl rfl rfl rfl (by rw [hz2]; omega) (by simp only [maxLen]; omega) (Nat.le_refl _) ?_;intro w3 hown3 hg3;have HB := Lib.hid ((Below.refl w.heap.size w).grown hg3 (Nat.le_refl _) (by simp));clear hown3 hg3))
  refine wp_loop_rounds 1 ?_
  rw [rounds_succ]
  go_wp2
  refine wp_loop_rounds 1 ?_
  rw [rounds_succ]
  go_wp2
  refine wp_loop_rounds 1 ?_
  rw [rounds_succ]
  go_wp2
  refine wp_loop_rounds 1 ?_
  rw [rounds_succ]
  go_wp2
  go_ret
  exact ⟨rfl, HB.out⟩
theorem info_Truths : (Tryz.prog.info? 234).map (fun i => (i.zero, i.size, i.bytes)) = some (some (.slice none 0 0), 1, 24) := by kernel_rfl
theorem flatTruths_nil (w : World) : Calls Tryz.prog 147 #[.slice none 0 0] w fun e w' => e = .returned (.bool true) ∧ Below w.heap.size w w' := by
  obtain ⟨i0, hi, hz0, hz1, hz2⟩ := info_parts (P := Tryz.prog) info_Truths
  go_enter Tryz.func147, Tryz.ntmps147
  go_wp2
  refine wp_loop_rounds 1 ?_
  rw [rounds_succ]
  go_wp2_with (first
    | (at_make
       refine wpList_make_full w rfl _ _ 142 rfl w.heap.size 234 i0 (.slice none 0 0) 1 Tryz.underlying142 hi hz0 hz1 .i64 .i64 _ _ 0 rfl rfl rfl rfl (by rw [hz2]; omega) (by simp only [maxLen]; omega) (Nat.le_refl _) ?_;intro w3 hown3 hg3;have HB := Lib.hid ((Below.refl w.heap.size w).grown hg3 (Nat.le_refl _) (by simp));clear hown3 hg3))
  refine wp_loop_rounds 1 ?_
  rw [rounds_succ]
  go_wp2
  refine wp_loop_rounds 1 ?_
  rw [rounds_succ]
  go_wp2
  refine wp_loop_rounds 1 ?_
  rw [rounds_succ]
  go_wp2
  refine wp_loop_rounds 1 ?_
  rw [rounds_succ]
  go_wp2
  go_ret
  exact ⟨rfl, HB.out⟩
theorem info_Row : (Tryz.prog.info? 71).map (fun i => (i.zero, i.size, i.bytes)) = some (some (.slice none 0 0), 1, 24) := by kernel_rfl
theorem flatRow_nil (w : World) : Calls Tryz.prog 148 #[.slice none 0 0] w fun e w' => e = .returned (.bool true) ∧ Below w.heap.size w w' := by
  obtain ⟨i0, hi, hz0, hz1, hz2⟩ := info_parts (P := Tryz.prog) info_Row
  go_enter Tryz.func148, Tryz.ntmps148
  go_wp2
  refine wp_loop_rounds 1 ?_
  rw [rounds_succ]
  go_wp2_with (first
    | (at_make
       refine wpList_make_full w rfl _ _ 143 rfl w.heap.size 71 i0 (.slice none 0 0) 1 Tryz.underlying143 hi hz0 hz1 .i64 .i64 _ _ 0 rfl rfl rfl rfl (by rw [hz2]; omega) (by simp only [maxLen]; omega) (Nat.le_refl _) ?_;intro w3 hown3 hg3;have HB := Lib.hid ((Below.refl w.heap.size w).grown hg3 (Nat.le_refl _) (by simp));clear hown3 hg3))
  refine wp_loop_rounds 1 ?_
  rw [rounds_succ]
  go_wp2
  refine wp_loop_rounds 1 ?_
  rw [rounds_succ]
  go_wp2
  refine wp_loop_rounds 1 ?_
  rw [rounds_succ]
  go_wp2
  refine wp_loop_rounds 1 ?_
  rw [rounds_succ]
  go_wp2
  go_ret
  exact ⟨rfl, HB.out⟩
theorem info_Blocks : (Tryz.prog.info? 23).map (fun i => (i.zero, i.size, i.bytes)) = some (some (.slice none 0 0), 1, 24) := by kernel_rfl
theorem flatBlocks_nil (w : World) : Calls Tryz.prog 149 #[.slice none 0 0] w fun e w' => e = .returned (.bool true) ∧ Below w.heap.size w w' := by
  obtain ⟨i0, hi, hz0, hz1, hz2⟩ := info_parts (P := Tryz.prog) info_Blocks
  go_enter Tryz.func149, Tryz.ntmps149
  go_wp2
  refine wp_loop_rounds 1 ?_
  rw [rounds_succ]
  go_wp2_with (first
    | (at_make
       refine wpList_make_full w rfl _ _ 144 rfl w.heap.size 23 i0 (.slice none 0 0) 1 Tryz.underlying144 hi hz0 hz1 .i64 .i64 _ _ 0 rfl rfl rfl rfl (by rw [hz2]; omega) (by simp only [maxLen]; omega) (Nat.le_refl _) ?_;intro w3 hown3 hg3;have HB := Lib.hid ((Below.refl w.heap.size w).grown hg3 (Nat.le_refl _) (by simp));clear hown3 hg3))
  refine wp_loop_rounds 1 ?_
  rw [rounds_succ]
  go_wp2
  refine wp_loop_rounds 1 ?_
  rw [rounds_succ]
  go_wp2
  refine wp_loop_rounds 1 ?_
  rw [rounds_succ]
  go_wp2
  refine wp_loop_rounds 1 ?_
  rw [rounds_succ]
  go_wp2
  go_ret
  exact ⟨rfl, HB.out⟩
theorem info_Funcs : (Tryz.prog.info? 66).map (fun i => (i.zero, i.size, i.bytes)) = some (some (.slice none 0 0), 1, 24) := by kernel_rfl
theorem flatFuncs_nil (w : World) : Calls Tryz.prog 150 #[.slice none 0 0] w fun e w' => e = .returned (.bool true) ∧ Below w.heap.size w w' := by
  obtain ⟨i0, hi, hz0, hz1, hz2⟩ := info_parts (P := Tryz.prog) info_Funcs
  go_enter Tryz.func150, Tryz.ntmps150
  go_wp2
  refine wp_loop_rounds 1 ?_
  rw [rounds_succ]
  go_wp2_with (first
    | (at_make
       refine wpList_make_full w rfl _ _ 145 rfl w.heap.size 66 i0 (.slice none 0 0) 1 Tryz.underlying145 hi hz0 hz1 .i64 .i64 _ _ 0 rfl rfl rfl rfl (by rw [hz2]; omega) (by simp only [maxLen]; omega) (Nat.le_refl _) ?_;intro w3 hown3 hg3;have HB := Lib.hid ((Below.refl w.heap.size w).grown hg3 (Nat.le_refl _) (by simp));clear hown3 hg3))
  refine wp_loop_rounds 1 ?_
  rw [rounds_succ]
  go_wp2
  refine wp_loop_rounds 1 ?_
  rw [rounds_succ]
  go_wp2
  refine wp_loop_rounds 1 ?_
  rw [rounds_succ]
  go_wp2
  refine wp_loop_rounds 1 ?_
  rw [rounds_succ]
  go_wp2
  go_ret
  exact ⟨rfl, HB.out⟩
theorem info_Targets : (Tryz.prog.info? 238).map (fun i => (i.zero, i.size, i.bytes)) = some (some (.slice none 0 0), 1, 24) := by kernel_rfl
theorem flatTargets_nil (w : World) : Calls Tryz.prog 151 #[.slice none 0 0] w fun e w' => e = .returned (.bool true) ∧ Below w.heap.size w w' := by
  obtain ⟨i0, hi, hz0, hz1, hz2⟩ := info_parts (P := Tryz.prog) info_Targets
  go_enter Tryz.func151, Tryz.ntmps151
  go_wp2
  refine wp_loop_rounds 1 ?_
  rw [rounds_succ]
  go_wp2_with (first
    | (at_make
       refine wpList_make_full w rfl _ _ 146 rfl w.heap.size 238 i0 (.slice none 0 0) 1 Tryz.underlying146 hi hz0 hz1 .i64 .i64 _ _ 0 rfl rfl rfl rfl (by rw [hz2]; omega) (by simp only [maxLen]; omega) (Nat.le_refl _) ?_;intro w3 hown3 hg3;have HB := Lib.hid ((Below.refl w.heap.size w).grown hg3 (Nat.le_refl _) (by simp));clear hown3 hg3))
  refine wp_loop_rounds 1 ?_
  rw [rounds_succ]
  go_wp2
  refine wp_loop_rounds 1 ?_
  rw [rounds_succ]
  go_wp2
  refine wp_loop_rounds 1 ?_
  rw [rounds_succ]
  go_wp2
  refine wp_loop_rounds 1 ?_
  rw [rounds_succ]
  go_wp2
  go_ret
  exact ⟨rfl, HB.out⟩
theorem info_Machines : (Tryz.prog.info? 243).map (fun i => (i.zero, i.size, i.bytes)) = some (some (.slice none 0 0), 1, 24) := by kernel_rfl
theorem flatMachines_nil (w : World) : Calls Tryz.prog 152 #[.slice none 0 0] w fun e w' => e = .returned (.bool true) ∧ Below w.heap.size w w' := by
  obtain ⟨i0, hi, hz0, hz1, hz2⟩ := info_parts (P := Tryz.prog) info_Machines
  go_enter Tryz.func152, Tryz.ntmps152
  go_wp2
  refine wp_loop_rounds 1 ?_
  rw [rounds_succ]
  go_wp2_with (first
    | (at_make
       refine wpList_make_full w rfl _ _ 147 rfl w.heap.size 243 i0 (.slice none 0 0) 1 Tryz.underlying147 hi hz0 hz1 .i64 .i64 _ _ 0 rfl rfl rfl rfl (by rw [hz2]; omega) (by simp only [maxLen]; omega) (Nat.le_refl _) ?_;intro w3 hown3 hg3;have HB := Lib.hid ((Below.refl w.heap.size w).grown hg3 (Nat.le_refl _) (by simp));clear hown3 hg3))
  refine wp_loop_rounds 1 ?_
  rw [rounds_succ]
  go_wp2
  refine wp_loop_rounds 1 ?_
  rw [rounds_succ]
  go_wp2
  refine wp_loop_rounds 1 ?_
  rw [rounds_succ]
  go_wp2
  refine wp_loop_rounds 1 ?_
  rw [rounds_succ]
  go_wp2
  go_ret
  exact ⟨rfl, HB.out⟩
theorem info_Locs : (Tryz.prog.info? 248).map (fun i => (i.zero, i.size, i.bytes)) = some (some (.slice none 0 0), 1, 24) := by kernel_rfl
theorem flatLocs_nil (w : World) : Calls Tryz.prog 153 #[.slice none 0 0] w fun e w' => e = .returned (.bool true) ∧ Below w.heap.size w w' := by
  obtain ⟨i0, hi, hz0, hz1, hz2⟩ := info_parts (P := Tryz.prog) info_Locs
  go_enter Tryz.func153, Tryz.ntmps153
  go_wp2
  refine wp_loop_rounds 1 ?_
  rw [rounds_succ]
  go_wp2_with (first
    | (at_make
       refine wpList_make_full w rfl _ _ 148 rfl w.heap.size 248 i0 (.slice none 0 0) 1 Tryz.underlying148 hi hz0 hz1 .i64 .i64 _ _ 0 rfl rfl rfl rfl (by rw [hz2]; omega) (by simp only [maxLen]; omega) (Nat.le_refl _) ?_;intro w3 hown3 hg3;have HB := Lib.hid ((Below.refl w.heap.size w).grown hg3 (Nat.le_refl _) (by simp));clear hown3 hg3))
  refine wp_loop_rounds 1 ?_
  rw [rounds_succ]
  go_wp2
  refine wp_loop_rounds 1 ?_
  rw [rounds_succ]
  go_wp2
  refine wp_loop_rounds 1 ?_
  rw [rounds_succ]
  go_wp2
  refine wp_loop_rounds 1 ?_
  rw [rounds_succ]
  go_wp2
  go_ret
  exact ⟨rfl, HB.out⟩
theorem info_Facts : (Tryz.prog.info? 252).map (fun i => (i.zero, i.size, i.bytes)) = some (some (.slice none 0 0), 1, 24) := by kernel_rfl
theorem flatFacts_nil (w : World) : Calls Tryz.prog 154 #[.slice none 0 0] w fun e w' => e = .returned (.bool true) ∧ Below w.heap.size w w' := by
  obtain ⟨i0, hi, hz0, hz1, hz2⟩ := info_parts (P := Tryz.prog) info_Facts
  go_enter Tryz.func154, Tryz.ntmps154
  go_wp2
  refine wp_loop_rounds 1 ?_
  rw [rounds_succ]
  go_wp2_with (first
    | (at_make
       refine wpList_make_full w rfl _ _ 149 rfl w.heap.size 252 i0 (.slice none 0 0) 1 Tryz.underlying149 hi hz0 hz1 .i64 .i64 _ _ 0 rfl rfl rfl rfl (by rw [hz2]; omega) (by simp only [maxLen]; omega) (Nat.le_refl _) ?_;intro w3 hown3 hg3;have HB := Lib.hid ((Below.refl w.heap.size w).grown hg3 (Nat.le_refl _) (by simp));clear hown3 hg3))
  refine wp_loop_rounds 1 ?_
  rw [rounds_succ]
  go_wp2
  refine wp_loop_rounds 1 ?_
  rw [rounds_succ]
  go_wp2
  refine wp_loop_rounds 1 ?_
  rw [rounds_succ]
  go_wp2
  refine wp_loop_rounds 1 ?_
  rw [rounds_succ]
  go_wp2
  go_ret
  exact ⟨rfl, HB.out⟩
theorem info_Edges : (Tryz.prog.info? 50).map (fun i => (i.zero, i.size, i.bytes)) = some (some (.slice none 0 0), 1, 24) := by kernel_rfl
theorem flatEdges_nil (w : World) : Calls Tryz.prog 155 #[.slice none 0 0] w fun e w' => e = .returned (.bool true) ∧ Below w.heap.size w w' := by
  obtain ⟨i0, hi, hz0, hz1, hz2⟩ := info_parts (P := Tryz.prog) info_Edges
  go_enter Tryz.func155, Tryz.ntmps155
  go_wp2
  refine wp_loop_rounds 1 ?_
  rw [rounds_succ]
  go_wp2_with (first
    | (at_make
       refine wpList_make_full w rfl _ _ 150 rfl w.heap.size 50 i0 (.slice none 0 0) 1 Tryz.underlying150 hi hz0 hz1 .i64 .i64 _ _ 0 rfl rfl rfl rfl (by rw [hz2]; omega) (by simp only [maxLen]; omega) (Nat.le_refl _) ?_;intro w3 hown3 hg3;have HB := Lib.hid ((Below.refl w.heap.size w).grown hg3 (Nat.le_refl _) (by simp));clear hown3 hg3))
  refine wp_loop_rounds 1 ?_
  rw [rounds_succ]
  go_wp2
  refine wp_loop_rounds 1 ?_
  rw [rounds_succ]
  go_wp2
  refine wp_loop_rounds 1 ?_
  rw [rounds_succ]
  go_wp2
  refine wp_loop_rounds 1 ?_
  rw [rounds_succ]
  go_wp2
  go_ret
  exact ⟨rfl, HB.out⟩
theorem info_Calls : (Tryz.prog.info? 257).map (fun i => (i.zero, i.size, i.bytes)) = some (some (.slice none 0 0), 1, 24) := by kernel_rfl
theorem flatCalls_nil (w : World) : Calls Tryz.prog 157 #[.slice none 0 0] w fun e w' => e = .returned (.bool true) ∧ Below w.heap.size w w' := by
  obtain ⟨i0, hi, hz0, hz1, hz2⟩ := info_parts (P := Tryz.prog) info_Calls
  go_enter Tryz.func157, Tryz.ntmps157
  go_wp2
  refine wp_loop_rounds 1 ?_
  rw [rounds_succ]
  go_wp2_with (first
    | (at_make
       refine wpList_make_full w rfl _ _ 151 rfl w.heap.size 257 i0 (.slice none 0 0) 1 Tryz.underlying151 hi hz0 hz1 .i64 .i64 _ _ 0 rfl rfl rfl rfl (by rw [hz2]; omega) (by simp only [maxLen]; omega) (Nat.le_refl _) ?_;intro w3 hown3 hg3;have HB := Lib.hid ((Below.refl w.heap.size w).grown hg3 (Nat.le_refl _) (by simp));clear hown3 hg3))
  refine wp_loop_rounds 1 ?_
  rw [rounds_succ]
  go_wp2
  refine wp_loop_rounds 1 ?_
  rw [rounds_succ]
  go_wp2
  refine wp_loop_rounds 1 ?_
  rw [rounds_succ]
  go_wp2
  refine wp_loop_rounds 1 ?_
  rw [rounds_succ]
  go_wp2
  go_ret
  exact ⟨rfl, HB.out⟩
end

section
open Go.RowKit
abbrev nilVz : Value := .slice none 0 0
theorem FIn.ext {e eo : TypeId} {size base K : Nat} {vo : Value} {rv : Nat → Value} {L : Nat → Nat} {w w' : World} (h : FIn e eo size base K vo rv L w) (hb : Below w.heap.size w w') : FIn e eo size base K vo rv L w' :=
  ⟨(Steady.ownsRow w.heap.size _ _ _ _ _ _).ext h.outer hb, fun j hj => by
    obtain ⟨X, hX⟩ := h.rows j hj;exact ⟨X, (Steady.ownsRow w.heap.size _ _ _ _ _ _).ext hX hb⟩, h.sep⟩
end

section
open Go.RowKit
def okL {α : Type} (s : List α) (x : α) : Prop := s.head? = some x
def nxL {α : Type} (s : List α) (_ : α) : List α := s.tail
def finL {α : Type} (s : List α) : Prop := s = []
theorem okL_cons {α : Type} {s : List α} {x : α} (h : okL s x) : s = x :: nxL s x := by
  cases s with
  | nil => cases h
  | cons y l => injection h with h; subst h; rfl
def IterI {α : Type} (P : Program) (gf : Nat) (lb : Array Value) (enc : α → Array Value) (l : List α) (I : World → Prop) : Prop :=
  Iter P gf lb enc okL nxL l finL (fun _ W => I W)
theorem IterI.mono {α : Type} {P : Program} {gf : Nat} {lb : Array Value} {enc : α → Array Value} {l : List α} {I I' : World → Prop} (h : IterI P gf lb enc l I) (hi : ∀ W, I' W → I W) : IterI P gf lb enc l I' :=
  fun lp K Kx W hK hKx hInv hY h0 => h lp K Kx W hK hKx (fun s W hs => hi W (hInv s W hs)) hY h0
def IterL {α : Type} (P : Program) (gf : Nat) (lb : Array Value) (enc : α → Array Value) (l : List α) (w : World) : Prop :=
  Iter P gf lb enc okL nxL l finL (fun _ W => Below w.heap.size w W)
theorem listIn_of {P : Program} {ops : Array Oper} {Q : Exit → Act → World → Prop} {l : Nat} (hQ : ¬ LetsOut Q) :
    ∀ (rest : List Oper) (a : Act) (w : World), rest.all notDefer = true → wpList P ops Q rest a w → wpListIn (Fence.wide.inRound l) 0 P ops Q rest a w := by
  intro rest
  induction rest with
  | nil => intro a w _ h; exact h
  | cons o rest ih =>
    intro a w hn h;rw [List.all_cons, Bool.and_eq_true] at hn;simp only [wpList, wpListIn] at h ⊢;by_cases hw : Region.wanted o (yielded ops a.tmps) = true
    · simp only [hw, if_true] at h ⊢;rcases h with h | ⟨_, h⟩
      · refine ⟨fun _ _ => trivial, ?_⟩;have hs : Oper.semAt (Fence.wide.inRound l).round a.eval o = execOp a.eval o := Oper.semAt_some l _ _ (fun c hc => by have := hn.1; simp [notDefer, hc] at this);rw [hs];unfold Oper.wp at h;generalize (execOp a.eval o).run P w = r at h;cases r with
        | ok nx w' =>
          cases nx <;> simp only [Oper.upon, Oper.uponIn] at h ⊢ <;> first
            | exact ih _ _ hn.2 h
            | exact ⟨fun hh => by simp [Fence.wide, Fence.inRound] at hh, (CallsIn.inRound l (callsIn_wide.2 (h.mono (fun e w'' he => by cases e <;> first | exact ih _ _ hn.2 he | exact he))))⟩
            | exact ⟨fun hh => by simp [Fence.wide, Fence.inRound] at hh, rowsIn_of l (h.mono (fun v w'' hv => ih _ _ hn.2 hv))⟩
            | exact h.elim
        | halt x w' => cases x <;> simp only [Oper.upon, Oper.uponIn] at h ⊢ <;> exact h
      · exact absurd h hQ
    · simp only [hw] at h ⊢;exact ⟨fun _ _ => trivial, ih _ _ hn.2 h⟩
theorem wide_quiet_lit {P : Program} {id : Nat} {Q : Exit → Act → World → Prop} {a : Act} {w : World} {ol : List Oper} (hm : P.follows .mixedOrders = true) (hB : Region.lexB .any ol.toArray = true)
    (h : wpQuiet P ol.toArray (fun w' => ∃ n, w' = w.drewN n) (fun a' => ∀ w', (∃ n, w' = w.drewN n) → Q .normal a' w') ol a) : (Code.region id ol.toArray true).wpIn Fence.wide 0 P Q a w :=
  wpIn_wide.2 (wp_region_quiet_lit hm hB h)
theorem range_list {P : Program} {α : Type} {g : Operand} {ps : Array Tmp} {assign body : Code} {Q : Exit → Act → World → Prop} {a : Act} {w : World} {gf : Nat} {lb : Array Value}
    (hg : a.eval g = .func (.func gf) #[] lb) (eg : ∀ args w, (callFunc gf args).run P w = .ok (.enter gf args) w)
    {enc : α → Array Value} {l : List α} (I : World → Prop) (hit : IterI P gf lb enc l I) (hps : ∀ x, (enc x).size = ps.size)
    (J : List α → List α → World → Prop) (Jx : Code → World → Prop)
    (hJ : ∀ d r, Steady w.heap.size (J d r)) (hJx : ∀ c, Steady w.heap.size (Jx c)) (hInv : ∀ d r W, J d r W → I W)
    (h0 : J [] l w)
    (hround : ∀ (lp : Nat) (d : List α) (x : α) (r : List α) (W : World), l = d ++ x :: r → J d (x :: r) W →
      assign.wpIn (Fence.wide.inRound lp) 0 P (Exit.then (fun a1 W1 => Keep W W1 ∧ J d (x :: r) W1 ∧ ∀ (lp : Nat) (W2 : World), J d (x :: r) W2 →
        body.wpIn (Fence.wide.inRound lp) 0 P (roundEnd (fun W' => Keep W2 W' ∧ J (d ++ [x]) r W') (fun c W' => Keep W2 W' ∧ Jx c W')) a1 W2) (fun _ _ _ => False)) { tmps := (ps.zip (enc x)).foldl (fun t (p, v) => t.setIfInBounds p v) a.tmps, defers := [] } W)
    (hdone : ∀ (D : Nat) (W : World), w.heap.size ≤ D → J l [] W → W.heap[D]? = some (.deferred (some [])) → Q .normal { a with defers := { target := .collected D, args := #[] } :: a.defers } W)
    (hstop : ∀ (D : Nat) (c : Code) (W : World), w.heap.size ≤ D → Jx c W → W.heap[D]? = some (.deferred (some [])) → c.wpIn Fence.wide 0 P Q { a with defers := { target := .collected D, args := #[] } :: a.defers } W) :
    (Code.rangeFunc g ps assign body).wpIn Fence.wide 0 P Q a w := by
  refine range_outer (enc := enc) hg eg hit hps (fun s W => ∃ d, l = d ++ s ∧ J d s W) Jx
    (fun s x a1 _ => ∀ (d : List α) (lp : Nat) (W2 : World), l = d ++ s → J d s W2 → body.wpIn (Fence.wide.inRound lp) 0 P (roundEnd (fun W' => Keep W2 W' ∧ J (d ++ [x]) (nxL s x) W') (fun c W' => Keep W2 W' ∧ Jx c W')) a1 W2)
    (fun s => Steady.ex fun d => (Steady.pure _ _).and (hJ d s)) hJx (fun _ _ _ => Steady.pure _ _) (fun s W ⟨d, _, h⟩ => hInv d s W h) ⟨[], rfl, h0⟩ ?_ ?_ ?_ hstop
  · rintro lp s x W hok ⟨d, hd, hj⟩;have hs := okL_cons hok;generalize nxL s x = r at hs ⊢;subst hs;refine wpIn_mono (hround lp d x r W hd hj) ?_;rintro e a1 W1 he;cases e with
    | normal =>
      obtain ⟨h1, h2, h3⟩ := he;refine ⟨h1, ⟨d, hd, h2⟩, fun d' lp' W2 hd' hj' => ?_⟩;have : d' = d := by
        have := hd'.symm.trans hd;exact List.append_cancel_right this
      subst this;exact h3 lp' W2 hj'
    | _ => exact he.elim
  · rintro lp s x a1 W hok ⟨d, hd, hj⟩ hA;refine wpIn_mono (hA d lp W hd hj) ?_;rintro e a3 W3 he;cases e with
    | normal =>
      refine ⟨he.1, d ++ [x], ?_, he.2⟩;rw [hd, List.append_assoc]
      congr 1
      exact okL_cons hok
    | ret => exact he
    | exit id => exact he
    | goto t => exact he
    | panic ch => exact he.elim
    | outgrown => exact he.elim
  · rintro D s W hD hf ⟨d, hd, hj⟩ hk;have hf : s = [] := hf;subst hf;rw [List.append_nil] at hd;subst hd;exact hdone D W hD hj hk
end

section
open Go.RowKit
def OwnR {α : Type} (e : TypeId) (size : Nat) (cs : α → List Value) (w : World) (base : Nat) (v : Value) (ls : List α) : Prop := w.ownsRow base e size v ls.length (ls.flatMap cs) ∧ ls.length ≤ 17592186044416
section
variable {α : Type} {e : TypeId} {size : Nat} {cs : α → List Value} {w w' : World} {base base' : Nat} {v : Value} {ls : List α}
theorem OwnR.nil (e : TypeId) (size : Nat) (cs : α → List Value) (w : World) (base : Nat) : OwnR e size cs w base (.slice none 0 0) [] := ⟨World.ownsRow_nil _ _ _ _, by simp⟩
theorem OwnR.mono (h : OwnR e size cs w base v ls) (hb : base' ≤ base) : OwnR e size cs w base' v ls := by
  refine ⟨⟨h.1.1, ?_⟩, h.2⟩
  rcases h.1.2 with h0 | ⟨g, cap, cur, hv, h1, r⟩
  · exact .inl h0
  · exact .inr ⟨g, cap, cur, hv, Nat.le_trans hb h1, r⟩
theorem OwnR.kept {row : Option Nat} (h : OwnR e size cs w base v ls) (hg : w.grownBy w' row) (hne : v.ownBlock = none ∨ v.ownBlock ≠ row) : OwnR e size cs w' base v ls := ⟨h.1.kept hg hne, h.2⟩
theorem OwnR.ext (h : OwnR e size cs w base v ls) (hb : Below w.heap.size w w') : OwnR e size cs w' base v ls := by
  refine ⟨h.1.kept (row := none) ⟨hb.os, hb.tape, hb.output, hb.size, fun k hk _ => hb.block k hk⟩ ?_, h.2⟩
  cases h1 : v.ownBlock with
  | none => exact .inl rfl
  | some k => exact .inr (by simp)
theorem OwnR.form (h : OwnR e size cs w base v ls) : ∃ a c, v = .slice a ls.length c := by
  rcases h.1.2 with ⟨rfl, h0⟩ | ⟨g, cap, cur, hv, _⟩
  · have h0 : ls.length = 0 := h0;rw [h0];exact ⟨none, 0, rfl⟩
  · exact ⟨_, _, hv⟩
theorem OwnR.recs {a : Option Addr} {n c : Nat} (hs : ∀ x, (cs x).length = size) (h : OwnR e size cs w base (.slice a n c) ls) : Recs size cs w a n ls := by
  obtain ⟨a', c', e1, e2, _⟩ := recs_of_own hs h.1 h.2
  injection e1 with h1 h2 h3
  subst h1 h2 h3
  exact e2
theorem OwnR.low {k : Nat} (h : OwnR e size cs w base v ls) (hk : v.ownBlock = some k) : base ≤ k ∧ k < w.heap.size := ⟨(h.1.lt k hk).1, (h.1.lt k hk).2⟩
theorem Steady.ownR (D base : Nat) (v : Value) (ls : List α) : Steady D (fun W => OwnR e size cs W base v ls) := (Steady.ownsRow _ _ _ _ _ _ _).and (Steady.pure _ _)
end
section
variable {P : Program}
end
end

section
open Go.RowKit
section
variable {P : Program} {ops : Array Oper} {rest : List Oper} {o : Oper} {a : Act}
theorem wpQuiet_load_mid {C : World → Prop} {Q : Act → Prop} (hw : Region.wanted o (yielded ops a.tmps) = true) (ty : TypeId) (x : Operand) (ho : o.op = .load ty x)
    (b q : Nat) (hx : a.eval x = .pointer (some ⟨b, q, none⟩)) (cs : List Value) (d : TypeDesc) (hc : ∀ w, C w → w.rangeAt b q cs)
    (hu : P.underlying ty = some d) (hd : d.isRow = true) (hi : (P.info? ty).map (·.size) = some cs.length)
    (h : wpQuiet P ops C Q rest (a.put o.dst (.agg cs.toArray))) : wpQuiet P ops C Q (o :: rest) a :=
  BigFrame.wpQuiet_want hw fun _ hK => ⟨.agg cs.toArray, fun w hC => by
    unfold Oper.quietAt execOp;simp only [ho, hx, Instr.loadAt, Instr.sureAddr, Sem.run_bind, Sem.run_pure, Result.andThen_ok, run_loadVar_mid w b q ty cs d (hc w hC) hu hd hi];exact ⟨rfl, rfl⟩, hK _ h⟩
end
theorem own_cells {base : Nat} {e : TypeId} {size g n c : Nat} : ∀ (vs : List Value) (o : Nat) (xs : List Value) (w : World), w.ownsRow base e size (.slice (some ⟨g, 0, none⟩) n c) n xs → o + vs.length ≤ xs.length →
    (w.setCells g o vs).ownsRow base e size (.slice (some ⟨g, 0, none⟩) n c) n (xs.take o ++ vs ++ xs.drop (o + vs.length))
  | [], o, xs, w, h, _ => by simpa [World.setCells] using h
  | v :: r, o, xs, w, h, ho => by
    simp only [List.length_cons] at ho;have h1 := own_cells r (o + 1) _ _ (h.stored o v).1 (by simp; omega);rw [World.setCells];have e : (xs.set o v).take (o + 1) ++ r ++ (xs.set o v).drop (o + 1 + r.length) = xs.take o ++ (v :: r) ++ xs.drop (o + (v :: r).length) := by
      rw [List.drop_set_of_lt (by omega), List.take_add_one, List.take_set_of_le (by omega), List.getElem?_set_self (by omega)];simp [Nat.add_assoc, Nat.add_comm 1]
    rw [e] at h1;exact h1
theorem flat_set {α : Type} (cs : α → List Value) (size : Nat) (hs : ∀ x, (cs x).length = size) (x : α) : ∀ (l : List α) (k : Nat), k < l.length → (l.flatMap cs).take (k * size) ++ cs x ++ (l.flatMap cs).drop (k * size + size) = (l.set k x).flatMap cs
  | y :: l, 0, _ => by
    simp only [List.flatMap_cons, Nat.zero_mul, List.take_zero, List.nil_append, List.set_cons_zero, Nat.zero_add];rw [← hs y, List.drop_left]
  | y :: l, k + 1, h => by
    have ih := flat_set cs size hs x l k (by simpa using h);rw [List.flatMap_cons, List.set_cons_succ, List.flatMap_cons, ← ih, Nat.add_mul, Nat.one_mul];have e1 : k * size + size = (cs y).length + k * size := by rw [hs]; omega
    have e2 : k * size + size + size = (cs y).length + (k * size + size) := by rw [hs]; omega
    rw [e2, List.drop_append, e1, List.take_append];simp only [List.append_assoc];rw [List.take_of_length_le (by omega), List.drop_of_length_le (l := cs y) (by omega), List.nil_append]
    congr 2
    · congr 1; omega
    · congr 1
      congr 1; omega
section
variable {α : Type} {e : TypeId} {size : Nat} {cs : α → List Value} {w w' : World} {base : Nat} {ls : List α} {g n c : Nat}
theorem OwnR.range (hs : ∀ x, (cs x).length = size) (h : OwnR e size cs w base (.slice (some ⟨g, 0, none⟩) n c) ls) (z : α) {k : Nat} (hk : k < ls.length) : w.rangeAt g (k * size) (cs (ls.getD k z)) := by
  obtain rfl : n = ls.length := by obtain ⟨a, c', e⟩ := h.form; injection e
  have hr := h.recs hs
  obtain ⟨b, o, ea, hc⟩ := hr.at_ (k := k) (by rw [hr.1]; exact hk) z
  injection ea with ea
  injection ea with ea eo
  subst ea eo
  intro j v hv
  have hj : j < size := by rw [← hs (ls.getD k z)]; exact (List.getElem?_eq_some_iff.1 hv).1
  rw [← hv, ← hc j hj, Nat.zero_add]
theorem OwnR.setAt (hs : ∀ x, (cs x).length = size) (h : OwnR e size cs w base (.slice (some ⟨g, 0, none⟩) n c) ls) {k : Nat} (hk : k < ls.length) (x : α) : OwnR e size cs (w.setCells g (k * size) (cs x)) base (.slice (some ⟨g, 0, none⟩) n c) (ls.set k x) := by
  obtain rfl : n = ls.length := by obtain ⟨a, c', e⟩ := h.form; injection e
  have hl := flatMap_len cs size hs ls
  have hkk : k * size + size ≤ ls.length * size := by
    have : (k + 1) * size ≤ ls.length * size := Nat.mul_le_mul_right _ hk;rw [Nat.add_mul, Nat.one_mul] at this;exact this
  have h1 := own_cells (cs x) (k * size) _ _ h.1 (by rw [hs, hl]; exact hkk)
  rw [hs, flat_set cs size hs x ls k hk] at h1
  refine ⟨?_, by simpa using h.2⟩
  rw [List.length_set]
  exact h1
theorem OwnR.there (hs : ∀ x, (cs x).length = size) (h : OwnR e size cs w base (.slice (some ⟨g, 0, none⟩) n c) ls) {k : Nat} (hk : k < ls.length) : w.there g (k * size) size := by
  have hl := flatMap_len cs size hs ls
  have hkk : k * size + size ≤ ls.length * size := by
    have : (k + 1) * size ≤ ls.length * size := Nat.mul_le_mul_right _ hk;rw [Nat.add_mul, Nat.one_mul] at this;exact this
  rcases h.1.2 with ⟨h0, _⟩ | ⟨g', cap, cur, hv, hb, hh, hnc, hcm, hcs, ht⟩
  · cases h0
  · simp only [Value.slice.injEq, Option.some.injEq, Addr.mk.injEq, and_true, true_and] at hv;obtain ⟨rfl, rfl, rfl⟩ := hv;intro j hj;have : ls.length * size ≤ c * size := Nat.mul_le_mul_right _ hnc;refine ⟨?_, frozen_of_row _ _ _ _ _ hh⟩;rw [cell_of_row _ _ _ _ _ _ hh];rw [Array.getElem?_eq_getElem (by omega)];rfl
end
theorem chg_setCells {S : Nat → Prop} {a : World} {g : Nat} (hs : S g) : ∀ (vs : List Value) (o : Nat) (w : World), Chg S a w → Chg S a (w.setCells g o vs)
  | [], _, _, h => h
  | v :: r, o, w, h => chg_setCells hs r (o + 1) _ (h.setCell (Or.inl hs) v)
end

section
open Go.RowKit
theorem below_grown {w w' : World} (hb : Below w.heap.size w w') : w.grownBy w' none := ⟨hb.os, hb.tape, hb.output, hb.size, fun k hk _ => hb.block k hk⟩
theorem own_below {w w' : World} {base : Nat} {e : TypeId} {size : Nat} {v : Value} {n : Nat} {xs : List Value} (h : w.ownsRow base e size v n xs) (hb : Below w.heap.size w w') : w'.ownsRow base e size v n xs := h.kept (below_grown hb) (by
  cases hv : v.ownBlock with
  | none => exact .inl rfl
  | some b => exact .inr (fun e => by cases e))
theorem gr_trans {a b c : World} {row : Option Nat} (h : a.grownBy b row) (k : b.grownBy c row) : a.grownBy c row :=
  ⟨k.os.trans h.os, k.tape.trans h.tape, k.output.trans h.output, Nat.le_trans h.size k.size, fun q hq hn => (k.block q (Nat.lt_of_lt_of_le hq h.size) hn).trans (h.block q hq hn)⟩
theorem gr_setCell (w : World) (b o : Nat) (u : Value) : w.grownBy (w.setCell ⟨b, o, none⟩ u) (some b) := by
  refine ⟨rfl, rfl, rfl, by simp, fun q hq hn => ?_⟩
  have : q ≠ b := fun e => hn (by rw [e])
  simp [World.setCell, Array.getElem?_modify, this.symm]
theorem gr_cells (b : Nat) : ∀ (vs : List Value) (o : Nat) (w : World), w.grownBy (w.setCells b o vs) (some b)
  | [], _, w => ⟨rfl, rfl, rfl, Nat.le_refl _, fun _ _ _ => rfl⟩
  | v :: r, o, w => gr_trans (gr_setCell w b o v) (gr_cells b r (o + 1) _)
theorem rows_fit {k n size : Nat} (h : k < n) : k * size + size ≤ n * size := by
  have : (k + 1) * size ≤ n * size := Nat.mul_le_mul_right _ h
  rw [Nat.add_mul, Nat.one_mul] at this
  exact this
theorem own_there {w : World} {base : Nat} {e : TypeId} {size g n c : Nat} {X : List Value} (h : w.ownsRow base e size (.slice (some ⟨g, 0, none⟩) n c) n X) {k : Nat} (hk : k < n) : w.there g (k * size) size := by
  have hkk := rows_fit (size := size) hk
  intro j hj
  refine ⟨?_, World.ownsRow.frozenAt h _⟩
  rw [World.ownsRow.cellAt h (k * size + j) (by omega), List.getElem?_eq_getElem (by rw [h.1]; omega)]
  rfl
theorem mrow_rng {mk : Nat → Nat → List Value} {size : Nat} (hs : ∀ k i, (mk k i).length = size) (k n i : Nat) (hi : i < n) (j : Nat) (hj : j < size) : (mrow mk k n)[i * size + j]? = (mk k i)[j]? := by
  induction n with
  | zero => omega
  | succ n ih =>
    have hl := mrow_len mk size hs k n;rw [mrow_snoc];by_cases h : i < n
    · have := rows_fit (size := size) h;rw [List.getElem?_append_left (by omega), ih h]
    · obtain rfl : i = n := by omega
      rw [List.getElem?_append_right (by omega), hl]
      congr 1
      omega
theorem own_rng {w : World} {base : Nat} {e : TypeId} {size g n c m : Nat} {mk : Nat → Nat → List Value} (hs : ∀ k i, (mk k i).length = size) {k : Nat} {Z : List Value} (h : w.ownsRow base e size (.slice (some ⟨g, 0, none⟩) n c) n (mrow mk k m ++ Z)) (hmn : m ≤ n) {i : Nat} (hi : i < m) : w.rangeAt g (i * size) (mk k i) := by
  intro j v hv
  have hj : j < size := by rw [← hs k i]; exact (List.getElem?_eq_some_iff.1 hv).1
  have h1 := rows_fit (size := size) hi
  have h2 : m * size ≤ n * size := Nat.mul_le_mul_right _ hmn
  rw [World.ownsRow.cellAt h (i * size + j) (by omega), List.getElem?_append_left (by rw [mrow_len mk size hs]; omega), mrow_rng hs k m i hi j hj]
  exact hv
section
variable {e eo : TypeId} {size : Nat} {mk : Nat → Nat → List Value} {base K : Nat} {vo : Value} {rv : Nat → Value} {L : Nat → Nat} {w0 w w' : World} {G k i : Nat} {gv gl : Nat → Value} {g : Value}
theorem FA.ext (h : FA e eo size mk base K vo rv L w0 k i w) (hb : Below w.heap.size w w') : FA e eo size mk base K vo rv L w0 k i w' :=
  ⟨own_below h.outer hb, fun j hj => by
    obtain ⟨X, hX, r⟩ := h.rows j hj;exact ⟨X, own_below hX hb, r⟩, h.chg.grown (below_grown hb) (fun k e => by cases e)⟩
theorem FB.ext (h : FB e eo size mk base K vo rv L w0 G k gv w) (hb : Below w.heap.size w w') : FB e eo size mk base K vo rv L w0 G k gv w' :=
  ⟨own_below h.outer hb, fun j hj => own_below (h.rows j hj) hb, own_below h.gs hb, h.gne, h.gnew, fun j hj => own_below (h.grow j hj) hb, h.sep1, h.chg.grown (below_grown hb) (fun k e => by cases e)⟩
theorem FBi.ext (h : FBi e eo size mk base K vo rv L w0 G k i gv g w) (hb : Below w.heap.size w w') : FBi e eo size mk base K vo rv L w0 G k i gv g w' :=
  ⟨h.fb.ext hb, own_below h.row hb, h.s1, h.s2, h.blk⟩
theorem FD.ext (h : FD e eo size mk base K vo rv L w0 G k gl w) (hb : Below w.heap.size w w') : FD e eo size mk base K vo rv L w0 G k gl w' :=
  ⟨own_below h.outer hb, fun j hj => own_below (h.rows j hj) hb, own_below h.gs hb, h.gne, h.gnew, fun j hj => by
    obtain ⟨Z, hZ⟩ := h.grow j hj;exact ⟨Z, own_below hZ hb⟩, h.sep1, h.chg.grown (below_grown hb) (fun k e => by cases e)⟩
theorem FDi.ext {M : Nat} (h : FDi e eo size mk base K vo rv L w0 G k gl M w) (hb : Below w.heap.size w w') : FDi e eo size mk base K vo rv L w0 G k gl M w' :=
  ⟨h.fd.ext hb, by
    obtain ⟨Y, hY, hY1⟩ := h.many;exact ⟨Y, own_below hY hb, hY1⟩, h.m1, h.m2, h.mnew⟩
theorem FA.cellR (h : FA e eo size mk base K vo rv L w0 k i w) (hk : k < K) (hi : i < L k) :
    ∃ b cap, rv k = .slice (some ⟨b, 0, none⟩) (L k) cap ∧ cap ≤ maxLen ∧ L k ≤ cap ∧ w.there b (i * size) size ∧ b < w.heap.size := by
  obtain ⟨X, hX, _⟩ := h.rows k hk
  rcases hX.2 with ⟨e1, e2⟩ | ⟨b, cap, cur, e1, _, hh, h1, h2, h3, h4⟩
  · omega
  · rw [e1] at hX;exact ⟨b, cap, e1, h2, h1, own_there hX hi, (Array.getElem?_eq_some_iff.1 hh).1⟩
theorem FA.storeR (h : FA e eo size mk base K vo rv L w0 k i w) (hs : ∀ k i, (mk k i).length = size) (hne : e ≠ eo) (hsep : ∀ i j, i < K → j < K → i ≠ j → SepF (rv i) (rv j)) (hk : k < K) (hi : i < L k) {b cap : Nat} (hb : rv k = .slice (some ⟨b, 0, none⟩) (L k) cap) :
    FA e eo size mk base K vo rv L w0 k (i + 1) (w.setCells b (i * size) (mk k i)) := by
  obtain ⟨X, hX, hX1, hX2⟩ := h.rows k hk
  rw [hb] at hX
  have hfit := rows_fit (size := size) hi
  have hst := own_cells (mk k i) (i * size) X w hX (by rw [hs, hX.1]; exact hfit)
  have hg := gr_cells b (mk k i) (i * size) w
  have hkb : (rv k).ownBlock = some b := by rw [hb]; rfl
  refine ⟨h.outer.kept hg (.inr (fun e => ?_)), fun j hj => ?_, chg_setCells (S := SB K rv) ⟨k, hk, hkb⟩ _ _ _ h.chg⟩
  · exact rows_ne hX h.outer hne b rfl e
  · by_cases hjk : j = k
    · subst hjk;refine ⟨_, by rw [hb]; exact hst, fun hlt => absurd hlt (by omega), fun _ => ?_⟩;have h2 := hX2 rfl;have hlen : (X.take (i * size)).length = i * size := by rw [List.length_take, hX.1]; omega
      have e1 : (i + 1) * size = (X.take (i * size) ++ mk j i).length := by rw [List.length_append, hlen, hs, Nat.add_mul, Nat.one_mul]
      rw [e1, List.take_left, mrow_snoc, ← h2]
    · obtain ⟨Y, hY, hY1, hY2⟩ := h.rows j hj;exact ⟨Y, hY.kept hg (.inr (fun e => hsep k j hk hj (fun h => hjk h.symm) b hkb e)), hY1, fun e => absurd e hjk⟩
theorem FDi.setR {M : Nat} (h : FDi e eo size mk base K vo rv L w0 G k gl M w) (hne : e ≠ eo) {i : Nat} (hi : i < 64) (us : List Value) (hl : us.length = size) (hu : ∀ u ∈ us, u.oneCell' = true) : FDi e eo size mk base K vo rv L w0 G k gl M (w.setCells M (i * size) us) := by
  obtain ⟨Y, hY, hY1⟩ := h.many
  have hfit := rows_fit (size := size) hi
  have hst := own_cells us (i * size) Y w hY (by rw [hl, hY.1]; exact hfit)
  have hg := gr_cells M us (i * size) w
  refine ⟨⟨h.fd.outer.kept hg (.inr (fun e => rows_ne hY h.fd.outer hne M rfl e)), fun j hj => (h.fd.rows j hj).kept hg (.inr (h.m1 j hj)), h.fd.gs.kept hg (.inr (fun e => rows_ne hY h.fd.gs hne M rfl e)), h.fd.gne, h.fd.gnew, fun j hj => ?_, h.fd.sep1, h.fd.chg.grown hg (fun q e => by injection e with e; exact .inr (e ▸ h.mnew))⟩, ⟨_, hst, fun v hv => ?_⟩, h.m1, h.m2, h.mnew⟩
  · obtain ⟨Z, hZ⟩ := h.fd.grow j hj;exact ⟨Z, hZ.kept hg (.inr (h.m2 j hj))⟩
  · rcases List.mem_append.1 hv with hv | hv
    · rcases List.mem_append.1 hv with hv | hv
      · exact hY1 v (List.mem_of_mem_take hv)
      · exact hu v hv
    · exact hY1 v (List.mem_of_mem_drop hv)
end
end

section
open Go.RowKit
theorem box2 (w : World) (o1 o2 : Obj) (W : World) (h : Below ((w.alloc o1).alloc o2).heap.size ((w.alloc o1).alloc o2) W) : W.heap[w.heap.size]? = some o1 ∧ W.heap[w.heap.size + 1]? = some o2 ∧ Below w.heap.size w W := by
  refine ⟨?_, ?_, ext_trans (ext_trans (ext_alloc w o1) (ext_alloc _ o2)) h⟩
  · rw [h.block _ (by simp; omega), Below.heap_alloc _ _ _ (by simp)];exact heap_alloc_new w o1
  · rw [h.block _ (by simp)];have := heap_alloc_new (w.alloc o1) o2;simpa using this
theorem boxes2 (w : World) (o1 o2 : Obj) : ∃ W0, Hid (Below w.heap.size w W0) ∧ W0.heap[w.heap.size]? = some o1 ∧ W0.heap[w.heap.size + 1]? = some o2 ∧ (w.alloc o1).alloc o2 = W0 := by
  obtain ⟨x1, x2, x3⟩ := box2 w o1 o2 _ (Below.refl _ _)
  exact ⟨_, x3, x1, x2, rfl⟩
theorem chg_setRow (w : World) (g : Nat) (cs : Array Value) : Chg (fun k => k = g) w (w.setRow g cs) :=
  ⟨rfl, rfl, rfl, by rw [size_setRow]; exact Nat.le_refl _, fun k _ hn => setRow_other w g k cs hn⟩
theorem chg_setCell (w : World) (b o : Nat) (u : Value) : Chg (fun k => k = b) w (w.setCell ⟨b, o, none⟩ u) := (Chg.refl (fun k => k = b) w).setCell (p := ⟨b, o, none⟩) (Or.inl rfl) u
theorem Chg.row {S : Nat → Prop} {w w' : World} (h : Chg S w w') {k : Nat} {o : Obj} (hk : w.heap[k]? = some o) (hn : ¬ S k) : w'.heap[k]? = some o := (h.block k (Array.getElem?_eq_some_iff.1 hk).1 hn).trans hk
theorem chg_below {w w' : World} (h : Below w.heap.size w w') : Chg (fun _ => False) w w' := ⟨h.os, h.tape, h.output, h.size, fun k hk _ => h.block k hk⟩
section
variable {P : Program} {Q : Exit → Act → World → Prop}
theorem wpList_store_rowC {ops : Array Oper} {rest : List Oper} {o : Oper} {a : Act} {w : World} (hgd : o.guard = none) (ty : TypeId) (x y : Operand) (ho : o.op = .store ty x y)
    (g : Nat) (cells : Array Value) (hx : a.eval x = .pointer (some ⟨g, 0, none⟩)) (hy : a.eval y = .agg cells)
    (t : TypeId) (old : Array Value) (hg : w.heap[g]? = some (.cells old t (0, 0))) (hi : (P.info? ty).map (·.size) = some cells.size)
    (hold : old.size = cells.size) (h1 : cells.all (·.oneCell') = true)
    (h : ∀ W', Chg (fun k => k = g) w W' → W'.heap[g]? = some (.cells cells t (0, 0)) → wpList P ops Q rest (a.put o.dst undef) W') : wpList P ops Q (o :: rest) a w :=
  wpList_store_row hgd ty x y ho g cells hx hy t old hg hi hold h1 (h _ (chg_setRow _ _ _) (setRow_heap _ _ _ _ _ _ hg))
end
def SameEs {α : Type} (SD : α → α → Prop) (rs ss : List α) : Prop := rs.length = ss.length ∧ ∀ (k : Nat) r s, rs[k]? = some r → ss[k]? = some s → SD r s
end

section
open Go.RowKit
theorem Lent.chg {S : Nat → Prop} {w w' : World} {base : Nat} {v : Value} {xs : List Int} (h : Lent w base v xs) (hc : Chg S w w') (hn : ∀ k, S k → k < base) : Lent w' base v xs := by
  obtain ⟨g, cap, rfl, hown⟩ := h
  exact ⟨g, cap, rfl, ownsRow_chg hown hc (fun k hk hs => by have := (hown.lt k hk).1; have := hn k hs; omega)⟩
theorem Lent.mono {w : World} {base base' : Nat} {v : Value} {xs : List Int} (h : Lent w base v xs) (hb : base' ≤ base) : Lent w base' v xs := by
  obtain ⟨g, cap, rfl, hown⟩ := h
  exact ⟨g, cap, rfl, hown.mono hb⟩
theorem Lent.form {w : World} {base : Nat} {v : Value} {xs : List Int} (h : Lent w base v xs) : ∃ g cap, v = .slice (some ⟨g, 0, none⟩) xs.length cap := by
  obtain ⟨g, cap, rfl, _⟩ := h
  exact ⟨g, cap, rfl⟩
theorem Lent.grown {w w' : World} {base base' : Nat} {v vr : Value} {e : TypeId} {size n : Nat} {xs : List Int} {ys : List Value} (he : 3 ≠ e) (h : Lent w base v xs) (ho : w.ownsRow base' e size vr n ys) (hg : w.grownBy w' vr.ownBlock) : Lent w' base v xs := by
  obtain ⟨g, cap, rfl, hown⟩ := h
  exact ⟨g, cap, rfl, hown.kept hg (Or.inr (fun e2 => rows_ne hown ho he g rfl e2.symm))⟩
structure LentLaw {α : Type} (tys : List TypeId) (LX : World → Nat → α → α → Prop) : Prop where
  chg : ∀ {S : Nat → Prop} {w w' : World} {base : Nat} {r r' : α}, LX w base r r' → Chg S w w' → (∀ k, S k → k < base) → LX w' base r r'
  mono : ∀ {w : World} {base base' : Nat} {r r' : α}, base' ≤ base → LX w base r r' → LX w base' r r'
  grown : ∀ {w w' : World} {base base' : Nat} {r r' : α} {e : TypeId} {size : Nat} {vr : Value} {n : Nat} {ys : List Value}, e ∉ tys → LX w base r r' → w.ownsRow base' e size vr n ys → w.grownBy w' vr.ownBlock → LX w' base r r'
theorem LentLaw.ext {α : Type} {tys : List TypeId} {LX : World → Nat → α → α → Prop} (L : LentLaw tys LX) {w w' : World} {base : Nat} {r r' : α} (h : LX w base r r') (hb : Below w.heap.size w w') : LX w' base r r' :=
  L.chg h (chg_below hb) fun k hk => hk.elim
section
variable {α : Type} (cs : α → List Value) (size : Nat) (ty : TypeId) (LX : World → Nat → α → α → Prop) (mk : Nat → α)
def LentEs (w : World) (base : Nat) (rs rs' : List α) : Prop := rs'.length = rs.length ∧ ∀ (k : Nat) r r', rs[k]? = some r → rs'[k]? = some r' → LX w base r r'
def markL : List α := (List.range 12).map mk
def LentL (w : World) (base : Nat) (v : Value) (rs rs' : List α) : Prop :=
  ∃ g cap, v = .slice (some ⟨g, 0, none⟩) rs.length cap ∧ w.ownsRow base ty size (.slice (some ⟨g, 0, none⟩) (rs.length + 12) cap) (rs.length + 12) ((rs' ++ markL mk).flatMap cs) ∧ LentEs LX w base rs rs'
theorem markL_len : (markL mk).length = 12 := by simp [markL]
theorem markL_at (k : Nat) (h : k < 12) : (markL mk)[k]? = some (mk k) := by simp [markL, h]
theorem markL_take (k : Nat) (h : k < 12) : (markL mk).take (k + 1) = (markL mk).take k ++ [mk k] := by
  rw [List.take_add_one, markL_at mk k h]
  rfl
end
section
variable {α : Type} {cs : α → List Value} {size : Nat} {ty : TypeId} {LX : World → Nat → α → α → Prop} {mk : Nat → α} {tys : List TypeId}
theorem LentEs.nil (w : World) (base : Nat) : LentEs LX w base [] [] := ⟨rfl, fun k r r' h => by simp at h⟩
theorem LentEs.snoc {w : World} {base : Nat} {rs rs' : List α} {r r' : α} (h : LentEs LX w base rs rs') (hr : LX w base r r') : LentEs LX w base (rs ++ [r]) (rs' ++ [r']) := by
  refine ⟨by simp [h.1], fun k x x' h1 h2 => ?_⟩
  by_cases hk : k < rs.length
  · rw [List.getElem?_append_left hk] at h1;rw [List.getElem?_append_left (by rw [h.1]; exact hk)] at h2;exact h.2 k x x' h1 h2
  · have hk1 := (List.getElem?_eq_some_iff.1 h1).1;rw [List.length_append, List.length_singleton] at hk1;obtain rfl : k = rs.length := by omega
    rw [List.getElem?_append_right (Nat.le_refl _), Nat.sub_self] at h1;rw [← h.1, List.getElem?_append_right (Nat.le_refl _), Nat.sub_self] at h2;simp only [List.getElem?_cons_zero, Option.some.injEq] at h1 h2;subst h1;subst h2;exact hr
theorem LentEs.map {w w' : World} {base base' : Nat} {rs rs' : List α} (h : LentEs LX w base rs rs') (f : ∀ r r', LX w base r r' → LX w' base' r r') : LentEs LX w' base' rs rs' := ⟨h.1, fun k r r' h1 h2 => f _ _ (h.2 k r r' h1 h2)⟩
theorem LentEs.ext (L : LentLaw tys LX) {w w' : World} {base : Nat} {rs rs' : List α} (h : LentEs LX w base rs rs') (hb : Below w.heap.size w w') : LentEs LX w' base rs rs' := h.map fun _ _ h => L.ext h hb
theorem LentEs.grown (L : LentLaw tys LX) {w w' : World} {base base' : Nat} {rs rs' : List α} {e : TypeId} {size : Nat} {vr : Value} {n : Nat} {ys : List Value} (he : e ∉ tys) (h : LentEs LX w base rs rs') (ho : w.ownsRow base' e size vr n ys) (hg : w.grownBy w' vr.ownBlock) : LentEs LX w' base rs rs' := h.map fun _ _ h => L.grown he h ho hg
theorem LentEs.same {w : World} {base : Nat} {rs rs' : List α} {SD : α → α → Prop} (h : LentEs LX w base rs rs') (f : ∀ r r', LX w base r r' → SD r' r) : SameEs SD rs' rs := ⟨h.1, fun k r s hr hs => f _ _ (h.2 k s r hs hr)⟩
theorem LentL.chg (L : LentLaw tys LX) {S : Nat → Prop} {w w' : World} {base : Nat} {v : Value} {rs rs' : List α} (h : LentL cs size ty LX mk w base v rs rs') (hc : Chg S w w') (hn : ∀ k, S k → k < base) : LentL cs size ty LX mk w' base v rs rs' := by
  obtain ⟨g, cap, rfl, hown, hl⟩ := h
  exact ⟨g, cap, rfl, ownsRow_chg hown hc (fun k hk hs => by have := (hown.lt k hk).1; have := hn k hs; omega), hl.map fun _ _ h => L.chg h hc hn⟩
theorem LentL.mono (L : LentLaw tys LX) {w : World} {base base' : Nat} {v : Value} {rs rs' : List α} (h : LentL cs size ty LX mk w base v rs rs') (hb : base' ≤ base) : LentL cs size ty LX mk w base' v rs rs' := by
  obtain ⟨g, cap, rfl, hown, hl⟩ := h
  exact ⟨g, cap, rfl, hown.mono hb, hl.map fun _ _ h => L.mono hb h⟩
theorem LentL.grown (L : LentLaw tys LX) {w w' : World} {base base' : Nat} {v vr : Value} {rs rs' : List α} {e : TypeId} {size' n : Nat} {ys : List Value} (he : e ∉ ty :: tys) (h : LentL cs size ty LX mk w base v rs rs') (ho : w.ownsRow base' e size' vr n ys) (hg : w.grownBy w' vr.ownBlock) : LentL cs size ty LX mk w' base v rs rs' := by
  simp only [List.mem_cons, not_or] at he
  obtain ⟨g, cap, rfl, hown, hl⟩ := h
  exact ⟨g, cap, rfl, hown.kept hg (Or.inr (fun e2 => rows_ne hown ho (fun e3 => he.1 e3.symm) g rfl e2.symm)), hl.map fun _ _ h => L.grown he.2 h ho hg⟩
theorem LentL.form {w : World} {base : Nat} {v : Value} {rs rs' : List α} (h : LentL cs size ty LX mk w base v rs rs') : ∃ g cap, v = .slice (some ⟨g, 0, none⟩) rs.length cap := by
  obtain ⟨g, cap, rfl, _⟩ := h
  exact ⟨g, cap, rfl⟩
theorem LentL.recs (hcs : ∀ x, (cs x).length = size) (hs0 : 0 < size) {w : World} {base : Nat} {g n cap : Nat} {rs rs' : List α} (h : LentL cs size ty LX mk w base (.slice (some ⟨g, 0, none⟩) n cap) rs rs') (hn : n ≤ 1000000) :
    Recs size cs w (some ⟨g, 0, none⟩) (n + 12) (rs' ++ markL mk) ∧ rs.length = n ∧ rs'.length = n ∧ n + 12 ≤ cap ∧ cap ≤ maxLen ∧ LentEs LX w base rs rs' := by
  obtain ⟨g', cap', e, hown, hl⟩ := h
  injection e with e1 e2 e3
  injection e1 with e1
  injection e1 with e1 _ _
  subst e1
  subst e3
  have hrl : rs.length = n := e2.symm
  have hlen : rs'.length = n := by rw [hl.1, hrl]
  have hll : (rs' ++ markL mk).length = n + 12 := by rw [List.length_append, markL_len, hlen]
  have hc : n + 12 ≤ cap ∧ cap ≤ maxLen := by
    rcases hown.2 with ⟨_, h0⟩ | ⟨g', cap', cur, hv, _, _, h1, h2, _⟩
    · omega
    · injection hv with _ _ hcc;subst hcc;rw [hrl] at h1;exact ⟨h1, h2⟩
  rw [hrl, ← hll] at hown
  obtain ⟨a2, c2, e, hr, _⟩ := recs_of_own hcs hown (by rw [hll]; omega)
  injection e with e1 _ _
  subst e1
  rw [hll] at hr
  exact ⟨hr, hrl, hlen, hc.1, hc.2, hl⟩
theorem Recs.takeN {w : World} {a : Option Addr} {n m : Nat} {rs : List α} (h : Recs size cs w a n rs) (hm : m ≤ n) : Recs size cs w a m (rs.take m) :=
  ⟨by rw [List.length_take, h.1]; omega, by have := h.2.1; omega, fun j x hx => by
    refine h.2.2 j x ?_;have hj := (List.getElem?_eq_some_iff.1 hx).1;rw [List.length_take] at hj
    rwa [List.getElem?_take, if_pos (by omega)] at hx⟩
theorem LentL.recsN (hcs : ∀ x, (cs x).length = size) (hs0 : 0 < size) {w : World} {base : Nat} {g n cap : Nat} {rs rs' : List α} (h : LentL cs size ty LX mk w base (.slice (some ⟨g, 0, none⟩) n cap) rs rs') (hn : n ≤ 1000000) : Recs size cs w (some ⟨g, 0, none⟩) n rs' := by
  obtain ⟨h1, _, h2, _⟩ := h.recs hcs hs0 hn
  have := h1.takeN (m := n) (by omega)
  rwa [List.take_append_of_le_length (by omega), List.take_of_length_le (by omega)] at this
theorem markL_all {OK : α → Prop} (h : ∀ k, k < 12 → OK (mk k)) : ∀ r ∈ markL mk, OK r := fun r hm => by
  obtain ⟨k, hk, e⟩ := List.mem_iff_getElem.1 hm
  rw [markL_len] at hk
  have : r = mk k := by rw [← e]; simp [markL]
  rw [this]
  exact h k hk
end
end
end Go.Proofs.YtblhmdhfhaencaaGreat
