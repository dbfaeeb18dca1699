/-
  Short names for laws of the kit.
-/
import Derived.ArgAppend
import Derived.Below
import Derived.BigQuiet
import Derived.BigRegion
import Derived.ChangeKeysEq
import Derived.ChangeOld
import Derived.Deep.Cut
import Derived.Deep.CutBlock
import Derived.Deep.CutRange
import Derived.Deep.DeepAppendRoom
import Derived.Deep.DeepCutAuto
import Derived.Deep.Draws
import Derived.Deep.Light
import Derived.Deep.LoopGhost
import Derived.Deep.MidRow
import Derived.Deep.Onto
import Derived.Deep.OwnRows
import Derived.Deep.Quiet
import Derived.Deep.QuietTactic
import Derived.Deep.RegionHeld3
import Derived.Deep.Slices
import Derived.Great.BuildSlice
import Derived.Ground.Names2Prog
import Derived.LaidMore
import Derived.Laws.Bits64b
import Derived.Laws.CopyOwn
import Derived.Laws.OwnMore
import Derived.Laws.StructEq
import Derived.Laws.Tables
import Derived.Lib.Hide
import Derived.Lib.LaidTab
import Derived.Lib.SliceRun
import Derived.Lib.SmallJoins
import Derived.Lib.TrailingZeros
import Derived.LoopIn
import Derived.LoopNIn
import Derived.LoopTactic
import Derived.Maps.AppendAt
import Derived.Maps.OwnSet
import Derived.Maps.RangeRun
import Derived.Maps.RangeWalk
import Derived.OpenShut
import Derived.OrdersHeld
import Derived.Outline
import Derived.OwnWalkIn
import Derived.ProofKit
import Derived.RangeFuncCalls
import Derived.RangeFuncIn
import Derived.RangeFuncLeaves
import Derived.RangeFuncNested
import Derived.RangeFuncOwn
import Derived.RangeFuncRecord
import Derived.RangeFuncSeq
import Derived.Scope
import Derived.Shelf.Bits.Mul64
import Derived.Shelf.RegionOpen
import Derived.Shelf.SlMaps.Clone
import Derived.Shelf.Slices.Clone
import Derived.Shelf.Slices.CompactI
import Derived.Shelf.Slices.In.SortNone
import Derived.Shelf.Slices.Reverse
import Derived.Shelf.SlicesE.Reverse
import Derived.Shelf.Small.Wraps
import Derived.Shelf.Sort.Plain
import Derived.Shelf.Spec.TrailingZeros
import Derived.ShutString
import Derived.SizedLaws
import Derived.Sort.CutIn
import Derived.Sort.LoopGhostIn
import Derived.Stop.Joined
import Derived.TacticsInMore
import Derived.Test.YtbknbcmppdglhaaGreatDoorCards
import Derived.Test.YtbknbcmppdglhaaGreatDoorProg
import Derived.Test.YtbknbcmppdglhaaGreatDoorRows
import Derived.Test.YtbknbcmppdglhaaGreatDoorTie
import Derived.WalkKit
import Derived.WalkSpells
namespace Go.Proofs.YtbknbcmppdglhaaGreatDoor
abbrev ac:= @Go.Lib.hid
abbrev ae:= @Go.heap_alloc_new
abbrev ag:= @Go.RowKit.Below.refl
abbrev ah:= @List.getElem?_eq_getElem
abbrev aj:= @Nat.le_refl
abbrev ak:= @List.getD_eq_getElem?_getD
abbrev am:= @List.drop_succ_cons
abbrev ap:= @List.take_succ_cons
abbrev aq:= @Go.wpQuiet_nil
abbrev ar:= @List.setIfInBounds_toArray
abbrev au:= @Array.getElem?_eq_some_iff
abbrev aw:= @List.drop_zero
abbrev ax:= @List.mem_append
abbrev ay:= @Go.wpList_load_row
abbrev az:= @if_neg
abbrev aB:= @Bool.and_eq_true
abbrev aC:= @Go.heap_setCell_same
abbrev aD:= @List.take_zero
abbrev aE:= @List.getElem?_eq_some_iff
abbrev aF:= @List.set_cons_zero
abbrev aG:= @Go.RowKit.Below.heap_alloc
abbrev aH:= @List.set_cons_succ
abbrev aJ:= @Go.Proofs.Tryz.underlying25
abbrev aK:= @List.mem_of_getElem?
abbrev aL:= @Go.Proofs.Tryz.underlying138
abbrev aM:= @if_pos
abbrev aN:= @decide_eq_true_eq
abbrev aP:= @Go.wpList_store_row
abbrev aQ:= @List.mem_range
abbrev aR:= @Go.bodyPost_ret
abbrev aS:= @List.mem_cons
abbrev aT:= @Nat.le_trans
abbrev aU:= @Go.RowKit.Below.heap_setCell
abbrev aV:= @List.all_eq_true
abbrev aW:= @Option.some.injEq
abbrev aX:= @Go.below_setRow
abbrev aY:= @Go.Proofs.Tryz.underlying129
abbrev aZ:= @Go.cell_of_row
abbrev a8:= @List.mem_map
abbrev bd:= @List.size_toArray
abbrev be:= @Go.Proofs.Tryz.underlying22
abbrev bf:= @List.length_append
abbrev bh:= @congrArg
abbrev bj:= @List.mem_iff_getElem
abbrev bk:= @List.length_cons
abbrev bm:= @Go.Proofs.Tryz.underlying142
abbrev bo:= @Go.World.putObj_heap_other
abbrev bq:= @List.getD_cons_succ
abbrev br:= @List.getD_cons_zero
abbrev bt:= @Go.setRow_heap
abbrev bu:= @Go.callsIn_wide
abbrev bw:= @Nat.lt_of_lt_of_le
abbrev bx:= @List.length_nil
abbrev bz:= @List.mem_singleton
abbrev bA:= @Go.World.block_lt_of_cell?
abbrev bB:= @List.filter_append
abbrev bC:= @List.take_of_length_le
abbrev bD:= @List.nil_append
abbrev bE:= @Classical.byContradiction
abbrev bF:= @Array.replicate_succ
abbrev bG:= @Array.replicate_zero
abbrev bH:= @Go.all_oneCell_toArray
abbrev bI:= @List.mem_filter
abbrev bJ:= @List.getElem_mem
abbrev bK:= @Go.Proofs.Tryz.underlying124
abbrev bL:= @List.take_add_one
abbrev bM:= @Iff.rfl
abbrev bN:= @List.append_toArray
abbrev bO:= @List.not_mem_nil
abbrev bP:= @Go.Proofs.Tryz.underlying3
abbrev bQ:= @Nat.zero_add
abbrev bR:= @Go.NoPanic.normal
abbrev bS:= @decide_eq_true
abbrev bT:= @Go.run_underlying
abbrev bU:= @List.cons_append
abbrev bV:= @List.push_toArray
abbrev bW:= @Bool.or_eq_true
abbrev bX:= @List.length_filter_le
abbrev bY:= @Nat.le_succ
abbrev bZ:= @Array.getElem?_eq_none
abbrev b5:= @List.mem_flatMap
abbrev b6:= @List.filter_cons
abbrev b7:= @Go.Sem.run_bind
abbrev b8:= @Go.Result.andThen_ok
abbrev cd:= @List.append_assoc
abbrev cg:= @decide_eq_false_iff_not
abbrev cm:= @List.range_succ
abbrev cn:= @List.drop_eq_getElem_cons
abbrev cp:= @Go.wp_load_mid
abbrev ct:= @List.append_nil
abbrev cu:= @Go.callsIn_of_wp_marks
abbrev cw:= @List.flatMap_append
abbrev cy:= @Go.wp_load_row
abbrev cC:= @Go.setRow_other
abbrev cD:= @Go.wpIn_mono
abbrev cE:= @List.map_cons
abbrev cF:= @Go.Proofs.Tryz.underlying161
abbrev cG:= @List.getElem?_append_left
abbrev cH:= @List.pairwise_iff_getElem
abbrev cL:= @Array.length_toList
abbrev cM:= @Go.run_takeDeferred
abbrev cP:= @Go.Proofs.Tryz.underlying158
abbrev cQ:= @Go.run_loadVar_row
abbrev cS:= @Bool.eq_iff_iff
abbrev cT:= @List.length_map
abbrev cU:= @List.map_append
abbrev cV:= @Bool.or_eq_false_iff
abbrev cW:= @List.append_cancel_right
abbrev cX:= @or_false
abbrev cY:= @Go.frozen_of_row
abbrev cZ:= @List.ext_getElem?
abbrev da:= @List.eq_nil_of_length_eq_zero
abbrev db:= @beq_iff_eq
abbrev dc:= @Go.World.putObj_heap_same
abbrev de:= @Array.ext_getElem?
abbrev dg:= @Bool.true_and
abbrev dh:= @Go.wp_store_mid
abbrev di:= @List.getElem?_eq_none
abbrev dk:= @Bool.eq_false_iff
abbrev dm:= @Bool.not_eq_true'
abbrev dq:= @List.flatMap_cons
abbrev dr:= @Int.toNat_natCast
abbrev dt:= @List.getElem?_map
abbrev du:= @List.getElem?_append_right
abbrev dw:= @Go.Sem.run_pure
abbrev dx:= @List.drop_of_length_le
abbrev dy:= @Go.wpIn_wide
abbrev dA:= @List.map_congr_left
abbrev dB:= @List.map_nil
abbrev dC:= @List.nodup_cons
abbrev dD:= @Go.wpList_load_mid
abbrev dE:= @decide_eq_false
abbrev dF:= @List.getElem?_cons_zero
abbrev dG:= @Nat.eq_of_testBit_eq
abbrev dH:= @Go.World.ownsRow.cellAt
abbrev dI:= @List.filter_congr
abbrev dJ:= @Go.grownBy_putObj'
abbrev dK:= @Go.Proofs.enters_of
abbrev dL:= @Go.Proofs.Tryz.underlying328
abbrev dM:= @Array.any_eq_true'
abbrev dN:= @List.mem_cons_of_mem
abbrev dO:= @Go.World.alloc_heap_new
abbrev dP:= @List.pairwise_append
abbrev dQ:= @List.any_eq_false
abbrev dR:= @List.getElem?_set
abbrev dS:= @List.map_toArray
abbrev dU:= @List.length_take
abbrev dV:= @Go.World.size_alloc
abbrev dW:= @List.pairwise_cons
abbrev dX:= @Go.Lib.run_eql_slice_nil
abbrev dY:= @Option.toList_some
abbrev dZ:= @Bool.false_and
abbrev d8:= @List.getElem?_toArray
abbrev d9:= @Nat.zero_le
abbrev ed:= @List.foldl_cons
abbrev ee:= @Go.wpList_plain
abbrev ef:= @Nat.mul_le_mul_right
abbrev eh:= @Option.isSome_iff_exists
abbrev el:= @List.mem_append_left
abbrev eu:= @List.mem_range'_1
abbrev ew:= @List.getElem?_range
abbrev ez:= @Array.getElem?_push
abbrev eA:= @List.any_eq_true
abbrev eB:= @Option.getD_some
abbrev eC:= @Go.Proofs.Tryz.underlying4
abbrev eD:= @Go.getD_set_ne
abbrev eE:= @List.length_set
abbrev eG:= @Go.CallsIn.inRound
abbrev eH:= @List.length_replicate
abbrev eI:= @List.take_append_drop
abbrev eJ:= @Go.Proofs.Tryz.results214
abbrev eK:= @Go.callsIn_of_wp
abbrev eM:= @List.contains_eq_mem
abbrev eN:= @Array.all_eq_true_iff_forall_mem
abbrev eO:= @or_assoc
abbrev eQ:= @Go.wp_store_row
abbrev eR:= @decide_eq_decide
abbrev eS:= @List.filter_eq_self
abbrev eT:= @beq_eq_false_iff_ne
abbrev eU:= @Array.toList_filter
abbrev eV:= @List.mergeSort_perm
abbrev eW:= @Go.World.grownBy_alloc
abbrev eX:= @Go.Proofs.Tryz.ntmps214
abbrev eY:= @List.getElem?_take
abbrev eZ:= @Go.Proofs.Tryz.underlying121
abbrev ff:= @Go.mem_ready
abbrev fg:= @Go.Proofs.Tryz.underlying133
abbrev fh:= @Go.Proofs.Tryz.underlying122
abbrev fi:= @Go.World.size_setCell
abbrev fj:= @List.eq_nil_iff_forall_not_mem
abbrev fm:= @Nat.mul_one
abbrev fq:= @Option.map_eq_some_iff
abbrev fs:= @of_decide_eq_true
abbrev ft:= @Go.World.ownsRow_nil
abbrev fu:= @List.all_eq_false
abbrev fw:= @Go.Proofs.Tryz.underlying49
abbrev fy:= @Bool.and_eq_false_iff
abbrev fz:= @List.contains_iff_mem
abbrev fA:= @Go.Proofs.Tryz.func214
end Go.Proofs.YtbknbcmppdglhaaGreatDoor
