/-
  Short names for laws of the kit.
-/
import Derived.ArgAppend
import Derived.Below
import Derived.BigQuiet
import Derived.ChangeKeysEq
import Derived.ChangeOld
import Derived.Deep.Cut
import Derived.Deep.CutRange
import Derived.Deep.DeepAppendRoom
import Derived.Deep.DeepCutAuto
import Derived.Deep.Draws
import Derived.Deep.Light
import Derived.Deep.LoopGhost
import Derived.Deep.MidRow
import Derived.Deep.Onto
import Derived.Deep.OwnRows
import Derived.Deep.Quiet
import Derived.Deep.QuietTactic
import Derived.Deep.RegionHeld3
import Derived.Deep.Slices
import Derived.Defers
import Derived.Ground.Names2Prog
import Derived.IntWalk
import Derived.Laws.Bits64b
import Derived.Laws.CopyOwn
import Derived.Laws.OwnMore
import Derived.Laws.StructEq
import Derived.Laws.Tables
import Derived.Lib.Hide
import Derived.Lib.SliceRun
import Derived.Lib.SmallJoins
import Derived.Lib.TrailingZeros
import Derived.LoopIn
import Derived.LoopNIn
import Derived.LoopTactic
import Derived.Maps.AppendAt
import Derived.Maps.OwnSet
import Derived.Maps.RangeRun
import Derived.Maps.RangeWalk
import Derived.OpenShut
import Derived.OrdersHeld
import Derived.Outline
import Derived.OwnWalkIn
import Derived.ProofKit
import Derived.RangeFuncCalls
import Derived.RangeFuncIn
import Derived.RangeFuncLeaves
import Derived.RangeFuncNested
import Derived.RangeFuncOwn
import Derived.RangeFuncRecord
import Derived.RangeFuncSeq
import Derived.Recover
import Derived.RegionTactic
import Derived.Scope
import Derived.Shelf.Bits.Mul64
import Derived.Shelf.RegionOpen
import Derived.Shelf.SlMaps.Clone
import Derived.Shelf.SlSortCmp.WholeK
import Derived.Shelf.Slices.Clone
import Derived.Shelf.Slices.CompactI
import Derived.Shelf.Slices.In.SortNone
import Derived.Shelf.Slices.Reverse
import Derived.Shelf.SlicesE.Reverse
import Derived.Shelf.Small.Wraps
import Derived.Shelf.Sort.Plain
import Derived.Shelf.Spec.TrailingZeros
import Derived.ShutString
import Derived.SizedLaws
import Derived.Sort.Grow
import Derived.StillTailTactics
import Derived.TacticsInMore
import Derived.Test.YtchdkjenhppleaaGreatProg
import Derived.Test.YtchdkjenhppleaaGreatRows
import Derived.WalkKit
import Derived.WalkLawsBesides
import Derived.WalkSpells
namespace Go.Proofs.YtchdkjenhppleaaGreat
abbrev ac:= @Go.Lib.hid
abbrev ae:= @List.setIfInBounds_toArray
abbrev ag:= @List.set_cons_zero
abbrev ah:= @List.set_cons_succ
abbrev ai:= @Go.heap_alloc_new
abbrev aj:= @List.drop_succ_cons
abbrev ak:= @List.take_succ_cons
abbrev am:= @Array.getElem?_eq_some_iff
abbrev ao:= @Go.RowKit.Below.refl
abbrev ap:= @List.drop_zero
abbrev aq:= @List.take_zero
abbrev ar:= @Go.wpQuiet_nil
abbrev au:= @List.getElem?_eq_getElem
abbrev aw:= @Nat.le_refl
abbrev ax:= @List.getD_eq_getElem?_getD
abbrev ay:= @Go.wpList_load_row
abbrev az:= @Bool.and_eq_true
abbrev aA:= @Go.below_setRow
abbrev aB:= @List.getElem?_set_ne
abbrev aC:= @if_neg
abbrev aD:= @Go.bodyPost_ret
abbrev aE:= @Go.wp_store_row
abbrev aF:= @Go.World.block_lt_of_cell?
abbrev aG:= @Go.setRow_heap
abbrev aH:= @List.mem_cons
abbrev aI:= @List.getElem?_eq_some_iff
abbrev aJ:= @Go.RowKit.Below.heap_alloc
abbrev aK:= @List.mem_of_getElem?
abbrev aL:= @congrArg
abbrev aM:= @List.mem_cons_self
abbrev aN:= @List.length_cons
abbrev aO:= @Go.heap_setCell_same
abbrev aP:= @Go.Proofs.Tryz.underlying3
abbrev aQ:= @Go.Proofs.Tryz.underlying22
abbrev aR:= @decide_eq_true_eq
abbrev aS:= @Go.Proofs.Tryz.underlying201
abbrev aT:= @List.length_append
abbrev aU:= @Go.wpList_store_row
abbrev aV:= @List.length_nil
abbrev aW:= @Nat.zero_add
abbrev aX:= @if_pos
abbrev aY:= @Go.setRow_other
abbrev aZ:= @Go.run_underlying
abbrev a7:= @List.not_mem_nil
abbrev a8:= @List.mem_iff_getElem
abbrev bd:= @Go.cell_of_row
abbrev be:= @List.mem_range
abbrev bf:= @Go.RowKit.Below.heap_setCell
abbrev bg:= @Go.Proofs.Tryz.underlying227
abbrev bh:= @List.mem_append
abbrev bi:= @List.mem_map
abbrev bj:= @Go.Proofs.Tryz.underlying47
abbrev bk:= @Go.World.putObj_heap_other
abbrev bl:= @List.getD_cons_succ
abbrev bm:= @List.mem_singleton
abbrev bo:= @List.take_add_one
abbrev bp:= @Go.Result.andThen_ok
abbrev bq:= @List.all_eq_true
abbrev br:= @Go.callsIn_wide
abbrev bu:= @Go.Sem.run_bind
abbrev bv:= @Option.some.injEq
abbrev bw:= @List.getD_cons_zero
abbrev bx:= @Nat.zero_mul
abbrev bz:= @Nat.add_zero
abbrev bA:= @decide_eq_false_iff_not
abbrev bB:= @List.eq_nil_of_length_eq_zero
abbrev bC:= @Array.replicate_succ
abbrev bD:= @Array.replicate_zero
abbrev bE:= @List.filter_append
abbrev bF:= @List.take_of_length_le
abbrev bG:= @List.append_toArray
abbrev bH:= @List.nil_append
abbrev bJ:= @List.cons_append
abbrev bK:= @List.filter_cons
abbrev bL:= @List.size_toArray
abbrev bM:= @List.push_toArray
abbrev bN:= @List.map_append
abbrev bO:= @List.mem_filter
abbrev bP:= @Nat.le_trans
abbrev bQ:= @Go.NoPanic.normal
abbrev bR:= @List.length_map
abbrev bS:= @Go.Proofs.Tryz.underlying31
abbrev bT:= @Go.Proofs.Tryz.underlying62
abbrev bU:= @Bool.eq_false_iff
abbrev bV:= @Go.Proofs.Tryz.underlying179
abbrev bW:= @or_false
abbrev bX:= @Go.wp_load_row
abbrev bY:= @List.length_filter_le
abbrev bZ:= @Bool.or_eq_true
abbrev b5:= @List.getElem?_set_self
abbrev b6:= @Array.getElem?_eq_none
abbrev b7:= @Go.Proofs.Tryz.results132
abbrev b8:= @Go.World.putObj_heap_same
abbrev cd:= @Go.run_loadVar_row
abbrev ce:= @Go.Proofs.Tryz.underlying4
abbrev cg:= @List.take_length
abbrev ck:= @List.length_take
abbrev cm:= @Bool.not_eq_true'
abbrev cn:= @List.map_cons
abbrev co:= @Go.Proofs.Tryz.ntmps132
abbrev cp:= @Bool.eq_iff_iff
abbrev cu:= @Classical.byContradiction
abbrev cw:= @List.drop_eq_getElem_cons
abbrev cy:= @List.getElem?_append_left
abbrev cA:= @Go.callsIn_of_wp_marks
abbrev cB:= @List.flatMap_append
abbrev cC:= @Go.World.ownsRow_nil
abbrev cD:= @List.ext_getElem?
abbrev cE:= @Go.Lib.run_eql_slice_nil
abbrev cF:= @Go.Proofs.Tryz.func132
abbrev cG:= @Go.grownBy_putObj'
abbrev cH:= @Array.ext_getElem?
abbrev cI:= @Go.run_takeDeferred
abbrev cJ:= @Bool.true_and
abbrev cL:= @Go.wp_loop_rounds
abbrev cM:= @Go.rounds_succ
abbrev cO:= @List.drop_of_length_le
abbrev cP:= @Go.Proofs.Tryz.underlying32
abbrev cQ:= @Go.Proofs.enters_of
abbrev cS:= @Go.Proofs.Tryz.underlying44
abbrev cT:= @Go.Proofs.Tryz.underlying24
abbrev cU:= @List.range_succ
abbrev cV:= @List.getElem?_eq_none
abbrev cW:= @List.map_nil
abbrev cX:= @Go.Proofs.Tryz.underlying154
abbrev cY:= @Go.Sem.run_pure
abbrev cZ:= @Nat.lt_of_lt_of_le
abbrev da:= @Array.any_eq_true'
abbrev db:= @List.mem_cons_of_mem
abbrev dc:= @of_decide_eq_true
abbrev dd:= @decide_eq_false
abbrev de:= @beq_iff_eq
abbrev dg:= @Go.frozen_of_row
abbrev dh:= @List.getElem?_append_right
abbrev di:= @decide_eq_decide
abbrev dj:= @List.mem_flatMap
abbrev dm:= @decide_eq_true
abbrev dq:= @Go.Proofs.Tryz.underlying124
abbrev dr:= @List.cons.injEq
abbrev dt:= @Bool.or_eq_false_iff
abbrev du:= @Go.World.alloc_heap_new
abbrev dv:= @List.getElem?_map
abbrev dw:= @List.flatMap_cons
abbrev dx:= @Go.Proofs.Tryz.underlying25
abbrev dy:= @Go.World.ownsRow_lit
abbrev dA:= @Option.getD_some
abbrev dB:= @List.getElem_mem
abbrev dC:= @Go.getD_set_ne
abbrev dD:= @List.getElem?_take
abbrev dE:= @Go.heap_setCell_other
abbrev dF:= @Bool.and_eq_false_iff
abbrev dG:= @List.nodup_cons
abbrev dH:= @Go.Proofs.Tryz.underlying27
abbrev dI:= @Nat.mul_le_mul_right
abbrev dJ:= @Go.World.ownsRow.cellAt
abbrev dK:= @Nat.mul_one
abbrev dL:= @Bool.false_and
abbrev dM:= @Go.wpList_plain
abbrev dN:= @Option.isSome_iff_exists
abbrev dO:= @List.getElem?_range
abbrev dP:= @List.filter_eq_self
abbrev dQ:= @Array.toList_filter
abbrev dR:= @List.append_nil
abbrev dS:= @Bool.false_eq_true
abbrev dU:= @Go.wpIn_mono
abbrev dV:= @Go.mem_ready
abbrev dW:= @List.getElem?_drop
abbrev dX:= @List.pairwise_cons
abbrev dY:= @Go.DataW.weights_mem_each
abbrev dZ:= @List.any_eq_false
abbrev d8:= @Int.toNat_natCast
abbrev ed:= @List.nodup_append
abbrev ee:= @List.append_assoc
abbrev ef:= @Go.DataW.trod_struct
abbrev eh:= @Go.IntWalk.i64_in
end Go.Proofs.YtchdkjenhppleaaGreat
