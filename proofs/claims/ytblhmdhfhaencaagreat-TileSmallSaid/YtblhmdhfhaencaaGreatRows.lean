/-
  No cell of these rows narrows 'for every input' (looked for: loops, veiled, ifaces, maps, wideKeys, modest, calm, conditions, laid).
  DERIVED. THE GIVEN ROWS OF THIS SEAT. 6 by the template 'for every input the law returns true; each argument reads behind the call as it read before'; 0 by the template 'total and deterministic' (their statements: YtblhmdhfhaencaaGreatTotals.lean).
  GIVEN WITH THE SEED: the statements are not yours to turn. If you find one false, say at which input.
  Laid BY PROGRAM, IN A SANDBOX (cutbox-rows.mjs): the forced cells as the released guide's own fill.sh prints them over the translation 191c98bfab2013eb… (all of the seat's roots in one cut). By AI agents, Wed Nov 11 2026. No macro, syntax, notation, axiom, sorry.
-/
import Derived.Test.YtblhmdhfhaencaaGreatChecked
import GoSem.Claim
import GoSem.ClaimJoined
import GoSem.ClaimMapViews
import Derived.JoinedTies
import Derived.KernelRfl
namespace Go.Proofs.YtblhmdhfhaencaaGreat
/- THE CELL 'sum', in the pinned program and in every row, IS THE sha256 OF THE DUMP (.gsa) THAT YtblhmdhfhaencaaGreatProg.lean LOADS. Nothing in Lean hashes anything: it is a label: what it is worth is what the hold of that sum in a sandbox is worth. -/
noncomputable def Tryz.pinned : Pinned := { name := "ytblhmdhfhaencaagreat", sum := "191c98bfab2013eb303b1599087542954f3b6acc3737254e0ef7f2213850eb93", checked := Tryz.checked }
namespace Rows
def none {H : Type} : Left H := { results := [], args := [] }

/-- 'intarsialaw18.EdgeRows': WHATEVER THE INPUT: true; the input reads as it did. -/
def edgeRowsSpec : ChangeSpec := { name := "edgeRows", fn := fun _ => fun
  | [d1, d2, d3] => { results := [.lit (.bool true)], args := [d1, d2, d3] }
  | _ => none }
def edgeRowsRow : OpenClaim := { program := "ytblhmdhfhaencaagreat", sum := "191c98bfab2013eb303b1599087542954f3b6acc3737254e0ef7f2213850eb93", func := "intarsia/intarsialaw18.EdgeRows", spec := "edgeRows", unfollowed := true, recurses := true, apart := false }
def EdgeRowsSaid : Prop := edgeRowsRow.holds Tryz.pinned (OpenSpec.ofChange edgeRowsSpec)

/-- ITS FALSE NEIGHBOUR: 'it returns false'. Refute it at one input. -/
def edgeRowsWrong : ChangeSpec := { name := "edgeRows", fn := fun _ => fun
  | [d1, d2, d3] => { results := [.lit (.bool false)], args := [d1, d2, d3] }
  | _ => none }
def EdgeRowsWrongFalsely : Prop := edgeRowsRow.holds Tryz.pinned (OpenSpec.ofChange edgeRowsWrong)

/-- 'intarsialaw18.EdgeSpots': WHATEVER THE INPUT: true; the input reads as it did. -/
def edgeSpotsSpec : ChangeSpec := { name := "edgeSpots", fn := fun _ => fun
  | [d1, d2] => { results := [.lit (.bool true)], args := [d1, d2] }
  | _ => none }
def edgeSpotsRow : OpenClaim := { program := "ytblhmdhfhaencaagreat", sum := "191c98bfab2013eb303b1599087542954f3b6acc3737254e0ef7f2213850eb93", func := "intarsia/intarsialaw18.EdgeSpots", spec := "edgeSpots", unfollowed := true, recurses := true, apart := false }
def EdgeSpotsSaid : Prop := edgeSpotsRow.holds Tryz.pinned (OpenSpec.ofChange edgeSpotsSpec)

/-- ITS FALSE NEIGHBOUR: 'it returns false'. Refute it at one input. -/
def edgeSpotsWrong : ChangeSpec := { name := "edgeSpots", fn := fun _ => fun
  | [d1, d2] => { results := [.lit (.bool false)], args := [d1, d2] }
  | _ => none }
def EdgeSpotsWrongFalsely : Prop := edgeSpotsRow.holds Tryz.pinned (OpenSpec.ofChange edgeSpotsWrong)

/-- 'intarsialaw18.EdgeSmall': WHATEVER THE INPUT: true; the input reads as it did. -/
def edgeSmallSpec : ChangeSpec := { name := "edgeSmall", fn := fun _ => fun
  | [] => { results := [.lit (.bool true)], args := [] }
  | _ => none }
def edgeSmallRow : OpenClaim := { program := "ytblhmdhfhaencaagreat", sum := "191c98bfab2013eb303b1599087542954f3b6acc3737254e0ef7f2213850eb93", func := "intarsia/intarsialaw18.EdgeSmall", spec := "edgeSmall", unfollowed := true, recurses := true, apart := false }
def EdgeSmallSaid : Prop := edgeSmallRow.holds Tryz.pinned (OpenSpec.ofChange edgeSmallSpec)

/-- ITS FALSE NEIGHBOUR: 'it returns false'. Refute it at one input. -/
def edgeSmallWrong : ChangeSpec := { name := "edgeSmall", fn := fun _ => fun
  | [] => { results := [.lit (.bool false)], args := [] }
  | _ => none }
def EdgeSmallWrongFalsely : Prop := edgeSmallRow.holds Tryz.pinned (OpenSpec.ofChange edgeSmallWrong)

/-- 'intarsialaw17.TileBuilds': WHATEVER THE INPUT: true; the input reads as it did. -/
def tileBuildsSpec : ChangeSpec := { name := "tileBuilds", fn := fun _ => fun
  | [d] => { results := [.lit (.bool true)], args := [d] }
  | _ => none }
def tileBuildsRow : OpenClaim := { program := "ytblhmdhfhaencaagreat", sum := "191c98bfab2013eb303b1599087542954f3b6acc3737254e0ef7f2213850eb93", func := "intarsia/intarsialaw17.TileBuilds", spec := "tileBuilds", unfollowed := true, recurses := true, apart := false }
def TileBuildsSaid : Prop := tileBuildsRow.holds Tryz.pinned (OpenSpec.ofChange tileBuildsSpec)

/-- ITS FALSE NEIGHBOUR: 'it returns false'. Refute it at one input. -/
def tileBuildsWrong : ChangeSpec := { name := "tileBuilds", fn := fun _ => fun
  | [d] => { results := [.lit (.bool false)], args := [d] }
  | _ => none }
def TileBuildsWrongFalsely : Prop := tileBuildsRow.holds Tryz.pinned (OpenSpec.ofChange tileBuildsWrong)

/-- 'intarsialaw17.TileTells': WHATEVER THE INPUT: true; the input reads as it did. -/
def tileTellsSpec : ChangeSpec := { name := "tileTells", fn := fun _ => fun
  | [d1, d2, d3] => { results := [.lit (.bool true)], args := [d1, d2, d3] }
  | _ => none }
def tileTellsRow : OpenClaim := { program := "ytblhmdhfhaencaagreat", sum := "191c98bfab2013eb303b1599087542954f3b6acc3737254e0ef7f2213850eb93", func := "intarsia/intarsialaw17.TileTells", spec := "tileTells", unfollowed := true, recurses := true, apart := false }
def TileTellsSaid : Prop := tileTellsRow.holds Tryz.pinned (OpenSpec.ofChange tileTellsSpec)

/-- ITS FALSE NEIGHBOUR: 'it returns false'. Refute it at one input. -/
def tileTellsWrong : ChangeSpec := { name := "tileTells", fn := fun _ => fun
  | [d1, d2, d3] => { results := [.lit (.bool false)], args := [d1, d2, d3] }
  | _ => none }
def TileTellsWrongFalsely : Prop := tileTellsRow.holds Tryz.pinned (OpenSpec.ofChange tileTellsWrong)

/-- 'intarsialaw17.TileSmall': WHATEVER THE INPUT: true; the input reads as it did. -/
def tileSmallSpec : ChangeSpec := { name := "tileSmall", fn := fun _ => fun
  | [] => { results := [.lit (.bool true)], args := [] }
  | _ => none }
def tileSmallRow : OpenClaim := { program := "ytblhmdhfhaencaagreat", sum := "191c98bfab2013eb303b1599087542954f3b6acc3737254e0ef7f2213850eb93", func := "intarsia/intarsialaw17.TileSmall", spec := "tileSmall", unfollowed := true, recurses := true, apart := false }
def TileSmallSaid : Prop := tileSmallRow.holds Tryz.pinned (OpenSpec.ofChange tileSmallSpec)

/-- ITS FALSE NEIGHBOUR: 'it returns false'. Refute it at one input. -/
def tileSmallWrong : ChangeSpec := { name := "tileSmall", fn := fun _ => fun
  | [] => { results := [.lit (.bool false)], args := [] }
  | _ => none }
def TileSmallWrongFalsely : Prop := tileSmallRow.holds Tryz.pinned (OpenSpec.ofChange tileSmallWrong)

/- THE SECOND FORM. 'bulk': how many values and letters a reading holds, each counted each time it is reached (what is shared counts as often as it is met; a slice's spare places count too). A statement '..UptoSaid' is the law's where the arguments, and the package variables that the reading takes, are together of bulk at most 1048576: NARROWER than '..Said'. Prove '..Said' where nothing that the law and all that it calls make is longer than what came in: it says more and counts as full. Else prove '..UptoSaid'. A law counts once. -/
mutual
def uptoBulk {H : Type} : DataW H → Nat
  | .lit (.string bytes) => bytes.length + 1
  | .lit _ => 1
  | .nil => 1
  | .ptr d => uptoBulk d + 1
  | .slice elems spare => uptoBulkAll elems + uptoBulkAll spare + 1
  | .agg parts => uptoBulkAll parts + 1
  | .iface _ d => uptoBulk d + 1
  | .map entries => uptoBulkEntries entries + 1
  | .held _ => 1
def uptoBulkAll {H : Type} : List (DataW H) → Nat
  | [] => 0
  | d :: r => uptoBulk d + uptoBulkAll r
def uptoBulkEntries {H : Type} : List (Lit × DataW H) → Nat
  | [] => 0
  | x :: r => uptoBulkEntry x + uptoBulkEntries r
def uptoBulkEntry {H : Type} : Lit × DataW H → Nat
  | (.string bytes, d) => bytes.length + uptoBulk d + 1
  | (_, d) => uptoBulk d + 1
 end
def uptoSmall : (H : Type) → List (DataW H) → Bool := fun _ ds => decide (uptoBulkAll ds ≤ 1048576)
def OpenSpec.upto (s : _root_.Go.ChangeSpec) : _root_.Go.OpenSpec := { _root_.Go.OpenSpec.ofChange s with cond := some uptoSmall }

/-- 'intarsialaw18.EdgeRows', WHERE WHAT IT READS IS OF BULK AT MOST 1048576: true; the input reads as it did. -/
def edgeRowsUptoRow : OpenClaim := { program := "ytblhmdhfhaencaagreat", sum := "191c98bfab2013eb303b1599087542954f3b6acc3737254e0ef7f2213850eb93", func := "intarsia/intarsialaw18.EdgeRows", spec := "edgeRows", unfollowed := true, recurses := true, apart := false, narrowed := true }
def EdgeRowsUptoSaid : Prop := edgeRowsUptoRow.holds Tryz.pinned (OpenSpec.upto edgeRowsSpec)

/-- 'intarsialaw18.EdgeSpots', WHERE WHAT IT READS IS OF BULK AT MOST 1048576: true; the input reads as it did. -/
def edgeSpotsUptoRow : OpenClaim := { program := "ytblhmdhfhaencaagreat", sum := "191c98bfab2013eb303b1599087542954f3b6acc3737254e0ef7f2213850eb93", func := "intarsia/intarsialaw18.EdgeSpots", spec := "edgeSpots", unfollowed := true, recurses := true, apart := false, narrowed := true }
def EdgeSpotsUptoSaid : Prop := edgeSpotsUptoRow.holds Tryz.pinned (OpenSpec.upto edgeSpotsSpec)

/-- 'intarsialaw18.EdgeSmall', WHERE WHAT IT READS IS OF BULK AT MOST 1048576: true; the input reads as it did. -/
def edgeSmallUptoRow : OpenClaim := { program := "ytblhmdhfhaencaagreat", sum := "191c98bfab2013eb303b1599087542954f3b6acc3737254e0ef7f2213850eb93", func := "intarsia/intarsialaw18.EdgeSmall", spec := "edgeSmall", unfollowed := true, recurses := true, apart := false, narrowed := true }
def EdgeSmallUptoSaid : Prop := edgeSmallUptoRow.holds Tryz.pinned (OpenSpec.upto edgeSmallSpec)

/-- 'intarsialaw17.TileBuilds', WHERE WHAT IT READS IS OF BULK AT MOST 1048576: true; the input reads as it did. -/
def tileBuildsUptoRow : OpenClaim := { program := "ytblhmdhfhaencaagreat", sum := "191c98bfab2013eb303b1599087542954f3b6acc3737254e0ef7f2213850eb93", func := "intarsia/intarsialaw17.TileBuilds", spec := "tileBuilds", unfollowed := true, recurses := true, apart := false, narrowed := true }
def TileBuildsUptoSaid : Prop := tileBuildsUptoRow.holds Tryz.pinned (OpenSpec.upto tileBuildsSpec)

/-- 'intarsialaw17.TileTells', WHERE WHAT IT READS IS OF BULK AT MOST 1048576: true; the input reads as it did. -/
def tileTellsUptoRow : OpenClaim := { program := "ytblhmdhfhaencaagreat", sum := "191c98bfab2013eb303b1599087542954f3b6acc3737254e0ef7f2213850eb93", func := "intarsia/intarsialaw17.TileTells", spec := "tileTells", unfollowed := true, recurses := true, apart := false, narrowed := true }
def TileTellsUptoSaid : Prop := tileTellsUptoRow.holds Tryz.pinned (OpenSpec.upto tileTellsSpec)

/-- 'intarsialaw17.TileSmall', WHERE WHAT IT READS IS OF BULK AT MOST 1048576: true; the input reads as it did. -/
def tileSmallUptoRow : OpenClaim := { program := "ytblhmdhfhaencaagreat", sum := "191c98bfab2013eb303b1599087542954f3b6acc3737254e0ef7f2213850eb93", func := "intarsia/intarsialaw17.TileSmall", spec := "tileSmall", unfollowed := true, recurses := true, apart := false, narrowed := true }
def TileSmallUptoSaid : Prop := tileSmallUptoRow.holds Tryz.pinned (OpenSpec.upto tileSmallSpec)

end Rows
end Go.Proofs.YtblhmdhfhaencaaGreat
