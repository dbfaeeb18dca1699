/-
  No cell of these rows narrows 'for every input' (looked for: loops, veiled, ifaces, maps, wideKeys, modest, calm, conditions, laid).
  DERIVED. THE GIVEN ROWS OF THIS SEAT. 4 by the template 'for every input the law returns true; each argument reads behind the call as it read before'; 0 by the template 'total and deterministic' (their statements: YtblhmdhfhaencaaTotals.lean).
  GIVEN WITH THE SEED: the statements are not yours to turn. If you find one false, say at which input.
  Laid BY PROGRAM, IN A SANDBOX (cutbox-rows.mjs): the forced cells as the released guide's own fill.sh prints them over the translation 5470e478998dbd56… (all of the seat's roots in one cut). By AI agents, Wed Nov 11 2026. No macro, syntax, notation, axiom, sorry.
-/
import Derived.Test.YtblhmdhfhaencaaChecked
import GoSem.Claim
import GoSem.ClaimJoined
import GoSem.ClaimMapViews
import Derived.JoinedTies
import Derived.KernelRfl
namespace Go.Proofs.Ytblhmdhfhaencaa
/- THE CELL 'sum', in the pinned program and in every row, IS THE sha256 OF THE DUMP (.gsa) THAT YtblhmdhfhaencaaProg.lean LOADS. Nothing in Lean hashes anything: it is a label: what it is worth is what the hold of that sum in a sandbox is worth. -/
noncomputable def Try.pinned : Pinned := { name := "ytblhmdhfhaencaa", sum := "5470e478998dbd568120d2507ceee6ab672a538102c98b89571e8c8447738ede", checked := Try.checked }
namespace Rows
def none {H : Type} : Left H := { results := [], args := [] }

/-- 'intarsialaw18.EdgeLeaves': WHATEVER THE INPUT: true; the input reads as it did. -/
def edgeLeavesSpec : ChangeSpec := { name := "edgeLeaves", fn := fun _ => fun
  | [d1, d2] => { results := [.lit (.bool true)], args := [d1, d2] }
  | _ => none }
def edgeLeavesRow : OpenClaim := { program := "ytblhmdhfhaencaa", sum := "5470e478998dbd568120d2507ceee6ab672a538102c98b89571e8c8447738ede", func := "intarsia/intarsialaw18.EdgeLeaves", spec := "edgeLeaves", unfollowed := true, recurses := true, apart := false }
def EdgeLeavesSaid : Prop := edgeLeavesRow.holds Try.pinned (OpenSpec.ofChange edgeLeavesSpec)

/-- ITS FALSE NEIGHBOUR: 'it returns false'. Refute it at one input. -/
def edgeLeavesWrong : ChangeSpec := { name := "edgeLeaves", fn := fun _ => fun
  | [d1, d2] => { results := [.lit (.bool false)], args := [d1, d2] }
  | _ => none }
def EdgeLeavesWrongFalsely : Prop := edgeLeavesRow.holds Try.pinned (OpenSpec.ofChange edgeLeavesWrong)

/-- 'intarsialaw18.EdgeApart': WHATEVER THE INPUT: true; the input reads as it did. -/
def edgeApartSpec : ChangeSpec := { name := "edgeApart", fn := fun _ => fun
  | [d] => { results := [.lit (.bool true)], args := [d] }
  | _ => none }
def edgeApartRow : OpenClaim := { program := "ytblhmdhfhaencaa", sum := "5470e478998dbd568120d2507ceee6ab672a538102c98b89571e8c8447738ede", func := "intarsia/intarsialaw18.EdgeApart", spec := "edgeApart", unfollowed := true, recurses := true, apart := false }
def EdgeApartSaid : Prop := edgeApartRow.holds Try.pinned (OpenSpec.ofChange edgeApartSpec)

/-- ITS FALSE NEIGHBOUR: 'it returns false'. Refute it at one input. -/
def edgeApartWrong : ChangeSpec := { name := "edgeApart", fn := fun _ => fun
  | [d] => { results := [.lit (.bool false)], args := [d] }
  | _ => none }
def EdgeApartWrongFalsely : Prop := edgeApartRow.holds Try.pinned (OpenSpec.ofChange edgeApartWrong)

/-- 'intarsialaw17.TileRight': WHATEVER THE INPUT: true; the input reads as it did. -/
def tileRightSpec : ChangeSpec := { name := "tileRight", fn := fun _ => fun
  | [d1, d2, d3] => { results := [.lit (.bool true)], args := [d1, d2, d3] }
  | _ => none }
def tileRightRow : OpenClaim := { program := "ytblhmdhfhaencaa", sum := "5470e478998dbd568120d2507ceee6ab672a538102c98b89571e8c8447738ede", func := "intarsia/intarsialaw17.TileRight", spec := "tileRight", unfollowed := true, recurses := true, apart := false }
def TileRightSaid : Prop := tileRightRow.holds Try.pinned (OpenSpec.ofChange tileRightSpec)

/-- ITS FALSE NEIGHBOUR: 'it returns false'. Refute it at one input. -/
def tileRightWrong : ChangeSpec := { name := "tileRight", fn := fun _ => fun
  | [d1, d2, d3] => { results := [.lit (.bool false)], args := [d1, d2, d3] }
  | _ => none }
def TileRightWrongFalsely : Prop := tileRightRow.holds Try.pinned (OpenSpec.ofChange tileRightWrong)

/-- 'intarsialaw17.TileParts': WHATEVER THE INPUT: true; the input reads as it did. -/
def tilePartsSpec : ChangeSpec := { name := "tileParts", fn := fun _ => fun
  | [d] => { results := [.lit (.bool true)], args := [d] }
  | _ => none }
def tilePartsRow : OpenClaim := { program := "ytblhmdhfhaencaa", sum := "5470e478998dbd568120d2507ceee6ab672a538102c98b89571e8c8447738ede", func := "intarsia/intarsialaw17.TileParts", spec := "tileParts", unfollowed := true, recurses := true, apart := false }
def TilePartsSaid : Prop := tilePartsRow.holds Try.pinned (OpenSpec.ofChange tilePartsSpec)

/-- ITS FALSE NEIGHBOUR: 'it returns false'. Refute it at one input. -/
def tilePartsWrong : ChangeSpec := { name := "tileParts", fn := fun _ => fun
  | [d] => { results := [.lit (.bool false)], args := [d] }
  | _ => none }
def TilePartsWrongFalsely : Prop := tilePartsRow.holds Try.pinned (OpenSpec.ofChange tilePartsWrong)

/- THE SECOND FORM. 'bulk': how many values and letters a reading holds, each counted each time it is reached (what is shared counts as often as it is met; a slice's spare places count too). A statement '..UptoSaid' is the law's where the arguments, and the package variables that the reading takes, are together of bulk at most 1048576: NARROWER than '..Said'. Prove '..Said' where nothing that the law and all that it calls make is longer than what came in: it says more and counts as full. Else prove '..UptoSaid'. A law counts once. -/
mutual
def uptoBulk {H : Type} : DataW H → Nat
  | .lit (.string bytes) => bytes.length + 1
  | .lit _ => 1
  | .nil => 1
  | .ptr d => uptoBulk d + 1
  | .slice elems spare => uptoBulkAll elems + uptoBulkAll spare + 1
  | .agg parts => uptoBulkAll parts + 1
  | .iface _ d => uptoBulk d + 1
  | .map entries => uptoBulkEntries entries + 1
  | .held _ => 1
def uptoBulkAll {H : Type} : List (DataW H) → Nat
  | [] => 0
  | d :: r => uptoBulk d + uptoBulkAll r
def uptoBulkEntries {H : Type} : List (Lit × DataW H) → Nat
  | [] => 0
  | x :: r => uptoBulkEntry x + uptoBulkEntries r
def uptoBulkEntry {H : Type} : Lit × DataW H → Nat
  | (.string bytes, d) => bytes.length + uptoBulk d + 1
  | (_, d) => uptoBulk d + 1
 end
def uptoSmall : (H : Type) → List (DataW H) → Bool := fun _ ds => decide (uptoBulkAll ds ≤ 1048576)
def OpenSpec.upto (s : _root_.Go.ChangeSpec) : _root_.Go.OpenSpec := { _root_.Go.OpenSpec.ofChange s with cond := some uptoSmall }

/-- 'intarsialaw18.EdgeLeaves', WHERE WHAT IT READS IS OF BULK AT MOST 1048576: true; the input reads as it did. -/
def edgeLeavesUptoRow : OpenClaim := { program := "ytblhmdhfhaencaa", sum := "5470e478998dbd568120d2507ceee6ab672a538102c98b89571e8c8447738ede", func := "intarsia/intarsialaw18.EdgeLeaves", spec := "edgeLeaves", unfollowed := true, recurses := true, apart := false, narrowed := true }
def EdgeLeavesUptoSaid : Prop := edgeLeavesUptoRow.holds Try.pinned (OpenSpec.upto edgeLeavesSpec)

/-- 'intarsialaw18.EdgeApart', WHERE WHAT IT READS IS OF BULK AT MOST 1048576: true; the input reads as it did. -/
def edgeApartUptoRow : OpenClaim := { program := "ytblhmdhfhaencaa", sum := "5470e478998dbd568120d2507ceee6ab672a538102c98b89571e8c8447738ede", func := "intarsia/intarsialaw18.EdgeApart", spec := "edgeApart", unfollowed := true, recurses := true, apart := false, narrowed := true }
def EdgeApartUptoSaid : Prop := edgeApartUptoRow.holds Try.pinned (OpenSpec.upto edgeApartSpec)

/-- 'intarsialaw17.TileRight', WHERE WHAT IT READS IS OF BULK AT MOST 1048576: true; the input reads as it did. -/
def tileRightUptoRow : OpenClaim := { program := "ytblhmdhfhaencaa", sum := "5470e478998dbd568120d2507ceee6ab672a538102c98b89571e8c8447738ede", func := "intarsia/intarsialaw17.TileRight", spec := "tileRight", unfollowed := true, recurses := true, apart := false, narrowed := true }
def TileRightUptoSaid : Prop := tileRightUptoRow.holds Try.pinned (OpenSpec.upto tileRightSpec)

/-- 'intarsialaw17.TileParts', WHERE WHAT IT READS IS OF BULK AT MOST 1048576: true; the input reads as it did. -/
def tilePartsUptoRow : OpenClaim := { program := "ytblhmdhfhaencaa", sum := "5470e478998dbd568120d2507ceee6ab672a538102c98b89571e8c8447738ede", func := "intarsia/intarsialaw17.TileParts", spec := "tileParts", unfollowed := true, recurses := true, apart := false, narrowed := true }
def TilePartsUptoSaid : Prop := tilePartsUptoRow.holds Try.pinned (OpenSpec.upto tilePartsSpec)

end Rows
end Go.Proofs.Ytblhmdhfhaencaa
