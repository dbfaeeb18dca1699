/-
 tile.Build.
-/
import Derived.Test.YtblhmdhfhaencaaGreatDA
import Derived.Test.YtblhmdhfhaencaaGreatRowG
import Derived.Test.YtblhmdhfhaencaaGreatEA
import Derived.Test.YtblhmdhfhaencaaGreatTD
import Derived.RangeFuncNested
import Derived.RangeFuncLeaves
import Derived.Test.YtblhmdhfhaencaaGreatDH
import Derived.Test.YtblhmdhfhaencaaGreatCC
import Derived.Test.YtblhmdhfhaencaaGreatLR
import Derived.Deep.LoopGhost
import Derived.BigRegion
import Derived.Deep.CutBlock
import Derived.Deep.DeepCutAuto
import Derived.Test.YtblhmdhfhaencaaGreatQN
import Derived.Sort.LoopGhostIn
import Derived.Test.YtblhmdhfhaencaaGreatApp1
namespace Go.Proofs.YtblhmdhfhaencaaGreat
set_option linter.unusedSimpArgs false
set_option linter.unusedVariables false
set_option linter.unusedSectionVars false
set_option maxRecDepth 100000
set_option maxHeartbeats 40000000
section
open Go.RowKit Go.Shelf
attribute [local go_sem] Oper.semAt_some wide_fn wide_depth wide_fnR wide_depthR
theorem infoTile3 : (Tryz.prog.info? 76).map (fun i => (i.zero, i.size, i.bytes)) = some (some (.agg #[.int .i64 0, .int .i64 0, .slice none 0 0]), 3, 40) := by kernel_rfl
end
end Go.Proofs.YtblhmdhfhaencaaGreat
