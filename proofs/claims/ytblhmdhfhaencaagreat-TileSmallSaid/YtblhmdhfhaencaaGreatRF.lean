/-
 The document's answer to layer 18:Spot. The law EdgeSpots,walked.
-/
import Derived.Test.YtblhmdhfhaencaaGreatRM
import Derived.Test.YtblhmdhfhaencaaGreatRC
import Derived.Test.YtblhmdhfhaencaaGreatAI2
import Derived.Test.YtblhmdhfhaencaaGreatTW
namespace Go.Proofs.YtblhmdhfhaencaaGreat
set_option linter.unusedSimpArgs false
set_option linter.unusedVariables false
set_option linter.unusedSectionVars false
set_option maxRecDepth 100000
set_option maxHeartbeats 40000000
section
open Go.RowKit
attribute [local go_sem] Oper.semAt_some cT bM cC bG
theorem QP{rs ss:List iQ}(h:pE AA rs ss):aG (hOf rs)=aG (hOf ss):=by
 apply List.ext_getElem?
 intro k
 simp only[aG,hOf,List.getElem?_map]
 by_cases hk:k<rs.length
 ·have hk2:k<ss.length:=by rw[←h.1];exact hk
  have:=h.2 k rs[k] ss[k] (aBU hk) (aBU hk2);rw[aBU hk,aBU hk2];simp only[Option.map_some,this.1]
 ·rw[List.getElem?_eq_none (by omega),List.getElem?_eq_none (by rw[←h.1];omega)]
theorem KD{bn pn:Nat}{bs:List iQ}{f:jE}(h1:f.pn=pn)(h2:f.bs=bs)(h3:bs.length=f.bn)(hp:(pn:Int)≤2000)(hl:(bs.length:Int)≤2000)(hb:∀b∈bs,xW 2000 b):uB f:=by
 refine⟨by omega,by omega,fun b hb2=>?_⟩
 rw[h2] at hb2
 have:=hb b hb2
 exact⟨by have:=this.1;omega,fun r hr=>by have:=this.2 r hr;unfold qY;omega⟩
end
end Go.Proofs.YtblhmdhfhaencaaGreat
