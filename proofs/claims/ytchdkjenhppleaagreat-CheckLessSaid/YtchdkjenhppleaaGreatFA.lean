/-
 Flat:leaves:mir.has,with,Inserted,places.
-/
import Derived.Test.YtchdkjenhppleaaGreatA0
import Derived.Test.YtchdkjenhppleaaGreatRows
import Derived.Test.YtchdkjenhppleaaGreatMix
namespace Go.Proofs.YtchdkjenhppleaaGreat
set_option linter.unusedSimpArgs false
set_option linter.unusedVariables false
set_option linter.unusedSectionVars false
set_option maxRecDepth 100000
set_option maxHeartbeats 40000000
section
open Go.RowKit
theorem eC(w:World)(o:Obj):Below w.heap.size w (w.alloc o):=(ao _ w).alloc (aw _) o
def hZ(o:Int):Int:=if o=1 then 9 else if 2<=o/\o<=10 then 7 else if o=11 then 11 else if o=12 then 14 else if o=13 then 32 else if o=15 then 3 else if o=16 then 18 else if o=17 then 17 else 0
def QY(o:Int):Bool:=decide (o=15\/o=16\/o=17)
theorem tJ(o:Int)(w:World):Calls Tryz.prog 23 #[.int .i64 o] w λe w'=>e=.returned (.bool (QY o))/\w=w':=by
 by_cases h1:o=15
 .subst h1
  go_enter Tryz.func23,Tryz.ntmps23
  go_wp2
  go_ret
  exact⟨rfl,rfl⟩
 .by_cases h2:o=16
  .subst h2
   go_enter Tryz.func23,Tryz.ntmps23
   go_wp2
   go_ret
   exact⟨rfl,rfl⟩
  .by_cases h3:o=17
   .subst h3
    go_enter Tryz.func23,Tryz.ntmps23
    go_wp2
    go_ret
    exact⟨rfl,rfl⟩
   .have b1:(o==15)=false:=by simpa using h1
    have b2:(o==16)=false:=by simpa using h2
    have b3:(o==17)=false:=by simpa using h3
    have HE:Hid (QY o=false):=by rw[Hid,QY,bA];omega
    clear h1 h2 h3
    go_enter Tryz.func23,Tryz.ntmps23
    go_wp2
    go_ret
    exact⟨by rw[HE.out];rfl,rfl⟩
theorem YD(o:Int)(h:o<0\/18<=o):hZ o=0:=by
 unfold hZ
 rw[aC (by omega),aC (by omega),aC (by omega),aC (by omega),aC (by omega),aC (by omega),aC (by omega),aC (by omega)]
theorem YC(o:Int)(h1:0<=o)(h2:o<18):o=0\/o=1\/o=2\/o=3\/o=4\/o=5\/o=6\/o=7\/o=8\/o=9\/o=10\/o=11\/o=12\/o=13\/o=14\/o=15\/o=16\/o=17:=by omega
theorem qZ(o:Int)(w:World):Calls Tryz.prog 95 #[.int .i64 o] w λe w'=>e=.returned (.int .u8 (hZ o))/\Below w.heap.size w w':=by
 go_enter Tryz.func95,Tryz.ntmps95
 go_wp2
 refine cL 10 ?_
 iterate 10 (rw[cM];go_wp2)
 all_goals
  go_ret
  refine⟨?_,eC _ _⟩
  first
   |(rw[YD o (by omega)];rfl)
   |(rcases YC o (by omega) (by omega) with rfl|rfl|rfl|rfl|rfl|rfl|rfl|rfl|rfl|rfl|rfl|rfl|rfl|rfl|rfl|rfl|rfl|rfl<;>rfl)
end
end Go.Proofs.YtchdkjenhppleaaGreat
