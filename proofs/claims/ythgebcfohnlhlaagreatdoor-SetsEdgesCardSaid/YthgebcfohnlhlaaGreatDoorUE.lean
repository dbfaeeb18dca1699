/-
 The document's answer to layer 16:Of. (Printed by gen_ue.py out of of16_text.txt.)
-/
import Derived.Test.YthgebcfohnlhlaaGreatDoorZed
import Derived.Test.YthgebcfohnlhlaaGreatDoorSI
import Derived.Test.YthgebcfohnlhlaaGreatDoorLentI
import Derived.Test.YthgebcfohnlhlaaGreatDoorSameG
import Derived.Test.YthgebcfohnlhlaaGreatDoorPA
import Derived.Test.YthgebcfohnlhlaaGreatDoorNR
import Derived.Deep.Onto
import Derived.Test.YthgebcfohnlhlaaGreatDoorInsR
import Derived.Test.YthgebcfohnlhlaaGreatDoorMark
import Derived.Test.YthgebcfohnlhlaaGreatDoorED
import Derived.Test.YthgebcfohnlhlaaGreatDoorTB
import Derived.Outline
import Derived.Deep.Light
import Derived.Deep.DeepCutAuto
import Derived.Deep.CutBlock
import Derived.BigQuiet
import Derived.Test.YthgebcfohnlhlaaGreatDoorRowG
import Derived.Test.YthgebcfohnlhlaaGreatDoorFreeL
namespace Go.Proofs.YthgebcfohnlhlaaGreatDoor
set_option linter.unusedSimpArgs false
set_option linter.unusedVariables false
set_option linter.unusedSectionVars false
set_option maxRecDepth 100000
set_option maxHeartbeats 40000000
section
open Go.RowKit
theorem rightE_zero{ps:List Int}{bs:List BlkR}(h:rightE ps bs=0):longB ps.length bs.length (hOf bs)=false∧irWholeB ps bs=true∧toIn bs=true:=by
 unfold rightE at h
 split at h
 ·cases h
 ·rename_i h1
  split at h
  ·cases h
  ·rename_i h2
   split at h
   ·cases h
   ·rename_i h3
    refine⟨by simpa using h1,by simpa using h2,?_⟩;cases hx:toIn bs with
    |true=>rfl
    |false=>rw[hx] at h3;simp at h3
abbrev nilS:Value:=.slice none 0 0
abbrev rowN(n:Nat):Obj:=.cells (arrN n fun _=>nilS) 22 (0,0)
theorem nil_made(n:Nat):madeCells #[nilS] n=arrN n fun _=>nilS:=by
 apply Array.ext_getElem?
 intro j
 by_cases hj:j<n
 ·simp[madeCells,arrN,hj,Nat.mod_one]
 ·rw[Array.getElem?_eq_none (by simp[madeCells];omega),Array.getElem?_eq_none (by simp[arrN];omega)]
theorem infoSI:(Tryz.prog.info? 22).map (fun i=>(i.zero,i.size,i.bytes))=some (some nilS,1,24):=by kernel_rfl
theorem infoSS:(Tryz.prog.info? 49).map (fun i=>(i.zero,i.size,i.bytes))=some (some nilS,1,24):=by kernel_rfl
theorem make_SI(n:Nat)(hn:n≤1000000)(w:World):(Instr.makeSlice 49 (.int .i64 (n:Int)) (.int .i64 (n:Int))).run Tryz.prog w=.ok (.slice (some ⟨w.heap.size,0,none⟩) n n) (w.alloc (rowN n)):=by
 have:=run_make_row' (P:=Tryz.prog) 49 22 nilS 24 Tryz.underlying49 infoSI rfl .i64 .i64 n (by omega) (by omega) w
 rwa [nil_made] at this
section
variable {p:Nat→Nat→Int→Bool} {u:Nat} {D:Nat→Nat→Bool}
end
section
variable {w:World} {fo:Obj} {n R0 R1 R2 PL A0:Nat} {m:Nat→Nat} {xs:Nat→Nat→List Int} {W W':World}
theorem grown_tr'{a b c:World}{row:Option Nat}(h:a.grownBy b row)(k:b.grownBy c row):a.grownBy c row:=
 ⟨k.os.trans h.os,k.tape.trans h.tape,k.output.trans h.output,Nat.le_trans h.size k.size,fun j hj hn=>(k.block j (Nat.lt_of_lt_of_le hj h.size) hn).trans (h.block j hj hn)⟩
theorem grown_drew'(w:World)(row:Option Nat):w.grownBy w.drew row:=⟨rfl,rfl,rfl,Nat.le_refl _,fun _ _ _=>rfl⟩
end
section
variable {w:World} {fo:Obj} {n R0 R1 R2 PL A0:Nat} {m:Nat→Nat} {k:Nat} {W:World}
end
end
end Go.Proofs.YthgebcfohnlhlaaGreatDoor
