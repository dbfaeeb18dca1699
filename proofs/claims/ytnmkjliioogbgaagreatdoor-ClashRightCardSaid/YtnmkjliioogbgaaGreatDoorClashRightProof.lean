/-
 ClashRight,for every input:the law tells true,and all that came in reads as it did. No condition.
-/
import Derived.Test.YtnmkjliioogbgaaGreatDoorClashRightLifted
namespace Go.Proofs.YtnmkjliioogbgaaGreatDoor
set_option linter.unusedSimpArgs false
set_option linter.unusedVariables false
set_option linter.unusedSectionVars false
set_option maxRecDepth 100000
set_option maxHeartbeats 40000000
section
open Go.ChangeShapes Go.WideShapes Go.ChangeAt Go.RowKit
theorem clashRight_facts:joinedFacts Tryz.pinned.checked.prog 3 Tryz.f3 Rows.clashRightSpec Rows.clashRightRow=true:=by
 simp only[joinedFacts,Bool.and_eq_true]
 repeat' refine And.intro ?_ ?_
 all_goals (as_aux_lemma=>kernel_rfl)
theorem clashRight_over:Rows.ClashRightSaid:=
 OpenClaim.holds_of_wide 3 Tryz.f3 rfl rfl rfl rfl rfl rfl rfl ⟨rfl,rfl,rfl,rfl,rfl⟩ rfl rfl rfl rfl rfl (by kernel_rfl) Tryz.func3 clashRight_facts
  (of_decide_eq_true (by kernel_rfl)) (by unfold Func.isWrapper;first|(rw[if_pos (by decide +kernel)];kernel_rfl)|(rw[if_neg (by decide +kernel)];exact⟨rfl,rfl⟩))
  (fun os started H enc _=>clashRight_lifted os started H enc)
theorem clashRight_card:Claim7.holds Tryz.pinned (.plain (OpenSpec.ofChange Rows.clashRightSpec)) Rows.clashRightCard:=
 Claim7.holds_tied_plain_at .later [] [.data] true (true, "a8c89f7d6dda4aa8e9937d5d35c8706d85a53ccf3ee77b2b00e417acda9347ca") true
  clashRight_over (fun _ h=>by cases h) (by kernel_rfl) (fun _ h=>by cases h) clashRight_row_tie rfl ⟨rfl,rfl⟩ (by kernel_rfl) rfl
  (fun f fn hf hfn=>by
    obtain rfl : f = 3 := Option.some.inj ((show Tryz.prog.funcNamed "intarsia/intarsialaw20.ClashRight" = some 3 by kernel_rfl).symm.trans hf) |>.symm;obtain rfl : fn = Tryz.f3 := (Option.some.inj (Tryz.func3.symm.trans hfn)).symm
    exact⟨by kernel_rfl,fun j t ht=>by
     rw[Tryz.params3] at ht;have hm:t∈[25,3,3]:=by simpa using Array.mem_of_getElem? ht
     have hall:([25,3,3].all fun u=> !Tryz.prog.wantsStandIn u)=true:=by kernel_rfl
     exact(show Tryz.prog.wantsStandIn t=false by simpa using List.all_eq_true.1 hall t hm)⟩)
  (by kernel_rfl)
theorem clashRight_proved:Rows.ClashRightCardSaid:=clashRight_card
#print axioms clashRight_proved
end
end Go.Proofs.YtnmkjliioogbgaaGreatDoor
