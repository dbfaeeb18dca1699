/-
 SetsEdges,for every input:the law tells true,and all that came in reads as it did. No condition.
-/
import Derived.Test.YthgebcfohnlhlaaGreatDoorWH
import Derived.Test.YthgebcfohnlhlaaGreatDoorLaid
namespace Go.Proofs.YthgebcfohnlhlaaGreatDoor
set_option linter.unusedSimpArgs false
set_option linter.unusedVariables false
set_option linter.unusedSectionVars false
set_option maxRecDepth 100000
set_option maxHeartbeats 40000000
section
open Go.ChangeShapes Go.WideShapes Go.ChangeAt Go.RowKit
theorem setsEdges_lifted(os:Os)(started:os.Started)(H:Type)(enc:TypeId×Value→H):
  ReturnsInHanded {} Tryz.checked os 5 .any (fun w args=>(Rows.setsEdgesSpec.pre enc Tryz.prog Tryz.f5 [] false w args∧laidMetH Tryz.prog laidL w)∧sizedMet enc Tryz.prog Tryz.f5 (OpenSpec.ofChange Rows.setsEdgesSpec) false w args) (Rows.setsEdgesSpec.post enc Tryz.prog Tryz.f5 false true false false):=by
 refine returnsInHanded_of_change_and (C:=Tryz.checked) (X:=fun w _=>laidMetH Tryz.prog laidL w) (fun _ _ _ hh h=>h.of_heap hh) ownG started (by kernel_rfl) Tryz.func5
  (ChangeSpec.witness_shaped (enc:=enc) (C:=Tryz.checked) (os:=os) (X:=fun w _=>laidMetH Tryz.prog laidL w) false (World.doorLaid Tryz.prog 14 os) #[.agg #[.slice none 0 0,.slice none 0 0],.slice none 0 0] 8 rfl (World.shaped_of_RefB (by kernel_rfl) (by kernel_rfl)) (by kernel_rfl) (by kernel_rfl) (by kernel_rfl) (door_met os _)) ?_
 intro W base args ds gs before hval0 hW hcnd hsz0 hlaid hholds
 have hTab:=tab_of_laid hlaid
 have hsz:(DataW.weightsEach Tryz.prog (Tryz.f5.params.toList++Rows.setsEdgesSpec.plain.varTypes Tryz.prog) (ds++gs)).all (·≤reachBytes)=true:=hsz0
 have hval:∀(j:Nat) t v,Tryz.f5.params[j]? =some t→args[j]? =some v→Value.okWide Tryz.prog W .any base t v:=hval0
 have hW':=hW
 obtain⟨p,q,hA0,hV,rfl,hfz,hnd⟩:=hW
 have hA:DataW.TrodAll enc Tryz.prog W 0 (fun _=>true) true Tryz.f5.params.toList args.toList ds p:=hA0
 rw[Tryz.params5] at hA hval hsz
 obtain⟨v0,vs0,d0,ds0,p0,q0,hargs,rfl,rfl,h0,r0⟩:=trodAll_cons hA
 obtain⟨v1,vs1,d1,ds1,p1,q1,rfl,rfl,rfl,h1,r1⟩:=trodAll_cons r0
 obtain⟨rfl,rfl,rfl⟩:=trodAll_nil r1
 obtain rfl:args= #[v0,v1]:=by cases args;simp_all
 obtain⟨rfl,rfl⟩:=trodVars_none hV
 have hall:∀n∈DataW.weightsEach Tryz.prog _ _,n≤reachBytes:=fun n hn=>of_decide_eq_true (List.all_eq_true.1 hsz n hn)
 have k0:=h0
 have lt0:∀x∈p0,x.block<W.heap.size:=by obtain⟨m,hm⟩:=k0;exact DataW.trod_lt m _ _ _ hm
 have k1:=h1
 have lt1:∀x∈p1,x.block<W.heap.size:=by obtain⟨m,hm⟩:=k1;exact DataW.trod_lt m _ _ _ hm
 obtain⟨pa0,pn0,pc0,ba0,bn0,bc0,bs0,rfl,⟨ps0,hP0⟩,hF0⟩:=func_in (hval 0 25 v0 rfl rfl) h0 (fun n hn=>hall n (DataW.weights_mem_each (j:=0) (t:=25) rfl rfl n hn))
 obtain⟨xs0,hx0,hR0⟩:=hF0.r
 subst hx0
 obtain⟨xa1,xl1,xc1,rfl⟩:=okWide_slice Tryz.underlying26 (hval 1 26 v1 rfl rfl)
 obtain⟨fu1,hf1⟩:=h1
 obtain⟨ta1,tn1,tc1,ls1,e1,hT1,hTc1⟩:=tiles_in (v:=.slice xa1 xl1 xc1) (y:=(d1,p1)) (by simpa[Value.cells] using hf1) (fun n hn=>hall n (DataW.weights_mem_each (j:=1) (t:=26) rfl rfl n hn))
 simp only[Value.slice.injEq] at e1
 obtain⟨rfl,rfl,rfl⟩:=e1
 clear hA0 hval0 hsz0
 refine(setsEdges_walk pa0 pn0 pc0 ps0 ba0 bn0 bc0 xs0 xa1 xl1 xc1 ls1 W hP0 hR0 hT1 hTab).mono fun e W' ⟨he,bel⟩=>?_
 subst he
 exact⟨_,rfl,_,_,_,[],_,[],hW',trodAll_mk1 (shut_bool Tryz.underlying4 _),(trodAll_cons_mk (Below.trod laidOutG (by kernel_rfl) (of_decide_eq_true (by kernel_rfl)) k0 bel lt0) (trodAll_cons_mk (Below.trod laidOutG (by kernel_rfl) (of_decide_eq_true (by kernel_rfl)) k1 bel lt1) trodAll_mk0)),rfl,bel.frame _,fun h=>by cases h⟩
theorem setsEdges_over:Rows.SetsEdgesSaid:=
 OpenClaim.holds_of_wide 5 Tryz.f5 rfl rfl rfl rfl rfl rfl rfl ⟨rfl,rfl,rfl,rfl,rfl⟩ rfl rfl rfl rfl rfl (by kernel_rfl) Tryz.func5 (by kernel_rfl)
  (of_decide_eq_true (by kernel_rfl)) (by unfold Func.isWrapper;first|(rw[if_pos (by decide +kernel)];kernel_rfl)|(rw[if_neg (by decide +kernel)];exact⟨rfl,rfl⟩))
  (fun os started H enc _=>setsEdges_lifted os started H enc)
theorem setsEdges_card:Claim7.holds Tryz.pinned (.plain (OpenSpec.ofChange Rows.setsEdgesSpec)) Rows.setsEdgesCard:=
 Claim7.holds_tied_plain_at .later [] [.data] true (true, "14ee367bbce09a662c94a0f992cfe91c88b45d9d1bb94cfbd3c1f9703acda535") true
  setsEdges_over (fun _ h=>by cases h) (by kernel_rfl) (fun _ h=>by cases h) setsEdges_row_tie rfl ⟨rfl,rfl⟩ (by kernel_rfl) rfl
  (fun f fn hf hfn=>by
    obtain rfl : f = 5 := Option.some.inj ((show Tryz.prog.funcNamed "intarsia/intarsialaw19.SetsEdges" = some 5 by kernel_rfl).symm.trans hf) |>.symm;obtain rfl : fn = Tryz.f5 := (Option.some.inj (Tryz.func5.symm.trans hfn)).symm
    exact⟨by kernel_rfl,fun j t ht=>by
     rw[Tryz.params5] at ht;have hm:t∈[25,26]:=by simpa using Array.mem_of_getElem? ht
     have hall:([25,26].all fun u=> !Tryz.prog.wantsStandIn u)=true:=by kernel_rfl
     exact(show Tryz.prog.wantsStandIn t=false by simpa using List.all_eq_true.1 hall t hm)⟩)
  (by kernel_rfl)
theorem setsEdges_proved:Rows.SetsEdgesCardSaid:=setsEdges_card
#print axioms setsEdges_proved
end
end Go.Proofs.YthgebcfohnlhlaaGreatDoor
