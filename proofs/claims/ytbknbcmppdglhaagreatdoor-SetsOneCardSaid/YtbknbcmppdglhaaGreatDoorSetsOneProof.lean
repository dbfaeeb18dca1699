/-
 SetsOne,for every input:the law tells true,and all that came in reads as it did. No condition.
-/
import Derived.Test.YtbknbcmppdglhaaGreatDoorA0
import Derived.Test.YtbknbcmppdglhaaGreatDoorLaid
namespace Go.Proofs.YtbknbcmppdglhaaGreatDoor
set_option linter.unusedSimpArgs false
set_option linter.unusedVariables false
set_option linter.unusedSectionVars false
set_option maxRecDepth 100000
set_option maxHeartbeats 40000000
section
open Go.ChangeShapes Go.WideShapes Go.ChangeAt Go.RowKit
theorem MI(os:Os)(started:os.Started)(H:Type)(enc:TypeId×Value->H):
  ReturnsInHanded {} Tryz.checked os 4 .any (λw args=>(Rows.setsOneSpec.pre enc Tryz.prog Tryz.f4 [] false w args/\laidMetH Tryz.prog TZ w)/\sizedMet enc Tryz.prog Tryz.f4 (OpenSpec.ofChange Rows.setsOneSpec) false w args) (Rows.setsOneSpec.post enc Tryz.prog Tryz.f4 false true false false):=by
 refine returnsInHanded_of_change_and (C:=Tryz.checked) (X:=λw _=>laidMetH Tryz.prog TZ w) (λ_ _ _ hh h=>h.of_heap hh) Db started (by kernel_rfl) Tryz.func4
  (ChangeSpec.witness_shaped (enc:=enc) (C:=Tryz.checked) (os:=os) (X:=λw _=>laidMetH Tryz.prog TZ w) false (World.doorLaid Tryz.prog 14 os) #[.agg #[.slice none 0 0,.slice none 0 0]] 8 rfl (World.shaped_of_RefB (by kernel_rfl) (by kernel_rfl)) (by kernel_rfl) (by kernel_rfl) (by kernel_rfl) (xt os _)) ?_
 intro W base args ds gs before hval0 hW hcnd hsz0 hlaid hholds
 have hTab:=WQ hlaid
 have hsz:(DataW.weightsEach Tryz.prog (Tryz.f4.params.toList++Rows.setsOneSpec.plain.varTypes Tryz.prog) (ds++gs)).all (·<=reachBytes)=true:=hsz0
 have hval:∀(j:Nat) t v,Tryz.f4.params[j]? =some t->args[j]? =some v->Value.okWide Tryz.prog W .any base t v:=hval0
 have hW':=hW
 obtain⟨p,q,hA0,hV,rfl,hfz,hnd⟩:=hW
 have hA:DataW.TrodAll enc Tryz.prog W 0 (λ_=>true) true Tryz.f4.params.toList args.toList ds p:=hA0
 rw[Tryz.params4] at hA hval hsz
 obtain⟨v0,vs0,d0,ds0,p0,q0,hargs,rfl,rfl,h0,r0⟩:=trodAll_cons hA
 obtain⟨rfl,rfl,rfl⟩:=trodAll_nil r0
 obtain rfl:args= #[v0]:=by cases args;simp_all
 obtain⟨rfl,rfl⟩:=trodVars_none hV
 have hall:∀n∈DataW.weightsEach Tryz.prog _ _,n<=reachBytes:=λn hn=>fs (aV.1 hsz n hn)
 have k0:=h0
 have lt0:∀x∈p0,x.block<W.heap.size:=by obtain⟨m,hm⟩:=k0;exact DataW.trod_lt m _ _ _ hm
 obtain⟨pa0,pn0,pc0,ba0,bn0,bc0,bs0,rfl,⟨ps0,hP0⟩,hF0⟩:=Ai (hval 0 25 v0 rfl rfl) h0 (λn hn=>hall n (DataW.weights_mem_each (j:=0) (t:=25) rfl rfl n hn))
 obtain⟨xs0,hx0,hR0⟩:=hF0.r
 subst hx0
 clear hA0 hval0 hsz0
 refine(RV pa0 pn0 pc0 ps0 ba0 bn0 bc0 xs0 W hP0 hR0 hTab).mono λe W' ⟨he,bel⟩=>?_
 subst he
 exact⟨_,rfl,_,_,_,[],_,[],hW',trodAll_mk1 (shut_bool eC _),(trodAll_cons_mk (Below.trod wg (by kernel_rfl) (fs (by kernel_rfl)) k0 bel lt0) trodAll_mk0),rfl,bel.frame _,λh=>by cases h⟩
theorem RW:Rows.SetsOneSaid:=
 OpenClaim.holds_of_wide 4 Tryz.f4 rfl rfl rfl rfl rfl rfl rfl ⟨rfl,rfl,rfl,rfl,rfl⟩ rfl rfl rfl rfl rfl (by kernel_rfl) Tryz.func4 (by kernel_rfl)
  (fs (by kernel_rfl)) (by unfold Func.isWrapper;first|(rw[aM (by decide +kernel)];kernel_rfl)|(rw[az (by decide +kernel)];exact⟨rfl,rfl⟩))
  (λos started H enc _=>MI os started H enc)
theorem RX:Claim7.holds Tryz.pinned (.plain (OpenSpec.ofChange Rows.setsOneSpec)) Rows.setsOneCard:=
 Claim7.holds_tied_plain_at .later [] [.data] true (true, "6045bcfa4327f5afb413ab9e0adb32d4349a83c832b4f5d2790450a94096d64e") true
  RW (λ_ h=>by cases h) (by kernel_rfl) (λ_ h=>by cases h) setsOne_row_tie rfl ⟨rfl,rfl⟩ (by kernel_rfl) rfl
  (λf fn hf hfn=>by
    obtain rfl : f = 4 := Option.some.inj ((show Tryz.prog.funcNamed "intarsia/intarsialaw19.SetsOne" = some 4 by kernel_rfl).symm.trans hf) |>.symm;obtain rfl : fn = Tryz.f4 := (Option.some.inj (Tryz.func4.symm.trans hfn)).symm
    exact⟨by kernel_rfl,λj t ht=>by
     rw[Tryz.params4] at ht;have hm:t∈[25]:=by simpa using Array.mem_of_getElem? ht
     have hall:([25].all λu=> !Tryz.prog.wantsStandIn u)=true:=by kernel_rfl
     exact(show Tryz.prog.wantsStandIn t=false by simpa using aV.1 hall t hm)⟩)
  (by kernel_rfl)
theorem setsOne_proved:Rows.SetsOneCardSaid:=RX
#print axioms setsOne_proved
end
end Go.Proofs.YtbknbcmppdglhaaGreatDoor
