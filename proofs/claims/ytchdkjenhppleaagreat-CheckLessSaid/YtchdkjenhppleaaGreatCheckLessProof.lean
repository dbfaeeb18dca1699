/-
 CheckLess,for every machine,two blocks,facts and number:the law tells true,and all that came in reads as it did. No condition.
-/
import Derived.Test.YtchdkjenhppleaaGreatA0
import Derived.Test.YtchdkjenhppleaaGreatMO
namespace Go.Proofs.YtchdkjenhppleaaGreat
set_option linter.unusedSimpArgs false
set_option linter.unusedVariables false
set_option linter.unusedSectionVars false
set_option maxRecDepth 100000
set_option maxHeartbeats 40000000
section
open Go.ChangeShapes Go.WideShapes Go.ChangeAt Go.RowKit
theorem PR(os:Os)(started:os.Started)(H:Type)(enc:TypeId×Value->H):
  ReturnsInHanded {} Tryz.checked os 3 .any (Rows.checkLessSpec.pre6 enc Tryz.prog Tryz.f3 Rows.checkLessRow.domain false) (Rows.checkLessSpec.post enc Tryz.prog Tryz.f3 false true false false):=by
 refine returnsInHanded_of_change_sized (C:=Tryz.checked) pw started (by kernel_rfl) Tryz.func3
  (ChangeSpec.witness6 (enc:=enc) (C:=Tryz.checked) false ⟨#[],#[.agg #[.int .i64 0,.slice none 0 0,.int .i64 0,.slice none 0 0],.agg #[.slice none 0 0,.int .i64 0,.int .i64 0,.int .i64 0,.int .i64 0],.agg #[.slice none 0 0,.int .i64 0,.int .i64 0,.int .i64 0,.int .i64 0],.slice none 0 0,.int .i64 0],[]⟩ 8 (by kernel_rfl) (by kernel_rfl) (by kernel_rfl) (by kernel_rfl)) ?_
 intro W base args ds gs before hval0 hW hcnd hsz0 hholds
 have hsz:(DataW.weightsEach Tryz.prog (Tryz.f3.params.toList++Rows.checkLessSpec.plain.varTypes Tryz.prog) (ds++gs)).all (·<=reachBytes)=true:=hsz0
 have hval:∀(j:Nat) t v,Tryz.f3.params[j]? =some t->args[j]? =some v->Value.okWide Tryz.prog W .any base t v:=hval0
 have hW':=hW
 obtain⟨p,q,hA0,hV,rfl,hfz,hnd⟩:=hW
 have hA:DataW.TrodAll enc Tryz.prog W 0 (λ_=>true) true Tryz.f3.params.toList args.toList ds p:=hA0
 rw[Tryz.params3] at hA hval hsz
 obtain⟨v0,vs0,d0,ds0,p0,q0,hargs,rfl,rfl,h0,r0⟩:=trodAll_cons hA
 obtain⟨v1,vs1,d1,ds1,p1,q1,rfl,rfl,rfl,h1,r1⟩:=trodAll_cons r0
 obtain⟨v2,vs2,d2,ds2,p2,q2,rfl,rfl,rfl,h2,r2⟩:=trodAll_cons r1
 obtain⟨v3,vs3,d3,ds3,p3,q3,rfl,rfl,rfl,h3,r3⟩:=trodAll_cons r2
 obtain⟨v4,vs4,d4,ds4,p4,q4,rfl,rfl,rfl,h4,r4⟩:=trodAll_cons r3
 obtain⟨rfl,rfl,rfl⟩:=trodAll_nil r4
 obtain rfl:args= #[v0,v1,v2,v3,v4]:=by cases args;simp_all
 obtain⟨rfl,rfl⟩:=trodVars_none hV
 have hall:∀n∈DataW.weightsEach Tryz.prog _ _,n<=reachBytes:=λn hn=>dc (bq.1 hsz n hn)
 have k0:=h0
 have k1:=h1
 have k2:=h2
 have k3:=h3
 have lt0:∀x∈p0,x.block<W.heap.size:=by obtain⟨m,hm⟩:=k0;exact DataW.trod_lt m _ _ _ hm
 have lt1:∀x∈p1,x.block<W.heap.size:=by obtain⟨m,hm⟩:=k1;exact DataW.trod_lt m _ _ _ hm
 have lt2:∀x∈p2,x.block<W.heap.size:=by obtain⟨m,hm⟩:=k2;exact DataW.trod_lt m _ _ _ hm
 have lt3:∀x∈p3,x.block<W.heap.size:=by obtain⟨m,hm⟩:=k3;exact DataW.trod_lt m _ _ _ hm
 obtain⟨m,a1,n1,c1,a2,n2,c2,rfl,hM⟩:=lx (hval 0 24 v0 rfl rfl) h0 (λn hn=>hall n (dY (j:=0) (t:=24) rfl rfl n hn))
 obtain⟨s,sa,ns,cs,rfl,hS⟩:=ei (hval 1 31 v1 rfl rfl) h1 (λn hn=>hall n (dY (j:=1) (t:=31) rfl rfl n hn))
 obtain⟨t,ta,nt,ct,rfl,hT⟩:=ei (hval 2 31 v2 rfl rfl) h2 (λn hn=>hall n (dY (j:=2) (t:=31) rfl rfl n hn))
 obtain⟨fuel3,hf3⟩:=h3
 obtain⟨fa0,nf0,cf0,rfl⟩:=okWide_slice cP (hval 3 32 v3 rfl rfl)
 obtain⟨fa,nf,cf,ls,e3,hF,hFc⟩:=jj (y:=(d3,p3)) hf3 (λn hn=>hall n (dY (j:=3) (t:=32) rfl rfl n hn))
 rw[e3] at k3 hval hW'|-
 obtain⟨i4,rfl,rfl,rfl,wi4⟩:=open_int aP (hval 4 3 v4 rfl rfl) h4
 have hI4:I64 i4:=by have:=Go.Joins.in64_of_wf wi4;exact⟨this.1,this.2⟩
 clear hA0 hval0 hsz0
 refine(GV m a1 a2 n1 c1 n2 c2 s t sa ta ns cs nt ct fa nf cf ls i4 W hM hS hT hF hFc hI4).mono λe W' ⟨he,bel⟩=>?_
 subst he
 exact⟨_,rfl,_,_,_,[],_,[],hW',trodAll_mk1 (shut_bool ce _),(trodAll_cons_mk (Below.trod yE (by kernel_rfl) (dc (by kernel_rfl)) k0 bel lt0) (trodAll_cons_mk (Below.trod yE (by kernel_rfl) (dc (by kernel_rfl)) k1 bel lt1) (trodAll_cons_mk (Below.trod yE (by kernel_rfl) (dc (by kernel_rfl)) k2 bel lt2) (trodAll_cons_mk (Below.trod yE (by kernel_rfl) (dc (by kernel_rfl)) k3 bel lt3) (trodAll_cons_mk (shut_int aP wi4) trodAll_mk0))))),rfl,bel.frame _,λh=>by cases h⟩
theorem GA:Rows.checkLessRow.holds Tryz.pinned (OpenSpec.ofChange Rows.checkLessSpec):=
 OpenClaim.holds_of_wide 3 Tryz.f3 rfl rfl rfl rfl rfl rfl rfl ⟨rfl,rfl,rfl,rfl,rfl⟩ rfl rfl rfl rfl rfl (by kernel_rfl) Tryz.func3 (by kernel_rfl)
  (dc (by kernel_rfl)) (by unfold Func.isWrapper;first|(rw[aX (by decide +kernel)];kernel_rfl)|(rw[aC (by decide +kernel)];exact⟨rfl,rfl⟩))
  (λos started H enc _=>PR os started H enc)
theorem checkLess_proved:Rows.CheckLessSaid:=GA
#print axioms checkLess_proved
end
end Go.Proofs.YtchdkjenhppleaaGreat
