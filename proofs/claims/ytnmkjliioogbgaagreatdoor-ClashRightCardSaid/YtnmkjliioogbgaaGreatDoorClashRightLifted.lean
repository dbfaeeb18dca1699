/-
 How an argument that came in reads:a slice of ints as a list,within the reach.
-/
import Derived.Test.YtnmkjliioogbgaaGreatDoorNR
import Derived.Test.YtnmkjliioogbgaaGreatDoorRows
import Derived.WalkKit
import Derived.ProofKit
import Derived.OpenShut
import Derived.ShutString
import Derived.ChangeOld
import Derived.Below
import Derived.SizedLaws
import Derived.Lib.SmallJoins
import Derived.Test.YtnmkjliioogbgaaGreatDoorQueueS
import Derived.Test.YtnmkjliioogbgaaGreatDoorED
import Derived.Deep.Slices
import Derived.Test.YtnmkjliioogbgaaGreatDoorPG
import Derived.Test.YtnmkjliioogbgaaGreatDoorTie
import Derived.Test.YtnmkjliioogbgaaGreatDoorCards
import Derived.Test.YtnmkjliioogbgaaGreatDoorSM
import Derived.Test.YtnmkjliioogbgaaGreatDoorMaps
import Derived.Lib.LaidTab
import Derived.LaidMore
import Derived.Stop.Joined
import Derived.Test.YtnmkjliioogbgaaGreatDoorYX
namespace Go.Proofs.YtnmkjliioogbgaaGreatDoor
set_option linter.unusedSimpArgs false
set_option linter.unusedVariables false
set_option linter.unusedSectionVars false
set_option maxRecDepth 100000
set_option maxHeartbeats 40000000
section
open Go.ChangeShapes Go.WideShapes Go.ChangeAt Go.RowKit
theorem ownG:ownKnob Tryz.prog.godebug=none:=by kernel_rfl
theorem laidOutG:laidOutB Tryz.prog=true:=by kernel_rfl
theorem bytesInt:Tryz.prog.bytesOf 3=8:=by kernel_rfl
theorem cellsInt:Tryz.prog.cellsOf 3=1:=by kernel_rfl
theorem ints_in{H:Type}{enc:TypeId×Value→H}{W:World}{fuel:Nat}{v:Value}{y:DataW H×List MemPlace}
  (hf:DataW.trod enc Tryz.prog W 0 (fun _=>true) true fuel 22 [v]=some y) (hb:∀n∈y.1.weights Tryz.prog 22,n≤reachBytes):
  ∃a len cap zs,v=.slice a len cap∧Ints W a len zs:=by
 rcases open_ints Tryz.underlying22 Tryz.underlying3 cellsInt hf with ⟨hcs,_⟩|⟨x,l,c,zs,hcs,_,hl,hm,hz,hx,hcell,hwz⟩
 ·simp at hcs;exact⟨none,0,0,[],hcs,rfl,by omega,fun k hk=>absurd hk (by omega)⟩
 ·simp at hcs;have hz':zs.length=c:=by simpa using hz
  have hlen:(zs.take l).length=l:=by simp;omega
  have hbd:=hb ((((zs.take l).length)+((zs.drop l).length))*8) (by rw[hx];simp[DataW.weights,Tryz.underlying22,bytesInt,lits]);refine⟨some x,l,c,zs.take l,hcs,hlen,?_,fun k hk=>?_⟩
  ·simp only[List.length_take,List.length_drop,reachBytes] at hbd;omega
  ·have hk':k<zs.length:=by omega
   have hc:=hcell k hk';obtain⟨b,o,sp⟩:=x;have hsp:sp=none:=by simpa[Addr.add] using World.cell?_spot (hcell 0 (by omega))
   subst hsp;have e:(zs.take l).getD k 0=zs.getD k 0:=by simp[List.getD_eq_getElem?_getD,List.getElem?_take,hk]
   refine⟨b,o,rfl,?_,?_⟩
   ·rw[e];have ha:(⟨b,o,none⟩:Addr).add k=⟨b,o+k,none⟩:=by
     by_cases h0:k=0
     ·simp[Addr.add,h0]
     ·simp[Addr.add,h0]
    rw[ha] at hc;exact hc
   ·rw[e];have hm':zs.getD k 0∈zs:=by
     rw[List.getD_eq_getElem?_getD,List.getElem?_eq_getElem hk'];simp
    have:=Go.Joins.in64_of_wf (hwz _ hm');simp only[I64];simp only[Go.Joins.In64] at this;omega
end

section
open Go.ChangeShapes Go.WideShapes Go.ChangeAt Go.RowKit
theorem cellsInts:Tryz.prog.cellsOf 22=1:=by kernel_rfl
theorem list_of{α:Type}(n:Nat)(R:Nat→α→Prop)(h:∀i,i<n→∃x,R i x):∃l:List α,l.length=n∧∀i x,l[i]? =some x→R i x:=by
 induction n with
 |zero=>exact⟨[],rfl,fun i x hx=>by simp at hx⟩
 |succ n ih=>
  obtain⟨l,hl,hr⟩:=ih (fun i hi=>h i (by omega));obtain⟨x,hx⟩:=h n (by omega);refine⟨l++ [x],by simp[hl],fun i y hy=>?_⟩;by_cases hi:i<n
  ·rw[List.getElem?_append_left (by omega)] at hy;exact hr i y hy
  ·have hlt:=(List.getElem?_eq_some_iff.1 hy).1;simp[hl] at hlt;obtain rfl:i=n:=by omega
   rw[List.getElem?_append_right (by omega),hl,Nat.sub_self] at hy;simp at hy;subst hy;exact hx
theorem len3{α:Type}:∀{l:List α},l.length=3→∃v0 v1 v2,l= [v0,v1,v2]
 | [v0,v1,v2],_=>⟨v0,v1,v2,rfl⟩
theorem len2{α:Type}:∀{l:List α},l.length=2→∃v0 v1,l= [v0,v1]
 | [v0,v1],_=>⟨v0,v1,rfl⟩
section
variable {H:Type} {enc:TypeId×Value→H} {W:World}
theorem int_in{fuel:Nat}{v:Value}{t:TypeId}{o:Option (DataW H×List MemPlace)}{y:DataW H×List MemPlace}(ht:Tryz.prog.underlying t=some (.int .i64))(h:DataW.trod enc Tryz.prog W 0 (fun _=>true) true fuel t [v]=o)(ho:o=some y):∃n,v=.int .i64 n∧I64 n:=by
 obtain⟨n,e,_,hw⟩:=DataW.trod_int ht (h.trans ho)
 simp only[List.cons.injEq,and_true] at e
 have:=Go.Joins.in64_of_wf hw
 exact⟨n,e,this.1,this.2⟩
theorem intsC_in{fuel:Nat}{v:Value}{y:DataW H×List MemPlace}
  (hf:DataW.trod enc Tryz.prog W 0 (fun _=>true) true fuel 22 [v]=some y) (hb:∀n∈y.1.weights Tryz.prog 22,n≤reachBytes):
  ∃a len cap zs,v=.slice a len cap∧Ints W a len zs∧len≤cap:=by
 obtain⟨a,len,cap,zs,e,h⟩:=ints_in hf hb
 refine⟨a,len,cap,zs,e,h,?_⟩
 rcases open_ints Tryz.underlying22 Tryz.underlying3 cellsInt hf with ⟨hcs,_⟩|⟨x,l,c,zs',hcs,_,hl,_⟩
 ·simp at hcs;rw[e] at hcs;simp at hcs;omega
 ·simp at hcs;rw[e] at hcs;simp at hcs;omega
end
end

section
open Go.ChangeShapes Go.WideShapes Go.ChangeAt Go.RowKit
theorem cellsPairC:Tryz.prog.cellsOf 49=2:=by kernel_rfl
theorem bytesPairC:Tryz.prog.bytesOf 49=16:=by kernel_rfl
theorem cellsPairsC:Tryz.prog.cellsOf 23=1:=by kernel_rfl
theorem cellsGraph:Tryz.prog.cellsOf 25=3:=by kernel_rfl
section
variable {H:Type} {enc:TypeId×Value→H} {W:World}
theorem pairE_in{fuel:Nat}{l:List Value}{y:DataW H×List MemPlace}(hf':DataW.trod enc Tryz.prog W 0 (fun _=>true) true fuel 49 l=some y):∃x:Pr2,l=csP x:=by
 obtain⟨ys,n,-,hy,hlen,hyl,hfs⟩:=DataW.trod_struct Tryz.underlying49 hf'
 rw[cellsPairC] at hlen
 obtain⟨v0,v1,rfl⟩:=len2 hlen
 obtain⟨y0,y1,rfl⟩:=len2 (show ys.length=2 from hyl)
 have g0:DataW.trod enc Tryz.prog W 0 (fun _=>true) true n 3 (([v0,v1].drop 0).take (Tryz.prog.cellsOf 3))=some y0:=hfs 0 _ rfl
 have g1:DataW.trod enc Tryz.prog W 0 (fun _=>true) true n 3 (([v0,v1].drop 1).take (Tryz.prog.cellsOf 3))=some y1:=hfs 1 _ rfl
 rw[cellsInt] at g0 g1
 simp only[List.drop_succ_cons,List.drop_zero,List.take_succ_cons,List.take_zero] at g0 g1
 obtain⟨n0,rfl,i0⟩:=int_in Tryz.underlying3 g0 rfl
 obtain⟨n1,rfl,i1⟩:=int_in Tryz.underlying3 g1 rfl
 exact⟨(n0,n1),rfl⟩
theorem pairs_in{fuel:Nat}{v:Value}{y:DataW H×List MemPlace}(hf:DataW.trod enc Tryz.prog W 0 (fun _=>true) true fuel 23 [v]=some y)(hb:∀n∈y.1.weights Tryz.prog 23,n≤reachBytes):
  ∃a len cap ls,v=.slice a len cap∧PrS W a len ls:=by
 rcases Go.Deep.open_slice Tryz.underlying23 hf with ⟨hcs,_⟩|⟨x,l,c,m,n,D,Pl,hcs,_,hl,hm,hmm,hx,hall⟩
 ·simp at hcs;exact⟨none,0,0,[],hcs,Recs.nil _ _ _⟩
 ·simp at hcs;have hmm':m=c:=by simpa using hmm
  subst hmm';rw[cellsPairC] at hall;have hbd:=hb ((l+(m-l))*16) (by rw[hx];simp[DataW.weights,Tryz.underlying23,bytesPairC]);have hel:∀i,i<l→∃t:Pr2,∀j,j<2→W.cell? ((x.add (i*2)).add j)=(csP t)[j]?:=fun i hi=>by
   obtain⟨cs',hc',ht'⟩:=hall i (by omega);obtain⟨_,_,hat⟩:=World.cells?_some hc';obtain⟨b,rfl⟩:=pairE_in ht';exact⟨b,hat⟩
  obtain⟨ls,hrl,hrs⟩:=list_of l _ hel;have hsp:0<l→x.spot=none:=fun h0=>by
   obtain⟨r,hat⟩:=hel 0 h0;have h1:=hat 0 (by omega);have h2:(csP r)[0]? =some (.int .i64 r.1):=rfl;rw[h2] at h1;have:=World.cell?_spot h1;simpa[Addr.add] using this
  refine⟨some x,l,m,ls,hcs,hrl,?_,fun k r hr=>?_⟩
  ·simp only[reachBytes] at hbd;omega
  ·have hk:k<l:=by rw[←hrl];exact(List.getElem?_eq_some_iff.1 hr).1
   have hs:=hsp (by omega);obtain⟨b,o,sp⟩:=x;simp only at hs;subst hs;refine⟨b,o,rfl,fun j hj=>?_⟩;have:=hrs k r hr j hj
   rwa [addr_add,addr_add] at this
theorem graph_in{r:Go.Reach}{b0:Nat}{v:Value}{d:DataW H}{p:List MemPlace}(hv:Value.okWide Tryz.prog W r b0 25 v)(h:DataW.Trod enc Tryz.prog W 0 (fun _=>true) true 25 v d p)(hb:∀n∈d.weights Tryz.prog 25,n≤reachBytes):
  ∃va vn vc pa pn pc aa an ac vs ps l,v=graphV va vn vc pa pn pc aa an ac∧Ints W va vn vs∧PrS W pa pn ps∧Ints W aa an l:=by
 obtain⟨arr,rfl,hsz⟩:=okWide_struct Tryz.underlying25 hv
 rw[cellsGraph] at hsz
 obtain⟨fuel,hf⟩:=h
 obtain⟨l⟩:=arr
 have hf':DataW.trod enc Tryz.prog W 0 (fun _=>true) true fuel 25 l=some (d,p):=hf
 obtain⟨v0,v1,v2,rfl⟩:=len3 (show l.length=3 from hsz)
 obtain⟨ys,n,-,hy,-,hyl,hfs⟩:=DataW.trod_struct Tryz.underlying25 hf'
 obtain⟨y0,y1,y2,rfl⟩:=len3 (show ys.length=3 from hyl)
 have g0:DataW.trod enc Tryz.prog W 0 (fun _=>true) true n 22 (([v0,v1,v2].drop 0).take (Tryz.prog.cellsOf 22))=some y0:=hfs 0 _ rfl
 have g1:DataW.trod enc Tryz.prog W 0 (fun _=>true) true n 23 (([v0,v1,v2].drop 1).take (Tryz.prog.cellsOf 23))=some y1:=hfs 1 _ rfl
 have g2:DataW.trod enc Tryz.prog W 0 (fun _=>true) true n 22 (([v0,v1,v2].drop 2).take (Tryz.prog.cellsOf 22))=some y2:=hfs 2 _ rfl
 rw[cellsInts] at g0 g2
 rw[cellsPairsC] at g1
 simp only[List.drop_succ_cons,List.drop_zero,List.take_succ_cons,List.take_zero] at g0 g1 g2
 simp only[Prod.mk.injEq] at hy
 obtain⟨va,vn,vc,vs,rfl,hV,_⟩:=intsC_in g0 (fun q hq=>hb q (by rw[hy.1];simp[DataW.weights,DataW.weightsEach,Tryz.underlying25,hq]))
 obtain⟨pa,pn,pc,ps,rfl,hP⟩:=pairs_in g1 (fun q hq=>hb q (by rw[hy.1];simp[DataW.weights,DataW.weightsEach,Tryz.underlying25,hq]))
 obtain⟨aa,an,ac,als,rfl,hA,_⟩:=intsC_in g2 (fun q hq=>hb q (by rw[hy.1];simp[DataW.weights,DataW.weightsEach,Tryz.underlying25,hq]))
 exact⟨va,vn,vc,pa,pn,pc,aa,an,ac,vs,ps,als,rfl,hV,hP,hA⟩
end
end

section
open Go.ChangeShapes Go.WideShapes Go.ChangeAt Go.RowKit
abbrev laidL {H : Type} : List (String × DataW H) := [("math/bits.deBruijn64tab", Rows.laid_math_bits_deBruijn64tab)]
theorem gTab : Tryz.prog.globalNamed "math/bits.deBruijn64tab" = some 0 := by kernel_rfl
theorem tTab:(Tryz.prog.globals[0]?).map (·.type)=some 240:=by kernel_rfl
theorem tab_data{H:Type}:(Rows.laid_math_bits_deBruijn64tab:DataW H)=Lib.tabData .u8 (Lib.deBruijn64tab.map fun k:Nat=>(k:Int)):=by rfl
theorem tab_of_laid{W:World}(h:laidMetH Tryz.prog laidL W):Tab W:=by
 rw[MakeChecks.laidMetH_plain _ _ _ (by kernel_rfl)] at h
 obtain⟨ps,⟨g0,t0,cs0,f0,p0,q0,hg0,ht0,hv0,hd0,_⟩,_⟩:=h
 obtain rfl:=Option.some.inj (gTab.symm.trans hg0)
 obtain rfl:=Option.some.inj (tTab.symm.trans ht0)
 rw[tab_data] at hd0
 have hc:=Lib.cells_of_tab (k:=.u8) Tryz.underlying240 Tryz.underlying5 (by kernel_rfl) (by kernel_rfl) hd0
 intro j hj
 have:=World.var?_cell hg0 hv0 j
 rw[this]
 obtain⟨l0⟩:=cs0
 have e:l0=(Lib.deBruijn64tab.map fun k:Nat=>(k:Int)).map fun z=>Value.int .u8 z:=hc
 subst e
 simp[List.getD_eq_getElem?_getD,hj]
theorem door_met(os:Os)(args:Array Value):laidMetH Tryz.prog laidL ((World.doorLaid Tryz.prog 14 os).forCall (fun _ _=>0) ⟨#[],args,[]⟩).memory:=
 laidMetH_of_parts3 (fuel:=8) (laidMet_of_run' 8 (by kernel_rfl) (by kernel_rfl)) (by kernel_rfl) (by kernel_rfl)
end

section
open Go.ChangeShapes Go.WideShapes Go.ChangeAt Go.RowKit
theorem clashRight_lifted(os:Os)(started:os.Started)(H:Type)(enc:TypeId×Value→H):
  ReturnsInHanded {} Tryz.checked os 3 .any (fun w args=>(Rows.clashRightSpec.pre enc Tryz.prog Tryz.f3 [] false w args∧laidMetH Tryz.prog laidL w)∧sizedMet enc Tryz.prog Tryz.f3 (OpenSpec.ofChange Rows.clashRightSpec) false w args) (Rows.clashRightSpec.post enc Tryz.prog Tryz.f3 false true false false):=by
 refine returnsInHanded_of_change_and (C:=Tryz.checked) (X:=fun w _=>laidMetH Tryz.prog laidL w) (fun _ _ _ hh h=>h.of_heap hh) ownG started (by kernel_rfl) Tryz.func3
  (ChangeSpec.witness_shaped (enc:=enc) (C:=Tryz.checked) (os:=os) (X:=fun w _=>laidMetH Tryz.prog laidL w) false (World.doorLaid Tryz.prog 14 os) #[.agg #[.slice none 0 0,.slice none 0 0,.slice none 0 0],.int .i64 0,.int .i64 0] 8 rfl (World.shaped_of_RefB (by kernel_rfl) (by kernel_rfl)) (by kernel_rfl) (by kernel_rfl) (by kernel_rfl) (door_met os _)) ?_
 intro W base args ds gs before hval0 hW hcnd hsz0 hlaid hholds
 have hTab:=tab_of_laid hlaid
 have hsz:(DataW.weightsEach Tryz.prog (Tryz.f3.params.toList++Rows.clashRightSpec.plain.varTypes Tryz.prog) (ds++gs)).all (·≤reachBytes)=true:=hsz0
 have hval:∀(j:Nat) t v,Tryz.f3.params[j]? =some t→args[j]? =some v→Value.okWide Tryz.prog W .any base t v:=hval0
 have hW':=hW
 obtain⟨p,q,hA0,hV,rfl,hfz,hnd⟩:=hW
 have hA:DataW.TrodAll enc Tryz.prog W 0 (fun _=>true) true Tryz.f3.params.toList args.toList ds p:=hA0
 rw[Tryz.params3] at hA hval hsz
 obtain⟨v0,vs0,d0,ds0,p0,q0,hargs,rfl,rfl,h0,r0⟩:=trodAll_cons hA
 obtain⟨v1,vs1,d1,ds1,p1,q1,rfl,rfl,rfl,h1,r1⟩:=trodAll_cons r0
 obtain⟨v2,vs2,d2,ds2,p2,q2,rfl,rfl,rfl,h2,r2⟩:=trodAll_cons r1
 obtain⟨rfl,rfl,rfl⟩:=trodAll_nil r2
 obtain rfl:args= #[v0,v1,v2]:=by cases args;simp_all
 obtain⟨rfl,rfl⟩:=trodVars_none hV
 have hall:∀n∈DataW.weightsEach Tryz.prog _ _,n≤reachBytes:=fun n hn=>of_decide_eq_true (List.all_eq_true.1 hsz n hn)
 have k0:=h0
 have lt0:∀x∈p0,x.block<W.heap.size:=by obtain⟨m,hm⟩:=k0;exact DataW.trod_lt m _ _ _ hm
 obtain⟨va0,vn0,vc0,pa0,pn0,pc0,aa0,an0,ac0,zs0,qs0,zl0,rfl,hGV0,hGP0,hGA0⟩:=graph_in (hval 0 25 v0 rfl rfl) h0 (fun n hn=>hall n (DataW.weights_mem_each (j:=0) (t:=25) rfl rfl n hn))
 obtain⟨i1,rfl,rfl,rfl,wi1⟩:=open_int Tryz.underlying3 (hval 1 3 v1 rfl rfl) h1
 have hI1:I64 i1:=by have:=Go.Joins.in64_of_wf wi1;exact⟨this.1,this.2⟩
 obtain⟨i2,rfl,rfl,rfl,wi2⟩:=open_int Tryz.underlying3 (hval 2 3 v2 rfl rfl) h2
 have hI2:I64 i2:=by have:=Go.Joins.in64_of_wf wi2;exact⟨this.1,this.2⟩
 clear hA0 hval0 hsz0
 refine(clashRight_walk va0 vn0 vc0 pa0 pn0 pc0 aa0 an0 ac0 zs0 qs0 zl0 i1 i2 W hGV0 hGP0 hGA0 hTab).mono fun e W' ⟨he,bel⟩=>?_
 subst he
 exact⟨_,rfl,_,_,_,[],_,[],hW',trodAll_mk1 (shut_bool Tryz.underlying4 _),(trodAll_cons_mk (Below.trod laidOutG (by kernel_rfl) (of_decide_eq_true (by kernel_rfl)) k0 bel lt0) (trodAll_cons_mk (shut_int Tryz.underlying3 wi1) (trodAll_cons_mk (shut_int Tryz.underlying3 wi2) trodAll_mk0))),rfl,bel.frame _,fun h=>by cases h⟩
end
end Go.Proofs.YtnmkjliioogbgaaGreatDoor
