/-
 How an argument that came in reads:a slice of ints as a list,within the reach.
-/
import Derived.Test.YthgebcfohnlhlaaGreatDoorNR
import Derived.Test.YthgebcfohnlhlaaGreatDoorRows
import Derived.WalkKit
import Derived.ProofKit
import Derived.OpenShut
import Derived.ShutString
import Derived.ChangeOld
import Derived.Below
import Derived.SizedLaws
import Derived.Lib.SmallJoins
import Derived.Test.YthgebcfohnlhlaaGreatDoorSI
import Derived.Test.YthgebcfohnlhlaaGreatDoorED
import Derived.Deep.Slices
import Derived.Test.YthgebcfohnlhlaaGreatDoorTM
import Derived.Test.YthgebcfohnlhlaaGreatDoorTie
import Derived.Test.YthgebcfohnlhlaaGreatDoorCards
import Derived.Test.YthgebcfohnlhlaaGreatDoorSameG
import Derived.Lib.LaidTab
import Derived.LaidMore
import Derived.Stop.Joined
namespace Go.Proofs.YthgebcfohnlhlaaGreatDoor
set_option linter.unusedSimpArgs false
set_option linter.unusedVariables false
set_option linter.unusedSectionVars false
set_option maxRecDepth 100000
set_option maxHeartbeats 40000000
section
open Go.ChangeShapes Go.WideShapes Go.ChangeAt Go.RowKit
theorem ownG:ownKnob Tryz.prog.godebug=none:=by kernel_rfl
theorem laidOutG:laidOutB Tryz.prog=true:=by kernel_rfl
theorem bytesInt:Tryz.prog.bytesOf 3=8:=by kernel_rfl
theorem cellsInt:Tryz.prog.cellsOf 3=1:=by kernel_rfl
theorem ints_in{H:Type}{enc:TypeId×Value→H}{W:World}{fuel:Nat}{v:Value}{y:DataW H×List MemPlace}
  (hf:DataW.trod enc Tryz.prog W 0 (fun _=>true) true fuel 22 [v]=some y) (hb:∀n∈y.1.weights Tryz.prog 22,n≤reachBytes):
  ∃a len cap zs,v=.slice a len cap∧Ints W a len zs:=by
 rcases open_ints Tryz.underlying22 Tryz.underlying3 cellsInt hf with ⟨hcs,_⟩|⟨x,l,c,zs,hcs,_,hl,hm,hz,hx,hcell,hwz⟩
 ·simp at hcs;exact⟨none,0,0,[],hcs,rfl,by omega,fun k hk=>absurd hk (by omega)⟩
 ·simp at hcs;have hz':zs.length=c:=by simpa using hz
  have hlen:(zs.take l).length=l:=by simp;omega
  have hbd:=hb ((((zs.take l).length)+((zs.drop l).length))*8) (by rw[hx];simp[DataW.weights,Tryz.underlying22,bytesInt,lits]);refine⟨some x,l,c,zs.take l,hcs,hlen,?_,fun k hk=>?_⟩
  ·simp only[List.length_take,List.length_drop,reachBytes] at hbd;omega
  ·have hk':k<zs.length:=by omega
   have hc:=hcell k hk';obtain⟨b,o,sp⟩:=x;have hsp:sp=none:=by simpa[Addr.add] using World.cell?_spot (hcell 0 (by omega))
   subst hsp;have e:(zs.take l).getD k 0=zs.getD k 0:=by simp[List.getD_eq_getElem?_getD,List.getElem?_take,hk]
   refine⟨b,o,rfl,?_,?_⟩
   ·rw[e];have ha:(⟨b,o,none⟩:Addr).add k=⟨b,o+k,none⟩:=by
     by_cases h0:k=0
     ·simp[Addr.add,h0]
     ·simp[Addr.add,h0]
    rw[ha] at hc;exact hc
   ·rw[e];have hm':zs.getD k 0∈zs:=by
     rw[List.getD_eq_getElem?_getD,List.getElem?_eq_getElem hk'];simp
    have:=Go.Joins.in64_of_wf (hwz _ hm');simp only[I64];simp only[Go.Joins.In64] at this;omega
end

section
open Go.ChangeShapes Go.WideShapes Go.ChangeAt Go.RowKit
theorem cellsIns:Tryz.prog.cellsOf 57=8:=by kernel_rfl
theorem bytesIns:Tryz.prog.bytesOf 57=80:=by kernel_rfl
theorem cellsOp:Tryz.prog.cellsOf 55=1:=by kernel_rfl
theorem cellsInts:Tryz.prog.cellsOf 22=1:=by kernel_rfl
theorem cellsInsS:Tryz.prog.cellsOf 59=1:=by kernel_rfl
theorem cellsTerm:Tryz.prog.cellsOf 66=4:=by kernel_rfl
theorem cellsKind:Tryz.prog.cellsOf 63=1:=by kernel_rfl
theorem cellsTo:Tryz.prog.cellsOf 64=2:=by kernel_rfl
theorem cellsBlock:Tryz.prog.cellsOf 71=5:=by kernel_rfl
theorem list_of{α:Type}(n:Nat)(R:Nat→α→Prop)(h:∀i,i<n→∃x,R i x):∃l:List α,l.length=n∧∀i x,l[i]? =some x→R i x:=by
 induction n with
 |zero=>exact⟨[],rfl,fun i x hx=>by simp at hx⟩
 |succ n ih=>
  obtain⟨l,hl,hr⟩:=ih (fun i hi=>h i (by omega));obtain⟨x,hx⟩:=h n (by omega);refine⟨l++ [x],by simp[hl],fun i y hy=>?_⟩;by_cases hi:i<n
  ·rw[List.getElem?_append_left (by omega)] at hy;exact hr i y hy
  ·have hlt:=(List.getElem?_eq_some_iff.1 hy).1;simp[hl] at hlt;obtain rfl:i=n:=by omega
   rw[List.getElem?_append_right (by omega),hl,Nat.sub_self] at hy;simp at hy;subst hy;exact hx
theorem len8{α:Type}:∀{l:List α},l.length=8→∃v0 v1 v2 v3 v4 v5 v6 v7,l= [v0,v1,v2,v3,v4,v5,v6,v7]
 | [v0,v1,v2,v3,v4,v5,v6,v7],_=>⟨v0,v1,v2,v3,v4,v5,v6,v7,rfl⟩
theorem len5{α:Type}:∀{l:List α},l.length=5→∃v0 v1 v2 v3 v4,l= [v0,v1,v2,v3,v4]
 | [v0,v1,v2,v3,v4],_=>⟨v0,v1,v2,v3,v4,rfl⟩
theorem len3{α:Type}:∀{l:List α},l.length=3→∃v0 v1 v2,l= [v0,v1,v2]
 | [v0,v1,v2],_=>⟨v0,v1,v2,rfl⟩
theorem len2{α:Type}:∀{l:List α},l.length=2→∃v0 v1,l= [v0,v1]
 | [v0,v1],_=>⟨v0,v1,rfl⟩
section
variable {H:Type} {enc:TypeId×Value→H} {W:World}
theorem int_in{fuel:Nat}{v:Value}{t:TypeId}{o:Option (DataW H×List MemPlace)}{y:DataW H×List MemPlace}(ht:Tryz.prog.underlying t=some (.int .i64))(h:DataW.trod enc Tryz.prog W 0 (fun _=>true) true fuel t [v]=o)(ho:o=some y):∃n,v=.int .i64 n∧I64 n:=by
 obtain⟨n,e,_,hw⟩:=DataW.trod_int ht (h.trans ho)
 simp only[List.cons.injEq,and_true] at e
 have:=Go.Joins.in64_of_wf hw
 exact⟨n,e,this.1,this.2⟩
theorem intsC_in{fuel:Nat}{v:Value}{y:DataW H×List MemPlace}
  (hf:DataW.trod enc Tryz.prog W 0 (fun _=>true) true fuel 22 [v]=some y) (hb:∀n∈y.1.weights Tryz.prog 22,n≤reachBytes):
  ∃a len cap zs,v=.slice a len cap∧Ints W a len zs∧len≤cap:=by
 obtain⟨a,len,cap,zs,e,h⟩:=ints_in hf hb
 refine⟨a,len,cap,zs,e,h,?_⟩
 rcases open_ints Tryz.underlying22 Tryz.underlying3 cellsInt hf with ⟨hcs,_⟩|⟨x,l,c,zs',hcs,_,hl,_⟩
 ·simp at hcs;rw[e] at hcs;simp at hcs;omega
 ·simp at hcs;rw[e] at hcs;simp at hcs;omega
theorem ins_in{fuel:Nat}{cs:List Value}{y:DataW H×List MemPlace}(hf:DataW.trod enc Tryz.prog W 0 (fun _=>true) true fuel 57 cs=some y)(hb:∀n∈y.1.weights Tryz.prog 57,n≤reachBytes):
  ∃r:InsR,cs=insC r∧InsOK W r:=by
 obtain⟨ys,n,-,hy,hlen,hyl,hfs⟩:=DataW.trod_struct Tryz.underlying57 hf
 rw[cellsIns] at hlen
 obtain⟨v0,v1,v2,v3,v4,v5,v6,v7,rfl⟩:=len8 hlen
 obtain⟨y0,y1,y2,y3,y4,y5,y6,y7,rfl⟩:=len8 (show ys.length=8 from hyl)
 have g0:DataW.trod enc Tryz.prog W 0 (fun _=>true) true n 55 (([v0,v1,v2,v3,v4,v5,v6,v7].drop 0).take (Tryz.prog.cellsOf 55))=some y0:=hfs 0 _ rfl
 have g1:DataW.trod enc Tryz.prog W 0 (fun _=>true) true n 3 (([v0,v1,v2,v3,v4,v5,v6,v7].drop 1).take (Tryz.prog.cellsOf 3))=some y1:=hfs 1 _ rfl
 have g2:DataW.trod enc Tryz.prog W 0 (fun _=>true) true n 3 (([v0,v1,v2,v3,v4,v5,v6,v7].drop 2).take (Tryz.prog.cellsOf 3))=some y2:=hfs 2 _ rfl
 have g3:DataW.trod enc Tryz.prog W 0 (fun _=>true) true n 3 (([v0,v1,v2,v3,v4,v5,v6,v7].drop 3).take (Tryz.prog.cellsOf 3))=some y3:=hfs 3 _ rfl
 have g4:DataW.trod enc Tryz.prog W 0 (fun _=>true) true n 3 (([v0,v1,v2,v3,v4,v5,v6,v7].drop 4).take (Tryz.prog.cellsOf 3))=some y4:=hfs 4 _ rfl
 have g5:DataW.trod enc Tryz.prog W 0 (fun _=>true) true n 3 (([v0,v1,v2,v3,v4,v5,v6,v7].drop 5).take (Tryz.prog.cellsOf 3))=some y5:=hfs 5 _ rfl
 have g6:DataW.trod enc Tryz.prog W 0 (fun _=>true) true n 22 (([v0,v1,v2,v3,v4,v5,v6,v7].drop 6).take (Tryz.prog.cellsOf 22))=some y6:=hfs 6 _ rfl
 have g7:DataW.trod enc Tryz.prog W 0 (fun _=>true) true n 3 (([v0,v1,v2,v3,v4,v5,v6,v7].drop 7).take (Tryz.prog.cellsOf 3))=some y7:=hfs 7 _ rfl
 rw[cellsOp] at g0
 rw[cellsInt] at g1
 rw[cellsInt] at g2
 rw[cellsInt] at g3
 rw[cellsInt] at g4
 rw[cellsInt] at g5
 rw[cellsInts] at g6
 rw[cellsInt] at g7
 simp only[List.drop_succ_cons,List.drop_zero,List.take_succ_cons,List.take_zero] at g0 g1 g2 g3 g4 g5 g6 g7
 obtain⟨n0,rfl,i0⟩:=int_in Tryz.underlying55 g0 rfl
 obtain⟨n1,rfl,i1⟩:=int_in Tryz.underlying3 g1 rfl
 obtain⟨n2,rfl,i2⟩:=int_in Tryz.underlying3 g2 rfl
 obtain⟨n3,rfl,i3⟩:=int_in Tryz.underlying3 g3 rfl
 obtain⟨n4,rfl,i4⟩:=int_in Tryz.underlying3 g4 rfl
 obtain⟨n5,rfl,i5⟩:=int_in Tryz.underlying3 g5 rfl
 obtain⟨n7,rfl,i7⟩:=int_in Tryz.underlying3 g7 rfl
 obtain⟨a,len,cap,zs,rfl,hI,hc⟩:=intsC_in (y:=y6) g6 (fun q hq=>hb q (by rw[hy];simp[DataW.weights,DataW.weightsEach,Tryz.underlying57,hq]))
 exact⟨⟨⟨n0,n1,n2,n3,n4,n5,zs,n7⟩,a,len,cap⟩,rfl,hI,hc,i0,i1,i2,i3,i4,i5,i7⟩
theorem weights_all{e:TypeId}:∀{l:List (DataW H)} {d:DataW H},d∈l→∀q∈d.weights Tryz.prog e,q∈DataW.weightsAll Tryz.prog e l
 |x :: l,d,hd,q,hq=>by
  rw[DataW.weightsAll,List.mem_append];rcases List.mem_cons.1 hd with rfl|hd
  ·exact Or.inl hq
  ·exact Or.inr (weights_all hd q hq)
theorem insS_in{fuel:Nat}{v:Value}{y:DataW H×List MemPlace}(hf:DataW.trod enc Tryz.prog W 0 (fun _=>true) true fuel 59 [v]=some y)(hb:∀n∈y.1.weights Tryz.prog 59,n≤reachBytes):
  ∃a len cap rs,v=.slice a len cap∧InsS W a len rs∧len≤cap:=by
 rcases Go.Deep.open_slice Tryz.underlying59 hf with ⟨hcs,_⟩|⟨x,l,c,m,n,D,Pl,hcs,_,hl,hm,hmm,hx,hall⟩
 ·simp at hcs;exact⟨none,0,0,[],hcs,⟨Recs.nil _ _ _,fun r hr=>by cases hr⟩,by omega⟩
 ·simp at hcs;have hmm':m=c:=by simpa using hmm
  subst hmm';rw[cellsIns] at hall;have hbd:=hb ((l+(m-l))*80) (by rw[hx];simp[DataW.weights,Tryz.underlying59,bytesIns]);have hel:∀i,i<l→∃r:InsR,InsOK W r∧∀j,j<8→W.cell? ((x.add (i*8)).add j)=(insC r)[j]?:=fun i hi=>by
   obtain⟨cs',hc',ht'⟩:=hall i (by omega);obtain⟨_,_,hat⟩:=World.cells?_some hc'
   obtain⟨r,rfl,hok⟩:=ins_in ht' (fun q hq=>hb q (by
    rw[hx];simp only[DataW.weights,Tryz.underlying59,List.mem_cons,List.mem_append]
    exact Or.inr (Or.inl (weights_all (List.mem_map.2 ⟨i,List.mem_range.2 hi,rfl⟩) q hq))))
   exact⟨r,hok,hat⟩
  obtain⟨rs,hrl,hrs⟩:=list_of l _ hel;have hsp:0<l→x.spot=none:=fun h0=>by
   obtain⟨r,_,hat⟩:=hel 0 h0;have h1:=hat 0 (by omega);have h2:(insC r)[0]? =some (.int .i64 r.d.op):=rfl;rw[h2] at h1;have:=World.cell?_spot h1;simpa[Addr.add] using this
  refine⟨some x,l,m,rs,hcs,⟨⟨hrl,?_,fun k r hr=>?_⟩,fun r hr=>?_⟩,hl⟩
  ·simp only[reachBytes] at hbd;omega
  ·have hk:k<l:=by rw[←hrl];exact(List.getElem?_eq_some_iff.1 hr).1
   have hs:=hsp (by omega);obtain⟨b,o,sp⟩:=x;simp only at hs;subst hs;refine⟨b,o,rfl,fun j hj=>?_⟩;have:=(hrs k r hr).2 j hj
   rwa [addr_add,addr_add] at this
  ·obtain⟨k,hk,e⟩:=List.mem_iff_getElem.1 hr;exact(hrs k r (by rw[List.getElem?_eq_getElem hk,e])).1
theorem cellsFunc:Tryz.prog.cellsOf 25=2:=by kernel_rfl
theorem cellsBlocks:Tryz.prog.cellsOf 23=1:=by kernel_rfl
theorem bytesBlock:Tryz.prog.bytesOf 71=56:=by kernel_rfl
theorem blkE_in{fuel:Nat}{l:List Value}{y:DataW H×List MemPlace}(hf':DataW.trod enc Tryz.prog W 0 (fun _=>true) true fuel 71 l=some y)(hb:∀n∈y.1.weights Tryz.prog 71,n≤reachBytes):
  ∃b:BlkH,l=blkC b∧TermOK b.t∧∃rs,InsS W b.ia b.n rs:=by
 obtain⟨ys,n,-,hy,hlen,hyl,hfs⟩:=DataW.trod_struct Tryz.underlying71 hf'
 rw[cellsBlock] at hlen
 obtain⟨v0,v1,v2,v3,v4,rfl⟩:=len5 hlen
 obtain⟨y0,y1,rfl⟩:=len2 (show ys.length=2 from hyl)
 have g0:DataW.trod enc Tryz.prog W 0 (fun _=>true) true n 59 (([v0,v1,v2,v3,v4].drop 0).take (Tryz.prog.cellsOf 59))=some y0:=hfs 0 _ rfl
 have g1:DataW.trod enc Tryz.prog W 0 (fun _=>true) true n 66 (([v0,v1,v2,v3,v4].drop 1).take (Tryz.prog.cellsOf 66))=some y1:=hfs 1 _ rfl
 rw[cellsInsS] at g0
 rw[cellsTerm] at g1
 simp only[List.drop_succ_cons,List.drop_zero,List.take_succ_cons,List.take_zero] at g0 g1
 obtain⟨sa,ns,cs,rs,rfl,hI,hc⟩:=insS_in g0 (fun q hq=>hb q (by rw[hy];simp[DataW.weights,DataW.weightsEach,Tryz.underlying71,hq]))
 obtain⟨zs,n',-,hz,-,hzl,hgs⟩:=DataW.trod_struct Tryz.underlying66 g1
 obtain⟨z0,z1,z2,rfl⟩:=len3 (show zs.length=3 from hzl)
 have k0:DataW.trod enc Tryz.prog W 0 (fun _=>true) true n' 63 (([v1,v2,v3,v4].drop 0).take (Tryz.prog.cellsOf 63))=some z0:=hgs 0 _ rfl
 have k1:DataW.trod enc Tryz.prog W 0 (fun _=>true) true n' 3 (([v1,v2,v3,v4].drop 1).take (Tryz.prog.cellsOf 3))=some z1:=hgs 1 _ rfl
 have k2:DataW.trod enc Tryz.prog W 0 (fun _=>true) true n' 64 (([v1,v2,v3,v4].drop 2).take (Tryz.prog.cellsOf 64))=some z2:=hgs 2 _ rfl
 rw[cellsKind] at k0
 rw[cellsInt] at k1
 rw[cellsTo] at k2
 simp only[List.drop_succ_cons,List.drop_zero,List.take_succ_cons,List.take_zero] at k0 k1 k2
 obtain⟨us,n'',-,hu,-,hul,hus⟩:=DataW.trod_array Tryz.underlying64 k2
 obtain⟨u0,u1,rfl⟩:=len2 hul
 have t0:DataW.trod enc Tryz.prog W 0 (fun _=>true) true n'' 3 (([v3,v4].drop (0*Tryz.prog.cellsOf 3)).take (Tryz.prog.cellsOf 3))=some u0:=hus 0 (by omega)
 have t1:DataW.trod enc Tryz.prog W 0 (fun _=>true) true n'' 3 (([v3,v4].drop (1*Tryz.prog.cellsOf 3)).take (Tryz.prog.cellsOf 3))=some u1:=hus 1 (by omega)
 rw[cellsInt] at t0 t1
 simp only[Nat.zero_mul,Nat.one_mul,List.drop_succ_cons,List.drop_zero,List.take_succ_cons,List.take_zero] at t0 t1
 obtain⟨m1,rfl,i1⟩:=int_in Tryz.underlying63 k0 rfl
 obtain⟨m2,rfl,i2⟩:=int_in Tryz.underlying3 k1 rfl
 obtain⟨m3,rfl,i3⟩:=int_in Tryz.underlying3 t0 rfl
 obtain⟨m4,rfl,i4⟩:=int_in Tryz.underlying3 t1 rfl
 exact⟨⟨sa,ns,cs,⟨m1,m2,m3,m4⟩⟩,rfl,⟨i1,i2,i3,i4⟩,rs,hI⟩
theorem blks_in{fuel:Nat}{v:Value}{y:DataW H×List MemPlace}(hf:DataW.trod enc Tryz.prog W 0 (fun _=>true) true fuel 23 [v]=some y)(hb:∀n∈y.1.weights Tryz.prog 23,n≤reachBytes):
  ∃a len cap bs,v=.slice a len cap∧BlksX W a len bs∧len≤cap:=by
 rcases Go.Deep.open_slice Tryz.underlying23 hf with ⟨hcs,_⟩|⟨x,l,c,m,n,D,Pl,hcs,_,hl,hm,hmm,hx,hall⟩
 ·simp at hcs;exact⟨none,0,0,[],hcs,⟨⟨Recs.nil _ _ _,fun r hr=>by cases hr⟩,fun r hr=>by cases hr⟩,by omega⟩
 ·simp at hcs;have hmm':m=c:=by simpa using hmm
  subst hmm';rw[cellsBlock] at hall;have hbd:=hb ((l+(m-l))*56) (by rw[hx];simp[DataW.weights,Tryz.underlying23,bytesBlock]);have hel:∀i,i<l→∃b:BlkH,(TermOK b.t∧∃rs,InsS W b.ia b.n rs)∧∀j,j<5→W.cell? ((x.add (i*5)).add j)=(blkC b)[j]?:=fun i hi=>by
   obtain⟨cs',hc',ht'⟩:=hall i (by omega);obtain⟨_,_,hat⟩:=World.cells?_some hc'
   obtain⟨b,rfl,hok⟩:=blkE_in ht' (fun q hq=>hb q (by
    rw[hx];simp only[DataW.weights,Tryz.underlying23,List.mem_cons,List.mem_append]
    exact Or.inr (Or.inl (weights_all (List.mem_map.2 ⟨i,List.mem_range.2 hi,rfl⟩) q hq))))
   exact⟨b,hok,hat⟩
  obtain⟨bs,hrl,hrs⟩:=list_of l _ hel;have hsp:0<l→x.spot=none:=fun h0=>by
   obtain⟨r,_,hat⟩:=hel 0 h0;have h1:=hat 0 (by omega);have h2:(blkC r)[0]? =some (.slice r.ia r.n r.c):=rfl;rw[h2] at h1;have:=World.cell?_spot h1;simpa[Addr.add] using this
  have hmem:∀r∈bs,TermOK r.t∧∃rs,InsS W r.ia r.n rs:=fun r hr=>by
   obtain⟨k,hk,e⟩:=List.mem_iff_getElem.1 hr;exact(hrs k r (by rw[List.getElem?_eq_getElem hk,e])).1
  refine⟨some x,l,m,bs,hcs,⟨⟨⟨hrl,?_,fun k r hr=>?_⟩,fun r hr=>(hmem r hr).1⟩,fun r hr=>(hmem r hr).2⟩,hl⟩
  ·simp only[reachBytes] at hbd;omega
  ·have hk:k<l:=by rw[←hrl];exact(List.getElem?_eq_some_iff.1 hr).1
   have hs:=hsp (by omega);obtain⟨b,o,sp⟩:=x;simp only at hs;subst hs;refine⟨b,o,rfl,fun j hj=>?_⟩;have:=(hrs k r hr).2 j hj
   rwa [addr_add,addr_add] at this
theorem func_in{r:Go.Reach}{b0:Nat}{v:Value}{d:DataW H}{p:List MemPlace}(hv:Value.okWide Tryz.prog W r b0 25 v)(h:DataW.Trod enc Tryz.prog W 0 (fun _=>true) true 25 v d p)(hb:∀n∈d.weights Tryz.prog 25,n≤reachBytes):
  ∃pa pn pc ba bn bc bs,v=funcV pa pn pc ba bn bc∧(∃ps,Ints W pa pn ps)∧BlksX W ba bn bs:=by
 obtain⟨arr,rfl,hsz⟩:=okWide_struct Tryz.underlying25 hv
 rw[cellsFunc] at hsz
 obtain⟨fuel,hf⟩:=h
 obtain⟨l⟩:=arr
 have hf':DataW.trod enc Tryz.prog W 0 (fun _=>true) true fuel 25 l=some (d,p):=hf
 obtain⟨v0,v1,rfl⟩:=len2 (show l.length=2 from hsz)
 obtain⟨ys,n,-,hy,-,hyl,hfs⟩:=DataW.trod_struct Tryz.underlying25 hf'
 obtain⟨y0,y1,rfl⟩:=len2 (show ys.length=2 from hyl)
 have g0:DataW.trod enc Tryz.prog W 0 (fun _=>true) true n 22 (([v0,v1].drop 0).take (Tryz.prog.cellsOf 22))=some y0:=hfs 0 _ rfl
 have g1:DataW.trod enc Tryz.prog W 0 (fun _=>true) true n 23 (([v0,v1].drop 1).take (Tryz.prog.cellsOf 23))=some y1:=hfs 1 _ rfl
 rw[cellsInts] at g0
 rw[cellsBlocks] at g1
 simp only[List.drop_succ_cons,List.drop_zero,List.take_succ_cons,List.take_zero] at g0 g1
 simp only[Prod.mk.injEq] at hy
 obtain⟨pa,pn,pc,zs,rfl,hI,_⟩:=intsC_in g0 (fun q hq=>hb q (by rw[hy.1];simp[DataW.weights,DataW.weightsEach,Tryz.underlying25,hq]))
 obtain⟨ba,bn,bc,bs,rfl,hB,_⟩:=blks_in g1 (fun q hq=>hb q (by rw[hy.1];simp[DataW.weights,DataW.weightsEach,Tryz.underlying25,hq]))
 exact⟨pa,pn,pc,ba,bn,bc,bs,rfl,⟨zs,hI⟩,hB⟩
end
end

section
open Go.ChangeShapes Go.WideShapes Go.ChangeAt Go.RowKit
theorem cellsTile:Tryz.prog.cellsOf 77=3:=by kernel_rfl
theorem cellsTileKind:Tryz.prog.cellsOf 75=1:=by kernel_rfl
theorem bytesTile:Tryz.prog.bytesOf 77=40:=by kernel_rfl
section
variable {H:Type} {enc:TypeId×Value→H} {W:World}
theorem tileE_in{fuel:Nat}{l:List Value}{y:DataW H×List MemPlace}(hf':DataW.trod enc Tryz.prog W 0 (fun _=>true) true fuel 77 l=some y)(hb:∀n∈y.1.weights Tryz.prog 77,n≤reachBytes):
  ∃t:TileR,l=tileC t∧Ints W t.ba t.bn t.d.blocks∧t.bn≤t.bc∧I64 t.d.kind∧I64 t.d.parent:=by
 obtain⟨ys,n,-,hy,hlen,hyl,hfs⟩:=DataW.trod_struct Tryz.underlying77 hf'
 rw[cellsTile] at hlen
 obtain⟨v0,v1,v2,rfl⟩:=len3 hlen
 obtain⟨y0,y1,y2,rfl⟩:=len3 (show ys.length=3 from hyl)
 have g0:DataW.trod enc Tryz.prog W 0 (fun _=>true) true n 75 (([v0,v1,v2].drop 0).take (Tryz.prog.cellsOf 75))=some y0:=hfs 0 _ rfl
 have g1:DataW.trod enc Tryz.prog W 0 (fun _=>true) true n 3 (([v0,v1,v2].drop 1).take (Tryz.prog.cellsOf 3))=some y1:=hfs 1 _ rfl
 have g2:DataW.trod enc Tryz.prog W 0 (fun _=>true) true n 22 (([v0,v1,v2].drop 2).take (Tryz.prog.cellsOf 22))=some y2:=hfs 2 _ rfl
 rw[cellsTileKind] at g0
 rw[cellsInt] at g1
 rw[cellsInts] at g2
 simp only[List.drop_succ_cons,List.drop_zero,List.take_succ_cons,List.take_zero] at g0 g1 g2
 obtain⟨n0,rfl,i0⟩:=int_in Tryz.underlying75 g0 rfl
 obtain⟨n1,rfl,i1⟩:=int_in Tryz.underlying3 g1 rfl
 obtain⟨a,len,cap,zs,rfl,hI,hc⟩:=intsC_in (y:=y2) g2 (fun q hq=>hb q (by rw[hy];simp[DataW.weights,DataW.weightsEach,Tryz.underlying77,hq]))
 exact⟨⟨⟨n0,n1,zs⟩,a,len,cap⟩,rfl,hI,hc,i0,i1⟩
theorem tiles_in{fuel:Nat}{v:Value}{y:DataW H×List MemPlace}(hf:DataW.trod enc Tryz.prog W 0 (fun _=>true) true fuel 26 [v]=some y)(hb:∀n∈y.1.weights Tryz.prog 26,n≤reachBytes):
  ∃a len cap ls,v=.slice a len cap∧TilesOK W a len ls∧len≤cap:=by
 rcases Go.Deep.open_slice Tryz.underlying26 hf with ⟨hcs,_⟩|⟨x,l,c,m,n,D,Pl,hcs,_,hl,hm,hmm,hx,hall⟩
 ·simp at hcs;exact⟨none,0,0,[],hcs,⟨Recs.nil _ _ _,fun r hr=>by cases hr⟩,by omega⟩
 ·simp at hcs;have hmm':m=c:=by simpa using hmm
  subst hmm';rw[cellsTile] at hall;have hbd:=hb ((l+(m-l))*40) (by rw[hx];simp[DataW.weights,Tryz.underlying26,bytesTile]);have hel:∀i,i<l→∃t:TileR,(Ints W t.ba t.bn t.d.blocks∧t.bn≤t.bc∧I64 t.d.kind∧I64 t.d.parent)∧∀j,j<3→W.cell? ((x.add (i*3)).add j)=(tileC t)[j]?:=fun i hi=>by
   obtain⟨cs',hc',ht'⟩:=hall i (by omega);obtain⟨_,_,hat⟩:=World.cells?_some hc'
   obtain⟨b,rfl,hok⟩:=tileE_in ht' (fun q hq=>hb q (by
    rw[hx];simp only[DataW.weights,Tryz.underlying26,List.mem_cons,List.mem_append]
    exact Or.inr (Or.inl (weights_all (List.mem_map.2 ⟨i,List.mem_range.2 hi,rfl⟩) q hq))))
   exact⟨b,hok,hat⟩
  obtain⟨ls,hrl,hrs⟩:=list_of l _ hel;have hsp:0<l→x.spot=none:=fun h0=>by
   obtain⟨r,_,hat⟩:=hel 0 h0;have h1:=hat 0 (by omega);have h2:(tileC r)[0]? =some (.int .i64 r.d.kind):=rfl;rw[h2] at h1;have:=World.cell?_spot h1;simpa[Addr.add] using this
  refine⟨some x,l,m,ls,hcs,⟨⟨hrl,?_,fun k r hr=>?_⟩,fun r hr=>?_⟩,hl⟩
  ·simp only[reachBytes] at hbd;omega
  ·have hk:k<l:=by rw[←hrl];exact(List.getElem?_eq_some_iff.1 hr).1
   have hs:=hsp (by omega);obtain⟨b,o,sp⟩:=x;simp only at hs;subst hs;refine⟨b,o,rfl,fun j hj=>?_⟩;have:=(hrs k r hr).2 j hj
   rwa [addr_add,addr_add] at this
  ·obtain⟨k,hk,e⟩:=List.mem_iff_getElem.1 hr;exact(hrs k r (by rw[List.getElem?_eq_getElem hk,e])).1
end
end

section
open Go.ChangeShapes Go.WideShapes Go.ChangeAt Go.RowKit
abbrev laidL {H : Type} : List (String × DataW H) := [("math/bits.deBruijn64tab", Rows.laid_math_bits_deBruijn64tab)]
theorem gTab : Tryz.prog.globalNamed "math/bits.deBruijn64tab" = some 0 := by kernel_rfl
theorem tTab:(Tryz.prog.globals[0]?).map (·.type)=some 366:=by kernel_rfl
theorem tab_data{H:Type}:(Rows.laid_math_bits_deBruijn64tab:DataW H)=Lib.tabData .u8 (Lib.deBruijn64tab.map fun k:Nat=>(k:Int)):=by rfl
theorem tab_of_laid{W:World}(h:laidMetH Tryz.prog laidL W):Tab W:=by
 rw[MakeChecks.laidMetH_plain _ _ _ (by kernel_rfl)] at h
 obtain⟨ps,⟨g0,t0,cs0,f0,p0,q0,hg0,ht0,hv0,hd0,_⟩,_⟩:=h
 obtain rfl:=Option.some.inj (gTab.symm.trans hg0)
 obtain rfl:=Option.some.inj (tTab.symm.trans ht0)
 rw[tab_data] at hd0
 have hc:=Lib.cells_of_tab (k:=.u8) Tryz.underlying366 Tryz.underlying5 (by kernel_rfl) (by kernel_rfl) hd0
 intro j hj
 have:=World.var?_cell hg0 hv0 j
 rw[this]
 obtain⟨l0⟩:=cs0
 have e:l0=(Lib.deBruijn64tab.map fun k:Nat=>(k:Int)).map fun z=>Value.int .u8 z:=hc
 subst e
 simp[List.getD_eq_getElem?_getD,hj]
theorem door_met(os:Os)(args:Array Value):laidMetH Tryz.prog laidL ((World.doorLaid Tryz.prog 14 os).forCall (fun _ _=>0) ⟨#[],args,[]⟩).memory:=
 laidMetH_of_parts3 (fuel:=8) (laidMet_of_run' 8 (by kernel_rfl) (by kernel_rfl)) (by kernel_rfl) (by kernel_rfl)
end
end Go.Proofs.YthgebcfohnlhlaaGreatDoor
