/-
 Rows of the call's own,many at a time:what an append keeps,what a store keeps,which blocks may have turned. No program in sight.
-/
import Derived.Test.YthgebcfohnlhlaaGreatDoorPA
import Derived.Deep.DeepAppendRoom
import Derived.Maps.AppendAt
import Derived.ArgAppend
import Derived.Deep.Onto
import Derived.Test.YthgebcfohnlhlaaGreatDoorSI
import Derived.Test.YthgebcfohnlhlaaGreatDoorMark
namespace Go.Proofs.YthgebcfohnlhlaaGreatDoor
set_option linter.unusedSimpArgs false
set_option linter.unusedVariables false
set_option linter.unusedSectionVars false
set_option maxRecDepth 100000
set_option maxHeartbeats 40000000
section
open Go.RowKit
structure Chg(S:Nat→Prop)(w w':World):Prop where
 os:w'.os=w.os
 tape:w'.tape=w.tape
 output:w'.output=w.output
 size:w.heap.size≤w'.heap.size
 block:∀k,k<w.heap.size→¬S k→w'.heap[k]? =w.heap[k]?
theorem Chg.refl(S:Nat→Prop)(w:World):Chg S w w:=⟨rfl,rfl,rfl,Nat.le_refl _,fun _ _ _=>rfl⟩
theorem Chg.trans{S:Nat→Prop}{a b c:World}(h:Chg S a b)(k:Chg S b c):Chg S a c:=
 ⟨k.os.trans h.os,k.tape.trans h.tape,k.output.trans h.output,Nat.le_trans h.size k.size,fun i hi hn=>(k.block i (Nat.lt_of_lt_of_le hi h.size) hn).trans (h.block i hi hn)⟩
theorem Chg.grown{S:Nat→Prop}{a w w':World}{row:Option Nat}(h:Chg S a w)(hg:w.grownBy w' row)(hr:∀k,row=some k→S k∨a.heap.size≤k):Chg S a w':=
 ⟨hg.os.trans h.os,hg.tape.trans h.tape,hg.output.trans h.output,Nat.le_trans h.size hg.size,fun k hk hn=>(hg.block k (Nat.lt_of_lt_of_le hk h.size) (fun e=>by
  rcases hr k e.symm with h1|h1
  ·exact hn h1
  ·omega)).trans (h.block k hk hn)⟩
theorem Chg.setCell{S:Nat→Prop}{a w:World}(h:Chg S a w){p:Addr}(hp:S p.block∨a.heap.size≤p.block)(u:Value):Chg S a (w.setCell p u):=
 ⟨h.os,h.tape,h.output,Nat.le_trans h.size (by simp[World.setCell]),fun k hk hn=>(Below.heap_setCell w p u k (fun e=>by
  subst e;rcases hp with h1|h1
  ·exact hn h1
  ·omega)).trans (h.block k hk hn)⟩
theorem Chg.mono{S T:Nat→Prop}{a w:World}(h:Chg S a w)(hs:∀k,S k→T k):Chg T a w:=⟨h.os,h.tape,h.output,h.size,fun k hk hn=>h.block k hk (fun hk'=>hn (hs k hk'))⟩
theorem Chg.below{S:Nat→Prop}{a w:World}{B:Nat}(h:Chg S a w)(hB:B≤a.heap.size)(hs:∀k,S k→B≤k):Below B a w:=
 ⟨h.os,h.tape,h.output,h.size,fun k hk=>h.block k (by omega) (fun hk'=>by have:=hs k hk';omega)⟩
theorem Chg.of_ext{S:Nat→Prop}{a b c:World}(h:Chg S a b)(hb:Below b.heap.size b c):Chg S a c:=h.trans ⟨hb.os,hb.tape,hb.output,hb.size,fun k hk _=>hb.block k hk⟩
theorem ownsRow_chg{S:Nat→Prop}{w w':World}{base:Nat}{e:TypeId}{size:Nat}{v:Value}{n:Nat}{xs:List Value}(h:w.ownsRow base e size v n xs)(hc:Chg S w w')(hn:∀g,v.ownBlock=some g→¬S g):w'.ownsRow base e size v n xs:=by
 refine⟨h.1,?_⟩
 rcases h.2 with h2|⟨g,cap,cur,rfl,hb,hh,r⟩
 ·exact .inl h2
 ·exact .inr ⟨g,cap,cur,rfl,hb,(hc.block g (Array.getElem?_eq_some_iff.1 hh).1 (hn g rfl)).trans hh,r⟩
section
variable {P:Program} {Q:Exit→Act→World→Prop}
end
end

section
open Go.RowKit
def QueI(w:World)(base:Nat)(v:Value)(xs:List Int):Prop:=
 ∃g o cap cur,v=.slice (some ⟨g,o,none⟩) xs.length cap∧base≤g∧xs.length≤cap∧cap≤maxLen∧w.heap[g]? =some (.cells cur 3 (0,0))∧o+cap≤cur.size∧
  (∀k,k<xs.length→cur[o+k]? =some (.int .i64 (xs.getD k 0)))∧(∀x∈xs,I64 x)∧xs.length≤17592186044416
section
variable {w w':World} {base:Nat} {v:Value} {xs:List Int}
theorem QueI.form(h:QueI w base v xs):∃g o cap,v=.slice (some ⟨g,o,none⟩) xs.length cap∧xs.length≤cap∧cap≤maxLen∧Ints w (some ⟨g,o,none⟩) xs.length xs:=by
 obtain⟨g,o,cap,cur,rfl,h1,h2,h3,h4,h5,h6,h7,h8⟩:=h
 refine⟨g,o,cap,rfl,h2,h3,rfl,h8,fun k hk=>⟨g,o,rfl,?_,h7 _ ?_⟩⟩
 ·rw[cell_of_row _ _ _ _ _ _ h4];exact h6 k hk
 ·rw[List.getD_eq_getElem?_getD,List.getElem?_eq_getElem hk];exact List.getElem_mem _
theorem QueI.low{k:Nat}(h:QueI w base v xs)(hk:v.ownBlock=some k):base≤k∧k<w.heap.size:=by
 obtain⟨g,o,cap,cur,rfl,h1,h2,h3,h4,_⟩:=h
 simp only[Value.ownBlock,Option.some.injEq] at hk
 subst hk
 exact⟨h1,(Array.getElem?_eq_some_iff.1 h4).1⟩
theorem QueI.chg{S:Nat→Prop}(h:QueI w base v xs)(hc:Chg S w w')(hn:∀k,v.ownBlock=some k→¬S k):QueI w' base v xs:=by
 obtain⟨g,o,cap,cur,rfl,h1,h2,h3,h4,h5⟩:=h
 exact⟨g,o,cap,cur,rfl,h1,h2,h3,(hc.block g (Array.getElem?_eq_some_iff.1 h4).1 (hn g rfl)).trans h4,h5⟩
theorem QueI.ext(h:QueI w base v xs)(hb:Below w.heap.size w w'):QueI w' base v xs:=h.chg (S:=fun _=>False) ⟨hb.os,hb.tape,hb.output,hb.size,fun k hk _=>hb.block k hk⟩ fun _ _ e=>e
theorem QueI.of_own{g n c:Nat}(h:OwnI w base (.slice (some ⟨g,0,none⟩) n c) xs):QueI w base (.slice (some ⟨g,0,none⟩) n c) xs:=by
 rcases h.1.2 with ⟨hv,_⟩|⟨g',cap,cur,hv,hb,hh,h1,h2,h3,h4⟩
 ·cases hv
 ·injection hv with e1 e2 e3;injection e1 with e1;injection e1 with e1 _ _;subst e1 e2 e3;refine⟨g,0,c,cur,rfl,hb,h1,h2,hh,by omega,fun k hk=>?_,h.2.1,h.2.2⟩;have h5:(cur.toList.take (xs.length*1))[k]? =(intVals xs)[k]?:=by rw[h4]
  rw[List.getElem?_take,if_pos (by omega)] at h5;rw[Nat.zero_add];rw[Array.getElem?_toList] at h5;rw[h5];simp[intVals,List.getD_eq_getElem?_getD,hk]
theorem QueI.tail{g o n c:Nat}{x:Int}(h:QueI w base (.slice (some ⟨g,o,none⟩) n c) (x :: xs)):QueI w base (.slice (some ⟨g,o+1,none⟩) xs.length (c-1)) xs:=by
 obtain⟨g',o',cap,cur,e,h1,h2,h3,h4,h5,h6,h7,h8⟩:=h
 injection e with e1 e2 e3
 injection e1 with e1
 injection e1 with e1 e4 _
 subst e1 e3 e4
 simp only[List.length_cons] at h2 h8
 refine⟨g,o+1,c-1,cur,rfl,h1,by omega,by omega,h4,by omega,fun k hk=>?_,fun z hz=>h7 z (by simp[hz]),by omega⟩
 have:=h6 (k+1) (by simp;omega)
 rw[show o+1+k=o+(k+1) by omega,this]
 simp
end
section
variable {P:Program} {Q:Exit→Act→World→Prop}
end
end

section
open Go.RowKit
theorem setCells_block(g:Nat)(e:TypeId):∀(vs:List Value) (w:World) (off:Nat) (cur:Array Value),w.heap[g]? =some (.cells cur e (0,0))→off+vs.length≤cur.size→
  ∃cur':Array Value,(w.setCells g off vs).heap[g]? =some (.cells cur' e (0,0))∧cur'.size=cur.size∧(∀j,j<vs.length→cur'[off+j]? =vs[j]?)∧(∀j,j<off→cur'[j]? =cur[j]?)∧w.grownBy (w.setCells g off vs) (some g)
 | [],w,off,cur,h,_=>⟨cur,h,rfl,fun j hj=>absurd hj (by simp),fun _ _=>rfl,rfl,rfl,rfl,Nat.le_refl _,fun _ _ _=>rfl⟩
 |v :: vs,w,off,cur,h,hl=>by
  simp only[List.length_cons] at hl;have h1:=heap_setCell_same w g off _ _ v h;obtain⟨cur',h2,h3,h4,h5,h6⟩:=setCells_block g e vs (w.setCell ⟨g,off,none⟩ v) (off+1) _ h1 (by simp;omega);refine⟨cur',h2,by simpa using h3,fun j hj=>?_,fun j hj=>?_,?_⟩
  ·cases j with
   |zero=>
    rw[Nat.add_zero,h5 off (by omega),Array.getElem?_setIfInBounds,if_pos rfl,if_pos (by omega)];rfl
   |succ j=>
    rw[show off+(j+1)=off+1+j by omega,h4 j (by simpa using hj)];rfl
  ·rw[h5 j (by omega),Array.getElem?_setIfInBounds,if_neg (by omega)]
  ·refine⟨h6.os,h6.tape,h6.output,Nat.le_trans (by simp) h6.size,fun k hk hne=>?_⟩;have hkg:k≠g:=fun e=>hne (by rw[e]);exact(h6.block k (by simpa using hk) hne).trans (Below.heap_setCell _ _ _ _ (fun e=>hkg e))
section
variable {P:Program} {Q:Exit→Act→World→Prop}
theorem run_append_queS(w:World)(base:Nat)(t ty:TypeId)(z:Value)(bytes:Nat)(ht:P.underlying t=some (.slice 3))(hinfo:(P.info? 3).map (fun i=>(i.zero,i.size,i.bytes))=some (some z,1,bytes))(hzs:z.cells.size=1)
  (v:Value) (xs:List Int) (h:QueI w base v xs) (A:Option Addr) (c:Nat) (ys:List Int) (hy:Ints w A ys.length ys) (hlen:xs.length≤1000000) (hly:ys.length≤1000000) (hb8:bytes≤16) (hbase:base≤w.heap.size):
  ∃v' w',(Builtin.append_ #[t,t] ty #[v,.slice A ys.length c]).run P w=.ok v' w'∧QueI w' base v' (xs++ys)∧w.grownBy w' v.ownBlock∧(v'.ownBlock=v.ownBlock∨∃k,v'.ownBlock=some k∧w.heap.size≤k):=by
 obtain⟨i,hi,hz,hsize,hby⟩:=info_parts hinfo
 have hyI:∀q∈ys,I64 q:=fun q hq=>by
  obtain⟨k,hk,rfl⟩:=List.mem_iff_getElem.1 hq;obtain⟨_,_,_,_,hi⟩:=hy.2.2 k hk;rw[List.getD_eq_getElem?_getD,List.getElem?_eq_getElem hk] at hi;exact hi
 cases ys with
 |nil=>
  obtain⟨g,o,cap,cur,rfl,h1,h2,h3,h4,h5⟩:=id h;refine⟨.slice (some ⟨g,o,none⟩) xs.length cap,w,?_,by simpa using h,⟨rfl,rfl,rfl,Nat.le_refl _,fun _ _ _=>rfl⟩,.inl rfl⟩;cases A with
  |none=>simp[Builtin.append_,run_underlying ht,sizeOf,typeInfo,hi,Builtin.lenOf,Builtin.firstCells,h2,storeCells]
  |some ad=>
   have:=run_append_room_cells (P:=P) w t ty 3 i ht hi g o xs.length cap ad 0 c [] (by simp) (fun j u hu=>by simp at hu) (fun u hu=>by cases hu) (by omega) (fun j hj=>absurd hj (by simp)) (fun j hj=>absurd hj (by simp));simpa[World.setCells] using this
 |cons y0 ys0=>
  generalize hys:y0 :: ys0=ys at *;have hpos:0<ys.length:=by rw[←hys];simp
  obtain⟨ga,oa,rfl,_,_⟩:=hy.2.2 0 hpos;have hnews:∀j u,(intVals ys)[j]? =some u→w.cell? ((⟨ga,oa,none⟩:Addr).add j)=some u:=fun j u hu=>by
   have hj:j<ys.length:=by have:=(List.getElem?_eq_some_iff.1 hu).1;simpa[intVals] using this
   obtain⟨b,o,e,hc,_⟩:=hy.2.2 j hj;injection e with e;injection e with e1 e2 _;subst e1 e2;have:(⟨ga,oa,none⟩:Addr).add j=⟨ga,oa+j,none⟩:=by unfold Addr.add;split<;>simp_all
   rw[this,hc,←hu];simp[intVals,List.getD_eq_getElem?_getD,hj]
  obtain⟨g,o,cap,cur,rfl,h1,h2,h3,h4,h5,h6,h7,h8⟩:=h;have hlv:(intVals ys).length=ys.length:=by simp[intVals]
  have hone:∀u∈intVals ys,u.oneCell'=true:=fun u hu=>by
   simp only[intVals,List.mem_map] at hu;obtain⟨q,_,rfl⟩:=hu;rfl
  by_cases hr:xs.length+ys.length≤cap
  ·have hsz:o+xs.length+(intVals ys).length≤cur.size:=by omega
   obtain⟨cur',k1,k2,k3,k4,k5⟩:=setCells_block g 3 (intVals ys) w (o+xs.length) cur h4 hsz;refine⟨_,_,run_append_room_cells (P:=P) w t ty 3 i ht hi g o xs.length cap ⟨ga,oa,none⟩ ys.length c (intVals ys) (by rw[hsize,hlv];omega) hnews hone hr (fun j hj=>?_) (fun j hj=>frozen_of_row _ _ _ _ _ h4),?_,?_,.inl rfl⟩
   ·rw[cell_of_row _ _ _ _ _ _ h4,hsize,Array.getElem?_eq_getElem (by omega)];rfl
   ·rw[hsize,Nat.mul_one];refine⟨g,o,cap,cur',by simp,h1,by simp;omega,h3,k1,by omega,fun k hk=>?_,fun q hq=>?_,by simp;omega⟩
    ·simp only[List.length_append] at hk;by_cases e:k<xs.length
     ·rw[k4 (o+k) (by omega),h6 k e];simp[List.getD_eq_getElem?_getD,List.getElem?_append_left e]
     ·obtain⟨j,rfl⟩:∃j,k=xs.length+j:=⟨k-xs.length,by omega⟩
      have hj:j<ys.length:=by omega
      rw[←Nat.add_assoc,k3 j (by omega)];simp[intVals,List.getD_eq_getElem?_getD,List.getElem?_append_right,hj]
    ·rcases List.mem_append.1 hq with hq|hq
     ·exact h7 q hq
     ·exact hyI q hq
   ·rw[hsize,Nat.mul_one];exact k5
  ·have holds:∀j u,(intVals xs)[j]? =some u→w.cell? ((⟨g,o,none⟩:Addr).add j)=some u:=fun j u hu=>by
    have hj:j<xs.length:=by have:=(List.getElem?_eq_some_iff.1 hu).1;simpa[intVals] using this
    have:(⟨g,o,none⟩:Addr).add j=⟨g,o+j,none⟩:=by unfold Addr.add;split<;>simp_all
    rw[this,cell_of_row _ _ _ _ _ _ h4,h6 j hj,←hu];simp[intVals,List.getD_eq_getElem?_getD,hj]
   obtain⟨v',w',hrun,hown,hgr⟩:=run_append_arg_grows (P:=P) w t ty 3 i z 1 bytes ht hi hz hsize hby hzs (by omega) ⟨g,o,none⟩ xs.length cap (intVals xs) (by simp[intVals]) holds ⟨ga,oa,none⟩ ys.length c (intVals ys) (by rw[hlv];omega) hnews (by omega) (by simp only[maxLen];omega) (by
    have:(xs.length+ys.length)*bytes≤(xs.length+ys.length)*16:=Nat.mul_le_mul_left _ hb8
    omega)
   obtain⟨g2,c2,rfl⟩:∃g2 c2,v'=.slice (some ⟨g2,0,none⟩) (xs.length+ys.length) c2:=by
    rcases hown.2 with ⟨_,h0⟩|⟨g2,c2,cur,hv,_⟩
    ·omega
    ·exact⟨g2,c2,hv⟩
   refine⟨_,w',hrun,?_,⟨hgr.os,hgr.tape,hgr.output,hgr.size,fun k hk _=>hgr.block k hk (fun e=>by cases e)⟩,.inr ⟨g2,rfl,(hown.lt g2 rfl).1⟩⟩;have:OwnI w' base (.slice (some ⟨g2,0,none⟩) (xs++ys).length c2) (xs++ys):=by
    refine⟨?_,fun q hq=>?_,by simp;omega⟩
    ·have e:intVals (xs++ys)=intVals xs++intVals ys:=by simp[intVals]
     rw[e,List.length_append];exact hown.mono hbase
    ·rcases List.mem_append.1 hq with hq|hq
     ·exact h7 q hq
     ·exact hyI q hq
   have h9:=QueI.of_own this
   rwa [List.length_append] at h9
theorem wpList_append_queS{ops:Array Oper}{rest:List Oper}{o:Oper}{a:Act}(hgd:o.guard=none)(w:World)(s x:Operand)(t:TypeId)(ho:o.op=.call {callee:=.builtin .append,args:=#[s,x],argTypes:=#[t,t]})
  (base:Nat) (z:Value) (bytes:Nat) (ht:P.underlying t=some (.slice 3)) (hinfo:(P.info? 3).map (fun i=>(i.zero,i.size,i.bytes))=some (some z,1,bytes)) (hzs:z.cells.size=1)
  (v:Value) (xs:List Int) (hs:a.eval s=v) (hq:QueI w base v xs) (A:Option Addr) (c:Nat) (ys:List Int) (hy:Ints w A ys.length ys) (hx:a.eval x=.slice A ys.length c) (hlen:xs.length≤1000000) (hly:ys.length≤1000000) (hb8:bytes≤16) (hbase:base≤w.heap.size)
  (h:∀v' w',QueI w' base v' (xs++ys)→w.grownBy w' v.ownBlock→(v'.ownBlock=v.ownBlock∨∃k,v'.ownBlock=some k∧w.heap.size≤k)→wpList P ops Q rest (a.put o.dst v') w'):
  wpList P ops Q (o :: rest) a w:=by
 refine wpList_plain hgd fun K hK=>?_
 obtain⟨v',w',hrun,h2,h3,h4⟩:=run_append_queS (P:=P) w base t o.type z bytes ht hinfo hzs v xs hq A c ys hy hlen hly hb8 hbase
 unfold Oper.wp execOp
 simp only[ho,resolve,invoke,builtin,Sem.run_bind,Sem.run_pure,Result.andThen_ok,List.map_toArray,List.map_cons,List.map_nil,hs,hx,hrun]
 exact hK _ _ (h v' w' h2 h3 h4)
end
end

section
open Go.RowKit
abbrev blO(n:Nat)(f:Nat→Bool):Obj:=.cells (arrN n fun k=>.bool (f k)) 4 (0,0)
theorem bl_made(n:Nat):madeCells #[.bool false] n=arrN n fun _=>.bool false:=by
 apply Array.ext_getElem?
 intro j
 by_cases hj:j<n
 ·simp[madeCells,arrN,hj,Nat.mod_one]
 ·rw[Array.getElem?_eq_none (by simp[madeCells];omega),Array.getElem?_eq_none (by simp[arrN];omega)]
theorem infoBl:(Tryz.prog.info? 4).map (fun i=>(i.zero,i.size,i.bytes))=some (some (.bool false),1,1):=by kernel_rfl
def bkL(b:BlkR):BkL:=⟨b.rs.map fun r=>⟨readsI r.d,definesV r.d⟩,needsT b.h.t,(toD b.h.t).map Int.toNat⟩
def bksL(bs:List BlkR):List BkL:=bs.map bkL
theorem bksL_len(bs:List BlkR):(bksL bs).length=bs.length:=by simp[bksL]
theorem bksL_at{bs:List BlkR}{k:Nat}{b:BlkR}(h:bs[k]? =some b):bkOf (bksL bs) k=bkL b:=by
 simp[bkOf,bksL,List.getD_eq_getElem?_getD,h]
def toOne(n:Nat)(b:BlkR):Bool:=(toD b.h.t).all fun x=>decide (1≤x∧x<(n:Int))
def toIn(bs:List BlkR):Bool:=bs.all (toOne bs.length)
theorem toIn_ok{bs:List BlkR}(h:toIn bs=true):ToOK (bksL bs):=by
 intro b hb c hc
 rw[bksL_len] at hb⊢
 have hx:bs[b]? =some bs[b]:=List.getElem?_eq_getElem hb
 rw[bksL_at hx] at hc
 obtain⟨x,hx2,rfl⟩:=List.mem_map.1 hc
 have h1:=List.all_eq_true.1 h bs[b] (List.getElem_mem hb)
 have h2:=List.all_eq_true.1 h1 x hx2
 simp only[decide_eq_true_eq] at h2
 omega
def ReachPost(bs:List BlkR)(w:World)(e:Ending)(w':World):Prop:=
 ((toIn bs=false∧e=.returned (.tuple #[.int .i64 0,.bool false]))∨(toIn bs=true∧∃k:Nat,e=.returned (.tuple #[.int .i64 k,.bool true])∧k≤bs.length∧(bs.length≤k↔∀b,b<bs.length→Reach0 (bksL bs) b)))∧Below w.heap.size w w'
theorem irReach_any(pa:Option Addr)(pn pc:Nat)(ba:Option Addr)(bn bc:Nat)(bs:List BlkR)(w:World)(h:BlksR w ba bn bs)(h0:0<bn)(h1:bn≤200):
  Calls Tryz.prog 70 #[funcV pa pn pc ba bn bc] w (ReachPost bs w):=by
 have HB:=Lib.hid h
 have HLb:=Lib.hid h.1.1
 clear h
 go_enter Tryz.func70,Tryz.ntmps70
 go_upto_region 1 with (fail)
 obtain⟨W0,hW0⟩:∃W0,W0=w.alloc (.cells #[.slice pa pn pc,.slice ba bn bc] 25):=⟨_,rfl⟩
 rw[←hW0]
 have hr0:W0.heap[w.heap.size]? =some (.cells #[.slice pa pn pc,.slice ba bn bc] 25):=by rw[hW0];exact heap_alloc_new _ _
 have hb0:Below w.heap.size w W0:=by rw[hW0];exact ext_alloc _ _
 have hs0:W0.heap.size=w.heap.size+1:=by rw[hW0];simp
 have f1:W0.cell? ⟨w.heap.size,1,none⟩=some (.slice ba bn bc):=by rw[cell_of_row _ _ _ _ _ _ hr0];rfl
 have hl0:=lt_of_heap hr0
 have hmk:=run_make_row' (P:=Tryz.prog) 208 4 (.bool false) 1 Tryz.underlying208 infoBl rfl .i64 .i64 bn (by omega) (by omega) W0
 rw[bl_made] at hmk
 have HR0:=Lib.hid hr0
 have HB0:=Lib.hid hb0
 have HS0:=Lib.hid hs0
 clear hr0 hb0 hs0 hW0
 go_upto_region 2 with (fail)
 obtain⟨W1,hW1⟩:∃W1,W1=W0.alloc (blO bn fun _=>false):=⟨_,rfl⟩
 have hr1:W1.heap[W0.heap.size]? =some (blO bn fun _=>false):=by rw[hW1];exact heap_alloc_new _ _
 have hb1:Below W0.heap.size W0 W1:=by rw[hW1];exact ext_alloc _ _
 rw[show W0.alloc (Obj.cells (arrN bn fun _=>Value.bool false) 4)=W1 from hW1.symm]
 have HR1:=Lib.hid hr1
 have HF1:=Lib.hid (block_ext hb1 HR0.out)
 have HB1:=Lib.hid (ext_trans HB0.out hb1)
 have HHW:=Lib.hid hW1
 clear hmk f1 hl0 hr1 hb1 hW1 HR0 HB0
 rw[HS0.out] at HR1⊢
 have f1:W1.cell? ⟨w.heap.size,1,none⟩=some (.slice ba bn bc):=by rw[cell_of_row _ _ _ _ _ _ HF1.out];rfl
 have hl1:=lt_of_heap HF1.out
 go_wp2
 clear f1 hl1
 go_loopw [2,18] (fun s2 i wr=>∃k:Nat,i=.int .i64 k∧s2=.int .i64 0∧k≤bn∧Hid (wr.heap[w.heap.size]? =some (.cells #[.slice pa pn pc,.slice ba bn bc] 25))∧Hid (wr.heap[w.heap.size+1]? =some (blO bn fun _=>false))∧Hid (Below w.heap.size w wr)∧Hid (∀j x,j<k→bs[j]? =some x→toOne bn x=true)) (fun _ i _=>bn-(intOf i).toNat)
 case atStart=>exact⟨0,rfl,rfl,by omega,HF1,HR1,HB1,fun j x hj=>absurd hj (by omega)⟩
 case round=>
  obtain⟨k,rfl,rfl,hk,HF,HS,HBk,HK⟩:=hrel;clear HF1 HR1 HB1 HHW;by_cases hlt:k<bn
  ·obtain⟨r,b,o,hr,hok,rfl,c0,c1,c2,c3,c4⟩:=blksR_cells (HB.out.ext HBk.out) hlt;have HRR:=Lib.hid hr;have HOK:=Lib.hid hok;have hlt':(k:Int)<(bn:Int):=by omega
   clear hr hok;go_upto_region 5 with (fail)
   obtain⟨Wi,hWi⟩:∃Wi,Wi=wr.alloc (blkO r.h):=⟨_,rfl⟩
   have hri:Wi.heap[wr.heap.size]? =some (blkO r.h):=by rw[hWi];exact heap_alloc_new _ _
   have hbi:Below wr.heap.size wr Wi:=by rw[hWi];exact ext_alloc _ _
   rw[show wr.alloc (Obj.cells #[.slice r.h.ia r.h.n r.h.c,.int .i64 r.h.t.kind,.int .i64 r.h.t.a,.int .i64 r.h.t.t0,.int .i64 r.h.t.t1] 71)=Wi from hWi.symm];have t1:Wi.cell? ⟨wr.heap.size,1,none⟩=some (.int .i64 r.h.t.kind):=by rw[cell_of_row _ _ _ _ _ _ hri];rfl
   have t2:Wi.cell? ⟨wr.heap.size,2,none⟩=some (.int .i64 r.h.t.a):=by rw[cell_of_row _ _ _ _ _ _ hri];rfl
   have t3:Wi.cell? ⟨wr.heap.size,3,none⟩=some (.int .i64 r.h.t.t0):=by rw[cell_of_row _ _ _ _ _ _ hri];rfl
   have t4:Wi.cell? ⟨wr.heap.size,4,none⟩=some (.int .i64 r.h.t.t1):=by rw[cell_of_row _ _ _ _ _ _ hri];rfl
   have hli:=lt_of_heap hri;have HBI:=Lib.hid (ext_trans HBk.out hbi);have HFI:=Lib.hid (block_ext hbi HF.out);have HSI:=Lib.hid (block_ext hbi HS.out);clear hWi hri hbi c0 c1 c2 c3 c4 HF HS HBk
   go_wp2_with (
    (go_at_call 81
     refine(to_any r.h.t Wi HOK.out.1).mono ?_;rintro e w2 ⟨v,rfl,ho,hb⟩;obtain⟨va,vc,rfl⟩:=ho.form;have HV:=Lib.hid ho.ints;have HB2:=Lib.hid (ext_trans HBI.out hb);have HF2:=Lib.hid (block_ext hb HFI.out);have HS2:=Lib.hid (block_ext hb HSI.out)
     clear ho hb t1 t2 t3 t4 hli))
   clear HBI HFI HSI;have hlen:=toD_len r.h.t;obtain⟨wq,rfl⟩:∃x,x=w2:=⟨_,rfl⟩
   go_loopw [2,8,26] (fun s2 _ i wi=>∃q:Nat,i=.int .i64 q∧s2=.int .i64 0∧q≤(toD r.h.t).length∧wi=wq∧Hid (∀j x,j<q→(toD r.h.t)[j]? =some x→1≤x∧x<(bn:Int))) (fun _ _ i _=>(toD r.h.t).length-(intOf i).toNat)
   case atStart=>exact⟨0,rfl,rfl,by omega,rfl,fun j x hj=>absurd hj (by omega)⟩
   case round=>
    obtain⟨q,rfl,rfl,hq,rfl,HQ⟩:=hrel;by_cases hql:q<(toD r.h.t).length
    ·obtain⟨x,hx⟩:∃x,(toD r.h.t)[q]? =some x:=⟨(toD r.h.t)[q],List.getElem?_eq_getElem hql⟩
     have hgd:(toD r.h.t).getD q 0=x:=by rw[List.getD_eq_getElem?_getD,hx];rfl
     obtain⟨b3,o3,rfl,hcx,hx1,hx2⟩:=HV.out.2.2 q hql;rw[hgd] at hcx hx1 hx2;have HX:=Lib.hid hx;have hql':(q:Int)<((toD r.h.t).length:Int):=by omega
     have f1:wr.cell? ⟨w.heap.size,1,none⟩=some (.slice (some ⟨b,o,none⟩) bn bc):=by rw[cell_of_row _ _ _ _ _ _ HF2.out];rfl
     have hl1:=lt_of_heap HF2.out;clear hx hgd
     have hno:¬(1≤x∧x<(bn:Int))→toIn bs=false:=fun hn=>List.all_eq_false.2 ⟨r,List.mem_of_getElem? HRR.out,by
      rw[toOne,Bool.not_eq_true,List.all_eq_false]
      exact⟨x,List.mem_of_getElem? HX.out,by rw[HLb.out];simpa using hn⟩⟩
     have HNO:=Lib.hid hno;clear hno;by_cases ha:x<1
     ·have HE:Hid (toIn bs=false):=HNO.out (by omega);go_wp2;refine bodyPost_ret (v:=.tuple #[.int .i64 0,.bool false]) (by simp[results,Tryz.results70,go_sem]) rfl ?_;exact⟨.inl ⟨HE.out,rfl⟩,HB2.out⟩
     ·by_cases hbx:x<(bn:Int)
      ·have hbx':¬(bn:Int)≤x:=by omega
       have HQ2:Hid (∀j y,j<q+1→(toD r.h.t)[j]? =some y→1≤y∧y<(bn:Int)):=fun j y hj hy=>by
        by_cases e:j=q
        ·subst e;rw[HX.out] at hy;cases hy;omega
        ·exact HQ.out j y (by omega) hy
       go_wp2
       go_roundw
       case rel=>exact⟨q+1,by go_num,rfl,by omega,trivial,HQ2⟩
       case measure=>simp[intOf];omega
      ·have HE:Hid (toIn bs=false):=HNO.out (by omega);have hbx':(bn:Int)≤x:=by omega
       go_wp2;refine bodyPost_ret (v:=.tuple #[.int .i64 0,.bool false]) (by simp[results,Tryz.results70,go_sem]) rfl ?_;exact⟨.inl ⟨HE.out,rfl⟩,HB2.out⟩
    ·have HK2:Hid (∀j x,j<k+1→bs[j]? =some x→toOne bn x=true):=fun j y hj hy=>by
      by_cases e:j=k
      ·subst e;rw[HRR.out] at hy;cases hy;rw[toOne,List.all_eq_true];intro x hx;obtain⟨q',hq',e'⟩:=List.mem_iff_getElem.1 hx;have:=HQ.out q' x (by omega) (by rw[List.getElem?_eq_getElem hq',e']);simpa using this
      ·exact HK.out j y (by omega) hy
     have hql':¬(q:Int)<((toD r.h.t).length:Int):=by omega
     go_wp2
     go_roundw
     case rel=>exact⟨k+1,by go_num,rfl,by omega,HF2,HS2,HB2,HK2⟩
     case measure=>simp[intOf];omega
  ·have HIN:Hid (toIn bs=true):=List.all_eq_true.2 fun x hx=>by
    obtain⟨j,hj,e⟩:=List.mem_iff_getElem.1 hx;rw[HLb.out];exact HK.out j x (by rw[HLb.out] at hj;omega) (by rw[List.getElem?_eq_getElem hj,e])
   have hlt':¬(k:Int)<(bn:Int):=by omega
   have hTO:=toIn_ok HIN.out;have HTO:=Lib.hid hTO;have hps:w.heap.size+2≤wr.heap.size:=by have:=lt_of_heap HS.out;omega
   clear hTO;go_wp2;obtain⟨W2,hW2⟩:∃W2,W2=wr.alloc (.cells #[.int .i64 0] 3):=⟨_,rfl⟩
   have hqI:QueI W2 (w.heap.size+2) (.slice (some ⟨wr.heap.size,0,none⟩) 1 1) (intsN [0]):=by
    rw[hW2];refine QueI.of_own ⟨⟨rfl,.inr ⟨wr.heap.size,1,#[.int .i64 0],rfl,hps,heap_alloc_new _ _,Nat.le_refl _,by decide,rfl,rfl⟩⟩,fun x hx=>?_,by simp[intsN]⟩;simp[intsN] at hx;subst hx;unfold I64;omega
   have hb2:Below wr.heap.size wr W2:=by rw[hW2];exact ext_alloc _ _
   rw[←hW2];have HQI:=Lib.hid hqI;have HF2:=Lib.hid (block_ext hb2 HF.out);have HS2:=Lib.hid (block_ext hb2 HS.out);have HB2:=Lib.hid (ext_trans HBk.out hb2);clear hqI hb2 hW2 HF HS HBk HK hlt hlt' hk hps
   go_loopg [2,9] (3*bn+1) (fun gg s2 s9 wx=>∃(cN:Nat) (seen:Nat→Bool) (q:List Nat),s2=.int .i64 cN∧cN≤bn∧3*bn+q.length≤gg+3*cN∧q.length≤2*cN+1∧Hid (cN=cnt bn seen)∧Hid (QueOK (bksL bs) seen q)∧Hid (QueI wx (w.heap.size+2) s9 (intsN q))∧Hid (wx.heap[w.heap.size]? =some (.cells #[.slice pa pn pc,.slice ba bn bc] 25))∧Hid (wx.heap[w.heap.size+1]? =some (blO bn seen))∧Hid (Below w.heap.size w wx))
   case atStart=>exact⟨0,fun _=>false,[0],rfl,by omega,by simp,by simp,by simp[Hid,cnt],QueOK.start (by rw[bksL_len,HLb.out];exact h0),HQI,HF2,HS2,HB2⟩
   case round=>
    obtain⟨cN,seen,q,rfl,hcn,hgg,hql,HC,HQO,HQ,HF,HS,HBk⟩:=hrel;clear HQI HF2 HS2 HB2;obtain⟨g,o,cap,rfl,hl1,hl2,hints⟩:=HQ.out.form;cases q with
    |nil=>
     have HRA:=Lib.hid (reach_all HQO.out);go_wp2;refine bodyPost_ret (v:=.tuple #[.int .i64 cN,.bool true]) (by simp[results,Tryz.results70,go_sem]) rfl ?_;refine⟨.inr ⟨HIN.out,cN,rfl,by rw[HLb.out];exact hcn,?_⟩,HBk.out⟩;have h9:=HRA.out;rw[bksL_len,HLb.out] at h9;rw[HLb.out,HC.out];exact h9
    |cons x q'=>
     have hst:intsN (x :: q')=(x:Int) :: intsN q':=rfl;have hxr:x<bn:=by have:=HQO.out.lt x (by simp);rwa [bksL_len,HLb.out] at this
     have h8:=HQ.out;rw[hst] at h8;rw[hst] at hints hl1;have hlen2:(intsN q').length=q'.length:=by simp[intsN]
     have hlen':((x:Int) :: intsN q').length=q'.length+1:=by simp[intsN]
     have hpop:=h8.tail;obtain⟨b1,o1,e1,hx0,_⟩:=hints.2.2 0 (by simp);injection e1 with e1;injection e1 with e1 e2;subst e1 e2;rw[Nat.add_zero] at hx0;have hx0':wr.cell? ⟨g,o,none⟩=some (.int .i64 (x:Int)):=hx0;rw[hlen'] at hl1;rw[hlen2] at hpop;rw[hst,hlen'];simp only[List.length_cons] at hql hgg;have hcc:(cap=1∧q'= [])∨∃c2,cap=c2+2:=by
      by_cases e:cap=1
      ·exact .inl ⟨e,List.eq_nil_of_length_eq_zero (by omega)⟩
      ·exact .inr ⟨cap-2,by omega⟩
     have hpop1:cap=1→q'= []→QueI wr (w.heap.size+2) (.slice (some ⟨g,o,none⟩) 0 0) (intsN []):=fun e1 e2=>by
      obtain⟨g',o',cap',cur,e,k1,k2,k3,k4,k5,k6,k7,k8⟩:=h8;injection e with e1 e2 e3;injection e1 with e1;injection e1 with e1 e4 _;subst e1 e3 e4;exact⟨g,o,0,cur,rfl,k1,by simp[intsN],by simp[maxLen],k4,by omega,fun k hk=>by simp[intsN] at hk,fun z hz=>by simp[intsN] at hz,by simp[intsN]⟩
     unfold maxLen at hl2;have hsc:wr.cell? ⟨w.heap.size+1,x,none⟩=some (.bool (seen x)):=by rw[cell_of_row _ _ _ _ _ _ HS.out,arr_at _ _ _ hxr]
     have hsf:wr.frozen? ⟨w.heap.size+1,x,none⟩=false:=frozen_of_row _ _ _ _ _ HS.out;have hxr':(x:Int)<(bn:Int):=by omega
     have hls:=lt_of_heap HS.out;cases hsx:seen x with
     |true=>
      rw[hsx] at hsc;have HQN:=Lib.hid (HQO.out.skip hsx);rcases hcc with ⟨rfl,hs0⟩|⟨c2,rfl⟩
      ·have HQP:=Lib.hid (hpop1 rfl hs0);subst hs0;clear h8 hpop hpop1 hst hlen2 hlen' hints hx0;simp only[List.length_nil,Nat.zero_add] at hl1 hgg hql⊢;go_wp2
       go_roundg (3*bn-3*cN)
       case measure=>omega
       case rel=>exact⟨cN,seen,[],rfl,hcn,by simp;omega,by simp,HC,HQN,HQP,HF,HS,HBk⟩
      ·have HQP:=Lib.hid hpop;clear h8 hpop hpop1 hst hlen2 hlen' hints hx0;go_wp2
       go_roundg (3*bn+q'.length-3*cN)
       case measure=>omega
       case rel=>exact⟨cN,seen,q',rfl,hcn,by omega,by omega,HC,HQN,HQP,HF,HS,HBk⟩
     |false=>
      rw[hsx] at hsc;have hcn1:cN+1≤bn:=by
       have h9:=cnt_put hxr hsx;have h10:=cnt_le bn fun k=>if k=x then true else seen k
       rw[HC.out];omega
      have HC1:Hid (cN+1=cnt bn fun k=>if k=x then true else seen k):=by rw[Hid,cnt_put hxr hsx,←HC.out]
      have HQN:=Lib.hid (HQO.out.put HTO.out);have HS1:Hid ((wr.setCell ⟨w.heap.size+1,x,none⟩ (.bool true)).heap[w.heap.size+1]? =some (blO bn fun k=>if k=x then true else seen k)):=by
       rw[Hid,heap_setCell_same _ _ _ _ _ _ HS.out,arr_put (g:=fun k=>.bool (if k=x then true else seen k)) (by simp) (fun k _ hk=>by simp[hk])]
      have HF1:Hid ((wr.setCell ⟨w.heap.size+1,x,none⟩ (.bool true)).heap[w.heap.size]? =some (.cells #[.slice pa pn pc,.slice ba bn bc] 25)):=by rw[Hid,Below.heap_setCell _ _ _ _ (by simp)];exact HF.out
      have HB1:Hid (Below w.heap.size w (wr.setCell ⟨w.heap.size+1,x,none⟩ (.bool true))):=HBk.out.setCell (by simp) _;obtain⟨r,b,o2,hr,hok,rfl,c0,c1,c2',c3,c4⟩:=blksR_cells (HB.out.ext HB1.out) hxr;have HTX:Hid (bkOf (bksL bs) x=bkL r):=bksL_at hr;have hto1:toOne bn r=true:=by
       have:=List.all_eq_true.1 HIN.out r (List.mem_of_getElem? hr)
       rwa [HLb.out] at this
      have HTI:Hid (intsN ((toD r.h.t).map Int.toNat)=toD r.h.t):=by
       show((toD r.h.t).map Int.toNat).map (fun k:Nat=>(k:Int))=toD r.h.t;rw[List.map_map]
       conv=>rhs;rw[←List.map_id (toD r.h.t)]
       refine List.map_congr_left fun y hy=>?_;have h9:=List.all_eq_true.1 hto1 y hy;simp only[decide_eq_true_eq] at h9;simp only[Function.comp,id];omega
      have hlto:=toD_len r.h.t;have HOK:=Lib.hid hok;have f1:(wr.setCell ⟨w.heap.size+1,x,none⟩ (.bool true)).cell? ⟨w.heap.size,1,none⟩=some (.slice (some ⟨b,o2,none⟩) bn bc):=by rw[cell_of_row _ _ _ _ _ _ HF1.out];rfl
      have hl3:=lt_of_heap HF1.out;have hwq:w.heap.size+2≤wr.heap.size:=by omega
      clear hr hok hto1;rcases hcc with ⟨rfl,hs0⟩|⟨c2,rfl⟩
      case' inl=>have HQP:=Lib.hid (show QueI wr (w.heap.size+2) (.slice (some ⟨g,o,none⟩) 0 0) (intsN q') by rw[hs0];exact hpop1 rfl hs0);clear hs0
      case' inr=>have HQP:=Lib.hid hpop
      all_goals
       have HQS:=Lib.hid (HQP.out.chg (S:=fun k=>k=w.heap.size+1) ((Chg.refl (fun k=>k=w.heap.size+1) wr).setCell (p:=⟨w.heap.size+1,x,none⟩) (.inl rfl) (.bool true)) (fun k hk e=>by have:=(HQP.out.low hk).1;omega));clear h8 hpop hpop1 hst hlen' hints hx0
       go_wp2_with (first
        |(go_at_call 81
          refine(to_any r.h.t (wr.setCell ⟨w.heap.size+1,x,none⟩ (.bool true)) HOK.out.1).mono ?_;rintro e w5 ⟨v,rfl,ho,hb5⟩;obtain⟨va,vc,rfl⟩:=ho.form;have HV:=Lib.hid ho.ints;have HQ5:=Lib.hid (HQS.out.ext hb5);have HB5:=Lib.hid (ext_trans HB1.out hb5);have HF5:=Lib.hid (block_ext hb5 HF1.out);have HS5:=Lib.hid (block_ext hb5 HS1.out);have hw5:w.heap.size+2≤w5.heap.size:=(by have:=lt_of_heap HS5.out;omega)
          clear ho hb5)
        |(at_builtin
          refine wpList_append_queS rfl w5 (.tmp 60) (.tmp 67) 22 rfl (w.heap.size+2) _ 8 Tryz.underlying22 infoI rfl _ (intsN q') rfl HQ5.out va vc (toD r.h.t) HV.out rfl (by omega) (by omega) (by omega) hw5 ?_;intro v6 w6 hq6 hg6 hb6;have HQ6:=Lib.hid hq6;have HG6:Hid (∀k,k<w.heap.size+2→w6.heap[k]? =w5.heap[k]?):=(fun k hk=>hg6.block k (by omega) (fun e=>by have:=(HQ5.out.low e.symm).1;omega))
          have HB6:Hid (Below w.heap.size w w6):=(HB5.out.grown hg6 (by omega) (fun k e=>by have:=(HQ5.out.low e).1;omega))
          clear hq6 hg6 hb6))
       have hto:(bkOf (bksL bs) x).to=(toD r.h.t).map Int.toNat:=by rw[HTX.out];rfl
       have hlq:(q'++(bkOf (bksL bs) x).to).length≤q'.length+2:=by rw[hto,List.length_append,List.length_map];omega
       go_roundg (3*bn+(q'++(bkOf (bksL bs) x).to).length-3*(cN+1))
       case measure=>omega
       case rel=>
        refine⟨cN+1,_,q'++(bkOf (bksL bs) x).to,by go_num,hcn1,by omega,by omega,HC1,HQN,?_,(HG6.out _ (by omega)).trans HF5.out,(HG6.out _ (by omega)).trans HS5.out,HB6⟩;have h9:=HQ6.out;rw[←HTI.out,←hto] at h9;show QueI w6 (w.heap.size+2) v6 ((q'++(bkOf (bksL bs) x).to).map fun k:Nat=>(k:Int));rw[List.map_append];exact h9
end
end Go.Proofs.YthgebcfohnlhlaaGreatDoor
