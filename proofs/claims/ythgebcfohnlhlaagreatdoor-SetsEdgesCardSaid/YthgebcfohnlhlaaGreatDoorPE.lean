/-
 slices.Backward of instructions and of blocks. (Printed by gen_uf.py.)
-/
import Derived.Test.YthgebcfohnlhlaaGreatDoorSameG
import Derived.Test.YthgebcfohnlhlaaGreatDoorSI
import Derived.Test.YthgebcfohnlhlaaGreatDoorPD
namespace Go.Proofs.YthgebcfohnlhlaaGreatDoor
set_option linter.unusedSimpArgs false
set_option linter.unusedVariables false
set_option linter.unusedSectionVars false
set_option maxRecDepth 100000
set_option maxHeartbeats 40000000
section
open Go.RowKit Go.Shelf
attribute [local go_sem] Oper.semAt_some wide_fn wide_depth wide_fnR wide_depthR
def backL{α:Type}(l:List α):Nat→List (Nat×α)
 |0=> []
 |k+1=>match l[k]? with
  |some r=>(k,r) :: backL l k
  |none=>backL l k
theorem backL_step{α:Type}{l:List α}{k:Nat}{r:α}(h:l[k]? =some r):backL l (k+1)=(k,r) :: backL l k:=by
 show(match l[k]? with|some r=>(k,r) :: backL l k|none=>backL l k)=_
 rw[h]
theorem backIns_any(a:Option Addr)(n c:Nat)(w:World):Calls Tryz.prog 184 #[.slice a n c] w fun e w'=>e=.returned (.func (.func 254) #[] #[.pointer (some ⟨w.heap.size,0,none⟩)])∧w'=w.alloc (.cells #[.slice a n c] 59):=by
 go_enter Tryz.func184,Tryz.ntmps184
 go_wp2
 go_ret
 exact⟨rfl,rfl⟩
theorem enter_backIns(args:Array Value)(w:World):(callFunc 254 args).run Tryz.prog w=.ok (.enter 254 args) w:=enters_of Tryz.func254 (by kernel_rfl) rfl args w
def encBIns(x:Nat×InsR):Array Value:=#[.int .i64 (x.1:Int),insVR x.2]
theorem backIns_iterI(G:Nat)(a:Option Addr)(n c:Nat)(rs:List InsR)(hn:n≤17592186044416):IterI Tryz.prog 254 #[.pointer (some ⟨G,0,none⟩)] encBIns (backL rs n) (fun W=>W.cell? ⟨G,0,none⟩=some (.slice a n c)∧InsS W a n rs):=by
 intro l K Kx W hK hKx hInv hY h0
 refine callsIn_of_wp Tryz.func254 rfl trivial ?_ rfl
 simp only[Tryz.ntmps254,List.size_toArray,List.length_cons,List.length_nil,Nat.reduceAdd,Nat.reduceSub,Array.replicate_succ,Array.replicate_zero,List.push_toArray,List.append_toArray,List.nil_append,List.cons_append]
 have HY:=Lib.hid hY
 have HI:=Lib.hid hInv
 have hc0:=(hInv _ _ h0).1
 have H0:Hid (K (backL rs n) W):=h0
 clear hY hInv hK hKx h0
 gi_wp2
 gi_loopw [3] (fun i wr=>∃s:Nat,s≤n∧i=.int .i64 ((s:Int)-1)∧Hid (K (backL rs s) wr)) (fun i _=>(intOf i+1).toNat)
 case atStart=>exact⟨n,by omega,rfl,H0.out⟩
 case round=>
  obtain⟨s,hs,rfl,HK⟩:=hrel;clear hc0 H0;obtain⟨hc,hE⟩:=HI.out _ _ HK.out;by_cases hlt:0<s
  ·obtain⟨k,rfl⟩:∃k:Nat,s=k+1:=⟨s-1,by omega⟩
   have hkn:k<n:=by omega
   obtain⟨r,b,o,hr,hok,rfl,c0,c1,c2,c3,c4,c5,c6,c7⟩:=hE.cells hkn;have hst:=backL_step hr;rw[hst] at HK;obtain⟨fn,tmps,assign,body,hy,hR⟩:=HY.out ((k,r) :: backL rs k) (k,r) wr rfl HK.out;unfold encBIns at hy;have hT:nxL ((k,r) :: backL rs k) (k,r)=backL rs k:=rfl;rw[hT] at hR;have HR2:=Lib.hid hR;rw[show(((k+1:Nat):Int)-1)=(k:Int) by omega];clear hE hr hok hst hT hR HK
   gi_wp2
   refine HR2.out.mono ?_;rintro e W' (⟨rfl,hJ'⟩|⟨rfl,hX'⟩)
   ·have HK1:=Lib.hid hJ';clear hJ' hy HR2
    gi_wp2
    go_roundw
    case rel=>exact⟨k,by omega,rfl,HK1⟩
    case measure=>simp[intOf]
   ·have HX:=Lib.hid hX';clear hX' hy HR2
    gi_wp2
    exact bodyPost_ret (v:=.tuple #[]) (by simp[results,Tryz.results254,go_sem]) rfl ⟨⟨_,rfl⟩,Or.inr HX.out⟩
  ·obtain rfl:s=0:=by omega
   have hneg:((0:Nat):Int)-1<0:=by omega
   gi_wp2
   go_end0
   exact⟨⟨_,rfl⟩,Or.inl ⟨_,rfl,HK.out⟩⟩
theorem backBlk_any(a:Option Addr)(n c:Nat)(w:World):Calls Tryz.prog 179 #[.slice a n c] w fun e w'=>e=.returned (.func (.func 251) #[] #[.pointer (some ⟨w.heap.size,0,none⟩)])∧w'=w.alloc (.cells #[.slice a n c] 23):=by
 go_enter Tryz.func179,Tryz.ntmps179
 go_wp2
 go_ret
 exact⟨rfl,rfl⟩
theorem enter_backBlk(args:Array Value)(w:World):(callFunc 251 args).run Tryz.prog w=.ok (.enter 251 args) w:=enters_of Tryz.func251 (by kernel_rfl) rfl args w
def encBBlk(x:Nat×BlkR):Array Value:=#[.int .i64 (x.1:Int),(fun b:BlkR=>blkV b.h) x.2]
theorem backBlk_iterI(G:Nat)(a:Option Addr)(n c:Nat)(rs:List BlkR)(hn:n≤17592186044416):IterI Tryz.prog 251 #[.pointer (some ⟨G,0,none⟩)] encBBlk (backL rs n) (fun W=>W.cell? ⟨G,0,none⟩=some (.slice a n c)∧BlksR W a n rs):=by
 intro l K Kx W hK hKx hInv hY h0
 refine callsIn_of_wp Tryz.func251 rfl trivial ?_ rfl
 simp only[Tryz.ntmps251,List.size_toArray,List.length_cons,List.length_nil,Nat.reduceAdd,Nat.reduceSub,Array.replicate_succ,Array.replicate_zero,List.push_toArray,List.append_toArray,List.nil_append,List.cons_append]
 have HY:=Lib.hid hY
 have HI:=Lib.hid hInv
 have hc0:=(hInv _ _ h0).1
 have H0:Hid (K (backL rs n) W):=h0
 clear hY hInv hK hKx h0
 gi_wp2
 gi_loopw [3] (fun i wr=>∃s:Nat,s≤n∧i=.int .i64 ((s:Int)-1)∧Hid (K (backL rs s) wr)) (fun i _=>(intOf i+1).toNat)
 case atStart=>exact⟨n,by omega,rfl,H0.out⟩
 case round=>
  obtain⟨s,hs,rfl,HK⟩:=hrel;clear hc0 H0;obtain⟨hc,hE⟩:=HI.out _ _ HK.out;by_cases hlt:0<s
  ·obtain⟨k,rfl⟩:∃k:Nat,s=k+1:=⟨s-1,by omega⟩
   have hkn:k<n:=by omega
   obtain⟨r,b,o,hr,hok,rfl,c0,c1,c2,c3,c4⟩:=blksR_cells hE hkn;have hst:=backL_step hr;rw[hst] at HK;obtain⟨fn,tmps,assign,body,hy,hR⟩:=HY.out ((k,r) :: backL rs k) (k,r) wr rfl HK.out;unfold encBBlk at hy;have hT:nxL ((k,r) :: backL rs k) (k,r)=backL rs k:=rfl;rw[hT] at hR;have HR2:=Lib.hid hR;rw[show(((k+1:Nat):Int)-1)=(k:Int) by omega];clear hE hr hok hst hT hR HK
   gi_wp2
   refine HR2.out.mono ?_;rintro e W' (⟨rfl,hJ'⟩|⟨rfl,hX'⟩)
   ·have HK1:=Lib.hid hJ';clear hJ' hy HR2
    gi_wp2
    go_roundw
    case rel=>exact⟨k,by omega,rfl,HK1⟩
    case measure=>simp[intOf]
   ·have HX:=Lib.hid hX';clear hX' hy HR2
    gi_wp2
    exact bodyPost_ret (v:=.tuple #[]) (by simp[results,Tryz.results251,go_sem]) rfl ⟨⟨_,rfl⟩,Or.inr HX.out⟩
  ·obtain rfl:s=0:=by omega
   have hneg:((0:Nat):Int)-1<0:=by omega
   gi_wp2
   go_end0
   exact⟨⟨_,rfl⟩,Or.inl ⟨_,rfl,HK.out⟩⟩
end

section
open Go.RowKit Go.Shelf
attribute [local go_sem] Oper.semAt_some wide_fn wide_depth wide_fnR wide_depthR
def callsFrom:Nat→List InsR→List (Nat×InsR)
 |_,[]=> []
 |k,r :: l=>if r.d.op=13 then (k,r) :: callsFrom (k+1) l else callsFrom (k+1) l
theorem callsFrom_drop{rs:List InsR}{k:Nat}{r:InsR}(h:rs[k]? =some r):callsFrom k (rs.drop k)=if r.d.op=13 then (k,r) :: callsFrom (k+1) (rs.drop (k+1)) else callsFrom (k+1) (rs.drop (k+1)):=by
 obtain⟨hl,he⟩:=List.getElem?_eq_some_iff.1 h
 rw[List.drop_eq_getElem_cons hl,he]
 rfl
theorem enter_calls(args:Array Value)(w:World):(callFunc 260 args).run Tryz.prog w=.ok (.enter 260 args) w:=enters_of Tryz.func260 (by kernel_rfl) rfl args w
theorem calls_any(C:Nat)(b:Nat)(w:World):Calls Tryz.prog 196 #[.pointer (some ⟨C,0,none⟩),.int .i64 b] w fun e w'=>e=.returned (.func (.func 260) #[] #[.pointer (some ⟨w.heap.size,0,none⟩),.pointer (some ⟨w.heap.size+1,0,none⟩)])∧w'=(w.alloc (.cells #[.pointer (some ⟨C,0,none⟩)] 103)).alloc (.cells #[.int .i64 b] 3):=by
 go_enter Tryz.func196,Tryz.ntmps196
 go_wp2
 go_ret
 exact⟨rfl,rfl⟩
abbrev CallI(h:ColH)(bs:List BlkR)(C G b:Nat)(W:World):Prop:=W.heap[G]? =some (.cells #[.pointer (some ⟨C,0,none⟩)] 103 (0,0))∧W.heap[G+1]? =some (.cells #[.int .i64 (b:Int)] 3 (0,0))∧W.cell? ⟨C,4,none⟩=some (.slice h.ba h.bn h.bc)∧BlksR W h.ba h.bn bs
theorem calls_iterI(h:ColH)(bs:List BlkR)(C G b:Nat)(x:BlkR)(hx:bs[b]? =some x):IterI Tryz.prog 260 #[.pointer (some ⟨G,0,none⟩),.pointer (some ⟨G+1,0,none⟩)] encBIns (callsFrom 0 x.rs) (CallI h bs C G b):=by
 intro lp K Kx W hK hKx hInv hY h0
 refine callsIn_of_wp Tryz.func260 rfl trivial ?_ rfl
 simp only[Tryz.ntmps260,List.size_toArray,List.length_cons,List.length_nil,Nat.reduceAdd,Nat.reduceSub,Array.replicate_succ,Array.replicate_zero,List.push_toArray,List.append_toArray,List.nil_append,List.cons_append]
 have HKE:=Lib.hid hK
 have HY:=Lib.hid hY
 have HI:=Lib.hid hInv
 have H0:=Lib.hid h0
 have HX:=Lib.hid hx
 obtain⟨i1,i2,i3,i4⟩:=hInv _ _ h0
 have hbn:b<h.bn:=by
  have:=(List.getElem?_eq_some_iff.1 hx).1;rw[i4.1.1] at this;exact this
 obtain⟨r0,bb,ob,hr0,hok0,hba,c0,c1,c2,c3,c4⟩:=blksR_cells i4 hbn
 rw[hx] at hr0
 cases hr0
 have HN:Hid (x.h.n≤17592186044416):=hok0.2.1.2.1
 have HRL:Hid (x.rs.length=x.h.n):=hok0.2.1.1
 have hn1:Nonempty (ExtW W):=⟨⟨W,Below.refl _ _⟩⟩
 have g1:∀n:ExtW W,n.val.cell? ⟨G,0,none⟩=some (.pointer (some ⟨C,0,none⟩)):=fun n=>ExtW.cell (by rw[cell_of_row _ _ _ _ _ _ i1];rfl) n
 have g2:∀n:ExtW W,n.val.cell? ⟨G+1,0,none⟩=some (.int .i64 (b:Int)):=fun n=>ExtW.cell (by rw[cell_of_row _ _ _ _ _ _ i2];rfl) n
 have g3:∀n:ExtW W,n.val.cell? ⟨C,4,none⟩=some (.slice (some ⟨bb,ob,none⟩) h.bn h.bc):=fun n=>ExtW.cell (by rw[←hba];exact i3) n
 have g4:∀n:ExtW W,C<n.val.heap.size:=fun n=>Nat.lt_of_lt_of_le (World.block_lt_of_cell? _ _ i3) n.ext.size
 have g5:∀n:ExtW W,n.val.cell? ⟨bb,ob+b*5,none⟩=some (.slice x.h.ia x.h.n x.h.c):=fun n=>ExtW.cell c0 n
 have g6:∀n:ExtW W,bb<n.val.heap.size:=fun n=>Nat.lt_of_lt_of_le (World.block_lt_of_cell? _ _ c0) n.ext.size
 clear hY hInv hK hKx h0 hx i1 i2 i3 i4 hok0 hba c0 c1 c2 c3 c4
 gi_upto_region 0 with (fail)
 refine wpIn_wide.2 ?_
 refine region_ext (by kernel_rfl) (by kernel_rfl) ?_
 repeat (go_big_quiet_step (fail))
 refine wpQuiet_nil ?_
 rintro _ ⟨n0,rfl⟩
 have HK0:=Lib.hid (HKE.out _ _ _ H0.out n0.ext)
 clear g1 g2 g3 g4 g5 g6 hn1 H0
 generalize n0.val=w0 at*
 gi_wp2
 gi_loopw [4,5,16] (fun _ _ q wr=>∃k:Nat,q=.int .i64 k∧k≤x.h.n∧Hid (K (callsFrom k (x.rs.drop k)) wr)) (fun _ _ q _=>x.h.n-(intOf q).toNat)
 case atStart=>exact⟨0,rfl,by omega,HK0⟩
 case round=>
  obtain⟨k,rfl,hk,HK⟩:=hrel;clear HK0;have hE:InsS wr x.h.ia x.h.n x.rs:=((HI.out _ _ HK.out).2.2.2.2 x (List.mem_of_getElem? HX.out)).2;by_cases hlt:k<x.h.n
  ·obtain⟨r1,bi,oi,hr1,hok1,hia,c0,c1,c2,c3,c4,c5,c6,c7⟩:=hE.cells hlt;have hst:=callsFrom_drop hr1;rw[hst] at HK;have HR1:=Lib.hid hr1;have hn:=HN.out;rw[hia] at *;by_cases hop:r1.d.op=13
   ·rw[if_pos hop] at HK;have hopb:(r1.d.op==13)=true:=by simpa using hop
    clear hop;have hka:=HKE.out _ _ _ HK.out (ext_alloc wr (insO r1.d r1.aa r1.na r1.ca));obtain⟨fn,tmps,assign,body,hy,hR⟩:=HY.out ((k,r1) :: callsFrom (k+1) (x.rs.drop (k+1))) (k,r1) _ rfl hka;unfold encBIns at hy;have hT:nxL ((k,r1) :: callsFrom (k+1) (x.rs.drop (k+1))) (k,r1)=callsFrom (k+1) (x.rs.drop (k+1)):=rfl;rw[hT] at hR;have HR2:=Lib.hid hR;clear hE hr1 hok1 hia hst hka hR hT
    gi_wp2
    refine HR2.out.mono ?_;rintro e W' (⟨rfl,hJ'⟩|⟨rfl,hX'⟩)
    ·have HK1:=Lib.hid hJ';clear hJ' hy HR2
     gi_wp2
     go_roundw
     case rel=>exact⟨k+1,by go_num,by omega,HK1⟩
     case measure=>simp[intOf];omega
    ·have HX2:=Lib.hid hX';clear hX' hy HR2
     gi_wp2
     exact bodyPost_ret (v:=.tuple #[]) (by simp[results,Tryz.results260,go_sem]) rfl ⟨⟨_,rfl⟩,Or.inr HX2.out⟩
   ·rw[if_neg hop] at HK;have hopb:(r1.d.op==13)=false:=by simpa using hop
    clear hE hr1 hok1 hia hst
    gi_wp2
    exact⟨⟨k+1,by go_num,by omega,HKE.out _ _ _ HK.out (ext_alloc _ _)⟩,by simp[intOf];omega⟩
  ·obtain rfl:k=x.h.n:=by omega
   have hd:callsFrom x.h.n (x.rs.drop x.h.n)= []:=by rw[List.drop_of_length_le (by rw[HRL.out];exact Nat.le_refl _)];rfl
   rw[hd] at HK;clear hE hd
   gi_wp2
   go_end0
   exact⟨⟨_,rfl⟩,Or.inl ⟨_,rfl,HK.out⟩⟩
end
end Go.Proofs.YthgebcfohnlhlaaGreatDoor
