/-
 live.points:what is live ahead of every point of a block,from its end. (Printed by gen_ug.py.)
-/
import Derived.Test.YtnmkjliioogbgaaGreatDoorPE
import Derived.Test.YtnmkjliioogbgaaGreatDoorSM
import Derived.Test.YtnmkjliioogbgaaGreatDoorTH
import Derived.Test.YtnmkjliioogbgaaGreatDoorRangeO
import Derived.Test.YtnmkjliioogbgaaGreatDoorFreeL
import Derived.RangeFuncLeaves
import Derived.Sort.LoopGhostIn
import Derived.Test.YtnmkjliioogbgaaGreatDoorMark
import Derived.Test.YtnmkjliioogbgaaGreatDoorSU
namespace Go.Proofs.YtnmkjliioogbgaaGreatDoor
set_option linter.unusedSimpArgs false
set_option linter.unusedVariables false
set_option linter.unusedSectionVars false
set_option maxRecDepth 100000
set_option maxHeartbeats 40000000
section
open Go.RowKit Go.Shelf
attribute [local go_sem] Oper.semAt_some wide_fn wide_depth wide_fnR wide_depthR
def ptsL(t:TermD)(S:Nat)(rs:List InsR):Nat→List (Nat×Nat)
 |0=> []
 |k+1=>(k,pointN t S (rs.drop k)) :: ptsL t S rs k
def encP(x:Nat×Nat):Array Value:=#[.int .i64 (x.1:Int),.agg (setW x.2)]
abbrev PtsI(x:BlkR)(S S0 B0:Nat)(W:World):Prop:=W.heap[S0]? =some (bsO S)∧W.heap[B0]? =some (blkO x.h)∧BlkROK W x
theorem points_any(h:BlkH)(S:Nat)(w:World):Calls Tryz.prog 47 #[blkV h,.agg (setW S)] w fun e w'=>e=.returned (.func (.func 77) #[] #[.pointer (some ⟨w.heap.size+1,0,none⟩),.pointer (some ⟨w.heap.size,0,none⟩)])∧w'=(w.alloc (blkO h)).alloc (bsO S):=by
 go_enter Tryz.func47,Tryz.ntmps47
 go_wp2
 go_ret
 exact⟨rfl,rfl⟩
theorem enter_points(args:Array Value)(w:World):(callFunc 77 args).run Tryz.prog w=.ok (.enter 77 args) w:=enters_of Tryz.func77 (by kernel_rfl) rfl args w
def PtJ(x:BlkR)(S:Nat)(K:List (Nat×Nat)→World→Prop)(T:World→Nat→Prop)(l A1 P4 G:Nat)(r:List (Nat×InsR))(W:World):Prop:=
 ∃k,r=backL x.rs k∧k≤x.h.n∧K (ptsL x.h.t S x.rs k) W∧W.cell? ⟨A1,0,none⟩=some (.func (.yield l) #[] #[])∧W.heap[P4]? =some (bsO (pointN x.h.t S (x.rs.drop k)))∧W.cell? ⟨G,0,none⟩=some (.slice x.h.ia x.h.n x.h.c)∧∀j,(j=A1∨j=P4∨j=G∨j=G+1∨j=G+2)→¬T W j
theorem PtJ.steady{x:BlkR}{S:Nat}{K:List (Nat×Nat)→World→Prop}{T:World→Nat→Prop}{l A1 P4 G B:Nat}{W0:World}{r:List (Nat×InsR)}
  (hK:∀s W W' row,K s W→W.grownBy W' row→(∀q,row=some q→W0.heap.size≤q∧∃o:Obj,W.heap[q]? =some o∧isOw o=true)→K s W')
  (hT:∀s W W' row k,K s W→W.grownBy W' row→(∀q,row=some q→W0.heap.size≤q∧∃o:Obj,W.heap[q]? =some o∧isOw o=true)→T W' k→T W k)
  (ha:W0.heap.size=A1) (hB:A1≤B):SteadyM B (fun W=>Hid (PtJ x S K T l A1 P4 G r W)):=by
 intro W V row h hg hr
 obtain⟨k,h1,h2,h3,h4,h5,h6,h7⟩:=h.out
 have hr2:∀q,row=some q→W0.heap.size≤q∧∃o:Obj,W.heap[q]? =some o∧isOw o=true:=fun q e=>by
  obtain⟨g1,o,g2,g3⟩:=hr q e;exact⟨by omega,o,g2,by unfold isOw;rw[g3];rfl⟩
 exact⟨k,h1,h2,hK _ _ _ row h3 hg hr2,SteadyM.cell B _ _ W V row h4 hg hr,block_keepM h5 rfl hg hr,SteadyM.cell B _ _ W V row h6 hg hr,fun j hj ht=>h7 j hj (hT _ _ _ row j h3 hg hr2 ht)⟩
theorem points_iter(x:BlkR)(S S0 B0:Nat)(hna:∀r∈x.rs,r.na≤1000000)(hn:x.h.n≤17592186044416):IterOI Tryz.prog 77 #[.pointer (some ⟨S0,0,none⟩),.pointer (some ⟨B0,0,none⟩)] encP (ptsL x.h.t S x.rs (x.h.n+1)) (PtsI x S S0 B0):=by
 intro l K Kx T W0 hK hKx hInv hT0 hTs hY h0
 refine callsIn_of_wp_marks Tryz.func77 rfl trivial ?_
 simp only[Tryz.ntmps77,List.size_toArray,List.length_cons,List.length_nil,Nat.reduceAdd,Nat.reduceSub,Array.replicate_succ,Array.replicate_zero,List.push_toArray,List.append_toArray,List.nil_append,List.cons_append]
 have HKE:Hid (∀s W W',K s W→Below W.heap.size W W'→K s W'):=fun s W W' h hb=>hK s W W' none h ⟨hb.os,hb.tape,hb.output,hb.size,fun k hk _=>hb.block k hk⟩ (fun r e=>by cases e)
 have HTE:Hid (∀s W W' k,K s W→Below W.heap.size W W'→T W' k→T W k):=fun s W W' k h hb=>hTs s W W' none k h ⟨hb.os,hb.tape,hb.output,hb.size,fun k hk _=>hb.block k hk⟩ (fun r e=>by cases e)
 have HK:=Lib.hid hK
 have HKX:=Lib.hid hKx
 have HT0:=Lib.hid hT0
 have HTS:=Lib.hid hTs
 have HY:=Lib.hid hY
 have HI:=Lib.hid hInv
 have HNA:=Lib.hid hna
 have H0:=Lib.hid h0
 clear hK hKx hInv hT0 hTs hY h0 hna
 gi_wp2
 generalize hW1:W0.alloc _=W1
 have HB1:Hid (Below W0.heap.size W0 W1):=by rw[←hW1];exact ext_alloc _ _
 have HA1:Hid (W1.cell? ⟨W0.heap.size,0,none⟩=some (.func (.yield l) #[] #[])):=by
  rw[Hid,←hW1,cell_of_row _ _ _ _ _ _ (heap_alloc_new W0 _)];rfl
 have HS1:Hid (W1.heap.size=W0.heap.size+1):=by rw[Hid,←hW1];simp
 have H1:=Lib.hid (HKE.out _ _ _ H0.out HB1.out)
 have HS:=Lib.hid (HI.out _ _ H1.out).1
 have HB:=Lib.hid (HI.out _ _ H1.out).2.1
 have HOK:=Lib.hid (HI.out _ _ H1.out).2.2
 clear hW1
 refine wpIn_wide.2 ?_
 refine region_free 6 [some 7,some 8,some 9,some 10,some 11,some 4] (by kernel_rfl) (by kernel_rfl) (specB [.val (.agg (setW S)),.val (.pointer (some ⟨B0,1,none⟩)),.val (termV x.h.t),(.any fun v lo hi W=>∃a n c,v=.slice a n c∧Ints W a n (needsT x.h.t)),.val (.agg (setW (withN S (needsT x.h.t)))),.new (bsO 0)]) (specB_mono ?_) ?_ ?_
 ·intro k hk;simp only[List.mem_cons,List.not_mem_nil,or_false] at hk;rcases hk with rfl|rfl|rfl|rfl|rfl|rfl
  ·exact trivial
  ·exact trivial
  ·exact trivial
  ·rintro v lo hi w w' hb ⟨a,n,c,h1,h2⟩;exact⟨a,n,c,h1,h2.ext hb⟩
  ·exact trivial
  ·exact trivial
 ·intro i hi ν lo hi' w1 K hB hD hK;have hcase:i=0∨i=1∨i=2∨i=3∨i=4∨i=5:=by omega
  clear hi;rcases hcase with rfl|rfl|rfl|rfl|rfl|rfl
  ·clear hD;refine wpOp_atK rfl rfl ?_;simp only[zA,zB,zC,zD,zE,zF,zJ,zK,zG,zH,zI] at hK⊢;refine wp_load_row 120 _ rfl S0 rfl 120 _ (0,0) _ (block_ext hB HS.out) Tryz.underlying120 rfl (by rw[setW_size];exact size_bset) ?_;exact hK _ _ (Below.refl _ _) rfl
  ·clear hD;refine wpOp_atK rfl rfl ?_;simp only[zA,zB,zC,zD,zE,zF,zJ,zK,zG,zH,zI] at hK⊢;have hbl:=lt_of_heap (block_ext hB HB.out);go_simp;exact hK _ _ (Below.refl _ _) rfl
  ·have e1:=hD 1 (by kernel_rfl)
   replace e1:ν 1=(.pointer (some ⟨B0,1,none⟩)):=e1
   clear hD;refine wpOp_atK rfl rfl ?_;simp only[zA,zB,zC,zD,zE,zF,zJ,zK,zG,zH,zI,e1] at hK⊢;have hb:=block_ext hB HB.out;have j0:w1.cell? ⟨B0,1,none⟩=some (.int .i64 x.h.t.kind):=by rw[cell_of_row _ _ _ _ _ _ hb];rfl
   have j1:w1.cell? ⟨B0,2,none⟩=some (.int .i64 x.h.t.a):=by rw[cell_of_row _ _ _ _ _ _ hb];rfl
   have j2:w1.cell? ⟨B0,3,none⟩=some (.int .i64 x.h.t.t0):=by rw[cell_of_row _ _ _ _ _ _ hb];rfl
   have j3:w1.cell? ⟨B0,4,none⟩=some (.int .i64 x.h.t.t1):=by rw[cell_of_row _ _ _ _ _ _ hb];rfl
   go_simp;exact hK _ _ (Below.refl _ _) rfl
  ·have e2:=hD 2 (by kernel_rfl)
   replace e2:ν 2=(termV x.h.t):=e2
   clear hD;refine wpOp_atK rfl rfl ?_;simp only[zA,zB,zC,zD,zE,zF,zJ,zK,zG,zH,zI,e2] at hK⊢;go_simp;refine(needsT_any x.h.t w1 HOK.out.1).mono ?_;rintro e w2 ⟨rv,rfl,ho,hb2⟩;obtain⟨ra,rc,rfl⟩:=ho.form;exact hK _ _ hb2 ⟨ra,_,rc,rfl,ho.ints⟩
  ·have e0:=hD 0 (by kernel_rfl)
   replace e0:ν 0=(.agg (setW S)):=e0
   have e3:=hD 3 (by kernel_rfl);unfold specB at e3;simp only[List.getD_cons_zero,List.getD_cons_succ,specK] at e3;clear hD;refine wpOp_atK rfl rfl ?_;simp only[zA,zB,zC,zD,zE,zF,zJ,zK,zG,zH,zI,e0] at hK⊢;obtain⟨na,nn,nc,e3,hN⟩:=e3;simp only[e3] at hK⊢;go_simp;refine(bWith_any S na nn nc (needsT x.h.t) w1 hN).mono ?_;rintro e w2 ⟨rfl,hb2⟩;exact hK _ _ hb2 rfl
  ·clear hD;refine wpOp_atK rfl rfl ?_;simp only[zA,zB,zC,zD,zE,zF,zJ,zK,zG,zH,zI] at hK⊢;go_simp;refine hK _ _ (ext_alloc _ _) ⟨rfl,by simp,?_⟩;rw[heap_alloc_new,zero_bset]
 ·intro ν lo hi w1 hB hS hI hD;have e0:ν 0=(.agg (setW S)):=hS 0 (by omega);have e1:ν 1=(.pointer (some ⟨B0,1,none⟩)):=hS 1 (by omega);have e2:ν 2=(termV x.h.t):=hS 2 (by omega);have e3:=hS 3 (by omega);unfold specB at e3;simp only[List.getD_cons_zero,List.getD_cons_succ,specK] at e3;have e4:ν 4=(.agg (setW (withN S (needsT x.h.t)))):=hS 4 (by omega);obtain⟨e5,l5,h5⟩:=hS 5 (by omega);clear hS;simp only[List.drop_succ_cons,List.drop_zero,zA,zB,zC,zD,zE,zF,zJ,zK,zG,zH,zI,e0,e1,e2,e4,e5];have i5:=hI 5 (by omega);have hls0:=lt_of_heap HS.out;have hlb0:=lt_of_heap HB.out;have hb1:=hB;generalize lo 5=P4 at *;have HP4:Hid (W1.heap.size≤P4):=i5.1;have HZ:=Lib.hid h5;have HBB:=Lib.hid hB;clear hI hD hB e0 e1 e2 e3 e4 e5 i5 l5 h5 hb1 hls0 hlb0
  go_wp2_with ((with_reducible show wpList _ _ _ (⟨none,.store 120 _ _,_,_,_,_⟩ :: _) _ _);refine wpList_store_row rfl 120 _ _ rfl P4 (setW (withN S (needsT x.h.t))) rfl rfl 120 _ HZ.out (by rw[setW_size];exact size_bset) (by rw[setW_size,setW_size]) (setW_all _) ?_)
  obtain⟨w3,hw3⟩:∃w3,w3=w1.setRow P4 (setW (withN S (needsT x.h.t))):=⟨_,rfl⟩
  rw[←hw3];have HZ3:Hid (w3.heap[P4]? =some (bsO (withN S (needsT x.h.t)))):=by rw[hw3];exact setRow_heap _ _ _ _ _ _ HZ.out
  have HB3:Hid (Below W1.heap.size W1 w3):=by rw[hw3];exact below_setRow HBB.out HP4.out _
  clear hw3;have HK3:=Lib.hid (HKE.out _ _ _ H1.out HB3.out);have HN4:Hid (¬T w3 P4):=fun h=>by have:=HT0.out _ _ _ H1.out (HTE.out _ _ _ _ H1.out HB3.out h);have:=HP4.out;omega
  have HN1:Hid (¬T w3 W0.heap.size):=fun h=>by have:=HT0.out _ _ _ H0.out (HTE.out _ _ _ _ H0.out HB1.out (HTE.out _ _ _ _ H1.out HB3.out h));omega
  have HA3:Hid (w3.cell? ⟨W0.heap.size,0,none⟩=some (.func (.yield l) #[] #[])):=cell_ext HB3.out HA1.out;have HL3:Hid (P4<w3.heap.size):=lt_of_heap HZ3.out;have HRL:Hid (x.rs.length=x.h.n):=HOK.out.2.1.1;have hbl3:=(HI.out _ _ HK3.out).2.1;have c0:w3.cell? ⟨B0,0,none⟩=some (.slice x.h.ia x.h.n x.h.c):=by rw[cell_of_row _ _ _ _ _ _ hbl3];rfl
  have hbl:=lt_of_heap hbl3;have ha3:=HA3.out;have hp0:pointN x.h.t S (x.rs.drop x.h.n)=withN S (needsT x.h.t):=by rw[List.drop_of_length_le (by rw[HRL.out];omega)];rfl
  obtain⟨fn,tmps,assign,body,hy,hR⟩:=HY.out (ptsL x.h.t S x.rs (x.h.n+1)) (x.h.n,withN S (needsT x.h.t)) w3 (by rw[ptsL,hp0];rfl) HK3.out;unfold encP at hy;have hT:nxL (ptsL x.h.t S x.rs (x.h.n+1)) (x.h.n,withN S (needsT x.h.t))=ptsL x.h.t S x.rs x.h.n:=rfl;rw[hT] at hR;have HR2:=Lib.hid hR;clear hbl3 hT hR hp0 H0 H1 HK3 HA1 HS HB HZ HBB HOK
  gi_wp2_with (first
   |((with_reducible show wpListIn _ _ _ _ _ (⟨some 16,.load _ _,_,_,_,_⟩ :: _) _ _);refine wpListIn_load_rowG rfl 120 _ rfl P4 rfl 120 _ (0,0) _ HZ3.out Tryz.underlying120 rfl (by rw[setW_size];exact size_bset) ?_))
  refine HR2.out.mono ?_;rintro e W' (⟨rfl,hK',hTch⟩|⟨rfl,hX',_⟩)
  ·have HK5:=Lib.hid hK';have HA5:Hid (W'.cell? ⟨W0.heap.size,0,none⟩=some (.func (.yield l) #[] #[])):=by
    have e:=hTch.2.1 W0.heap.size (by have:=HB3.out.size;have:=HS1.out;omega) HN1.out;rw[Hid,←HA3.out];unfold World.cell?;simp only[e]
   have HZ5:Hid (W'.heap[P4]? =some (bsO (withN S (needsT x.h.t)))):=(hTch.2.1 P4 HL3.out HN4.out).trans HZ3.out;have HN5:Hid (¬T W' P4):=fun h=>(hTch.2.2 P4 h).elim HN4.out (by have:=HL3.out;omega);have HN6:Hid (¬T W' W0.heap.size):=fun h=>(hTch.2.2 _ h).elim HN1.out (by have:=HB3.out.size;have:=HS1.out;omega);have HS5:Hid (W0.heap.size<P4∧P4<W'.heap.size):=⟨by have:=HP4.out;have:=HS1.out;omega,by have:=HL3.out;have:=hTch.1;omega⟩
   have hbl3:=(HI.out _ _ HK5.out).2.1;have c0:W'.cell? ⟨B0,0,none⟩=some (.slice x.h.ia x.h.n x.h.c):=by rw[cell_of_row _ _ _ _ _ _ hbl3];rfl
   have hbl:=lt_of_heap hbl3;clear hK' hTch hy HR2 ha3 HA3 HN1 HN4 HL3 HZ3 hbl3
   gi_wp2_with (
    (gi_at_call 80
     refine(callsIn_wide.2 (backIns_any x.h.ia x.h.n x.h.c W')).mono ?_;rintro e w4 ⟨rfl,hw4⟩;have HW4:=Lib.hid hw4
     clear hw4))
   have HB4:Hid (Below W'.heap.size W' w4):=by rw[HW4.out];exact ext_alloc _ _
   have HG4:Hid (w4.cell? ⟨W'.heap.size,0,none⟩=some (.slice x.h.ia x.h.n x.h.c)):=by rw[Hid,HW4.out,cell_of_row _ _ _ _ _ _ (heap_alloc_new W' _)];rfl
   have HZ4:Hid (w4.heap.size=W'.heap.size+1):=by rw[Hid,HW4.out];simp
   have HK4:=Lib.hid (HKE.out _ _ _ HK5.out HB4.out);have HA4:Hid (w4.cell? ⟨W0.heap.size,0,none⟩=some (.func (.yield l) #[] #[])):=cell_ext HB4.out HA5.out;have HP5:Hid (w4.heap[P4]? =some (bsO (withN S (needsT x.h.t)))):=block_ext HB4.out HZ5.out;obtain⟨G,hG⟩:∃G,W'.heap.size=G:=⟨_,rfl⟩
   obtain⟨A1,hA1⟩:∃A1,W0.heap.size=A1:=⟨_,rfl⟩
   have HN4:Hid (∀j,(j=A1∨j=P4∨j=G∨j=G+1∨j=G+2)→¬T w4 j):=fun j hj ht=>by
    have h4:=HT0.out _ _ _ HK4.out ht;have h5:=HTE.out _ _ _ _ HK5.out HB4.out ht;have h6:=HT0.out _ _ _ HK5.out h5;have hs:=HS5.out;have hz:=HZ4.out;rcases hj with rfl|rfl|rfl|rfl|rfl
    ·rw[←hA1] at h5;exact HN6.out h5
    ·exact HN5.out h5
    ·omega
    ·omega
    ·omega
   have HAG:Hid (A1<P4∧P4<G):=by rw[←hG,←hA1];exact HS5.out
   rw[hG] at HG4 HZ4⊢;rw[hA1] at HA4⊢;have HWA:=Lib.hid hA1;have HRI:Hid (∀W,PtsI x S S0 B0 W→InsS W x.h.ia x.h.n x.rs):=fun W h=>h.2.2.2;clear hG hA1 HW4 HK5 HA5 HZ5 HN5 HN6 HS5 HB4 c0 hbl
   refine range_listK (ps:=#[22,23]) (gf:=120) (lb:=#[.pointer (some ⟨G,0,none⟩)]) (enc:=encBIns) (l:=backL x.rs x.h.n) rfl enter_backIns _ (backIns_iterI G x.h.ia x.h.n x.h.c x.rs hn) (fun _=>rfl)
    (fun _ r W=>Hid (PtJ x S K T l A1 P4 G r W))
    (fun c W=>Hid (c=.ret∧Kx W)) ?hJ ?hJx ?hInv ?start ?round ?done ?stop
   case hJ=>exact fun d r=>PtJ.steady HK.out HTS.out HWA.out (by have:=HZ4.out;have:=HAG.out;omega)
   case hJx=>exact fun c W V row h hg hr=>⟨h.out.1,HKX.out _ _ row h.out.2 hg fun q e=>by
    obtain⟨h1,o,h2,h3⟩:=hr q e
    exact⟨by have:=HZ4.out;have:=HAG.out;have:=HWA.out;omega,o,h2,by unfold isOw;rw[h3];rfl⟩⟩
   case hInv=>
    rintro d r W h;obtain⟨k,_,_,hK,_,_,hG,_⟩:=h.out;exact⟨hG,HRI.out _ (HI.out _ _ hK)⟩
   case start=>exact⟨x.h.n,rfl,Nat.le_refl _,HK4.out,HA4.out,by rw[List.drop_of_length_le (by rw[HRL.out];omega)];exact HP5.out,HG4.out,HN4.out⟩
   case round=>
    rintro lp d x' r W hz hd hJ;obtain⟨k,hk,hkn,hK,hA,hP,hG,hN⟩:=hJ.out;cases k with
    |zero=>cases hk
    |succ k=>
     obtain⟨ri,hri⟩:∃ri,x.rs[k]? =some ri:=⟨x.rs[k]'(by rw[HRL.out];omega),List.getElem?_eq_getElem (by rw[HRL.out];omega)⟩
     rw[backL_step hri] at hk;obtain⟨rfl,rfl⟩:=List.cons.inj hk;have HRI2:=Lib.hid hri;have HKK:=Lib.hid hK;have HAA:=Lib.hid hA;have HPP:=Lib.hid hP;have HGG:=Lib.hid hG;have HNN:=Lib.hid hN;have HJJ:=Lib.hid hJ.out;have HZZ:Hid (G+2<W.heap.size):=by have:=HZ4.out;have:=hz;show G+2<_;omega
     have HZ4':Hid (w4.heap.size=G+1):=HZ4.out;unfold encBIns;clear hk hri hK hA hP hG hN hJ hz hd
     gi_wp2
     refine⟨fun j hj=>(ext_alloc W _).block j (by have:=HZZ.out;have:=HZ4'.out;omega),(PtJ.steady HK.out HTS.out HWA.out (B:=w4.heap.size) (by have:=HZ4.out;have:=HAG.out;omega)).ext HJJ (ext_alloc W _),fun V=>Hid (V.heap[W.heap.size]? =some (insO ri.d ri.aa ri.na ri.ca)),SteadyM.block _ _ rfl,heap_alloc_new _ _,?_⟩;obtain⟨N,hN⟩:∃N,W.heap.size=N:=⟨_,rfl⟩
     rw[hN];clear HKK HAA HPP HGG HNN HJJ HZZ hN lp W;rintro lp W2 hz2 hJ2 hG2;obtain⟨k2,hk2,hkn2,hK2,hA2,hP2,hG3,hN2⟩:=hJ2.out;obtain rfl:k2=k+1:=by
      cases k2 with
      |zero=>cases hk2
      |succ j=>
       rw[backL_step (List.getElem?_eq_getElem (show j<x.rs.length by rw[HRL.out];omega))] at hk2;have:=(Prod.mk.inj (List.cons.inj hk2).1).1;omega
     have hmem:ri∈x.rs:=List.mem_of_getElem? HRI2.out;have HIO:Hid (InsOK W2 ri):=(HRI.out _ (HI.out _ _ hK2)).2 ri hmem;have HRA:Hid (ri.na≤1000000):=HNA.out ri hmem;have HPN:Hid (aheadN (pointN x.h.t S (x.rs.drop (k+1))) ri.d=pointN x.h.t S (x.rs.drop k)):=by
      have hl:k<x.rs.length:=(List.getElem?_eq_some_iff.1 HRI2.out).1;have he:x.rs[k]=ri:=(List.getElem?_eq_some_iff.1 HRI2.out).2;rw[Hid,List.drop_eq_getElem_cons hl,he];rfl
     generalize pointN x.h.t S (x.rs.drop (k+1))=P1 at *;obtain⟨P2,hP2'⟩:∃P2,pointN x.h.t S (x.rs.drop k)=P2:=⟨_,rfl⟩
     have HPE:=Lib.hid hP2';rw[hP2'] at HPN;clear hP2';have HK2:=Lib.hid hK2;have HA2:=Lib.hid hA2;have HP2:=Lib.hid hP2;have HG3:=Lib.hid hG3;have HN2:=Lib.hid hN2;have HG2:=Lib.hid hG2.out;have HZ2:Hid (G+2<W2.heap.size):=by have:=HZ4'.out;show G+2<_;omega
     have hpl:=lt_of_heap hP2;clear hk2 hkn2 hK2 hA2 hP2 hG3 hN2 hG2 hJ2 hz2 hmem
     gi_upto_region 7 with (first
      |((with_reducible show wpListIn _ _ _ _ _ (⟨some 24,.load _ _,_,_,_,_⟩ :: _) _ _);refine wpListIn_load_rowG rfl 60 _ rfl N rfl 60 _ (0,0) _ HG2.out Tryz.underlying60 rfl size_insR ?_)
      |((with_reducible show wpListIn _ _ _ _ _ (⟨some 25,.load _ _,_,_,_,_⟩ :: _) _ _);refine wpListIn_load_rowG rfl 120 _ rfl P4 rfl 120 _ (0,0) _ HP2.out Tryz.underlying120 rfl (by rw[setW_size];exact size_bset) ?_)
      |(gi_at_call 81
        refine(CallsIn.inRound _ (callsIn_wide.2 (lAhead_any ri P1 W2 HIO.out HRA.out))).mono ?_;rw[HPN.out];rintro e w5 ⟨rfl,hb5⟩;have HB5:=Lib.hid hb5;have HP5:=Lib.hid (block_ext hb5 HP2.out)
        clear hb5)
      |((with_reducible show wpListIn _ _ _ _ _ (⟨none,.store 120 _ _,_,_,_,_⟩ :: _) _ _)
        refine listIn_of (by repeat (first|exact noOut_round|refine noOut_then ?_|refine noOut_block ?_)) _ _ _ rfl ?_
        refine wpList_store_row rfl 120 _ _ rfl P4 (setW P2) rfl rfl 120 _ HP5.out (by rw[setW_size];exact size_bset) (by rw[setW_size,setW_size]) (setW_all _) ?_))
     obtain⟨w6,hw6⟩:∃w6,w6=w5.setRow P4 (setW P2):=⟨_,rfl⟩
     rw[←hw6];have HP6:Hid (w6.heap[P4]? =some (bsO P2)):=by rw[hw6];exact setRow_heap _ _ _ _ _ _ HP5.out
     have hg6:w5.grownBy w6 (some P4):=by rw[hw6];exact⟨rfl,rfl,rfl,by simp[World.setRow],fun j _ hne=>setRow_other w5 P4 j _ (fun e=>hne (by rw[e]))⟩
     have hq6:∀q,some P4=some q→W0.heap.size≤q∧∃o:Obj,w5.heap[q]? =some o∧isOw o=true:=fun q e=>by cases e;exact⟨by have:=HAG.out;have:=HWA.out;omega,_,HP5.out,rfl⟩
     have hk5:=HKE.out _ _ _ HK2.out HB5.out;have HK6:=Lib.hid (HK.out _ _ _ (some P4) hk5 hg6 hq6);have HN6:Hid (∀j,(j=A1∨j=P4∨j=G∨j=G+1∨j=G+2)→¬T w6 j):=fun j hj ht=>HN2.out j hj (HTE.out _ _ _ _ HK2.out HB5.out (HTS.out _ _ _ (some P4) j hk5 hg6 hq6 ht));have hof:∀j,j<W2.heap.size→j≠P4→w6.heap[j]? =W2.heap[j]?:=fun j hj hne=>by rw[hw6,setRow_other _ _ _ _ hne,HB5.out.block j hj]
     have hz2:=HZ2.out;have hag:=HAG.out;have HA6:Hid (w6.cell? ⟨A1,0,none⟩=some (.func (.yield l) #[] #[])):=by rw[Hid,←HA2.out];unfold World.cell?;simp only[hof A1 (by omega) (by omega)]
     have HG6:Hid (w6.cell? ⟨G,0,none⟩=some (.slice x.h.ia x.h.n x.h.c)):=by rw[Hid,←HG3.out];unfold World.cell?;simp only[hof G (by omega) (by omega)]
     have HO6:Hid (∀j,j=G+1∨j=G+2→w6.heap[j]? =W2.heap[j]?):=fun j hj=>hof j (by omega) (by omega);have HZ6:Hid (G+2<w6.heap.size):=by have:=hg6.size;have:=HB5.out.size;show G+2<_;omega
     obtain⟨fn,tmps,assign,body,hy,hR⟩:=HY.out (ptsL x.h.t S x.rs (k+1)) (k,P2) w6 (by rw[ptsL,HPE.out];rfl) HK6.out;unfold encP at hy;have hT:nxL (ptsL x.h.t S x.rs (k+1)) (k,P2)=ptsL x.h.t S x.rs k:=rfl;rw[hT] at hR;have HR6:=Lib.hid hR;have ha6:=HA6.out;clear hT hR hof hz2 hag hk5 hq6 hg6 hw6 hpl HK2 HA2 HP2 HG3 HG2 HB5 HP5 HZ2 HIO HRA HPN HK6;go_wp2
     gi_wp2_with (first
      |((with_reducible show wpListIn _ _ _ _ _ (⟨some 29,.load _ _,_,_,_,_⟩ :: _) _ _);refine wpListIn_load_rowG rfl 120 _ rfl P4 rfl 120 _ (0,0) _ HP6.out Tryz.underlying120 rfl (by rw[setW_size];exact size_bset) ?_))
     refine RoundIn.mono (show RoundIn (Fence.wide.inRound lp) 0 _ _ _ _ _ _ _ _ from HR6.out) ?_;rintro e W7 (⟨rfl,hK7,hTch⟩|⟨rfl,hX7,hOff⟩)
     ·have HK7:=Lib.hid hK7;have HTch:=Lib.hid hTch;clear hK7 hTch hy HR6 ha6
      gi_wp2
      have hz6:=HZ6.out;have hag:=HAG.out;have hpl:=lt_of_heap HP6.out;refine⟨fun j hj=>(HTch.out.2.1 j (by have:=HZ4'.out;omega) (HN6.out j (by have:=HZ4'.out;omega))).trans (HO6.out j (by have:=HZ4'.out;omega)),k,rfl,by omega,HK7.out,?_,?_,?_,?_⟩
      ·rw[←HA6.out];unfold World.cell?;simp only[HTch.out.2.1 A1 (by omega) (HN6.out A1 (by simp))]
      ·rw[HPE.out];exact(HTch.out.2.1 P4 hpl (HN6.out P4 (by simp))).trans HP6.out
      ·rw[←HG6.out];unfold World.cell?;simp only[HTch.out.2.1 G (by omega) (HN6.out G (by simp))]
      ·exact fun j hj ht=>(HTch.out.2.2 j ht).elim (HN6.out j hj) (by omega)
     ·have HX7:=Lib.hid hX7;clear hX7 hy HR6 ha6;have HOF:=Lib.hid hOff;clear hOff
      gi_wp2
      have hz6:=HZ6.out;have hzz:=HZ4'.out;exact⟨fun j hj=>(HOF.out j (by omega) (HN6.out j (by omega))).trans (HO6.out j (by omega)),rfl,HX7.out⟩
   case done=>
    rintro D W hD hJ hdf;obtain⟨k,hk,hkn,hK,_⟩:=hJ.out;have hDK:k=0:=by
     cases k with
     |zero=>rfl
     |succ j=>
      rw[backL_step (List.getElem?_eq_getElem (by rw[HRL.out];omega))] at hk;cases hk
    subst hDK;have HDF:=Lib.hid hdf;have hKf:=HK.out _ _ _ (some D) hK (grownBy_putObj' W D (.deferred none)) (fun q e=>by cases e;exact⟨by have:=HZ4.out;have:=HAG.out;have:=HWA.out;omega,_,HDF.out,rfl⟩);have HKF:=Lib.hid hKf;clear hdf hKf hK hk hJ
    gi_wp2
    refine⟨by simp,.inl ⟨_,_,rfl,run_takeDeferred HDF.out,?_⟩⟩;exact⟨.tuple #[],by simp[results,Tryz.results77,go_sem],⟨_,rfl⟩,Or.inl ⟨_,rfl,HKF.out⟩⟩
   case stop=>
    rintro D c W hD hc hdf;obtain⟨rfl,hx⟩:=hc.out;have HDF:=Lib.hid hdf;have hXf:=HKX.out _ _ (some D) hx (grownBy_putObj' W D (.deferred none)) (fun q e=>by cases e;exact⟨by have:=HZ4.out;have:=HAG.out;have:=HWA.out;omega,_,HDF.out,rfl⟩);have HXF:=Lib.hid hXf;clear hdf hXf hx hc
    gi_wp2
    refine⟨by simp,.inl ⟨_,_,rfl,run_takeDeferred HDF.out,?_⟩⟩;exact⟨.tuple #[],by simp[results,Tryz.results77,go_sem],⟨_,rfl⟩,Or.inr HXF.out⟩
  ·have HX:=Lib.hid hX';clear hX' hy HR2
   gi_wp2
   exact⟨.tuple #[],by simp[results,Tryz.results77,go_sem],⟨_,rfl⟩,Or.inr HX.out⟩
end

section
open Go.RowKit
abbrev markD(D:Nat):Deferred:={target:=.collected D,args:=#[]}
def Marks(lo hi:Nat)(ds:List Deferred)(w:World):Prop:=
 ∃Ds:List Nat,ds=Ds.map markD∧Ds.Nodup∧∀D∈Ds,lo≤D∧D<hi∧w.heap[D]? =some (.deferred (some []))
theorem Marks.nil(lo hi:Nat)(w:World):Marks lo hi [] w:=⟨[],rfl,List.nodup_nil,fun _ h=>by cases h⟩
theorem Marks.cons{lo hi hi' D:Nat}{ds:List Deferred}{w:World}(h:Marks lo hi ds w)(h1:hi≤D)(h0:lo≤D)(h2:D<hi')(hk:w.heap[D]? =some (.deferred (some []))):Marks lo hi' (markD D :: ds) w:=by
 obtain⟨Ds,rfl,hn,hD⟩:=h
 refine⟨D :: Ds,rfl,List.nodup_cons.2 ⟨fun hm=>?_,hn⟩,fun E hE=>?_⟩
 ·have:=(hD D hm).2.1;omega
 ·rcases List.mem_cons.1 hE with rfl|hE
  ·exact⟨h0,h2,hk⟩
  ·obtain⟨a,b,c⟩:=hD E hE;exact⟨a,by omega,c⟩
theorem Marks.keep{lo hi:Nat}{ds:List Deferred}{w w':World}(h:Marks lo hi ds w)(hk:Keep w w'):Marks lo hi ds w':=by
 obtain⟨Ds,e,hn,hD⟩:=h
 exact⟨Ds,e,hn,fun D hm=>⟨(hD D hm).1,(hD D hm).2.1,hk D _ (hD D hm).2.2 rfl⟩⟩
theorem Marks.mono{lo hi hi':Nat}{ds:List Deferred}{w:World}(h:Marks lo hi ds w)(hh:hi≤hi'):Marks lo hi' ds w:=by
 obtain⟨Ds,e,hn,hD⟩:=h
 exact⟨Ds,e,hn,fun D hm=>⟨(hD D hm).1,by have:=(hD D hm).2.1;omega,(hD D hm).2.2⟩⟩
theorem Steady.marks{lo hi B:Nat}(hB:hi≤B)(ds:List Deferred):Steady B (fun W=>Marks lo hi ds W):=by
 rintro W W' row ⟨Ds,e,hn,hD⟩ hg hr
 refine⟨Ds,e,hn,fun D hm=>⟨(hD D hm).1,(hD D hm).2.1,?_⟩⟩
 have h2:=(hD D hm).2.2
 refine(hg.block D (Array.getElem?_eq_some_iff.1 h2).1 fun e=>?_).trans h2
 have h3:=(hr D e.symm).1
 have h4:=(hD D hm).2.1
 omega
theorem leaves_marks{P:Program}{F:Fence}{n:Nat}{fn:Func}{tmps:Array Value}{R:Ending→World→Prop}{u:FrameMode}(hu:u≠.run){lo hi:Nat}(J:World→Prop)(hJ:Steady lo J)(h:∀w,J w→LeavesIn F n P fn tmps R [] u w):
  ∀(ds:List Deferred) (w:World),Marks lo hi ds w→J w→LeavesInM F n P fn tmps R ds u w:=by
 intro ds
 induction ds with
 |nil=>exact fun w _ hj=>h w hj
 |cons d ds ih=>
  rintro w ⟨Ds,e,hn,hD⟩ hj;cases Ds with
  |nil=>cases e
  |cons D Ds=>
   simp only[List.map_cons,List.cons.injEq] at e;obtain⟨rfl,rfl⟩:=e;have h1:=(hD D (by simp)).2.2;have hne:=(List.nodup_cons.1 hn).1;refine⟨hu,.inl ⟨D,_,rfl,run_takeDeferred h1,ih _ ⟨Ds,rfl,(List.nodup_cons.1 hn).2,fun E hE=>?_⟩ (hJ.put (.deferred none) hj (hD D (by simp)).1 h1 rfl)⟩⟩;obtain⟨a,b,c⟩:=hD E (by simp[hE]);refine⟨a,b,(World.putObj_heap_other ?_).trans c⟩;rintro rfl;exact hne hE
end

section
open Go.RowKit
def fillAct(a:Act)(slots:List Nat)(u:Nat→Value)(ds:List Deferred):Act:={tmps:=slots.foldl (fun t s=>t.setIfInBounds s (u s)) a.tmps,defers:=ds}
theorem fill_self(a:Act):∀(slots:List Nat),fillAct a slots (fun s=>a.tmps.getD s undef) a.defers=a:=by
 intro slots
 have key:slots.foldl (fun t s=>t.setIfInBounds s (a.tmps.getD s undef)) a.tmps=a.tmps:=by
  induction slots with
  |nil=>rfl
  |cons s l ih=>rw[List.foldl_cons,set_self];exact ih
 rw[fillAct,key]
theorem wpIn_loop_fill{F:Fence}{rm:Nat}{P:Program}{Q:Exit→Act→World→Prop}{a:Act}{w:World}{c:Code}(slots:List Nat)(R:Nat→(Nat→Value)→List Deferred→World→Prop)(n0:Nat)
  (h0:R n0 (fun s=>a.tmps.getD s undef) a.defers w)
  (round:∀m u ds w',R m u ds w'→c.wpIn F rm P (Exit.then (fun a' w''=>∃m',m'<m∧∃u' ds',a'=fillAct a slots u' ds'∧R m' u' ds' w'') Q) (fillAct a slots u ds) w'):(Code.loop c).wpIn F rm P Q a w:=by
 refine wpIn_loop_ghost (fun m a' w'=>∃u ds,a'=fillAct a slots u ds∧R m u ds w') n0 ⟨_,_,(fill_self a slots).symm,h0⟩ ?_
 rintro m a' w' ⟨u,ds,rfl,h⟩
 exact round m u ds w' h
end

section
open Go.RowKit
theorem range_listNG{P:Program}{α:Type}{g:Operand}{ps:Array Tmp}{assign body:Code}{Q:Exit→Act→World→Prop}{a:Act}{w:World}{gf:Nat}{lb:Array Value}
  (hg:a.eval g=.func (.func gf) #[] lb) (eg:∀args w,(callFunc gf args).run P w=.ok (.enter gf args) w)
  {enc:α→Array Value} {l:List α} (I:World→Prop) (hit:IterI P gf lb enc l I) (hps:∀x,(enc x).size=ps.size)
  (J:List α→List α→World→Prop) (Jx:Code→World→Prop)
  (hJ:∀d r,Steady w.heap.size (J d r)) (hJx:∀c,Steady w.heap.size (Jx c)) (hInv:∀d r W,J d r W→I W)
  (h0:J [] l w)
  (hround:∀(lp:Nat) (d:List α) (x:α) (r:List α) (W:World),l=d++x :: r→J d (x :: r) W→
    assign.wpIn (Fence.wide.inRound lp) 0 P (Exit.then (fun a1 W1=>Keep W W1∧J d (x :: r) W1∧∃G:World→Prop,Steady w.heap.size G∧G W1∧∀(lp:Nat) (W2:World),w.heap.size≤lp→(∃rc,W2.heap[lp]? =some (.loop rc))→J d (x :: r) W2→G W2→
     body.wpIn (Fence.wide.inRound lp) 0 P (roundEnd (fun W'=>Keep W2 W'∧J (d++ [x]) r W') (fun c W'=>Keep W2 W'∧Jx c W')) a1 W2) (fun _ _ _=>False)) {tmps:=(ps.zip (enc x)).foldl (fun t (p,v)=>t.setIfInBounds p v) a.tmps,defers:= []} W)
  (hdone:∀(D:Nat) (W:World),w.heap.size≤D→J l [] W→W.heap[D]? =some (.deferred (some []))→Q .normal {a with defers:={target:=.collected D,args:=#[]} :: a.defers} W)
  (hstop:∀(D:Nat) (c:Code) (W:World),w.heap.size≤D→Jx c W→W.heap[D]? =some (.deferred (some []))→c.wpIn Fence.wide 0 P Q {a with defers:={target:=.collected D,args:=#[]} :: a.defers} W):
  (Code.rangeFunc g ps assign body).wpIn Fence.wide 0 P Q a w:=by
 refine range_outerN (enc:=enc) hg eg hit hps (fun s W=>∃d,l=d++s∧J d s W) Jx
  (fun s x a1 W=>∃G:World→Prop,Steady w.heap.size G∧G W∧∀(d:List α) (lp:Nat) (W2:World),w.heap.size≤lp→(∃rc,W2.heap[lp]? =some (.loop rc))→l=d++s→J d s W2→G W2→body.wpIn (Fence.wide.inRound lp) 0 P (roundEnd (fun W'=>Keep W2 W'∧J (d++ [x]) (nxL s x) W') (fun c W'=>Keep W2 W'∧Jx c W')) a1 W2)
  (fun s=>Steady.ex fun d=>(Steady.pure _ _).and (hJ d s)) hJx (fun _ _ _=>fun W W' row h hg hr=>let ⟨G,h1,h2,h3⟩:=h;⟨G,h1,h1 W W' row h2 hg hr,h3⟩) (fun s W ⟨d,_,h⟩=>hInv d s W h) ⟨[],rfl,h0⟩ ?_ ?_ ?_ hstop
 ·rintro lp s x W hok ⟨d,hd,hj⟩;have hs:=okL_cons hok;generalize nxL s x=r at hs⊢;subst hs;refine wpIn_mono (hround lp d x r W hd hj) ?_;rintro e a1 W1 he;cases e with
  |normal=>
   obtain⟨h1,h2,G,h4,h5,h3⟩:=he;refine⟨h1,⟨d,hd,h2⟩,⟨G,h4,h5,fun d' lp' W2 hz' hr' hd' hj' hG'=>?_⟩⟩;have:d'=d:=by
    have:=hd'.symm.trans hd;exact List.append_cancel_right this
   subst this;exact h3 lp' W2 hz' hr' hj' hG'
  |_=>exact he.elim
 ·rintro lp s x a1 W hlp hr0 hok ⟨d,hd,hj⟩ ⟨G,_,hG,hA⟩;refine wpIn_mono (hA d lp W hlp hr0 hd hj hG) ?_;rintro e a3 W3 he;cases e with
  |normal=>
   refine⟨he.1,⟨d++ [x],?_,he.2⟩⟩;rw[hd,List.append_assoc]
   congr 1
   exact okL_cons hok
  |ret=>exact he
  |exit id=>exact he
  |goto t=>exact he
  |panic ch=>exact he.elim
  |outgrown=>exact he.elim
 ·rintro D s W hD hf ⟨d,hd,hj⟩ hk;have hf:s= []:=hf;subst hf;rw[List.append_nil] at hd;subst hd;exact hdone D W hD hj hk
end

section
open Go.RowKit
theorem range_listOI{P:Program}{α:Type}{g:Operand}{ps:Array Tmp}{assign body:Code}{Q:Exit→Act→World→Prop}{a:Act}{w:World}{l0:Nat}{r0:Loop}(hl0:w.heap[l0]? =some (.loop r0)){gf:Nat}{lb:Array Value}
  (hg:a.eval g=.func (.func gf) #[] lb) (eg:∀args w,(callFunc gf args).run P w=.ok (.enter gf args) w)
  {enc:α→Array Value} {l:List α} (I:World→Prop) (hit:IterOI P gf lb enc l I) (hps:∀x,(enc x).size=ps.size)
  (J:List α→List α→World→Prop) (Jx:Code→World→Prop)
  (hJ:∀d r,SteadyO w.heap.size (J d r)) (hJx:∀c,SteadyO w.heap.size (Jx c)) (hInv:∀d r W,J d r W→I W)
  (T:World→Nat→Prop) (hT0:∀d r W k,J d r W→T W k→k<W.heap.size) (hTg:∀W W' row,W.grownBy W' row→(∀q,row=some q→w.heap.size≤q∧∃o:Obj,W.heap[q]? =some o∧isOw o=true)→(∃d r,J d r W)→∀k,T W' k→T W k)
  (h0:J [] l w)
  (hround:∀(lp:Nat) (d:List α) (x:α) (r:List α) (W:World),l=d++x :: r→J d (x :: r) W→
    assign.wpIn (Fence.wide.inRound lp) 0 P (Exit.then (fun a1 W1=>Keep W W1∧J d (x :: r) W1∧Tch T W W1∧∃G:World→Prop,Steady w.heap.size G∧G W1∧∀(lp:Nat) (W2:World),w.heap.size≤lp→(∃rc,W2.heap[lp]? =some (.loop rc))→J d (x :: r) W2→G W2→
     body.wpIn (Fence.wide.inRound lp) 0 P (roundEnd (fun W'=>Keep W2 W'∧J (d++ [x]) r W'∧Tch T W2 W') (fun c W'=>Keep W2 W'∧Jx c W'∧OffT T W2 W')) a1 W2) (fun _ _ _=>False)) {tmps:=(ps.zip (enc x)).foldl (fun t (p,v)=>t.setIfInBounds p v) a.tmps,defers:= []} W)
  (hdone:∀(W:World),J l [] W→Q .normal a W)
  (hstop:∀(c:Code) (W:World),Jx c W→c.wpIn (Fence.wide.inRound l0) 0 P Q a W):
  (Code.rangeFunc g ps assign body).wpIn (Fence.wide.inRound l0) 0 P Q a w:=by
 refine range_innerO (enc:=enc) hl0 hg eg hit hps (fun s W=>∃d,l=d++s∧J d s W) Jx
  (fun s x a1 W=>∃G:World→Prop,Steady w.heap.size G∧G W∧∀(d:List α) (lp:Nat) (W2:World),w.heap.size≤lp→(∃rc,W2.heap[lp]? =some (.loop rc))→l=d++s→J d s W2→G W2→body.wpIn (Fence.wide.inRound lp) 0 P (roundEnd (fun W'=>Keep W2 W'∧J (d++ [x]) (nxL s x) W'∧Tch T W2 W') (fun c W'=>Keep W2 W'∧Jx c W'∧OffT T W2 W')) a1 W2)
  (fun s=>SteadyO.ex fun d=>(SteadyO.pure _ _).and (hJ d s)) hJx (fun _ _ _=>fun W W' row h hg hr=>let ⟨G,h1,h2,h3⟩:=h;⟨G,h1,h1 W W' row h2 hg hr,h3⟩) (fun s W ⟨d,_,h⟩=>hInv d s W h) T (fun s W k ⟨d,_,h⟩ ht=>hT0 d s W k h ht) (fun W W' row hg hr ⟨s,d,_,h⟩=>hTg W W' row hg hr ⟨d,s,h⟩) ⟨[],rfl,h0⟩ ?_ ?_ ?_ hstop
 ·rintro lp s x W hok ⟨d,hd,hj⟩;have hs:=okL_cons hok;generalize nxL s x=r at hs⊢;subst hs;refine wpIn_mono (hround lp d x r W hd hj) ?_;rintro e a1 W1 he;cases e with
  |normal=>
   obtain⟨h1,h2,hT1,G,h4,h5,h3⟩:=he;refine⟨h1,⟨d,hd,h2⟩,⟨G,h4,h5,fun d' lp' W2 hz' hr' hd' hj' hG'=>?_⟩,hT1⟩;have:d'=d:=by
    have:=hd'.symm.trans hd;exact List.append_cancel_right this
   subst this;exact h3 lp' W2 hz' hr' hj' hG'
  |_=>exact he.elim
 ·rintro lp s x a1 W hlp hr0 hok ⟨d,hd,hj⟩ ⟨G,_,hG,hA⟩;refine wpIn_mono (hA d lp W hlp hr0 hd hj hG) ?_;rintro e a3 W3 he;cases e with
  |normal=>
   refine⟨he.1,⟨d++ [x],?_,he.2.1⟩,he.2.2⟩;rw[hd,List.append_assoc]
   congr 1
   exact okL_cons hok
  |ret=>exact he
  |exit id=>exact he
  |goto t=>exact he
  |panic ch=>exact he.elim
  |outgrown=>exact he.elim
 ·rintro s W hf ⟨d,hd,hj⟩;have hf:s= []:=hf;subst hf;rw[List.append_nil] at hd;subst hd;exact hdone W hj
end

section
open Go.RowKit Go.Shelf
attribute [local go_sem] Oper.semAt_some wide_fn wide_depth wide_fnR wide_depthR
abbrev flowO(n g h:Nat):Obj:=.cells #[.slice (some ⟨g,0,none⟩) n n,.slice (some ⟨h,0,none⟩) n n] 116 (0,0)
abbrev flowZ:Obj:=.cells #[.slice none 0 0,.slice none 0 0] 116 (0,0)
abbrev rowWO(n:Nat):Obj:=.cells (madeCells (setW 0) (n*16)) 120 (0,0)
def LivEnd(bs:List BkL)(inn out:Nat→Nat):Prop:=
 (∀b,b<bs.length→∀j:Nat,j<1024→(inn b).testBit j=aheadL (bkOf bs b).ops (bkOf bs b).nd (bitF (out b)) (j:Int))∧
 ∀b,b<bs.length→∀c∈(bkOf bs b).to,∀j:Nat,j<1024→(inn c).testBit j=true→(out b).testBit j=true
def SolvedPost(bs:List BlkR)(bn:Nat)(w:World)(e:Ending)(w':World):Prop:=
 ∃(g o:Nat) (inn out:Nat→Nat),e=.returned (.agg #[.slice (some ⟨g,0,none⟩) bn bn,.slice (some ⟨o,0,none⟩) bn bn])∧OwnW w' w.heap.size (.slice (some ⟨g,0,none⟩) bn bn) bn inn∧OwnW w' w.heap.size (.slice (some ⟨o,0,none⟩) bn bn) bn out∧LivOK (bksL bs) inn out∧LivEnd (bksL bs) inn out∧Below w.heap.size w w'
theorem zero_W{n base g:Nat}(hn:n≤1000000){w:World}(hb:base≤g)(hg:w.heap[g]? =some (rowWO n)):OwnW w base (.slice (some ⟨g,0,none⟩) n n) n (fun _=>0):=by
 have h:w.ownsRow base 120 16 (.slice (some ⟨g,0,none⟩) n n) n (madeCells (setW 0) (n*16)).toList:=
  ⟨by simpa using size_madeCells (setW 0) (n*16),.inr ⟨g,n,madeCells (setW 0) (n*16),rfl,hb,hg,Nat.le_refl _,by unfold maxLen;omega,size_madeCells _ _,List.take_of_length_le (by rw[Array.length_toList,size_madeCells];exact Nat.le_refl _)⟩⟩
 have e:(madeCells (setW 0) (n*16)).toList=(famL n fun _=>0).flatMap bsC:=by
  have:=made_list (z:=setW 0) (by rw[setW_size];omega) n;rw[setW_size] at this;rw[this,famL,List.flatMap_map];rfl
 rw[e] at h
 exact⟨by rw[famL_len];exact h,by rw[famL_len];omega⟩
structure FlJ(w:World)(fo:Obj)(n R0 R1 PF:Nat)(inn out:Nat→Nat)(W:World):Prop where
 fn:W.heap[w.heap.size]? =some fo
 rs:W.heap[w.heap.size+1]? =some flowZ
 fl:W.heap[PF]? =some (flowO n R0 R1)
 inn:OwnW W (w.heap.size+2) (.slice (some ⟨R0,0,none⟩) n n) n inn
 out:OwnW W (w.heap.size+2) (.slice (some ⟨R1,0,none⟩) n n) n out
 b:Below w.heap.size w W
theorem FlJ.ext{w:World}{fo:Obj}{n R0 R1 PF:Nat}{inn out:Nat→Nat}{W W':World}(h:FlJ w fo n R0 R1 PF inn out W)(hb:Below W.heap.size W W'):FlJ w fo n R0 R1 PF inn out W':=
 ⟨block_ext hb h.fn,block_ext hb h.rs,block_ext hb h.fl,OwnR.ext h.inn hb,OwnR.ext h.out hb,ext_trans h.b hb⟩
theorem FlJ.steady{w:World}{fo:Obj}{n R0 R1 PF:Nat}{inn out:Nat→Nat}{B:Nat}(hf:isBook fo=false)(hB:w.heap.size≤B):Steady B (FlJ w fo n R0 R1 PF inn out):=fun W V row h hg hr=>
 ⟨Steady.block B _ hf W V row h.fn hg hr,Steady.block B _ rfl W V row h.rs hg hr,Steady.block B _ rfl W V row h.fl hg hr,Steady.ownR _ _ _ _ W V row h.inn hg hr,Steady.ownR _ _ _ _ W V row h.out hg hr,Steady.below (Nat.le_refl _) hB W V row h.b hg hr⟩
def ClosedB(bs:List BkL)(inn out:Nat→Nat)(b:Nat):Prop:=
 (∀j:Nat,j<1024→(inn b).testBit j=aheadL (bkOf bs b).ops (bkOf bs b).nd (bitF (out b)) (j:Int))∧
 ∀c∈(bkOf bs b).to,∀j:Nat,j<1024→(inn c).testBit j=true→(out b).testBit j=true
theorem backL_mem{α:Type}{l:List α}:∀{n k:Nat} {r:α},k<n→l[k]? =some r→(k,r)∈backL l n
 |0,_,_,h,_=>absurd h (by omega)
 |n+1,k,r,h,hk=>by
  by_cases e:k=n
  ·subst e;rw[backL_step hk];exact List.mem_cons_self
  ·have ih:=backL_mem (n:=n) (show k<n by omega) hk;show(k,r)∈(match l[n]? with|some r=>(n,r) :: backL l n|none=>backL l n)
   split
   ·exact List.mem_cons_of_mem _ ih
   ·exact ih
theorem backL_get{α:Type}{l:List α}:∀{n k:Nat} {r:α},(k,r)∈backL l n→k<n∧l[k]? =some r
 |0,_,_,h=>by cases h
 |n+1,k,r,h=>by
  have h:(k,r)∈(match l[n]? with|some r=>(n,r) :: backL l n|none=>backL l n):=h
  split at h
  ·rename_i r0 hr0
   rcases List.mem_cons.1 h with e|h
   ·injection e with e1 e2;subst e1 e2;exact⟨by omega,hr0⟩
   ·have:=backL_get h;exact⟨by omega,this.2⟩
  ·have:=backL_get h;exact⟨by omega,this.2⟩
def RdJ(w:World)(fo:Obj)(n R0 R1 PF p4 G:Nat)(ba:Option Addr)(bc:Nat)(bs:List BlkR)(inn0:Nat→Nat)(ds:List Deferred)(hi:Nat)(d:List (Nat×BlkR))(W:World):Prop:=
 ∃(ch:Bool) (inn out:Nat→Nat),W.heap[p4]? =some (.cells #[.bool ch] 4 (0,0))∧FlJ w fo n R0 R1 PF inn out W∧LivOK (bksL bs) inn out∧(ch=false→inn=inn0∧∀x∈d,ClosedB (bksL bs) inn out x.1)∧(ch=true→totS n inn<totS n inn0)∧W.cell? ⟨G,0,none⟩=some (.slice ba n bc)∧Marks (w.heap.size+2) hi ds W
theorem RdJ.steady{w:World}{fo:Obj}{n R0 R1 PF p4 G:Nat}{ba:Option Addr}{bc:Nat}{bs:List BlkR}{inn0:Nat→Nat}{ds:List Deferred}{hi:Nat}{d:List (Nat×BlkR)}{B:Nat}(hf:isBook fo=false)(hB:w.heap.size≤B)(hh:hi≤B):Steady B (RdJ w fo n R0 R1 PF p4 G ba bc bs inn0 ds hi d):=fun W V row h hg hr=>by
 obtain⟨ch,inn,out,h1,h2,h3,h4,h5,h6,h7⟩:=h
 exact⟨ch,inn,out,Steady.block B _ rfl W V row h1 hg hr,FlJ.steady hf hB W V row h2 hg hr,h3,h4,h5,Steady.cell B _ _ W V row h6 hg hr,Steady.marks hh ds W V row h7 hg hr⟩
theorem bsC_arr(S:Nat):(bsC S).toArray=setW S:=by simp[bsC]
theorem bset_len'{S:Nat}:(Tryz.prog.info? 120).map (·.size)=some (bsC S).length:=bset_len S
theorem keep_chg{W W':World}{g:Nat}{o:Obj}(hg:W.heap[g]? =some o)(ho:isBook o=false)(hc:Chg (fun j=>j=g) W W'):Keep W W':=fun k o' hk hb=>
 (hc.block k (lt_of_heap hk) fun e=>by subst e;rw[hg] at hk;cases hk;rw[ho] at hb;cases hb).trans hk
theorem own_obj{w:World}{base:Nat}{e:TypeId}{size g m c n:Nat}{xs:List Value}(h:w.ownsRow base e size (.slice (some ⟨g,0,none⟩) m c) n xs):∃o,w.heap[g]? =some o∧isBook o=false:=by
 rcases h.2 with ⟨h,_⟩|⟨g',cap,cur,h,_,hh,_⟩
 ·cases h
 ·injection h with h1;injection h1 with h1;injection h1 with h1;subst h1;exact⟨_,hh,rfl⟩
section
variable {w:World} {fo:Obj} {n R0 R1 PF:Nat} {inn out:Nat→Nat} {W W':World}
theorem below_chg{g:Nat}(h:Below w.heap.size w W)(hc:Chg (fun j=>j=g) W W')(hg:w.heap.size≤g):Below w.heap.size w W':=
 ⟨hc.os.trans h.os,hc.tape.trans h.tape,hc.output.trans h.output,Nat.le_trans h.size hc.size,fun k hk=>(hc.block k (Nat.lt_of_lt_of_le hk h.size) (by omega)).trans (h.block k hk)⟩
theorem FlJ.chg{g:Nat}(h:FlJ w fo n R0 R1 PF inn out W)(hc:Chg (fun j=>j=g) W W')(hg:w.heap.size+2≤g∧g≠R0∧g≠R1∧g≠PF):FlJ w fo n R0 R1 PF inn out W':=
 ⟨(hc.block _ (lt_of_heap h.fn) (by omega)).trans h.fn,(hc.block _ (lt_of_heap h.rs) (by omega)).trans h.rs,(hc.block _ (lt_of_heap h.fl) (by omega)).trans h.fl,⟨ownsRow_chg h.inn.1 hc (fun q e=>by simp[Value.ownBlock] at e;omega),h.inn.2⟩,⟨ownsRow_chg h.out.1 hc (fun q e=>by simp[Value.ownBlock] at e;omega),h.out.2⟩,below_chg h.b hc (by omega)⟩
theorem FlJ.putOut(h:FlJ w fo n R0 R1 PF inn out W)(hn:w.heap.size+2≤R1∧R0≠R1∧R1≠PF){k:Nat}(hk:k<n)(S:Nat):FlJ w fo n R0 R1 PF inn (putS' out k S) (W.setCells R1 (k*16) (setW S).toList)∧Keep W (W.setCells R1 (k*16) (setW S).toList):=by
 have hc:=setCells_chg W R1 (k*16) (setW S).toList
 obtain⟨o,h1,h2⟩:=own_obj h.out.1
 exact⟨⟨(hc.block _ (lt_of_heap h.fn) (by omega)).trans h.fn,(hc.block _ (lt_of_heap h.rs) (by omega)).trans h.rs,(hc.block _ (lt_of_heap h.fl) (by omega)).trans h.fl,⟨ownsRow_chg h.inn.1 hc (fun g e=>by simp[Value.ownBlock] at e;omega),h.inn.2⟩,ownW_set h.out hk S,below_chg h.b hc (by omega)⟩,keep_chg h1 h2 hc⟩
theorem FlJ.putIn(h:FlJ w fo n R0 R1 PF inn out W)(hn:w.heap.size+2≤R0∧R0≠R1∧R0≠PF){k:Nat}(hk:k<n)(S:Nat):FlJ w fo n R0 R1 PF (putS' inn k S) out (W.setCells R0 (k*16) (setW S).toList)∧Keep W (W.setCells R0 (k*16) (setW S).toList):=by
 have hc:=setCells_chg W R0 (k*16) (setW S).toList
 obtain⟨o,h1,h2⟩:=own_obj h.inn.1
 exact⟨⟨(hc.block _ (lt_of_heap h.fn) (by omega)).trans h.fn,(hc.block _ (lt_of_heap h.rs) (by omega)).trans h.rs,(hc.block _ (lt_of_heap h.fl) (by omega)).trans h.fl,ownW_set h.inn hk S,⟨ownsRow_chg h.out.1 hc (fun g e=>by simp[Value.ownBlock] at e;omega),h.out.2⟩,below_chg h.b hc (by omega)⟩,keep_chg h1 h2 hc⟩
end
theorem backL_low{α:Type}{l:List α}:∀{n k:Nat} {r:α},(k,r)∈backL l n→k<n
 |_,_,_,h=>(backL_get h).1
theorem backL_nodup{α:Type}{l:List α}:∀{n:Nat} {d:List (Nat×α)} {x:Nat×α} {r:List (Nat×α)},backL l n=d++x :: r→x.1∉d.map (·.1)
 |0,d,x,r,h=>by
  have h: []=d++x :: r:=h;cases d<;>cases h
 |n+1,[],x,r,_=>by simp
 |n+1,y :: d,x,r,h=>by
  have h:(match l[n]? with|some r=>(n,r) :: backL l n|none=>backL l n)=y :: (d++x :: r):=h
  split at h
  ·obtain⟨h1,h2⟩:=List.cons.inj h;have hx:x∈backL l n:=by rw[h2];simp
   have:=backL_low (k:=x.1) (r:=x.2) hx;simp only[List.map_cons,List.mem_cons,not_or];exact⟨by rw[←h1];exact fun e=>by have e:x.1=n:=e;omega,backL_nodup h2⟩
  ·exact backL_nodup (d:=y :: d) h
structure LToJ(w:World)(fo:Obj)(n R0 R1 PF:Nat)(bs:List BkL)(inn out:Nat→Nat)(k:Nat)(tos:List Int)(w5:World)(q:Nat)(out':Nat→Nat)(wr:World):Prop where
 f:FlJ w fo n R0 R1 PF inn out' wr
 l:LivOK bs inn out'
 kp:Keep w5 wr
 c:Chg (fun j=>j=R1) w5 wr
 e:∀b,b≠k→out' b=out b
 d:∀(j:Nat) (c:Int),j<q→tos[j]? =some c→∀i:Nat,i<1024→(inn c.toNat).testBit i=true→(out' k).testBit i=true
section
variable {w:World} {fo:Obj} {n R0 R1 PF:Nat} {bs:List BkL} {inn out out':Nat→Nat} {k q:Nat} {tos:List Int} {w5 wr wr':World}
theorem LToJ.ext(h:LToJ w fo n R0 R1 PF bs inn out k tos w5 q out' wr)(hb:Below wr.heap.size wr wr'):LToJ w fo n R0 R1 PF bs inn out k tos w5 q out' wr':=
 ⟨h.f.ext hb,h.l,h.kp.trans (Keep.ext hb),h.c.of_ext hb,h.e,h.d⟩
theorem LToJ.put(h:LToJ w fo n R0 R1 PF bs inn out k tos w5 q out' wr)(hl:bs.length=n)(hn:w.heap.size+2≤R1∧R0≠R1∧R1≠PF)(hto:ToOK bs)(hk:k<n){c:Nat}(hc:tos[q]? =some (c:Int))(hm:c∈(bkOf bs k).to):
  LToJ w fo n R0 R1 PF bs inn out k tos w5 (q+1) (putS' out' k (out' k|||inn c)) (wr.setCells R1 (k*16) (setW (out' k|||inn c)).toList):=by
 obtain⟨h1,h2⟩:=h.f.putOut hn hk (out' k|||inn c)
 refine⟨h1,h.l.or (by omega) hto hm,h.kp.trans h2,h.c.trans (setCells_chg wr R1 (k*16) _),fun b hb=>?_,fun j c' hj hj2 i hi ht=>?_⟩
 ·unfold putS';rw[if_neg hb];exact h.e b hb
 ·have e:putS' out' k (out' k|||inn c) k=out' k|||inn c:=by simp[putS']
  rw[e,Nat.testBit_or,Bool.or_eq_true];by_cases ej:j=q
  ·subst ej;rw[hc] at hj2;cases hj2;rw[Int.toNat_natCast] at ht;exact .inr ht
  ·exact .inl (h.d j c' (by omega) hj2 i hi ht)
end
theorem to_elem{bs:List BlkR}(hin:toIn bs=true){k:Nat}{x:BlkR}(hx:bs[k]? =some x){q:Nat}(hq:q<(toD x.h.t).length):
  ∃c:Nat,(toD x.h.t).getD q 0=(c:Int)∧c<bs.length∧(toD x.h.t)[q]? =some (c:Int)∧c∈(bkOf (bksL bs) k).to:=by
 have h1:=List.all_eq_true.1 hin x (List.mem_of_getElem? hx)
 have h2:=List.all_eq_true.1 h1 (toD x.h.t)[q] (List.getElem_mem hq)
 simp only[decide_eq_true_eq] at h2
 have h3:(((toD x.h.t)[q].toNat:Nat):Int)=(toD x.h.t)[q]:=by omega
 refine⟨(toD x.h.t)[q].toNat,?_,by omega,?_,?_⟩
 ·rw[h3,List.getD_eq_getElem?_getD,List.getElem?_eq_getElem hq];rfl
 ·rw[h3];exact List.getElem?_eq_getElem hq
 ·rw[bksL_at hx];exact List.mem_map.2 ⟨_,List.getElem_mem hq,rfl⟩
theorem size_blk:(Tryz.prog.info? 67).map (·.size)=some 5:=by kernel_rfl
theorem turn_plain{bs:List BkL}{inn0 inn out out2:Nat→Nat}{k P:Nat}{ch eq:Bool}{d:List Nat}(hk:k<bs.length)(hl:LivOK bs inn out2)(hP:P<2^1024)
  (hb:∀j:Nat,j<1024→P.testBit j=aheadL (bkOf bs k).ops (bkOf bs k).nd (bitF (out2 k)) (j:Int)) (he:∀b,b≠k→out2 b=out b)
  (hd:∀c∈(bkOf bs k).to,∀i:Nat,i<1024→(inn c).testBit i=true→(out2 k).testBit i=true) (hno:ch=false→inn=inn0∧∀x∈d,ClosedB bs inn out x) (hyes:ch=true→totS bs.length inn<totS bs.length inn0)
  (hdk:k∉d) (heq:eq=true↔P=inn k):
  LivOK bs (putS' inn k P) out2∧((ch|| !eq)=false→putS' inn k P=inn0∧∀x∈d++ [k],ClosedB bs (putS' inn k P) out2 x)∧((ch|| !eq)=true→totS bs.length (putS' inn k P)<totS bs.length inn0):=by
 have hdn:=hl.down hk hP hb
 refine⟨hl.point hk hP hb,fun h=>?_,fun h=>?_⟩
 ·simp only[Bool.or_eq_false_iff,Bool.not_eq_false'] at h;obtain⟨h1,h2⟩:=h;obtain⟨e0,h3⟩:=hno h1;have eP:=heq.1 h2;have e1:putS' inn k P=inn:=by
   funext j
   unfold putS'
   split
   ·rename_i e;rw[e,eP]
   ·rfl
  rw[e1];refine⟨e0,fun x hx=>?_⟩;rcases List.mem_append.1 hx with hx|hx
  ·have hxk:x≠k:=fun e=>hdk (e▸hx);obtain⟨h4,h5⟩:=h3 x hx;refine⟨?_,?_⟩
   ·rw[he x hxk];exact h4
   ·rw[he x hxk];exact h5
  ·simp only[List.mem_singleton] at hx;subst hx;exact⟨by rw[←eP];exact hb,hd⟩
 ·cases ch with
  |true=>exact Nat.lt_of_le_of_lt hdn.1 (hyes rfl)
  |false=>
   simp only[Bool.false_or,Bool.not_eq_true'] at h;rw[←(hno rfl).1];exact hdn.2 fun e=>by rw[heq.2 e] at h;cases h
theorem ptsL_cons{t:TermD}{S:Nat}{rs:List InsR}{m:Nat}{x:Nat×Nat}{s:List (Nat×Nat)}(h:ptsL t S rs m=x :: s):∃j,m=j+1∧x=(j,pointN t S (rs.drop j))∧s=ptsL t S rs j:=by
 cases m with
 |zero=>cases h
 |succ j=>
  obtain⟨h1,h2⟩:=List.cons.inj h;exact⟨j,rfl,h1.symm,h2.symm⟩
theorem ptsL_nil{t:TermD}{S:Nat}{rs:List InsR}{m:Nat}(h:ptsL t S rs m= []):m=0:=by
 cases m with
 |zero=>rfl
 |succ j=>cases h
theorem FlJ.steadyO{w:World}{fo:Obj}{n R0 R1 PF:Nat}{inn out:Nat→Nat}{B:Nat}(hB:w.heap.size+2≤B)(h0:R0<B)(h1:R1<B)(hp:PF<B):SteadyO B (FlJ w fo n R0 R1 PF inn out):=fun W V row h hg hr=>by
 have ne:∀j,j<B→some j≠row:=fun j hj e=>by have:=(hr j e.symm).1;omega
 exact⟨(hg.block _ (lt_of_heap h.fn) (ne _ (by omega))).trans h.fn,(hg.block _ (lt_of_heap h.rs) (ne _ (by omega))).trans h.rs,(hg.block _ (lt_of_heap h.fl) (ne _ (by omega))).trans h.fl,OwnR.kept h.inn hg (.inr (ne R0 h0)),OwnR.kept h.out hg (.inr (ne R1 h1)),SteadyO.below (Nat.le_refl _) (by omega) W V row h.b hg hr⟩
theorem putS_self(I:Nat→Nat)(b:Nat):putS' I b (I b)=I:=by
 funext k
 unfold putS'
 split
 ·rename_i e;rw[e]
 ·rfl
theorem putS_put(I:Nat→Nat)(b S T:Nat):putS' (putS' I b S) b T=putS' I b T:=by
 funext k
 unfold putS'
 split<;>rfl
structure PtsJ(w:World)(fo:Obj)(n R0 R1 PF:Nat)(x:BlkR)(inn out:Nat→Nat)(k:Nat)(w1:World)(s:List (Nat×Nat))(m P:Nat)(W:World):Prop where
 e:s=ptsL x.h.t (out k) x.rs m
 l:m≤x.h.n+1
 z:m=0→P=pointN x.h.t (out k) x.rs
 f:FlJ w fo n R0 R1 PF (putS' inn k P) out W
 c:Chg (fun j=>j=R0) w1 W
theorem PtsJ.steadyO{w:World}{fo:Obj}{n R0 R1 PF:Nat}{x:BlkR}{inn out:Nat→Nat}{k:Nat}{w1:World}{s:List (Nat×Nat)}{m P:Nat}{B:Nat}(hB:w.heap.size+2≤B)(h0:R0<B)(h1:R1<B)(hp:PF<B)(hw:w1.heap.size≤B):SteadyO B (PtsJ w fo n R0 R1 PF x inn out k w1 s m P):=fun W V row h hg hr=>
 ⟨h.e,h.l,h.z,FlJ.steadyO hB h0 h1 hp W V row h.f hg hr,h.c.grown hg fun q e=>.inr (Nat.le_trans hw (hr q e).1)⟩
end
end Go.Proofs.YtnmkjliioogbgaaGreatDoor
