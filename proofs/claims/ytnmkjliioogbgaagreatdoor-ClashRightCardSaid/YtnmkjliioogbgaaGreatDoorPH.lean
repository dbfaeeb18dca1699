/-
 (*sets.collector).block.
-/
import Derived.Test.YtnmkjliioogbgaaGreatDoorPG
import Derived.Test.YtnmkjliioogbgaaGreatDoorUHA
import Derived.Sort.CutIn
namespace Go.Proofs.YtnmkjliioogbgaaGreatDoor
set_option linter.unusedSimpArgs false
set_option linter.unusedVariables false
set_option linter.unusedSectionVars false
set_option maxRecDepth 100000
set_option maxHeartbeats 40000000
section
open Go.RowKit Go.Shelf
attribute [local go_sem] Oper.semAt_some wide_fn wide_depth wide_fnR wide_depthR
theorem ints_one(w:World)(x:Int)(h:0≤x∧x≤200):Ints (w.alloc (.cells #[.int .i64 x] 3)) (some ⟨w.heap.size,0,none⟩) 1 [x]:=
 ⟨rfl,by omega,fun k hk=>by
  obtain rfl:k=0:=by omega
  refine⟨w.heap.size,0,rfl,by rw[cell_of_row _ _ _ _ _ _ (heap_alloc_new w _)];rfl,?_⟩;show I64 x;unfold I64
  omega⟩
theorem sBlock_any(h:ColH)(ps:List Int)(bs:List BlkR)(r d l a:Nat)(i o:Option Nat)(C b:Nat)(x:BlkR)(R D L A:Int→Prop)(w:World)(hC:ColAt w C h (some r) (some d) (some l) (some a) i o)
  (hps:Ints w h.pa h.pn ps) (hbl:BlksR w h.ba h.bn bs) (hlv:LiveR w (bksL bs) h.bn h.lv) (hx:bs[b]? =some x) (hna:∀r∈x.rs,r.na≤1000000) (hap:Apart4 r d l a) (hR:VHas w r R) (hD:VHas w d D) (hL:VHas w l L) (hA:VHas w a A):
  Calls Tryz.prog 62 #[.pointer (some ⟨C,0,none⟩),.int .i64 b] w fun e w'=>e=.returned (.tuple #[])∧CS w r d l a (fun y=>R y∨y∈refM bs b) (fun y=>D y∨y∈defM ps bs b) (fun y=>L y∨y∈livM bs b) (fun y=>A y∨y∈acrM bs b) w':=by
 refine(callsIn_wide (n:=0)).1 ?_
 refine callsIn_of_wp_marks Tryz.func62 rfl trivial ?_
 simp only[Tryz.ntmps62,List.size_toArray,List.length_cons,List.length_nil,Nat.reduceAdd,Nat.reduceSub,Array.replicate_succ,Array.replicate_zero,List.push_toArray,List.append_toArray,List.nil_append,List.cons_append]
 have hbn:b<h.bn:=by
  have:=(List.getElem?_eq_some_iff.1 hx).1;rw[hbl.1.1] at this;exact this
 have HX:=Lib.hid hx
 have HAP:=Lib.hid hap
 have HNA:=Lib.hid hna
 have HPS:=Lib.hid hps
 have HBL:=Lib.hid hbl
 have HLV:=Lib.hid hlv
 have HCC:=Lib.hid hC
 have HC0:Hid (CS w r d l a R D L A w):=⟨CK.refl _,hR,hD,hL,hA,Chg.refl _ _⟩
 clear hx hap hna hps hbl hlv hC hR hD hL hA
 gi_upto_region 1 with (fail)
 generalize hw0:World.alloc _ _=w0
 have hb0:Below w.heap.size w w0:=by rw[←hw0];exact ext_trans (ext_alloc _ _) (ext_alloc _ _)
 have hp2:w0.heap[w.heap.size]? =some (.cells #[.pointer (some ⟨C,0,none⟩)] 109 (0,0)):=by rw[←hw0];exact block_ext (ext_alloc _ _) (heap_alloc_new _ _)
 have hp3:w0.heap[w.heap.size+1]? =some (.cells #[.int .i64 b] 3 (0,0)):=by
  have:=heap_alloc_new (w.alloc (.cells #[.pointer (some ⟨C,0,none⟩)] 109)) (.cells #[.int .i64 b] 3);rw[←hw0];simpa using this
 have K2:Hid (w0.cell? ⟨w.heap.size,0,none⟩=some (.pointer (some ⟨C,0,none⟩))):=by rw[Hid,cell_of_row _ _ _ _ _ _ hp2];rfl
 have K3:Hid (w0.cell? ⟨w.heap.size+1,0,none⟩=some (.int .i64 b)):=by rw[Hid,cell_of_row _ _ _ _ _ _ hp3];rfl
 have KC:Hid (∀j v,(colC h (some r) (some d) (some l) (some a) i o)[j]? =some v→w0.cell? ⟨C,j,none⟩=some v):=fun j v hj=>cell_ext hb0 (HCC.out j v hj)
 have HW0:Hid (Below w.heap.size w w0):=hb0
 have HC1:Hid (CS w0 r d l a R D L A w0):=let q:=HC0.out.ext hb0;⟨CK.refl _,q.fr,q.fd,q.fl,q.fa,Chg.refl _ _⟩
 replace HPS:=Lib.hid (HPS.out.ext hb0)
 replace HBL:=Lib.hid (HBL.out.ext hb0)
 replace HLV:=Lib.hid (HLV.out.ext hb0)
 have HSZ:Hid (w0.heap.size=w.heap.size+2):=by rw[Hid,←hw0];simp
 clear hw0 hb0 hp2 hp3 HC0 HCC
 generalize hP:w.heap.size=P at*
 have k3:=K3.out
 gi_upto_if 13 with (fail)
 clear k3
 gi_cut [] from 12 (fun wc=>Hid (CS w0 r d l a R (fun y=>D y∨y∈(if b=0 then ps else [])) L A wc))
 case first=>
  by_cases hb:b=0
  ·have hbe:((b:Int)==0)=true:=by simp[hb]
   have HBZ:=Lib.hid hb;clear hb;have hn1:Nonempty (ExtW w0):=⟨⟨w0,Below.refl _ _⟩⟩
   have hck:=HC1.out.ck;have g1:∀n:ExtW w0,n.val.cell? ⟨P,0,none⟩=some (.pointer (some ⟨C,0,none⟩)):=fun n=>hck.x K2.out n;have g2:∀n:ExtW w0,n.val.cell? ⟨C,7,none⟩=some (.map (some d)):=fun n=>hck.x (KC.out 7 _ rfl) n;have g3:∀n:ExtW w0,n.val.cell? ⟨C,3,none⟩=some (.slice h.pa h.pn h.pc):=fun n=>hck.x (KC.out 3 _ rfl) n;have g4:∀n:ExtW w0,C<n.val.heap.size:=fun n=>hck.xl (KC.out 3 _ rfl) n;clear hck
   gi_upto_region 2 with (fail)
   refine wpIn_wide.2 ?_;refine region_mix (fun w'=>∃n':ExtW w0,w'=n'.val) [(0,9,some (9,false))] (by kernel_rfl) (by kernel_rfl) ⟨⟨_,ext_drewN (Below.refl _ _) 1⟩,rfl⟩ ?_;simp only[wpMix,List.take_succ_cons,List.take_zero,List.drop_succ_cons,List.drop_zero]
   repeat (go_big_quiet_step (fail))
   refine wpQuiet_nil ?_;refine wpOp_at rfl rfl ?_;clear g1 g2 g3 g4;go_simp;refine(sAdd_any d D h.pa h.pn h.pc ps w0.drew (show VHas w0.drew d D from HC1.out.fd) (show Ints w0.drew h.pa h.pn ps from HPS.out)).mono ?_;rintro e w2 ⟨rfl,hv2,hg2⟩;have HC2:Hid (CS w0 r d l a R (fun y=>D y∨y∈ps) L A w2):=HC1.out.addD HAP.out hv2 ((Chg.refl _ w0).grown (row:=some d) ⟨hg2.os,hg2.tape,hg2.output,hg2.size,hg2.block⟩ fun k e=>by injection e with e;exact .inl e.symm);clear hv2 hg2;refine NoPanic.normal ?_
   gi_wp2
   gi_meet
   case rel=>rw[if_pos HBZ.out];exact HC2
  ·have hbe:((b:Int)==0)=false:=by simpa using hb
   gi_wp2
   gi_meet
   case rel=>rw[if_neg hb];exact HC1.out.congr (fun _=>Iff.rfl) (fun y=>by simp) (fun _=>Iff.rfl) (fun _=>Iff.rfl)
 case rest=>
  have HC2:=hcut;clear hcut HC1;obtain⟨bb,ob,hba,cb0⟩:∃bb ob,h.ba=some ⟨bb,ob,none⟩∧((w0.cell? ⟨bb,ob+b*5,none⟩=some (.slice x.h.ia x.h.n x.h.c))∧(w0.cell? ⟨bb,ob+b*5+1,none⟩=some (.int .i64 x.h.t.kind))∧(w0.cell? ⟨bb,ob+b*5+2,none⟩=some (.int .i64 x.h.t.a))∧(w0.cell? ⟨bb,ob+b*5+3,none⟩=some (.int .i64 x.h.t.t0))∧w0.cell? ⟨bb,ob+b*5+4,none⟩=some (.int .i64 x.h.t.t1)):=by
   obtain⟨r0,bb,ob,hr0,hok0,hba,c0,c1,c2,c3,c4⟩:=blksR_cells HBL.out hbn;rw[HX.out] at hr0;cases hr0;exact⟨bb,ob,hba,c0,c1,c2,c3,c4⟩
  have KB:=Lib.hid cb0;have HBA:=Lib.hid hba;have HXS:Hid (InsS w0 x.h.ia x.h.n x.rs∧TermOK x.h.t):=let q:=HBL.out.2 x (List.mem_of_getElem? HX.out);⟨q.2,q.1⟩;have hnx:=HXS.out.1.1.2.1;clear cb0 hba;have hn1:Nonempty (ExtW wc):=⟨⟨wc,Below.refl _ _⟩⟩
  have hck:=HC2.out.ck;have g1:∀n:ExtW wc,n.val.cell? ⟨P,0,none⟩=some (.pointer (some ⟨C,0,none⟩)):=fun n=>hck.x K2.out n;have g2:∀n:ExtW wc,n.val.cell? ⟨P+1,0,none⟩=some (.int .i64 b):=fun n=>hck.x K3.out n;have g3:∀n:ExtW wc,n.val.cell? ⟨C,4,none⟩=some (.slice (some ⟨bb,ob,none⟩) h.bn h.bc):=fun n=>by rw[←HBA.out];exact hck.x (KC.out 4 _ rfl) n
  have g4:∀n:ExtW wc,C<n.val.heap.size:=fun n=>hck.xl (KC.out 3 _ rfl) n;have g5:∀n:ExtW wc,n.val.cell? ⟨bb,ob+b*5,none⟩=some (.slice x.h.ia x.h.n x.h.c):=fun n=>hck.x KB.out.1 n;have g6:∀n:ExtW wc,bb<n.val.heap.size:=fun n=>hck.xl KB.out.1 n;clear hck
  gi_upto_region 3 with (fail)
  refine wpIn_wide.2 ?_;refine region_ext (by kernel_rfl) (by kernel_rfl) ?_
  repeat (go_big_quiet_step (fail))
  refine wpQuiet_nil ?_;rintro _ ⟨n0,rfl⟩;have HC3:=Lib.hid (HC2.out.ext n0.ext);clear g1 g2 g3 g4 g5 g6 hn1 HC2;generalize n0.val=w3 at*
  gi_wp2
  gi_loopw [5,6,34] (fun _ _ q wr=>∃k:Nat,q=.int .i64 k∧k≤x.h.n∧Hid (CS w0 r d l a (fun y=>R y∨y∈(x.rs.take k).flatMap fun r=>readsI r.d) (fun y=>(D y∨y∈(if b=0 then ps else []))∨y∈((x.rs.take k).map fun r=>definesV r.d).filter fun v=>decide (0<v)) L A wr)) (fun _ _ q _=>x.h.n-(intOf q).toNat)
  case atStart=>exact⟨0,rfl,by omega,HC3.out.congr (fun y=>by simp) (fun y=>by simp) (fun _=>Iff.rfl) (fun _=>Iff.rfl)⟩
  case round=>
   obtain⟨k,rfl,hk,HR⟩:=hrel;clear HC3;by_cases hlt:k<x.h.n
   ·have hE:InsS wr x.h.ia x.h.n x.rs:=HXS.out.1.ck HR.out.ck;obtain⟨r1,bi,oi,hr1,hok1,hia,c0,c1,c2,c3,c4,c5,c6,c7⟩:=hE.cells hlt;have HR1:=Lib.hid hr1;have HOK1:=Lib.hid hok1;rw[hia] at *;clear hE hr1 hok1 hia
    gi_upto_region 6 with (fail)
    generalize hw6:World.alloc wr _=w6;have hb6:Below wr.heap.size wr w6:=by rw[←hw6];exact ext_alloc _ _
    have HI6:Hid (w6.heap[wr.heap.size]? =some (insO r1.d r1.aa r1.na r1.ca)):=by rw[←hw6];exact heap_alloc_new _ _
    have HC6:=Lib.hid (HR.out.ext hb6);have HO6:Hid (InsOK w6 r1):=⟨HOK1.out.1.ext hb6,HOK1.out.2⟩
    generalize wr.heap.size=N at *;have hn1:Nonempty (ExtW w6):=⟨⟨w6,Below.refl _ _⟩⟩
    have hck:=HC6.out.ck;have g1:∀n:ExtW w6,n.val.cell? ⟨P,0,none⟩=some (.pointer (some ⟨C,0,none⟩)):=fun n=>hck.x K2.out n;have g2:∀n:ExtW w6,n.val.cell? ⟨C,6,none⟩=some (.map (some r)):=fun n=>hck.x (KC.out 6 _ rfl) n;have g4:∀n:ExtW w6,C<n.val.heap.size:=fun n=>hck.xl (KC.out 3 _ rfl) n;have g5:∀w',(∃n:ExtW w6,w'=n.val)→w'.heap[N]? =some (insO r1.d r1.aa r1.na r1.ca):=fun w' ⟨n,e⟩=>by rw[e];exact block_ext n.ext HI6.out
    clear hck hw6 hb6 c0 c1 c2 c3 c4 c5 c6 c7;refine wpIn_wide.2 ?_;refine region_mix (fun w'=>∃n':ExtW w6,w'=n'.val) [(0,5,some (5,true)),(6,0,some (6,false))] (by kernel_rfl) (by kernel_rfl) ⟨⟨_,ext_drewN (Below.refl _ _) 1⟩,rfl⟩ ?_;simp only[wpMix,List.take_succ_cons,List.take_zero,List.drop_succ_cons,List.drop_zero]
    repeat (first
     |((with_reducible show wpQuiet _ _ _ _ (⟨some 42,_,_,_,_,_⟩ :: _) _);refine wpQuiet_load_row (o:=⟨some 42,.load 60 _,_,_,_,_⟩) (by rfl) 60 _ rfl N rfl 60 _ (0,0) _ g5 Tryz.underlying60 rfl size_insR ?_;simp only[Act.put,List.setIfInBounds_toArray,List.set_cons_succ,List.set_cons_zero])
     |go_big_quiet_step (fail))
    refine wpQuiet_nil ?_;clear g1 g2 g4 g5;refine wpOp_at rfl rfl ?_;go_simp;obtain⟨q0,q1,q2,q3,q4,q5,q6,q7,q8⟩:=HO6.out;refine(readsI_any r1.d r1.aa r1.na r1.ca w6.drew (show Ints w6.drew _ _ _ from q0) q4 q5 q6 q7 (HNA.out r1 (List.mem_of_getElem? HR1.out))).mono ?_;clear q0 q1 q2 q3 q4 q5 q6 q7 q8;rintro e w7 ⟨v,rfl,ho,hb7⟩;obtain⟨av,cv,rfl⟩:=ho.form;have hb7:=unDrew1 hb7;have HC7:=Lib.hid (HC6.out.ext hb7);have HI7:Hid (w7.heap[N]? =some (insO r1.d r1.aa r1.na r1.ca)):=block_ext hb7 HI6.out;have HO7:Hid (InsOK w7 r1):=⟨HO6.out.1.ext hb7,HO6.out.2⟩
    have HT7:=Lib.hid ho.ints;refine⟨⟨⟨w7,hb7⟩,rfl⟩,?_⟩;clear ho hb7 HC6 HI6 HO6;refine wpQuiet_nil ?_;refine wpOp_at rfl rfl ?_;go_simp;refine(sAdd_any r _ av _ cv (readsI r1.d) w7 HC7.out.fr HT7.out).mono ?_;rintro e w8 ⟨rfl,hv8,hg8⟩;have hc8:=chg_of_grown hg8;have hk8:=CK.map HC7.out.fr hc8;have HC8:=Lib.hid (HC7.out.addR HAP.out hv8 hc8);have HI8:Hid (w8.heap[N]? =some (insO r1.d r1.aa r1.na r1.ca)):=(hc8.block N (lt_of_heap HI7.out) (HC7.out.fr.ne HI7.out)).trans HI7.out;have HO8:Hid (InsOK w8 r1):=⟨HO7.out.1.ck hk8,HO7.out.2⟩
    clear hv8 hg8 hc8 hk8 HC7 HI7 HO7 HT7;refine NoPanic.normal ?_
    gi_upto_region 7 with (fail)
    obtain⟨q0,q1,q2,q3,q4,q5,q6,q7,q8⟩:=HO8.out;have HDV:=Lib.hid (defines_any r1.d r1.aa r1.na r1.ca w8 q0 q4 q5 q6 q7);have hdv:=defines_var r1.d;clear q0 q1 q2 q3 q4 q5 q6 q7 q8 HO8;have HSR:Hid (∀y,y∈(x.rs.take (k+1)).flatMap (fun r=>readsI r.d)↔y∈(x.rs.take k).flatMap (fun r=>readsI r.d)∨y∈readsI r1.d):=fun y=>by rw[List.take_add_one,HR1.out,List.flatMap_append];simp
    have HSD:Hid (∀y,y∈((x.rs.take (k+1)).map fun r=>definesV r.d).filter (fun v=>decide (0<v))↔y∈((x.rs.take k).map fun r=>definesV r.d).filter (fun v=>decide (0<v))∨(0<definesV r1.d∧y=definesV r1.d)):=fun y=>by
     rw[List.take_add_one,HR1.out,List.map_append,List.filter_append,List.mem_append];refine or_congr Iff.rfl ?_;simp only[Option.toList_some,List.map_cons,List.map_nil,List.mem_filter,List.mem_singleton,decide_eq_true_eq];exact⟨fun⟨e,h⟩=>⟨by rw[←e];exact h,e⟩,fun⟨h,e⟩=>⟨e,by rw[e];exact h⟩⟩
    generalize definesV r1.d=dv at *;by_cases hd0:0<dv
    ·gi_wp2_with (first
      |((with_reducible show wpListIn _ _ _ _ _ (⟨some 45,.load _ _,_,_,_,_⟩ :: _) _ _);refine wpListIn_load_rowG rfl 60 _ rfl N rfl 60 _ (0,0) _ HI8.out Tryz.underlying60 rfl size_insR ?_)
      |(gi_at_call 100
        refine(callsIn_wide.2 HDV.out).mono ?_;rintro e w9 ⟨rfl,hb9⟩;have HC9:=Lib.hid (HC8.out.ext hb9);have d1:=HC9.out.ck _ _ _ K2.out;have d2:=HC9.out.ck _ _ _ (KC.out 7 _ rfl);have d3:=HC9.out.ck.l (KC.out 3 _ rfl)
        clear hb9)
      |(gi_at_call 37
        refine(callsIn_wide.2 (sAdd_any d _ (some ⟨w9.heap.size,0,none⟩) 1 1 [dv] (w9.alloc (.cells #[.int .i64 dv] 3)) (HC9.out.ext (ext_alloc _ _)).fd (ints_one w9 dv (by omega)))).mono ?_;rintro e w10 ⟨rfl,hv10,hg10⟩;have HC10:=Lib.hid ((HC9.out.ext (ext_alloc _ _)).addD HAP.out hv10 (chg_of_grown hg10))
        clear hv10 hg10))
     exact⟨⟨k+1,by go_num,by omega,HC10.out.congr (fun y=>by rw[HSR.out,or_assoc]) (fun y=>by rw[HSD.out,←or_assoc];simp[hd0]) (fun _=>Iff.rfl) (fun _=>Iff.rfl)⟩,by simp[intOf];omega⟩
    ·gi_wp2_with (first
      |((with_reducible show wpListIn _ _ _ _ _ (⟨some 45,.load _ _,_,_,_,_⟩ :: _) _ _);refine wpListIn_load_rowG rfl 60 _ rfl N rfl 60 _ (0,0) _ HI8.out Tryz.underlying60 rfl size_insR ?_)
      |(gi_at_call 100
        refine(callsIn_wide.2 HDV.out).mono ?_;rintro e w9 ⟨rfl,hb9⟩;have HC9:=Lib.hid (HC8.out.ext hb9)
        clear hb9))
     exact⟨⟨k+1,by go_num,by omega,HC9.out.congr (fun y=>by rw[HSR.out,or_assoc]) (fun y=>⟨fun h=>h.imp id fun z=>(HSD.out y).2 (.inl z),fun h=>h.imp id fun z=>((HSD.out y).1 z).elim id fun z=>absurd z.1 (by omega)⟩) (fun _=>Iff.rfl) (fun _=>Iff.rfl)⟩,by simp[intOf];omega⟩
   ·obtain rfl:k=x.h.n:=by omega
    have HR3:Hid (CS w0 r d l a (fun y=>R y∨y∈x.rs.flatMap fun r=>readsI r.d) (fun y=>D y∨y∈defM ps bs b) L A wr):=by
     have e:x.rs.take x.h.n=x.rs:=List.take_of_length_le (by rw[HXS.out.1.1.1];exact Nat.le_refl _);have e2:insAt bs b=x.rs:=by simp[insAt,HX.out]
     have:=HR.out;rw[e] at this;exact this.congr (fun _=>Iff.rfl) (fun y=>by unfold defM;rw[e2,List.mem_append,or_assoc]) (fun _=>Iff.rfl) (fun _=>Iff.rfl)
    clear HR hk hlt;have hn1:Nonempty (ExtW wr):=⟨⟨wr,Below.refl _ _⟩⟩
    have hck:=HR3.out.ck;have g1:∀n:ExtW wr,n.val.cell? ⟨P,0,none⟩=some (.pointer (some ⟨C,0,none⟩)):=fun n=>hck.x K2.out n;have g2:∀n:ExtW wr,n.val.cell? ⟨P+1,0,none⟩=some (.int .i64 b):=fun n=>hck.x K3.out n;have g3:∀n:ExtW wr,n.val.cell? ⟨C,4,none⟩=some (.slice (some ⟨bb,ob,none⟩) h.bn h.bc):=fun n=>by rw[←HBA.out];exact hck.x (KC.out 4 _ rfl) n
    have g4:∀n:ExtW wr,C<n.val.heap.size:=fun n=>hck.xl (KC.out 3 _ rfl) n;have g5:∀n:ExtW wr,n.val.cell? ⟨C,6,none⟩=some (.map (some r)):=fun n=>hck.x (KC.out 6 _ rfl) n;have g6:∀n:ExtW wr,n.val.cell? ⟨bb,ob+b*5+1,none⟩=some (.int .i64 x.h.t.kind):=fun n=>hck.x KB.out.2.1 n;have g7:∀n:ExtW wr,n.val.cell? ⟨bb,ob+b*5+2,none⟩=some (.int .i64 x.h.t.a):=fun n=>hck.x KB.out.2.2.1 n;have g8:∀n:ExtW wr,n.val.cell? ⟨bb,ob+b*5+3,none⟩=some (.int .i64 x.h.t.t0):=fun n=>hck.x KB.out.2.2.2.1 n;have g9:∀n:ExtW wr,n.val.cell? ⟨bb,ob+b*5+4,none⟩=some (.int .i64 x.h.t.t1):=fun n=>hck.x KB.out.2.2.2.2 n;have g0:∀n:ExtW wr,bb<n.val.heap.size:=fun n=>hck.xl KB.out.1 n;clear hck
    gi_upto_region 11 with (fail)
    refine wpIn_wide.2 ?_;refine region_mix (fun w'=>∃n':ExtW wr,w'=n'.val) [(0,13,some (13,true)),(14,0,some (14,false))] (by kernel_rfl) (by kernel_rfl) ⟨⟨_,ext_drewN (Below.refl _ _) 1⟩,rfl⟩ ?_;simp only[wpMix,List.take_succ_cons,List.take_zero,List.drop_succ_cons,List.drop_zero]
    repeat (go_big_quiet_step (fail))
    refine wpQuiet_nil ?_;clear g0 g1 g2 g3 g4 g5 g6 g7 g8 g9 hn1;refine wpOp_at rfl rfl ?_;go_simp;refine(needsT_any x.h.t wr.drew HXS.out.2).mono ?_;rintro e w7 ⟨v,rfl,ho,hb7⟩;obtain⟨av,cv,rfl⟩:=ho.form;have hb7:=unDrew1 hb7;have HC7:=Lib.hid (HR3.out.ext hb7);have HT7:=Lib.hid ho.ints;refine⟨⟨⟨w7,hb7⟩,rfl⟩,?_⟩;clear ho hb7 HR3;refine wpQuiet_nil ?_;refine wpOp_at rfl rfl ?_;go_simp;refine(sAdd_any r _ av _ cv (needsT x.h.t) w7 HC7.out.fr HT7.out).mono ?_;rintro e w8 ⟨rfl,hv8,hg8⟩
    have HC8:Hid (CS w0 r d l a (fun y=>R y∨y∈refM bs b) (fun y=>D y∨y∈defM ps bs b) L A w8):=(HC7.out.addR HAP.out hv8 (chg_of_grown hg8)).congr (fun y=>by
     have e2:insAt bs b=x.rs:=by simp[insAt,HX.out]
     have e3:endAt bs b=needsT x.h.t:=by simp[endAt,HX.out]
     unfold refM
     rw[e2,e3,List.mem_append,or_assoc]) (fun _=>Iff.rfl) (fun _=>Iff.rfl) (fun _=>Iff.rfl)
    clear hv8 hg8 HC7 HT7;refine NoPanic.normal ?_
    gi_upto_region 12 with (fail)
    obtain⟨gi,oi,ai,ci,hia,hic,hii⟩:=HLV.out.1 b hbn;have HIA:=Lib.hid hia;have HIC:=Lib.hid hic;have HII:=Lib.hid hii;clear hia hic hii;have hn1:Nonempty (ExtW w8):=⟨⟨w8,Below.refl _ _⟩⟩
    have hck:=HC8.out.ck;have g1:∀n:ExtW w8,n.val.cell? ⟨P,0,none⟩=some (.pointer (some ⟨C,0,none⟩)):=fun n=>hck.x K2.out n;have g2:∀n:ExtW w8,n.val.cell? ⟨P+1,0,none⟩=some (.int .i64 b):=fun n=>hck.x K3.out n;have g3:∀n:ExtW w8,n.val.cell? ⟨C,0,none⟩=some (.slice (some ⟨gi,oi,none⟩) h.bn h.lv.ic):=fun n=>by rw[←HIA.out];exact hck.x (KC.out 0 _ rfl) n
    have g4:∀n:ExtW w8,C<n.val.heap.size:=fun n=>hck.xl (KC.out 3 _ rfl) n;have g5:∀n:ExtW w8,n.val.cell? ⟨C,8,none⟩=some (.map (some l)):=fun n=>hck.x (KC.out 8 _ rfl) n;have g6:∀n:ExtW w8,n.val.cell? ⟨gi,oi+b,none⟩=some (.slice ai (vInL (bksL bs) b).length ci):=fun n=>hck.x HIC.out n;have g7:∀n:ExtW w8,gi<n.val.heap.size:=fun n=>hck.xl HIC.out n;clear hck;refine wpIn_wide.2 ?_;refine region_mix (fun w'=>∃n':ExtW w8,w'=n'.val) [(0,12,some (12,false))] (by kernel_rfl) (by kernel_rfl) ⟨⟨_,ext_drewN (Below.refl _ _) 1⟩,rfl⟩ ?_;simp only[wpMix,List.take_succ_cons,List.take_zero,List.drop_succ_cons,List.drop_zero]
    repeat (go_big_quiet_step (fail))
    refine wpQuiet_nil ?_;clear g1 g2 g3 g4 g5 g6 g7 hn1;refine wpOp_at rfl rfl ?_;go_simp;refine(sAdd_any l _ ai _ ci (vInL (bksL bs) b) w8.drew (show VHas w8.drew l _ from HC8.out.fl) (show Ints w8.drew _ _ _ from HII.out.ck HC8.out.ck)).mono ?_;rintro e w9 ⟨rfl,hv9,hg9⟩;have HC9:=Lib.hid (HC8.out.addL HAP.out hv9 ((Chg.refl _ w8).grown (row:=some l) ⟨hg9.os,hg9.tape,hg9.output,hg9.size,hg9.block⟩ fun k e=>by injection e with e;exact .inl e.symm));clear hv9 hg9 HC8 HIA HIC HII;refine NoPanic.normal ?_
    gi_upto_region 13 with (fail)
    obtain⟨gi,oi,ai,ci,hia,hic,hii⟩:=HLV.out.2.1 b hbn;have HIA:=Lib.hid hia;have HIC:=Lib.hid hic;have HII:=Lib.hid hii;clear hia hic hii;have hn1:Nonempty (ExtW w9):=⟨⟨w9,Below.refl _ _⟩⟩
    have hck:=HC9.out.ck;have g1:∀n:ExtW w9,n.val.cell? ⟨P,0,none⟩=some (.pointer (some ⟨C,0,none⟩)):=fun n=>hck.x K2.out n;have g2:∀n:ExtW w9,n.val.cell? ⟨P+1,0,none⟩=some (.int .i64 b):=fun n=>hck.x K3.out n;have g3:∀n:ExtW w9,n.val.cell? ⟨C,1,none⟩=some (.slice (some ⟨gi,oi,none⟩) h.bn h.lv.oc):=fun n=>by rw[←HIA.out];exact hck.x (KC.out 1 _ rfl) n
    have g4:∀n:ExtW w9,C<n.val.heap.size:=fun n=>hck.xl (KC.out 3 _ rfl) n;have g5:∀n:ExtW w9,n.val.cell? ⟨C,8,none⟩=some (.map (some l)):=fun n=>hck.x (KC.out 8 _ rfl) n;have g6:∀n:ExtW w9,n.val.cell? ⟨gi,oi+b,none⟩=some (.slice ai (vOutL (bksL bs) b).length ci):=fun n=>hck.x HIC.out n;have g7:∀n:ExtW w9,gi<n.val.heap.size:=fun n=>hck.xl HIC.out n;clear hck;refine wpIn_wide.2 ?_;refine region_mix (fun w'=>∃n':ExtW w9,w'=n'.val) [(0,12,some (12,false))] (by kernel_rfl) (by kernel_rfl) ⟨⟨_,ext_drewN (Below.refl _ _) 1⟩,rfl⟩ ?_;simp only[wpMix,List.take_succ_cons,List.take_zero,List.drop_succ_cons,List.drop_zero]
    repeat (go_big_quiet_step (fail))
    refine wpQuiet_nil ?_;clear g1 g2 g3 g4 g5 g6 g7 hn1;refine wpOp_at rfl rfl ?_;go_simp;refine(sAdd_any l _ ai _ ci (vOutL (bksL bs) b) w9.drew (show VHas w9.drew l _ from HC9.out.fl) (show Ints w9.drew _ _ _ from HII.out.ck HC9.out.ck)).mono ?_;rintro e w10 ⟨rfl,hv9,hg9⟩;have HC10:=Lib.hid (HC9.out.addL HAP.out hv9 ((Chg.refl _ w9).grown (row:=some l) ⟨hg9.os,hg9.tape,hg9.output,hg9.size,hg9.block⟩ fun k e=>by injection e with e;exact .inl e.symm));clear hv9 hg9 HC9 HIA HIC HII;refine NoPanic.normal ?_
    gi_upto_region 14 with (fail)
    obtain⟨gi,oi,ai,ci,hia,hic,hii⟩:=HLV.out.2.2 b hbn;have HIA:=Lib.hid hia;have HIC:=Lib.hid hic;have HII:=Lib.hid hii;have HMN:Hid (atN (bksL bs) b=x.h.n+1):=by
     unfold atN;rw[Hid,bksL_at HX.out];show(x.rs.map _).length+1=_;rw[List.length_map,HXS.out.1.1.1]
    rw[HMN.out] at HIC HII;clear hia hic hii;have hn1:Nonempty (ExtW w10):=⟨⟨w10,Below.refl _ _⟩⟩
    have hck:=HC10.out.ck;have g1:∀n:ExtW w10,n.val.cell? ⟨P,0,none⟩=some (.pointer (some ⟨C,0,none⟩)):=fun n=>hck.x K2.out n;have g2:∀n:ExtW w10,n.val.cell? ⟨P+1,0,none⟩=some (.int .i64 b):=fun n=>hck.x K3.out n;have g3:∀n:ExtW w10,n.val.cell? ⟨C,2,none⟩=some (.slice (some ⟨gi,oi,none⟩) h.bn h.lv.tc):=fun n=>by rw[←HIA.out];exact hck.x (KC.out 2 _ rfl) n
    have g4:∀n:ExtW w10,C<n.val.heap.size:=fun n=>hck.xl (KC.out 3 _ rfl) n;have g6:∀n:ExtW w10,n.val.cell? ⟨gi,oi+b,none⟩=some (.slice ai (x.h.n+1) ci):=fun n=>hck.x HIC.out n;have g7:∀n:ExtW w10,gi<n.val.heap.size:=fun n=>hck.xl HIC.out n;clear hck;refine wpIn_wide.2 ?_;refine region_ext (by kernel_rfl) (by kernel_rfl) ?_
    repeat (go_big_quiet_step (fail))
    refine wpQuiet_nil ?_;rintro _ ⟨n0,rfl⟩;have HC11:=Lib.hid (HC10.out.ext n0.ext);clear g1 g2 g3 g4 g6 g7 hn1 HC10;generalize n0.val=w11 at*
    gi_wp2
    gi_loopw [8,107] (fun _ q wr=>∃k:Nat,q=.int .i64 k∧k≤x.h.n+1∧Hid (CS w0 r d l a (fun y=>R y∨y∈refM bs b) (fun y=>D y∨y∈defM ps bs b) (fun y=>((L y∨y∈vInL (bksL bs) b)∨y∈vOutL (bksL bs) b)∨y∈(List.range k).flatMap (atL (bksL bs) b)) A wr)) (fun _ q _=>x.h.n+1-(intOf q).toNat)
    case atStart=>exact⟨0,rfl,by omega,HC11.out.congr (fun _=>Iff.rfl) (fun _=>Iff.rfl) (fun y=>by simp) (fun _=>Iff.rfl)⟩
    case round=>
     obtain⟨k,rfl,hk,HR⟩:=hrel;clear HC11;by_cases hlt:k<x.h.n+1
     ·obtain⟨g9,o9,a9,c9,e9,hcell9,hints9⟩:=(HII.out.ck HR.out.ck) k hlt;rw[e9] at *;have HI9:=Lib.hid hints9;have d1:=HR.out.ck _ _ _ K2.out;have d2:=HR.out.ck _ _ _ (KC.out 8 _ rfl);have d3:=HR.out.ck.l (KC.out 3 _ rfl);clear hints9 e9
      gi_wp2_with (
       (gi_at_call 37
        refine(callsIn_wide.2 (sAdd_any l _ a9 _ c9 (atL (bksL bs) b k) wr HR.out.fl HI9.out)).mono ?_;rintro e w12 ⟨rfl,hv9,hg9⟩;have HC12:=Lib.hid (HR.out.addL HAP.out hv9 (chg_of_grown hg9))
        clear hv9 hg9))
      exact⟨⟨k+1,by go_num,by omega,HC12.out.congr (fun _=>Iff.rfl) (fun _=>Iff.rfl) (fun y=>by rw[List.range_succ,List.flatMap_append,List.mem_append,←or_assoc];simp) (fun _=>Iff.rfl)⟩,by simp[intOf];omega⟩
     ·obtain rfl:k=x.h.n+1:=by omega
      have HC12:Hid (CS w0 r d l a (fun y=>R y∨y∈refM bs b) (fun y=>D y∨y∈defM ps bs b) (fun y=>L y∨y∈livM bs b) A wr):=HR.out.congr (fun _=>Iff.rfl) (fun _=>Iff.rfl) (fun y=>by
       have e2:insAt bs b=x.rs:=by simp[insAt,HX.out]
       unfold livM
       rw[e2,HXS.out.1.1.1,List.mem_append,List.mem_append,or_assoc,or_assoc,or_assoc]) (fun _=>Iff.rfl)
      have d1:=HR.out.ck _ _ _ K2.out;have d2:=HR.out.ck _ _ _ K3.out;clear HR hk hlt
      gi_wp2_with (
       (gi_at_call 101
        refine(callsIn_wide.2 (calls_any C b wr)).mono ?_;rintro e w19 ⟨rfl,hw19⟩;have HW19:=Lib.hid hw19
        clear hw19))
      obtain⟨G,hG⟩:∃G,wr.heap.size=G:=⟨_,rfl⟩
      have hb19:Below wr.heap.size wr w19:=by rw[HW19.out];exact ext_trans (ext_alloc _ _) (ext_alloc _ _)
      have hg0:w19.heap[G]? =some (.cells #[.pointer (some ⟨C,0,none⟩)] 109 (0,0)):=by rw[HW19.out,←hG];exact block_ext (ext_alloc _ _) (heap_alloc_new _ _)
      have hg1:w19.heap[G+1]? =some (.cells #[.int .i64 (b:Int)] 3 (0,0)):=by
       have:=heap_alloc_new (wr.alloc (.cells #[.pointer (some ⟨C,0,none⟩)] 109)) (.cells #[.int .i64 (b:Int)] 3);rw[HW19.out,←hG];simpa using this
      have hz19:w0.heap.size≤w19.heap.size:=(HC12.out.ext hb19).ch.size
      have HRD:Hid (CS w0 r d l a (fun y=>R y∨y∈refM bs b) (fun y=>D y∨y∈defM ps bs b) (fun y=>L y∨y∈livM bs b) (fun y=>A y∨y∈acrF bs b []) w19∧w19.heap[G]? =some (.cells #[.pointer (some ⟨C,0,none⟩)] 109 (0,0))∧w19.heap[G+1]? =some (.cells #[.int .i64 (b:Int)] 3 (0,0))):=
       ⟨(HC12.out.ext hb19).congr (fun _=>Iff.rfl) (fun _=>Iff.rfl) (fun _=>Iff.rfl) (fun y=>by simp[acrF]),hg0,hg1⟩
      rw[hG];clear HC12 hb19 hg0 hg1 d1 d2 HW19 hG
      refine range_listNG (ps:=#[121,122]) (gf:=142) (lb:=#[.pointer (some ⟨G,0,none⟩),.pointer (some ⟨G+1,0,none⟩)]) (enc:=encBIns) (l:=callsFrom 0 x.rs) rfl enter_calls (CallI h bs C G b) (calls_iterI h bs C G b x HX.out) (fun _=>rfl)
       (fun dd _ W=>Hid (CS w0 r d l a (fun y=>R y∨y∈refM bs b) (fun y=>D y∨y∈defM ps bs b) (fun y=>L y∨y∈livM bs b) (fun y=>A y∨y∈acrF bs b dd) W∧W.heap[G]? =some (.cells #[.pointer (some ⟨C,0,none⟩)] 109 (0,0))∧W.heap[G+1]? =some (.cells #[.int .i64 (b:Int)] 3 (0,0)))) (fun _ _=>False)
       (fun dd _=>(CS.steady hz19).and ((Steady.block _ _ rfl).and (Steady.block _ _ rfl))) (fun _=>Steady.pure _ _) ?hInv HRD ?round ?done ?stop
      case hInv=>
       intro dd s W hj;obtain⟨h1,h2,h3⟩:=hj.out;exact⟨h2,h3,h1.ck _ _ _ (KC.out 4 _ rfl),HBL.out.ck h1.ck⟩
      case stop=>rintro D' c W hD h;exact h.elim
      case round=>
       rintro lp dd ⟨n,r1⟩ s W hd hJ;have HMM:=Lib.hid (mem_callsFrom.1 (show(n,r1)∈callsFrom 0 x.rs by rw[hd];simp));have HJ:=Lib.hid hJ.out;unfold encBIns;clear hJ hd
       gi_wp2
       refine⟨Keep.alloc _ _,((CS.steady (B:=w0.heap.size) (Nat.le_refl _)).and ((Steady.block _ _ rfl).and (Steady.block _ _ rfl))).ext HJ.out (ext_alloc _ _),fun V=>Hid (V.heap[W.heap.size]? =some (insO r1.d r1.aa r1.na r1.ca)),Steady.block _ _ rfl,heap_alloc_new _ _,?_⟩;obtain⟨N,hN⟩:∃N,W.heap.size=N:=⟨_,rfl⟩
       rw[hN];clear HJ hN lp W;rintro lp W2 hlp _ hJ2 hG2;obtain⟨hj1,hj2,hj3⟩:=hJ2.out;have HJ1:=Lib.hid hj1;have HJ2:=Lib.hid hj2;have HJ3:=Lib.hid hj3;have HN:=Lib.hid hG2.out;obtain⟨j,hj0,hj4,hj5⟩:=HMM.out;rw[Nat.zero_add] at hj0;subst hj0;have hnl:n<x.h.n:=by have:=(List.getElem?_eq_some_iff.1 hj4).1;rw[HXS.out.1.1.1] at this;exact this
       clear hj1 hj2 hj3 hj4 hj5 hG2 hJ2 HMM hlp;obtain⟨g9,o9,a9,c9,e9,hcell9,hints9⟩:=(HII.out.ck HJ1.out.ck) (n+1) (by omega)
       have HI9:=Lib.hid hints9;have hn1:Nonempty (ExtW W2):=⟨⟨W2,Below.refl _ _⟩⟩
       have hck:=HJ1.out.ck;have g1:∀n:ExtW W2,n.val.cell? ⟨P,0,none⟩=some (.pointer (some ⟨C,0,none⟩)):=fun n=>hck.x K2.out n;have g2:∀n:ExtW W2,n.val.cell? ⟨P+1,0,none⟩=some (.int .i64 b):=fun n=>hck.x K3.out n;have g3:∀n:ExtW W2,n.val.cell? ⟨C,2,none⟩=some (.slice (some ⟨gi,oi,none⟩) h.bn h.lv.tc):=fun n=>by rw[←HIA.out];exact hck.x (KC.out 2 _ rfl) n
       have g4:∀n:ExtW W2,C<n.val.heap.size:=fun n=>hck.xl (KC.out 3 _ rfl) n;have g5:∀n:ExtW W2,n.val.cell? ⟨C,9,none⟩=some (.map (some a)):=fun n=>hck.x (KC.out 9 _ rfl) n;have g6:∀n:ExtW W2,n.val.cell? ⟨gi,oi+b,none⟩=some (.slice ai (x.h.n+1) ci):=fun n=>hck.x HIC.out n;have g7:∀n:ExtW W2,gi<n.val.heap.size:=fun n=>hck.xl HIC.out n;rw[e9] at g6;have g8:∀m:ExtW W2,m.val.cell? ⟨g9,o9+(n+1),none⟩=some (.slice a9 (atL (bksL bs) b (n+1)).length c9):=fun m=>ExtW.cell hcell9 m;have g9':∀m:ExtW W2,g9<m.val.heap.size:=fun m=>Nat.lt_of_lt_of_le (World.block_lt_of_cell? _ _ hcell9) m.ext.size;clear hck hints9 hcell9
       gi_upto_region 23 with (fail)
       refine round_mix (fun w'=>∃n:ExtW W2,w'=n.val) [(0,16,none),(17,1,some (16,true)),(18,0,some (18,true)),(19,0,some (19,false))] (by kernel_rfl) (by kernel_rfl) (by kernel_rfl) (by repeat (first|exact noOut_round|refine noOut_then ?_|refine noOut_block ?_)) ⟨⟨_,ext_drewN (Below.refl _ _) 1⟩,rfl⟩ ?_;simp only[wpMix,List.take_succ_cons,List.take_zero,List.drop_succ_cons,List.drop_zero]
       repeat (go_big_quiet_step (fail))
       refine wpQuiet_nil ?_
       repeat (go_big_quiet_step (fail))
       refine wpQuiet_nil ?_;clear g1 g2 g3 g4 g5 g6 g7 g8 g9' hn1;refine wpOp_at rfl rfl ?_;go_simp;refine(cloneInts_any a9 _ c9 (atL (bksL bs) b (n+1)) W2.drew (show Ints W2.drew _ _ _ from HI9.out)).mono ?_;rintro e w3 ⟨v,rfl,ho,hb3⟩;have hb3:=unDrew1 hb3;have HB3:=Lib.hid hb3;have HO3:Hid (OwnI w3 W2.heap.size v (atL (bksL bs) b (n+1))):=ho;have HN3:Hid (w3.cell? ⟨N,1,none⟩=some (.int .i64 r1.d.dst)):=by rw[Hid,cell_of_row _ _ _ _ _ _ (block_ext hb3 HN.out)];rfl
       refine⟨⟨⟨w3,hb3⟩,rfl⟩,?_⟩;clear ho hb3;refine wpQuiet_nil ?_;refine wpOp_at rfl rfl ?_;go_simp;refine(deleteI_any W2.heap.size N r1.d.dst v (atL (bksL bs) b (n+1)) w3 HO3.out (Nat.le_trans (varsL_len _) (by omega)) HB3.out.size (lt_of_heap HN.out) HN3.out).mono ?_;rintro e w4 ⟨v',rfl,ho4,hb4⟩;obtain⟨av,cv,rfl⟩:=ho4.form;have HB4:Hid (Below W2.heap.size W2 w4):=⟨hb4.os.trans HB3.out.os,hb4.tape.trans HB3.out.tape,hb4.output.trans HB3.out.output,Nat.le_trans HB3.out.size hb4.size,fun k hk=>(hb4.block k hk).trans (HB3.out.block k hk)⟩
       have HI4:=Lib.hid ho4.ints;refine⟨⟨⟨w4,HB4.out⟩,rfl⟩,?_⟩;clear ho4 hb4;refine wpQuiet_nil ?_;refine wpOp_at rfl rfl ?_;go_simp;refine(sAdd_any a _ av _ cv (lessL (atL (bksL bs) b (n+1)) [r1.d.dst]) w4 (HJ1.out.ext HB4.out).fa HI4.out).mono ?_;rintro e w5 ⟨rfl,hv5,hg5⟩;have hc5:=chg_of_grown hg5;have ha4:=(HJ1.out.ext HB4.out).fa;have HC5:=Lib.hid ((HJ1.out.ext HB4.out).addA HAP.out hv5 hc5);have HK5:=Lib.hid ((Keep.ext HB4.out).trans (keep_map ha4 hc5));have HG0:=Lib.hid ((hc5.block _ (lt_of_heap (block_ext HB4.out HJ2.out)) (ha4.ne (block_ext HB4.out HJ2.out))).trans (block_ext HB4.out HJ2.out));have HG1:=Lib.hid ((hc5.block _ (lt_of_heap (block_ext HB4.out HJ3.out)) (ha4.ne (block_ext HB4.out HJ3.out))).trans (block_ext HB4.out HJ3.out));clear hv5 hg5 hc5 ha4;refine NoPanic.normal ?_
       gi_wp2
       exact⟨HK5.out,HC5.out.congr (fun _=>Iff.rfl) (fun _=>Iff.rfl) (fun _=>Iff.rfl) (fun y=>by unfold acrF;rw[List.flatMap_append,List.mem_append,or_assoc];simp),HG0.out,HG1.out⟩
      case done=>
       rintro D' W hD hJ hdf;obtain⟨h1,_,_⟩:=hJ.out;have HDF:=Lib.hid hdf;have h2:=(CS.steady (Nat.le_trans hz19 hD)).put (.deferred none) (l:=D') h1 (Nat.le_refl _) hdf rfl;have HF:Hid (CS w r d l a (fun y=>R y∨y∈refM bs b) (fun y=>D y∨y∈defM ps bs b) (fun y=>L y∨y∈livM bs b) (fun y=>A y∨y∈acrM bs b) (W.putObj D' (.deferred none))):=(h2.congr (fun _=>Iff.rfl) (fun _=>Iff.rfl) (fun _=>Iff.rfl) (fun y=>by rw[acrF_mem HX.out])).base (by rw[hP];exact HW0.out);clear hJ hdf h1 h2
       gi_wp2
       refine⟨by simp,.inl ⟨_,_,rfl,run_takeDeferred HDF.out,?_⟩⟩;exact⟨.tuple #[],by simp[results,Tryz.results62,go_sem],rfl,HF.out⟩
end
end Go.Proofs.YtnmkjliioogbgaaGreatDoor
