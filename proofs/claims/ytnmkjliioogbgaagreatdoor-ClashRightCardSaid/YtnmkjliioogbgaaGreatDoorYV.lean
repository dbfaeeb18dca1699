/-
 sets.Needs.
-/
import Derived.Test.YtnmkjliioogbgaaGreatDoorVR
import Derived.Test.YtnmkjliioogbgaaGreatDoorYR
import Derived.Test.YtnmkjliioogbgaaGreatDoorPG
import Derived.Test.YtnmkjliioogbgaaGreatDoorQueueS
import Derived.Test.YtnmkjliioogbgaaGreatDoorPE
import Derived.Test.YtnmkjliioogbgaaGreatDoorED
namespace Go.Proofs.YtnmkjliioogbgaaGreatDoor
set_option linter.unusedSimpArgs false
set_option linter.unusedVariables false
set_option linter.unusedSectionVars false
set_option maxRecDepth 100000
set_option maxHeartbeats 40000000
section
open Go.RowKit Go.Shelf
attribute [local go_sem] Oper.semAt_some wide_fn wide_depth wide_fnR wide_depthR
def NeedsPost(ps:List Int)(bs:List BlkR)(ls:List TileR)(k:Int)(w:World)(e:Ending)(w':World):Prop:=
 ∃v:Value,e=.returned (.tuple #[v,.int .i64 (ofE ps bs (tdOf ls) k)])∧OwnI w' w.heap.size v (needM ps bs (tdOf ls) k)∧Below w.heap.size w w'
theorem sNeeds_any(pa:Option Addr)(pn pc:Nat)(ps:List Int)(ba:Option Addr)(bn bc:Nat)(bs:List BlkR)(ta:Option Addr)(tn tc:Nat)(ls:List TileR)(k:Int)(w:World)(hp:Ints w pa pn ps)(h:BlksR w ba bn bs)(ht:TilesOK w ta tn ls)(hL:totL (tdOf ls)≤1000000)(hT:Tab w)(hk:I64 k):
  Calls Tryz.prog 27 #[funcV pa pn pc ba bn bc,.slice ta tn tc,.int .i64 k] w (NeedsPost ps bs ls k w):=by
 have HPI:=Lib.hid hp
 have HB:=Lib.hid h
 have HTL:=Lib.hid ht
 have HTOT:=Lib.hid hL
 have HTB:=Lib.hid hT
 have HK:=Lib.hid hk
 clear hp h ht hL hT hk
 go_enter Tryz.func27,Tryz.ntmps27
 go_upto_region 1 with (fail)
 obtain⟨w0,hw0⟩:∃w0,w0=w.alloc (funcO pa pn pc ba bn bc):=⟨_,rfl⟩
 rw[←hw0]
 have HB0:Hid (Below w.heap.size w w0):=by rw[hw0];exact ext_alloc _ _
 have HF0:Hid (w0.heap[w.heap.size]? =some (funcO pa pn pc ba bn bc)):=by rw[hw0];exact heap_alloc_new _ _
 clear hw0
 have hmm:= @run_makeMap Tryz.prog
 go_upto_region 3 with (first
  |(refine wpList_load_row (o:=⟨some 12,.load 40 _,_,_,_,_⟩) rfl 40 _ rfl w.heap.size rfl 40 _ (0,0) _ HF0.out Tryz.underlying40 rfl size_func ?_)
  |(go_at_call 24
    refine(sOf_any pa pn pc ps ba bn bc bs ta tn tc ls k w0 (HPI.out.ext HB0.out) (HB.out.ext HB0.out) (HTL.out.ext HB0.out) HTOT.out (HTB.out.ext HB0.out) HK.out).mono ?_;rintro e w1 ⟨v,rfl,ho,hb1⟩;obtain⟨a0,c0,e0⟩:=(ho 0 (by omega)).form;obtain⟨a1,c1,e1⟩:=(ho 1 (by omega)).form;obtain⟨a2,c2,e2⟩:=(ho 2 (by omega)).form;obtain⟨a3,c3,e3⟩:=(ho 3 (by omega)).form;obtain⟨a4,c4,e4⟩:=(ho 4 (by omega)).form;obtain⟨a5,c5,e5⟩:=(ho 5 (by omega)).form;obtain⟨a6,c6,e6⟩:=(ho 6 (by omega)).form
    replace e1:v 1=.slice a1 (ofM ps bs (tdOf ls) k).defs.length c1:=e1
    replace e2:v 2=.slice a2 (ofM ps bs (tdOf ls) k).live.length c2:=e2
    have HO1:Hid (OwnI w1 w0.heap.size (.slice a1 (ofM ps bs (tdOf ls) k).defs.length c1) (ofM ps bs (tdOf ls) k).defs):=(by rw[Hid,←e1];exact ho 1 (by omega))
    have HO2:Hid (OwnI w1 w0.heap.size (.slice a2 (ofM ps bs (tdOf ls) k).live.length c2) (ofM ps bs (tdOf ls) k).live):=(by rw[Hid,←e2];exact ho 2 (by omega))
    generalize ((ofM ps bs (tdOf ls) k).rows.getD 0 []).length=l0 at e0;generalize ((ofM ps bs (tdOf ls) k).rows.getD 3 []).length=l3 at e3;generalize ((ofM ps bs (tdOf ls) k).rows.getD 4 []).length=l4 at e4;generalize ((ofM ps bs (tdOf ls) k).rows.getD 5 []).length=l5 at e5;generalize ((ofM ps bs (tdOf ls) k).rows.getD 6 []).length=l6 at e6;simp only[e0,e1,e2,e3,e4,e5,e6];have HB1:=Lib.hid (ext_trans HB0.out hb1)
    clear hb1 ho e0 e1 e2 e3 e4 e5 e6))
 clear hmm
 obtain⟨LL,hLL⟩:∃LL,LL=(ofM ps bs (tdOf ls) k).live:=⟨_,rfl⟩
 obtain⟨DD,hDD⟩:∃DD,DD=(ofM ps bs (tdOf ls) k).defs:=⟨_,rfl⟩
 have HND:Hid (needM ps bs (tdOf ls) k=risL (LL++DD)):=by rw[hLL,hDD];rfl
 have HVR:Hid (∀y∈LL++DD,1≤y∧y≤200):=by
  rw[hLL,hDD];intro y hy;unfold ofM at hy
  split at hy
  ·rcases List.mem_append.1 hy with h1|h1
   ·have:=risL_mem.1 h1;exact⟨this.1,this.2.1⟩
   ·have:=risL_mem.1 h1;exact⟨this.1,this.2.1⟩
  ·cases hy
 rw[←hLL,←hDD]
 rw[←hLL] at HO2
 rw[←hDD] at HO1
 clear hLL hDD
 obtain⟨wa,hwa⟩:∃wa,wa=w1.alloc (.cells #[.slice a0 l0 c0,.slice a1 DD.length c1,.slice a2 LL.length c2,.slice a3 l3 c3,.slice a4 l4 c4,.slice a5 l5 c5,.slice a6 l6 c6] 72):=⟨_,rfl⟩
 rw[←hwa]
 have hsa:wa.heap.size=w1.heap.size+1:=by rw[hwa];simp
 have hba:Below w1.heap.size w1 wa:=by rw[hwa];exact ext_alloc _ _
 have hoa:wa.heap[w1.heap.size]? =some (.cells #[.slice a0 l0 c0,.slice a1 DD.length c1,.slice a2 LL.length c2,.slice a3 l3 c3,.slice a4 l4 c4,.slice a5 l5 c5,.slice a6 l6 c6] 72 (0,0)):=by rw[hwa];exact heap_alloc_new _ _
 obtain⟨w2,hw2⟩:∃w2,w2=wa.alloc (.map #[] 0):=⟨_,rfl⟩
 rw[←hw2]
 have hm2:VHas w2 (w1.heap.size+1) fun _=>False:=by rw[hw2,←hsa];exact⟨[],SetM.made _ _ _ _,fun y=>by simp⟩
 have hb2:Below w1.heap.size w1 w2:=by rw[hw2];exact ext_trans hba (ext_alloc _ _)
 have ho2:=block_ext (show Below wa.heap.size wa w2 by rw[hw2];exact ext_alloc _ _) hoa
 have HM2:=Lib.hid hm2
 have HB2:=Lib.hid (ext_trans HB1.out hb2)
 have HL2:=Lib.hid (HO2.out.ints.ext hb2)
 have HD2:=Lib.hid (HO1.out.ints.ext hb2)
 have HLW:Hid (w.heap.size≤w1.heap.size):=HB1.out.size
 have h2:w2.cell? ⟨w1.heap.size,2,none⟩=some (.slice a2 LL.length c2):=by rw[cell_of_row _ _ _ _ _ _ ho2];rfl
 have h1:w2.cell? ⟨w1.heap.size,1,none⟩=some (.slice a1 DD.length c1):=by rw[cell_of_row _ _ _ _ _ _ ho2];rfl
 have hl:=lt_of_heap ho2
 clear hwa hsa hba hoa hw2 hm2 hb2 ho2 HO1 HO2
 generalize w1.heap.size=P8 at*
 go_wp2_with (first
  |(go_at_call 37
    refine(sAdd_any (P8+1) _ a1 _ c1 DD w4 HV4.out HD4.out).mono ?_;rintro e w5 ⟨rfl,hv5,hg5⟩;have HV5:=Lib.hid hv5;have HC5:=Lib.hid (chg_of_grown hg5)
    clear hv5 hg5 h14)
  |(go_at_call 37
    refine(sAdd_any (P8+1) _ a2 _ c2 LL w2 HM2.out HL2.out).mono ?_;rintro e w4 ⟨rfl,hv4,hg4⟩;have hck:=CK.map HM2.out (chg_of_grown hg4);have h14:=hck _ _ _ h1;have hl4:P8<w4.heap.size:=Nat.lt_of_lt_of_le hl (chg_of_grown hg4).size;have HV4:=Lib.hid hv4;have HD4:=Lib.hid (HD2.out.ck hck);have HC4:=Lib.hid (chg_of_grown hg4)
    clear hv4 hg4 hck h1 h2)
  |(go_at_call 38
    refine(sList_any (P8+1) _ (LL++DD) w5 HV5.out (fun y=>by rw[List.mem_append];simp) HVR.out).mono ?_;rintro e w6 ⟨v,rfl,ho,hb6⟩;have HO6:=Lib.hid ho;have HB6:=Lib.hid hb6
    clear ho hb6))
 refine bodyPost_ret (v:=.tuple #[v,.int .i64 (ofE ps bs (tdOf ls) k)]) (by simp[results,Tryz.results27,go_sem]) rfl ?_
 have hc:Chg (fun j=>j=P8+1) w2 w5:=HC4.out.trans HC5.out
 have hlw:=HLW.out
 have hb5:Below w.heap.size w w5:=⟨hc.os.trans HB2.out.os,hc.tape.trans HB2.out.tape,hc.output.trans HB2.out.output,Nat.le_trans HB2.out.size hc.size,fun q hq=>(hc.block q (Nat.lt_of_lt_of_le hq HB2.out.size) (by omega)).trans (HB2.out.block q hq)⟩
 exact⟨v,rfl,by rw[HND.out];exact HO6.out.mono hb5.size,ext_trans hb5 HB6.out⟩
end

section
open Go.RowKit Go.Shelf
attribute [local go_sem] Oper.semAt_some wide_fn wide_depth wide_fnR wide_depthR
section
variable {W W':World} {g:Nat} {va:Option Addr} {vn vc:Nat} {pa:Option Addr} {pn pc:Nat} {aa:Option Addr} {an ac:Nat}
theorem graph_ne{b o:Nat}{x:Int}(hr:W.heap[g]? =some (graphO va vn vc pa pn pc aa an ac))(hc:W.cell? ⟨b,o,none⟩=some (.int .i64 x)):b≠g:=fun e=>by
 subst e
 rw[cell_of_row _ _ _ _ _ _ hr] at hc
 match o,hc with
 |0,hc=>simp at hc
 |1,hc=>simp at hc
 |2,hc=>simp at hc
 |_+3,hc=>simp at hc
theorem cell_other{b o:Nat}(hb:W'.heap[b]? =W.heap[b]?):W'.cell? ⟨b,o,none⟩=W.cell? ⟨b,o,none⟩:=by unfold World.cell?;simp only[hb]
theorem ints_graph(hr:W.heap[g]? =some (graphO va vn vc pa pn pc aa an ac))(hb:∀k,k≠g→W'.heap[k]? =W.heap[k]?){a:Option Addr}{n:Nat}{xs:List Int}(h:Ints W a n xs):Ints W' a n xs:=⟨h.1,h.2.1,fun k hk=>by
 obtain⟨b,o,e,hc,h1⟩:=h.2.2 k hk
 exact⟨b,o,e,(cell_other (hb b (graph_ne hr hc))).trans hc,h1⟩⟩
theorem prs_graph(hr:W.heap[g]? =some (graphO va vn vc pa pn pc aa an ac))(hb:∀k,k≠g→W'.heap[k]? =W.heap[k]?){a:Option Addr}{n:Nat}{ls:List Pr2}(h:PrS W a n ls):PrS W' a n ls:=⟨h.1,h.2.1,fun k r hk=>by
 obtain⟨b,o,e,hc⟩:=h.2.2 k r hk
 have h0:W.cell? ⟨b,o+k*2,none⟩=some (.int .i64 r.1):=hc 0 (by omega)
 exact⟨b,o,e,fun j hj=>(cell_other (hb b (graph_ne hr h0))).trans (hc j hj)⟩⟩
end
def COfPost(vs l:List Int)(y:Pr2)(w:World)(e:Ending)(w':World):Prop:=
 ∃va vn vc pa pn pc aa an ac,e=.returned (.tuple #[graphV va vn vc pa pn pc aa an ac,.int .i64 0])∧Ints w' va vn vs∧PrS w' pa pn [y]∧Ints w' aa an l∧Below w.heap.size w w'
theorem cOfOne_any(pa:Option Addr)(pn pc:Nat)(ps:List Int)(ba:Option Addr)(bn bc:Nat)(bs:List BlkR)(ta:Option Addr)(tn tc:Nat)(ls:List TileR)(t:TileR)(b:Nat)(y:Pr2)(w:World)(hp:Ints w pa pn ps)(h:BlksR w ba bn bs)(ht:TilesOK w ta tn ls)(hL:totL (tdOf ls)≤1000000)(hT:Tab w)
  (hE:ofE ps bs (tdOf ls) 0=0) (hR:rightE ps bs=0) (h0:ls[0]? =some t) (hbl:t.d.blocks= [(b:Int)]) (hb:b<bs.length) (hN:atN (bksL bs) b≤17592186044416) (hy:∀z,z∈(meshL (bksL bs) b).flatMap starL↔z=y):
  Calls Tryz.prog 14 #[funcV pa pn pc ba bn bc,.slice ta tn tc,.int .i64 0] w (COfPost (needM ps bs (tdOf ls) 0) (ofM ps bs (tdOf ls) 0).across y w):=by
 have HPI:=Lib.hid hp
 have HB:=Lib.hid h
 have HTL:=Lib.hid ht
 have HTOT:=Lib.hid hL
 have HTB:=Lib.hid hT
 have HE:=Lib.hid hE
 have HR:=Lib.hid hR
 have H0:=Lib.hid h0
 have HBL:=Lib.hid hbl
 have HBB:=Lib.hid hb
 have HNN:=Lib.hid hN
 have HY:=Lib.hid hy
 clear hp h ht hL hT hE hR h0 hbl hb hN hy
 go_enter Tryz.func14,Tryz.ntmps14
 go_upto_region 1 with (fail)
 obtain⟨w0,hw0⟩:∃w0,w0=(w.alloc (funcO pa pn pc ba bn bc)).alloc (graphO none 0 0 none 0 0 none 0 0):=⟨_,rfl⟩
 rw[←hw0]
 have HB0:Hid (Below w.heap.size w w0):=by rw[hw0];exact ext_trans (ext_alloc _ _) (ext_alloc _ _)
 have HF0:Hid (w0.heap[w.heap.size]? =some (funcO pa pn pc ba bn bc)):=by rw[hw0];exact block_ext (ext_alloc _ _) (heap_alloc_new _ _)
 have HG0:Hid (w0.heap[w.heap.size+1]? =some (graphO none 0 0 none 0 0 none 0 0)):=by rw[hw0];exact heap_at _ _ _ (by simp)
 clear hw0
 go_upto_region 4 with (first
  |(refine wpList_load_row (o:=⟨some 17,.load 40 _,_,_,_,_⟩) rfl 40 _ rfl w.heap.size rfl 40 _ (0,0) _ HF0.out Tryz.underlying40 rfl size_func ?_)
  |(go_at_call 24
    refine(sOf_any pa pn pc ps ba bn bc bs ta tn tc ls 0 w0 (HPI.out.ext HB0.out) (HB.out.ext HB0.out) (HTL.out.ext HB0.out) HTOT.out (HTB.out.ext HB0.out) (by unfold I64;omega)).mono ?_;rintro e w1 ⟨v,he,ho,hb1⟩;rw[HE.out] at he;subst he;obtain⟨a0,c0,e0⟩:=(ho 0 (by omega)).form;obtain⟨a1,c1,e1⟩:=(ho 1 (by omega)).form;obtain⟨a2,c2,e2⟩:=(ho 2 (by omega)).form;obtain⟨a3,c3,e3⟩:=(ho 3 (by omega)).form;obtain⟨a4,c4,e4⟩:=(ho 4 (by omega)).form;obtain⟨a5,c5,e5⟩:=(ho 5 (by omega)).form;obtain⟨a6,c6,e6⟩:=(ho 6 (by omega)).form
    replace e3:v 3=.slice a3 (ofM ps bs (tdOf ls) 0).across.length c3:=e3
    have HO3:Hid (OwnI w1 w0.heap.size (.slice a3 (ofM ps bs (tdOf ls) 0).across.length c3) (ofM ps bs (tdOf ls) 0).across):=(by rw[Hid,←e3];exact ho 3 (by omega))
    generalize ((ofM ps bs (tdOf ls) 0).rows.getD 0 []).length=l0 at e0;generalize ((ofM ps bs (tdOf ls) 0).rows.getD 1 []).length=l1 at e1;generalize ((ofM ps bs (tdOf ls) 0).rows.getD 2 []).length=l2 at e2;generalize ((ofM ps bs (tdOf ls) 0).rows.getD 4 []).length=l4 at e4;generalize ((ofM ps bs (tdOf ls) 0).rows.getD 5 []).length=l5 at e5;generalize ((ofM ps bs (tdOf ls) 0).rows.getD 6 []).length=l6 at e6;simp only[e0,e1,e2,e3,e4,e5,e6];have HB1:=Lib.hid (ext_trans HB0.out hb1);have HX1:=Lib.hid hb1
    clear hb1 ho e0 e1 e2 e3 e4 e5 e6))
 obtain⟨AC,hAC⟩:∃AC,AC=(ofM ps bs (tdOf ls) 0).across:=⟨_,rfl⟩
 rw[←hAC] at HO3⊢
 have HAC:=Lib.hid hAC
 clear hAC
 obtain⟨w2,hw2⟩:∃z,z=w1.alloc (.cells #[.slice a0 l0 c0,.slice a1 l1 c1,.slice a2 l2 c2,.slice a3 AC.length c3,.slice a4 l4 c4,.slice a5 l5 c5,.slice a6 l6 c6] 72):=⟨_,rfl⟩
 rw[←hw2]
 have HX2:Hid (Below w1.heap.size w1 w2):=by rw[hw2];exact ext_alloc _ _
 have HS2:Hid (w2.heap[w1.heap.size]? =some (.cells #[.slice a0 l0 c0,.slice a1 l1 c1,.slice a2 l2 c2,.slice a3 AC.length c3,.slice a4 l4 c4,.slice a5 l5 c5,.slice a6 l6 c6] 72 (0,0))):=by rw[hw2];exact heap_alloc_new _ _
 have HB2:=Lib.hid (ext_trans HB1.out HX2.out)
 have HF2:=Lib.hid (block_ext (ext_trans HX1.out HX2.out) HF0.out)
 have HG2:=Lib.hid (block_ext (ext_trans HX1.out HX2.out) HG0.out)
 have HO2:=Lib.hid (HO3.out.ints.ext HX2.out)
 have HLT:Hid (w.heap.size+1<w1.heap.size):=by
  have:=lt_of_heap HG0.out;have:=HX1.out.size;rw[Hid];omega
 clear hw2 HX2 HF0 HG0 HO3 HX1 HB1 HB0
 generalize w1.heap.size=P8 at*
 clear w1
 go_upto_region 5 with (first
  |(refine wpList_load_row (o:=⟨some 28,.load 40 _,_,_,_,_⟩) rfl 40 _ rfl w.heap.size rfl 40 _ (0,0) _ HF2.out Tryz.underlying40 rfl size_func ?_)
  |(go_at_call 25
    refine(meshOver_any pa pn pc ps ba bn bc bs w2 (HPI.out.ext HB2.out) (HB.out.ext HB2.out) (HTB.out.ext HB2.out) HR.out).mono ?_;rintro e w3 ⟨hl,M,B,rfl,hm3,hp3,hl3,hM,hBm,hb3⟩;have HB3:=Lib.hid (ext_trans HB2.out hb3);have HX3:=Lib.hid hb3;have HM3:=Lib.hid hm3;have HP3:=Lib.hid hp3;have HL3:=Lib.hid hl3;have HMB:Hid (w2.heap.size≤M∧w2.heap.size≤B):=⟨hM,hBm⟩
    clear hm3 hp3 hl3 hM hBm hb3))
 have HT3:=Lib.hid (HTL.out.ext HB3.out)
 have htn:0<tn:=by
  have:=HT3.out.1.1;have:=(List.getElem?_eq_some_iff.1 H0.out).1;omega
 obtain⟨t',tb,to_,ht',hok,hta,q0,q1,q2⟩:=HT3.out.cells htn
 rw[H0.out] at ht'
 cases ht'
 have hi:=hok.1
 rw[HBL.out] at hi
 have hbn1:t.bn=1:=hi.1.symm
 rw[hbn1] at hi q2
 obtain⟨gb,ob,hba,hcb,hb1,hb2⟩:=hi.2.2 0 (by omega)
 have HCB:=Lib.hid hcb
 rw[hba] at q2
 rw[hta]
 have q2':w3.cell? ⟨tb,to_+2,none⟩=some (.slice (some ⟨gb,ob,none⟩) 1 t.bc):=q2
 have hcb':w3.cell? ⟨gb,ob,none⟩=some (.int .i64 (b:Int)):=hcb
 have htn2:(0:Int)<(tn:Int):=by omega
 have htn3:tn≠0:=by omega
 clear hok q0 q1 q2 hi hbn1 hcb hb1 hb2
 go_wp2
 go_loopw [13,38] (fun _ i wr=>∃k:Nat,i=.int .i64 k∧k≤1∧Hid ((k=0∧wr=w3)∨(k=1∧PHas wr B (fun z=>z=y)∧w3.grownBy wr (some B)))) (fun _ i _=>1-(intOf i).toNat)
 case atStart=>exact⟨0,rfl,by omega,.inl ⟨rfl,rfl⟩⟩
 case round=>
  obtain⟨k,rfl,hk,HI⟩:=hrel;rcases HI.out with ⟨rfl,rfl⟩|⟨rfl,hp4,hg4⟩
  ·go_wp2_with (
    (go_at_call 26
     refine(block_any3 (bksL bs) bs.length hl M B b (fun _=>False) wr HBB.out HM3.out HP3.out HL3.out HNN.out).mono ?_;rintro e w4 ⟨rfl,hp4,hg4⟩;have HP4:Hid (PHas w4 B fun z=>z=y):=hp4.congr fun z=>(by rw[HY.out z];simp);have HG4:=Lib.hid hg4
     clear hp4 hg4))
   go_roundw
   case rel=>exact⟨1,by go_num,by omega,.inr ⟨rfl,HP4.out,HG4.out⟩⟩
   case measure=>simp[intOf]
  ·have HB4:Hid (Below w.heap.size w wr):=HB3.out.grown hg4 HB3.out.size (fun k e=>by
    injection e with e;have:=HMB.out.2;have:=HB2.out.size
    omega)
   have HP4:=Lib.hid hp4;have HM4:=Lib.hid (HP3.out.row hg4 HM3.out);have HF4:=Lib.hid (HP3.out.row hg4 (block_ext HX3.out HF2.out));have HGr4:=Lib.hid (HP3.out.row hg4 (block_ext HX3.out HG2.out));have HS4:=Lib.hid (HP3.out.row hg4 (block_ext HX3.out HS2.out));have HO4:=Lib.hid (HP3.out.ints hg4 (HO2.out.ext HX3.out));have HTA:=Lib.hid hta;clear hp4 hg4 HI q2' hcb' htn2 htn3 HM3 HP3 HL3 HX3 HF2 HG2 HS2 HO2 HT3 hta
   go_upto_region 11 with (first
    |(refine wpList_load_row (o:=⟨some 47,.load 40 _,_,_,_,_⟩) rfl 40 _ rfl w.heap.size rfl 40 _ (0,0) _ HF4.out Tryz.underlying40 rfl size_func ?_)
    |(go_at_call 27
      refine(sNeeds_any pa pn pc ps ba bn bc bs (some ⟨tb,to_,none⟩) tn tc ls 0 wr (HPI.out.ext HB4.out) (HB.out.ext HB4.out) (by rw[←HTA.out];exact HTL.out.ext HB4.out) HTOT.out (HTB.out.ext HB4.out) (by unfold I64;omega)).mono ?_;rintro e w5 ⟨v5,he5,ho5,hb5⟩;rw[HE.out] at he5;subst he5;obtain⟨a9,c9,rfl⟩:=ho5.form;have HN5:=Lib.hid ho5.ints;have HX5:=Lib.hid hb5
      clear ho5 hb5))
   have HB5:=Lib.hid (ext_trans HB4.out HX5.out);have HP5:=Lib.hid (HP4.out.ext HX5.out);have HM5:=Lib.hid (block_ext HX5.out HM4.out);have HG5:=Lib.hid (block_ext HX5.out HGr4.out);have HO5:=Lib.hid (HO4.out.ext HX5.out);have hs5:=block_ext HX5.out HS4.out;have g8:∀n:ExtW w5,n.val.cell? ⟨P8,3,none⟩=some (.slice a3 AC.length c3):=ExtW.cell (by rw[cell_of_row _ _ _ _ _ _ hs5];rfl);have g9:∀n:ExtW w5,P8<n.val.heap.size:=fun n=>Nat.lt_of_lt_of_le (lt_of_heap hs5) n.ext.size;have HAL:Hid (w.heap.size≤w5.heap.size):=HB5.out.size;clear hs5 HP4 HM4 HF4 HGr4 HS4 HO4 HB4 HX5;rw[←HAC.out];generalize hNL:(needM ps bs (tdOf ls) 0).length=NL at *;obtain⟨ACL,hACL⟩:∃z,z=AC.length:=⟨_,rfl⟩
   rw[←hACL] at g8;refine z_start (fun w'=>∃n:ExtW w5,w'=n.val) (by kernel_rfl) ?_;obtain⟨v0,F0,hv0⟩:∃v0,Below w5.heap.size w5 v0∧w5.drew=v0:=⟨_,ext_drewN (Below.refl _ _) 1,rfl⟩
   rw[hv0];clear hv0;refine z_reads 0 2 (by kernel_rfl) ⟨⟨_,F0⟩,rfl⟩ ?_;simp only[List.take_succ_cons,List.take_zero,List.drop_succ_cons,List.drop_zero]
   repeat (go_big_quiet_step (fail))
   refine wpQuiet_nil ?_;refine z_reads 3 2 (by kernel_rfl) ⟨⟨_,F0⟩,rfl⟩ ?_;simp only[List.take_succ_cons,List.take_zero,List.drop_succ_cons,List.drop_zero]
   repeat (go_big_quiet_step (fail))
   refine wpQuiet_nil ?_;clear g8 g9;refine z_one 2 (by kernel_rfl) ?_;refine wpOp_atU rfl (by rfl) ?_;intro K' HK;go_simp;refine(told_any M B _ _ _ y v0 (block_ext F0 HM5.out) (HP5.out.ext F0)).mono ?_;rintro e w6 ⟨v6,rfl,ho6,hb6⟩;obtain⟨a10,c10,rfl⟩:=ho6.form;have HF6:=Lib.hid (ext_trans F0 hb6);have HR6:Hid (PrS w6 a10 1 [y]):=ho6.recs csP_len;refine HK.out _ _ ⟨.inr ⟨⟨_,HF6.out⟩,rfl⟩,?_⟩;clear HK K' F0 ho6 hb6
   try simp only[Act.put,List.setIfInBounds_toArray,List.set_cons_succ,List.set_cons_zero]
   refine z_one 5 (by kernel_rfl) ?_;refine wpOp_atU rfl (by rfl) ?_;intro K' HK;go_simp;refine HK.out _ _ ⟨.inr ⟨⟨_,HF6.out⟩,rfl⟩,?_⟩;clear HK K'
   try simp only[Act.put,List.setIfInBounds_toArray,List.set_cons_succ,List.set_cons_zero]
   have h6:=block_ext HF6.out HG5.out;have H6:=Lib.hid h6;have f0:w6.frozen? ⟨w.heap.size+1,0,none⟩=false:=frozen_of_row _ _ _ _ _ h6;have f1:w6.frozen? ⟨w.heap.size+1,1,none⟩=false:=frozen_of_row _ _ _ _ _ h6;have f2:w6.frozen? ⟨w.heap.size+1,2,none⟩=false:=frozen_of_row _ _ _ _ _ h6;have k0:w6.cell? ⟨w.heap.size+1,0,none⟩=some (.slice none 0 0):=by rw[cell_of_row _ _ _ _ _ _ h6];rfl
   have k1:w6.cell? ⟨w.heap.size+1,1,none⟩=some (.slice none 0 0):=by rw[cell_of_row _ _ _ _ _ _ h6];rfl
   have k2:w6.cell? ⟨w.heap.size+1,2,none⟩=some (.slice none 0 0):=by rw[cell_of_row _ _ _ _ _ _ h6];rfl
   have hl6:=lt_of_heap h6;clear h6;refine z_one 6 (by kernel_rfl) ?_;refine wpOp_atU rfl (by rfl) ?_;intro K' HK;go_simp;obtain⟨W7,hW7⟩:∃z,z=((w6.setCell ⟨w.heap.size+1,0,none⟩ (.slice a9 NL c9)).setCell ⟨w.heap.size+1,1,none⟩ (.slice a10 1 c10)).setCell ⟨w.heap.size+1,2,none⟩ (.slice a3 AC.length c3):=⟨_,rfl⟩
   rw[←hW7];have hr7:W7.heap[w.heap.size+1]? =some (graphO a9 NL c9 a10 1 c10 a3 AC.length c3):=by
    rw[hW7,heap_setCell_same _ _ _ _ _ _ (heap_setCell_same _ _ _ _ _ _ (heap_setCell_same _ _ _ _ _ _ H6.out))];rfl
   have hk7:∀k,k≠w.heap.size+1→W7.heap[k]? =w6.heap[k]?:=fun k hk=>by
    rw[hW7,Below.heap_setCell _ _ _ _ (fun e=>hk e),Below.heap_setCell _ _ _ _ (fun e=>hk e),Below.heap_setCell _ _ _ _ (fun e=>hk e)]
   have hb7:Below w.heap.size w W7:=by
    rw[hW7];exact(((ext_trans HB5.out HF6.out).setCell (by simp) _).setCell (by simp) _).setCell (by simp) _
   have HN7:=Lib.hid (ints_graph H6.out hk7 (HN5.out.ext HF6.out));have HP7:=Lib.hid (prs_graph H6.out hk7 HR6.out);have HA7:=Lib.hid (ints_graph H6.out hk7 (HO5.out.ext HF6.out));have HB7:=Lib.hid hb7;have x0:W7.cell? ⟨w.heap.size+1,0,none⟩=some (.slice a9 NL c9):=by rw[cell_of_row _ _ _ _ _ _ hr7];rfl
   have x1:W7.cell? ⟨w.heap.size+1,1,none⟩=some (.slice a10 1 c10):=by rw[cell_of_row _ _ _ _ _ _ hr7];rfl
   have x2:W7.cell? ⟨w.heap.size+1,2,none⟩=some (.slice a3 AC.length c3):=by rw[cell_of_row _ _ _ _ _ _ hr7];rfl
   clear hW7 hk7 hb7 hr7 f0 f1 f2 k0 k1 k2 hl6;refine HK.out _ _ (And.intro (.inl (by kernel_rfl)) ?_);clear HK K'
   try simp only[Act.put,List.setIfInBounds_toArray,List.set_cons_succ,List.set_cons_zero]
   refine z_one 7 (by kernel_rfl) ?_;refine wpOp_atU rfl (by rfl) ?_;intro K' HK;go_simp;refine HK.out _ _ (And.intro (.inl (by kernel_rfl)) ?_);clear HK K';refine z_done (by kernel_rfl) ?_
   try simp only[Act.put,List.setIfInBounds_toArray,List.set_cons_succ,List.set_cons_zero]
   go_wp2;refine bodyPost_ret (v:=.tuple #[graphV a9 NL c9 a10 1 c10 a3 AC.length c3,.int .i64 0]) (by simp[results,Tryz.results14,asAddr,x0,x1,x2,go_sem]) rfl ?_;exact⟨a9,NL,c9,a10,1,c10,a3,AC.length,c3,rfl,HN7.out,HP7.out,by rw[←HAC.out];exact HA7.out,HB7.out⟩
end

section
open Go.RowKit Go.Shelf
attribute [local go_sem] Oper.semAt_some wide_fn wide_depth wide_fnR wide_depthR
theorem recs_row{α:Type}{size:Nat}{cs:α→List Value}(hs:∀x,(cs x).length=size){W:World}{g:Nat}{ty:TypeId}{ls:List α}{n:Nat}(h:W.heap[g]? =some (.cells (ls.flatMap cs).toArray ty (0,0)))(hn:ls.length=n)(hl:n≤17592186044416):Recs size cs W (some ⟨g,0,none⟩) n ls:=⟨hn,hl,fun k x hx=>⟨g,0,rfl,fun j hj=>by
 rw[cell_of_row _ _ _ _ _ _ h,Nat.zero_add]
 have:=flatMap_at cs size hs ls k j hj x hx
 simpa using this⟩⟩
theorem intsRow{W:World}{g:Nat}{xs:List Int}{n:Nat}(h:W.heap[g]? =some (.cells (intVals xs).toArray 3 (0,0)))(hn:xs.length=n)(hx:∀x∈xs,I64 x)(hl:n≤1000):Ints W (some ⟨g,0,none⟩) n xs:=by
 subst hn
 refine⟨rfl,by omega,fun k hk=>⟨g,0,rfl,?_,hx _ ?_⟩⟩
 ·rw[cell_of_row _ _ _ _ _ _ h,Nat.zero_add];simp[intVals,List.getD_eq_getElem?_getD,hk]
 ·rw[List.getD_eq_getElem?_getD,List.getElem?_eq_getElem hk];exact List.getElem_mem _
theorem i64r(l:List Int)(h:∀x∈l,-1000≤x∧x≤1000:=by decide):∀x∈l,I64 x:=fun x hx=>by have:=h x hx;unfold I64;omega
def smR:List InsR:= [⟨⟨1,1,0,0,5,0,[],0⟩,none,0,0⟩,⟨⟨2,2,1,1,0,0,[],0⟩,none,0,0⟩,⟨⟨2,1,1,2,0,0,[],0⟩,none,0,0⟩]
def smBs(g:Nat):List BlkR:= [⟨⟨some ⟨g,0,none⟩,3,3,⟨3,1,0,0⟩⟩,smR⟩]
def smTiles(g:Nat):List TileR:= [⟨⟨1,-1,[0]⟩,some ⟨g,0,none⟩,1,1⟩]
theorem smIns(W:World):∀r∈smR,InsOK W r:=by
 intro r hr
 simp only[smR,List.mem_cons,List.not_mem_nil,or_false] at hr
 rcases hr with rfl|rfl|rfl
 ·refine⟨⟨rfl,by decide,fun k hk=>absurd hk (by simp)⟩,by decide,?_⟩;simp only[I64];omega
 ·refine⟨⟨rfl,by decide,fun k hk=>absurd hk (by simp)⟩,by decide,?_⟩;simp only[I64];omega
 ·refine⟨⟨rfl,by decide,fun k hk=>absurd hk (by simp)⟩,by decide,?_⟩;simp only[I64];omega
theorem insC_len8(r:InsR):(insC r).length=8:=rfl
theorem blkC_len5(b:BlkR):(blkC' b).length=5:=rfl
theorem sm_blks{W:World}{g g3:Nat}(h1:W.heap[g]? =some (.cells (smR.flatMap insC).toArray 60 (0,0)))
  (h3:W.heap[g3]? =some (.cells ((smBs g).flatMap blkC').toArray 67 (0,0))):BlksR W (some ⟨g3,0,none⟩) 1 (smBs g):=by
 refine⟨recs_row blkC_len5 h3 rfl (by omega),fun b hb=>?_⟩
 simp only[smBs,List.mem_cons,List.not_mem_nil,or_false] at hb
 subst hb
 exact⟨by simp only[TermOK,I64];omega,recs_row insC_len8 h1 rfl (show 3≤17592186044416 by omega),smIns W⟩
theorem sm_tiles{W:World}{g g5:Nat}(h1:W.heap[g]? =some (.cells #[.int .i64 0] 3 (0,0)))
  (h2:W.heap[g5]? =some (.cells #[.int .i64 1,.int .i64 (-1),.slice (some ⟨g,0,none⟩) 1 1] 70 (0,0))):TilesOK W (some ⟨g5,0,none⟩) 1 (smTiles g):=by
 refine⟨recs_row tileC_len (ls:=smTiles g) h2 rfl (by omega),fun t ht=>?_⟩
 simp only[smTiles,List.mem_cons,List.not_mem_nil,or_false] at ht
 subst ht
 exact⟨intsRow (xs:= [0]) h1 rfl (i64r [0]) (by simp),by simp,by show I64 1;unfold I64;omega,by show I64 (-1);unfold I64;omega⟩
theorem sm_of(g g5:Nat):ofE [] (smBs g) (tdOf (smTiles g5)) 0=0∧(ofM [] (smBs g) (tdOf (smTiles g5)) 0).across= []∧needM [] (smBs g) (tdOf (smTiles g5)) 0= [1,2]∧rightE [] (smBs g)=0:=⟨by kernel_rfl,by kernel_rfl,by kernel_rfl,by kernel_rfl⟩
theorem sm_mesh(g:Nat):(meshL (bksL (smBs g)) 0).flatMap starL= [(1,2),(1,2)]:=by kernel_rfl
theorem alloc6(w:World)(o1 o2 o3 o4 o5 o6:Obj):((((((w.alloc o1).alloc o2).alloc o3).alloc o4).alloc o5).alloc o6).heap[w.heap.size]? =some o1∧((((((w.alloc o1).alloc o2).alloc o3).alloc o4).alloc o5).alloc o6).heap[w.heap.size+1]? =some o2∧((((((w.alloc o1).alloc o2).alloc o3).alloc o4).alloc o5).alloc o6).heap[w.heap.size+1+1+1]? =some o4∧
  ((((((w.alloc o1).alloc o2).alloc o3).alloc o4).alloc o5).alloc o6).heap[w.heap.size+1+1+1+1]? =some o5∧((((((w.alloc o1).alloc o2).alloc o3).alloc o4).alloc o5).alloc o6).heap[w.heap.size+1+1+1+1+1]? =some o6∧Below w.heap.size w ((((((w.alloc o1).alloc o2).alloc o3).alloc o4).alloc o5).alloc o6):=by
 have e1:=ext_alloc w o1
 have e2:=ext_alloc (w.alloc o1) o2
 have e3:=ext_alloc ((w.alloc o1).alloc o2) o3
 have e4:=ext_alloc (((w.alloc o1).alloc o2).alloc o3) o4
 have e5:=ext_alloc ((((w.alloc o1).alloc o2).alloc o3).alloc o4) o5
 have e6:=ext_alloc (((((w.alloc o1).alloc o2).alloc o3).alloc o4).alloc o5) o6
 have f6:=ext_trans e5 e6
 have f5:=ext_trans e4 f6
 have f4:=ext_trans e3 f5
 have f3:=ext_trans e2 f4
 exact⟨block_ext f3 (heap_alloc_new _ _),block_ext f4 (heap_at _ _ _ (by simp)),block_ext f6 (heap_at _ _ _ (by simp)),block_ext e6 (heap_at _ _ _ (by simp)),heap_at _ _ _ (by simp),ext_trans e1 f3⟩
theorem small20_any(w:World):Calls Tryz.prog 13 #[] w fun e w'=>∃g ba bc ta tc g5,e=.returned (.tuple #[funcV none 0 0 ba 1 bc,.slice ta 1 tc])∧BlksR w' ba 1 (smBs g)∧TilesOK w' ta 1 (smTiles g5)∧Below w.heap.size w w':=by
 go_enter Tryz.func13,Tryz.ntmps13
 go_wp2
 generalize hW:World.alloc (World.alloc (World.alloc (World.alloc (World.alloc (World.alloc w _) _) _) _) _) _=W
 have hx:=alloc6 w (funcO none 0 0 (some ⟨w.heap.size+1+1+1,0,none⟩) 1 1) (.cells (smR.flatMap insC).toArray 60) (.cells ((smBs (w.heap.size+1)).flatMap blkC').toArray 67) (.cells ((smBs (w.heap.size+1)).flatMap blkC').toArray 67) (.cells #[.int .i64 0] 3) (.cells #[.int .i64 1,.int .i64 (-1),.slice (some ⟨w.heap.size+1+1+1+1,0,none⟩) 1 1] 70)
 rw[show((((((w.alloc (funcO none 0 0 (some ⟨w.heap.size+1+1+1,0,none⟩) 1 1)).alloc (.cells (smR.flatMap insC).toArray 60)).alloc (.cells ((smBs (w.heap.size+1)).flatMap blkC').toArray 67)).alloc (.cells ((smBs (w.heap.size+1)).flatMap blkC').toArray 67)).alloc (.cells #[.int .i64 0] 3)).alloc (.cells #[.int .i64 1,.int .i64 (-1),.slice (some ⟨w.heap.size+1+1+1+1,0,none⟩) 1 1] 70))=W from hW] at hx
 clear hW
 obtain⟨h1,h2,h4,h5,h6,hb⟩:=hx
 have d0:W.cell? ⟨w.heap.size,0,none⟩=some (.slice none 0 0):=by rw[cell_of_row _ _ _ _ _ _ h1];rfl
 have d1:W.cell? ⟨w.heap.size,1,none⟩=some (.slice (some ⟨w.heap.size+1+1+1,0,none⟩) 1 1):=by rw[cell_of_row _ _ _ _ _ _ h1];rfl
 refine bodyPost_ret (v:=.tuple #[funcV none 0 0 (some ⟨w.heap.size+1+1+1,0,none⟩) 1 1,.slice (some ⟨w.heap.size+1+1+1+1+1,0,none⟩) 1 1]) (by simp[results,Tryz.results13,asAddr,d0,d1,go_sem]) rfl ?_
 exact⟨_,_,_,_,_,_,rfl,sm_blks h2 h4,sm_tiles h5 h6,hb⟩
end
end Go.Proofs.YtnmkjliioogbgaaGreatDoor
