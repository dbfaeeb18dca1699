/-
 Records of sets of a call's own;what tiles that stand hold.
-/
import Derived.Test.YtnmkjliioogbgaaGreatDoorPJ
import Derived.Test.YtnmkjliioogbgaaGreatDoorVN
import Derived.Test.YtnmkjliioogbgaaGreatDoorTX
import Derived.Test.YtnmkjliioogbgaaGreatDoorQueueS
namespace Go.Proofs.YtnmkjliioogbgaaGreatDoor
set_option linter.unusedSimpArgs false
set_option linter.unusedVariables false
set_option linter.unusedSectionVars false
set_option maxRecDepth 100000
set_option maxHeartbeats 40000000
section
open Go.RowKit
theorem tile_len{ts:List TermD}{l:List TileD}(h:rightB ts l=true):l.length≤200:=by
 simp only[rightB,Bool.and_eq_true,decide_eq_true_eq,beq_iff_eq,List.all_eq_true,List.mem_range] at h
 exact h.1.1.1.1.2
theorem tile_blocks{ts:List TermD}{l:List TileD}(h:rightB ts l=true){k:Nat}{t:TileD}(ht:l[k]? =some t):∀v∈t.blocks,0≤v∧v<ts.length:=by
 intro v hv
 simp only[rightB,Bool.and_eq_true,decide_eq_true_eq,beq_iff_eq,List.all_eq_true,List.mem_range] at h
 have hk:=(List.getElem?_eq_some_iff.1 ht).1
 have h1:=(h.2 k hk).1
 simp only[standsB,Bool.and_eq_true] at h1
 have e:l.getD k zTile=t:=by rw[List.getD_eq_getElem?_getD,ht];rfl
 rw[e] at h1
 have h2:=h1.2
 simp only[risingB,List.all_eq_true,List.mem_range,Bool.and_eq_true,decide_eq_true_eq] at h2
 obtain⟨i,hi,rfl⟩:=List.getElem_of_mem hv
 have h3:=(h2 i hi).1
 rw[List.getD_eq_getElem?_getD,List.getElem?_eq_getElem hi] at h3
 exact h3
structure SetR where
 v:Nat→Value
 d:SetD
def setC(s:SetR):List Value:= [s.v 0,s.v 1,s.v 2,s.v 3,s.v 4,s.v 5,s.v 6]
theorem setC_len(s:SetR):(setC s).length=7:=rfl
def SetsIn(W:World)(B:Nat)(v:Value)(ls:List SetR):Prop:=
 OwnR 72 7 setC W B v ls∧∀s∈ls,∀j,j<7→OwnI W B (s.v j) (s.d.rows.getD j [])
section
variable {W W':World} {B:Nat} {v:Value} {ls:List SetR} {row:Option Nat}
theorem SetsIn.nil(W:World)(B:Nat):SetsIn W B (.slice none 0 0) []:=⟨OwnR.nil _ _ _ _ _,fun s h=>by cases h⟩
theorem SetsIn.mono{B':Nat}(h:SetsIn W B v ls)(hb:B'≤B):SetsIn W B' v ls:=⟨OwnR.mono h.1 hb,fun s hs j hj=>(h.2 s hs j hj).mono hb⟩
theorem SetsIn.chg{S:Nat→Prop}(h:SetsIn W B v ls)(hc:Chg S W W')(hv:∀q,v.ownBlock=some q→¬S q)(ht:∀q,S q→OtherTy W 3 q):SetsIn W' B v ls:=
 ⟨⟨ownsRow_chg h.1.1 hc hv,h.1.2⟩,fun s hs j hj=>(h.2 s hs j hj).chgT hc ht⟩
theorem SetsIn.ty(h:SetsIn W B v ls){q:Nat}(hq:v.ownBlock=some q):∃cs f,W.heap[q]? =some (.cells cs 72 f):=own_ty h.1.1 hq
theorem SetsIn.push{s:SetR}{g cap:Nat}(h:SetsIn W B v ls)(hown:W'.ownsRow B 72 7 (.slice (some ⟨g,0,none⟩) (ls.length+1) cap) (ls.length+1) (ls.flatMap setC++setC s))(hg:W.grownBy W' v.ownBlock)(hl:ls.length≤1000000)(hs:∀j,j<7→OwnI W B (s.v j) (s.d.rows.getD j [])):
  SetsIn W' B (.slice (some ⟨g,0,none⟩) (ls.length+1) cap) (ls++ [s]):=by
 have ht:∀q,v.ownBlock=some q→OtherTy W 3 q:=fun q e=>by
  obtain⟨cs,f,h3⟩:=h.ty e;exact OtherTy.of h3 (by decide)
 refine⟨⟨by simpa[List.flatMap_append] using hown,by simp;omega⟩,fun s' hs' j hj=>?_⟩
 rcases List.mem_append.1 hs' with h1|h1
 ·exact(h.2 s' h1 j hj).keptT hg ht
 ·rw[List.mem_singleton] at h1;subst h1;exact(hs j hj).keptT hg ht
end
end

section
open Go.RowKit
def Apt(vs:List Value):Prop:=vs.Pairwise SepF
theorem Apt.app{xs ys:List Value}(M:Nat)(h1:Apt xs)(h2:Apt ys)(hx:∀v∈xs,∀q,v.ownBlock=some q→q<M)(hy:∀v∈ys,∀q,v.ownBlock=some q→M≤q):Apt (xs++ys):=
 List.pairwise_append.2 ⟨h1,h2,fun a ha b hb g e1 e2=>by have:=hx a ha g e1;have:=hy b hb g e2;omega⟩
theorem setC_mem{s:SetR}{v:Value}(h:v∈setC s):∃j,j<7∧v=s.v j:=by
 simp only[setC,List.mem_cons,List.not_mem_nil,or_false] at h
 rcases h with rfl|rfl|rfl|rfl|rfl|rfl|rfl
 ·exact⟨0,by omega,rfl⟩
 ·exact⟨1,by omega,rfl⟩
 ·exact⟨2,by omega,rfl⟩
 ·exact⟨3,by omega,rfl⟩
 ·exact⟨4,by omega,rfl⟩
 ·exact⟨5,by omega,rfl⟩
 ·exact⟨6,by omega,rfl⟩
theorem setC_getD(s:SetR){j:Nat}(hj:j<7)(d:Value):(setC s).getD j d=s.v j:=by
 have hcase:j=0∨j=1∨j=2∨j=3∨j=4∨j=5∨j=6:=by omega
 rcases hcase with rfl|rfl|rfl|rfl|rfl|rfl|rfl<;>rfl
theorem apt_set{s:SetR}(h:∀i j,i<7→j<7→i≠j→∀q,(s.v i).ownBlock=some q→(s.v j).ownBlock≠some q):Apt (setC s):=by
 refine List.pairwise_iff_getElem.2 fun i j hi hj hlt=>?_
 rw[setC_len] at hi hj
 have e:∀(k:Nat) (hk:k<(setC s).length),(setC s)[k]=s.v k:=fun k hk=>by
  have:=setC_getD s (by rwa [setC_len] at hk) (.bool true)
  rwa [List.getD_eq_getElem?_getD,List.getElem?_eq_getElem hk] at this
 rw[e,e]
 exact h i j hi hj (by omega)
theorem Apt.sub{ls:List SetR}(h:Apt (ls.flatMap setC)){s:SetR}(hs:s∈ls):Apt (setC s):=by
 obtain⟨a,b,rfl⟩:=List.append_of_mem hs
 rw[List.flatMap_append,List.flatMap_cons] at h
 exact(List.pairwise_append.1 (List.pairwise_append.1 h).2.1).1
theorem low_of{W:World}{B:Nat}{ls:List SetR}(h:∀s∈ls,∀j,j<7→OwnI W B (s.v j) (s.d.rows.getD j [])):∀x∈ls.flatMap setC,∀q,x.ownBlock=some q→B≤q∧q<W.heap.size:=fun x hx q e=>by
 obtain⟨s,hs,hm⟩:=List.mem_flatMap.1 hx
 obtain⟨j,hj,rfl⟩:=setC_mem hm
 exact(h s hs j hj).1.lt q e
theorem SetsIn.low{W:World}{B:Nat}{v:Value}{ls:List SetR}(h:SetsIn W B v ls):∀x∈ls.flatMap setC,∀q,x.ownBlock=some q→B≤q∧q<W.heap.size:=low_of h.2
end

section
open Go.RowKit Go.Shelf
attribute [local go_sem] Oper.semAt_some wide_fn wide_depth wide_fnR wide_depthR
def AllPost2(ps:List Int)(bs:List BlkR)(ls:List TileR)(w:World)(e:Ending)(w':World):Prop:=
 ∃v rs,e=.returned (.tuple #[v,.int .i64 (setE ps bs (tdOf ls))])∧rs.map (·.d)=allM ps bs (tdOf ls)∧SetsIn w' w.heap.size v rs∧Apt (rs.flatMap setC)∧Below w.heap.size w w'
theorem infoSet:(Tryz.prog.info? 72).map (fun i=>(i.zero,i.size,i.bytes))=some (some (.agg #[nilS,nilS,nilS,nilS,nilS,nilS,nilS]),7,168):=by kernel_rfl
theorem sAll_any2(pa:Option Addr)(pn pc:Nat)(ps:List Int)(ba:Option Addr)(bn bc:Nat)(bs:List BlkR)(ta:Option Addr)(tn tc:Nat)(ls:List TileR)(w:World)(hp:Ints w pa pn ps)(h:BlksR w ba bn bs)(ht:TilesOK w ta tn ls)(hL:totL (tdOf ls)≤1000000)(hT:Tab w):
  Calls Tryz.prog 33 #[funcV pa pn pc ba bn bc,.slice ta tn tc] w (AllPost2 ps bs ls w):=by
 have HPI:=Lib.hid hp
 have HB:=Lib.hid h
 have HTL:=Lib.hid ht
 have HTOT:=Lib.hid hL
 have HTB:=Lib.hid hT
 have HLb:=Lib.hid h.1.1
 have HLt:=Lib.hid ht.1.1
 clear hp h ht hL hT
 go_enter Tryz.func33,Tryz.ntmps33
 go_upto_region 1 with (fail)
 obtain⟨w0,hw0⟩:∃w0,w0=w.alloc (funcO pa pn pc ba bn bc):=⟨_,rfl⟩
 rw[←hw0]
 have HB0:Hid (Below w.heap.size w w0):=by rw[hw0];exact ext_alloc _ _
 have HF0:Hid (w0.heap[w.heap.size]? =some (funcO pa pn pc ba bn bc)):=by rw[hw0];exact heap_alloc_new _ _
 clear hw0
 by_cases hR:rightE ps bs=0
 rotate_left
 ·have HR:=Lib.hid hR;have HSE:Hid (setE ps bs (tdOf ls)=2):=by rw[Hid,setE,if_pos hR]
  clear hR
  go_wp2_with (first
   |(refine wpList_load_row (o:=⟨some 10,.load 40 _,_,_,_,_⟩) rfl 40 _ rfl w.heap.size rfl 40 _ (0,0) _ HF0.out Tryz.underlying40 rfl size_func ?_)
   |(go_at_call 34
     refine(liveOf_any pa pn pc ps ba bn bc bs w0 (HPI.out.ext HB0.out) (HB.out.ext HB0.out) (HTB.out.ext HB0.out)).mono ?_;rintro e w1 ⟨hc,hb1⟩;rcases hc with ⟨_,rfl⟩|⟨h0,_⟩
     rotate_left
     ·exact absurd h0 HR.out
     have HB1:=Lib.hid (ext_trans HB0.out hb1)
     clear hb1))
  refine bodyPost_ret (v:=.tuple #[nilS,.int .i64 2]) (by simp[results,Tryz.results33,go_sem]) rfl ?_;exact⟨_,[],by rw[HSE.out],by rw[allM,if_neg (by rw[HSE.out];omega)];rfl,SetsIn.nil _ _,List.Pairwise.nil,ext_trans HB1.out (ext_alloc _ _)⟩
 ·have HR:=Lib.hid hR;obtain⟨hlong,hwh,hti⟩:=rightE_zero hR;have hbnd:0<bn∧bn≤200:=by
   rw[longB,HLb.out] at hlong;simp only[Bool.or_eq_false_iff,decide_eq_false_iff_not] at hlong;omega
  have HPV:=Lib.hid (rightE_par (bs:=bs) hwh);have HNA:=Lib.hid (whole_na HB.out hwh);clear hR hlong hwh hti;have HBX:Hid (∀{W:World},Below w.heap.size w W→BlksOK W ba bn (hOf bs)):=fun hb=>(HB.out.ext hb).x.1
  go_upto_region 4 with (first
   |(refine wpList_load_row (o:=⟨some 10,.load 40 _,_,_,_,_⟩) rfl 40 _ rfl w.heap.size rfl 40 _ (0,0) _ HF0.out Tryz.underlying40 rfl size_func ?_)
   |(go_at_call 34
     refine(liveOf_any pa pn pc ps ba bn bc bs w0 (HPI.out.ext HB0.out) (HB.out.ext HB0.out) (HTB.out.ext HB0.out)).mono ?_;rintro e w1 ⟨hc,hb1⟩;rcases hc with ⟨h0,_⟩|⟨_,lh,rfl,hlv⟩
     ·exact absurd HR.out h0
     rw[HLb.out] at hlv⊢;have HLV:=Lib.hid hlv;have HB1:=Lib.hid (ext_trans HB0.out hb1);have HF1:=Lib.hid (block_ext hb1 HF0.out)
     clear hb1 hlv))
  obtain⟨w2,hw2⟩:∃w2,w2=w1.alloc (.cells #[.slice lh.ia bn lh.ic,.slice lh.oa bn lh.oc,.slice lh.ta bn lh.tc] 91):=⟨_,rfl⟩
  rw[←hw2];have hx2:Below w1.heap.size w1 w2:=by rw[hw2];exact ext_alloc _ _
  have HL2:Hid (w2.heap[w1.heap.size]? =some (.cells #[.slice lh.ia bn lh.ic,.slice lh.oa bn lh.oc,.slice lh.ta bn lh.tc] 91 (0,0))):=by rw[hw2];exact heap_alloc_new _ _
  have HB2:=Lib.hid (ext_trans HB1.out hx2);have HF2:=Lib.hid (block_ext hx2 HF1.out);have HLV2:=Lib.hid (HLV.out.ext hx2);clear hw2 hx2 HLV HF1 HB1 HF0 HB0;generalize w1.heap.size=P6 at *;cases hrt:rightB (tsOf (hOf bs)) (tdOf ls) with
  |false=>
   have HSE:Hid (setE ps bs (tdOf ls)=12):=by rw[Hid,setE,if_neg (by rw[HR.out];simp),if_pos hrt]
   have HRT:=Lib.hid hrt;clear hrt
   go_wp2_with (first
    |(refine wpList_load_row (o:=⟨some 16,.load 40 _,_,_,_,_⟩) rfl 40 _ rfl w.heap.size rfl 40 _ (0,0) _ HF2.out Tryz.underlying40 rfl size_func ?_)
    |(go_at_call 42
      refine(tright_any pa pn pc ba bn bc (hOf bs) ta tn tc ls w2 (HBX.out HB2.out) (HTL.out.ext HB2.out) HTOT.out).mono ?_;rw[HRT.out];rintro e w3 ⟨rfl,hb3⟩;have HB3:=Lib.hid (ext_trans HB2.out hb3)
      clear hb3))
   refine bodyPost_ret (v:=.tuple #[nilS,.int .i64 12]) (by simp[results,Tryz.results33,go_sem]) rfl ?_;exact⟨_,[],by rw[HSE.out],by rw[allM,if_neg (by rw[HSE.out];omega)];rfl,SetsIn.nil _ _,List.Pairwise.nil,HB3.out⟩
  |true=>
   have HSE:Hid (setE ps bs (tdOf ls)=0):=by rw[Hid,setE,if_neg (by rw[HR.out];simp),if_neg (by rw[hrt];simp)]
   have HRT:=Lib.hid hrt;clear hrt
   go_upto_region 7 with (first
    |(refine wpList_load_row (o:=⟨some 16,.load 40 _,_,_,_,_⟩) rfl 40 _ rfl w.heap.size rfl 40 _ (0,0) _ HF2.out Tryz.underlying40 rfl size_func ?_)
    |(go_at_call 42
      refine(tright_any pa pn pc ba bn bc (hOf bs) ta tn tc ls w2 (HBX.out HB2.out) (HTL.out.ext HB2.out) HTOT.out).mono ?_;rw[HRT.out];rintro e w3 ⟨rfl,hb3⟩;have HB3:=Lib.hid (ext_trans HB2.out hb3);have HF3:=Lib.hid (block_ext hb3 HF2.out);have HL3:=Lib.hid (block_ext hb3 HL2.out);have HLV3:=Lib.hid (HLV2.out.ext hb3);have k0:w3.cell? ⟨P6,0,none⟩=some (.slice lh.ia bn lh.ic):=(by rw[cell_of_row _ _ _ _ _ _ HL3.out];rfl)
      have k1:w3.cell? ⟨P6,1,none⟩=some (.slice lh.oa bn lh.oc):=(by rw[cell_of_row _ _ _ _ _ _ HL3.out];rfl)
      have k2:w3.cell? ⟨P6,2,none⟩=some (.slice lh.ta bn lh.tc):=(by rw[cell_of_row _ _ _ _ _ _ HL3.out];rfl)
      clear hb3)
    |(refine wpList_load_row (o:=⟨some 21,.load 40 _,_,_,_,_⟩) rfl 40 _ rfl w.heap.size rfl 40 _ (0,0) _ HF3.out Tryz.underlying40 rfl size_func ?_))
   clear k0 k1 k2;obtain⟨hh,hhe⟩:∃hh:ColH,hh=⟨lh,pa,pn,pc,ba,bn,bc,ta,tn,tc⟩:=⟨_,rfl⟩
   obtain⟨w4,hw4⟩:∃w4,w4=w3.alloc (colO hh none none none none none none):=⟨_,rfl⟩
   have hw4':=hw4;rw[hhe] at hw4';rw[←hw4'];have HC4:Hid (w4.heap[w3.heap.size]? =some (colO hh none none none none none none)):=by rw[hw4];exact heap_alloc_new _ _
   have HB4:Hid (Below w3.heap.size w3 w4):=by rw[hw4];exact ext_alloc _ _
   have HHE:=Lib.hid hhe;clear hw4 hw4' hhe HL2 HF2 HLV2 HB2;have HTN:Hid (tn≤200):=by
    have:=tile_len HRT.out;rw[Hid,←HLt.out];simpa[tdOf] using this
   go_wp2
   go_loopw [4,27] (fun v4 v27 wr=>∃(k:Nat) (f:Nat→Option Nat) (rs:List SetR),v27=.int .i64 (k:Int)∧k≤tn∧Hid (wr.heap[w3.heap.size]? =some (colO hh (f 0) (f 1) (f 2) (f 3) (f 4) (f 5)))∧Hid (SetsIn wr w3.heap.size v4 rs)∧Hid (rs.map (·.d)=(List.range k).map (setM ps bs (tdOf ls)))∧Hid (Apt (rs.flatMap setC))∧Hid (Below w3.heap.size w3 wr)) (fun _ i _=>tn-(intOf i).toNat)
   case atStart=>exact⟨0,fun _=>none,[],rfl,by omega,HC4,SetsIn.nil _ _,rfl,List.Pairwise.nil,HB4⟩
   case round=>
    obtain⟨k,f,rs,rfl,hk,HC,HSI,HRS,HAPT,HBr⟩:=hrel;obtain⟨av,cv,hav⟩:=OwnR.form HSI.out.1;subst hav;have HRL:Hid (rs.length=k):=by
     have:=congrArg List.length HRS.out;rw[Hid];simpa using this
    by_cases hlt:k<tn
    ·have hlt':(k:Int)<(tn:Int):=by omega
     have hkl:k<ls.length:=by rw[HLt.out];exact hlt
     obtain⟨t,htk⟩:∃t,ls[k]? =some t:=⟨ls[k],List.getElem?_eq_getElem hkl⟩
     have HTK:=Lib.hid htk;have HTBL:Hid (∀v∈t.d.blocks,0≤v∧v<bn):=by
      have h1:=tile_blocks HRT.out (k:=k) (t:=t.d) (by simp[tdOf,htk]);intro v hv;have h2:=h1 v hv;rw[show(tsOf (hOf bs)).length=bn by simp[tsOf,hOf,HLb.out]] at h2;exact h2
     clear htk hkl;have htn:tn≤200:=HTN.out;have hk200:k≤200:=by omega
     go_wp2_with (first
      |(go_at_call 43
        refine(sTile_any hh ps bs ls f w3.heap.size k t w3 wr HBr.out (Nat.le_refl _) HC.out (by rw[HHE.out];exact HPI.out.ext HB3.out) HPV.out (by rw[HHE.out];exact HB.out.ext HB3.out) (by rw[HHE.out];exact HLV3.out) HNA.out (by rw[HHE.out];exact HTL.out.ext HB3.out) HTOT.out HRT.out HTK.out (by rw[HHE.out];exact HTBL.out)).mono ?_;rintro e w5 ⟨v,g,rfl,ho,hap,hC5,hch⟩;obtain⟨a0,c0,e0⟩:=(ho 0 (by omega)).form;obtain⟨a1,c1,e1⟩:=(ho 1 (by omega)).form;obtain⟨a2,c2,e2⟩:=(ho 2 (by omega)).form;obtain⟨a3,c3,e3⟩:=(ho 3 (by omega)).form;obtain⟨a4,c4,e4⟩:=(ho 4 (by omega)).form;obtain⟨a5,c5,e5⟩:=(ho 5 (by omega)).form;obtain⟨a6,c6,e6⟩:=(ho 6 (by omega)).form;simp only[e0,e1,e2,e3,e4,e5,e6];have HE6:Hid (setC ⟨v,setM ps bs (tdOf ls) k⟩= [.slice a0 ((setM ps bs (tdOf ls) k).rows.getD 0 []).length c0,.slice a1 ((setM ps bs (tdOf ls) k).rows.getD 1 []).length c1,.slice a2 ((setM ps bs (tdOf ls) k).rows.getD 2 []).length c2,.slice a3 ((setM ps bs (tdOf ls) k).rows.getD 3 []).length c3,.slice a4 ((setM ps bs (tdOf ls) k).rows.getD 4 []).length c4,.slice a5 ((setM ps bs (tdOf ls) k).rows.getD 5 []).length c5,.slice a6 ((setM ps bs (tdOf ls) k).rows.getD 6 []).length c6]):=(by simp only[Hid,setC,e0,e1,e2,e3,e4,e5,e6])
        have HA5:Hid (Apt ((rs++ [SetR.mk v (setM ps bs (tdOf ls) k)]).flatMap setC)):=(by
         rw[Hid,List.flatMap_append,List.flatMap_singleton]
         exact HAPT.out.app wr.heap.size (apt_set hap) (fun x hx q e=>(HSI.out.low x hx q e).2) fun x hx q e=>(by obtain⟨j,hj,rfl⟩:=setC_mem hx;exact((ho j hj).1.lt q e).1))
        have HO:=Lib.hid ho;have HC5:=Lib.hid hC5;have HCH:=Lib.hid hch
        have HSI5:Hid (SetsIn w5 w3.heap.size (.slice av rs.length cv) rs):=HSI.out.chg hch (fun q e hq=>by
         obtain⟨cs,f',h3⟩:=HSI.out.ty e;subst hq;rw[HC.out] at h3
         cases h3) (fun q hq=>by subst hq;exact OtherTy.of HC.out (by decide))
        have hsz:w3.heap.size≤w5.heap.size:=Nat.le_trans HBr.out.size hch.size;have hrl:rs.length≤200:=(by rw[HRL.out];have:=HTN.out;omega)
        clear ho hap hC5 hch e0 e1 e2 e3 e4 e5 e6)
      |(at_builtin
        refine wpList_append1 rfl w5 (.tmp 30) (.tmp 34) 85 72 rfl w3.heap.size _ 7 168 Tryz.underlying85 infoSet rfl (by omega) (.slice av rs.length cv) rs.length _ [.slice a0 ((setM ps bs (tdOf ls) k).rows.getD 0 []).length c0,.slice a1 ((setM ps bs (tdOf ls) k).rows.getD 1 []).length c1,.slice a2 ((setM ps bs (tdOf ls) k).rows.getD 2 []).length c2,.slice a3 ((setM ps bs (tdOf ls) k).rows.getD 3 []).length c3,.slice a4 ((setM ps bs (tdOf ls) k).rows.getD 4 []).length c4,.slice a5 ((setM ps bs (tdOf ls) k).rows.getD 5 []).length c5,.slice a6 ((setM ps bs (tdOf ls) k).rows.getD 6 []).length c6] rfl HSI5.out.1.1 w5.heap.size rfl rfl rfl (by simp[Value.oneCell']) (by simp only[maxLen];omega) (by omega) hsz ?_;intro ga capa w6 hown hgr hat;have HS6:Hid (SetsIn w6 w3.heap.size (.slice (some ⟨ga,0,none⟩) (rs.length+1) capa) (rs++ [⟨v,setM ps bs (tdOf ls) k⟩])):=HSI5.out.push (by rw[HE6.out];exact hown) hgr (by omega) (fun j hj=>(HO.out j hj).mono HBr.out.size)
        have HC6:Hid (w6.heap[w3.heap.size]? =some (colO hh (g 0) (g 1) (g 2) (g 3) (g 4) (g 5))):=(hgr.block _ (lt_of_heap HC5.out) (fun e=>by
         obtain⟨cs,f',h3⟩:=HSI5.out.ty e.symm;rw[HC5.out] at h3
         cases h3)).trans HC5.out
        have HB6:Hid (Below w3.heap.size w3 w6):=(show Below w3.heap.size w3 w5 from ⟨HCH.out.os.trans HBr.out.os,HCH.out.tape.trans HBr.out.tape,HCH.out.output.trans HBr.out.output,hsz,fun q hq=>(HCH.out.block q (Nat.lt_of_lt_of_le hq HBr.out.size) (by omega)).trans (HBr.out.block q hq)⟩).grown hgr hsz (fun q e=>(HSI5.out.1.1.lt q e).1)
        clear hown hgr hat))
     go_roundw
     case rel=>exact⟨k+1,g,_,by go_num,by omega,HC6,HS6,by rw[Hid,List.map_append,HRS.out,List.range_succ,List.map_append];rfl,HA5,HB6⟩
     case measure=>simp[intOf];omega
    ·obtain rfl:k=tn:=by omega
     have hlt':¬(k:Int)<(k:Int):=by omega
     go_wp2;refine bodyPost_ret (v:=.tuple #[.slice av rs.length cv,.int .i64 0]) (by simp[results,Tryz.results33,go_sem]) rfl ?_;refine⟨_,rs,by rw[HSE.out],?_,HSI.out.mono HB3.out.size,HAPT.out,ext_trans HB3.out HBr.out⟩;rw[allM,if_pos HSE.out];rw[HRS.out,setsM];rw[show(tdOf ls).length=k by simp[tdOf,HLt.out]]
end
end Go.Proofs.YtnmkjliioogbgaaGreatDoor
