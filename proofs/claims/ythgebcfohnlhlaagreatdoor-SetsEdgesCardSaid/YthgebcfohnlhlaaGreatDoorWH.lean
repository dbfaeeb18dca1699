/-
 SetsEdges,its walk.
-/
import Derived.Test.YthgebcfohnlhlaaGreatDoorZedMono
import Derived.Test.YthgebcfohnlhlaaGreatDoorWE
import Derived.Test.YthgebcfohnlhlaaGreatDoorVT
import Derived.Test.YthgebcfohnlhlaaGreatDoorTV
import Derived.Test.YthgebcfohnlhlaaGreatDoorPD
namespace Go.Proofs.YthgebcfohnlhlaaGreatDoor
set_option linter.unusedSimpArgs false
set_option linter.unusedVariables false
set_option linter.unusedSectionVars false
set_option maxRecDepth 100000
set_option maxHeartbeats 40000000
section
open Go.RowKit Go.Shelf
attribute [local go_sem] Oper.semAt_some wide_fn wide_depth wide_fnR wide_depthR
section
variable {P:Program} {o:Oper} {a:Act}
theorem wpOp_atV{l:List Oper}{Q:Exit→Act→World→Prop}{e:Nat}{K:Act→World→Prop}{w:World}(ho:l[e]? =some o)(hw:Region.wanted o (yielded l.toArray a.tmps)=true)(h:∀K':Act→World→Prop,Hid (∀a' w',K a' w'→K' a' w')→o.wp P a w K' Q):wpOp P l.toArray Q e K a w:=
 wpOp_atW ho hw (h K (fun _ _ x=>x))
end
theorem rightE_more{ps:List Int}{bs:List BlkR}(h:rightE ps bs=0):allReach (bksL bs)=true∧anyLack ps (bksL bs)=false:=by
 unfold rightE at h
 split at h
 ·cases h
 ·split at h
  ·cases h
  ·split at h
   ·cases h
   ·rename_i h1
    split at h
    ·cases h
    ·rename_i h2
     simp only[Bool.not_eq_true',Bool.not_eq_false,Bool.and_eq_true] at h1;exact⟨h1.2,by simpa using h2⟩
theorem size_setS'(s:SetR):(Tryz.prog.info? 39).map (·.size)=some (setC s).length:=by rw[setC_len];exact size_setS
theorem zero_setS(w:World):(zeroValue 39).run Tryz.prog w=.ok (.agg #[nilS,nilS,nilS,nilS,nilS,nilS,nilS]) w:=by kernel_rfl
theorem setC_one{W:World}{B:Nat}{s:SetR}(h:∀j,j<7→OwnI W B (s.v j) (s.d.rows.getD j [])):(setC s).toArray.all (·.oneCell')=true:=by
 simp[setC,own_one (h 0 (by omega)),own_one (h 1 (by omega)),own_one (h 2 (by omega)),own_one (h 3 (by omega)),own_one (h 4 (by omega)),own_one (h 5 (by omega)),own_one (h 6 (by omega))]
theorem sets_range{W:World}{B g n c k:Nat}{ls:List SetR}{s:SetR}(h:SetsIn W B (.slice (some ⟨g,0,none⟩) n c) ls)(hs:ls[k]? =some s):W.rangeAt g (k*7) (setC s):=by
 have:=OwnR.range setC_len h.1 s (k:=k) (List.getElem?_eq_some_iff.1 hs).1
 rwa [List.getD_eq_getElem?_getD,hs] at this
theorem own_cell{W:World}{B g n c:Nat}{l:List TileD}(h:OwnI W B (.slice (some ⟨g,0,none⟩) n c) (ownL l n)){k:Nat}(hk:k<n):W.cell? ⟨g,k,none⟩=some (.int .i64 (ownF l k:Int)):=by
 obtain⟨b,o,e,hc,_⟩:=h.ints.2.2 k hk
 injection e with e
 injection e with e1 e2
 subst e1 e2
 rw[own_at hk,Nat.zero_add] at hc
 exact hc
theorem setsEdges_walk(pa:Option Addr)(pn pc:Nat)(ps:List Int)(ba:Option Addr)(bn bc:Nat)(bs:List BlkR)(ta:Option Addr)(tn tc:Nat)(ls:List TileR)(w:World)(hp:Ints w pa pn ps)(h:BlksR w ba bn bs)(ht:TilesOK w ta tn ls)(hT:Tab w):
  Calls Tryz.prog 5 #[funcV pa pn pc ba bn bc,.slice ta tn tc] w fun e w'=>e=.returned (.bool true)∧Below w.heap.size w w':=by
 have hpn:=hp.2.1
 have HPI:=Lib.hid hp
 have HB:=Lib.hid h
 have HTL:=Lib.hid ht
 have HTB:=Lib.hid hT
 have HLb:=Lib.hid h.1.1
 have HLt:=Lib.hid ht.1.1
 clear hp h ht hT
 go_enter Tryz.func5,Tryz.ntmps5
 go_upto_region 1 with (fail)
 obtain⟨w0,hw0⟩:∃w0,w0=w.alloc (funcO pa pn pc ba bn bc):=⟨_,rfl⟩
 rw[←hw0]
 have HB0:Hid (Below w.heap.size w w0):=by rw[hw0];exact ext_alloc _ _
 have HF0:Hid (w0.heap[w.heap.size]? =some (funcO pa pn pc ba bn bc)):=by rw[hw0];exact heap_alloc_new _ _
 clear hw0
 go_upto_if 27 with (first
  |(refine wpList_load_row (o:=⟨some 25,.load 25 _,_,_,_,_⟩) rfl 25 _ rfl w.heap.size rfl 25 _ (0,0) _ HF1.out Tryz.underlying25 rfl size_func ?_)
  |(go_at_call 7
    refine(great19_any pa pn pc hpn ba bn bc bs ta tn tc ls w1 (HB.out.ext HB1.out) (HTL.out.ext HB1.out)).mono ?_;rintro e w2 ⟨big,rfl,hb2,hbig⟩;have HB2:=Lib.hid (ext_trans HB1.out hb2);have HF2:=Lib.hid (block_ext hb2 HF1.out);have HBIG:=Lib.hid hbig
    clear hb2 hbig)
  |(go_at_call 8
    refine(awake19_any w0 (HTB.out.ext HB0.out)).mono ?_;rintro e w1 ⟨rfl,hb1⟩;have HB1:=Lib.hid (ext_trans HB0.out hb1);have HF1:=Lib.hid (block_ext hb1 HF0.out)
    clear hb1))
 cases hbg:big with
 |true=>
  go_wp2
  go_ret
  exact⟨rfl,HB2.out⟩
 |false=>
  have HBG:=Lib.hid (HBIG.out hbg);clear hbg;have HTOT:Hid (totL (tdOf ls)≤1000000):=by have:=HBG.out.2.1;show _≤_;omega
  have HTN:tn≤90:=by have:=HBG.out.2.1;omega
  clear HBIG HB0 HB1 HF0 HF1
  go_upto_if 35 with (first
   |(refine wpList_load_row (o:=⟨some 29,.load 25 _,_,_,_,_⟩) rfl 25 _ rfl w.heap.size rfl 25 _ (0,0) _ HF2.out Tryz.underlying25 rfl size_func ?_)
   |(go_at_call 11
     refine(sAll_any pa pn pc ps ba bn bc bs ta tn tc ls w2 (HPI.out.ext HB2.out) (HB.out.ext HB2.out) (HTL.out.ext HB2.out) HTOT.out (HTB.out.ext HB2.out)).mono ?_;rintro e w3 ⟨v,rfl,hso,hb3⟩;have HSO:=Lib.hid hso;have HB3:=Lib.hid (ext_trans HB2.out hb3);have HF3:=Lib.hid (block_ext hb3 HF2.out);have HS23:Hid (w2.heap.size≤w3.heap.size):=hb3.size
     clear hb3 hso))
  clear HB2 HF2;have HBX:Hid (∀{W:World},Below w.heap.size w W→BlksOK W ba bn (hOf bs)):=fun hb=>(HB.out.ext hb).x.1;by_cases hR:rightE ps bs=0
  rotate_left
  ·have HSE:Hid (setE ps bs (tdOf ls)=2):=by rw[Hid,setE,if_pos hR]
   obtain⟨rs,hrs,hsi⟩:=HSO.out;obtain⟨va,vc,rfl⟩:=OwnR.form hsi.1;have hl0:rs.length=0:=by
    have:=congrArg List.length hrs;rw[List.length_map,allM,if_neg (by rw[HSE.out];omega)] at this;exact this
   rw[hl0,HSE.out];have HNE:Hid ((rightE ps bs != 0)=true):=by show(rightE ps bs != 0)=true;simpa using hR
   clear hR hsi hrs hl0 HSO
   go_wp2_with (first
    |((with_reducible show wpList _ _ _ (⟨some 43,.load _ _,_,_,_,_⟩ :: _) _ _);refine wpList_load_rowW (o:=⟨some 43,.load 25 _,_,_,_,_⟩) (by rfl) 25 _ rfl w.heap.size rfl 25 _ (0,0) _ HF3.out Tryz.underlying25 rfl size_func ?_)
    |(go_at_call 32
      refine(irRight_any pa pn pc ps ba bn bc bs w3 (HPI.out.ext HB3.out) (HB.out.ext HB3.out)).mono ?_;rintro e w4 ⟨rfl,hb4⟩;have HB4:=Lib.hid (ext_trans HB3.out hb4);have hne:=HNE.out
      clear hb4))
   go_ret
   exact⟨rfl,HB4.out⟩
  ·have HRZ:=Lib.hid hR;clear hR;cases hrt:rightB (tsOf (hOf bs)) (tdOf ls) with
   |false=>
    have HSE:Hid (setE ps bs (tdOf ls)=12):=by rw[Hid,setE,if_neg (by rw[HRZ.out];simp),if_pos hrt]
    obtain⟨rs,hrs,hsi⟩:=HSO.out;obtain⟨va,vc,rfl⟩:=OwnR.form hsi.1;have hl0:rs.length=0:=by
     have:=congrArg List.length hrs;rw[List.length_map,allM,if_neg (by rw[HSE.out];omega)] at this;exact this
    rw[hl0,HSE.out];have HRT:=Lib.hid hrt;clear hrt hsi hrs hl0 HSO
    go_wp2_with (first
     |((with_reducible show wpList _ _ _ (⟨some 51,.load _ _,_,_,_,_⟩ :: _) _ _);refine wpList_load_rowW (o:=⟨some 51,.load 25 _,_,_,_,_⟩) (by rfl) 25 _ rfl w.heap.size rfl 25 _ (0,0) _ HF3.out Tryz.underlying25 rfl size_func ?_)
     |(go_at_call 33
       refine(tright_any pa pn pc ba bn bc (hOf bs) ta tn tc ls w3 (HBX.out HB3.out) (HTL.out.ext HB3.out) HTOT.out).mono ?_;rw[HRT.out];rintro e w4 ⟨rfl,hb4⟩;have HB4:=Lib.hid (ext_trans HB3.out hb4)
       clear hb4))
    go_ret
    exact⟨rfl,HB4.out⟩
   |true=>
    have HRT:=Lib.hid hrt;have HSE:Hid (setE ps bs (tdOf ls)=0):=by rw[Hid,setE,if_neg (by rw[HRZ.out];simp),if_neg (by rw[hrt];simp)]
    obtain⟨rs,hrs,hsi⟩:=HSO.out;rw[allM,if_pos HSE.out] at hrs;have HRS:=Lib.hid hrs;have hrl:rs.length=tn:=by
     have:=congrArg List.length hrs;rw[List.length_map,setsM,List.length_map,List.length_range] at this;rw[this,tdOf_len,HLt.out]
    obtain⟨va,vc,rfl⟩:=OwnR.form hsi.1;rw[hrl,HSE.out];have h00:((0:Int) != 0)=false:=rfl;have htt:((tn:Int) != (tn:Int))=false:=by simp
    have HSI:Hid (SetsIn w3 w2.heap.size (.slice va tn vc) rs):=by rw[←hrl];exact hsi
    have HRL:=Lib.hid hrl;have HOE:Hid (overErr (tsOf (hOf bs)) (tdOf ls)=0):=by rw[Hid,overErr,if_pos (right_fits hrt),if_pos hrt]
    clear hrt hrs hsi hrl HSO
    go_upto_region 12 with (first
     |(refine wpList_load_row (o:=⟨some 59,.load 25 _,_,_,_,_⟩) rfl 25 _ rfl w.heap.size rfl 25 _ (0,0) _ HF3.out Tryz.underlying25 rfl size_func ?_)
     |(go_at_call 34
       refine(between_any pa pn pc ba bn bc (hOf bs) ta tn tc ls w3 (HBX.out HB3.out) (HTL.out.ext HB3.out) HTOT.out).mono ?_;rintro e w4 ⟨rv,he,hb4,_,hyes⟩;rw[HOE.out] at he;subst he;obtain⟨hs,hrows,hmap⟩:=hyes HRT.out;obtain⟨ra,rc,rfl⟩:=hrows.1.form;have HROWS:=Lib.hid hrows;have HMAP:=Lib.hid hmap;have HB4:=Lib.hid (ext_trans HB3.out hb4);have HF4:=Lib.hid (block_ext hb4 HF3.out);have HSI4:=Lib.hid (HSI.out.ext hb4);have HS34:Hid (w3.heap.size≤w4.heap.size):=hb4.size
       clear hb4 hyes hrows hmap)
     |(refine wpList_load_row (o:=⟨some 65,.load 25 _,_,_,_,_⟩) rfl 25 _ rfl w.heap.size rfl 25 _ (0,0) _ HF4.out Tryz.underlying25 rfl size_func ?_)
     |(go_at_call 35
       refine(town_any pa pn pc ba bn bc (hOf bs) ta tn tc ls w4 (HBX.out HB4.out) (HTL.out.ext HB4.out)).mono ?_;rintro e w5 ⟨ov,en,rfl,hb5,_,_,hyes⟩;obtain⟨rfl,gow,cow,rfl,how⟩:=hyes (right_fits HRT.out) (by have:=right_own HRT.out;rwa [tsh_len,HLb.out] at this);have HOW:=Lib.hid how;have HB5:=Lib.hid (ext_trans HB4.out hb5);have HF5:=Lib.hid (block_ext hb5 HF4.out);have HSI5:=Lib.hid (HSI4.out.ext hb5);have HROW5:=Lib.hid (RowsIn.ext HROWS.out hb5)
       clear hb5 hyes how))
    clear HSI HSI4 HF3 HF4 HB3 HB4 HROWS;have HTS:Hid (∀k,k<tn→∃s,rs[k]? =some s∧s.d=setM ps bs (tdOf ls) k):=fun k hk=>by
     have hk2:k<rs.length:=by rw[HRL.out];exact hk
     refine⟨rs[k],List.getElem?_eq_getElem hk2,?_⟩;have e1:(rs.map (·.d))[k]? =some rs[k].d:=by simp[hk2]
     rw[HRS.out,setsM,List.getElem?_map,List.getElem?_range (by rw[tdOf_len,HLt.out];exact hk)] at e1;simpa using e1.symm
    have HOF:Hid (∀k:Nat,k<tn→ofE ps bs (tdOf ls) k=0∧needM ps bs (tdOf ls) k=risL ((setM ps bs (tdOf ls) k).live++(setM ps bs (tdOf ls) k).defs)):=fun k hk=>by
     have h1:ofE ps bs (tdOf ls) k=0:=by
      rw[ofE,HSE.out,if_neg (by omega),if_neg (by rw[tdOf_len,HLt.out];omega)]
     refine⟨h1,?_⟩;rw[needM,ofM,if_pos h1,Int.toNat_natCast]
    have HSZ:Hid (w.heap.size<w5.heap.size):=lt_of_heap HF5.out;have hhl:hs.length≤17592186044416:=HROW5.out.1.2;go_wp2
    go_loopw [11] (fun v11 wr=>∃i:Nat,v11=.int .i64 (i:Int)∧i≤hs.length∧Hid (Below w5.heap.size w5 wr)) (fun v11 _=>hs.length-(intOf v11).toNat)
    case atStart=>exact⟨0,rfl,by omega,Below.refl _ _⟩
    case round=>
     obtain⟨i,rfl,hi,HBr⟩:=hrel;by_cases hlt:i<hs.length
     ·obtain⟨hh,gr,or_,la,lc,ea,ec,hhk,hra,_,_,_,_,c0,c1,c2,c3,c4⟩:=((RowsIn.ext HROW5.out HBr.out).t).at hlt;subst hra;have hm:hh.r∈rowsL (tsOf (hOf bs)) (tdOf ls) fun _=>true:=by rw[←HMAP.out];exact List.mem_map.2 ⟨hh,List.mem_of_getElem? hhk,rfl⟩
      obtain⟨x,hx,hne,_,hxr⟩:=mem_rows.1 hm;have hxe:hh.r.e=x:=by rw[←hxr];rfl
      obtain⟨b,j,hb,hj,hxd⟩:=(mem_edgesL _ _).1 hx;rw[tsh_len,HLb.out] at hb;obtain⟨xb,hxb,hts,_⟩:=blk_at (bs:=bs) (b:=b) (by rw[HLb.out];exact hb);rw[hts] at hj hxd;obtain⟨y,hy⟩:∃y,(toD xb.h.t)[j]? =some y:=⟨_,List.getElem?_eq_getElem hj⟩
      have hyd:(toD xb.h.t).getD j 0=y:=by rw[List.getD_eq_getElem?_getD,hy];rfl
      rw[hyd] at hxd;have hyb:1≤y∧y<(bn:Int):=by
       have h1:=List.all_eq_true.1 (List.all_eq_true.1 (rightE_zero HRZ.out).2.2 xb (List.mem_of_getElem? hxb)) y (List.mem_of_getElem? hy);rw[HLb.out] at h1;simpa using h1
      obtain⟨q,rfl⟩:∃q:Nat,y=(q:Int):=⟨y.toNat,by omega⟩
      have hqb:q<bn:=by omega
      have hown:ownB (tdOf ls) bn=true:=by have:=right_own HRT.out;rwa [tsh_len,HLb.out] at this
      obtain⟨kf,hkf⟩:∃kf,kf=ownF (tdOf ls) b:=⟨_,rfl⟩
      obtain⟨kt,hkt⟩:∃kt,kt=ownF (tdOf ls) q:=⟨_,rfl⟩
      have hkfn:kf<tn:=by rw[hkf];have:=own_lt hown hb;rwa [tdOf_len,HLt.out] at this
      have hktn:kt<tn:=by rw[hkt];have:=own_lt hown hqb;rwa [tdOf_len,HLt.out] at this
      obtain⟨SF,hsf,hsfd⟩:=HTS.out kf hkfn;obtain⟨ST,hst,hstd⟩:=HTS.out kt hktn;have HED:Hid (∀v∈vInL (bksL bs) q,v∈SF.d.live∧v∈ST.d.live∧v∈SF.d.out∧v∈ST.d.inn):=fun v hv=>by
       have:=sets_edge (ps:=ps) HRT.out (rightE_zero HRZ.out).2.2 hm (v:=v) (by rw[hxe,hxd];exact hv);rw[hxe,hxd] at this;simp only[Int.toNat_natCast] at this;rw[←hkf,←hkt,←hsfd,←hstd] at this;exact this
      rw[hxe,hxd] at c0 c1 c2;simp only at c0 c1 c2;have HSF:=Lib.hid hsf;have HST:=Lib.hid hst;have HSFD:=Lib.hid hsfd;have HSTD:=Lib.hid hstd;have HXB:=Lib.hid hxb;have HY:=Lib.hid hy;have HKF:=Lib.hid hkf;have HKT:=Lib.hid hkt;have HBW:=Lib.hid (ext_trans HB5.out HBr.out);have HFr:=Lib.hid (block_ext HBr.out HF5.out);have hlt':(i:Int)<(hs.length:Int):=by omega
      clear hhk hm hx hne hxr hxe hxb hts hxd hy hyd hown hsf hst hsfd hstd hkf hkt hj hi hyb;go_upto_region 16 with (fail)
      obtain⟨w6,hw6⟩:∃w6,w6=wr.alloc (edgO ⟨(b:Nat),(j:Nat),(q:Nat)⟩):=⟨_,rfl⟩
      rw[←hw6];have hx6:Below wr.heap.size wr w6:=by rw[hw6];exact ext_alloc _ _
      have HE6:Hid (w6.heap[wr.heap.size]? =some (edgO ⟨(b:Nat),(j:Nat),(q:Nat)⟩)):=by rw[hw6];exact heap_alloc_new _ _
      have HB6:=Lib.hid (ext_trans HBW.out hx6);have HG6:=Lib.hid (ext_trans HBr.out hx6);have HF6:=Lib.hid (block_ext hx6 HFr.out);clear hw6 hx6 c0 c1 c2 c3 c4 HBW HFr HBr;generalize wr.heap.size=qe at*
      go_upto_region 17 with (first
       |(refine wpList_load_row (o:=⟨some 94,.load 25 _,_,_,_,_⟩) rfl 25 _ rfl w.heap.size rfl 25 _ (0,0) _ HF6.out Tryz.underlying25 rfl size_func ?_)
       |(refine wpList_load_row (o:=⟨some 95,.load 86 _,_,_,_,_⟩) rfl 86 _ rfl qe rfl 86 _ (0,0) _ HE6.out Tryz.underlying86 rfl rfl ?_)
       |(go_at_call 36
         refine(liveOn_any pa pn pc ps ba bn bc bs b j (q:Int) w6 (HPI.out.ext HB6.out) (HB.out.ext HB6.out) (HTB.out.ext HB6.out) HRZ.out hb xb HXB.out HY.out).mono ?_;rintro e w7 ⟨v7,rfl,ho7,hb7⟩;obtain⟨a7,c7,rfl⟩:=ho7.form;have HON:=Lib.hid ho7.ints;have HB7:=Lib.hid (ext_trans HB6.out hb7);have HG7:=Lib.hid (ext_trans HG6.out hb7);have HF7:=Lib.hid (block_ext hb7 HF6.out);have HE7:=Lib.hid (block_ext hb7 HE6.out)
         clear hb7 ho7))
      have HS7:Hid (SetsIn w7 w2.heap.size (.slice va tn vc) rs):=HSI5.out.ext HG7.out;have H1F:Hid ((setC SF).toArray.all (·.oneCell')=true):=setC_one (HS7.out.2 SF (List.mem_of_getElem? HSF.out));have H1T:Hid ((setC ST).toArray.all (·.oneCell')=true):=setC_one (HS7.out.2 ST (List.mem_of_getElem? HST.out))
      obtain⟨ga,rfl⟩:∃ga,va=some ⟨ga,0,none⟩:=(by
       obtain⟨g,c,e⟩:=own_form HS7.out.1.1 (by rw[HRL.out];omega);injection e with e _ _
       exact⟨g,e⟩)
      go_cut [14,15] (fun v14 v15 wc=>∃q1 q2:Nat,v14=.pointer (some ⟨q1,0,none⟩)∧v15=.pointer (some ⟨q2,0,none⟩)∧Hid (wc.heap[q1]? =some (.cells (setC SF).toArray 39 (0,0)))∧Hid (wc.heap[q2]? =some (.cells (setC ST).toArray 39 (0,0)))∧Hid (Below w7.heap.size w7 wc))
      case first=>as_aux_lemma=>
       have HNE:Nonempty (ExtW w7):=⟨⟨w7,Below.refl _ _⟩⟩
       have g1:∀n:ExtW w7,n.val.cell? ⟨qe,0,none⟩=some (.int .i64 (b:Int)):=fun n=>by rw[cell_of_row _ _ _ _ _ _ (block_ext n.ext HE7.out)];rfl
       have g2:∀n:ExtW w7,n.val.cell? ⟨qe,2,none⟩=some (.int .i64 (q:Int)):=fun n=>by rw[cell_of_row _ _ _ _ _ _ (block_ext n.ext HE7.out)];rfl
       have g3:∀n:ExtW w7,n.val.cell? ⟨gow,b,none⟩=some (.int .i64 (kf:Int)):=fun n=>by rw[HKF.out];exact cell_ext (ext_trans HG7.out n.ext) (own_cell HOW.out hb)
       have g4:∀n:ExtW w7,n.val.cell? ⟨gow,q,none⟩=some (.int .i64 (kt:Int)):=fun n=>by rw[HKT.out];exact cell_ext (ext_trans HG7.out n.ext) (own_cell HOW.out hqb)
       have g5:∀w',(∃n:ExtW w7,w'=n.val)→w'.rangeAt ga (kf*7) (setC SF):=fun w' ⟨n,e⟩=>by rw[e];exact sets_range (HS7.out.ext n.ext) HSF.out
       have g6:∀w',(∃n:ExtW w7,w'=n.val)→w'.rangeAt ga (kt*7) (setC ST):=fun w' ⟨n,e⟩=>by rw[e];exact sets_range (HS7.out.ext n.ext) HST.out
       have hb':(b:Int)<(bn:Int):=by omega
       have hq':(q:Int)<(bn:Int):=by omega
       have hkf':(kf:Int)<(tn:Int):=by omega
       have hkt':(kt:Int)<(tn:Int):=by omega
       refine z_start (fun w'=>∃n:ExtW w7,w'=n.val) (by kernel_rfl) ?_;obtain⟨wd,hwd⟩:∃z,z=w7.drew:=⟨_,rfl⟩
       rw[←hwd];have Ewd:Below w7.heap.size w7 wd:=by rw[hwd];exact ext_drewN (Below.refl _ _) 1
       refine z_reads 0 16 (by kernel_rfl) ⟨⟨_,Ewd⟩,rfl⟩ ?_;simp only[List.take_succ_cons,List.take_zero,List.drop_succ_cons,List.drop_zero]
       repeat (first
        |((with_reducible show wpQuiet _ _ _ _ (⟨some 104,_,_,_,_,_⟩ :: _) _);refine wpQuiet_load_mid (o:=⟨some 104,.load 39 _,_,_,_,_⟩) (by rfl) 39 _ rfl ga (kf*7) rfl (setC SF) _ g5 Tryz.underlying39 rfl (size_setS' SF) ?_;simp only[Act.put,List.setIfInBounds_toArray,List.set_cons_succ,List.set_cons_zero])
        |((with_reducible show wpQuiet _ _ _ _ (⟨some 112,_,_,_,_,_⟩ :: _) _);refine wpQuiet_load_mid (o:=⟨some 112,.load 39 _,_,_,_,_⟩) (by rfl) 39 _ rfl ga (kt*7) rfl (setC ST) _ g6 Tryz.underlying39 rfl (size_setS' ST) ?_;simp only[Act.put,List.setIfInBounds_toArray,List.set_cons_succ,List.set_cons_zero])
        |go_big_quiet_step (fail))
       refine wpQuiet_nil ?_;clear g1 g2 g3 g4 g5 g6 hb' hq' hkf' hkt' HNE;refine z_two 16 17 (by kernel_rfl) ?_ ?_
       ·refine wpOp_at rfl rfl ?_;refine op_allocB 39 rfl (.agg #[nilS,nilS,nilS,nilS,nilS,nilS,nilS]) zero_setS ?_;intro gA wa hbwa hewa hrwa;have Ewa:Below w7.heap.size w7 wa:=ext_trans Ewd hbwa;have hlgA:w7.heap.size≤gA:=(by rw[hewa];exact Ewd.size)
        refine⟨.inr ⟨⟨_,Ewa⟩,rfl⟩,?_⟩;simp only[Act.put,List.setIfInBounds_toArray,List.set_cons_succ,List.set_cons_zero];have lA:=lt_of_heap hrwa;refine z_one 17 (by kernel_rfl) ?_;refine wpOp_at rfl rfl ?_;refine op_allocB 39 rfl (.agg #[nilS,nilS,nilS,nilS,nilS,nilS,nilS]) zero_setS ?_;intro gB wb hbwb hewb hrwb;have Ewb:Below w7.heap.size w7 wb:=ext_trans Ewa hbwb;have hlgB:w7.heap.size≤gB:=(by rw[hewb];exact Ewa.size)
        refine⟨.inr ⟨⟨_,Ewb⟩,rfl⟩,?_⟩;simp only[Act.put,List.setIfInBounds_toArray,List.set_cons_succ,List.set_cons_zero];refine z_one 18 (by kernel_rfl) ?_;have hqwx:wb.heap[gA]? =some (.cells #[nilS,nilS,nilS,nilS,nilS,nilS,nilS] 39 (0,0)):=block_ext hbwb hrwa;refine wpOp_at rfl rfl ?_;refine wp_store_row 39 _ _ rfl gA (setC SF).toArray rfl rfl 39 _ hqwx (size_setS' SF) rfl H1F.out ?_;obtain⟨wx,hwx⟩:∃z,z=World.setRow wb gA (setC SF).toArray:=⟨_,rfl⟩
        rw[←hwx];have Ewx:Below w7.heap.size w7 wx:=(by rw[hwx];exact below_setRow Ewb hlgA _)
        have rwx:wx.heap[gA]? =some (.cells (setC SF).toArray 39 (0,0)):=(by rw[hwx];exact setRow_heap _ _ _ _ _ _ hqwx)
        refine⟨.inr ⟨⟨_,Ewx⟩,rfl⟩,?_⟩;refine z_one 19 (by kernel_rfl) ?_;have hqwy:wx.heap[gB]? =some (.cells #[nilS,nilS,nilS,nilS,nilS,nilS,nilS] 39 (0,0)):=by rw[hwx,setRow_other _ _ _ _ (by omega)];exact hrwb
        refine wpOp_at rfl rfl ?_;refine wp_store_row 39 _ _ rfl gB (setC ST).toArray rfl rfl 39 _ hqwy (size_setS' ST) rfl H1T.out ?_;obtain⟨wy,hwy⟩:∃z,z=World.setRow wx gB (setC ST).toArray:=⟨_,rfl⟩
        rw[←hwy];have Ewy:Below w7.heap.size w7 wy:=(by rw[hwy];exact below_setRow Ewx hlgB _)
        have rwy:wy.heap[gB]? =some (.cells (setC ST).toArray 39 (0,0)):=(by rw[hwy];exact setRow_heap _ _ _ _ _ _ hqwy)
        refine⟨.inr ⟨⟨_,Ewy⟩,rfl⟩,?_⟩;refine z_done (by kernel_rfl) ?_;go_wp2
        go_meet
        exact⟨gA,gB,rfl,rfl,by rw[Hid,hwy,setRow_other _ _ _ _ (by omega)];exact rwx,rwy,Ewy⟩
       ·refine wpOp_at rfl rfl ?_;refine op_allocB 39 rfl (.agg #[nilS,nilS,nilS,nilS,nilS,nilS,nilS]) zero_setS ?_;intro gB wa hbwa hewa hrwa;have Ewa:Below w7.heap.size w7 wa:=ext_trans Ewd hbwa;have hlgB:w7.heap.size≤gB:=(by rw[hewa];exact Ewd.size)
        refine⟨.inr ⟨⟨_,Ewa⟩,rfl⟩,?_⟩;simp only[Act.put,List.setIfInBounds_toArray,List.set_cons_succ,List.set_cons_zero];have lB:=lt_of_heap hrwa;refine z_one 16 (by kernel_rfl) ?_;refine wpOp_at rfl rfl ?_;refine op_allocB 39 rfl (.agg #[nilS,nilS,nilS,nilS,nilS,nilS,nilS]) zero_setS ?_;intro gA wb hbwb hewb hrwb;have Ewb:Below w7.heap.size w7 wb:=ext_trans Ewa hbwb;have hlgA:w7.heap.size≤gA:=(by rw[hewb];exact Ewa.size)
        refine⟨.inr ⟨⟨_,Ewb⟩,rfl⟩,?_⟩;simp only[Act.put,List.setIfInBounds_toArray,List.set_cons_succ,List.set_cons_zero];refine z_one 18 (by kernel_rfl) ?_;have hqwx:wb.heap[gA]? =some (.cells #[nilS,nilS,nilS,nilS,nilS,nilS,nilS] 39 (0,0)):=hrwb;refine wpOp_at rfl rfl ?_;refine wp_store_row 39 _ _ rfl gA (setC SF).toArray rfl rfl 39 _ hqwx (size_setS' SF) rfl H1F.out ?_;obtain⟨wx,hwx⟩:∃z,z=World.setRow wb gA (setC SF).toArray:=⟨_,rfl⟩
        rw[←hwx];have Ewx:Below w7.heap.size w7 wx:=(by rw[hwx];exact below_setRow Ewb hlgA _)
        have rwx:wx.heap[gA]? =some (.cells (setC SF).toArray 39 (0,0)):=(by rw[hwx];exact setRow_heap _ _ _ _ _ _ hqwx)
        refine⟨.inr ⟨⟨_,Ewx⟩,rfl⟩,?_⟩;refine z_one 19 (by kernel_rfl) ?_;have hqwy:wx.heap[gB]? =some (.cells #[nilS,nilS,nilS,nilS,nilS,nilS,nilS] 39 (0,0)):=by rw[hwx,setRow_other _ _ _ _ (by omega)];exact block_ext hbwb hrwa
        refine wpOp_at rfl rfl ?_;refine wp_store_row 39 _ _ rfl gB (setC ST).toArray rfl rfl 39 _ hqwy (size_setS' ST) rfl H1T.out ?_;obtain⟨wy,hwy⟩:∃z,z=World.setRow wx gB (setC ST).toArray:=⟨_,rfl⟩
        rw[←hwy];have Ewy:Below w7.heap.size w7 wy:=(by rw[hwy];exact below_setRow Ewx hlgB _)
        have rwy:wy.heap[gB]? =some (.cells (setC ST).toArray 39 (0,0)):=(by rw[hwy];exact setRow_heap _ _ _ _ _ _ hqwy)
        refine⟨.inr ⟨⟨_,Ewy⟩,rfl⟩,?_⟩;refine z_done (by kernel_rfl) ?_;go_wp2
        go_meet
        exact⟨gA,gB,rfl,rfl,by rw[Hid,hwy,setRow_other _ _ _ _ (by omega)];exact rwx,rwy,Ewy⟩
      case rest=>as_aux_lemma=>
       obtain⟨q1,q2,rfl,rfl,HR1,HR2,HBc⟩:=hcut;have HBwc:=Lib.hid (ext_trans HB7.out HBc.out);have HGwc:=Lib.hid (ext_trans HG7.out HBc.out);have HFwc:=Lib.hid (block_ext HBc.out HF7.out);have HEwc:=Lib.hid (block_ext HBc.out HE7.out);have HONc:=Lib.hid (HON.out.ext HBc.out);have hkn_kf:=hkfn;have hkn_kt:=hktn;clear HB7 HG7 HF7 HE7 HB6 HG6 HF6 HE6 HON HS7;go_upto_region 18 with (fail)
       have HNEw8:Nonempty (ExtW wc):=⟨⟨wc,Below.refl _ _⟩⟩
       have g0:∀w',(∃n:ExtW wc,w'=n.val)→w'.heap[w.heap.size]? =some (funcO pa pn pc ba bn bc):=fun w' ⟨n,e⟩=>by rw[e];exact block_ext n.ext HFwc.out
       have g1:∀n:ExtW wc,n.val.cell? ⟨qe,0,none⟩=some (.int .i64 (b:Int)):=fun n=>by rw[cell_of_row _ _ _ _ _ _ (block_ext n.ext HEwc.out)];rfl
       have g3:∀n:ExtW wc,n.val.cell? ⟨gow,b,none⟩=some (.int .i64 (kf:Int)):=fun n=>by rw[HKF.out];exact cell_ext (ext_trans HGwc.out n.ext) (own_cell HOW.out hb)
       have hb':(b:Int)<(bn:Int):=by omega
       refine region_mix (fun w'=>∃n:ExtW wc,w'=n.val) [(0,7,some (7,true)),(8,5,none)] (by kernel_rfl) (by kernel_rfl) ⟨⟨_,ext_drewN (Below.refl _ _) 1⟩,rfl⟩ ?_;simp only[wpMix,List.take_succ_cons,List.take_zero,List.drop_succ_cons,List.drop_zero]
       repeat (first
        |((with_reducible show wpQuiet _ _ _ _ (⟨some 114,_,_,_,_,_⟩ :: _) _);refine wpQuiet_load_row (o:=⟨some 114,.load 25 _,_,_,_,_⟩) (by rfl) 25 _ rfl w.heap.size rfl 25 _ (0,0) _ g0 Tryz.underlying25 rfl size_func ?_;simp only[Act.put,List.setIfInBounds_toArray,List.set_cons_succ,List.set_cons_zero])
        |go_big_quiet_step (fail))
       refine wpQuiet_nil ?_;clear g0 g1 g3 hb';refine wpOp_at rfl rfl ?_;go_simp;refine(sNeeds_any pa pn pc ps ba bn bc bs ta tn tc ls (kf:Int) wc.drew (HPI.out.ext (ext_trans HBwc.out (ext_drewN (Below.refl _ _) 1))) (HB.out.ext (ext_trans HBwc.out (ext_drewN (Below.refl _ _) 1))) (HTL.out.ext (ext_trans HBwc.out (ext_drewN (Below.refl _ _) 1))) HTOT.out (HTB.out.ext (ext_trans HBwc.out (ext_drewN (Below.refl _ _) 1))) (by unfold I64;omega)).mono ?_;rintro e w8 ⟨nw8,he,ho,hb⟩;rw[(HOF.out kf hkn_kf).1] at he;subst he;rw[(HOF.out kf hkn_kf).2] at ho;obtain⟨anw8,cnw8,rfl⟩:=ho.form
       replace hb:=unDrew1 hb
       have HNw8:=Lib.hid ho.ints;have HXw8:=Lib.hid hb;have HBw8:=Lib.hid (ext_trans HBwc.out hb);have HGw8:=Lib.hid (ext_trans HGwc.out hb);have HFw8:=Lib.hid (block_ext hb HFwc.out);have HEw8:=Lib.hid (block_ext hb HEwc.out);refine⟨⟨⟨_,hb⟩,rfl⟩,?_⟩
       repeat (go_big_quiet_step (fail))
       refine wpQuiet_nil ?_;clear ho hb HNEw8;refine NoPanic.normal ?_;go_upto_region 19 with (fail)
       have HNEw9:Nonempty (ExtW w8):=⟨⟨w8,Below.refl _ _⟩⟩
       have g0:∀w',(∃n:ExtW w8,w'=n.val)→w'.heap[w.heap.size]? =some (funcO pa pn pc ba bn bc):=fun w' ⟨n,e⟩=>by rw[e];exact block_ext n.ext HFw8.out
       have g1:∀n:ExtW w8,n.val.cell? ⟨qe,2,none⟩=some (.int .i64 (q:Int)):=fun n=>by rw[cell_of_row _ _ _ _ _ _ (block_ext n.ext HEw8.out)];rfl
       have g3:∀n:ExtW w8,n.val.cell? ⟨gow,q,none⟩=some (.int .i64 (kt:Int)):=fun n=>by rw[HKT.out];exact cell_ext (ext_trans HGw8.out n.ext) (own_cell HOW.out hqb)
       have hb':(q:Int)<(bn:Int):=by omega
       refine region_mix (fun w'=>∃n:ExtW w8,w'=n.val) [(0,7,some (7,true)),(8,5,none)] (by kernel_rfl) (by kernel_rfl) ⟨⟨_,ext_drewN (Below.refl _ _) 1⟩,rfl⟩ ?_;simp only[wpMix,List.take_succ_cons,List.take_zero,List.drop_succ_cons,List.drop_zero]
       repeat (first
        |((with_reducible show wpQuiet _ _ _ _ (⟨some 125,_,_,_,_,_⟩ :: _) _);refine wpQuiet_load_row (o:=⟨some 125,.load 25 _,_,_,_,_⟩) (by rfl) 25 _ rfl w.heap.size rfl 25 _ (0,0) _ g0 Tryz.underlying25 rfl size_func ?_;simp only[Act.put,List.setIfInBounds_toArray,List.set_cons_succ,List.set_cons_zero])
        |go_big_quiet_step (fail))
       refine wpQuiet_nil ?_;clear g0 g1 g3 hb';refine wpOp_at rfl rfl ?_;go_simp;refine(sNeeds_any pa pn pc ps ba bn bc bs ta tn tc ls (kt:Int) w8.drew (HPI.out.ext (ext_trans HBw8.out (ext_drewN (Below.refl _ _) 1))) (HB.out.ext (ext_trans HBw8.out (ext_drewN (Below.refl _ _) 1))) (HTL.out.ext (ext_trans HBw8.out (ext_drewN (Below.refl _ _) 1))) HTOT.out (HTB.out.ext (ext_trans HBw8.out (ext_drewN (Below.refl _ _) 1))) (by unfold I64;omega)).mono ?_;rintro e w9 ⟨nw9,he,ho,hb⟩;rw[(HOF.out kt hkn_kt).1] at he;subst he;rw[(HOF.out kt hkn_kt).2] at ho;obtain⟨anw9,cnw9,rfl⟩:=ho.form
       replace hb:=unDrew1 hb
       have HNw9:=Lib.hid ho.ints;have HXw9:=Lib.hid hb;have HBw9:=Lib.hid (ext_trans HBw8.out hb);have HGw9:=Lib.hid (ext_trans HGw8.out hb);have HFw9:=Lib.hid (block_ext hb HFw8.out);have HEw9:=Lib.hid (block_ext hb HEw8.out);refine⟨⟨⟨_,hb⟩,rfl⟩,?_⟩
       repeat (go_big_quiet_step (fail))
       refine wpQuiet_nil ?_;clear ho hb HNEw9;refine NoPanic.normal ?_;have hx89:=ext_trans HXw8.out HXw9.out;have HS9:Hid (SetsIn w9 w2.heap.size (.slice (some ⟨ga,0,none⟩) tn vc) rs):=HSI5.out.ext HGw9.out;have HON9:=Lib.hid (HONc.out.ext hx89);have HN89:=Lib.hid (HNw8.out.ext HXw9.out);have oF:=HS9.out.2 SF (List.mem_of_getElem? HSF.out);have oT:=HS9.out.2 ST (List.mem_of_getElem? HST.out);obtain⟨f2,d2,e2⟩:=(oF 2 (by omega)).form;obtain⟨f5,d5,e5⟩:=(oF 5 (by omega)).form;obtain⟨t2,b2,i2⟩:=(oT 2 (by omega)).form;obtain⟨t4,b4,i4⟩:=(oT 4 (by omega)).form
       replace e2:SF.v 2=.slice f2 SF.d.live.length d2:=e2
       replace e5:SF.v 5=.slice f5 SF.d.out.length d5:=e5
       replace i2:ST.v 2=.slice t2 ST.d.live.length b2:=i2
       replace i4:ST.v 4=.slice t4 ST.d.inn.length b4:=i4
       have HI1:Hid (Ints w9 f2 SF.d.live.length SF.d.live):=by have h:=oF 2 (by omega);rw[e2] at h;exact h.ints
       have HI2:Hid (Ints w9 t2 ST.d.live.length ST.d.live):=by have h:=oT 2 (by omega);rw[i2] at h;exact h.ints
       have HI3:Hid (Ints w9 f5 SF.d.out.length SF.d.out):=by have h:=oF 5 (by omega);rw[e5] at h;exact h.ints
       have HI4:Hid (Ints w9 t4 ST.d.inn.length ST.d.inn):=by have h:=oT 4 (by omega);rw[i4] at h;exact h.ints
       have k1:w9.cell? ⟨q1,2,none⟩=some (.slice f2 SF.d.live.length d2):=by rw[cell_of_row _ _ _ _ _ _ (block_ext hx89 HR1.out),←e2];rfl
       have k2:w9.cell? ⟨q1,5,none⟩=some (.slice f5 SF.d.out.length d5):=by rw[cell_of_row _ _ _ _ _ _ (block_ext hx89 HR1.out),←e5];rfl
       have k3:w9.cell? ⟨q2,2,none⟩=some (.slice t2 ST.d.live.length b2):=by rw[cell_of_row _ _ _ _ _ _ (block_ext hx89 HR2.out),←i2];rfl
       have k4:w9.cell? ⟨q2,4,none⟩=some (.slice t4 ST.d.inn.length b4):=by rw[cell_of_row _ _ _ _ _ _ (block_ext hx89 HR2.out),←i4];rfl
       have HVI:Hid (∀v∈vInL (bksL bs) q,1≤v∧v≤200):=fun v hv=>let ⟨h1,h2,_⟩:=varsL_mem.1 hv;⟨h1,h2⟩;have A1:Hid (((vInL (bksL bs) q).all fun x=>decide (x∈SF.d.live))=true):=List.all_eq_true.2 fun v hv=>decide_eq_true (HED.out v hv).1;have A2:Hid (((vInL (bksL bs) q).all fun x=>decide (x∈ST.d.live))=true):=List.all_eq_true.2 fun v hv=>decide_eq_true (HED.out v hv).2.1;have A3:Hid (((vInL (bksL bs) q).all fun x=>decide (x∈SF.d.out))=true):=List.all_eq_true.2 fun v hv=>decide_eq_true (HED.out v hv).2.2.1;have A4:Hid (((vInL (bksL bs) q).all fun x=>decide (x∈ST.d.inn))=true):=List.all_eq_true.2 fun v hv=>decide_eq_true (HED.out v hv).2.2.2;have A5:Hid (((vInL (bksL bs) q).all fun x=>decide (x∈risL ((setM ps bs (tdOf ls) kf).live++(setM ps bs (tdOf ls) kf).defs)))=true):=List.all_eq_true.2 fun v hv=>decide_eq_true (risL_mem.2 ⟨(HVI.out v hv).1,(HVI.out v hv).2,List.mem_append.2 (.inl (by rw[←HSFD.out];exact(HED.out v hv).1))⟩);have A6:Hid (((vInL (bksL bs) q).all fun x=>decide (x∈risL ((setM ps bs (tdOf ls) kt).live++(setM ps bs (tdOf ls) kt).defs)))=true):=List.all_eq_true.2 fun v hv=>decide_eq_true (risL_mem.2 ⟨(HVI.out v hv).1,(HVI.out v hv).2,List.mem_append.2 (.inl (by rw[←HSTD.out];exact(HED.out v hv).2.1))⟩);clear hx89 oF oT e2 e5 i2 i4 HR1 HR2 HNw8 HONc HS9
       go_wp2_with (
        (go_at_call 37
         refine(within19_any _ _ _ _ _ _ (vInL (bksL bs) q) _ w9 HON9.out (by first|exact HI1.out|exact HI2.out|exact HI3.out|exact HI4.out|exact HN89.out|exact HNw9.out)).mono ?_
         first|rw[A1.out]|rw[A2.out]|rw[A3.out]|rw[A4.out]|rw[A5.out]|rw[A6.out]
         rintro e wz ⟨rfl,rfl⟩))
       go_roundw
       case rel=>exact⟨i+1,by go_num,by omega,HGw9⟩
       case measure=>simp[intOf];omega
     ·obtain rfl:i=hs.length:=by omega
      have hlt':¬(hs.length:Int)<(hs.length:Int):=by omega
      clear hlt hi;obtain⟨wA,hwA⟩:∃z,z=wr:=⟨_,rfl⟩
      subst hwA;have htn:tn≤17592186044416:=by omega
      go_wp2
      go_loopw [20] (fun v20 wr=>∃k:Nat,v20=.int .i64 (k:Int)∧k≤tn∧Hid (Below w5.heap.size w5 wr)) (fun v20 _=>tn-(intOf v20).toNat)
      case atStart=>exact⟨0,rfl,by omega,HBr⟩
      case round=>as_aux_lemma=>
       obtain⟨k,rfl,hk,HBk⟩:=hrel;clear HBr;by_cases hlt:k<tn
       ·have hlt':(k:Int)<(tn:Int):=by omega
        obtain⟨S,hs1,hs2⟩:=HTS.out k hlt;have HSk:Hid (SetsIn wr w2.heap.size (.slice va tn vc) rs):=HSI5.out.ext HBk.out
        obtain⟨ga,rfl⟩:∃ga,va=some ⟨ga,0,none⟩:=(by
         obtain⟨g,c,e⟩:=own_form HSk.out.1.1 (by rw[HRL.out];omega);injection e with e _ _
         exact⟨g,e⟩)
        have H1S:Hid ((setC S).toArray.all (·.oneCell')=true):=setC_one (HSk.out.2 S (List.mem_of_getElem? hs1));have HRG:=Lib.hid (sets_range HSk.out hs1);have hti:=sets_tile (ps:=ps) (k:=k) HRT.out (rightE_zero HRZ.out).2.2 (rightE_more HRZ.out).1 (rightE_more HRZ.out).2 (by rw[tdOf_len,HLt.out];exact hlt);rw[←hs2] at hti;have HLN:Hid (S.d.refs.length≤201∧S.d.defs.length≤201∧S.d.inn.length≤201∧S.d.thr.length≤201):=by
         rw[hs2];exact⟨risK_len _ _,risK_len _ _,risK_len _ _,Nat.le_trans (List.length_filter_le _ _) (risK_len _ _)⟩
        have HTI:=Lib.hid hti;have HO:=Lib.hid (HSk.out.2 S (List.mem_of_getElem? hs1));clear hti hs1 hs2 HSk
        go_upto_region 26 with (first
         |((with_reducible show wpList _ _ _ (⟨some 190,.load _ _,_,_,_,_⟩ :: _) _ _);refine wpList_load_mid rfl 39 _ rfl ga (k*7) rfl (setC S) _ HRG.out Tryz.underlying39 rfl (size_setS' S) ?_)
         |((with_reducible show wpList _ _ _ (⟨none,.store 39 _ _,_,_,_,_⟩ :: _) _ _);refine wpList_store_row rfl 39 _ _ rfl wr.heap.size (setC S).toArray rfl rfl 39 _ (heap_alloc_new _ _) (size_setS' S) rfl H1S.out ?_))
        try simp only[put_none]
        generalize hw6:World.setRow _ _ _=w6;have hx6:Below wr.heap.size wr w6:=by rw[←hw6];exact below_setRow (ext_alloc _ _) (Nat.le_refl _) _
        have HN6:Hid (w6.heap[wr.heap.size]? =some (.cells (setC S).toArray 39 (0,0))):=by rw[Hid,←hw6];exact setRow_heap _ _ _ _ _ _ (heap_alloc_new _ _)
        have HG6:=Lib.hid (ext_trans HBk.out hx6);obtain⟨a0,c0,e0⟩:=(HO.out 0 (by omega)).form
        replace e0:S.v 0=.slice a0 S.d.refs.length c0:=e0
        obtain⟨a1,c1,e1⟩:=(HO.out 1 (by omega)).form
        replace e1:S.v 1=.slice a1 S.d.defs.length c1:=e1
        obtain⟨a2,c2,e2⟩:=(HO.out 2 (by omega)).form
        replace e2:S.v 2=.slice a2 S.d.live.length c2:=e2
        obtain⟨a3,c3,e3⟩:=(HO.out 3 (by omega)).form
        replace e3:S.v 3=.slice a3 S.d.across.length c3:=e3
        obtain⟨a4,c4,e4⟩:=(HO.out 4 (by omega)).form
        replace e4:S.v 4=.slice a4 S.d.inn.length c4:=e4
        obtain⟨a5,c5,e5⟩:=(HO.out 5 (by omega)).form
        replace e5:S.v 5=.slice a5 S.d.out.length c5:=e5
        obtain⟨a6,c6,e6⟩:=(HO.out 6 (by omega)).form
        replace e6:S.v 6=.slice a6 S.d.thr.length c6:=e6
        have HI0:Hid (Ints wr a0 S.d.refs.length S.d.refs):=by have h:=HO.out 0 (by omega);rw[e0] at h;exact h.ints
        have HI1:Hid (Ints wr a1 S.d.defs.length S.d.defs):=by have h:=HO.out 1 (by omega);rw[e1] at h;exact h.ints
        have HI2:Hid (Ints wr a2 S.d.live.length S.d.live):=by have h:=HO.out 2 (by omega);rw[e2] at h;exact h.ints
        have HI3:Hid (Ints wr a3 S.d.across.length S.d.across):=by have h:=HO.out 3 (by omega);rw[e3] at h;exact h.ints
        have HI4:Hid (Ints wr a4 S.d.inn.length S.d.inn):=by have h:=HO.out 4 (by omega);rw[e4] at h;exact h.ints
        have HI5:Hid (Ints wr a5 S.d.out.length S.d.out):=by have h:=HO.out 5 (by omega);rw[e5] at h;exact h.ints
        have HI6:Hid (Ints wr a6 S.d.thr.length S.d.thr):=by have h:=HO.out 6 (by omega);rw[e6] at h;exact h.ints
        have HJ0:=Lib.hid (HI0.out.ext hx6);have HJ1:=Lib.hid (HI1.out.ext hx6);have HJ2:=Lib.hid (HI2.out.ext hx6);have HJ3:=Lib.hid (HI3.out.ext hx6);have HJ4:=Lib.hid (HI4.out.ext hx6);have HJ5:=Lib.hid (HI5.out.ext hx6);have HJ6:=Lib.hid (HI6.out.ext hx6);have hrow:(setC S).toArray= #[.slice a0 S.d.refs.length c0,.slice a1 S.d.defs.length c1,.slice a2 S.d.live.length c2,.slice a3 S.d.across.length c3,.slice a4 S.d.inn.length c4,.slice a5 S.d.out.length c5,.slice a6 S.d.thr.length c6]:=by simp only[setC,e0,e1,e2,e3,e4,e5,e6]
        rw[hrow] at HN6;clear hx6;generalize wr.heap.size=N at *;clear hrow hw6 HO e0 HI0 e1 HI1 e2 HI2 e3 HI3 e4 HI4 e5 HI5 e6 HI6;have HNE:Nonempty (ExtW w6):=⟨⟨w6,Below.refl _ _⟩⟩
        have g0:∀n:ExtW w6,n.val.cell? ⟨N,0,none⟩=some (.slice a0 S.d.refs.length c0):=fun n=>by rw[cell_of_row _ _ _ _ _ _ (block_ext n.ext HN6.out)];rfl
        have g1:∀n:ExtW w6,n.val.cell? ⟨N,1,none⟩=some (.slice a1 S.d.defs.length c1):=fun n=>by rw[cell_of_row _ _ _ _ _ _ (block_ext n.ext HN6.out)];rfl
        have g2:∀n:ExtW w6,n.val.cell? ⟨N,2,none⟩=some (.slice a2 S.d.live.length c2):=fun n=>by rw[cell_of_row _ _ _ _ _ _ (block_ext n.ext HN6.out)];rfl
        have g3:∀n:ExtW w6,n.val.cell? ⟨N,3,none⟩=some (.slice a3 S.d.across.length c3):=fun n=>by rw[cell_of_row _ _ _ _ _ _ (block_ext n.ext HN6.out)];rfl
        have g4:∀n:ExtW w6,n.val.cell? ⟨N,4,none⟩=some (.slice a4 S.d.inn.length c4):=fun n=>by rw[cell_of_row _ _ _ _ _ _ (block_ext n.ext HN6.out)];rfl
        have g5:∀n:ExtW w6,n.val.cell? ⟨N,5,none⟩=some (.slice a5 S.d.out.length c5):=fun n=>by rw[cell_of_row _ _ _ _ _ _ (block_ext n.ext HN6.out)];rfl
        have g6:∀n:ExtW w6,n.val.cell? ⟨N,6,none⟩=some (.slice a6 S.d.thr.length c6):=fun n=>by rw[cell_of_row _ _ _ _ _ _ (block_ext n.ext HN6.out)];rfl
        have D1:Hid ((S.d.thr.all fun x=>decide (x∈S.d.live))=true):=List.all_eq_true.2 fun v hv=>decide_eq_true (HTI.out.1 v hv);have D2:Hid ((S.d.across.all fun x=>decide (x∈S.d.live))=true):=List.all_eq_true.2 fun v hv=>decide_eq_true (HTI.out.2.1 v hv);have D3:Hid ((S.d.inn.all fun x=>decide (x∈S.d.live))=true):=List.all_eq_true.2 fun v hv=>decide_eq_true (HTI.out.2.2.1 v hv);have D4:Hid ((S.d.out.all fun x=>decide (x∈S.d.live))=true):=List.all_eq_true.2 fun v hv=>decide_eq_true (HTI.out.2.2.2.1 v hv);have D5:Hid ((S.d.defs.all fun x=>decide (x∈S.d.refs))=true):=List.all_eq_true.2 fun v hv=>decide_eq_true (HTI.out.2.2.2.2.1 v hv);have D6:Hid ((S.d.live.all fun x=>decide (x∈S.d.inn++S.d.defs))=true):=List.all_eq_true.2 fun v hv=>decide_eq_true (HTI.out.2.2.2.2.2.1 v hv);have D7:Hid ((S.d.live.all fun x=>decide (x∈S.d.refs++S.d.thr))=true):=List.all_eq_true.2 fun v hv=>decide_eq_true (HTI.out.2.2.2.2.2.2.1 v hv);refine z_start (fun w'=>∃n:ExtW w6,w'=n.val) (by kernel_rfl) ?_;obtain⟨wd,hwd⟩:∃z,z=w6.drew:=⟨_,rfl⟩
        rw[←hwd];have Ed:Below w6.heap.size w6 wd:=by rw[hwd];exact ext_drewN (Below.refl _ _) 1
        clear hwd;refine z_reads 0 4 (by kernel_rfl) ⟨⟨_,Ed⟩,rfl⟩ ?_;simp only[List.take_succ_cons,List.take_zero,List.drop_succ_cons,List.drop_zero]
        repeat (go_big_quiet_step (fail))
        refine wpQuiet_nil ?_;refine z_one 4 (by kernel_rfl) ?_;refine wpOp_atV rfl (by rfl) ?_;intro K' HK;go_simp;refine(within19_any _ _ _ _ _ _ S.d.thr S.d.live wd (HJ6.out.ext Ed) (HJ2.out.ext Ed)).mono ?_;rw[D1.out];rintro e wz ⟨rfl,rfl⟩;refine HK.out _ _ ⟨.inr ⟨⟨_,Ed⟩,rfl⟩,?_⟩;clear HK K';refine z_reads 5 6 (by kernel_rfl) ⟨⟨_,Ed⟩,rfl⟩ ?_;simp only[List.take_succ_cons,List.take_zero,List.drop_succ_cons,List.drop_zero]
        repeat (go_big_quiet_step (fail))
        refine wpQuiet_nil ?_;refine z_one 11 (by kernel_rfl) ?_;refine wpOp_atV rfl (by rfl) ?_;intro K' HK;go_simp;refine(within19_any _ _ _ _ _ _ S.d.across S.d.live wd (HJ3.out.ext Ed) (HJ2.out.ext Ed)).mono ?_;rw[D2.out];rintro e wz ⟨rfl,rfl⟩;refine HK.out _ _ ⟨.inr ⟨⟨_,Ed⟩,rfl⟩,?_⟩;clear HK K';refine z_reads 12 7 (by kernel_rfl) ⟨⟨_,Ed⟩,rfl⟩ ?_;simp only[List.take_succ_cons,List.take_zero,List.drop_succ_cons,List.drop_zero]
        repeat (go_big_quiet_step (fail))
        refine wpQuiet_nil ?_;refine z_one 19 (by kernel_rfl) ?_;refine wpOp_atV rfl (by rfl) ?_;intro K' HK;go_simp;refine(within19_any _ _ _ _ _ _ S.d.inn S.d.live wd (HJ4.out.ext Ed) (HJ2.out.ext Ed)).mono ?_;rw[D3.out];rintro e wz ⟨rfl,rfl⟩;refine HK.out _ _ ⟨.inr ⟨⟨_,Ed⟩,rfl⟩,?_⟩;clear HK K';refine z_reads 20 7 (by kernel_rfl) ⟨⟨_,Ed⟩,rfl⟩ ?_;simp only[List.take_succ_cons,List.take_zero,List.drop_succ_cons,List.drop_zero]
        repeat (go_big_quiet_step (fail))
        refine wpQuiet_nil ?_;refine z_one 27 (by kernel_rfl) ?_;refine wpOp_atV rfl (by rfl) ?_;intro K' HK;go_simp;refine(within19_any _ _ _ _ _ _ S.d.out S.d.live wd (HJ5.out.ext Ed) (HJ2.out.ext Ed)).mono ?_;rw[D4.out];rintro e wz ⟨rfl,rfl⟩;refine HK.out _ _ ⟨.inr ⟨⟨_,Ed⟩,rfl⟩,?_⟩;clear HK K';refine z_reads 28 7 (by kernel_rfl) ⟨⟨_,Ed⟩,rfl⟩ ?_;simp only[List.take_succ_cons,List.take_zero,List.drop_succ_cons,List.drop_zero]
        repeat (go_big_quiet_step (fail))
        refine wpQuiet_nil ?_;refine z_one 35 (by kernel_rfl) ?_;refine wpOp_atV rfl (by rfl) ?_;intro K' HK;go_simp;refine(within19_any _ _ _ _ _ _ S.d.defs S.d.refs wd (HJ1.out.ext Ed) (HJ0.out.ext Ed)).mono ?_;rw[D5.out];rintro e wz ⟨rfl,rfl⟩;refine HK.out _ _ ⟨.inr ⟨⟨_,Ed⟩,rfl⟩,?_⟩;clear HK K';refine z_reads 36 5 (by kernel_rfl) ⟨⟨_,Ed⟩,rfl⟩ ?_;simp only[List.take_succ_cons,List.take_zero,List.drop_succ_cons,List.drop_zero]
        repeat (go_big_quiet_step (fail))
        refine wpQuiet_nil ?_;refine z_reads 42 2 (by kernel_rfl) ⟨⟨_,Ed⟩,rfl⟩ ?_;simp only[List.take_succ_cons,List.take_zero,List.drop_succ_cons,List.drop_zero]
        repeat (go_big_quiet_step (fail))
        refine wpQuiet_nil ?_;refine z_reads 45 2 (by kernel_rfl) ⟨⟨_,Ed⟩,rfl⟩ ?_;simp only[List.take_succ_cons,List.take_zero,List.drop_succ_cons,List.drop_zero]
        repeat (go_big_quiet_step (fail))
        refine wpQuiet_nil ?_;refine z_one 41 (by kernel_rfl) ?_;refine wpOp_atV rfl (by rfl) ?_;intro K' HK;go_simp;have E7a:Below w6.heap.size w6 (wd.alloc (.cells #[] 3)):=ext_trans Ed (ext_alloc _ _);refine HK.out _ _ ⟨.inr ⟨⟨_,E7a⟩,rfl⟩,?_⟩;clear HK K';refine z_one 44 (by kernel_rfl) ?_;refine wpOp_atV rfl (by rfl) ?_;intro K' HK;refine op_appendL _ _ _ 22 rfl w6.heap.size _ 8 Tryz.underlying22 infoI rfl (by omega) _ [] rfl (ownI_lit (W:=wd) (xs:= []) rfl w6.heap.size Ed.size (fun z hz=>by cases hz) (by simp)) a4 S.d.inn.length c4 rfl S.d.inn (HJ4.out.ext E7a) (by have:=HLN.out;simp only[List.length_nil];omega) E7a.size ?_;intro u7 w7b ho7 hg7 _;have E7b:Below w6.heap.size w6 w7b:=E7a.grown hg7 E7a.size (fun q e=>by have e2:some wd.heap.size=some q:=e;injection e2 with e2;have:=Ed.size;omega);simp only[List.nil_append] at ho7;refine HK.out _ _ ⟨.inr ⟨⟨_,E7b⟩,rfl⟩,?_⟩;clear HK K';refine z_one 47 (by kernel_rfl) ?_;refine wpOp_atV rfl (by rfl) ?_;intro K' HK;refine op_appendL _ _ _ 22 rfl w6.heap.size _ 8 Tryz.underlying22 infoI rfl (by omega) _ S.d.inn rfl ho7 a1 S.d.defs.length c1 rfl S.d.defs (HJ1.out.ext E7b) (by have:=HLN.out;omega) E7b.size ?_;intro v7 w7c hp7 hk7 _;have E7c:Below w6.heap.size w6 w7c:=E7b.grown hk7 E7b.size (fun q e=>(ho7.1.lt q e).1);obtain⟨p7,d7,ev7⟩:=hp7.form;have HV7:Hid (Ints w7c p7 (S.d.inn++S.d.defs).length (S.d.inn++S.d.defs)):=by rw[ev7] at hp7;exact hp7.ints
        obtain⟨n7,hn7⟩:∃n,n=(S.d.inn++S.d.defs).length:=⟨_,rfl⟩
        rw[←hn7] at ev7 HV7;subst ev7;clear hn7 hp7 hk7;refine HK.out _ _ ⟨.inr ⟨⟨_,E7c⟩,rfl⟩,?_⟩;clear HK K';refine z_one 48 (by kernel_rfl) ?_;refine wpOp_atV rfl (by rfl) ?_;intro K' HK;go_simp;refine(within19_any _ _ _ _ _ _ S.d.live (S.d.inn++S.d.defs) w7c (HJ2.out.ext E7c) HV7.out).mono ?_;rw[D6.out];rintro e wz ⟨rfl,rfl⟩;refine HK.out _ _ ⟨.inr ⟨⟨_,E7c⟩,rfl⟩,?_⟩;clear HK K';refine z_reads 49 5 (by kernel_rfl) ⟨⟨_,E7c⟩,rfl⟩ ?_;simp only[List.take_succ_cons,List.take_zero,List.drop_succ_cons,List.drop_zero]
        repeat (go_big_quiet_step (fail))
        refine wpQuiet_nil ?_;refine z_reads 55 2 (by kernel_rfl) ⟨⟨_,E7c⟩,rfl⟩ ?_;simp only[List.take_succ_cons,List.take_zero,List.drop_succ_cons,List.drop_zero]
        repeat (go_big_quiet_step (fail))
        refine wpQuiet_nil ?_;refine z_reads 58 2 (by kernel_rfl) ⟨⟨_,E7c⟩,rfl⟩ ?_;simp only[List.take_succ_cons,List.take_zero,List.drop_succ_cons,List.drop_zero]
        repeat (go_big_quiet_step (fail))
        refine wpQuiet_nil ?_;refine z_one 54 (by kernel_rfl) ?_;refine wpOp_atV rfl (by rfl) ?_;intro K' HK;go_simp;have E8a:Below w6.heap.size w6 (w7c.alloc (.cells #[] 3)):=ext_trans E7c (ext_alloc _ _);refine HK.out _ _ ⟨.inr ⟨⟨_,E8a⟩,rfl⟩,?_⟩;clear HK K';refine z_one 57 (by kernel_rfl) ?_;refine wpOp_atV rfl (by rfl) ?_;intro K' HK;refine op_appendL _ _ _ 22 rfl w6.heap.size _ 8 Tryz.underlying22 infoI rfl (by omega) _ [] rfl (ownI_lit (W:=w7c) (xs:= []) rfl w6.heap.size E7c.size (fun z hz=>by cases hz) (by simp)) a0 S.d.refs.length c0 rfl S.d.refs (HJ0.out.ext E8a) (by have:=HLN.out;simp only[List.length_nil];omega) E8a.size ?_;intro u8 w8b ho8 hg8 _;have E8b:Below w6.heap.size w6 w8b:=E8a.grown hg8 E8a.size (fun q e=>by have e2:some w7c.heap.size=some q:=e;injection e2 with e2;have:=E7c.size;omega);simp only[List.nil_append] at ho8;refine HK.out _ _ ⟨.inr ⟨⟨_,E8b⟩,rfl⟩,?_⟩;clear HK K';refine z_one 60 (by kernel_rfl) ?_;refine wpOp_atV rfl (by rfl) ?_;intro K' HK;refine op_appendL _ _ _ 22 rfl w6.heap.size _ 8 Tryz.underlying22 infoI rfl (by omega) _ S.d.refs rfl ho8 a6 S.d.thr.length c6 rfl S.d.thr (HJ6.out.ext E8b) (by have:=HLN.out;omega) E8b.size ?_;intro v8 w8c hp8 hk8 _;have E8c:Below w6.heap.size w6 w8c:=E8b.grown hk8 E8b.size (fun q e=>(ho8.1.lt q e).1);obtain⟨p8,d8,ev8⟩:=hp8.form;have HV8:Hid (Ints w8c p8 (S.d.refs++S.d.thr).length (S.d.refs++S.d.thr)):=by rw[ev8] at hp8;exact hp8.ints
        obtain⟨n8,hn8⟩:∃n,n=(S.d.refs++S.d.thr).length:=⟨_,rfl⟩
        rw[←hn8] at ev8 HV8;subst ev8;clear hn8 hp8 hk8;refine HK.out _ _ ⟨.inr ⟨⟨_,E8c⟩,rfl⟩,?_⟩;clear HK K';refine z_one 61 (by kernel_rfl) ?_;refine wpOp_atV rfl (by rfl) ?_;intro K' HK;go_simp;refine(within19_any _ _ _ _ _ _ S.d.live (S.d.refs++S.d.thr) w8c (HJ2.out.ext E8c) HV8.out).mono ?_;rw[D7.out];rintro e wz ⟨rfl,rfl⟩;refine HK.out _ _ ⟨.inr ⟨⟨_,E8c⟩,rfl⟩,?_⟩;clear HK K';refine z_reads 62 2 (by kernel_rfl) ⟨⟨_,E8c⟩,rfl⟩ ?_;simp only[List.take_succ_cons,List.take_zero,List.drop_succ_cons,List.drop_zero]
        repeat (go_big_quiet_step (fail))
        refine wpQuiet_nil ?_;refine z_done (by kernel_rfl) ?_;clear g0 g1 g2 g3 g4 g5 g6 D1 D2 D3 D4 D5 D6 D7 ho7 hg7 ho8 hg8 HV7 HV8;obtain⟨wB,hwB⟩:∃z,z=w8c:=⟨_,rfl⟩
        rw[←hwB];rw[←hwB] at E8c;have EB:=Lib.hid E8c;clear hwB E8c E8a E8b E7a E7b E7c Ed HNE;have hrn:S.d.refs.length≤17592186044416:=by have:=HLN.out;omega
        have kB:wB.cell? ⟨N,0,none⟩=some (.slice a0 S.d.refs.length c0):=by rw[cell_of_row _ _ _ _ _ _ (block_ext EB.out HN6.out)];rfl
        go_wp2;clear kB
        go_loopw [22] (fun v22 wr=>∃i:Nat,v22=.int .i64 (i:Int)∧i≤S.d.refs.length∧Hid (Below w6.heap.size w6 wr)) (fun v22 _=>S.d.refs.length-(intOf v22).toNat)
        case atStart=>exact⟨0,rfl,by omega,EB⟩
        case round=>as_aux_lemma=>
         obtain⟨i,rfl,hi,HBi⟩:=hrel;clear EB;have HNE:Nonempty (ExtW wr):=⟨⟨wr,Below.refl _ _⟩⟩
         have g0:∀n:ExtW wr,n.val.cell? ⟨N,0,none⟩=some (.slice a0 S.d.refs.length c0):=fun n=>by rw[cell_of_row _ _ _ _ _ _ (block_ext n.ext (block_ext HBi.out HN6.out))];rfl
         have g1:∀n:ExtW wr,n.val.cell? ⟨N,1,none⟩=some (.slice a1 S.d.defs.length c1):=fun n=>by rw[cell_of_row _ _ _ _ _ _ (block_ext n.ext (block_ext HBi.out HN6.out))];rfl
         have g2:∀n:ExtW wr,n.val.cell? ⟨N,2,none⟩=some (.slice a2 S.d.live.length c2):=fun n=>by rw[cell_of_row _ _ _ _ _ _ (block_ext n.ext (block_ext HBi.out HN6.out))];rfl
         have g6:∀n:ExtW wr,n.val.cell? ⟨N,6,none⟩=some (.slice a6 S.d.thr.length c6):=fun n=>by rw[cell_of_row _ _ _ _ _ _ (block_ext n.ext (block_ext HBi.out HN6.out))];rfl
         have kB:wr.cell? ⟨N,0,none⟩=some (.slice a0 S.d.refs.length c0):=g0 ⟨wr,Below.refl _ _⟩;by_cases hlt2:i<S.d.refs.length
         ·have hlt2':(i:Int)<(S.d.refs.length:Int):=by omega
          obtain⟨x,hx⟩:∃x,S.d.refs[i]? =some x:=⟨_,List.getElem?_eq_getElem hlt2⟩
          have hxm:=List.mem_of_getElem? hx;obtain⟨bi,oi,rfl,hc,_⟩:=HJ0.out.2.2 i hlt2;have hgd:S.d.refs.getD i 0=x:=by rw[List.getD_eq_getElem?_getD,hx];rfl
          rw[hgd] at hc;have g7:∀n:ExtW wr,n.val.cell? ⟨bi,oi+i,none⟩=some (.int .i64 x):=fun n=>cell_ext (ext_trans HBi.out n.ext) hc;have hor:=(HTI.out.2.2.2.2.2.2.2 x hxm).1;have hnt:=(HTI.out.2.2.2.2.2.2.2 x hxm).2;have C3:Hid (∀n:ExtW wr,Calls Tryz.prog 38 #[.slice a6 S.d.thr.length c6,.int .i64 x] n.val fun e w'=>e=.returned (.bool false)∧n.val=w'):=fun n=>by rw[←decide_eq_false hnt];exact among19_any _ _ _ _ _ _ (HJ6.out.ext (ext_trans HBi.out n.ext))
          clear hx hxm hc hgd hnt;go_upto_region 31 with (fail)
          by_cases hl:x∈S.d.live
          ·have C1:Hid (∀n:ExtW wr,Calls Tryz.prog 38 #[.slice a2 S.d.live.length c2,.int .i64 x] n.val fun e w'=>e=.returned (.bool true)∧n.val=w'):=fun n=>by rw[←decide_eq_true hl];exact among19_any _ _ _ _ _ _ (HJ2.out.ext (ext_trans HBi.out n.ext))
           clear hor hl;refine region_ext (by kernel_rfl) (by kernel_rfl) ?_
           repeat (go_big_quiet_step ((go_at_call 38;first|(with_reducible exact quiet_ext_same (C3.out _))|(with_reducible exact quiet_ext_same (C1.out _)))))
           refine wpQuiet_nil ?_;rintro w' ⟨n,rfl⟩;have HBn:=Lib.hid (ext_trans HBi.out n.ext);generalize n.val=wn at *;clear g0 g1 g2 g6 g7 HNE;go_wp2
           go_roundw
           case rel=>exact⟨i+1,by go_num,by omega,HBn⟩
           case measure=>simp[intOf];omega
          ·have hd:=hor.resolve_left hl;have C1:Hid (∀n:ExtW wr,Calls Tryz.prog 38 #[.slice a2 S.d.live.length c2,.int .i64 x] n.val fun e w'=>e=.returned (.bool false)∧n.val=w'):=fun n=>by rw[←decide_eq_false hl];exact among19_any _ _ _ _ _ _ (HJ2.out.ext (ext_trans HBi.out n.ext))
           have C2:Hid (∀n:ExtW wr,Calls Tryz.prog 38 #[.slice a1 S.d.defs.length c1,.int .i64 x] n.val fun e w'=>e=.returned (.bool true)∧n.val=w'):=fun n=>by rw[←decide_eq_true hd];exact among19_any _ _ _ _ _ _ (HJ1.out.ext (ext_trans HBi.out n.ext))
           clear hor hl hd;refine region_ext (by kernel_rfl) (by kernel_rfl) ?_
           repeat (go_big_quiet_step ((go_at_call 38;first|(with_reducible exact quiet_ext_same (C3.out _))|(with_reducible exact quiet_ext_same (C2.out _))|(with_reducible exact quiet_ext_same (C1.out _)))))
           refine wpQuiet_nil ?_;rintro w' ⟨n,rfl⟩;have HBn:=Lib.hid (ext_trans HBi.out n.ext);generalize n.val=wn at *;clear g0 g1 g2 g6 g7 HNE;go_wp2
           go_roundw
           case rel=>exact⟨i+1,by go_num,by omega,HBn⟩
           case measure=>simp[intOf];omega
         ·obtain rfl:i=S.d.refs.length:=by omega
          have hlt2':¬(S.d.refs.length:Int)<(S.d.refs.length:Int):=by omega
          clear g1 g2 g6 HNE;go_wp2
          go_roundw
          case rel=>exact⟨k+1,by go_num,by omega,ext_trans HG6.out HBi.out⟩
          case measure=>simp[intOf];omega
       ·obtain rfl:k=tn:=by omega
        have hlt':¬(k:Int)<(k:Int):=by omega
        go_wp2
        go_ret
        exact⟨rfl,ext_trans HB5.out HBk.out⟩
end
end Go.Proofs.YthgebcfohnlhlaaGreatDoor
