/-
 The document's answer for layer 20:Near,Right. (Printed by gen_yl.py.)
-/
import Derived.Test.YtnmkjliioogbgaaGreatDoorPG
import Derived.Test.YtnmkjliioogbgaaGreatDoorYK
import Derived.Test.YtnmkjliioogbgaaGreatDoorRangeT
namespace Go.Proofs.YtnmkjliioogbgaaGreatDoor
set_option linter.unusedSimpArgs false
set_option linter.unusedVariables false
set_option linter.unusedSectionVars false
set_option maxRecDepth 100000
set_option maxHeartbeats 40000000
section
open Go.RowKit Go.Shelf
attribute [local go_sem] Oper.semAt_some wide_fn wide_depth wide_fnR wide_depthR
theorem fields_pairR : (Tryz.prog.fieldsOf 50).toList.map (fun f => (f.name, f.type, f.offset)) = [("A", 3, 0), ("B", 3, 1)] := by kernel_rfl
theorem under_pairR:Tryz.prog.underlying 50=some (.struct (Tryz.prog.fieldsOf 50)):=by kernel_rfl
theorem stood_pairR:Tryz.prog.stoodInHeld 50=false:=by kernel_rfl
theorem equal_pairR(w:World)(p q:Pr2):(Op.equalIn 10000 50 (prV p) (prV q)).run Tryz.prog w=.ok (samePr p q) w:=by
 rw[run_equalIn_struct w 9999 _ _ _ under_pairR stood_pairR]
 exact eqFields2P w 9999 _ _ _ _ _ _ _ _ _ fields_pairR (by decide) (by decide) (.int .i64 p.1) (.int .i64 q.1) (.int .i64 p.2) (.int .i64 q.2) _ _ (part_intP _ _ _ w rfl) (part_intP _ _ _ w rfl) (part_intP _ _ _ w rfl) (part_intP _ _ _ w rfl) (run_equalIn_int w 9998 _ .i64 .i64 p.1 q.1 Tryz.underlying3) (run_equalIn_int w 9998 _ .i64 .i64 p.2 q.2 Tryz.underlying3)
theorem eql_pairR(w:World)(p q:Pr2):(binOp .eql 50 (prV p) (prV q)).run Tryz.prog w=.ok (.bool (samePr p q)) w:=by
 rw[run_eql_struct,equal_pairR w]
 rfl
abbrev graphOR(va:Option Addr)(vn vc:Nat)(pa:Option Addr)(pn pc:Nat)(aa:Option Addr)(an ac:Nat):Obj:=.cells #[.slice va vn vc,.slice pa pn pc,.slice aa an ac] 31 (0,0)
theorem getD_at{ps:List Pr2}{k:Nat}{r:Pr2}(h:ps[k]? =some r):ps.getD k (0,0)=r:=by rw[List.getD_eq_getElem?_getD,h];rfl
theorem near20_any(va:Option Addr)(vn vc:Nat)(pa:Option Addr)(pn pc:Nat)(aa:Option Addr)(an ac:Nat)(ps:List Pr2)(x y:Int)(w:World)(h:PrS w pa pn ps):
  Calls Tryz.prog 10 #[graphV va vn vc pa pn pc aa an ac,.int .i64 x,.int .i64 y] w fun e w'=>e=.returned (.bool (nearG ps x y))∧Below w.heap.size w w':=by
 have H:=Lib.hid h
 have hn:=h.2.1
 have HL:=Lib.hid h.1
 clear h
 go_enter Tryz.func10,Tryz.ntmps10
 go_upto_region 1 with (fail)
 obtain⟨W,hW⟩:∃W,W=w.alloc (graphOR va vn vc pa pn pc aa an ac):=⟨_,rfl⟩
 rw[←hW]
 have HB:Hid (Below w.heap.size w W):=by rw[hW];exact ext_alloc _ _
 have HG:Hid (W.heap[w.heap.size]? =some (graphOR va vn vc pa pn pc aa an ac)):=by rw[hW];exact heap_alloc_new _ _
 clear hW
 go_wp2
 go_loopw [7] (fun v7 wr=>∃k:Nat,v7=.int .i64 (k:Int)∧k≤pn∧Hid (∀j r,j<k→ps[j]? =some r→samePr r (x,y)=false∧samePr r (y,x)=false)∧Hid (Below W.heap.size W wr)) (fun v7 _=>pn-(intOf v7).toNat)
 case atStart=>exact⟨0,rfl,by omega,fun j r hj=>absurd hj (by omega),Below.refl _ _⟩
 case round=>
  obtain⟨k,rfl,hk,HR,HB2⟩:=hrel;have x1:wr.cell? ⟨w.heap.size,1,none⟩=some (.slice pa pn pc):=by rw[cell_of_row _ _ _ _ _ _ (block_ext HB2.out HG.out)];rfl
  by_cases hlt:k<pn
  ·have hlt':(k:Int)<(pn:Int):=by omega
   obtain⟨r,b,o,hr,rfl,c0,c1⟩:=prs_cells (H.out.ext csP_len (ext_trans HB.out HB2.out)) hlt;have HRR:=Lib.hid hr;clear hr;have q1:∀w,(binOp .eql 50 (.agg #[.int .i64 r.1,.int .i64 r.2]) (.agg #[.int .i64 x,.int .i64 y])).run Tryz.prog w=.ok (.bool (samePr r (x,y))) w:=fun w=>eql_pairR w r (x,y);have q2:∀w,(binOp .eql 50 (.agg #[.int .i64 r.1,.int .i64 r.2]) (.agg #[.int .i64 y,.int .i64 x])).run Tryz.prog w=.ok (.bool (samePr r (y,x))) w:=fun w=>eql_pairR w r (y,x);have HT:Hid (samePr r (x,y)=true∨samePr r (y,x)=true→nearG ps x y=true):=fun h=>by
    have hm:=List.mem_of_getElem? HRR.out;rcases h with h|h
    ·rw[samePr_iff] at h;subst h;simp[nearG,hm]
    ·rw[samePr_iff] at h;subst h;simp[nearG,hm]
   cases h1:samePr r (x,y) with
   |true=>
    rw[h1] at q1;go_wp2
    go_ret
    exact⟨by rw[HT.out (.inl h1)];rfl,ext_trans HB.out HB2.out⟩
   |false=>
    rw[h1] at q1;cases h2:samePr r (y,x) with
    |true=>
     rw[h2] at q2;go_wp2
     go_ret
     exact⟨by rw[HT.out (.inr h2)];rfl,ext_trans HB.out HB2.out⟩
    |false=>
     rw[h2] at q2;have HN:Hid (∀j r,j<k+1→ps[j]? =some r→samePr r (x,y)=false∧samePr r (y,x)=false):=fun j r' hj hr'=>by
      by_cases e:j=k
      ·subst e;rw[HRR.out] at hr';cases hr';exact⟨h1,h2⟩
      ·exact HR.out j r' (by omega) hr'
     clear h1 h2;go_wp2
     go_roundw
     case rel=>exact⟨k+1,by go_num,by omega,HN,HB2⟩
     case measure=>simp[intOf];omega
  ·obtain rfl:k=pn:=by omega
   have hlt':¬(k:Int)<(k:Int):=by omega
   have HF:Hid (nearG ps x y=false):=by
    have hno:∀q:Pr2,(q=(x,y)∨q=(y,x))→q∉ps:=fun q hq hm=>by
     obtain⟨j,hj,e⟩:=List.mem_iff_getElem.1 hm;have:=HR.out j q (by rw[HL.out] at hj;exact hj) (by rw[List.getElem?_eq_getElem hj,e]);rcases hq with rfl|rfl
     ·have h3:=(samePr_iff (x,y) (x,y)).2 rfl;rw[this.1] at h3;cases h3
     ·have h3:=(samePr_iff (y,x) (y,x)).2 rfl;rw[this.2] at h3;cases h3
    show nearG ps x y=false;simp[nearG,hno (x,y) (.inl rfl),hno (y,x) (.inr rfl)]
   go_wp2
   go_ret
   exact⟨by rw[HF.out];rfl,ext_trans HB.out HB2.out⟩
theorem right20_any(va:Option Addr)(vn vc:Nat)(pa:Option Addr)(pn pc:Nat)(aa:Option Addr)(an ac:Nat)(vs:List Int)(ps:List Pr2)(l:List Int)(w:World)(hv:Ints w va vn vs)(h:PrS w pa pn ps)(ha:Ints w aa an l):
  Calls Tryz.prog 8 #[graphV va vn vc pa pn pc aa an ac] w fun e w'=>e=.returned (.bool (rightR20 vs ps l))∧Below w.heap.size w w':=by
 have H:=Lib.hid h
 have HV:=Lib.hid hv
 have HA:=Lib.hid ha
 have hn:=h.2.1
 have hna:=ha.2.1
 have HL:=Lib.hid h.1
 have HLA:=Lib.hid ha.1
 clear h hv ha
 go_enter Tryz.func8,Tryz.ntmps8
 go_upto_region 1 with (fail)
 obtain⟨W,hW⟩:∃W,W=w.alloc (graphOR va vn vc pa pn pc aa an ac):=⟨_,rfl⟩
 rw[←hW]
 have HB:Hid (Below w.heap.size w W):=by rw[hW];exact ext_alloc _ _
 have HG:Hid (W.heap[w.heap.size]? =some (graphOR va vn vc pa pn pc aa an ac)):=by rw[hW];exact heap_alloc_new _ _
 clear hW
 go_wp2
 go_loopw [3] (fun v3 wr=>∃k:Nat,v3=.int .i64 (k:Int)∧k≤pn∧Hid (∀j,j<k→pairK2 vs ps j=true)∧Hid (Below W.heap.size W wr)) (fun v3 _=>pn-(intOf v3).toNat)
 case atStart=>exact⟨0,rfl,by omega,fun j hj=>absurd hj (by omega),Below.refl _ _⟩
 case round=>
  obtain⟨k,rfl,hk,HR,HB2⟩:=hrel;have hg:=block_ext HB2.out HG.out;have HGr:=Lib.hid hg;have x1:wr.cell? ⟨w.heap.size,1,none⟩=some (.slice pa pn pc):=by rw[cell_of_row _ _ _ _ _ _ hg];rfl
  clear hg;by_cases hlt:k<pn
  ·have hlt':(k:Int)<(pn:Int):=by omega
   obtain⟨⟨p1,p2⟩,b,o,hr,rfl,c0,c1⟩:=prs_cells (H.out.ext csP_len (ext_trans HB.out HB2.out)) hlt;have HRR:=Lib.hid (getD_at hr);have HF:Hid (¬pairK2 vs ps k=true→rightR20 vs ps l=false):=fun hn'=>by
    have:(List.range ps.length).all (pairK2 vs ps)=false:=by rw[List.all_eq_false];exact⟨k,List.mem_range.2 (by rw[HL.out];exact hlt),hn'⟩
    rw[rightR20,this];rfl
   have HG1:Hid (pairK2 vs ps k=true→∀j,j<k+1→pairK2 vs ps j=true):=fun hk1 j hj=>by
    by_cases e:j=k
    ·subst e;exact hk1
    ·exact HR.out j (by omega)
   have HPK:Hid (pairK2 vs ps k=(decide (p1<p2)&&decide (p1∈vs)&&decide (p2∈vs)&&(decide (k=0)||ltP (ps.getD (k-1) (0,0)) (p1,p2)))):=by rw[Hid,pairK2,HRR.out]
   go_upto_region 5 with (fail)
   obtain⟨W5,hW5⟩:∃z,z=wr.alloc (.cells #[.int .i64 p1,.int .i64 p2] 50):=⟨_,rfl⟩
   rw[←hW5];have hb5:Below wr.heap.size wr W5:=by rw[hW5];exact ext_alloc _ _
   have hr5:W5.heap[wr.heap.size]? =some (.cells #[.int .i64 p1,.int .i64 p2] 50 (0,0)):=by rw[hW5];exact heap_alloc_new _ _
   have hg5:=block_ext hb5 HGr.out;have y0:∀n:ExtW W5,n.val.cell? ⟨wr.heap.size,0,none⟩=some (.int .i64 p1):=ExtW.cell (by rw[cell_of_row _ _ _ _ _ _ hr5];rfl);have y1:∀n:ExtW W5,n.val.cell? ⟨wr.heap.size,1,none⟩=some (.int .i64 p2):=ExtW.cell (by rw[cell_of_row _ _ _ _ _ _ hr5];rfl);have z0:∀n:ExtW W5,n.val.cell? ⟨w.heap.size,0,none⟩=some (.slice va vn vc):=ExtW.cell (by rw[cell_of_row _ _ _ _ _ _ hg5];rfl);have z1:∀n:ExtW W5,n.val.cell? ⟨w.heap.size,1,none⟩=some (.slice (some ⟨b,o,none⟩) pn pc):=ExtW.cell (by rw[cell_of_row _ _ _ _ _ _ hg5];rfl);have HB5:=Lib.hid (ext_trans HB2.out hb5);have HBW:=Lib.hid (ext_trans HB.out HB5.out);clear hW5 hr5 hg5 c0 c1 x1 hr;by_cases h0:p2≤p1
   ·have e0:decide (p2≤p1)=true:=decide_eq_true h0;have h1:¬p1<p2:=by omega
    have HNF:=Lib.hid (HF.out (by rw[HPK.out];simp[h1]));refine region_ext (by kernel_rfl) (by kernel_rfl) ?_
    repeat (first
     |go_big_quiet_skip
     |go_big_quiet_step (first|(go_at_call 21;exact quiet_ext_same (has20_any va vn vc vs _ _ (HV.out.ext (ext_trans HBW.out (ExtW.ext _)))))))
    refine wpQuiet_nil ?_;rintro _ ⟨n',rfl⟩;have HBn:=Lib.hid (ext_trans HB5.out n'.ext);go_wp2
    go_ret
    exact⟨by rw[HNF.out];rfl,ext_trans HB.out HBn.out⟩
   ·have e0:decide (p2≤p1)=false:=decide_eq_false h0;have h1:p1<p2:=by omega
    by_cases h2:p1∈vs
    ·have m1:decide (p1∈vs)=true:=decide_eq_true h2;by_cases h3:p2∈vs
     ·have m2:decide (p2∈vs)=true:=decide_eq_true h3;by_cases hk':k=0
      ·have hk0:¬(0:Int)<(k:Int):=by omega
       have e3:decide ((0:Int)<(k:Int))=false:=decide_eq_false hk0;have hk9:¬0<k:=by omega
       have e9:decide (0<k)=false:=decide_eq_false hk9;have HK0:Hid (decide (k=0)=true):=decide_eq_true hk';clear hk';have HN:=Lib.hid (HG1.out (by rw[HPK.out];simp[h1,h2,h3,HK0.out]));refine region_ext (by kernel_rfl) (by kernel_rfl) ?_
       repeat (first
        |go_big_quiet_skip
        |go_big_quiet_step (first|(go_at_call 21;exact quiet_ext_same (has20_any va vn vc vs _ _ (HV.out.ext (ext_trans HBW.out (ExtW.ext _)))))))
       refine wpQuiet_nil ?_;rintro _ ⟨n',rfl⟩;have HBn:=Lib.hid (ext_trans HB5.out n'.ext);go_wp2
       go_roundw
       case rel=>exact⟨k+1,by go_num,by omega,HN,HBn⟩
       case measure=>simp[intOf];omega
      ·have hk0:(0:Int)<(k:Int):=by omega
       have e3:decide ((0:Int)<(k:Int))=true:=decide_eq_true hk0;have hk9:0<k:=by omega
       have e9:decide (0<k)=true:=decide_eq_true hk9;obtain⟨⟨q1,q2⟩,b',o',hq,e',d0,d1⟩:=prs_cells (H.out.ext csP_len HBW.out) (show k-1<pn by omega);injection e' with e';injection e' with eb eo _;subst eb eo;have HQ:=Lib.hid (getD_at hq);have d0':∀n:ExtW W5,n.val.cell? ⟨b,o+(k-1)*2,none⟩=some (.int .i64 q1):=ExtW.cell d0;have d1':∀n:ExtW W5,n.val.cell? ⟨b,o+(k-1)*2+1,none⟩=some (.int .i64 q2):=ExtW.cell d1;have HLT:Hid (ltP (ps.getD (k-1) (0,0)) (p1,p2)=true↔q1<p1∨q1=p1∧q2<p2):=by rw[HQ.out];exact ltP_iff
       have hi1:((k:Int)-1).toNat=k-1:=by omega
       have hi2:(0:Int)≤(k:Int)-1:=by omega
       have hi3:(k:Int)-1<(pn:Int):=by omega
       clear hq d0 d1;by_cases h4:p1<q1
       ·have e4:decide (p1<q1)=true:=decide_eq_true h4;have HNL:Hid (ltP (ps.getD (k-1) (0,0)) (p1,p2)=false):=by rw[Hid,←Bool.not_eq_true,HLT.out];omega
        have HNF:=Lib.hid (HF.out (by rw[HPK.out,HNL.out];simp[hk']));refine region_ext (by kernel_rfl) (by kernel_rfl) ?_
        repeat (first
         |go_big_quiet_skip
         |go_big_quiet_step (first|(go_at_call 21;exact quiet_ext_same (has20_any va vn vc vs _ _ (HV.out.ext (ext_trans HBW.out (ExtW.ext _)))))))
        refine wpQuiet_nil ?_;rintro _ ⟨n',rfl⟩;have HBn:=Lib.hid (ext_trans HB5.out n'.ext);go_wp2
        go_ret
        exact⟨by rw[HNF.out];rfl,ext_trans HB.out HBn.out⟩
       ·have e4:decide (p1<q1)=false:=decide_eq_false h4;by_cases h5:q1=p1
        ·have e5:(q1==p1)=true:=by simpa using h5
         by_cases h6:q2≥p2
         ·have e6:decide (p2≤q2)=true:=decide_eq_true h6;have HNL:Hid (ltP (ps.getD (k-1) (0,0)) (p1,p2)=false):=by rw[Hid,←Bool.not_eq_true,HLT.out];omega
          have HNF:=Lib.hid (HF.out (by rw[HPK.out,HNL.out];simp[hk']));refine region_ext (by kernel_rfl) (by kernel_rfl) ?_
          repeat (first
           |go_big_quiet_skip
           |go_big_quiet_step (first|(go_at_call 21;exact quiet_ext_same (has20_any va vn vc vs _ _ (HV.out.ext (ext_trans HBW.out (ExtW.ext _)))))))
          refine wpQuiet_nil ?_;rintro _ ⟨n',rfl⟩;have HBn:=Lib.hid (ext_trans HB5.out n'.ext);go_wp2
          go_ret
          exact⟨by rw[HNF.out];rfl,ext_trans HB.out HBn.out⟩
         ·have e6:decide (p2≤q2)=false:=decide_eq_false h6;have HNL:Hid (ltP (ps.getD (k-1) (0,0)) (p1,p2)=true):=by rw[Hid,HLT.out];omega
          have HN:=Lib.hid (HG1.out (by rw[HPK.out,HNL.out];simp[h1,h2,h3]));refine region_ext (by kernel_rfl) (by kernel_rfl) ?_
          repeat (first
           |go_big_quiet_skip
           |go_big_quiet_step (first|(go_at_call 21;exact quiet_ext_same (has20_any va vn vc vs _ _ (HV.out.ext (ext_trans HBW.out (ExtW.ext _)))))))
          refine wpQuiet_nil ?_;rintro _ ⟨n',rfl⟩;have HBn:=Lib.hid (ext_trans HB5.out n'.ext);go_wp2
          go_roundw
          case rel=>exact⟨k+1,by go_num,by omega,HN,HBn⟩
          case measure=>simp[intOf];omega
        ·have e5:(q1==p1)=false:=by simpa using h5
         have HNL:Hid (ltP (ps.getD (k-1) (0,0)) (p1,p2)=true):=by rw[Hid,HLT.out];omega
         have HN:=Lib.hid (HG1.out (by rw[HPK.out,HNL.out];simp[h1,h2,h3]));refine region_ext (by kernel_rfl) (by kernel_rfl) ?_
         repeat (first
          |go_big_quiet_skip
          |go_big_quiet_step (first|(go_at_call 21;exact quiet_ext_same (has20_any va vn vc vs _ _ (HV.out.ext (ext_trans HBW.out (ExtW.ext _)))))))
         refine wpQuiet_nil ?_;rintro _ ⟨n',rfl⟩;have HBn:=Lib.hid (ext_trans HB5.out n'.ext);go_wp2
         go_roundw
         case rel=>exact⟨k+1,by go_num,by omega,HN,HBn⟩
         case measure=>simp[intOf];omega
     ·have m2:decide (p2∈vs)=false:=decide_eq_false h3;have HNF:=Lib.hid (HF.out (by rw[HPK.out];simp[h3]));refine region_ext (by kernel_rfl) (by kernel_rfl) ?_
      repeat (first
       |go_big_quiet_skip
       |go_big_quiet_step (first|(go_at_call 21;exact quiet_ext_same (has20_any va vn vc vs _ _ (HV.out.ext (ext_trans HBW.out (ExtW.ext _)))))))
      refine wpQuiet_nil ?_;rintro _ ⟨n',rfl⟩;have HBn:=Lib.hid (ext_trans HB5.out n'.ext);go_wp2
      go_ret
      exact⟨by rw[HNF.out];rfl,ext_trans HB.out HBn.out⟩
    ·have m1:decide (p1∈vs)=false:=decide_eq_false h2;have HNF:=Lib.hid (HF.out (by rw[HPK.out];simp[h2]));refine region_ext (by kernel_rfl) (by kernel_rfl) ?_
     repeat (first
      |go_big_quiet_skip
      |go_big_quiet_step (first|(go_at_call 21;exact quiet_ext_same (has20_any va vn vc vs _ _ (HV.out.ext (ext_trans HBW.out (ExtW.ext _)))))))
     refine wpQuiet_nil ?_;rintro _ ⟨n',rfl⟩;have HBn:=Lib.hid (ext_trans HB5.out n'.ext);go_wp2
     go_ret
     exact⟨by rw[HNF.out];rfl,ext_trans HB.out HBn.out⟩
  ·obtain rfl:k=pn:=by omega
   have hlt':¬(k:Int)<(k:Int):=by omega
   obtain⟨wi,rfl⟩:∃z:World,z=wr:=⟨_,rfl⟩
   have HPS:Hid ((List.range ps.length).all (pairK2 vs ps)=true):=by
    rw[Hid,List.all_eq_true];intro j hj;exact HR.out j (by have:=List.mem_range.1 hj;rwa [HL.out] at this)
   have HBi:=Lib.hid (ext_trans HB.out HB2.out);go_wp2
   go_loopw [5] (fun v5 wr=>∃i:Nat,v5=.int .i64 (i:Int)∧i≤an∧Hid (∀j,j<i→l.getD j 0∈vs)∧Hid (Below wi.heap.size wi wr)) (fun v5 _=>an-(intOf v5).toNat)
   case atStart=>exact⟨0,rfl,by omega,fun j hj=>absurd hj (by omega),Below.refl _ _⟩
   case round=>
    obtain⟨i,rfl,hi,HM,HB3⟩:=hrel;clear x1;have hg:=block_ext HB3.out HGr.out;have HG3:=Lib.hid hg;have x2:wr.cell? ⟨w.heap.size,2,none⟩=some (.slice aa an ac):=by rw[cell_of_row _ _ _ _ _ _ hg];rfl
    have z0:∀n:ExtW wr,n.val.cell? ⟨w.heap.size,0,none⟩=some (.slice va vn vc):=ExtW.cell (by rw[cell_of_row _ _ _ _ _ _ hg];rfl);have z2:∀n:ExtW wr,n.val.cell? ⟨w.heap.size,2,none⟩=some (.slice aa an ac):=ExtW.cell x2;clear hg;have HBr:=Lib.hid (ext_trans HBi.out HB3.out);by_cases hli:i<an
    ·have hli':(i:Int)<(an:Int):=by omega
     obtain⟨b2,o2,rfl,hc,hw1,hw2⟩:=(HA.out.ext HBr.out).2.2 i hli;obtain⟨x,hx⟩:∃x,x=l.getD i 0:=⟨_,rfl⟩
     rw[←hx] at hc hw1 hw2;have HX:=Lib.hid hx;have hc':∀n:ExtW wr,n.val.cell? ⟨b2,o2+i,none⟩=some (.int .i64 x):=ExtW.cell hc;clear hx hc;by_cases hm:x∈vs
     ·have m1:decide (x∈vs)=true:=decide_eq_true hm;have HN:Hid (∀j,j<i+1→l.getD j 0∈vs):=fun j hj=>by
       by_cases e:j=i
       ·subst e;rw[←HX.out];exact hm
       ·exact HM.out j (by omega)
      go_wp2;refine region_ext (by kernel_rfl) (by kernel_rfl) ?_
      repeat (first
       |go_big_quiet_skip
       |go_big_quiet_step (first|(go_at_call 21;exact quiet_ext_same (has20_any va vn vc vs _ _ (HV.out.ext (ext_trans HBr.out (ExtW.ext _)))))))
      refine wpQuiet_nil ?_;rintro _ ⟨n',rfl⟩;have HBn:=Lib.hid (ext_trans HB3.out n'.ext);go_wp2
      go_roundw
      case rel=>exact⟨i+1,by go_num,by omega,HN,HBn⟩
      case measure=>simp[intOf];omega
     ·have m1:decide (x∈vs)=false:=decide_eq_false hm;have HF:Hid (rightR20 vs ps l=false):=by
       have:(l.all fun v=>decide (v∈vs))=false:=by
        rw[List.all_eq_false];have hil:i<l.length:=by rw[HLA.out];exact hli
        refine⟨x,?_,by simp[hm]⟩;rw[HX.out,List.getD_eq_getElem?_getD,List.getElem?_eq_getElem hil];exact List.getElem_mem hil
       rw[Hid,rightR20,this];simp
      go_wp2;refine region_ext (by kernel_rfl) (by kernel_rfl) ?_
      repeat (first
       |go_big_quiet_skip
       |go_big_quiet_step (first|(go_at_call 21;exact quiet_ext_same (has20_any va vn vc vs _ _ (HV.out.ext (ext_trans HBr.out (ExtW.ext _)))))))
      refine wpQuiet_nil ?_;rintro _ ⟨n',rfl⟩;have HBn:=Lib.hid (ext_trans HBr.out n'.ext);go_wp2
      go_ret
      exact⟨by rw[HF.out];rfl,HBn.out⟩
    ·obtain rfl:i=an:=by omega
     have hli':¬(i:Int)<(i:Int):=by omega
     have HAC:Hid ((l.all fun v=>decide (v∈vs))=true):=by
      rw[Hid,List.all_eq_true];intro v hv;obtain⟨j,hj,e⟩:=List.mem_iff_getElem.1 hv;have:=HM.out j (by rw[HLA.out] at hj;exact hj);rw[List.getD_eq_getElem?_getD,List.getElem?_eq_getElem hj,Option.getD_some,e] at this;exact decide_eq_true this
     have HE:Hid (rightR20 vs ps l=(risR20 vs&&risR20 l)):=by rw[Hid,rightR20,HPS.out,HAC.out];rfl
     have y0:wr.cell? ⟨w.heap.size,0,none⟩=some (.slice va vn vc):=by rw[cell_of_row _ _ _ _ _ _ HG3.out];rfl
     clear z0 z2;cases hrv:risR20 vs with
     |false=>
      go_wp2_with (
       (go_at_call 22
        refine(rising20_any va vn vc vs wr (HV.out.ext HBr.out)).mono ?_;rintro e w1 ⟨rfl,hb⟩;rw[hrv];have HB1:=Lib.hid (ext_trans HBr.out hb)
        clear hb))
      go_ret
      exact⟨by rw[HE.out,hrv];rfl,HB1.out⟩
     |true=>
      go_wp2_with (first
       |(go_at_call 22
         refine(rising20_any aa i ac l w1 (HA.out.ext HB1.out)).mono ?_;rintro e w2 ⟨rfl,hb⟩;have HB2':=Lib.hid (ext_trans HB1.out hb)
         clear hb)
       |(go_at_call 22
         refine(rising20_any va vn vc vs wr (HV.out.ext HBr.out)).mono ?_;rintro e w1 ⟨rfl,hb⟩;rw[hrv];have x3:=cell_ext hb x2;have HB1:=Lib.hid (ext_trans HBr.out hb)
         clear hb))
      go_ret
      exact⟨by rw[HE.out,hrv];rfl,HB2'.out⟩
end
end Go.Proofs.YtnmkjliioogbgaaGreatDoor
