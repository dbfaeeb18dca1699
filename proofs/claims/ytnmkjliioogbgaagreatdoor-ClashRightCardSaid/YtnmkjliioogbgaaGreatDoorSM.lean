/-
 ir.reach.
-/
import Derived.Test.YtnmkjliioogbgaaGreatDoorQueueS
import Derived.Test.YtnmkjliioogbgaaGreatDoorMark
import Derived.Test.YtnmkjliioogbgaaGreatDoorTA
import Derived.Test.YtnmkjliioogbgaaGreatDoorRangeT
import Derived.BigQuiet
import Derived.Deep.MidRow
import Derived.Test.YtnmkjliioogbgaaGreatDoorSB
import Derived.Shelf.Spec.TrailingZeros
import Derived.Scope
import Derived.Test.YtnmkjliioogbgaaGreatDoorMaps
import Derived.Test.YtnmkjliioogbgaaGreatDoorTH
namespace Go.Proofs.YtnmkjliioogbgaaGreatDoor
set_option linter.unusedSimpArgs false
set_option linter.unusedVariables false
set_option linter.unusedSectionVars false
set_option maxRecDepth 100000
set_option maxHeartbeats 40000000
section
open Go.RowKit
abbrev blO(n:Nat)(f:Nat→Bool):Obj:=.cells (arrN n fun k=>.bool (f k)) 4 (0,0)
theorem bl_made(n:Nat):madeCells #[.bool false] n=arrN n fun _=>.bool false:=by
 apply Array.ext_getElem?
 intro j
 by_cases hj:j<n
 ·simp[madeCells,arrN,hj,Nat.mod_one]
 ·rw[Array.getElem?_eq_none (by simp[madeCells];omega),Array.getElem?_eq_none (by simp[arrN];omega)]
theorem infoBl:(Tryz.prog.info? 4).map (fun i=>(i.zero,i.size,i.bytes))=some (some (.bool false),1,1):=by kernel_rfl
def bkL(b:BlkR):BkL:=⟨b.rs.map fun r=>⟨readsI r.d,definesV r.d⟩,needsT b.h.t,(toD b.h.t).map Int.toNat⟩
def bksL(bs:List BlkR):List BkL:=bs.map bkL
theorem bksL_len(bs:List BlkR):(bksL bs).length=bs.length:=by simp[bksL]
theorem bksL_at{bs:List BlkR}{k:Nat}{b:BlkR}(h:bs[k]? =some b):bkOf (bksL bs) k=bkL b:=by
 simp[bkOf,bksL,List.getD_eq_getElem?_getD,h]
def toOne(n:Nat)(b:BlkR):Bool:=(toD b.h.t).all fun x=>decide (1≤x∧x<(n:Int))
def toIn(bs:List BlkR):Bool:=bs.all (toOne bs.length)
theorem toIn_ok{bs:List BlkR}(h:toIn bs=true):ToOK (bksL bs):=by
 intro b hb c hc
 rw[bksL_len] at hb⊢
 have hx:bs[b]? =some bs[b]:=List.getElem?_eq_getElem hb
 rw[bksL_at hx] at hc
 obtain⟨x,hx2,rfl⟩:=List.mem_map.1 hc
 have h1:=List.all_eq_true.1 h bs[b] (List.getElem_mem hb)
 have h2:=List.all_eq_true.1 h1 x hx2
 simp only[decide_eq_true_eq] at h2
 omega
def ReachPost(bs:List BlkR)(w:World)(e:Ending)(w':World):Prop:=
 ((toIn bs=false∧e=.returned (.tuple #[.int .i64 0,.bool false]))∨(toIn bs=true∧∃k:Nat,e=.returned (.tuple #[.int .i64 k,.bool true])∧k≤bs.length∧(bs.length≤k↔∀b,b<bs.length→Reach0 (bksL bs) b)))∧Below w.heap.size w w'
theorem irReach_any(pa:Option Addr)(pn pc:Nat)(ba:Option Addr)(bn bc:Nat)(bs:List BlkR)(w:World)(h:BlksR w ba bn bs)(h0:0<bn)(h1:bn≤200):
  Calls Tryz.prog 71 #[funcV pa pn pc ba bn bc] w (ReachPost bs w):=by
 have HB:=Lib.hid h
 have HLb:=Lib.hid h.1.1
 clear h
 go_enter Tryz.func71,Tryz.ntmps71
 go_upto_region 1 with (fail)
 obtain⟨W0,hW0⟩:∃W0,W0=w.alloc (.cells #[.slice pa pn pc,.slice ba bn bc] 40):=⟨_,rfl⟩
 rw[←hW0]
 have hr0:W0.heap[w.heap.size]? =some (.cells #[.slice pa pn pc,.slice ba bn bc] 40):=by rw[hW0];exact heap_alloc_new _ _
 have hb0:Below w.heap.size w W0:=by rw[hW0];exact ext_alloc _ _
 have hs0:W0.heap.size=w.heap.size+1:=by rw[hW0];simp
 have f1:W0.cell? ⟨w.heap.size,1,none⟩=some (.slice ba bn bc):=by rw[cell_of_row _ _ _ _ _ _ hr0];rfl
 have hl0:=lt_of_heap hr0
 have hmk:=run_make_row' (P:=Tryz.prog) 199 4 (.bool false) 1 Tryz.underlying199 infoBl rfl .i64 .i64 bn (by omega) (by omega) W0
 rw[bl_made] at hmk
 have HR0:=Lib.hid hr0
 have HB0:=Lib.hid hb0
 have HS0:=Lib.hid hs0
 clear hr0 hb0 hs0 hW0
 go_upto_region 2 with (fail)
 obtain⟨W1,hW1⟩:∃W1,W1=W0.alloc (blO bn fun _=>false):=⟨_,rfl⟩
 have hr1:W1.heap[W0.heap.size]? =some (blO bn fun _=>false):=by rw[hW1];exact heap_alloc_new _ _
 have hb1:Below W0.heap.size W0 W1:=by rw[hW1];exact ext_alloc _ _
 rw[show W0.alloc (Obj.cells (arrN bn fun _=>Value.bool false) 4)=W1 from hW1.symm]
 have HR1:=Lib.hid hr1
 have HF1:=Lib.hid (block_ext hb1 HR0.out)
 have HB1:=Lib.hid (ext_trans HB0.out hb1)
 have HHW:=Lib.hid hW1
 clear hmk f1 hl0 hr1 hb1 hW1 HR0 HB0
 rw[HS0.out] at HR1⊢
 have f1:W1.cell? ⟨w.heap.size,1,none⟩=some (.slice ba bn bc):=by rw[cell_of_row _ _ _ _ _ _ HF1.out];rfl
 have hl1:=lt_of_heap HF1.out
 go_wp2
 clear f1 hl1
 go_loopw [2,18] (fun s2 i wr=>∃k:Nat,i=.int .i64 k∧s2=.int .i64 0∧k≤bn∧Hid (wr.heap[w.heap.size]? =some (.cells #[.slice pa pn pc,.slice ba bn bc] 40))∧Hid (wr.heap[w.heap.size+1]? =some (blO bn fun _=>false))∧Hid (Below w.heap.size w wr)∧Hid (∀j x,j<k→bs[j]? =some x→toOne bn x=true)) (fun _ i _=>bn-(intOf i).toNat)
 case atStart=>exact⟨0,rfl,rfl,by omega,HF1,HR1,HB1,fun j x hj=>absurd hj (by omega)⟩
 case round=>
  obtain⟨k,rfl,rfl,hk,HF,HS,HBk,HK⟩:=hrel;clear HF1 HR1 HB1 HHW;by_cases hlt:k<bn
  ·obtain⟨r,b,o,hr,hok,rfl,c0,c1,c2,c3,c4⟩:=blksR_cells (HB.out.ext HBk.out) hlt;have HRR:=Lib.hid hr;have HOK:=Lib.hid hok;have hlt':(k:Int)<(bn:Int):=by omega
   clear hr hok;go_upto_region 5 with (fail)
   obtain⟨Wi,hWi⟩:∃Wi,Wi=wr.alloc (blkO r.h):=⟨_,rfl⟩
   have hri:Wi.heap[wr.heap.size]? =some (blkO r.h):=by rw[hWi];exact heap_alloc_new _ _
   have hbi:Below wr.heap.size wr Wi:=by rw[hWi];exact ext_alloc _ _
   rw[show wr.alloc (Obj.cells #[.slice r.h.ia r.h.n r.h.c,.int .i64 r.h.t.kind,.int .i64 r.h.t.a,.int .i64 r.h.t.t0,.int .i64 r.h.t.t1] 67)=Wi from hWi.symm];have t1:Wi.cell? ⟨wr.heap.size,1,none⟩=some (.int .i64 r.h.t.kind):=by rw[cell_of_row _ _ _ _ _ _ hri];rfl
   have t2:Wi.cell? ⟨wr.heap.size,2,none⟩=some (.int .i64 r.h.t.a):=by rw[cell_of_row _ _ _ _ _ _ hri];rfl
   have t3:Wi.cell? ⟨wr.heap.size,3,none⟩=some (.int .i64 r.h.t.t0):=by rw[cell_of_row _ _ _ _ _ _ hri];rfl
   have t4:Wi.cell? ⟨wr.heap.size,4,none⟩=some (.int .i64 r.h.t.t1):=by rw[cell_of_row _ _ _ _ _ _ hri];rfl
   have hli:=lt_of_heap hri;have HBI:=Lib.hid (ext_trans HBk.out hbi);have HFI:=Lib.hid (block_ext hbi HF.out);have HSI:=Lib.hid (block_ext hbi HS.out);clear hWi hri hbi c0 c1 c2 c3 c4 HF HS HBk
   go_wp2_with (
    (go_at_call 74
     refine(to_any r.h.t Wi HOK.out.1).mono ?_;rintro e w2 ⟨v,rfl,ho,hb⟩;obtain⟨va,vc,rfl⟩:=ho.form;have HV:=Lib.hid ho.ints;have HB2:=Lib.hid (ext_trans HBI.out hb);have HF2:=Lib.hid (block_ext hb HFI.out);have HS2:=Lib.hid (block_ext hb HSI.out)
     clear ho hb t1 t2 t3 t4 hli))
   clear HBI HFI HSI;have hlen:=toD_len r.h.t;obtain⟨wq,rfl⟩:∃x,x=w2:=⟨_,rfl⟩
   go_loopw [2,8,26] (fun s2 _ i wi=>∃q:Nat,i=.int .i64 q∧s2=.int .i64 0∧q≤(toD r.h.t).length∧wi=wq∧Hid (∀j x,j<q→(toD r.h.t)[j]? =some x→1≤x∧x<(bn:Int))) (fun _ _ i _=>(toD r.h.t).length-(intOf i).toNat)
   case atStart=>exact⟨0,rfl,rfl,by omega,rfl,fun j x hj=>absurd hj (by omega)⟩
   case round=>
    obtain⟨q,rfl,rfl,hq,rfl,HQ⟩:=hrel;by_cases hql:q<(toD r.h.t).length
    ·obtain⟨x,hx⟩:∃x,(toD r.h.t)[q]? =some x:=⟨(toD r.h.t)[q],List.getElem?_eq_getElem hql⟩
     have hgd:(toD r.h.t).getD q 0=x:=by rw[List.getD_eq_getElem?_getD,hx];rfl
     obtain⟨b3,o3,rfl,hcx,hx1,hx2⟩:=HV.out.2.2 q hql;rw[hgd] at hcx hx1 hx2;have HX:=Lib.hid hx;have hql':(q:Int)<((toD r.h.t).length:Int):=by omega
     have f1:wr.cell? ⟨w.heap.size,1,none⟩=some (.slice (some ⟨b,o,none⟩) bn bc):=by rw[cell_of_row _ _ _ _ _ _ HF2.out];rfl
     have hl1:=lt_of_heap HF2.out;clear hx hgd
     have hno:¬(1≤x∧x<(bn:Int))→toIn bs=false:=fun hn=>List.all_eq_false.2 ⟨r,List.mem_of_getElem? HRR.out,by
      rw[toOne,Bool.not_eq_true,List.all_eq_false]
      exact⟨x,List.mem_of_getElem? HX.out,by rw[HLb.out];simpa using hn⟩⟩
     have HNO:=Lib.hid hno;clear hno;by_cases ha:x<1
     ·have HE:Hid (toIn bs=false):=HNO.out (by omega);go_wp2;refine bodyPost_ret (v:=.tuple #[.int .i64 0,.bool false]) (by simp[results,Tryz.results71,go_sem]) rfl ?_;exact⟨.inl ⟨HE.out,rfl⟩,HB2.out⟩
     ·by_cases hbx:x<(bn:Int)
      ·have hbx':¬(bn:Int)≤x:=by omega
       have HQ2:Hid (∀j y,j<q+1→(toD r.h.t)[j]? =some y→1≤y∧y<(bn:Int)):=fun j y hj hy=>by
        by_cases e:j=q
        ·subst e;rw[HX.out] at hy;cases hy;omega
        ·exact HQ.out j y (by omega) hy
       go_wp2
       go_roundw
       case rel=>exact⟨q+1,by go_num,rfl,by omega,trivial,HQ2⟩
       case measure=>simp[intOf];omega
      ·have HE:Hid (toIn bs=false):=HNO.out (by omega);have hbx':(bn:Int)≤x:=by omega
       go_wp2;refine bodyPost_ret (v:=.tuple #[.int .i64 0,.bool false]) (by simp[results,Tryz.results71,go_sem]) rfl ?_;exact⟨.inl ⟨HE.out,rfl⟩,HB2.out⟩
    ·have HK2:Hid (∀j x,j<k+1→bs[j]? =some x→toOne bn x=true):=fun j y hj hy=>by
      by_cases e:j=k
      ·subst e;rw[HRR.out] at hy;cases hy;rw[toOne,List.all_eq_true];intro x hx;obtain⟨q',hq',e'⟩:=List.mem_iff_getElem.1 hx;have:=HQ.out q' x (by omega) (by rw[List.getElem?_eq_getElem hq',e']);simpa using this
      ·exact HK.out j y (by omega) hy
     have hql':¬(q:Int)<((toD r.h.t).length:Int):=by omega
     go_wp2
     go_roundw
     case rel=>exact⟨k+1,by go_num,rfl,by omega,HF2,HS2,HB2,HK2⟩
     case measure=>simp[intOf];omega
  ·have HIN:Hid (toIn bs=true):=List.all_eq_true.2 fun x hx=>by
    obtain⟨j,hj,e⟩:=List.mem_iff_getElem.1 hx;rw[HLb.out];exact HK.out j x (by rw[HLb.out] at hj;omega) (by rw[List.getElem?_eq_getElem hj,e])
   have hlt':¬(k:Int)<(bn:Int):=by omega
   have hTO:=toIn_ok HIN.out;have HTO:=Lib.hid hTO;have hps:w.heap.size+2≤wr.heap.size:=by have:=lt_of_heap HS.out;omega
   clear hTO;go_wp2;obtain⟨W2,hW2⟩:∃W2,W2=wr.alloc (.cells #[.int .i64 0] 3):=⟨_,rfl⟩
   have hqI:QueI W2 (w.heap.size+2) (.slice (some ⟨wr.heap.size,0,none⟩) 1 1) (intsN [0]):=by
    rw[hW2];refine QueI.of_own ⟨⟨rfl,.inr ⟨wr.heap.size,1,#[.int .i64 0],rfl,hps,heap_alloc_new _ _,Nat.le_refl _,by decide,rfl,rfl⟩⟩,fun x hx=>?_,by simp[intsN]⟩;simp[intsN] at hx;subst hx;unfold I64;omega
   have hb2:Below wr.heap.size wr W2:=by rw[hW2];exact ext_alloc _ _
   rw[←hW2];have HQI:=Lib.hid hqI;have HF2:=Lib.hid (block_ext hb2 HF.out);have HS2:=Lib.hid (block_ext hb2 HS.out);have HB2:=Lib.hid (ext_trans HBk.out hb2);clear hqI hb2 hW2 HF HS HBk HK hlt hlt' hk hps
   go_loopg [2,9] (3*bn+1) (fun gg s2 s9 wx=>∃(cN:Nat) (seen:Nat→Bool) (q:List Nat),s2=.int .i64 cN∧cN≤bn∧3*bn+q.length≤gg+3*cN∧q.length≤2*cN+1∧Hid (cN=cnt bn seen)∧Hid (QueOK (bksL bs) seen q)∧Hid (QueI wx (w.heap.size+2) s9 (intsN q))∧Hid (wx.heap[w.heap.size]? =some (.cells #[.slice pa pn pc,.slice ba bn bc] 40))∧Hid (wx.heap[w.heap.size+1]? =some (blO bn seen))∧Hid (Below w.heap.size w wx))
   case atStart=>exact⟨0,fun _=>false,[0],rfl,by omega,by simp,by simp,by simp[Hid,cnt],QueOK.start (by rw[bksL_len,HLb.out];exact h0),HQI,HF2,HS2,HB2⟩
   case round=>
    obtain⟨cN,seen,q,rfl,hcn,hgg,hql,HC,HQO,HQ,HF,HS,HBk⟩:=hrel;clear HQI HF2 HS2 HB2;obtain⟨g,o,cap,rfl,hl1,hl2,hints⟩:=HQ.out.form;cases q with
    |nil=>
     have HRA:=Lib.hid (reach_all HQO.out);go_wp2;refine bodyPost_ret (v:=.tuple #[.int .i64 cN,.bool true]) (by simp[results,Tryz.results71,go_sem]) rfl ?_;refine⟨.inr ⟨HIN.out,cN,rfl,by rw[HLb.out];exact hcn,?_⟩,HBk.out⟩;have h9:=HRA.out;rw[bksL_len,HLb.out] at h9;rw[HLb.out,HC.out];exact h9
    |cons x q'=>
     have hst:intsN (x :: q')=(x:Int) :: intsN q':=rfl;have hxr:x<bn:=by have:=HQO.out.lt x (by simp);rwa [bksL_len,HLb.out] at this
     have h8:=HQ.out;rw[hst] at h8;rw[hst] at hints hl1;have hlen2:(intsN q').length=q'.length:=by simp[intsN]
     have hlen':((x:Int) :: intsN q').length=q'.length+1:=by simp[intsN]
     have hpop:=h8.tail;obtain⟨b1,o1,e1,hx0,_⟩:=hints.2.2 0 (by simp);injection e1 with e1;injection e1 with e1 e2;subst e1 e2;rw[Nat.add_zero] at hx0;have hx0':wr.cell? ⟨g,o,none⟩=some (.int .i64 (x:Int)):=hx0;rw[hlen'] at hl1;rw[hlen2] at hpop;rw[hst,hlen'];simp only[List.length_cons] at hql hgg;have hcc:(cap=1∧q'= [])∨∃c2,cap=c2+2:=by
      by_cases e:cap=1
      ·exact .inl ⟨e,List.eq_nil_of_length_eq_zero (by omega)⟩
      ·exact .inr ⟨cap-2,by omega⟩
     have hpop1:cap=1→q'= []→QueI wr (w.heap.size+2) (.slice (some ⟨g,o,none⟩) 0 0) (intsN []):=fun e1 e2=>by
      obtain⟨g',o',cap',cur,e,k1,k2,k3,k4,k5,k6,k7,k8⟩:=h8;injection e with e1 e2 e3;injection e1 with e1;injection e1 with e1 e4 _;subst e1 e3 e4;exact⟨g,o,0,cur,rfl,k1,by simp[intsN],by simp[maxLen],k4,by omega,fun k hk=>by simp[intsN] at hk,fun z hz=>by simp[intsN] at hz,by simp[intsN]⟩
     unfold maxLen at hl2;have hsc:wr.cell? ⟨w.heap.size+1,x,none⟩=some (.bool (seen x)):=by rw[cell_of_row _ _ _ _ _ _ HS.out,arr_at _ _ _ hxr]
     have hsf:wr.frozen? ⟨w.heap.size+1,x,none⟩=false:=frozen_of_row _ _ _ _ _ HS.out;have hxr':(x:Int)<(bn:Int):=by omega
     have hls:=lt_of_heap HS.out;cases hsx:seen x with
     |true=>
      rw[hsx] at hsc;have HQN:=Lib.hid (HQO.out.skip hsx);rcases hcc with ⟨rfl,hs0⟩|⟨c2,rfl⟩
      ·have HQP:=Lib.hid (hpop1 rfl hs0);subst hs0;clear h8 hpop hpop1 hst hlen2 hlen' hints hx0;simp only[List.length_nil,Nat.zero_add] at hl1 hgg hql⊢;go_wp2
       go_roundg (3*bn-3*cN)
       case measure=>omega
       case rel=>exact⟨cN,seen,[],rfl,hcn,by simp;omega,by simp,HC,HQN,HQP,HF,HS,HBk⟩
      ·have HQP:=Lib.hid hpop;clear h8 hpop hpop1 hst hlen2 hlen' hints hx0;go_wp2
       go_roundg (3*bn+q'.length-3*cN)
       case measure=>omega
       case rel=>exact⟨cN,seen,q',rfl,hcn,by omega,by omega,HC,HQN,HQP,HF,HS,HBk⟩
     |false=>
      rw[hsx] at hsc;have hcn1:cN+1≤bn:=by
       have h9:=cnt_put hxr hsx;have h10:=cnt_le bn fun k=>if k=x then true else seen k
       rw[HC.out];omega
      have HC1:Hid (cN+1=cnt bn fun k=>if k=x then true else seen k):=by rw[Hid,cnt_put hxr hsx,←HC.out]
      have HQN:=Lib.hid (HQO.out.put HTO.out);have HS1:Hid ((wr.setCell ⟨w.heap.size+1,x,none⟩ (.bool true)).heap[w.heap.size+1]? =some (blO bn fun k=>if k=x then true else seen k)):=by
       rw[Hid,heap_setCell_same _ _ _ _ _ _ HS.out,arr_put (g:=fun k=>.bool (if k=x then true else seen k)) (by simp) (fun k _ hk=>by simp[hk])]
      have HF1:Hid ((wr.setCell ⟨w.heap.size+1,x,none⟩ (.bool true)).heap[w.heap.size]? =some (.cells #[.slice pa pn pc,.slice ba bn bc] 40)):=by rw[Hid,Below.heap_setCell _ _ _ _ (by simp)];exact HF.out
      have HB1:Hid (Below w.heap.size w (wr.setCell ⟨w.heap.size+1,x,none⟩ (.bool true))):=HBk.out.setCell (by simp) _;obtain⟨r,b,o2,hr,hok,rfl,c0,c1,c2',c3,c4⟩:=blksR_cells (HB.out.ext HB1.out) hxr;have HTX:Hid (bkOf (bksL bs) x=bkL r):=bksL_at hr;have hto1:toOne bn r=true:=by
       have:=List.all_eq_true.1 HIN.out r (List.mem_of_getElem? hr)
       rwa [HLb.out] at this
      have HTI:Hid (intsN ((toD r.h.t).map Int.toNat)=toD r.h.t):=by
       show((toD r.h.t).map Int.toNat).map (fun k:Nat=>(k:Int))=toD r.h.t;rw[List.map_map]
       conv=>rhs;rw[←List.map_id (toD r.h.t)]
       refine List.map_congr_left fun y hy=>?_;have h9:=List.all_eq_true.1 hto1 y hy;simp only[decide_eq_true_eq] at h9;simp only[Function.comp,id];omega
      have hlto:=toD_len r.h.t;have HOK:=Lib.hid hok;have f1:(wr.setCell ⟨w.heap.size+1,x,none⟩ (.bool true)).cell? ⟨w.heap.size,1,none⟩=some (.slice (some ⟨b,o2,none⟩) bn bc):=by rw[cell_of_row _ _ _ _ _ _ HF1.out];rfl
      have hl3:=lt_of_heap HF1.out;have hwq:w.heap.size+2≤wr.heap.size:=by omega
      clear hr hok hto1;rcases hcc with ⟨rfl,hs0⟩|⟨c2,rfl⟩
      case' inl=>have HQP:=Lib.hid (show QueI wr (w.heap.size+2) (.slice (some ⟨g,o,none⟩) 0 0) (intsN q') by rw[hs0];exact hpop1 rfl hs0);clear hs0
      case' inr=>have HQP:=Lib.hid hpop
      all_goals
       have HQS:=Lib.hid (HQP.out.chg (S:=fun k=>k=w.heap.size+1) ((Chg.refl (fun k=>k=w.heap.size+1) wr).setCell (p:=⟨w.heap.size+1,x,none⟩) (.inl rfl) (.bool true)) (fun k hk e=>by have:=(HQP.out.low hk).1;omega));clear h8 hpop hpop1 hst hlen' hints hx0
       go_wp2_with (first
        |(go_at_call 74
          refine(to_any r.h.t (wr.setCell ⟨w.heap.size+1,x,none⟩ (.bool true)) HOK.out.1).mono ?_;rintro e w5 ⟨v,rfl,ho,hb5⟩;obtain⟨va,vc,rfl⟩:=ho.form;have HV:=Lib.hid ho.ints;have HQ5:=Lib.hid (HQS.out.ext hb5);have HB5:=Lib.hid (ext_trans HB1.out hb5);have HF5:=Lib.hid (block_ext hb5 HF1.out);have HS5:=Lib.hid (block_ext hb5 HS1.out);have hw5:w.heap.size+2≤w5.heap.size:=(by have:=lt_of_heap HS5.out;omega)
          clear ho hb5)
        |(at_builtin
          refine wpList_append_queS rfl w5 (.tmp 60) (.tmp 67) 22 rfl (w.heap.size+2) _ 8 Tryz.underlying22 infoI rfl _ (intsN q') rfl HQ5.out va vc (toD r.h.t) HV.out rfl (by omega) (by omega) (by omega) hw5 ?_;intro v6 w6 hq6 hg6 hb6;have HQ6:=Lib.hid hq6;have HG6:Hid (∀k,k<w.heap.size+2→w6.heap[k]? =w5.heap[k]?):=(fun k hk=>hg6.block k (by omega) (fun e=>by have:=(HQ5.out.low e.symm).1;omega))
          have HB6:Hid (Below w.heap.size w w6):=(HB5.out.grown hg6 (by omega) (fun k e=>by have:=(HQ5.out.low e).1;omega))
          clear hq6 hg6 hb6))
       have hto:(bkOf (bksL bs) x).to=(toD r.h.t).map Int.toNat:=by rw[HTX.out];rfl
       have hlq:(q'++(bkOf (bksL bs) x).to).length≤q'.length+2:=by rw[hto,List.length_append,List.length_map];omega
       go_roundg (3*bn+(q'++(bkOf (bksL bs) x).to).length-3*(cN+1))
       case measure=>omega
       case rel=>
        refine⟨cN+1,_,q'++(bkOf (bksL bs) x).to,by go_num,hcn1,by omega,by omega,HC1,HQN,?_,(HG6.out _ (by omega)).trans HF5.out,(HG6.out _ (by omega)).trans HS5.out,HB6⟩;have h9:=HQ6.out;rw[←HTI.out,←hto] at h9;show QueI w6 (w.heap.size+2) v6 ((q'++(bkOf (bksL bs) x).to).map fun k:Nat=>(k:Int));rw[List.map_append];exact h9
end

section
open Go.RowKit
section
variable {P:Program} {ops:Array Oper} {rest:List Oper} {o:Oper} {a:Act}
theorem wpQuiet_load_mid{C:World→Prop}{Q:Act→Prop}(hw:Region.wanted o (yielded ops a.tmps)=true)(ty:TypeId)(x:Operand)(ho:o.op=.load ty x)
  (b q:Nat) (hx:a.eval x=.pointer (some ⟨b,q,none⟩)) (cs:List Value) (d:TypeDesc) (hc:∀w,C w→w.rangeAt b q cs)
  (hu:P.underlying ty=some d) (hd:d.isRow=true) (hi:(P.info? ty).map (·.size)=some cs.length)
  (h:wpQuiet P ops C Q rest (a.put o.dst (.agg cs.toArray))):wpQuiet P ops C Q (o :: rest) a:=
 BigFrame.wpQuiet_want hw fun _ hK=>⟨.agg cs.toArray,fun w hC=>by
  unfold Oper.quietAt execOp;simp only[ho,hx,Instr.loadAt,Instr.sureAddr,Sem.run_bind,Sem.run_pure,Result.andThen_ok,run_loadVar_mid w b q ty cs d (hc w hC) hu hd hi]
  exact⟨rfl,rfl⟩,hK _ h⟩
end
theorem own_cells{base:Nat}{e:TypeId}{size g n c:Nat}:∀(vs:List Value) (o:Nat) (xs:List Value) (w:World),w.ownsRow base e size (.slice (some ⟨g,0,none⟩) n c) n xs→o+vs.length≤xs.length→
  (w.setCells g o vs).ownsRow base e size (.slice (some ⟨g,0,none⟩) n c) n (xs.take o++vs++xs.drop (o+vs.length))
 | [],o,xs,w,h,_=>by simpa[World.setCells] using h
 |v :: r,o,xs,w,h,ho=>by
  simp only[List.length_cons] at ho;have h1:=own_cells r (o+1) _ _ (h.stored o v).1 (by simp;omega);rw[World.setCells];have e:(xs.set o v).take (o+1)++r++(xs.set o v).drop (o+1+r.length)=xs.take o++(v :: r)++xs.drop (o+(v :: r).length):=by
   rw[List.drop_set_of_lt (by omega),List.take_add_one,List.take_set_of_le (by omega),List.getElem?_set_self (by omega)];simp[Nat.add_assoc,Nat.add_comm 1]
  rw[e] at h1;exact h1
theorem flat_set{α:Type}(cs:α→List Value)(size:Nat)(hs:∀x,(cs x).length=size)(x:α):∀(l:List α) (k:Nat),k<l.length→(l.flatMap cs).take (k*size)++cs x++(l.flatMap cs).drop (k*size+size)=(l.set k x).flatMap cs
 |y :: l,0,_=>by
  simp only[List.flatMap_cons,Nat.zero_mul,List.take_zero,List.nil_append,List.set_cons_zero,Nat.zero_add];rw[←hs y,List.drop_left]
 |y :: l,k+1,h=>by
  have ih:=flat_set cs size hs x l k (by simpa using h);rw[List.flatMap_cons,List.set_cons_succ,List.flatMap_cons,←ih,Nat.add_mul,Nat.one_mul];have e1:k*size+size=(cs y).length+k*size:=by rw[hs];omega
  have e2:k*size+size+size=(cs y).length+(k*size+size):=by rw[hs];omega
  rw[e2,List.drop_append,e1,List.take_append];simp only[List.append_assoc];rw[List.take_of_length_le (by omega),List.drop_of_length_le (l:=cs y) (by omega),List.nil_append]
  congr 2
  ·congr 1;omega
  ·congr 1
   congr 1;omega
section
variable {α:Type} {e:TypeId} {size:Nat} {cs:α→List Value} {w w':World} {base:Nat} {ls:List α} {g n c:Nat}
theorem OwnR.range(hs:∀x,(cs x).length=size)(h:OwnR e size cs w base (.slice (some ⟨g,0,none⟩) n c) ls)(z:α){k:Nat}(hk:k<ls.length):w.rangeAt g (k*size) (cs (ls.getD k z)):=by
 obtain rfl:n=ls.length:=by obtain⟨a,c',e⟩:=h.form;injection e
 have hr:=h.recs hs
 obtain⟨b,o,ea,hc⟩:=hr.at_ (k:=k) (by rw[hr.1];exact hk) z
 injection ea with ea
 injection ea with ea eo
 subst ea eo
 intro j v hv
 have hj:j<size:=by rw[←hs (ls.getD k z)];exact(List.getElem?_eq_some_iff.1 hv).1
 rw[←hv,←hc j hj,Nat.zero_add]
theorem OwnR.setAt(hs:∀x,(cs x).length=size)(h:OwnR e size cs w base (.slice (some ⟨g,0,none⟩) n c) ls){k:Nat}(hk:k<ls.length)(x:α):OwnR e size cs (w.setCells g (k*size) (cs x)) base (.slice (some ⟨g,0,none⟩) n c) (ls.set k x):=by
 obtain rfl:n=ls.length:=by obtain⟨a,c',e⟩:=h.form;injection e
 have hl:=flatMap_len cs size hs ls
 have hkk:k*size+size≤ls.length*size:=by
  have:(k+1)*size≤ls.length*size:=Nat.mul_le_mul_right _ hk;rw[Nat.add_mul,Nat.one_mul] at this;exact this
 have h1:=own_cells (cs x) (k*size) _ _ h.1 (by rw[hs,hl];exact hkk)
 rw[hs,flat_set cs size hs x ls k hk] at h1
 refine⟨?_,by simpa using h.2⟩
 rw[List.length_set]
 exact h1
theorem OwnR.there(hs:∀x,(cs x).length=size)(h:OwnR e size cs w base (.slice (some ⟨g,0,none⟩) n c) ls){k:Nat}(hk:k<ls.length):w.there g (k*size) size:=by
 have hl:=flatMap_len cs size hs ls
 have hkk:k*size+size≤ls.length*size:=by
  have:(k+1)*size≤ls.length*size:=Nat.mul_le_mul_right _ hk;rw[Nat.add_mul,Nat.one_mul] at this;exact this
 rcases h.1.2 with ⟨h0,_⟩|⟨g',cap,cur,hv,hb,hh,hnc,hcm,hcs,ht⟩
 ·cases h0
 ·simp only[Value.slice.injEq,Option.some.injEq,Addr.mk.injEq,and_true,true_and] at hv;obtain⟨rfl,rfl,rfl⟩:=hv;intro j hj;have:ls.length*size≤c*size:=Nat.mul_le_mul_right _ hnc;refine⟨?_,frozen_of_row _ _ _ _ _ hh⟩;rw[cell_of_row _ _ _ _ _ _ hh];rw[Array.getElem?_eq_getElem (by omega)];rfl
end
theorem chg_setCells{S:Nat→Prop}{a:World}{g:Nat}(hs:S g):∀(vs:List Value) (o:Nat) (w:World),Chg S a w→Chg S a (w.setCells g o vs)
 | [],_,_,h=>h
 |v :: r,o,w,h=>chg_setCells hs r (o+1) _ (h.setCell (Or.inl hs) v)
end

section
open Go.RowKit Go.Shelf
attribute [local go_sem] Oper.semAt_some wide_fn wide_depth wide_fnR wide_depthR
def layZ_ren:Go.Shelf.Ren:=⟨fun|29=>119|n=>n,fun|0=>0|3=>3|4=>4|5=>5|22=>118|25=>172|54=>240|n=>n,fun|1=>0|n=>n⟩
theorem layZ:Go.Proofs.Lays7.n29 Tryz.prog layZ_ren:={
 mixed:=by kernel_rfl
 f29:=Tryz.func119.trans (congrArg some (by kernel_rfl))
 t0:=Tryz.underlying0
 a0:=Tryz.isAgg0
 z0:=Tryz.sizeOf0
 v0:=Tryz.zeroValue0
 i0:=by kernel_rfl
 t3:=Tryz.underlying3
 a3:=Tryz.isAgg3
 z3:=Tryz.sizeOf3
 v3:=Tryz.zeroValue3
 i3:=by kernel_rfl
 t4:=Tryz.underlying4
 a4:=Tryz.isAgg4
 z4:=Tryz.sizeOf4
 v4:=Tryz.zeroValue4
 i4:=by kernel_rfl
 t5:=Tryz.underlying5
 a5:=Tryz.isAgg5
 z5:=Tryz.sizeOf5
 v5:=Tryz.zeroValue5
 i5:=by kernel_rfl
 t22:=Tryz.underlying118
 a22:=Tryz.isAgg118
 z22:=Tryz.sizeOf118
 v22:=Tryz.zeroValue118
 i22:=by kernel_rfl
 t25:=Tryz.underlying172
 a25:=Tryz.isAgg172
 z25:=Tryz.sizeOf172
 v25:=Tryz.zeroValue172
 i25:=by kernel_rfl
 t54:=Tryz.underlying240
 a54:=Tryz.isAgg240
 z54:=Tryz.sizeOf240
 g1:=by kernel_rfl}
def Tab(w:World):Prop:=TabAt 0 Lib.deBruijn64tab w
theorem Tab.ext{w w':World}(h:Tab w)(hb:Below w.heap.size w w'):Tab w':=fun j hj=>cell_ext hb (h j hj)
theorem tz_any(x:Nat)(hx:x<18446744073709551616)(w:World)(hT:Tab w):Calls Tryz.prog 119 #[.int .u64 x] w fun e w'=>e=.returned (.int .i64 (Lib.ctz 64 x))∧w'=w:=
 Any7.bits_TrailingZeros64 layZ x hx w fun _=>hT
theorem wpListIn_load_rowG{F:Fence}{n:Nat}{P:Program}{ops:Array Oper}{rest:List Oper}{o:Oper}{a:Act}{w:World}{Q:Exit→Act→World→Prop}(hgd:o.guard=none)(ty:TypeId)(x:Operand)(ho:o.op=.load ty x)
  (g:Nat) (hx:a.eval x=.pointer (some ⟨g,0,none⟩)) (t:TypeId) (cs:Array Value) (fr:Nat×Nat) (d:TypeDesc) (hg:w.heap[g]? =some (.cells cs t fr))
  (hu:P.underlying ty=some d) (hd:(match d with| .struct _| .array _ _=>true|_=>false)=true) (hi:(P.info? ty).map (·.size)=some cs.size)
  (h:wpListIn F n P ops Q rest (a.put o.dst (.agg cs)) w):wpListIn F n P ops Q (o :: rest) a w:=by
 refine wpListIn_plain hgd fun K' hK'=>?_
 unfold Oper.wpIn
 refine⟨by simp[Oper.about,ho],?_⟩
 rw[Oper.semAt_plain F _ _ (by rw[ho];intro c hc';cases hc')]
 simp only[execOp,ho,hx,Instr.loadAt,Instr.sureAddr,Sem.run_bind,Sem.run_pure,Result.andThen_ok,run_loadVar_row w g t ty cs fr d hg hu hd hi]
 exact hK' _ _ h
theorem part_u64(cs:Array Value)(o:Nat)(v:Value)(w:World)(h:cs[o]? =some v):(part 118 cs o).run Tryz.prog w=.ok v w:=by
 have hu:(underlying 118).run Tryz.prog w=.ok (.int .u64) w:=run_underlying Tryz.underlying118 w
 simp[part,isAgg,hu,h]
theorem index_bset(S k:Nat)(h:k<16)(w:World):(Instr.index 120 (.agg (setW S)) (.int .i64 (k:Int))).run Tryz.prog w=.ok (.int .u64 (wd S k:Nat)) w:=by
 have hz:(sizeOf 118).run Tryz.prog w=.ok 1 w:=Tryz.sizeOf118 w
 have p0:(part 118 (setW S) k).run Tryz.prog w=.ok (.int .u64 (wd S k:Nat)) w:=part_u64 _ _ _ w (setW_at S k h)
 simp[Instr.index,asIntOf,run_underlying (w:=w) Tryz.underlying120,hz,p0,Result.andThen]
 omega
def restB(S k:Nat):List Nat:=(List.range' k (16-k)).flatMap fun i=>(bitsL 64 (wd S i)).map fun j=>64*i+j
def restI(S k x:Nat):List Nat:=((bitsL 64 x).map fun j=>64*k+j)++restB S (k+1)
theorem restB_zero(S:Nat):restB S 0=bitsL 1024 S:=by rw[restB,bits_words S 16,List.range_eq_range']
theorem restB_end(S:Nat):restB S 16= []:=rfl
theorem restB_step(S k:Nat)(h:k<16):restB S k=restI S k (wd S k):=by
 rw[restB,show 16-k=(16-(k+1))+1 by omega,List.range'_succ,List.flatMap_cons]
 rfl
theorem restI_zero(S k:Nat):restI S k 0=restB S (k+1):=by rw[restI,bits_zero];rfl
theorem restI_step(S k x:Nat)(h0:x≠0)(hx:x<2^64):restI S k x=(64*k+Lib.ctz 64 x) :: restI S k (x&&&(x-1)):=by
 rw[restI,bits_step x h0 hx]
 rfl
theorem bEach_any(S:Nat)(w:World):Calls Tryz.prog 76 #[.agg (setW S)] w fun e w'=>e=.returned (.func (.func 118) #[] #[.pointer (some ⟨w.heap.size,0,none⟩)])∧w'=w.alloc (bsO S):=by
 go_enter Tryz.func76,Tryz.ntmps76
 go_wp2
 go_ret
 exact⟨rfl,rfl⟩
theorem enter_bEach(args:Array Value)(w:World):(callFunc 118 args).run Tryz.prog w=.ok (.enter 118 args) w:=enters_of Tryz.func118 (by kernel_rfl) rfl args w
theorem bEach_iterI(S G:Nat):IterI Tryz.prog 118 #[.pointer (some ⟨G,0,none⟩)] encN (bitsL 1024 S) (fun W=>W.heap[G]? =some (bsO S)∧Tab W):=by
 intro l K Kx W hK hKx hInv hY h0
 refine callsIn_of_wp Tryz.func118 rfl trivial ?_ rfl
 simp only[Tryz.ntmps118,List.size_toArray,List.length_cons,List.length_nil,Nat.reduceAdd,Nat.reduceSub,Array.replicate_succ,Array.replicate_zero,List.push_toArray,List.append_toArray,List.nil_append,List.cons_append]
 have HY:=Lib.hid hY
 have HI:=Lib.hid hInv
 have HK0:=Lib.hid hK
 have H0:Hid (K (restB S 0) W):=by rw[Hid,restB_zero];exact h0
 have HG:=Lib.hid (hInv _ _ h0).1
 clear hY hInv hK hKx h0
 gi_wp2_with (refine wpListIn_load_rowG rfl 120 _ rfl G rfl 120 _ (0,0) _ HG.out Tryz.underlying120 rfl (by rw[setW_size];exact size_bset) ?_)
 gi_loopw [3,4,6] (fun _ _ i wr=>∃k:Nat,i=.int .i64 k∧k≤16∧Hid (K (restB S k) wr)) (fun _ _ i _=>16-(intOf i).toNat)
 case atStart=>exact⟨0,rfl,by omega,H0.out⟩
 case round=>
  obtain⟨k,rfl,hk,HK⟩:=hrel;clear H0 HG;by_cases hlt:k<16
  ·have hlt':(k:Int)<16:=by omega
   have hidx:=index_bset S k hlt;have HKi:Hid (K (restI S k (wd S k)) wr):=by have:=HK.out;rwa [restB_step S k hlt] at this
   have hwl:=wd_lt S k;obtain⟨y0,hy0⟩:∃y,y=wd S k:=⟨_,rfl⟩
   rw[←hy0] at hidx HKi hwl;clear hy0 HK
   gi_wp2
   obtain⟨wo,rfl⟩:∃wo:World,wo=wr:=⟨_,rfl⟩
   gi_loopw [4] (fun x wi=>∃y:Nat,x=.int .u64 (y:Int)∧y<18446744073709551616∧Hid (K (restI S k y) wi)) (fun x _=>(intOf x).toNat)
   case atStart=>exact⟨y0,rfl,hwl,HKi⟩
   case round=>
    obtain⟨y,rfl,hy64,HKy⟩:=hrel;clear HKi hidx;by_cases hy0:y=0
    ·subst hy0;have HKn:Hid (K (restB S (k+1)) wr):=by have:=HKy.out;rwa [restI_zero] at this
     gi_wp2
     go_roundw
     case rel=>exact⟨k+1,by go_num,by omega,HKn⟩
     case measure=>simp[intOf];omega
    ·have hyb:((y:Int)==0)=false:=by simpa using hy0
     have hyn:((y:Int) != 0)=true:=by simpa using hy0
     have HR:=Lib.hid (restI_step S k y hy0 hy64);have HTab:Hid (Tab wr):=(HI.out _ _ HKy.out).2;obtain⟨c,hc⟩:∃c,c=Lib.ctz 64 y:=⟨_,rfl⟩
     have hcl:c<64:=by rw[hc];exact(low_bits y hy0 hy64).2.1
     obtain⟨u,hu⟩:∃u,u=y&&&(y-1):=⟨_,rfl⟩
     have HU:=Lib.hid hu;obtain⟨z,hz⟩:∃z,z=y-1:=⟨_,rfl⟩
     have e3:IntKind.u64.wrap ((y:Int)-1)=(z:Int):=by rw[IntKind.wrap_u64,hz];omega
     have e4:bits .and .u64 (y:Int) (z:Int)=(u:Int):=by rw[hu,hz];exact bits_and_u64_nat _ _ hy64 (by omega)
     have hul:u<y:=by rw[hu];exact Nat.lt_of_le_of_lt Nat.and_le_right (by omega)
     obtain⟨q,hq⟩:∃q,q=64*k:=⟨_,rfl⟩
     have e1:IntKind.i64.wrap ((k:Int)*64)=(q:Int):=by rw[hq,IntWalk.i64_in _ (by omega)];omega
     obtain⟨v,hv⟩:∃v,v=q+c:=⟨_,rfl⟩
     have e2:IntKind.i64.wrap ((q:Int)+(c:Int))=(v:Int):=by rw[hv,IntWalk.i64_in _ (by omega)];omega
     have HR1:Hid (restI S k y=v :: restI S k u):=by rw[Hid,HR.out,hv,hq,hc,hu]
     have HC:Hid (Lib.ctz 64 y=c):=hc.symm;obtain⟨fn,tmps,assign,body,hy,hR⟩:=HY.out (restI S k y) v wr (by rw[HR1.out];rfl) HKy.out;unfold encN at hy;have hT:nxL (restI S k y) v=restI S k u:=by rw[HR1.out];rfl
     rw[hT] at hR;have HR2:=Lib.hid hR;clear hT hR hc hu hz hq hv HR hy0
     gi_wp2_with (
      (gi_at_call 119
       refine(callsIn_wide.2 (tz_any y hy64 wr HTab.out)).mono ?_;rw[HC.out]
       rintro e w2 ⟨rfl,rfl⟩))
     refine HR2.out.mono ?_;rintro e W' (⟨rfl,hJ'⟩|⟨rfl,hX'⟩)
     ·have HK1:=Lib.hid hJ';clear hJ' hy HR2
      gi_wp2
      go_roundw
      case rel=>exact⟨u,rfl,by omega,HK1⟩
      case measure=>simp[intOf];omega
     ·have HX:=Lib.hid hX';clear hX' hy HR2
      gi_wp2
      exact bodyPost_ret (v:=.tuple #[]) (by simp[results,Tryz.results118,go_sem]) rfl ⟨⟨_,rfl⟩,Or.inr HX.out⟩
  ·obtain rfl:k=16:=by omega
   gi_wp2
   go_end0
   exact⟨⟨_,rfl⟩,Or.inl ⟨_,restB_end S,HK.out⟩⟩
end

section
open Go.RowKit
def famL{α:Type}(n:Nat)(I:Nat→α):List α:=(List.range n).map I
theorem famL_len{α:Type}(n:Nat)(I:Nat→α):(famL n I).length=n:=by simp[famL]
theorem famL_at{α:Type}{n:Nat}{I:Nat→α}{k:Nat}(hk:k<n):(famL n I)[k]? =some (I k):=by simp[famL,hk]
theorem famL_getD{α:Type}{n:Nat}{I:Nat→α}{k:Nat}(hk:k<n)(z:α):(famL n I).getD k z=I k:=by rw[List.getD_eq_getElem?_getD,famL_at hk];rfl
theorem famL_set{α:Type}{n:Nat}{I:Nat→α}{k:Nat}(x:α):(famL n I).set k x=famL n fun j=>if j=k then x else I j:=by
 apply List.ext_getElem?
 intro j
 by_cases hj:j<n
 ·rw[List.getElem?_set,famL_at hj,famL_at hj];by_cases e:k=j
  ·subst e;simp[famL_len,hj]
  ·rw[if_neg e,if_neg (fun x=>e x.symm)]
 ·rw[List.getElem?_eq_none (by simp[famL_len];omega),List.getElem?_eq_none (by rw[famL_len];omega)]
theorem made_list{z:Array Value}(h0:0<z.size):∀n,(madeCells z (n*z.size)).toList=(List.range n).flatMap fun _=>z.toList
 |0=>by simp[madeCells]
 |n+1=>by
  have ih:=made_list h0 n;have e:∀m,(madeCells z m).toList=(List.range m).map fun j=>z[j%z.size]!:=fun m=>by simp[madeCells]
  rw[e] at ih⊢;rw[Nat.succ_mul,List.range_add,List.map_append,ih,List.range_succ,List.flatMap_append]
  congr 1
  simp only[List.map_map,List.flatMap_cons,List.flatMap_nil,List.append_nil];apply List.ext_getElem?;intro j;by_cases hj:j<z.size
  ·rw[List.getElem?_map,List.getElem?_range hj];simp only[Option.map_some,Function.comp];have:(n*z.size+j)%z.size=j:=by rw[Nat.mul_comm,Nat.mul_add_mod,Nat.mod_eq_of_lt hj]
   rw[this,getElem!_pos z j hj];simp[hj]
  ·rw[List.getElem?_eq_none (by simp;omega),List.getElem?_eq_none (by simp;omega)]
def vsC(f:Nat→Bool):List Value:=(setV f).toList
theorem vsC_len(f:Nat→Bool):(vsC f).length=201:=by simp[vsC,setV_size]
theorem vsC_arr(f:Nat→Bool):(vsC f).toArray=setV f:=by simp[vsC]
theorem vset_size(f:Nat→Bool):(Tryz.prog.info? 196).map (·.size)=some (setV f).size:=by rw[setV_size];exact size_vset
theorem vset_len(f:Nat→Bool):(Tryz.prog.info? 196).map (·.size)=some (vsC f).length:=by rw[vsC_len];exact size_vset
abbrev OwnV(W:World)(base:Nat)(v:Value)(n:Nat)(I:Nat→Nat→Bool):Prop:=OwnR 196 201 vsC W base v (famL n I)
section
variable {W:World} {base g n m c:Nat} {I:Nat→Nat→Bool}
theorem ownV_range(h:OwnV W base (.slice (some ⟨g,0,none⟩) m c) n I){k:Nat}(hk:k<n):W.rangeAt g (k*201) (vsC (I k)):=by
 have:=OwnR.range vsC_len h (fun _=>false) (k:=k) (by rw[famL_len];exact hk)
 rwa [famL_getD hk] at this
theorem ownV_there(h:OwnV W base (.slice (some ⟨g,0,none⟩) m c) n I){k:Nat}(hk:k<n)(f:Nat→Bool):W.there g (k*201) (setV f).size:=by
 rw[setV_size]
 exact OwnR.there vsC_len h (by rw[famL_len];exact hk)
theorem ownV_set(h:OwnV W base (.slice (some ⟨g,0,none⟩) m c) n I){k:Nat}(hk:k<n)(f:Nat→Bool):OwnV (W.setCells g (k*201) (setV f).toList) base (.slice (some ⟨g,0,none⟩) m c) n (putB I k f):=by
 have:=OwnR.setAt vsC_len h (k:=k) (by rw[famL_len];exact hk) f
 rwa [famL_set] at this
theorem ownV_cell(h:OwnV W base (.slice (some ⟨g,0,none⟩) m c) n I){k j:Nat}(hk:k<n)(hj:j<201):W.cell? ⟨g,k*201+j,none⟩=some (.bool (I k j)):=
 ownV_range h hk j _ (by show(setV (I k)).toList[j]? =_;rw[Array.getElem?_toList,setV_at _ _ hj])
theorem ownV_put(h:OwnV W base (.slice (some ⟨g,0,none⟩) m c) n I){k j:Nat}(hk:k<n)(hj:j<201)(b:Bool):OwnV (W.setCell ⟨g,k*201+j,none⟩ (.bool b)) base (.slice (some ⟨g,0,none⟩) m c) n (putB I k fun i=>if i=j then b else I k i)∧W.frozen? ⟨g,k*201+j,none⟩=false:=by
 have hfz:W.frozen? ⟨g,k*201+j,none⟩=false:=(OwnR.there vsC_len h (k:=k) (by rw[famL_len];exact hk) j hj).2
 refine⟨?_,hfz⟩
 obtain rfl:m=(famL n I).length:=by obtain⟨a,c',e⟩:=OwnR.form h;injection e
 have h1:=(h.1.stored (k*201+j) (.bool b)).1
 refine⟨?_,by have:=h.2;simpa[famL_len] using this⟩
 have e:((famL n I).flatMap vsC).set (k*201+j) (.bool b)=(famL n (putB I k fun i=>if i=j then b else I k i)).flatMap vsC:=by
  have h2:=flat_set vsC 201 vsC_len (fun i=>if i=j then b else I k i) (famL n I) k (by rw[famL_len];exact hk);rw[famL_set] at h2;have h3:(fun j_1=>if j_1=k then (fun i=>if i=j then b else I k i) else I j_1)=putB I k fun i=>if i=j then b else I k i:=rfl
  rw[h3] at h2;rw[←h2];have hl:((famL n I).flatMap vsC).length=n*201:=by rw[flatMap_len vsC 201 vsC_len,famL_len]
  have hkk:k*201+201≤n*201:=by omega
  have hx:vsC (fun i=>if i=j then b else I k i)=(vsC (I k)).set j (.bool b):=by
   apply List.ext_getElem?;intro i;by_cases hi:i<201
   ·rw[List.getElem?_set];show(setV _).toList[i]? =_;rw[Array.getElem?_toList,setV_at _ _ hi];by_cases e:j=i
    ·subst e;simp[vsC_len,hi]
    ·rw[if_neg e,if_neg (fun x=>e x.symm)];show _=(setV (I k)).toList[i]?;rw[Array.getElem?_toList,setV_at _ _ hi]
   ·rw[List.getElem?_eq_none (by rw[vsC_len];omega),List.getElem?_eq_none (by rw[List.length_set,vsC_len];omega)]
  have hmid:(((famL n I).flatMap vsC).drop (k*201)).take 201=vsC (I k):=by
   apply List.ext_getElem?;intro i;by_cases hi:i<201
   ·rw[List.getElem?_take_of_lt hi,List.getElem?_drop,←World.ownsRow.cellAt h.1 (k*201+i) (by rw[famL_len];omega),ownV_cell h hk hi];show _=(setV (I k)).toList[i]?;rw[Array.getElem?_toList,setV_at _ _ hi]
   ·rw[List.getElem?_eq_none (by simp;omega),List.getElem?_eq_none (by rw[vsC_len];omega)]
  rw[hx,←hmid];clear hx hmid h2 h3;generalize (famL n I).flatMap vsC=X at hl⊢;apply List.ext_getElem?;intro i;rw[List.getElem?_set];by_cases h1:i<k*201
  ·rw[if_neg (by omega),List.getElem?_append_left (by simp;omega),List.getElem?_append_left (by simp;omega),List.getElem?_take_of_lt h1]
  ·by_cases h2:i<k*201+201
   ·rw[List.getElem?_append_left (by simp;omega),List.getElem?_append_right (by simp;omega),List.getElem?_set];simp only[List.length_take,List.length_drop];rw[Nat.min_eq_left (by omega)];by_cases e:k*201+j=i
    ·rw[if_pos e,if_pos (by omega)];rw[if_pos (by omega),if_pos (by omega)]
    ·rw[if_neg e,if_neg (by omega),List.getElem?_take_of_lt (by omega),List.getElem?_drop]
     congr 1;omega
   ·rw[if_neg (by omega),List.getElem?_append_right (by simp;omega),List.getElem?_drop];simp only[List.length_append,List.length_take,List.length_set,List.length_drop]
    congr 1;omega
 rw[←e]
 simpa[famL_len] using h1
end
theorem infoV:(Tryz.prog.info? 196).map (fun i=>(i.zero,i.size,i.bytes))=some (some (.agg (setV fun _=>false)),201,201):=by kernel_rfl
theorem make_V(n:Nat)(hn:n≤1000000)(w:World):(Instr.makeSlice 200 (.int .i64 (n:Int)) (.int .i64 (n:Int))).run Tryz.prog w=.ok (.slice (some ⟨w.heap.size,0,none⟩) n n) (w.alloc (.cells (madeCells (setV fun _=>false) (n*201)) 196)):=by
 obtain⟨i,hi,hz⟩:=Option.map_eq_some_iff.1 infoV
 simp only[Prod.mk.injEq] at hz
 obtain⟨hz,hs,hb⟩:=hz
 have hr:=run_make (P:=Tryz.prog) w 200 196 i _ Tryz.underlying200 hi hz .i64 .i64 n n (by omega) (Int.le_refl _) (by rw[hb];omega) (by omega)
 rw[hs] at hr
 simpa[Value.cells] using hr
theorem made_V{n base:Nat}(hn:n≤1000000){w:World}(hb:base≤w.heap.size):OwnV (w.alloc (.cells (madeCells (setV fun _=>false) (n*201)) 196)) base (.slice (some ⟨w.heap.size,0,none⟩) n n) n (fun _ _=>false):=by
 have h:=World.ownsRow_lit (base:=base) (e:=196) (size:=201) w (madeCells (setV fun _=>false) (n*201)) n hb (by unfold maxLen;omega) (size_madeCells _ _)
 have e:(madeCells (setV fun _=>false) (n*201)).toList=(famL n fun _ _=>false).flatMap vsC:=by
  have:=made_list (z:=setV fun _=>false) (by rw[setV_size];omega) n;rw[setV_size] at this;rw[this,famL,List.flatMap_map];rfl
 rw[e] at h
 exact⟨by rw[famL_len];exact h,by rw[famL_len];omega⟩
def bsC(S:Nat):List Value:=(setW S).toList
theorem bsC_len(S:Nat):(bsC S).length=16:=by simp[bsC,setW_size]
theorem bset_size(S:Nat):(Tryz.prog.info? 120).map (·.size)=some (setW S).size:=by rw[setW_size];exact size_bset
theorem bset_len(S:Nat):(Tryz.prog.info? 120).map (·.size)=some (bsC S).length:=by rw[bsC_len];exact size_bset
abbrev OwnW(W:World)(base:Nat)(v:Value)(n:Nat)(I:Nat→Nat):Prop:=OwnR 120 16 bsC W base v (famL n I)
section
variable {W:World} {base g n m c:Nat} {I:Nat→Nat}
theorem ownW_range(h:OwnW W base (.slice (some ⟨g,0,none⟩) m c) n I){k:Nat}(hk:k<n):W.rangeAt g (k*16) (bsC (I k)):=by
 have:=OwnR.range bsC_len h 0 (k:=k) (by rw[famL_len];exact hk)
 rwa [famL_getD hk] at this
theorem ownW_there(h:OwnW W base (.slice (some ⟨g,0,none⟩) m c) n I){k:Nat}(hk:k<n)(S:Nat):W.there g (k*16) (setW S).size:=by
 rw[setW_size]
 exact OwnR.there bsC_len h (by rw[famL_len];exact hk)
theorem ownW_set(h:OwnW W base (.slice (some ⟨g,0,none⟩) m c) n I){k:Nat}(hk:k<n)(S:Nat):OwnW (W.setCells g (k*16) (setW S).toList) base (.slice (some ⟨g,0,none⟩) m c) n (putS' I k S):=by
 have:=OwnR.setAt bsC_len h (k:=k) (by rw[famL_len];exact hk) S
 rwa [famL_set] at this
end
theorem infoW:(Tryz.prog.info? 120).map (fun i=>(i.zero,i.size,i.bytes))=some (some (.agg (setW 0)),16,128):=by kernel_rfl
theorem make_W(n:Nat)(hn:n≤1000000)(w:World):(Instr.makeSlice 114 (.int .i64 (n:Int)) (.int .i64 (n:Int))).run Tryz.prog w=.ok (.slice (some ⟨w.heap.size,0,none⟩) n n) (w.alloc (.cells (madeCells (setW 0) (n*16)) 120)):=by
 obtain⟨i,hi,hz⟩:=Option.map_eq_some_iff.1 infoW
 simp only[Prod.mk.injEq] at hz
 obtain⟨hz,hs,hb⟩:=hz
 have hr:=run_make (P:=Tryz.prog) w 114 120 i _ Tryz.underlying114 hi hz .i64 .i64 n n (by omega) (Int.le_refl _) (by rw[hb];omega) (by omega)
 rw[hs] at hr
 simpa[Value.cells] using hr
def eqV(f g:Nat→Bool):Bool:=(List.range 201).all fun i=>f i==g i
theorem eqV_iff{f g:Nat→Bool}:eqV f g=true↔∀v,v<201→f v=g v:=by simp[eqV]
theorem equal_vset(w:World)(f g:Nat→Bool):(Op.equalIn 10000 196 (.agg (setV f)) (.agg (setV g))).run Tryz.prog w=.ok (eqV f g) w:=by
 have hi:∃i,Tryz.prog.info? 4=some i:=Option.isSome_iff_exists.1 (by kernel_rfl)
 obtain⟨i,hi⟩:=hi
 have h1:Tryz.prog.cellsOf 4=1:=by kernel_rfl
 rw[run_equalIn_array w 9999 _ _ Tryz.underlying196 hi,h1]
 exact eqItems_bool w f g _ _ _ (fun i hi=>⟨setV_at f i (List.mem_range.1 hi),setV_at g i (List.mem_range.1 hi)⟩)
theorem neq_vset(w:World)(f g:Nat→Bool):(binOp .neq 196 (.agg (setV f)) (.agg (setV g))).run Tryz.prog w=.ok (.bool (!eqV f g)) w:=by
 rw[run_neq_struct,equal_vset]
 rfl
def eqW(S T:Nat):Bool:=(List.range 16).all fun i=>wd S i==wd T i
theorem eqW_iff{S T:Nat}(hS:S<2^1024)(hT:T<2^1024):eqW S T=true↔S=T:=by
 constructor
 ·intro h;refine set_ext16 hS hT fun k hk=>?_;have:=List.all_eq_true.1 h k (List.mem_range.2 hk);simpa using this
 ·rintro rfl;simp[eqW]
theorem eqItems_word(w:World)(f g:Nat→Nat)(xs ys:Array Value):∀(is:List Nat),(∀i∈is,xs[i]? =some (.int .u64 (f i:Nat))∧ys[i]? =some (.int .u64 (g i:Nat)))→(Op.eqItems 9999 118 1 xs ys is).run Tryz.prog w=.ok (is.all fun i=>f i==g i) w
 | [],_=>by simp[Op.eqItems]
 |i :: is,h=>by
  obtain⟨h1,h2⟩:=h i (by simp);have ih:=eqItems_word w f g xs ys is (fun j hj=>h j (by simp[hj]));simp only[Op.eqItems,Sem.run_bind,Nat.mul_one];rw[part_u64 _ i _ w h1];simp only[Result.andThen_ok];rw[part_u64 _ i _ w h2];simp only[Result.andThen_ok];rw[run_equalIn_int w 9998 118 .u64 .u64 (f i:Nat) (g i:Nat) Tryz.underlying118];simp only[Result.andThen_ok];have e:((f i:Int)==(g i:Int))=(f i==g i):=by
   rw[Bool.eq_iff_iff,beq_iff_eq,beq_iff_eq];exact⟨fun h=>(by omega),fun h=>(by omega)⟩
  rw[e];cases hq:(f i==g i) with
  |false=>simp[hq]
  |true=>simp[hq,ih]
theorem equal_bset(w:World)(S T:Nat):(Op.equalIn 10000 120 (.agg (setW S)) (.agg (setW T))).run Tryz.prog w=.ok (eqW S T) w:=by
 have hi:∃i,Tryz.prog.info? 118=some i:=Option.isSome_iff_exists.1 (by kernel_rfl)
 obtain⟨i,hi⟩:=hi
 have h1:Tryz.prog.cellsOf 118=1:=by kernel_rfl
 rw[run_equalIn_array w 9999 _ _ Tryz.underlying120 hi,h1]
 exact eqItems_word w (wd S) (wd T) _ _ _ (fun i hi=>⟨setW_at S i (List.mem_range.1 hi),setW_at T i (List.mem_range.1 hi)⟩)
theorem neq_bset(w:World)(S T:Nat):(binOp .neq 120 (.agg (setW S)) (.agg (setW T))).run Tryz.prog w=.ok (.bool (!eqW S T)) w:=by
 rw[run_neq_struct,equal_bset]
 rfl
end

section
open Go.RowKit
def HJ(w:World)(r:InsR)(S:Nat)(W:World):Prop:=
 W.heap[w.heap.size]? =some (insO r.d r.aa r.na r.ca)∧W.heap[w.heap.size+1]? =some (bsO S)∧(∃h,W.heap[w.heap.size+1+1]? =some (bsO h))∧Below w.heap.size w W
theorem HJ.ext{w:World}{r:InsR}{S:Nat}{W W':World}(h:HJ w r S W)(hb:Below W.heap.size W W'):HJ w r S W':=by
 obtain⟨h1,h2,⟨g,h3⟩,h4⟩:=h
 exact⟨block_ext hb h1,block_ext hb h2,⟨g,block_ext hb h3⟩,h4.trans (hb.mono h4.size)⟩
def aheadN(S:Nat)(i:InsD):Nat:=withN (subN S (definesV i)) (readsI i)
theorem lAhead_any(r:InsR)(S:Nat)(w:World)(hr:InsOK w r)(hna:r.na≤1000000):Calls Tryz.prog 81 #[insVR r,.agg (setW S)] w (BSPost w (aheadN S r.d)):=by
 have HOK:=Lib.hid hr
 clear hr
 go_enter Tryz.func81,Tryz.ntmps81
 go_upto_region 1 with (fail)
 obtain⟨W,hW⟩:∃W,W=((w.alloc (insO r.d r.aa r.na r.ca)).alloc (bsO S)).alloc (bsO 0):=⟨_,rfl⟩
 rw[zero_bset,←hW]
 have hJ:HJ w r S W:=by
  rw[hW];refine⟨?_,?_,⟨0,?_⟩,(((Below.refl _ w).alloc (Nat.le_refl _) _).alloc (by simp) _).alloc (by simp;omega) _⟩
  ·rw[Below.heap_alloc _ _ _ (by simp;omega),Below.heap_alloc _ _ _ (by simp)];exact heap_alloc_new _ _
  ·rw[Below.heap_alloc _ _ _ (by simp)];have:=heap_alloc_new (w.alloc (insO r.d r.aa r.na r.ca)) (bsO S);simpa using this
  ·have:=heap_alloc_new ((w.alloc (insO r.d r.aa r.na r.ca)).alloc (bsO S)) (bsO 0);simpa using this
 clear hW
 have q0:∀w',(∃m:ClsW (HJ w r S),w'=m.val)→w'.heap[w.heap.size]? =some (insO r.d r.aa r.na r.ca):=fun w' ⟨m,e⟩=>by rw[e];exact m.prop.1
 have q1:∀w',(∃m:ClsW (HJ w r S),w'=m.val)→w'.heap[w.heap.size+1]? =some (bsO S):=fun w' ⟨m,e⟩=>by rw[e];exact m.prop.2.1
 obtain⟨v0,hv0,hP0⟩:∃v0,W.drew=v0∧HJ w r S v0:=⟨_,rfl,hJ.ext (ext_drewN (Below.refl _ _) 1)⟩
 have hne:Nonempty (ClsW (HJ w r S)):=cls_ne hP0
 refine z_start (fun w'=>∃m:ClsW (HJ w r S),w'=m.val) (by kernel_rfl) ?_
 rw[hv0]
 refine z_reads 0 2 (by kernel_rfl) (cls_mk hP0) ?_
 simp only[List.take_succ_cons,List.take_zero,List.drop_succ_cons,List.drop_zero]
 (refine wpQuiet_load_row (o:=⟨some 5,.load 120 _,_,_,_,_⟩) (by rfl) 120 _ rfl (w.heap.size+1) rfl 120 _ (0,0) _ q1 Tryz.underlying120 rfl (by rw[setW_size];exact size_bset) ?_;simp only[Act.put,List.setIfInBounds_toArray,List.set_cons_succ,List.set_cons_zero])
 (refine wpQuiet_load_row (o:=⟨some 6,.load 60 _,_,_,_,_⟩) (by rfl) 60 _ rfl w.heap.size rfl 60 _ (0,0) _ q0 Tryz.underlying60 rfl size_insR ?_;simp only[Act.put,List.setIfInBounds_toArray,List.set_cons_succ,List.set_cons_zero])
 refine wpQuiet_nil ?_
 refine z_reads 5 1 (by kernel_rfl) (cls_mk hP0) ?_
 simp only[List.take_succ_cons,List.take_zero,List.drop_succ_cons,List.drop_zero]
 (refine wpQuiet_load_row (o:=⟨some 10,.load 60 _,_,_,_,_⟩) (by rfl) 60 _ rfl w.heap.size rfl 60 _ (0,0) _ q0 Tryz.underlying60 rfl size_insR ?_;simp only[Act.put,List.setIfInBounds_toArray,List.set_cons_succ,List.set_cons_zero])
 refine wpQuiet_nil ?_
 clear q0 q1 hv0 hne hJ
 have HP0:=Lib.hid hP0
 have HK0:=Lib.hid (HOK.out.ext hP0.2.2.2)
 obtain⟨m,hm⟩:∃m:Nat,definesV r.d=(m:Int):=⟨(definesV r.d).toNat,by have:=(defines_var r.d).1;omega⟩
 have hml:m≤200:=by have:=(defines_var r.d).2;omega
 have HMD:=Lib.hid hm
 clear hP0 hm
 refine z_one 2 (by kernel_rfl) ?_
 refine wpOp_at rfl rfl ?_
 go_simp
 refine(defines_any r.d r.aa r.na r.ca v0 HK0.out.1 HK0.out.2.2.2.2.1 HK0.out.2.2.2.2.2.1 HK0.out.2.2.2.2.2.2.1 HK0.out.2.2.2.2.2.2.2.1).mono ?_
 rw[HMD.out]
 rintro e v1 ⟨rfl,hb1⟩
 have HP1:=Lib.hid (HP0.out.ext hb1)
 have HK1:=Lib.hid (HK0.out.ext hb1)
 clear hb1
 refine⟨Or.inr (cls_mk HP1.out),?_⟩
 try simp only[Act.put,List.setIfInBounds_toArray,List.set_cons_succ,List.set_cons_zero]
 refine z_one 3 (by kernel_rfl) ?_
 refine wpOp_at rfl rfl ?_
 go_simp
 obtain⟨v2,hv2⟩:∃v2,v2=v1.alloc (.cells #[.int .i64 (m:Int)] 3):=⟨_,rfl⟩
 have F2:Below v1.heap.size v1 v2:=by rw[hv2];exact ext_alloc _ _
 have hI2:Ints v2 (some ⟨v1.heap.size,0,none⟩) 1 [(m:Int)]:=by
  rw[hv2]
  exact ints_lit (heap_alloc_new _ _) [(m:Int)] (fun x hx=>by rw[List.mem_singleton] at hx;subst hx;unfold I64;omega) (by simp) (fun k hk=>by
   obtain rfl:k=0:=by simpa using hk
   rfl)
 rw[←hv2]
 have HP2:=Lib.hid (HP1.out.ext F2)
 have HK2:=Lib.hid (HK1.out.ext F2)
 clear hv2 F2
 refine⟨Or.inr (cls_mk HP2.out),?_⟩
 try simp only[Act.put,List.setIfInBounds_toArray,List.set_cons_succ,List.set_cons_zero]
 refine z_one 4 (by kernel_rfl) ?_
 refine wpOp_at rfl rfl ?_
 go_simp
 refine(bWithout_any S (some ⟨v1.heap.size,0,none⟩) 1 1 [(m:Int)] v2 hI2).mono ?_
 rintro e v3 ⟨rfl,hb3⟩
 have HP3:=Lib.hid (HP2.out.ext hb3)
 have HK3:=Lib.hid (HK2.out.ext hb3)
 have HSB:Hid (withoutN S [(m:Int)]=subN S (definesV r.d)):=by rw[Hid,HMD.out];rfl
 clear hb3 hI2
 refine⟨Or.inr (cls_mk HP3.out),?_⟩
 try simp only[Act.put,List.setIfInBounds_toArray,List.set_cons_succ,List.set_cons_zero]
 refine z_one 6 (by kernel_rfl) ?_
 refine wpOp_at rfl rfl ?_
 go_simp
 refine(readsI_any r.d r.aa r.na r.ca v3 HK3.out.1 HK3.out.2.2.2.2.1 HK3.out.2.2.2.2.2.1 HK3.out.2.2.2.2.2.2.1 HK3.out.2.2.2.2.2.2.2.1 hna).mono ?_
 rintro e v4 ⟨rv,rfl,ho,hb4⟩
 obtain⟨ra,rc,rfl⟩:=ho.form
 have hO4:=ho.ints
 have HP4:=Lib.hid (HP3.out.ext hb4)
 clear ho hb4
 refine⟨Or.inr (cls_mk HP4.out),?_⟩
 try simp only[Act.put,List.setIfInBounds_toArray,List.set_cons_succ,List.set_cons_zero]
 refine z_one 7 (by kernel_rfl) ?_
 refine wpOp_at rfl rfl ?_
 go_simp
 refine(bWith_any (withoutN S [(m:Int)]) ra _ rc (readsI r.d) v4 hO4).mono ?_
 rw[HSB.out]
 rintro e v5 ⟨rfl,hb5⟩
 have HP5:=Lib.hid (HP4.out.ext hb5)
 clear hb5 hO4
 refine⟨Or.inr (cls_mk HP5.out),?_⟩
 try simp only[Act.put,List.setIfInBounds_toArray,List.set_cons_succ,List.set_cons_zero]
 have hfin:HJ w r S (v5.setRow (w.heap.size+1+1) (setW (aheadN S r.d)))∧(v5.setRow (w.heap.size+1+1) (setW (aheadN S r.d))).heap[w.heap.size+1+1]? =some (bsO (aheadN S r.d)):=by
  obtain⟨h1,h2,⟨h,h3⟩,h4⟩:=HP5.out;have hs:=setRow_heap _ _ _ (setW (aheadN S r.d)) _ _ h3;refine⟨⟨?_,?_,⟨_,hs⟩,below_setRow h4 (by omega) _⟩,hs⟩
  ·exact((below_setRow (B:=w.heap.size+1) (g:=w.heap.size+1+1) (w0:=v5) (w:=v5) (Below.refl _ _) (by omega) (setW (aheadN S r.d))).block w.heap.size (by omega)).trans h1
  ·exact((below_setRow (B:=w.heap.size+1+1) (g:=w.heap.size+1+1) (w0:=v5) (w:=v5) (Below.refl _ _) (by omega) (setW (aheadN S r.d))).block (w.heap.size+1) (by omega)).trans h2
 have HFIN:=Lib.hid hfin
 clear hfin
 refine z_one 8 (by kernel_rfl) ?_
 refine wpOp_at rfl rfl ?_
 refine wp_store_row 120 _ _ rfl (w.heap.size+1+1) (setW (aheadN S r.d)) rfl rfl 120 _ HP5.out.2.2.1.choose_spec (by rw[setW_size];exact size_bset) (by rw[setW_size,setW_size]) (setW_all _) ?_
 refine⟨Or.inr (cls_mk HFIN.out.1),?_⟩
 try simp only[Act.put,List.setIfInBounds_toArray,List.set_cons_succ,List.set_cons_zero]
 refine z_done (by kernel_rfl) ?_
 generalize v5.setRow (w.heap.size+1+1) (setW (aheadN S r.d))=v6 at*
 go_wp2
 have hload:=load_bset HFIN.out.2
 exact bodyPost_ret (v:=.agg (setW (aheadN S r.d))) (by simp[results,Tryz.results81,asAddr,Act.put,hload]) rfl ⟨rfl,HFIN.out.1.2.2.2⟩
end

section
theorem aheadN_bit(S:Nat)(i:InsD)(j:Nat)(hj:j<1024):(aheadN S i).testBit j=(decide ((j:Int)∈readsI i)||(S.testBit j&& !decide (definesV i=(j:Int)))):=by
 rw[aheadN,withN_bit _ _ hj,subN_bit _ _ _ hj,Bool.or_comm]
def pointN(t:TermD)(S:Nat):List InsR→Nat
 | []=>withN S (needsT t)
 |r :: l=>aheadN (pointN t S l) r.d
theorem pointN_bit(t:TermD)(S j:Nat)(hj:j<1024):∀l:List InsR,(pointN t S l).testBit j=aheadL (l.map fun r=>⟨readsI r.d,definesV r.d⟩) (needsT t) (bitF S) (j:Int)
 | []=>by
   show(withN S (needsT t)).testBit j=(decide ((j:Int)∈needsT t)||bitF S (j:Int));rw[withN_bit _ _ hj,Bool.or_comm];simp[bitF]
 |r :: l=>by
  show(aheadN (pointN t S l) r.d).testBit j=_;rw[aheadN_bit _ _ _ hj,pointN_bit t S j hj l];rfl
theorem aheadN_lt{S:Nat}{i:InsD}(h:S<2^1024):aheadN S i<2^1024:=withN_lt _ (subN_lt h)
theorem pointN_lt{t:TermD}{S:Nat}(h:S<2^1024):∀l:List InsR,pointN t S l<2^1024
 | []=>withN_lt _ h
 |_ :: l=>aheadN_lt (pointN_lt h l)
end
end Go.Proofs.YtnmkjliioogbgaaGreatDoor
