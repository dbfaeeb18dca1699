/-
 Tile:over.
-/
import Derived.Test.YtnmkjliioogbgaaGreatDoorTH
import Derived.Deep.OwnRows
import Derived.Test.YtnmkjliioogbgaaGreatDoorSB
import Derived.Test.YtnmkjliioogbgaaGreatDoorInsR
import Derived.Test.YtnmkjliioogbgaaGreatDoorRangeT
namespace Go.Proofs.YtnmkjliioogbgaaGreatDoor
set_option linter.unusedSimpArgs false
set_option linter.unusedVariables false
set_option linter.unusedSectionVars false
set_option maxRecDepth 100000
set_option maxHeartbeats 40000000
section
open Go.RowKit
def zS(f:Nat→Bool):Nat→Bool:=fun q=>if q=0 then true else f q
theorem size_func:(Tryz.prog.info? 40).map (·.size)=some 2:=by kernel_rfl
theorem info_ints:(Tryz.prog.info? 22).map (fun i=>(i.zero,i.size,i.bytes))=some (some nilV,1,24):=by kernel_rfl
theorem made_hdr(n:Nat):madeCells #[nilV] n=hdrA n fun _=>nilV:=by
 apply Array.ext_getElem?
 intro k
 by_cases hk:k<n
 ·rw[hdrA_at _ _ _ hk];simp[madeCells,hk,Nat.mod_one]
 ·rw[Array.getElem?_eq_none (by simp[madeCells];omega),Array.getElem?_eq_none (by rw[hdrA_size];omega)]
abbrev funcV(pa:Option Addr)(pn pc:Nat)(ba:Option Addr)(bn bc:Nat):Value:=.agg #[.slice pa pn pc,.slice ba bn bc]
abbrev funcO(pa:Option Addr)(pn pc:Nat)(ba:Option Addr)(bn bc:Nat):Obj:=.cells #[.slice pa pn pc,.slice ba bn bc] 40
def OverPost(pa:Option Addr)(pn pc:Nat)(ba:Option Addr)(bn bc:Nat)(ts:List TermD)(w:World)(e:Ending)(w':World):Prop:=
 ∃cs:Array Value,e=.returned (.tuple #[.agg cs,.bool (fitsB ts)])∧cs.size=4∧cs.all (·.oneCell')=true∧Below w.heap.size w w'∧(fitsB ts=true→∃ta tc fa fc,Value.agg cs=walkV ⟨pa,pn,pc,ba,bn,bc,ta,tc,fa,fc⟩∧WalkOK w' ⟨pa,pn,pc,ba,bn,bc,ta,tc,fa,fc⟩ ts)
def OvJ(w:World)(pa:Option Addr)(pn pc:Nat)(ba:Option Addr)(bn bc:Nat)(ts:List TermD)(TA FA B kT k i:Nat)(hF hT:Nat→Value)(wr:World):Prop:=
 wr.heap[w.heap.size]? =some (funcO pa pn pc ba bn bc)∧wr.heap[w.heap.size+1]? =some (walkO ⟨pa,pn,pc,ba,bn,bc,some ⟨TA,0,none⟩,bn,some ⟨FA,0,none⟩,bn⟩)∧
  wr.heap[TA]? =some (hdrO bn hT)∧wr.heap[FA]? =some (hdrO bn hF)∧Fam wr B bn kT hF hT (fun y=>intsN (pvAt ts k i y)) (fun j=>toD (ts.getD j zTerm))∧B≤wr.heap.size∧Below w.heap.size w wr
section
variable {w wr wr':World} {pa:Option Addr} {pn pc:Nat} {ba:Option Addr} {bn bc:Nat} {ts:List TermD} {TA FA B kT k i:Nat} {hF hT:Nat→Value}
theorem OvJ.ext(h:OvJ w pa pn pc ba bn bc ts TA FA B kT k i hF hT wr)(hb:Below wr.heap.size wr wr'):OvJ w pa pn pc ba bn bc ts TA FA B kT k i hF hT wr':=by
 obtain⟨h1,h2,h3,h4,h5,h6,h7⟩:=h
 exact⟨block_ext hb h1,block_ext hb h2,block_ext hb h3,block_ext hb h4,h5.ext hb,Nat.le_trans h6 hb.size,ext_trans h7 hb⟩
theorem OvJ.to(h:OvJ w pa pn pc ba bn bc ts TA FA B k k 0 hF hT wr)(hb:Below wr.heap.size wr wr')(v:Value)(ho:OwnI wr' wr.heap.size v (toD (ts.getD k zTerm)))(hk:k<bn)(hw1:w.heap.size+1+1≤TA)(hne:TA≠FA)(hTB:TA<B):
  OvJ w pa pn pc ba bn bc ts TA FA B (k+1) k 0 hF (updN hT k v) (wr'.setCell ⟨TA,k,none⟩ v):=by
 obtain⟨h1,h2,h3,h4,h5,h6,h7⟩:=h
 have g:=grown_setCell wr' TA k v
 have hsz:=hb.size
 refine⟨grown_row g (block_ext hb h1) (by simp;omega),grown_row g (block_ext hb h2) (by simp;omega),hdr_put (block_ext hb h3) k v,grown_row g (block_ext hb h4) (by simpa using hne),?_,by simp;omega,(ext_trans h7 hb).setCell (by simp;omega) _⟩
 have h8:=h5.add hb h6 v _ ho
 have e:updN (fun j=>toD (ts.getD j zTerm)) k (toD (ts.getD k zTerm))=fun j=>toD (ts.getD j zTerm):=by
  funext j
  by_cases e:j=k<;>simp[updN,e]
 rw[e] at h8
 exact h8.kept g (fun r hr=>by simp at hr;omega)
theorem OvJ.from(h:OvJ w pa pn pc ba bn bc ts TA FA B (k+1) k i hF hT wr)(y:Nat)(hy:y<bn)(hx:(nx ts k)[i]? =some y)(hg:wr.grownBy wr' (hF y).ownBlock)(v:Value)(ho:OwnI wr' B v (intsN (pvAt ts k i y)++ [(k:Int)]))(hv:v.ownBlock=(hF y).ownBlock∨∃g,v.ownBlock=some g∧wr.heap.size≤g)
  (hw1:w.heap.size+1+1≤FA) (hw2:w.heap.size+1+1≤TA) (hne:TA≠FA) (hTB:TA<B) (hFB:FA<B):OvJ w pa pn pc ba bn bc ts TA FA B (k+1) k (i+1) (updN hF y v) hT (wr'.setCell ⟨FA,y,none⟩ v):=by
 obtain⟨h1,h2,h3,h4,h5,h6,h7⟩:=h
 have hlt:∀r,(hF y).ownBlock=some r→B≤r:=fun r e=>((h5.F y hy).1.lt r e).1
 have low:∀q,q<B→(hF y).ownBlock≠some q:=fun q hq e=>by have:=hlt q e;omega
 have g:=grown_setCell wr' FA y v
 refine⟨grown_row g (grown_row hg h1 (low _ (by omega))) (by simp;omega),grown_row g (grown_row hg h2 (low _ (by omega))) (by simp;omega),grown_row g (grown_row hg h3 (low _ hTB)) (by simp;omega),hdr_put (grown_row hg h4 (low _ hFB)) y v,?_,by have:=hg.size;simp;omega,(h7.grown hg h7.size (fun r e=>by have:=hlt r e;omega)).setCell (by simp;omega) _⟩
 have h8:=h5.turn y hy hg v _ ho hv
 have e:updN (fun y=>intsN (pvAt ts k i y)) y (intsN (pvAt ts k i y)++ [(k:Int)])=fun y=>intsN (pvAt ts k (i+1) y):=by
  funext z
  rw[pvAt_step ts k i y hx z];by_cases e:z=y
  ·subst e;simp[updN,intsN]
  ·simp[updN,e]
 rw[e] at h8
 exact h8.kept g (fun r hr=>by simp at hr;omega)
end
theorem OvJ.walk{w wr:World}{pa:Option Addr}{pn pc:Nat}{ba:Option Addr}{bn bc:Nat}{ts:List TermD}{TA FA B:Nat}{hF hT:Nat→Value}(h:OvJ w pa pn pc ba bn bc ts TA FA B bn bn 0 hF hT wr)(h2:bn≤200)(hg:∀q,q<bn→termB (ts.getD q zTerm)=true∧∀x∈toD (ts.getD q zTerm),1≤x∧x<bn)(hl:ts.length=bn):
  WalkOK wr ⟨pa,pn,pc,ba,bn,bc,some ⟨TA,0,none⟩,bn,some ⟨FA,0,none⟩,bn⟩ ts:=by
 obtain⟨h1,_,h3,h4,h5,h6,h7⟩:=h
 refine⟨hl,h2,⟨by simp[toRows,hl],by show bn≤1000;omega,fun k xs hx=>?_⟩,⟨by simp[fromRows,hl],by show bn≤1000;omega,fun k xs hx=>?_⟩⟩
 ·have hk:k<bn:=by
   have:=(List.getElem?_eq_some_iff.1 hx).1;simpa[toRows,hl] using this
  have e:xs=nx ts k:=by simpa[toRows,hl,hk] using hx.symm
  have e2:intsN xs=toD (ts.getD k zTerm):=by
   have e3:(toD (ts.getD k zTerm)).map ((fun(k:Nat)=>(k:Int))∘Int.toNat)=(toD (ts.getD k zTerm)).map id:=List.map_congr_left fun x hx=>by
    have:=(hg k hk).2 x hx;simp;omega
   rw[e,nx,intsN,List.map_map,e3,List.map_id]
  have ho:=h5.T k hk;obtain⟨a,c,hv⟩:=ho.form;have hn:(toD (ts.getD k zTerm)).length=xs.length:=by rw[←e2];simp[intsN]
  rw[hv] at ho;rw[hn] at ho hv;refine⟨TA,0,a,c,rfl,?_,?_⟩
  ·rw[Nat.zero_add,hdr_cell h3 k hk,hv]
  ·rw[e2];exact ho.ints
 ·have hk:k<bn:=by
   have:=(List.getElem?_eq_some_iff.1 hx).1;simpa[fromRows,hl] using this
  have e:xs=pv ts k:=by simpa[fromRows,hl,hk] using hx.symm
  have ho:=h5.F k hk;have e2:intsN (pvAt ts bn 0 k)=intsN xs:=by rw[e,←hl,pvAt_end]
  simp only[e2] at ho;obtain⟨a,c,hv⟩:=ho.form;have hn:(intsN xs).length=xs.length:=by simp[intsN]
  rw[hv] at ho;rw[hn] at ho hv;refine⟨FA,0,a,c,rfl,?_,ho.ints⟩;rw[Nat.zero_add,hdr_cell h4 k hk,hv]
theorem good_no{ts:List TermD}{k:Nat}(hk:k<ts.length)(h:termB (ts.getD k zTerm)=false∨∃x∈toD (ts.getD k zTerm),x<1∨(ts.length:Int)≤x):fitsB ts=false:=by
 rw[fitsB,Bool.and_eq_false_iff]
 refine .inl (Bool.eq_false_iff.2 fun hg=>?_)
 have hm:ts.getD k zTerm∈ts:=by rw[List.getD_eq_getElem?_getD,List.getElem?_eq_getElem hk];exact List.getElem_mem _
 have h1:=((goodB_iff _).1 hg).2 _ hm
 rcases h with h|⟨x,hx,h⟩
 ·rw[h1.1] at h;cases h
 ·have:=h1.2 x hx;omega
theorem over_any(pa:Option Addr)(pn pc:Nat)(ba:Option Addr)(bn bc:Nat)(bs:List BlkH)(w:World)(h:BlksOK w ba bn bs):
  Calls Tryz.prog 55 #[funcV pa pn pc ba bn bc] w (OverPost pa pn pc ba bn bc (tsOf bs) w):=by
 have hbn:=h.1.2.1
 have HLn:=Lib.hid h.1.1
 have HBS:=Lib.hid h
 clear h
 by_cases hgood:1≤bn∧bn≤200
 rotate_left
 ·have HE:Hid (fitsB (tsOf bs)=false):=by
   rw[Hid,fitsB,Bool.and_eq_false_iff];refine .inl (Bool.eq_false_iff.2 fun hg=>hgood ?_);have:=((goodB_iff _).1 hg).1;rw[tsOf_len,HLn.out] at this;exact this
  go_enter Tryz.func55,Tryz.ntmps55
  go_upto_region 1 with (fail)
  obtain⟨W,hW⟩:∃W,W=(w.alloc (funcO pa pn pc ba bn bc)).alloc (.cells #[.slice none 0 0,.slice none 0 0,.slice none 0 0,.slice none 0 0] 133):=⟨_,rfl⟩
  rw[←hW];have hf:W.heap[w.heap.size]? =some (funcO pa pn pc ba bn bc):=by rw[hW,Below.heap_alloc _ _ _ (by simp)];exact heap_alloc_new _ _
  have hr:W.heap[w.heap.size+1]? =some (.cells #[.slice none 0 0,.slice none 0 0,.slice none 0 0,.slice none 0 0] 133 (0,0)):=by rw[hW,heap_at _ _ _ (by simp)]
  have hB:Below w.heap.size w W:=by rw[hW];exact(ext_alloc _ _).alloc (by simp) _
  have hc1:W.cell? ⟨w.heap.size,1,none⟩=some (.slice ba bn bc):=by rw[cell_of_row _ _ _ _ _ _ hf];rfl
  have HR:=Lib.hid hr;have HB:=Lib.hid hB;have hz:(bn:Int)<1∨200<(bn:Int):=by omega
  clear hW hf hr hB hgood;rcases hz with hz|hz
  rotate_left
  ·have hz1:¬(bn:Int)<1:=by omega
   go_wp2_with (first
    |(refine wpList_load_row (o:=⟨some _,.load 133 _,_,_,_,_⟩) rfl 133 _ rfl (w.heap.size+1) rfl 133 _ (0,0) _ HR.out Tryz.underlying133 rfl size_walk ?_)
    |(refine wpList_store_row (o:=⟨none,.store 133 _ _,_,_,_,_⟩) rfl 133 _ _ rfl (w.heap.size+1) #[.slice none 0 0,.slice none 0 0,.slice none 0 0,.slice none 0 0] rfl rfl 133 _ HR.out size_walk rfl (by simp[Value.oneCell']) ?_))
   refine bodyPost_ret (v:=.tuple #[.agg #[.slice none 0 0,.slice none 0 0,.slice none 0 0,.slice none 0 0],.bool false]) ?_ rfl ⟨_,by rw[HE.out],rfl,by simp[Value.oneCell'],below_setRow HB.out (by omega) _,fun h=>by rw[HE.out] at h;cases h⟩;have hl:=run_loadVar_row (P:=Tryz.prog) _ (w.heap.size+1) 133 133 _ (0,0) _ (setRow_heap _ _ _ #[.slice none 0 0,.slice none 0 0,.slice none 0 0,.slice none 0 0] _ _ HR.out) Tryz.underlying133 rfl size_walk;simp[results,Tryz.results55,asAddr,Act.put,hl]
  ·go_wp2_with (first
    |(refine wpList_load_row (o:=⟨some _,.load 133 _,_,_,_,_⟩) rfl 133 _ rfl (w.heap.size+1) rfl 133 _ (0,0) _ HR.out Tryz.underlying133 rfl size_walk ?_)
    |(refine wpList_store_row (o:=⟨none,.store 133 _ _,_,_,_,_⟩) rfl 133 _ _ rfl (w.heap.size+1) #[.slice none 0 0,.slice none 0 0,.slice none 0 0,.slice none 0 0] rfl rfl 133 _ HR.out size_walk rfl (by simp[Value.oneCell']) ?_))
   refine bodyPost_ret (v:=.tuple #[.agg #[.slice none 0 0,.slice none 0 0,.slice none 0 0,.slice none 0 0],.bool false]) ?_ rfl ⟨_,by rw[HE.out],rfl,by simp[Value.oneCell'],below_setRow HB.out (by omega) _,fun h=>by rw[HE.out] at h;cases h⟩;have hl:=run_loadVar_row (P:=Tryz.prog) _ (w.heap.size+1) 133 133 _ (0,0) _ (setRow_heap _ _ _ #[.slice none 0 0,.slice none 0 0,.slice none 0 0,.slice none 0 0] _ _ HR.out) Tryz.underlying133 rfl size_walk;simp[results,Tryz.results55,asAddr,Act.put,hl]
 obtain⟨hb1,hb2⟩:=hgood
 go_enter Tryz.func55,Tryz.ntmps55
 go_upto_region 1 with (fail)
 obtain⟨W,hW⟩:∃W,W=(w.alloc (funcO pa pn pc ba bn bc)).alloc (.cells #[.slice none 0 0,.slice none 0 0,.slice none 0 0,.slice none 0 0] 133):=⟨_,rfl⟩
 rw[←hW]
 have hf:W.heap[w.heap.size]? =some (funcO pa pn pc ba bn bc):=by rw[hW,Below.heap_alloc _ _ _ (by simp)];exact heap_alloc_new _ _
 have hr:W.heap[w.heap.size+1]? =some (.cells #[.slice none 0 0,.slice none 0 0,.slice none 0 0,.slice none 0 0] 133 (0,0)):=by rw[hW,heap_at _ _ _ (by simp)]
 have hB:Below w.heap.size w W:=by rw[hW];exact(ext_alloc _ _).alloc (by simp) _
 have hWs:W.heap.size=w.heap.size+1+1:=by rw[hW];simp
 have hc1:W.cell? ⟨w.heap.size,1,none⟩=some (.slice ba bn bc):=by rw[cell_of_row _ _ _ _ _ _ hf];rfl
 have HWs:=Lib.hid hWs
 have HF:=Lib.hid hf
 have HR:=Lib.hid hr
 have HB:=Lib.hid hB
 clear hW hWs hf hr hB
 go_upto_region 4 with (fail)
 go_cut [] (fun wr=>∃TA FA B:Nat,w.heap.size+1+1≤TA∧w.heap.size+1+1≤FA∧TA≠FA∧TA<B∧FA<B∧∃hF hT,OvJ w pa pn pc ba bn bc (tsOf bs) TA FA B 0 0 0 hF hT wr)
 case first=>
  refine region_free 5 [some 20,some 21,some 22,some 23,some 24] (by kernel_rfl) (by kernel_rfl) (specB [.val (.agg #[.slice pa pn pc,.slice ba bn bc]),.val (.int .i64 (bn:Int)),(.any fun v lo hi w=>v=.slice (some ⟨lo,0,none⟩) bn bn∧lo<hi∧w.heap[lo]? =some (hdrO bn fun _=>nilV)),.val (.int .i64 (bn:Int)),(.any fun v lo hi w=>v=.slice (some ⟨lo,0,none⟩) bn bn∧lo<hi∧w.heap[lo]? =some (hdrO bn fun _=>nilV))]) (specB_mono ?_) ?_ ?_
  ·intro k hk;simp only[List.mem_cons,List.not_mem_nil,or_false] at hk;rcases hk with rfl|rfl|rfl|rfl|rfl
   ·exact trivial
   ·exact trivial
   ·exact fun v lo hi w w' hb h=>⟨h.1,h.2.1,block_ext hb h.2.2⟩
   ·exact trivial
   ·exact fun v lo hi w w' hb h=>⟨h.1,h.2.1,block_ext hb h.2.2⟩
  ·intro i hi ν lo hi' w1 K hB hD hK;have hcase:i=0∨i=1∨i=2∨i=3∨i=4:=by omega
   clear hi;rcases hcase with rfl|rfl|rfl|rfl|rfl
   ·clear hD;refine wpOp_atK rfl rfl ?_;simp only[zA,zB,zC,zD,zE,zF,zJ,zK,zG,zH,zI] at hK⊢;refine wp_load_row 40 _ rfl w.heap.size rfl 40 _ (0,0) _ (block_ext hB HF.out) Tryz.underlying40 rfl size_func ?_;exact hK _ _ (Below.refl _ _) rfl
   ·clear hD;refine wpOp_atK rfl rfl ?_;simp only[zA,zB,zC,zD,zE,zF,zJ,zK,zG,zH,zI] at hK⊢;go_simp;exact hK _ _ (Below.refl _ _) rfl
   ·have e1:=hD 1 (by kernel_rfl)
    replace e1:ν 1=(.int .i64 (bn:Int)):=e1
    clear hD;refine wpOp_atK rfl rfl ?_;simp only[zA,zB,zC,zD,zE,zF,zJ,zK,zG,zH,zI,e1] at hK⊢;have hmk:=run_make_row' (P:=Tryz.prog) 88 22 nilV 24 Tryz.underlying88 info_ints rfl .i64 .i64 bn (by omega) (by omega) w1;go_simp;refine hK _ _ (ext_alloc _ _) ⟨rfl,by simp,?_⟩;rw[heap_alloc_new,made_hdr]
   ·clear hD;refine wpOp_atK rfl rfl ?_;simp only[zA,zB,zC,zD,zE,zF,zJ,zK,zG,zH,zI] at hK⊢;go_simp;exact hK _ _ (Below.refl _ _) rfl
   ·have e3:=hD 3 (by kernel_rfl)
    replace e3:ν 3=(.int .i64 (bn:Int)):=e3
    clear hD;refine wpOp_atK rfl rfl ?_;simp only[zA,zB,zC,zD,zE,zF,zJ,zK,zG,zH,zI,e3] at hK⊢;have hmk:=run_make_row' (P:=Tryz.prog) 88 22 nilV 24 Tryz.underlying88 info_ints rfl .i64 .i64 bn (by omega) (by omega) w1;go_simp;refine hK _ _ (ext_alloc _ _) ⟨rfl,by simp,?_⟩;rw[heap_alloc_new,made_hdr]
  ·intro ν lo hi w1 hB hS hI hD;have e0:ν 0=(.agg #[.slice pa pn pc,.slice ba bn bc]):=hS 0 (by omega);have e1:ν 1=(.int .i64 (bn:Int)):=hS 1 (by omega);have e2:=hS 2 (by omega);unfold specB at e2;simp only[List.getD_cons_zero,List.getD_cons_succ,specK] at e2;have e3:ν 3=(.int .i64 (bn:Int)):=hS 3 (by omega);have e4:=hS 4 (by omega);unfold specB at e4;simp only[List.getD_cons_zero,List.getD_cons_succ,specK] at e4;clear hS;simp only[List.drop_succ_cons,List.drop_zero,zA,zB,zC,zD,zE,zF,zJ,zK,zG,zH,zI,e0,e1,e3];have i2:=hI 2 (by omega);have i4:=hI 4 (by omega);have hne:lo 2≠lo 4:=by
    have:=hD 2 4 (by omega) (by omega) (by omega);omega
   obtain⟨e2,l2,h2⟩:=e2;obtain⟨e4,l4,h4⟩:=e4;simp only[e2,e4];have hr:=block_ext hB HR.out;rw[HWs.out] at i2 i4;have HBw:Hid (Below w.heap.size w w1):=ext_trans HB.out hB;have HFw:=Lib.hid (block_ext hB HF.out);generalize lo 2=TA at *;generalize lo 4=FA at *;have H2:=Lib.hid h2;have H4:=Lib.hid h4;have HRw:=Lib.hid hr;have hTA:=i2.1;have hFA:=i4.1;have hTB:TA<w1.heap.size:=by omega
   have hFB:FA<w1.heap.size:=by omega
   clear hI hD hB e0 e1 e2 e3 e4 h2 h4 hr i2 i4 l2 l4
   go_wp2_with (refine wpList_store_row (o:=⟨none,.store _ _ _,_,_,_,_⟩) rfl 133 _ _ rfl (w.heap.size+1) #[.slice pa pn pc,.slice ba bn bc,.slice (some ⟨TA,0,none⟩) bn bn,.slice (some ⟨FA,0,none⟩) bn bn] rfl rfl 133 _ HRw.out size_walk rfl (by simp[Value.oneCell']) ?_)
   go_meet
   refine⟨TA,FA,w1.heap.size,hTA,hFA,hne,hTB,hFB,fun _=>nilV,fun _=>nilV,?_⟩;refine⟨(setRow_other _ _ _ _ (by omega)).trans HFw.out,setRow_heap _ _ _ _ _ _ HRw.out,(setRow_other _ _ _ _ (by omega)).trans H2.out,(setRow_other _ _ _ _ (by omega)).trans H4.out,?_,by simp,below_setRow HBw.out (by omega) _⟩;have e:(fun y=>intsN (pvAt (tsOf bs) 0 0 y))=fun _=>([]:List Int):=by funext y;rw[pvAt_zero];rfl
   rw[e];exact⟨fun y _=>OwnI.nil _ _,fun j hj=>absurd hj (by omega),fun _ _ _ _ _ g h=>by simp[Value.ownBlock] at h,fun _ _ _ hj=>absurd hj (by omega)⟩
 case rest=>
  obtain⟨TA,FA,B,hTA,hFA,hne,hTB,hFB,hF0,hT0,HJ0⟩:=hcut
  replace HJ0:=Lib.hid HJ0
  clear HWs HF HR HB hc1;have hcb:wc.cell? ⟨w.heap.size,1,none⟩=some (.slice ba bn bc):=by rw[cell_of_row _ _ _ _ _ _ HJ0.out.1];rfl
  go_wp2
  go_loopg [29] bn (fun gg i wr=>∃(k:Nat) (hF hT:Nat→Value),i=.int .i64 (k:Int)∧k≤bn∧bn≤gg+k∧Hid (∀q,q<k→termB ((tsOf bs).getD q zTerm)=true∧∀x∈toD ((tsOf bs).getD q zTerm),1≤x∧x<bn)∧Hid (OvJ w pa pn pc ba bn bc (tsOf bs) TA FA B k k 0 hF hT wr))
  case atStart=>exact⟨0,hF0,hT0,rfl,Nat.zero_le _,Nat.le_refl _,fun q hq=>absurd hq (by omega),HJ0⟩
  case round=>
   obtain⟨k,hF,hT,rfl,hk,hgg,HG,HJ⟩:=hrel;clear hcb HJ0 hF0 hT0;by_cases hlt:k<bn
   ·obtain⟨jF,jR,jT,jA,jM,jS,jB⟩:=HJ.out;obtain⟨x,b,o,hbx,htx,rfl,c0,c1,c2,c3,c4⟩:=(HBS.out.ext jB).cells hlt;have htk:(tsOf bs).getD k zTerm=x.t:=tsOf_at bs k x hbx;have HTK:=Lib.hid htk;have HTX:=Lib.hid htx;have HBX:=Lib.hid hbx;clear jF jR jT jA jM jS jB htk htx hbx;go_upto_region 8 with (fail)
    obtain⟨W1,hW1⟩:∃W1,W1=wr.alloc (blkO x):=⟨_,rfl⟩
    rw[←hW1];have HJ1:Hid (OvJ w pa pn pc (some ⟨b,o,none⟩) bn bc (tsOf bs) TA FA B k k 0 hF hT W1):=by rw[hW1];exact HJ.out.ext (ext_alloc _ _)
    have hx1:W1.heap[wr.heap.size]? =some (blkO x):=by rw[hW1,heap_alloc_new]
    have hs1:W1.heap.size=wr.heap.size+1:=by rw[hW1];simp
    have hB1:Below w.heap.size w W1:=HJ1.out.2.2.2.2.2.2;have d1:W1.cell? ⟨wr.heap.size,1,none⟩=some (.int .i64 x.t.kind):=by rw[cell_of_row _ _ _ _ _ _ hx1];rfl
    have d2:W1.cell? ⟨wr.heap.size,2,none⟩=some (.int .i64 x.t.a):=by rw[cell_of_row _ _ _ _ _ _ hx1];rfl
    have d3:W1.cell? ⟨wr.heap.size,3,none⟩=some (.int .i64 x.t.t0):=by rw[cell_of_row _ _ _ _ _ _ hx1];rfl
    have d4:W1.cell? ⟨wr.heap.size,4,none⟩=some (.int .i64 x.t.t1):=by rw[cell_of_row _ _ _ _ _ _ hx1];rfl
    have HX1:=Lib.hid hx1;clear hW1 hx1 c0 c1 c2 c3 c4;generalize hp:wr.heap.size=p at *;have HS1:=Lib.hid hs1;clear hs1 hp HJ;by_cases htB:termB x.t=true
    ·have HTB:=Lib.hid htB;clear htB
     go_upto_region 10 with (first
      |(go_at_call 88
        refine(isTerm_any x.t _ HTX.out).mono ?_;rintro e w2 ⟨rfl,hb2⟩;rw[HTB.out];have HJ2:=Lib.hid (HJ1.out.ext hb2);have D1:=Lib.hid (cell_ext hb2 d1);have D2:=Lib.hid (cell_ext hb2 d2);have D3:=Lib.hid (cell_ext hb2 d3);have D4:=Lib.hid (cell_ext hb2 d4)
        clear hb2))
     have HC40:Hid (w2.cell? ⟨w.heap.size+1,2,none⟩=some (.slice (some ⟨TA,0,none⟩) bn bn)):=by rw[Hid,cell_of_row _ _ _ _ _ _ HJ2.out.2.1];rfl
     clear d1 d2 d3 d4 HJ1 HX1 hB1 HS1
     go_cut [] (fun wx=>∃hT2,Hid (OvJ w pa pn pc (some ⟨b,o,none⟩) bn bc (tsOf bs) TA FA B (k+1) k 0 hF hT2 wx))
     case first=>
      refine region_free 6 [some 39,some 40,some 41,some 42,some 43,some 44] (by kernel_rfl) (by kernel_rfl) (specB [.val (.pointer (some ⟨w.heap.size+1,2,none⟩)),.val (.slice (some ⟨TA,0,none⟩) bn bn),.val (.int .i64 (k:Int)),.val (.pointer (some ⟨p,1,none⟩)),.val (termV x.t),(.any fun v lo hi w=>OwnI w lo v (toD x.t))]) (specB_mono ?_) ?_ ?_
      ·intro k hk;simp only[List.mem_cons,List.not_mem_nil,or_false] at hk;rcases hk with rfl|rfl|rfl|rfl|rfl|rfl
       ·exact trivial
       ·exact trivial
       ·exact trivial
       ·exact trivial
       ·exact trivial
       ·exact fun v lo hi w w' hb h=>h.ext hb
      ·intro i hi ν lo hi' w1 K hB hD hK;have hcase:i=0∨i=1∨i=2∨i=3∨i=4∨i=5:=by omega
       clear hi;rcases hcase with rfl|rfl|rfl|rfl|rfl|rfl
       ·clear hD;refine wpOp_atK rfl rfl ?_;simp only[zA,zB,zC,zD,zE,zF,zJ,zK,zG,zH,zI] at hK⊢;go_simp;exact hK _ _ (Below.refl _ _) rfl
       ·have e0:=hD 0 (by kernel_rfl)
        replace e0:ν 0=(.pointer (some ⟨w.heap.size+1,2,none⟩)):=e0
        clear hD;refine wpOp_atK rfl rfl ?_;simp only[zA,zB,zC,zD,zE,zF,zJ,zK,zG,zH,zI,e0] at hK⊢;have q0:=cell_ext hB HC40.out;go_simp;exact hK _ _ (Below.refl _ _) rfl
       ·clear hD;refine wpOp_atK rfl rfl ?_;simp only[zA,zB,zC,zD,zE,zF,zJ,zK,zG,zH,zI] at hK⊢;go_simp;exact hK _ _ (Below.refl _ _) rfl
       ·clear hD;refine wpOp_atK rfl rfl ?_;simp only[zA,zB,zC,zD,zE,zF,zJ,zK,zG,zH,zI] at hK⊢;go_simp;exact hK _ _ (Below.refl _ _) rfl
       ·have e3:=hD 3 (by kernel_rfl)
        replace e3:ν 3=(.pointer (some ⟨p,1,none⟩)):=e3
        clear hD;refine wpOp_atK rfl rfl ?_;simp only[zA,zB,zC,zD,zE,zF,zJ,zK,zG,zH,zI,e3] at hK⊢;have q1:=cell_ext hB D1.out;have q2:=cell_ext hB D2.out;have q3:=cell_ext hB D3.out;have q4:=cell_ext hB D4.out;go_simp;exact hK _ _ (Below.refl _ _) rfl
       ·have e4:=hD 4 (by kernel_rfl)
        replace e4:ν 4=(termV x.t):=e4
        clear hD;refine wpOp_atK rfl rfl ?_;simp only[zA,zB,zC,zD,zE,zF,zJ,zK,zG,zH,zI,e4] at hK⊢;go_simp;refine(to_any x.t w1 HTX.out).mono ?_;rintro e w3 ⟨v,rfl,ho,hb3⟩;exact hK _ _ hb3 ho
      ·intro ν lo hi w1 hB hS hI hD;have e0:ν 0=(.pointer (some ⟨w.heap.size+1,2,none⟩)):=hS 0 (by omega);have e1:ν 1=(.slice (some ⟨TA,0,none⟩) bn bn):=hS 1 (by omega);have e2:ν 2=(.int .i64 (k:Int)):=hS 2 (by omega);have e3:ν 3=(.pointer (some ⟨p,1,none⟩)):=hS 3 (by omega);have e4:ν 4=(termV x.t):=hS 4 (by omega);have e5:=hS 5 (by omega);unfold specB at e5;simp only[List.getD_cons_zero,List.getD_cons_succ,specK] at e5;clear hS;simp only[List.drop_succ_cons,List.drop_zero,zA,zB,zC,zD,zE,zF,zJ,zK,zG,zH,zI,e0,e1,e2,e3,e4];obtain⟨av,cv,hv⟩:=e5.form;simp only[hv];have ho5:=e5.mono (hI 5 (by omega)).1;rw[←HTK.out] at ho5;have HJ4:=Lib.hid (HJ2.out.to hB (ν 5) ho5 hlt hTA hne hTB);rw[hv] at HJ4;have hcw:=hdr_cell (block_ext hB HJ2.out.2.2.1) k hlt;have hfw:=hdr_free (block_ext hB HJ2.out.2.2.1) k;have hlw:TA<w1.heap.size:=lt_of_heap (block_ext hB HJ2.out.2.2.1);clear hI hD e0 e1 e2 e3 e4 e5 ho5 hB;generalize hT k=hTk at hcw;clear hv;go_wp2
       go_meet
       exact⟨_,HJ4⟩
     case rest=>
      obtain⟨hT2,HJ3⟩:=hcut;obtain⟨wo,rfl⟩:∃wo:World,wo=wr:=⟨_,rfl⟩
      have hoT:=HJ3.out.2.2.2.2.1.T k (by omega);rw[HTK.out] at hoT;obtain⟨va,vc,hv⟩:=hoT.form;have hcc:=hdr_cell HJ3.out.2.2.1 k hlt;rw[hv] at hcc;have hc2:wc.cell? ⟨w.heap.size+1,2,none⟩=some (.slice (some ⟨TA,0,none⟩) bn bn):=by rw[cell_of_row _ _ _ _ _ _ HJ3.out.2.1];rfl
      have HV:=Lib.hid hv;have hlen:=toD_len x.t;clear hoT hv D1 D2 D3 D4 HC40 HJ2;go_wp2
      go_loopg [52] (toD x.t).length (fun g2 i wr=>∃(j:Nat) (hF2:Nat→Value),i=.int .i64 (j:Int)∧j≤(toD x.t).length∧(toD x.t).length≤g2+j∧Hid (∀q,q<j→1≤(toD x.t).getD q 0∧(toD x.t).getD q 0<bn)∧Hid (OvJ w pa pn pc (some ⟨b,o,none⟩) bn bc (tsOf bs) TA FA B (k+1) k j hF2 hT2 wr))
      case atStart=>exact⟨0,hF,rfl,Nat.zero_le _,Nat.le_refl _,fun q hq=>absurd hq (by omega),HJ3⟩
      case round=>
       obtain⟨j,hF2,rfl,hj,hg2,HG2,HJ⟩:=hrel;clear hcc hc2 HJ3;by_cases hjl:j<(toD x.t).length
       ·have hoT:=HJ.out.2.2.2.2.1.T k (by omega);rw[HTK.out,HV.out] at hoT;obtain⟨b2,o2,e2,hcy,hy1,hy2⟩:=hoT.ints.2.2 j hjl;subst e2;have hjl':(j:Int)<((toD x.t).length:Int):=by omega
        have HG3:Hid (1≤(toD x.t).getD j 0∧(toD x.t).getD j 0<bn→∀q,q<j+1→1≤(toD x.t).getD q 0∧(toD x.t).getD q 0<bn):=fun h q hq=>by
         by_cases e:q=j
         ·subst e;exact h
         ·exact HG2.out q (by omega)
        have HNX:Hid (1≤(toD x.t).getD j 0→(nx (tsOf bs) k)[j]? =some ((toD x.t).getD j 0).toNat):=fun _=>by
         rw[nx,HTK.out,List.getElem?_map,List.getElem?_eq_getElem hjl];simp[List.getD_eq_getElem?_getD,hjl]
        have HNO:Hid ((toD x.t).getD j 0<1∨(bn:Int)≤(toD x.t).getD j 0→fitsB (tsOf bs)=false):=fun h=>by
         refine good_no (k:=k) (by rw[tsOf_len,HLn.out];exact hlt) (.inr ⟨(toD x.t).getD j 0,?_,?_⟩)
         ·rw[HTK.out,List.getD_eq_getElem?_getD,List.getElem?_eq_getElem hjl];exact List.getElem_mem _
         ·rw[tsOf_len,HLn.out];exact h
        clear hoT;generalize (toD x.t).getD j 0=y at *;by_cases hyg:1≤y∧y<bn
        ·obtain⟨hyg1,hyg2⟩:=hyg;have HG4:=Lib.hid (HG3.out ⟨hyg1,hyg2⟩);have HNY:=Lib.hid (HNX.out hyg1);obtain⟨yn,rfl⟩:∃yn:Nat,y=(yn:Int):=⟨y.toNat,by omega⟩
         have hyn:yn<bn:=by omega
         have HNY2:Hid ((nx (tsOf bs) k)[j]? =some yn):=by have:=HNY.out;rw[Hid];simpa using this
         obtain⟨jF,jR,jT,jA,jM,jS,jB⟩:=HJ.out;have hoF:=jM.F yn hyn;obtain⟨fa,fc,hfv⟩:=hoF.form;have hflen:(intsN (pvAt (tsOf bs) k j yn)).length≤1000:=by
          have:=pvAt_len (tsOf bs) k j yn;simp[intsN];omega
         have HFV:=Lib.hid hfv;have HOF:=Lib.hid hoF;have hc0:wr.cell? ⟨w.heap.size+1,3,none⟩=some (.slice (some ⟨FA,0,none⟩) bn bn):=by rw[cell_of_row _ _ _ _ _ _ jR];rfl
         have hc1:=hdr_cell jA yn hyn;rw[hfv] at hc1;have k0:∀q:ClsW (fun q=>Below B wr q),q.val.cell? ⟨w.heap.size+1,3,none⟩=some (.slice (some ⟨FA,0,none⟩) bn bn):=fun q=>(q.prop.cell (p:=⟨w.heap.size+1,3,none⟩) (show w.heap.size+1<B by omega)).trans hc0;have k1:∀q:ClsW (fun q=>Below B wr q),q.val.cell? ⟨FA,yn,none⟩=some (.slice fa (intsN (pvAt (tsOf bs) k j yn)).length fc):=fun q=>(q.prop.cell (p:=⟨FA,yn,none⟩) (show FA<B from hFB)).trans hc1;have HA:=Lib.hid jA;clear jF jR jT jA jM jB hoF hfv hc0 hc1 HG3 HNX HNO HNY;have hyn0:(0:Int)≤(yn:Int):=by omega
         have hyn1:(yn:Int)<(bn:Int):=by omega
         go_upto_region 16 with (fail)
         clear hcy;refine z_start (fun w'=>∃n:ClsW (fun q=>Below B wr q),w'=n.val) (by kernel_rfl) ?_;obtain⟨v0,F0,E0,hv0⟩:∃v0,Below B wr v0∧Below wr.heap.size wr v0∧wr.drew=v0:=⟨_,below_drewN (Below.refl _ _) 1,ext_drewN (Below.refl _ _) 1,rfl⟩
         rw[hv0];clear hv0
         haveI:Nonempty (ClsW (fun q=>Below B wr q)):=cls_ne (Below.refl _ _)
         refine z_reads 0 9 (by kernel_rfl) ⟨⟨_,F0⟩,rfl⟩ ?_;simp only[List.take_succ_cons,List.take_zero,List.drop_succ_cons,List.drop_zero]
         repeat (go_big_quiet_step (fail))
         refine wpQuiet_nil ?_;refine z_one 9 (by kernel_rfl) ?_;refine wpOp_at rfl rfl ?_;go_simp;have F1:Below B wr (v0.alloc (.cells #[.int .i64 (k:Int)] 3)):=F0.alloc (by have:=E0.size;omega) _;refine⟨Or.inr ⟨⟨_,F1⟩,rfl⟩,?_⟩
         try simp only[Act.put,List.setIfInBounds_toArray,List.set_cons_succ,List.set_cons_zero]
         refine z_one 10 (by kernel_rfl) ?_;refine wpOp_at rfl rfl ?_;refine op_append1 v0 (.tmp 71) (.tmp 73) 22 3 rfl B _ 1 8 Tryz.underlying22 infoI rfl (by omega) (.slice fa (intsN (pvAt (tsOf bs) k j yn)).length fc) (intsN (pvAt (tsOf bs) k j yn)).length _ [.int .i64 (k:Int)] rfl (by have:=(HOF.out.ext E0).1;rwa [HFV.out] at this) v0.heap.size rfl rfl rfl (by simp[Value.oneCell']) (by simp only[maxLen];omega) (by omega) (by have:=E0.size;omega) ?_;intro g cap w4 ho4 hg4 ha4;have hJv:=HJ.out.ext E0;rw[←HFV.out] at hg4 ha4;have hlow:∀r,(hF2 yn).ownBlock=some r→B≤r:=fun r e=>(HOF.out.1.lt r e).1;have F2:Below B wr w4:=F0.grown hg4 (by have:=E0.size;omega) hlow;have hA4:w4.heap[FA]? =some (hdrO bn hF2):=grown_row hg4 (block_ext E0 HA.out) (fun e=>by have:=hlow _ e;omega);have hoN:OwnI w4 B (.slice (some ⟨g,0,none⟩) ((intsN (pvAt (tsOf bs) k j yn)).length+1) cap) (intsN (pvAt (tsOf bs) k j yn)++ [(k:Int)]):=by
          refine⟨?_,?_,by simp;omega⟩
          ·have e3:(intsN (pvAt (tsOf bs) k j yn)++ [(k:Int)]).length=(intsN (pvAt (tsOf bs) k j yn)).length+1:=by simp
           have e4:intVals (intsN (pvAt (tsOf bs) k j yn)++ [(k:Int)])=intVals (intsN (pvAt (tsOf bs) k j yn))++ [.int .i64 (k:Int)]:=by simp[intVals]
           rw[e3,e4];exact ho4
          ·intro z hz;rcases List.mem_append.1 hz with h|h
           ·exact HOF.out.2.1 z h
           ·simp only[List.mem_singleton] at h;subst h;unfold I64;omega
         have HJ5:=Lib.hid (hJv.from yn hyn HNY2.out hg4 _ hoN (by
          rcases ha4 with e|e
          ·exact .inl (by simpa[Value.ownBlock] using e)
          ·exact .inr ⟨g,by simp[Value.ownBlock],by omega⟩) hFA hTA hne hTB hFB)
         have hc4:=hdr_cell hA4 yn hyn;have hf4:=hdr_free hA4 yn;have hl4:=lt_of_heap hA4;refine⟨Or.inr ⟨⟨_,F2⟩,rfl⟩,?_⟩
         try simp only[Act.put,List.setIfInBounds_toArray,List.set_cons_succ,List.set_cons_zero]
         refine z_reads 11 1 (by kernel_rfl) ⟨⟨_,F2⟩,rfl⟩ ?_;simp only[List.take_succ_cons,List.take_zero,List.drop_succ_cons,List.drop_zero]
         repeat (go_big_quiet_step (fail))
         refine wpQuiet_nil ?_;refine z_one 12 (by kernel_rfl) ?_;refine wpOp_at rfl rfl ?_;clear hJv ho4 hg4 ha4 hlow F2 hA4 hoN F0 E0 F1 k0 k1;generalize hF2 yn=hFy at *;go_simp;refine⟨Or.inl (by kernel_rfl),?_⟩
         try simp only[Act.put,List.setIfInBounds_toArray,List.set_cons_succ,List.set_cons_zero]
         refine z_done (by kernel_rfl) ?_;clear HA HOF HFV HJ;go_wp2
         go_roundg ((toD x.t).length-(j+1))
         case measure=>omega
         case rel=>exact⟨j+1,_,by go_num,by omega,by omega,HG4,HJ5⟩
        ·have HE:Hid (fitsB (tsOf bs)=false):=HNO.out (by omega);have HR2:=Lib.hid HJ.out.2.1;have HB2:=Lib.hid HJ.out.2.2.2.2.2.2;by_cases hy0:y<1
         all_goals
          go_wp2_with (first
           |(refine wpList_load_row (o:=⟨some _,.load 133 _,_,_,_,_⟩) rfl 133 _ rfl (w.heap.size+1) rfl 133 _ (0,0) _ HR2.out Tryz.underlying133 rfl size_walk ?_)
           |(refine wpList_store_row (o:=⟨none,.store 133 _ _,_,_,_,_⟩) rfl 133 _ _ rfl (w.heap.size+1) #[.slice pa pn pc,.slice (some ⟨b,o,none⟩) bn bc,.slice (some ⟨TA,0,none⟩) bn bn,.slice (some ⟨FA,0,none⟩) bn bn] rfl rfl 133 _ HR2.out size_walk rfl (by simp[Value.oneCell']) ?_))
          refine bodyPost_ret (v:=.tuple #[.agg #[.slice pa pn pc,.slice (some ⟨b,o,none⟩) bn bc,.slice (some ⟨TA,0,none⟩) bn bn,.slice (some ⟨FA,0,none⟩) bn bn],.bool false]) ?_ rfl ⟨_,by rw[HE.out],rfl,by simp[Value.oneCell'],below_setRow HB2.out (by omega) _,fun h=>by rw[HE.out] at h;cases h⟩;have hl:=run_loadVar_row (P:=Tryz.prog) _ (w.heap.size+1) 133 133 _ (0,0) _ (setRow_heap _ _ _ #[.slice pa pn pc,.slice (some ⟨b,o,none⟩) bn bc,.slice (some ⟨TA,0,none⟩) bn bn,.slice (some ⟨FA,0,none⟩) bn bn] _ _ HR2.out) Tryz.underlying133 rfl size_walk;simp[results,Tryz.results55,asAddr,Act.put,hl]
       ·obtain rfl:j=(toD x.t).length:=by omega
        have HJ4:Hid (OvJ w pa pn pc (some ⟨b,o,none⟩) bn bc (tsOf bs) TA FA B (k+1) (k+1) 0 hF2 hT2 wr):=by
         have e:(fun y=>intsN (pvAt (tsOf bs) k (toD x.t).length y))=fun y=>intsN (pvAt (tsOf bs) (k+1) 0 y):=by
          funext y
          rw[pvAt_next];rw[nx,HTK.out,List.length_map];exact Nat.le_refl _
         have:=HJ.out;unfold OvJ at this;rw[e] at this;exact this
        have HG4:Hid (∀q,q<k+1→termB ((tsOf bs).getD q zTerm)=true∧∀x∈toD ((tsOf bs).getD q zTerm),1≤x∧x<bn):=fun q hq=>by
         by_cases e:q=k
         ·subst e;rw[HTK.out];refine⟨HTB.out,fun z hz=>?_⟩;obtain⟨r,hr,e⟩:=List.mem_iff_getElem.1 hz;have:=HG2.out r hr;simpa[List.getD_eq_getElem?_getD,hr,e] using this
         ·exact HG.out q (by omega)
        go_wp2
        go_roundg (bn-(k+1))
        case measure=>omega
        case rel=>exact⟨k+1,hF2,hT2,by go_num,by omega,by omega,HG4,HJ4⟩
    ·have htB':termB x.t=false:=by simpa using htB
     have HE:Hid (fitsB (tsOf bs)=false):=good_no (k:=k) (by rw[tsOf_len,HLn.out];exact hlt) (.inl (by rw[HTK.out];exact htB'));have HTB:=Lib.hid htB';clear htB htB';have HR1:=Lib.hid HJ1.out.2.1
     go_wp2_with (first
      |(go_at_call 88
        refine(isTerm_any x.t _ HTX.out).mono ?_;rintro e w2 ⟨rfl,hb2⟩;rw[HTB.out];have HB2:=Lib.hid hb2;have HR2:=Lib.hid (block_ext hb2 HR1.out);have HB2:=Lib.hid (ext_trans hB1 hb2)
        clear hb2)
      |(refine wpList_load_row (o:=⟨some _,.load 133 _,_,_,_,_⟩) rfl 133 _ rfl (w.heap.size+1) rfl 133 _ (0,0) _ HR2.out Tryz.underlying133 rfl size_walk ?_)
      |(refine wpList_store_row (o:=⟨none,.store 133 _ _,_,_,_,_⟩) rfl 133 _ _ rfl (w.heap.size+1) #[.slice pa pn pc,.slice (some ⟨b,o,none⟩) bn bc,.slice (some ⟨TA,0,none⟩) bn bn,.slice (some ⟨FA,0,none⟩) bn bn] rfl rfl 133 _ HR2.out size_walk rfl (by simp[Value.oneCell']) ?_))
     refine bodyPost_ret (v:=.tuple #[.agg #[.slice pa pn pc,.slice (some ⟨b,o,none⟩) bn bc,.slice (some ⟨TA,0,none⟩) bn bn,.slice (some ⟨FA,0,none⟩) bn bn],.bool false]) ?_ rfl ⟨_,by rw[HE.out],rfl,by simp[Value.oneCell'],below_setRow HB2.out (by omega) _,fun h=>by rw[HE.out] at h;cases h⟩;have hl:=run_loadVar_row (P:=Tryz.prog) _ (w.heap.size+1) 133 133 _ (0,0) _ (setRow_heap _ _ _ #[.slice pa pn pc,.slice (some ⟨b,o,none⟩) bn bc,.slice (some ⟨TA,0,none⟩) bn bn,.slice (some ⟨FA,0,none⟩) bn bn] _ _ HR2.out) Tryz.underlying133 rfl size_walk;simp[results,Tryz.results55,asAddr,Act.put,hl]
   ·obtain rfl:k=bn:=by omega
    have hl2:(tsOf bs).length=k:=by rw[tsOf_len,HLn.out]
    have HWK:=Lib.hid (HJ.out.walk hb2 HG.out hl2);have HGD:Hid (goodB (tsOf bs)=true):=by
     rw[Hid,goodB_iff,hl2];refine⟨⟨hb1,hb2⟩,fun t ht=>?_⟩;obtain⟨q,hq,e⟩:=List.mem_iff_getElem.1 ht;have:=HG.out q (by omega);rw[List.getD_eq_getElem?_getD,List.getElem?_eq_getElem hq,Option.getD_some,e] at this;exact this
    have HE:Hid (eqS (zS (walkF (nx (tsOf bs)) (wholeS k) 0)) (wholeS k)=fitsB (tsOf bs)):=by
     rw[Hid,fitsB,HGD.out,Bool.true_and,hl2,Bool.eq_iff_iff];simp only[zS,eqS,List.all_eq_true,List.mem_range,beq_iff_eq,Bool.or_eq_true];constructor
     ·intro h q hq;have:=h q (by omega);by_cases e:q=0
      ·exact .inl e
      ·rw[if_neg e] at this;exact .inr (by rw[this];simpa[wholeS] using hq)
     ·intro h q hq;by_cases e:q=0
      ·subst e;simp[wholeS];omega
      ·rw[if_neg e];by_cases hq2:q<k
       ·rw[(h q hq2).resolve_left e];simp[wholeS,hq2]
       ·have h1:wholeS k q=false:=by simp[wholeS];omega
        rw[h1];cases e2:walkF (nx (tsOf bs)) (wholeS k) 0 q with
        |false=>rfl
        |true=>
         have:=((walkF_iff (whole_canon hb2) 0 q).1 e2).2.inn;rw[h1] at this;cases this
    have HC2:Hid (wr.cell? ⟨w.heap.size+1,2,none⟩=some (.slice (some ⟨TA,0,none⟩) k k)):=by rw[Hid,cell_of_row _ _ _ _ _ _ HJ.out.2.1];rfl
    have hszw:w.heap.size+1<wr.heap.size:=lt_of_heap HJ.out.2.1;clear hl2;go_upto_region 19 with (fail)
    go_cut [9] (fun s9 wx=>∃p9:Nat,s9=.pointer (some ⟨p9,0,none⟩)∧wr.heap.size≤p9∧Hid (wx.heap[p9]? =some (setO (walkF (nx (tsOf bs)) (wholeS k) 0)))∧Hid (wx.heap[w.heap.size+1]? =some (walkO ⟨pa,pn,pc,ba,k,bc,some ⟨TA,0,none⟩,k,some ⟨FA,0,none⟩,k⟩))∧Hid (Below wr.heap.size wr wx))
    case first=>
     refine region_free 7 [some 78,some 79,some 80,some 81,some 82,some 83,some 9] (by kernel_rfl) (by kernel_rfl) (specB [.val (walkV ⟨pa,pn,pc,ba,k,bc,some ⟨TA,0,none⟩,k,some ⟨FA,0,none⟩,k⟩),.val (walkV ⟨pa,pn,pc,ba,k,bc,some ⟨TA,0,none⟩,k,some ⟨FA,0,none⟩,k⟩),.val (.agg (setA (wholeS k))),.val (.pointer (some ⟨w.heap.size+1,2,none⟩)),.val (.slice (some ⟨TA,0,none⟩) k k),.val (.agg (setA (walkF (nx (tsOf bs)) (wholeS k) 0))),.new (setO fun _=>false)]) (specB_mono ?_) ?_ ?_
     ·intro k hk;simp only[List.mem_cons,List.not_mem_nil,or_false] at hk;rcases hk with rfl|rfl|rfl|rfl|rfl|rfl|rfl
      ·exact trivial
      ·exact trivial
      ·exact trivial
      ·exact trivial
      ·exact trivial
      ·exact trivial
      ·exact trivial
     ·intro i hi ν lo hi' w1 K hB hD hK;have hcase:i=0∨i=1∨i=2∨i=3∨i=4∨i=5∨i=6:=by omega
      clear hi;rcases hcase with rfl|rfl|rfl|rfl|rfl|rfl|rfl
      ·clear hD;refine wpOp_atK rfl rfl ?_;simp only[zA,zB,zC,zD,zE,zF,zJ,zK,zG,zH,zI] at hK⊢;refine wp_load_row 133 _ rfl (w.heap.size+1) rfl 133 _ (0,0) _ (block_ext hB HJ.out.2.1) Tryz.underlying133 rfl size_walk ?_;exact hK _ _ (Below.refl _ _) rfl
      ·clear hD;refine wpOp_atK rfl rfl ?_;simp only[zA,zB,zC,zD,zE,zF,zJ,zK,zG,zH,zI] at hK⊢;refine wp_load_row 133 _ rfl (w.heap.size+1) rfl 133 _ (0,0) _ (block_ext hB HJ.out.2.1) Tryz.underlying133 rfl size_walk ?_;exact hK _ _ (Below.refl _ _) rfl
      ·have e1:=hD 1 (by kernel_rfl)
       replace e1:ν 1=(walkV ⟨pa,pn,pc,ba,k,bc,some ⟨TA,0,none⟩,k,some ⟨FA,0,none⟩,k⟩):=e1
       clear hD;refine wpOp_atK rfl rfl ?_;simp only[zA,zB,zC,zD,zE,zF,zJ,zK,zG,zH,zI,e1] at hK⊢;go_simp;refine(whole_any ⟨pa,pn,pc,ba,k,bc,some ⟨TA,0,none⟩,k,some ⟨FA,0,none⟩,k⟩ hb2 w1).mono ?_;rintro e w3 ⟨rfl,hb3⟩;exact hK _ _ hb3 rfl
      ·clear hD;refine wpOp_atK rfl rfl ?_;simp only[zA,zB,zC,zD,zE,zF,zJ,zK,zG,zH,zI] at hK⊢;go_simp;exact hK _ _ (Below.refl _ _) rfl
      ·have e3:=hD 3 (by kernel_rfl)
       replace e3:ν 3=(.pointer (some ⟨w.heap.size+1,2,none⟩)):=e3
       clear hD;refine wpOp_atK rfl rfl ?_;simp only[zA,zB,zC,zD,zE,zF,zJ,zK,zG,zH,zI,e3] at hK⊢;have q0:=cell_ext hB HC2.out;go_simp;exact hK _ _ (Below.refl _ _) rfl
      ·have e0:=hD 0 (by kernel_rfl)
       replace e0:ν 0=(walkV ⟨pa,pn,pc,ba,k,bc,some ⟨TA,0,none⟩,k,some ⟨FA,0,none⟩,k⟩):=e0
       have e2:=hD 2 (by kernel_rfl)
       replace e2:ν 2=(.agg (setA (wholeS k))):=e2
       have e4:=hD 4 (by kernel_rfl)
       replace e4:ν 4=(.slice (some ⟨TA,0,none⟩) k k):=e4
       clear hD;refine wpOp_atK rfl rfl ?_;simp only[zA,zB,zC,zD,zE,zF,zJ,zK,zG,zH,zI,e0,e2,e4] at hK⊢;go_simp;refine(walk_any ⟨pa,pn,pc,ba,k,bc,some ⟨TA,0,none⟩,k,some ⟨FA,0,none⟩,k⟩ 0 (wholeS k) (some ⟨TA,0,none⟩) k k (toRows (tsOf bs)) (nx (tsOf bs)) w1 (by omega) hb2 (fun y hy=>by simpa[wholeS] using hy) (fun k hk=>by simp[toRows,tsOf_len,HLn.out,hk]) (WalkOK.nx_lt (w:=w) (d:=⟨pa,pn,pc,ba,k,bc,some ⟨TA,0,none⟩,k,some ⟨FA,0,none⟩,k⟩) HGD.out).1 (HWK.out.2.2.1.ext hB)).mono ?_;rintro e w3 ⟨rfl,hb3⟩;exact hK _ _ hb3 rfl
      ·clear hD;refine wpOp_atK rfl rfl ?_;simp only[zA,zB,zC,zD,zE,zF,zJ,zK,zG,zH,zI] at hK⊢;go_simp;refine hK _ _ (ext_alloc _ _) ⟨rfl,by simp,?_⟩;rw[heap_alloc_new,zero_set]
     ·intro ν lo hi w1 hB hS hI hD;have e0:ν 0=(walkV ⟨pa,pn,pc,ba,k,bc,some ⟨TA,0,none⟩,k,some ⟨FA,0,none⟩,k⟩):=hS 0 (by omega);have e1:ν 1=(walkV ⟨pa,pn,pc,ba,k,bc,some ⟨TA,0,none⟩,k,some ⟨FA,0,none⟩,k⟩):=hS 1 (by omega);have e2:ν 2=(.agg (setA (wholeS k))):=hS 2 (by omega);have e3:ν 3=(.pointer (some ⟨w.heap.size+1,2,none⟩)):=hS 3 (by omega);have e4:ν 4=(.slice (some ⟨TA,0,none⟩) k k):=hS 4 (by omega);have e5:ν 5=(.agg (setA (walkF (nx (tsOf bs)) (wholeS k) 0))):=hS 5 (by omega);obtain⟨e6,l6,h6⟩:=hS 6 (by omega);clear hS;simp only[List.drop_succ_cons,List.drop_zero,zA,zB,zC,zD,zE,zF,zJ,zK,zG,zH,zI,e0,e1,e2,e3,e4,e5,e6];have i6:=hI 6 (by omega);generalize lo 6=p9 at *;have H6:=Lib.hid h6;have hp9:=i6.1;have HBx:=Lib.hid (below_setRow (g:=p9) hB hp9 (setA (walkF (nx (tsOf bs)) (wholeS k) 0)));clear hI hD hB e0 e1 e2 e3 e4 e5 e6 l6 h6 i6
      go_wp2_with (refine wpList_store_row (o:=⟨none,.store 141 _ _,_,_,_,_⟩) rfl 141 _ _ rfl p9 (setA (walkF (nx (tsOf bs)) (wholeS k) 0)) rfl rfl 141 _ H6.out (by rw[setA_size];exact size_set) rfl (setA_all _) ?_)
      go_meet
      exact⟨p9,rfl,hp9,setRow_heap _ _ _ _ _ _ H6.out,block_ext HBx.out HJ.out.2.1,HBx.out⟩
    case rest=>
     obtain⟨p9,rfl,hp9,HS0,HR0,HB0⟩:=hcut;have hc9:=set_cell HS0.out 0 (by omega);have hf9:=set_free HS0.out 0;have hl9:=lt_of_heap HS0.out;have HS:Hid ((wc.setCell ⟨p9,0,none⟩ (.bool true)).heap[p9]? =some (setO (zS (walkF (nx (tsOf bs)) (wholeS k) 0)))):=set_put HS0.out 0 (by omega) true;have hg9:=grown_setCell wc p9 0 (.bool true);have HR:=Lib.hid (grown_row hg9 HR0.out (by simp;omega));have HBs:=HB0.out.setCell (p:=⟨p9,0,none⟩) hp9 (.bool true);have HWK2:=Lib.hid (HWK.out.ext HBs);have HB:=Lib.hid (ext_trans HJ.out.2.2.2.2.2.2 HBs);clear HC2 hg9 HBs HS0 HR0 HB0;generalize walkF (nx (tsOf bs)) (wholeS k) 0 0=b9 at hc9;go_upto_region 21 with (fail)
     obtain⟨W2,hW2⟩:∃W2,W2=wc.setCell ⟨p9,0,none⟩ (.bool true):=⟨_,rfl⟩
     rw[←hW2] at HS HR HWK2 HB⊢;clear hc9 hf9 hl9 hW2;refine region_free 6 [some 85,some 86,some 87,some 88,some 89,none] (by kernel_rfl) (by kernel_rfl) (specB [.val (walkV ⟨pa,pn,pc,ba,k,bc,some ⟨TA,0,none⟩,k,some ⟨FA,0,none⟩,k⟩),.val (.agg (setA (zS (walkF (nx (tsOf bs)) (wholeS k) 0)))),.val (walkV ⟨pa,pn,pc,ba,k,bc,some ⟨TA,0,none⟩,k,some ⟨FA,0,none⟩,k⟩),.val (.agg (setA (wholeS k))),.val (.bool (eqS (zS (walkF (nx (tsOf bs)) (wholeS k) 0)) (wholeS k))),(.any fun _ _ _ _=>True)]) (specB_mono ?_) ?_ ?_
     ·intro k hk;simp only[List.mem_cons,List.not_mem_nil,or_false] at hk;rcases hk with rfl|rfl|rfl|rfl|rfl|rfl
      ·exact trivial
      ·exact trivial
      ·exact trivial
      ·exact trivial
      ·exact trivial
      ·exact fun _ _ _ _ _ _ h=>h
     ·intro i hi ν lo hi' w1 K hB hD hK;have hcase:i=0∨i=1∨i=2∨i=3∨i=4∨i=5:=by omega
      clear hi;rcases hcase with rfl|rfl|rfl|rfl|rfl|rfl
      ·clear hD;refine wpOp_atK rfl rfl ?_;simp only[zA,zB,zC,zD,zE,zF,zJ,zK,zG,zH,zI] at hK⊢;refine wp_load_row 133 _ rfl (w.heap.size+1) rfl 133 _ (0,0) _ (block_ext hB HR.out) Tryz.underlying133 rfl size_walk ?_;exact hK _ _ (Below.refl _ _) rfl
      ·clear hD;refine wpOp_atK rfl rfl ?_;simp only[zA,zB,zC,zD,zE,zF,zJ,zK,zG,zH,zI] at hK⊢;refine wp_load_row 141 _ rfl p9 rfl 141 _ (0,0) _ (block_ext hB HS.out) Tryz.underlying141 rfl (by rw[setA_size];exact size_set) ?_;exact hK _ _ (Below.refl _ _) rfl
      ·clear hD;refine wpOp_atK rfl rfl ?_;simp only[zA,zB,zC,zD,zE,zF,zJ,zK,zG,zH,zI] at hK⊢;refine wp_load_row 133 _ rfl (w.heap.size+1) rfl 133 _ (0,0) _ (block_ext hB HR.out) Tryz.underlying133 rfl size_walk ?_;exact hK _ _ (Below.refl _ _) rfl
      ·have e2:=hD 2 (by kernel_rfl)
       replace e2:ν 2=(walkV ⟨pa,pn,pc,ba,k,bc,some ⟨TA,0,none⟩,k,some ⟨FA,0,none⟩,k⟩):=e2
       clear hD;refine wpOp_atK rfl rfl ?_;simp only[zA,zB,zC,zD,zE,zF,zJ,zK,zG,zH,zI,e2] at hK⊢;go_simp;refine(whole_any ⟨pa,pn,pc,ba,k,bc,some ⟨TA,0,none⟩,k,some ⟨FA,0,none⟩,k⟩ hb2 w1).mono ?_;rintro e w3 ⟨rfl,hb3⟩;exact hK _ _ hb3 rfl
      ·have e1:=hD 1 (by kernel_rfl)
       replace e1:ν 1=(.agg (setA (zS (walkF (nx (tsOf bs)) (wholeS k) 0)))):=e1
       have e3:=hD 3 (by kernel_rfl)
       replace e3:ν 3=(.agg (setA (wholeS k))):=e3
       clear hD;refine wpOp_atK rfl rfl ?_;simp only[zA,zB,zC,zD,zE,zF,zJ,zK,zG,zH,zI,e1,e3] at hK⊢;have heq:=equal_set w1 (zS (walkF (nx (tsOf bs)) (wholeS k) 0)) (wholeS k);go_simp;exact hK _ _ (Below.refl _ _) rfl
      ·have e0:=hD 0 (by kernel_rfl)
       replace e0:ν 0=(walkV ⟨pa,pn,pc,ba,k,bc,some ⟨TA,0,none⟩,k,some ⟨FA,0,none⟩,k⟩):=e0
       have e2:=hD 2 (by kernel_rfl)
       replace e2:ν 2=(walkV ⟨pa,pn,pc,ba,k,bc,some ⟨TA,0,none⟩,k,some ⟨FA,0,none⟩,k⟩):=e2
       have e3:=hD 3 (by kernel_rfl)
       replace e3:ν 3=(.agg (setA (wholeS k))):=e3
       clear hD;refine wpOp_atK rfl rfl ?_;simp only[zA,zB,zC,zD,zE,zF,zJ,zK,zG,zH,zI,e0,e2,e3] at hK⊢;have hr1:=block_ext hB HR.out;refine wp_store_row 133 _ _ rfl (w.heap.size+1) _ rfl rfl 133 _ hr1 size_walk rfl (by simp[Value.oneCell']) ?_;rw[setRow_self _ _ _ _ _ hr1];exact hK undef _ (Below.refl _ _) trivial
     ·intro ν lo hi w1 hB hS hI hD;have e0:ν 0=(walkV ⟨pa,pn,pc,ba,k,bc,some ⟨TA,0,none⟩,k,some ⟨FA,0,none⟩,k⟩):=hS 0 (by omega);have e1:ν 1=(.agg (setA (zS (walkF (nx (tsOf bs)) (wholeS k) 0)))):=hS 1 (by omega);have e2:ν 2=(walkV ⟨pa,pn,pc,ba,k,bc,some ⟨TA,0,none⟩,k,some ⟨FA,0,none⟩,k⟩):=hS 2 (by omega);have e3:ν 3=(.agg (setA (wholeS k))):=hS 3 (by omega);have e4:ν 4=(.bool (eqS (zS (walkF (nx (tsOf bs)) (wholeS k) 0)) (wholeS k))):=hS 4 (by omega);have e5:=hS 5 (by omega);unfold specB at e5;simp only[List.getD_cons_zero,List.getD_cons_succ,specK] at e5;clear hS;simp only[List.drop_succ_cons,List.drop_zero,zA,zB,zC,zD,zE,zF,zJ,zK,zG,zH,zI,e0,e1,e2,e3,e4];have hB9:=ext_trans HB.out hB;have hR9:=block_ext hB HR.out;have hW9:=HWK2.out.ext hB;clear hI hD hB e0 e1 e2 e3 e4 e5;go_wp2;refine bodyPost_ret (v:=.tuple #[walkV ⟨pa,pn,pc,ba,k,bc,some ⟨TA,0,none⟩,k,some ⟨FA,0,none⟩,k⟩,.bool (eqS (zS (walkF (nx (tsOf bs)) (wholeS k) 0)) (wholeS k))]) ?_ rfl ⟨_,by rw[HE.out],rfl,by simp[Value.oneCell'],hB9,fun _=>⟨_,_,_,_,rfl,hW9⟩⟩;have hl:=run_loadVar_row (P:=Tryz.prog) _ (w.heap.size+1) 133 133 _ (0,0) _ hR9 Tryz.underlying133 rfl size_walk;simp[results,Tryz.results55,asAddr,Act.put,hl]
end

section
open Go.RowKit
theorem indexIns_any(F:Nat)(caps:Array Value)(eF:∀args w,(callFunc F args).run Tryz.prog w=.ok (.enter F args) w)(p:InsR→Bool)(a:Option Addr)(n c:Nat)(rs:List InsR)(w:World)
  (hp:∀(r:InsR) (W:World),r∈rs→Below w.heap.size w W→Calls Tryz.prog F (#[insVR r]++caps) W fun e W'=>e=.returned (.bool (p r))∧Below W.heap.size W W') (h:InsS w a n rs):
  Calls Tryz.prog 148 #[.slice a n c,.func (.func F) #[] caps] w fun e w'=>e=.returned (.int .i64 (idxF p rs))∧Below w.heap.size w w':=by
 have HL:=Lib.hid h.1.1
 have hn:=h.1.2.1
 have H:=Lib.hid h
 have HP:=Lib.hid hp
 clear h hp
 go_enter Tryz.func148,Tryz.ntmps148
 go_wp2
 go_loopw [5,8] (fun _ i wr=>∃(k:Nat),k≤n∧i=.int .i64 k∧Hid (∀j y,j<k→rs[j]? =some y→p y=false)∧Hid (Below w.heap.size w wr)) (fun _ i _=>n-(intOf i).toNat)
 case atStart=>exact⟨0,by omega,rfl,fun j y hj=>absurd hj (by omega),Below.refl _ _⟩
 case round=>
  obtain⟨k,hk,rfl,HR,HB⟩:=hrel;by_cases hlt:k<n
  ·obtain⟨r,b,o,hr,hok,rfl,c0,c1,c2,c3,c4,c5,c6,c7⟩:=(H.out.ext HB.out).cells hlt;have HG:=Lib.hid hr;have HM:=Lib.hid (List.mem_of_getElem? hr);clear hr hok;by_cases hy:p r=true
   ·have HE:Hid (idxF p rs=k):=idxF_found p rs k r HG.out hy HR.out;go_wp2;refine(HP.out r wr HM.out HB.out).mono ?_;rintro e w' ⟨rfl,hb'⟩;have HB':=Lib.hid (ext_trans HB.out hb');clear hb';rw[hy];go_wp2
    go_ret
    exact⟨by rw[HE.out];rfl,HB'.out⟩
   ·have hy':p r=false:=by simpa using hy
    have HE:Hid (∀j z,j<k+1→rs[j]? =some z→p z=false):=fun j z hj hz=>by
     by_cases e:j=k
     ·subst e;rw[HG.out] at hz;injection hz with hz;subst hz;exact hy'
     ·exact HR.out j z (by omega) hz
    go_wp2;refine(HP.out r wr HM.out HB.out).mono ?_;rintro e w' ⟨rfl,hb'⟩;have HB':=Lib.hid (ext_trans HB.out hb');clear hb';rw[hy'];go_wp2
    go_roundw
    case rel=>exact⟨k+1,by omega,by go_num,HE,HB'⟩
    case measure=>simp[intOf];omega
  ·obtain rfl:k=n:=by omega
   have HE:Hid (idxF p rs= -1):=idxF_none p rs (fun z hz=>by
    obtain⟨j,hj,e⟩:=List.mem_iff_getElem.1 hz
    exact HR.out j z (by rw[HL.out] at hj;exact hj) (by rw[List.getElem?_eq_getElem hj,e]))
   go_wp2
   go_ret
   exact⟨by rw[HE.out];rfl,HB.out⟩
theorem containsIns_any(F:Nat)(caps:Array Value)(eF:∀args w,(callFunc F args).run Tryz.prog w=.ok (.enter F args) w)(p:InsR→Bool)(a:Option Addr)(n c:Nat)(rs:List InsR)(w:World)
  (hp:∀(r:InsR) (W:World),r∈rs→Below w.heap.size w W→Calls Tryz.prog F (#[insVR r]++caps) W fun e W'=>e=.returned (.bool (p r))∧Below W.heap.size W W') (h:InsS w a n rs):
  Calls Tryz.prog 111 #[.slice a n c,.func (.func F) #[] caps] w fun e w'=>e=.returned (.bool (rs.any p))∧Below w.heap.size w w':=by
 have HA:=Lib.hid (idxF_any p rs)
 have hg:=idxF_ge p rs
 have HP:=Lib.hid hp
 have H:=Lib.hid h
 clear hp h
 go_enter Tryz.func111,Tryz.ntmps111
 go_wp2_with (go_at_call 148;refine(indexIns_any F caps eF p a n c rs w HP.out H.out).mono ?_;rintro e w' ⟨rfl,hb'⟩;have HB':=Lib.hid hb';clear hb')
 go_ret
 exact⟨by rw[←HA.out];rfl,HB'.out⟩
theorem indexBlk_any(F:Nat)(caps:Array Value)(eF:∀args w,(callFunc F args).run Tryz.prog w=.ok (.enter F args) w)(p:BlkH→Bool)(a:Option Addr)(n c:Nat)(rs:List BlkH)(w:World)
  (hp:∀(r:BlkH) (W:World),r∈rs→Below w.heap.size w W→Calls Tryz.prog F (#[blkV r]++caps) W fun e W'=>e=.returned (.bool (p r))∧Below W.heap.size W W') (h:BlksOK w a n rs):
  Calls Tryz.prog 147 #[.slice a n c,.func (.func F) #[] caps] w fun e w'=>e=.returned (.int .i64 (idxF p rs))∧Below w.heap.size w w':=by
 have HL:=Lib.hid h.1.1
 have hn:=h.1.2.1
 have H:=Lib.hid h
 have HP:=Lib.hid hp
 clear h hp
 go_enter Tryz.func147,Tryz.ntmps147
 go_wp2
 go_loopw [5,8] (fun _ i wr=>∃(k:Nat),k≤n∧i=.int .i64 k∧Hid (∀j y,j<k→rs[j]? =some y→p y=false)∧Hid (Below w.heap.size w wr)) (fun _ i _=>n-(intOf i).toNat)
 case atStart=>exact⟨0,by omega,rfl,fun j y hj=>absurd hj (by omega),Below.refl _ _⟩
 case round=>
  obtain⟨k,hk,rfl,HR,HB⟩:=hrel;by_cases hlt:k<n
  ·obtain⟨r,b,o,hr,hok,rfl,c0,c1,c2,c3,c4⟩:=(H.out.ext HB.out).cells hlt;have HG:=Lib.hid hr;have HM:=Lib.hid (List.mem_of_getElem? hr);clear hr hok;by_cases hy:p r=true
   ·have HE:Hid (idxF p rs=k):=idxF_found p rs k r HG.out hy HR.out;go_wp2;refine(HP.out r wr HM.out HB.out).mono ?_;rintro e w' ⟨rfl,hb'⟩;have HB':=Lib.hid (ext_trans HB.out hb');clear hb';rw[hy];go_wp2
    go_ret
    exact⟨by rw[HE.out];rfl,HB'.out⟩
   ·have hy':p r=false:=by simpa using hy
    have HE:Hid (∀j z,j<k+1→rs[j]? =some z→p z=false):=fun j z hj hz=>by
     by_cases e:j=k
     ·subst e;rw[HG.out] at hz;injection hz with hz;subst hz;exact hy'
     ·exact HR.out j z (by omega) hz
    go_wp2;refine(HP.out r wr HM.out HB.out).mono ?_;rintro e w' ⟨rfl,hb'⟩;have HB':=Lib.hid (ext_trans HB.out hb');clear hb';rw[hy'];go_wp2
    go_roundw
    case rel=>exact⟨k+1,by omega,by go_num,HE,HB'⟩
    case measure=>simp[intOf];omega
  ·obtain rfl:k=n:=by omega
   have HE:Hid (idxF p rs= -1):=idxF_none p rs (fun z hz=>by
    obtain⟨j,hj,e⟩:=List.mem_iff_getElem.1 hz
    exact HR.out j z (by rw[HL.out] at hj;exact hj) (by rw[List.getElem?_eq_getElem hj,e]))
   go_wp2
   go_ret
   exact⟨by rw[HE.out];rfl,HB.out⟩
theorem containsBlk_any(F:Nat)(caps:Array Value)(eF:∀args w,(callFunc F args).run Tryz.prog w=.ok (.enter F args) w)(p:BlkH→Bool)(a:Option Addr)(n c:Nat)(rs:List BlkH)(w:World)
  (hp:∀(r:BlkH) (W:World),r∈rs→Below w.heap.size w W→Calls Tryz.prog F (#[blkV r]++caps) W fun e W'=>e=.returned (.bool (p r))∧Below W.heap.size W W') (h:BlksOK w a n rs):
  Calls Tryz.prog 108 #[.slice a n c,.func (.func F) #[] caps] w fun e w'=>e=.returned (.bool (rs.any p))∧Below w.heap.size w w':=by
 have HA:=Lib.hid (idxF_any p rs)
 have hg:=idxF_ge p rs
 have HP:=Lib.hid hp
 have H:=Lib.hid h
 clear hp h
 go_enter Tryz.func108,Tryz.ntmps108
 go_wp2_with (go_at_call 147;refine(indexBlk_any F caps eF p a n c rs w HP.out H.out).mono ?_;rintro e w' ⟨rfl,hb'⟩;have HB':=Lib.hid hb';clear hb')
 go_ret
 exact⟨by rw[←HA.out];rfl,HB'.out⟩
theorem long1_any(b:BlkH)(w:World):Calls Tryz.prog 109 (#[blkV b]++ #[]) w fun e w'=>e=.returned (.bool (decide (64<b.n)))∧Below w.heap.size w w':=by
 show Calls Tryz.prog 109 #[blkV b] w _
 have HE:Hid (decide (64<b.n)=decide ((64:Int)<(b.n:Int))):=by rw[Hid,decide_eq_decide];omega
 go_enter Tryz.func109,Tryz.ntmps109
 go_wp2
 go_ret
 exact⟨by rw[HE.out];rfl,ext_alloc _ _⟩
theorem call_long1(args:Array Value)(w:World):(callFunc 109 args).run Tryz.prog w=.ok (.enter 109 args) w:=enters_of Tryz.func109 (by kernel_rfl) rfl args w
theorem whole1_any(r:InsR)(w:World)(h:InsOK w r):Calls Tryz.prog 112 (#[insVR r]++ #[]) w fun e w'=>e=.returned (.bool (!isInsB r.d))∧Below w.heap.size w w':=by
 show Calls Tryz.prog 112 #[insVR r] w _
 have HC:=Lib.hid (isIns_any r.d r.aa r.na r.ca (w.alloc (insO r.d r.aa r.na r.ca)) (h.1.ext (ext_alloc _ _)) h.2.2.2.2.1 h.2.2.2.2.2.1 h.2.2.2.2.2.2.1 h.2.2.2.2.2.2.2.1)
 clear h
 go_enter Tryz.func112,Tryz.ntmps112
 go_wp2_with (
  (go_at_call 113
   refine HC.out.mono ?_;rintro e w1 ⟨rfl,hb1⟩;have HB1:=Lib.hid (ext_trans (ext_alloc w _) hb1)
   clear hb1))
 go_ret
 exact⟨rfl,HB1.out⟩
theorem call_whole1(args:Array Value)(w:World):(callFunc 112 args).run Tryz.prog w=.ok (.enter 112 args) w:=enters_of Tryz.func112 (by kernel_rfl) rfl args w
def longB(pn bn:Nat)(bs:List BlkH):Bool:=decide (bn=0)||decide (200<bn)||decide (8<pn)||bs.any fun b=>decide (64<b.n)
theorem long_any(pa:Option Addr)(pn pc:Nat)(ba:Option Addr)(bn bc:Nat)(bs:List BlkH)(w:World)(h:BlksOK w ba bn bs):
  Calls Tryz.prog 69 #[funcV pa pn pc ba bn bc] w fun e w'=>e=.returned (.bool (longB pn bn bs))∧Below w.heap.size w w':=by
 have HC:=Lib.hid (fun W (hb:Below w.heap.size w W)=>containsBlk_any 109 #[] call_long1 (fun b=>decide (64<b.n)) ba bn bc bs W (fun r W' _ _=>long1_any r W') (h.ext hb))
 clear h
 by_cases h0:bn=0
 ·have HE:Hid (longB pn bn bs=true):=by rw[Hid,longB,h0];simp
  subst h0
  go_enter Tryz.func69,Tryz.ntmps69
  go_wp2
  go_ret
  exact⟨by rw[HE.out];rfl,ext_alloc _ _⟩
 ·have b0:((bn:Int)==0)=false:=by simpa using h0
  by_cases h1:200<bn
  ·have HE:Hid (longB pn bn bs=true):=by rw[Hid,longB];simp[h1]
   have h1':(200:Int)<(bn:Int):=by omega
   clear h0 h1
   go_enter Tryz.func69,Tryz.ntmps69
   go_wp2
   go_ret
   exact⟨by rw[HE.out];rfl,ext_alloc _ _⟩
  ·have h1':¬(200:Int)<(bn:Int):=by omega
   by_cases h2:8<pn
   ·have HE:Hid (longB pn bn bs=true):=by rw[Hid,longB];simp[h2]
    have h2':(8:Int)<(pn:Int):=by omega
    clear h0 h1 h2
    go_enter Tryz.func69,Tryz.ntmps69
    go_wp2
    go_ret
    exact⟨by rw[HE.out];rfl,ext_alloc _ _⟩
   ·have h2':¬(8:Int)<(pn:Int):=by omega
    have HE:Hid (longB pn bn bs=bs.any fun b=>decide (64<b.n)):=by rw[Hid,longB];simp[h0,h1,h2]
    clear h0 h1 h2
    go_enter Tryz.func69,Tryz.ntmps69
    go_wp2_with (
     (go_at_call 108
      refine(HC.out _ (ext_alloc w _)).mono ?_;rintro e w1 ⟨rfl,hb1⟩;have HB1:=Lib.hid (ext_trans (ext_alloc w _) hb1)
      clear hb1))
    go_ret
    exact⟨by rw[HE.out];rfl,HB1.out⟩
end

section
open Go.RowKit
theorem size_vset:(Tryz.prog.info? 196).map (·.size)=some 201:=by kernel_rfl
theorem zero_vset:Tryz.zeroCells196=setV fun _=>false:=by kernel_rfl
abbrev vsO(f:Nat→Bool):Obj:=.cells (setV f) 196
theorem vsO_ext{f g:Nat→Bool}(h:∀k,k<201→f k=g k):vsO f=vsO g:=by rw[vsO,vsO,setV_ext h]
theorem load_vset{W:World}{g:Nat}{f:Nat→Bool}(hg:W.heap[g]? =some (vsO f)):(loadVar 196 ⟨g,0,none⟩).run Tryz.prog W=.ok (.agg (setV f)) W:=
 run_loadVar_row (P:=Tryz.prog) W g 196 196 _ (0,0) _ hg Tryz.underlying196 rfl (by rw[setV_size];exact size_vset)
theorem vset_put{W:World}{g:Nat}{f h:Nat→Bool}(hg:W.heap[g]? =some (vsO f))(j:Nat)(b:Bool)(e:∀k,k<201→(if k=j then b else f k)=h k):(W.setCell ⟨g,j,none⟩ (.bool b)).heap[g]? =some (vsO h):=by
 rw[heap_setCell_same _ _ _ _ _ _ hg,setV_put,setV_ext e]
theorem vset_cell{W:World}{g:Nat}{f:Nat→Bool}(hg:W.heap[g]? =some (vsO f))(j:Nat)(hj:j<201):W.cell? ⟨g,j,none⟩=some (.bool (f j)):=by rw[cell_of_row _ _ _ _ _ _ hg,setV_at _ _ hj]
theorem vset_free{W:World}{g:Nat}{f:Nat→Bool}(hg:W.heap[g]? =some (vsO f))(j:Nat):W.frozen? ⟨g,j,none⟩=false:=frozen_of_row _ _ _ _ _ hg
def VSPost(w:World)(f:Nat→Bool)(e:Ending)(w':World):Prop:=e=.returned (.agg (setV f))∧Below w.heap.size w w'
theorem vFull_any(w:World):Calls Tryz.prog 114 #[] w (VSPost w fun _=>true):=by
 go_enter Tryz.func114,Tryz.ntmps114
 go_wp2
 go_loopw [1,2] (fun _ i wr=>∃(k:Nat),k≤201∧i=.int .i64 k∧Hid (wr.heap[w.heap.size]? =some (vsO fun j=>decide (j<k)))∧Hid (Below w.heap.size w wr)) (fun _ i _=>201-(intOf i).toNat)
 case atStart=>exact⟨0,by omega,rfl,by rw[Hid,heap_alloc_new,zero_vset,←vsO_ext (f:=fun _=>false) (g:=fun j=>decide (j<0)) (fun k _=>by simp)],ext_alloc _ _⟩
 case round=>
  obtain⟨k,hk,rfl,HS,HB⟩:=hrel;by_cases hlt:k<201
  ·have hcell:=vset_cell HS.out k hlt;have hfr:=vset_free HS.out k;have HS2:Hid ((wr.setCell ⟨w.heap.size,k,none⟩ (.bool true)).heap[w.heap.size]? =some (vsO fun j=>decide (j<k+1))):=vset_put HS.out k true fun j _=>by
    by_cases e:j=k
    ·simp[e]
    ·have:(j<k+1)↔j<k:=by omega
     simp[e,this]
   have hl:=lt_of_heap HS.out;have hlt':(k:Int)<201:=by omega
   generalize decide (k<k)=bb at *;go_wp2
   go_roundw
   case rel=>exact⟨k+1,by omega,by go_num,HS2,HB.out.setCell (Nat.le_refl _) _⟩
   case measure=>simp[intOf];omega
  ·obtain rfl:k=201:=by omega
   have HSx:Hid (wr.heap[w.heap.size]? =some (vsO fun _=>true)):=by
    have:=HS.out
    rwa [vsO_ext (f:=fun j=>decide (j<201)) (g:=fun _=>true) (fun j hj=>by simp[hj])] at this
   go_wp2_with (first
    |(refine wpList_load_row rfl 196 _ rfl w.heap.size rfl 196 _ (0,0) _ HSx.out Tryz.underlying196 rfl (by rw[setV_size];exact size_vset) ?_)
    |(refine wpList_store_row rfl 196 _ _ rfl w.heap.size (setV fun _=>true) rfl rfl 196 _ HSx.out (by rw[setV_size];exact size_vset) rfl (setV_all _) ?_))
   exact bodyPost_ret (v:=.agg (setV fun _=>true)) (by simp[results,Tryz.results114,asAddr,Act.put,load_vset (setRow_heap _ _ _ _ _ _ HSx.out)]) rfl ⟨rfl,below_setRow HB.out (by omega) _⟩
def meetK(f g:Nat→Bool)(k j:Nat):Bool:=if j<k then f j&&g j else f j
theorem vMeet_any(f g:Nat→Bool)(w:World):Calls Tryz.prog 115 #[.agg (setV f),.agg (setV g)] w (VSPost w fun j=>f j&&g j):=by
 go_enter Tryz.func115,Tryz.ntmps115
 go_upto_region 1 with (fail)
 obtain⟨W,hW⟩:∃W,W=((w.alloc (vsO f)).alloc (vsO g)).alloc (vsO fun _=>false):=⟨_,rfl⟩
 rw[zero_vset,←hW]
 have hs:W.heap[w.heap.size]? =some (vsO f):=by rw[hW,Below.heap_alloc _ _ _ (by simp;omega),Below.heap_alloc _ _ _ (by simp)];exact heap_alloc_new _ _
 have ht:W.heap[w.heap.size+1]? =some (vsO g):=by
  rw[hW,Below.heap_alloc _ _ _ (by simp)];have:=heap_alloc_new (w.alloc (vsO f)) (vsO g);simpa using this
 have hr:W.heap[w.heap.size+1+1]? =some (vsO fun _=>false):=by
  rw[hW];have:=heap_alloc_new ((w.alloc (vsO f)).alloc (vsO g)) (vsO fun _=>false);simpa using this
 have hB:Below w.heap.size w W:=by rw[hW];exact((((Below.refl _ w).alloc (Nat.le_refl _) _).alloc (by simp) _).alloc (by simp;omega) _)
 have HS:=Lib.hid hs
 have HT:=Lib.hid ht
 have HR:=Lib.hid hr
 have HB:=Lib.hid hB
 clear hW hs ht hr hB
 go_wp2
 go_loopw [5,6] (fun _ i wr=>∃(k:Nat),k≤201∧i=.int .i64 k∧Hid (wr.heap[w.heap.size]? =some (vsO (meetK f g k)))∧Hid (wr.heap[w.heap.size+1]? =some (vsO g))∧Hid (wr.heap[w.heap.size+1+1]? =some (vsO fun _=>false))∧Hid (Below w.heap.size w wr)) (fun _ i _=>201-(intOf i).toNat)
 case atStart=>exact⟨0,by omega,rfl,by rw[Hid,vsO_ext (f:=meetK f g 0) (g:=f) (fun j _=>by simp[meetK])];exact HS.out,HT.out,HR.out,HB.out⟩
 case round=>
  obtain⟨k,hk,rfl,HS,HT,HR,HB⟩:=hrel;by_cases hlt:k<201
  ·have hlt':(k:Int)<201:=by omega
   have hcell:wr.cell? ⟨w.heap.size,k,none⟩=some (.bool (f k)):=by
    have:=vset_cell HS.out k hlt
    rwa [show meetK f g k k=f k by simp[meetK]] at this
   have hcg:=vset_cell HT.out k hlt;have hfr:=vset_free HS.out k;have hstep:∀b,b=(f k&&g k)→Hid ((wr.setCell ⟨w.heap.size,k,none⟩ (.bool b)).heap[w.heap.size]? =some (vsO (meetK f g (k+1)))):=fun b hb=>vset_put HS.out k b fun j _=>by
    unfold meetK;by_cases e:j=k
    ·subst e;simp[hb]
    ·have:(j<k+1)↔j<k:=by omega
     simp[e,this]
   have HST:=Lib.hid hstep;have hl:=lt_of_heap HS.out;have hl1:=lt_of_heap HT.out;clear hstep
   have hfin:∀b,b=(f k&&g k)→∃(k':Nat),k'≤201∧Value.int IntKind.i64 ((k:Int)+1)=.int .i64 k'∧Hid ((wr.setCell ⟨w.heap.size,k,none⟩ (.bool b)).heap[w.heap.size]? =some (vsO (meetK f g k')))∧Hid ((wr.setCell ⟨w.heap.size,k,none⟩ (.bool b)).heap[w.heap.size+1]? =some (vsO g))∧Hid ((wr.setCell ⟨w.heap.size,k,none⟩ (.bool b)).heap[w.heap.size+1+1]? =some (vsO fun _=>false))∧Hid (Below w.heap.size w (wr.setCell ⟨w.heap.size,k,none⟩ (.bool b))):=fun b hb=>
    ⟨k+1,by omega,by simp,HST.out b hb,by rw[Hid,Below.heap_setCell _ _ _ _ (by simp)];exact HT.out,by rw[Hid,Below.heap_setCell _ _ _ _ (by simp;omega)];exact HR.out,HB.out.setCell (Nat.le_refl _) _⟩
   have HFIN:=Lib.hid hfin;clear hfin;cases hf:f k with
   |true=>
    rw[hf] at hcell;have HB2:Hid (g k=(f k&&g k)):=by rw[Hid,hf];rfl
    clear hf;go_wp2
    go_roundw
    case rel=>exact HFIN.out _ HB2.out
    case measure=>simp[intOf];omega
   |false=>
    rw[hf] at hcell;have HB2:Hid (false=(f k&&g k)):=by rw[Hid,hf];rfl
    clear hf;go_wp2
    go_roundw
    case rel=>exact HFIN.out _ HB2.out
    case measure=>simp[intOf];omega
  ·obtain rfl:k=201:=by omega
   have HSx:Hid (wr.heap[w.heap.size]? =some (vsO fun j=>f j&&g j)):=by
    have:=HS.out
    rwa [vsO_ext (f:=meetK f g 201) (g:=fun j=>f j&&g j) (fun j hj=>by simp[meetK,hj])] at this
   go_wp2_with (first
    |(refine wpList_load_row rfl 196 _ rfl w.heap.size rfl 196 _ (0,0) _ HSx.out Tryz.underlying196 rfl (by rw[setV_size];exact size_vset) ?_)
    |(refine wpList_store_row rfl 196 _ _ rfl (w.heap.size+1+1) (setV fun j=>f j&&g j) rfl rfl 196 _ HR.out (by rw[setV_size];exact size_vset) rfl (setV_all _) ?_))
   exact bodyPost_ret (v:=.agg (setV fun j=>f j&&g j)) (by simp[results,Tryz.results115,asAddr,Act.put,load_vset (setRow_heap _ _ _ _ _ _ HR.out)]) rfl ⟨rfl,below_setRow HB.out (by omega) _⟩
theorem vHas1_any(f:Nat→Bool)(G B:Nat)(x:Int)(hx:0≤x∧x≤200)(w:World)(hG:w.heap[G]? =some (vsO f))(hB:w.cell? ⟨B,0,none⟩=some (.pointer (some ⟨G,0,none⟩))):
  Calls Tryz.prog 173 (#[.int .i64 x]++ #[.pointer (some ⟨B,0,none⟩)]) w fun e w'=>e=.returned (.bool (!f x.toNat))∧Below w.heap.size w w':=by
 obtain⟨m,rfl⟩:∃m:Nat,x=(m:Int):=⟨x.toNat,by omega⟩
 show Calls Tryz.prog 173 #[.int .i64 (m:Int),.pointer (some ⟨B,0,none⟩)] w _
 have hm:(m:Int)<201:=by omega
 have hcell:=vset_cell hG m (by omega)
 have h0:=vset_cell hG 0 (by omega)
 rw[Int.toNat_natCast]
 clear hG hx
 go_enter Tryz.func173,Tryz.ntmps173
 go_wp2
 go_ret
 exact⟨rfl,Below.refl _ _⟩
theorem call_vHas1(args:Array Value)(w:World):(callFunc 173 args).run Tryz.prog w=.ok (.enter 173 args) w:=enters_of Tryz.func173 (by kernel_rfl) rfl args w
def hasB(f:Nat→Bool)(xs:List Int):Bool:= !xs.any fun x=> !f x.toNat
theorem vHas_any(f:Nat→Bool)(G:Nat)(a:Option Addr)(n c:Nat)(xs:List Int)(w:World)(hG:w.heap[G]? =some (vsO f))(h:Ints w a n xs)(hx:∀x∈xs,0≤x∧x≤200):
  Calls Tryz.prog 151 #[.pointer (some ⟨G,0,none⟩),.slice a n c] w fun e w'=>e=.returned (.bool (hasB f xs))∧Below w.heap.size w w':=by
 have HC:=Lib.hid (containsFunc_any 173 #[.pointer (some ⟨w.heap.size,0,none⟩)] call_vHas1 (fun x=> !f x.toNat) a n c xs (w.alloc (.cells #[.pointer (some ⟨G,0,none⟩)] 259))
  (fun x W hxx hb=>vHas1_any f G w.heap.size x (hx x hxx) W (block_ext (ext_trans (ext_alloc w _) hb) hG) (by
    have:=block_ext hb (heap_alloc_new w (.cells #[.pointer (some ⟨G,0,none⟩)] 259))
    rw[cell_of_row _ _ _ _ _ _ this];rfl)) (h.ext (ext_alloc _ _)))
 clear h hx hG
 go_enter Tryz.func151,Tryz.ntmps151
 go_wp2_with (
  (go_at_call 20
   refine HC.out.mono ?_;rintro e w1 ⟨rfl,hb1⟩;have HB1:=Lib.hid (ext_trans (ext_alloc w _) hb1)
   clear hb1))
 go_ret
 exact⟨rfl,HB1.out⟩
end

section
open Go.RowKit
theorem fits_var{b:Bool}{x:Int}(h:fitsV b x=true):x=0∨varB x=true:=by
 unfold fitsV at h
 split at h
 ·exact .inr h
 ·exact .inl (by simpa using h)
theorem ins_vars{i:InsD}(h:isInsB i=true):(∀x∈i.args,varB x=true)∧(i.a=0∨varB i.a=true)∧(i.b=0∨varB i.b=true)∧(i.dst=0∨varB i.dst=true):=by
 unfold isInsB at h
 simp only at h
 split at h
 ·cases h
 ·split at h
  ·simp only[Bool.and_eq_true,noneB,List.any_cons,List.any_nil,Bool.or_false,Bool.not_eq_true',Bool.or_eq_false_iff,bne_eq_false_iff_eq,List.any_eq_false,Bool.not_eq_true,Bool.not_eq_false'] at h;obtain⟨⟨⟨⟨h0,_⟩,hd⟩,_⟩,ha⟩:=h;exact⟨fun x hx=>(by have:=ha x hx;simpa using this),.inl h0.1,.inl h0.2.1,fits_var hd⟩
  ·split at h
   ·cases h
   ·simp only[Bool.and_eq_true,beq_iff_eq] at h;obtain⟨⟨⟨⟨_,hargs⟩,hd⟩,ha⟩,hb⟩:=h;have hargs:=List.eq_nil_of_length_eq_zero hargs;exact⟨fun x hx=>(by rw[hargs] at hx;cases hx),fits_var ha,fits_var hb,fits_var hd⟩
theorem var_iff{x:Int}:varB x=true↔1≤x∧x≤200:=by simp[varB]
theorem reads_var{i:InsD}{x:Int}(h:x∈readsI i):1≤x∧x≤200:=by
 unfold readsI at h
 split at h
 ·rename_i hi
  obtain⟨h1,h2,h3,_⟩:=ins_vars hi;rcases List.mem_append.1 h with h|h
  ·obtain⟨h4,h5⟩:=List.mem_filter.1 h;have h5:x≠0:=by simpa using h5
   simp only[List.mem_cons,List.not_mem_nil,or_false] at h4;rcases h4 with rfl|rfl
   ·exact var_iff.1 (h2.resolve_left h5)
   ·exact var_iff.1 (h3.resolve_left h5)
  ·exact var_iff.1 (h1 x h)
 ·cases h
theorem defines_var(i:InsD):0≤definesV i∧definesV i≤200:=by
 unfold definesV
 split
 ·rename_i hi
  rcases(ins_vars hi).2.2.2 with h|h
  ·rw[h];omega
  ·have:=var_iff.1 h;omega
 ·omega
theorem needs_var{t:TermD}{x:Int}(h:x∈needsT t):1≤x∧x≤200:=by
 unfold needsT at h
 split at h
 ·rename_i hb
  simp only[Bool.and_eq_true,bne_iff_ne,ne_eq] at hb;rw[List.mem_singleton] at h;subst h;have ht:=hb.1;have h0:=hb.2;unfold termB at ht
  repeat' split at ht
  ·simp only[decide_eq_true_eq] at ht;exact absurd ht.1 h0
  ·exact var_iff.1 ht
  ·simp only[Bool.and_eq_true,Bool.or_eq_true,decide_eq_true_eq] at ht;exact var_iff.1 (ht.1.resolve_left h0)
  ·simp only[decide_eq_true_eq] at ht;exact absurd ht.2.1 h0
 ·cases h
def putS(f:Nat→Bool)(j:Nat):Nat→Bool:=fun k=>if k=j then true else f k
def pastB:(Nat→Bool)→List InsR→TermD→Bool
 |f,[],t=>hasB f (needsT t)
 |f,r :: l,t=>hasB f (readsI r.d)&&pastB (putS f (definesV r.d).toNat) l t
def pastF(f:Nat→Bool)(rs:List InsR):Nat→Bool:=rs.foldl (fun f r=>putS f (definesV r.d).toNat) f
theorem past_take(f:Nat→Bool)(rs:List InsR)(k:Nat)(r:InsR)(h:rs[k]? =some r):pastF f (rs.take (k+1))=putS (pastF f (rs.take k)) (definesV r.d).toNat:=by
 rw[List.take_add_one,h,pastF,List.foldl_append]
 rfl
theorem past_drop(f:Nat→Bool)(rs:List InsR)(t:TermD)(k:Nat)(r:InsR)(h:rs[k]? =some r):pastB f (rs.drop k) t=(hasB f (readsI r.d)&&pastB (putS f (definesV r.d).toNat) (rs.drop (k+1)) t):=by
 have hk:=(List.getElem?_eq_some_iff.1 h).1
 rw[List.drop_eq_getElem_cons hk,pastB]
 have:=(List.getElem?_eq_some_iff.1 h).2
 rw[this]
def PJ(w:World)(b:BlkH)(f:Nat→Bool)(W:World):Prop:=
 W.heap[w.heap.size]? =some (vsO f)∧W.heap[w.heap.size+1]? =some (blkO b)∧(∃h,W.heap[w.heap.size+1+1]? =some (vsO h))∧Below w.heap.size w W
theorem PJ.ext{w:World}{b:BlkH}{f:Nat→Bool}{W W':World}(h:PJ w b f W)(hb:Below W.heap.size W W'):PJ w b f W':=by
 obtain⟨h1,h2,⟨g,h3⟩,h4⟩:=h
 refine⟨block_ext hb h1,block_ext hb h2,⟨g,block_ext hb h3⟩,h4.trans (hb.mono h4.size)⟩
theorem size_insR:(Tryz.prog.info? 60).map (·.size)=some 8:=by kernel_rfl
theorem vPast_any(f:Nat→Bool)(b:BlkH)(rs:List InsR)(w:World)(ht:TermOK b.t)(hI:InsS w b.ia b.n rs)(hna:∀r∈rs,r.na≤1000000):
  Calls Tryz.prog 116 #[.agg (setV f),blkV b] w fun e w'=>∃h,e=.returned (.tuple #[.agg (setV h),.bool (pastB f rs b.t)])∧Below w.heap.size w w':=by
 have HT:=Lib.hid ht
 have HI:=Lib.hid hI
 have HNA:=Lib.hid hna
 have HL:=Lib.hid hI.1.1
 have hn:=hI.1.2.1
 clear ht hI hna
 go_enter Tryz.func116,Tryz.ntmps116
 go_upto_region 1 with (fail)
 obtain⟨W,hW⟩:∃W,W=((w.alloc (vsO f)).alloc (blkO b)).alloc (vsO fun _=>false):=⟨_,rfl⟩
 rw[zero_vset,←hW]
 have hJ:PJ w b f W:=by
  rw[hW];refine⟨?_,?_,⟨fun _=>false,?_⟩,(((Below.refl _ w).alloc (Nat.le_refl _) _).alloc (by simp) _).alloc (by simp;omega) _⟩
  ·rw[Below.heap_alloc _ _ _ (by simp;omega),Below.heap_alloc _ _ _ (by simp)];exact heap_alloc_new _ _
  ·rw[Below.heap_alloc _ _ _ (by simp)];have:=heap_alloc_new (w.alloc (vsO f)) (blkO b);simpa using this
  ·have:=heap_alloc_new ((w.alloc (vsO f)).alloc (blkO b)) (vsO fun _=>false);simpa using this
 have HJ:=Lib.hid hJ
 have b0:W.cell? ⟨w.heap.size+1,0,none⟩=some (.slice b.ia b.n b.c):=by rw[cell_of_row _ _ _ _ _ _ hJ.2.1];rfl
 have hl1:=lt_of_heap hJ.2.1
 clear hW hJ
 go_wp2
 clear b0 hl1
 go_loopw [11] (fun i wr=>∃k:Nat,i=.int .i64 k∧k≤b.n∧Hid (PJ w b (pastF f (rs.take k)) wr)∧Hid (pastB f rs b.t=pastB (pastF f (rs.take k)) (rs.drop k) b.t)) (fun i _=>b.n-(intOf i).toNat)
 case atStart=>exact⟨0,rfl,by omega,HJ.out,rfl⟩
 case round=>
  obtain⟨k,rfl,hk,HP,HE⟩:=hrel;clear HJ;by_cases hlt:k<b.n
  ·obtain⟨r,bb,oo,hr,hok,hia,c0,c1,c2,c3,c4,c5,c6,c7⟩:=(HI.out.ext HP.out.2.2.2).cells hlt;have HST:=Lib.hid (past_take f rs k r hr);have HDR:=Lib.hid (past_drop (pastF f (rs.take k)) rs b.t k r hr);have hnr:=HNA.out r (List.mem_of_getElem? hr);generalize pastF f (rs.take k)=fk at *;rw[hia];have hlt':(k:Int)<(b.n:Int):=by omega
   have HOK:=Lib.hid hok;clear hr hok;go_upto_region 4 with (fail)
   obtain⟨Wi,hWi⟩:∃Wi,Wi=wr.alloc (insO r.d r.aa r.na r.ca):=⟨_,rfl⟩
   have hri:Wi.heap[wr.heap.size]? =some (insO r.d r.aa r.na r.ca):=by rw[hWi];exact heap_alloc_new _ _
   have hbi:Below wr.heap.size wr Wi:=by rw[hWi];exact ext_alloc _ _
   rw[show wr.alloc (Obj.cells #[.int .i64 r.d.op,.int .i64 r.d.dst,.int .i64 r.d.a,.int .i64 r.d.b,.int .i64 r.d.imm,.int .i64 r.d.callee,.slice r.aa r.na r.ca,.int .i64 r.d.many] 60)=Wi from hWi.symm];have HRI:=Lib.hid hri;have HPI:=Lib.hid (HP.out.ext hbi);have HOKI:=Lib.hid (HOK.out.ext hbi);have HRD:=Lib.hid (fun x hx=>reads_var (i:=r.d) (x:=x) hx);obtain⟨m,hm⟩:∃m:Nat,definesV r.d=(m:Int):=⟨(definesV r.d).toNat,by have:=(defines_var r.d).1;omega⟩
   have hml:m<201:=by have:=(defines_var r.d).2;omega
   have HMD:=Lib.hid hm;clear hWi hri hbi c0 c1 c2 c3 c4 c5 c6 c7 hia hm HP HOK;cases hb:hasB fk (readsI r.d) with
   |false=>
    have HF:Hid (pastB f rs b.t=false):=by rw[Hid,HE.out,HDR.out,hb];rfl
    go_wp2_with (first
     |((with_reducible show wpList _ _ _ (⟨some 15,_,_,_,_,_⟩ :: _) _ _);refine wpList_load_row (o:=⟨some 15,.load 60 _,_,_,_,_⟩) rfl 60 _ rfl wr.heap.size rfl 60 _ (0,0) _ HRI.out Tryz.underlying60 rfl size_insR ?_)
     |(go_at_call 99
       refine(readsI_any r.d r.aa r.na r.ca Wi HOKI.out.1 HOKI.out.2.2.2.2.1 HOKI.out.2.2.2.2.2.1 HOKI.out.2.2.2.2.2.2.1 HOKI.out.2.2.2.2.2.2.2.1 hnr).mono ?_;rintro e w1 ⟨rv,rfl,ho,hb1⟩;obtain⟨ra,rc,rfl⟩:=ho.form;have HO1:=Lib.hid ho.ints;have HP1:=Lib.hid (HPI.out.ext hb1)
       clear ho hb1)
     |(go_at_call 151
       refine(vHas_any fk w.heap.size ra _ rc (readsI r.d) w1 HP1.out.1 HO1.out (fun x hx=>⟨by have:=(HRD.out x hx).1;omega,(HRD.out x hx).2⟩)).mono ?_;rw[hb];rintro e w2 ⟨rfl,hb2⟩;have HP2:=Lib.hid (HP1.out.ext hb2)
       clear hb2)
     |((with_reducible show wpList _ _ _ (⟨some 19,_,_,_,_,_⟩ :: _) _ _);refine wpList_load_row (o:=⟨some 19,.load 196 _,_,_,_,_⟩) rfl 196 _ rfl w.heap.size rfl 196 _ (0,0) _ HP2.out.1 Tryz.underlying196 rfl (by rw[setV_size];exact size_vset) ?_)
     |(refine wpList_store_row rfl 196 _ _ rfl (w.heap.size+1+1) (setV fk) rfl rfl 196 _ HP2.out.2.2.1.choose_spec (by rw[setV_size];exact size_vset) (by rw[setV_size,setV_size]) (setV_all _) ?_))
    have hload:=load_vset (setRow_heap _ _ _ (setV fk) _ _ HP2.out.2.2.1.choose_spec);refine bodyPost_ret (v:=.tuple #[.agg (setV fk),.bool false]) (by simp[results,Tryz.results116,asAddr,Act.put,hload]) rfl ?_;rw[HF.out];exact⟨_,rfl,below_setRow HP2.out.2.2.2 (by omega) _⟩
   |true=>
    have HF:Hid (pastB f rs b.t=pastB (putS fk m) (rs.drop (k+1)) b.t):=by rw[Hid,HE.out,HDR.out,hb,HMD.out];rfl
    have HS1:Hid (pastF f (rs.take (k+1))=putS fk m):=by rw[Hid,HST.out,HMD.out];rfl
    go_wp2_with (first
     |((with_reducible show wpList _ _ _ (⟨some 15,_,_,_,_,_⟩ :: _) _ _);refine wpList_load_row (o:=⟨some 15,.load 60 _,_,_,_,_⟩) rfl 60 _ rfl wr.heap.size rfl 60 _ (0,0) _ HRI.out Tryz.underlying60 rfl size_insR ?_)
     |(go_at_call 99
       refine(readsI_any r.d r.aa r.na r.ca Wi HOKI.out.1 HOKI.out.2.2.2.2.1 HOKI.out.2.2.2.2.2.1 HOKI.out.2.2.2.2.2.2.1 HOKI.out.2.2.2.2.2.2.2.1 hnr).mono ?_;rintro e w1 ⟨rv,rfl,ho,hb1⟩;obtain⟨ra,rc,rfl⟩:=ho.form;have HO1:=Lib.hid ho.ints;have HP1:=Lib.hid (HPI.out.ext hb1);have HR1:=Lib.hid (block_ext hb1 HRI.out);have HK1:=Lib.hid (HOKI.out.ext hb1)
       clear ho hb1)
     |(go_at_call 151
       refine(vHas_any fk w.heap.size ra _ rc (readsI r.d) w1 HP1.out.1 HO1.out (fun x hx=>⟨by have:=(HRD.out x hx).1;omega,(HRD.out x hx).2⟩)).mono ?_;rw[hb];rintro e w2 ⟨rfl,hb2⟩;have HP2:=Lib.hid (HP1.out.ext hb2);have HR2:=Lib.hid (block_ext hb2 HR1.out);have HK2:=Lib.hid (HK1.out.ext hb2)
       clear hb2)
     |((with_reducible show wpList _ _ _ (⟨some 20,_,_,_,_,_⟩ :: _) _ _);refine wpList_load_row (o:=⟨some 20,.load 60 _,_,_,_,_⟩) rfl 60 _ rfl wr.heap.size rfl 60 _ (0,0) _ HR2.out Tryz.underlying60 rfl size_insR ?_)
     |(go_at_call 100
       refine(defines_any r.d r.aa r.na r.ca w2 HK2.out.1 HK2.out.2.2.2.2.1 HK2.out.2.2.2.2.2.1 HK2.out.2.2.2.2.2.2.1 HK2.out.2.2.2.2.2.2.2.1).mono ?_;rw[HMD.out];rintro e w3 ⟨rfl,hb3⟩;have HP3:=Lib.hid (HP2.out.ext hb3);have hcell:=vset_cell HP3.out.1 m hml;have hfr:=vset_free HP3.out.1 m;have hl3:=lt_of_heap HP3.out.1;have hmi:(m:Int)<201:=(by omega)
       clear hb3))
    have hP4:PJ w b (putS fk m) (w3.setCell ⟨w.heap.size,m,none⟩ (.bool true)):=by
     obtain⟨h1,h2,⟨h,h3⟩,h4⟩:=HP3.out;refine⟨vset_put h1 m true fun j _=>rfl,?_,⟨h,?_⟩,h4.setCell (Nat.le_refl _) _⟩
     ·rw[Below.heap_setCell _ _ _ _ (by simp)];exact h2
     ·rw[Below.heap_setCell _ _ _ _ (by simp;omega)];exact h3
    go_roundw
    case rel=>exact⟨k+1,by go_num,by omega,by rw[Hid,HS1.out];exact hP4,by rw[Hid,HS1.out];exact HF.out⟩
    case measure=>simp[intOf];omega
  ·obtain rfl:k=b.n:=by omega
   have HE2:Hid (pastB f rs b.t=hasB (pastF f (rs.take b.n)) (needsT b.t)):=by
    rw[Hid,HE.out,List.drop_of_length_le (by rw[HL.out];exact Nat.le_refl _)];rfl
   generalize pastF f (rs.take b.n)=fk at *;have HNV:=Lib.hid (fun x hx=>needs_var (t:=b.t) (x:=x) hx);obtain⟨wp,hwp⟩:∃x,x=wr:=⟨_,rfl⟩
   go_upto_region 8 with (fail)
   have q1:∀w',(∃m:ClsW (PJ w b fk),w'=m.val)→w'.heap[w.heap.size]? =some (vsO fk):=fun w' ⟨m,e⟩=>by rw[e];exact m.prop.1
   have g1:∀m:ClsW (PJ w b fk),m.val.cell? ⟨w.heap.size+1,1,none⟩=some (.int .i64 b.t.kind):=fun m=>by rw[cell_of_row _ _ _ _ _ _ m.prop.2.1];rfl
   have g2:∀m:ClsW (PJ w b fk),m.val.cell? ⟨w.heap.size+1,2,none⟩=some (.int .i64 b.t.a):=fun m=>by rw[cell_of_row _ _ _ _ _ _ m.prop.2.1];rfl
   have g3:∀m:ClsW (PJ w b fk),m.val.cell? ⟨w.heap.size+1,3,none⟩=some (.int .i64 b.t.t0):=fun m=>by rw[cell_of_row _ _ _ _ _ _ m.prop.2.1];rfl
   have g4:∀m:ClsW (PJ w b fk),m.val.cell? ⟨w.heap.size+1,4,none⟩=some (.int .i64 b.t.t1):=fun m=>by rw[cell_of_row _ _ _ _ _ _ m.prop.2.1];rfl
   have hP0:PJ w b fk wr.drew:=HP.out.ext (ext_drewN (Below.refl _ _) 1);obtain⟨v0,hv0,hP0⟩:∃v0,wr.drew=v0∧PJ w b fk v0:=⟨_,rfl,hP0⟩
   have hne:Nonempty (ClsW (PJ w b fk)):=cls_ne hP0;have hst:∀W',PJ w b fk W'→PJ w b fk (W'.setRow (w.heap.size+1+1) (setV fk))∧(W'.setRow (w.heap.size+1+1) (setV fk)).heap[w.heap.size+1+1]? =some (vsO fk):=fun W' h=>by
    obtain⟨h1,h2,⟨h,h3⟩,h4⟩:=h;have hs:=setRow_heap _ _ _ (setV fk) _ _ h3;refine⟨⟨?_,?_,⟨fk,hs⟩,below_setRow h4 (by omega) _⟩,hs⟩
    ·exact((below_setRow (B:=w.heap.size+1) (g:=w.heap.size+1+1) (w0:=W') (w:=W') (Below.refl _ _) (by omega) (setV fk)).block w.heap.size (by omega)).trans h1
    ·exact((below_setRow (B:=w.heap.size+1+1) (g:=w.heap.size+1+1) (w0:=W') (w:=W') (Below.refl _ _) (by omega) (setV fk)).block (w.heap.size+1) (by omega)).trans h2
   refine z_start (fun w'=>∃m:ClsW (PJ w b fk),w'=m.val) (by kernel_rfl) ?_;rw[hv0];refine z_reads 0 3 (by kernel_rfl) (cls_mk hP0) ?_;simp only[List.take_succ_cons,List.take_zero,List.drop_succ_cons,List.drop_zero]
   repeat (first
    |(refine wpQuiet_load_row (o:=⟨some 24,.load 196 _,_,_,_,_⟩) (by rfl) 196 _ rfl w.heap.size rfl 196 _ (0,0) _ q1 Tryz.underlying196 rfl (by rw[setV_size];exact size_vset) ?_;simp only[Act.put,List.setIfInBounds_toArray,List.set_cons_succ,List.set_cons_zero])
    |go_big_quiet_step (fail))
   refine wpQuiet_nil ?_;clear q1 g1 g2 g3 g4 hv0;have HST:=Lib.hid hst;have HP0:=Lib.hid hP0;clear hst hP0 hne;refine z_one 3 (by kernel_rfl) ?_;refine wpOp_at rfl rfl ?_;go_simp;refine(needsT_any b.t v0 HT.out).mono ?_;rintro e v1 ⟨rv,rfl,ho,hb1⟩;obtain⟨ra,rc,rfl⟩:=ho.form;have HO1:=Lib.hid ho.ints;have HP1:=Lib.hid (HP0.out.ext hb1);clear ho hb1;refine⟨Or.inr (cls_mk HP1.out),?_⟩
   try simp only[Act.put,List.setIfInBounds_toArray,List.set_cons_succ,List.set_cons_zero]
   refine z_one 4 (by kernel_rfl) ?_;refine wpOp_at rfl rfl ?_;go_simp;refine(vHas_any fk w.heap.size ra _ rc (needsT b.t) v1 HP1.out.1 HO1.out (fun x hx=>⟨by have:=(HNV.out x hx).1;omega,(HNV.out x hx).2⟩)).mono ?_;rintro e v2 ⟨rfl,hb2⟩;have HP2:=Lib.hid (HP1.out.ext hb2);clear hb2;refine⟨Or.inr (cls_mk HP2.out),?_⟩
   try simp only[Act.put,List.setIfInBounds_toArray,List.set_cons_succ,List.set_cons_zero]
   refine z_one 5 (by kernel_rfl) ?_;refine wpOp_at rfl rfl ?_;refine wp_store_row 196 _ _ rfl (w.heap.size+1+1) (setV fk) rfl rfl 196 _ HP2.out.2.2.1.choose_spec (by rw[setV_size];exact size_vset) (by rw[setV_size,setV_size]) (setV_all _) ?_;have HP3:=Lib.hid (HST.out v2 HP2.out);refine⟨Or.inr (cls_mk HP3.out.1),?_⟩
   try simp only[Act.put,List.setIfInBounds_toArray,List.set_cons_succ,List.set_cons_zero]
   refine z_reads 6 1 (by kernel_rfl) (cls_mk HP3.out.1) ?_;simp only[List.take_succ_cons,List.take_zero,List.drop_succ_cons,List.drop_zero]
   repeat (go_big_quiet_step (fail))
   refine wpQuiet_nil ?_;refine z_done (by kernel_rfl) ?_;generalize v2.setRow (w.heap.size+1+1) (setV fk)=v3 at *;go_wp2;have hload:=load_vset HP3.out.2;refine bodyPost_ret (v:=.tuple #[.agg (setV fk),.bool (hasB fk (needsT b.t))]) (by simp[results,Tryz.results116,asAddr,Act.put,hload]) rfl ?_;rw[HE2.out];exact⟨_,rfl,HP3.out.1.2.2.2⟩
end

section
open Go.RowKit
structure TileR where
 d:TileD
 ba:Option Addr
 bn:Nat
 bc:Nat
def tileC(t:TileR):List Value:= [.int .i64 t.d.kind,.int .i64 t.d.parent,.slice t.ba t.bn t.bc]
theorem tileC_len(t:TileR):(tileC t).length=3:=rfl
def TilesOK(w:World)(a:Option Addr)(n:Nat)(ls:List TileR):Prop:=Recs 3 tileC w a n ls∧∀t∈ls,Ints w t.ba t.bn t.d.blocks∧t.bn≤t.bc∧I64 t.d.kind∧I64 t.d.parent
theorem TilesOK.ext{w w':World}{a:Option Addr}{n:Nat}{ls:List TileR}(h:TilesOK w a n ls)(hb:Below w.heap.size w w'):TilesOK w' a n ls:=⟨h.1.ext tileC_len hb,fun t ht=>⟨(h.2 t ht).1.ext hb,(h.2 t ht).2⟩⟩
def tdOf(ls:List TileR):List TileD:=ls.map (·.d)
theorem tdOf_len(ls:List TileR):(tdOf ls).length=ls.length:=by simp[tdOf]
theorem tdOf_at(ls:List TileR)(k:Nat)(t:TileR)(h:ls[k]? =some t):(tdOf ls).getD k zTile=t.d:=by simp[tdOf,List.getD_eq_getElem?_getD,h]
abbrev tileO(t:TileR):Obj:=.cells #[.int .i64 t.d.kind,.int .i64 t.d.parent,.slice t.ba t.bn t.bc] 70
theorem TilesOK.cells{w:World}{a:Option Addr}{n:Nat}{ls:List TileR}(h:TilesOK w a n ls){k:Nat}(hk:k<n):∃t b o,ls[k]? =some t∧(Ints w t.ba t.bn t.d.blocks∧t.bn≤t.bc∧I64 t.d.kind∧I64 t.d.parent)∧a=some ⟨b,o,none⟩∧
  w.cell? ⟨b,o+k*3,none⟩=some (.int .i64 t.d.kind)∧w.cell? ⟨b,o+k*3+1,none⟩=some (.int .i64 t.d.parent)∧w.cell? ⟨b,o+k*3+2,none⟩=some (.slice t.ba t.bn t.bc):=by
 have hk':k<ls.length:=by rw[h.1.1];exact hk
 obtain⟨b,o,e,hc⟩:=h.1.2.2 k ls[k] (List.getElem?_eq_getElem hk')
 exact⟨ls[k],b,o,List.getElem?_eq_getElem hk',h.2 _ (List.getElem_mem hk'),e,hc 0 (by omega),hc 1 (by omega),hc 2 (by omega)⟩
theorem parents_any(a:Option Addr)(n c:Nat)(ls:List TileR)(w:World)(h:TilesOK w a n ls):
  Calls Tryz.prog 56 #[.slice a n c] w fun e w'=>e=.returned (.bool (parentsB (tdOf ls)))∧Below w.heap.size w w':=by
 have hn:=h.1.2.1
 have HL:=Lib.hid h.1.1
 have H:=Lib.hid h
 clear h
 go_enter Tryz.func56,Tryz.ntmps56
 go_wp2
 go_loopw [7] (fun i wr=>∃(k:Nat),k≤n∧i=.int .i64 k∧Hid (∀j,j<k→-1≤parL (tdOf ls) j∧parL (tdOf ls) j<j)∧Hid (Below w.heap.size w wr)) (fun i _=>n-(intOf i).toNat)
 case atStart=>exact⟨0,by omega,rfl,fun j hj=>absurd hj (by omega),Below.refl _ _⟩
 case round=>
  obtain⟨k,hk,rfl,HR,HB⟩:=hrel;by_cases hlt:k<n
  ·obtain⟨t,b,o,hlk,hok,rfl,c0,c1,c2⟩:=(H.out.ext HB.out).cells hlt;obtain⟨_,_,_,hp1,hp2⟩:=hok;have htd:=tdOf_at ls k t hlk;have HTD:Hid (parL (tdOf ls) k=t.d.parent):=by rw[Hid,parL,htd]
   clear hlk htd;have hlt':(k:Int)<(n:Int):=by omega
   by_cases hg1:t.d.parent< -1
   ·have HE:Hid (parentsB (tdOf ls)=false):=by
     rw[Hid,Bool.eq_false_iff];intro h;have:=(parentsB_iff _).1 h k (by rw[tdOf_len,HL.out];exact hlt);rw[HTD.out] at this;omega
    go_wp2
    go_ret
    exact⟨by rw[HE.out];rfl,HB.out.alloc HB.out.size _⟩
   ·by_cases hg2:t.d.parent<k
    ·have HR2:Hid (∀j,j<k+1→-1≤parL (tdOf ls) j∧parL (tdOf ls) j<j):=fun j hj=>by
      by_cases e:j=k
      ·subst e;rw[HTD.out];omega
      ·exact HR.out j (by omega)
     go_wp2
     go_roundw
     case rel=>exact⟨k+1,by omega,by go_num,HR2,HB.out.alloc HB.out.size _⟩
     case measure=>simp[intOf];omega
    ·have HE:Hid (parentsB (tdOf ls)=false):=by
      rw[Hid,Bool.eq_false_iff];intro h;have:=(parentsB_iff _).1 h k (by rw[tdOf_len,HL.out];exact hlt);rw[HTD.out] at this;omega
     go_wp2
     go_ret
     exact⟨by rw[HE.out];rfl,HB.out.alloc HB.out.size _⟩
  ·obtain rfl:k=n:=by omega
   have HE:Hid (parentsB (tdOf ls)=true):=(parentsB_iff _).2 fun j hj=>HR.out j (by rw[tdOf_len,HL.out] at hj;exact hj);go_wp2
   go_ret
   exact⟨by rw[HE.out];rfl,HB.out⟩
end

section
open Go.RowKit
def mfind:List MapEntry→Int→Option Value
 | [],_=>none
 |e :: l,k=>match e.key with
  | .int .i64 j=>if k=j then some e.val else mfind l k
  |_=>mfind l k
def intKeys(l:List MapEntry):Prop:=∀e∈l,∃k:Int,e.key=.int .i64 k
def IMap(w:World)(b:Nat)(f:Int→Option Value):Prop:=
 ∃es clock,w.heap[b]? =some (.map es clock)∧intKeys es.toList∧∀k,mfind es.toList k=f k
def upd(f:Int→Option Value)(k:Int)(v:Value):Int→Option Value:=fun j=>if j=k then some v else f j
theorem findNow_int(q:IntKind)(k:Int):∀(l:List MapEntry) (i:Nat),intKeys l→
  (Instr.findNow (.int q) (.int .i64 k) l i=some none∧mfind l k=none)∨
  ∃j e,l[j]? =some e∧Instr.findNow (.int q) (.int .i64 k) l i=some (some (i+j,e.val))∧e.key=.int .i64 k∧mfind l k=some e.val∧
   ∀v,intKeys (l.modify j fun e=>{e with key:=.int .i64 k,val:=v})∧∀k',mfind (l.modify j fun e=>{e with key:=.int .i64 k,val:=v}) k'=upd (mfind l) k v k':=by
 intro l
 induction l with
 |nil=>intro i _;exact Or.inl ⟨rfl,rfl⟩
 |cons e l ih=>
  intro i hk;obtain⟨j,hj⟩:=hk e (by simp);have hk':intKeys l:=fun x hx=>hk x (by simp[hx]);by_cases h:k=j
  ·subst h;refine Or.inr ⟨0,e,rfl,?_,hj,?_,fun v=>⟨?_,fun k'=>?_⟩⟩
   ·simp[Instr.findNow,Instr.sameNow,hj]
   ·simp[mfind,hj]
   ·intro x hx;simp at hx;rcases hx with rfl|hx
    ·exact⟨k,rfl⟩
    ·exact hk' x hx
   ·simp only[List.modify_zero_cons,mfind,upd,hj]
    split<;>rfl
  ·have hb:(k==j)=false:=by simpa using h
   rcases ih (i+1) hk' with ⟨h1,h2⟩|⟨m,e',h0,h1,h2,h3,h4⟩
   ·exact Or.inl ⟨by simp[Instr.findNow,Instr.sameNow,hj,hb,h1],by simp[mfind,hj,h,h2]⟩
   ·refine Or.inr ⟨m+1,e',by simpa using h0,?_,h2,?_,fun v=>⟨?_,fun k'=>?_⟩⟩
    ·simp[Instr.findNow,Instr.sameNow,hj,hb,h1];omega
    ·simp[mfind,hj,h,h3]
    ·intro x hx;simp at hx;rcases hx with rfl|hx
     ·exact⟨j,hj⟩
     ·exact(h4 v).1 x hx
    ·have:=(h4 v).2 k';simp only[List.modify_succ_cons,mfind,upd,hj] at this⊢;rw[this];by_cases e1:k'=j
     ·subst e1;simp[Ne.symm h]
     ·simp[e1]
theorem mfind_push(l:List MapEntry)(k:Int)(v:Value)(b:Nat)(k':Int)(hn:mfind l k=none)(hk:intKeys l):
  mfind (l++ [{key:=.int .i64 k,val:=v,born:=b}]) k'=upd (mfind l) k v k':=by
 induction l with
 |nil=>simp[mfind,upd]
 |cons e l ih=>
  obtain⟨j,hj⟩:=hk e (by simp);simp only[mfind,hj] at hn
  split at hn
  ·cases hn
  ·rename_i hkj
   have:=ih hn (fun x hx=>hk x (by simp[hx]));simp only[List.cons_append,mfind,hj,upd] at this⊢;rw[this];by_cases e1:k'=j
   ·subst e1;simp[Ne.symm hkj]
   ·simp[e1]
section
variable {P:Program} {t kt et:TypeId} {w:World} {b:Nat} {f:Int→Option Value}
theorem IMap.lt(h:IMap w b f):b<w.heap.size:=by obtain⟨es,c,hb,_⟩:=h;exact(Array.getElem?_eq_some_iff.1 hb).1
theorem IMap.made(w:World):IMap (w.alloc (.map #[] 0)) w.heap.size (fun _=>none):=
 ⟨#[],0,World.alloc_heap_new w _,by intro e he;simp at he,fun k=>rfl⟩
theorem IMap.of_block{w':World}(h:IMap w b f)(hb:w'.heap[b]? =w.heap[b]?):IMap w' b f:=by
 obtain⟨es,c,h1,h2⟩:=h;exact⟨es,c,hb.trans h1,h2⟩
theorem IMap.ext{w':World}(h:IMap w b f)(hb:Below w.heap.size w w'):IMap w' b f:=h.of_block (hb.block b h.lt)
theorem IMap.grown{w':World}{row:Option Nat}(h:IMap w b f)(hg:w.grownBy w' row)(hne:some b≠row):IMap w' b f:=h.of_block (hg.block b h.lt hne)
theorem IMap.setCell(h:IMap w b f)(p:Addr)(v:Value):IMap (w.setCell p v) b f:=by
 obtain⟨es,c,h1,h2⟩:=h
 refine⟨es,c,?_,h2⟩
 by_cases e:b=p.block
 ·subst e;obtain⟨hlt,hk'⟩:=Array.getElem?_eq_some_iff.1 h1;show(w.heap.modify p.block _)[p.block]? =_;rw[Array.getElem?_eq_getElem (by rw[Array.size_modify];exact hlt),Array.getElem_modify_self,hk']
 ·exact(Below.heap_setCell w p v b e).trans h1
theorem run_checkKey_int(hk:P.underlying kt=some (.int .i64))(em:Bool)(k:Int)(w:World):(Instr.checkKey em 10000 kt (.int .i64 k)).run P w=.ok () w:=by
 have:∀n,(Instr.checkKey em (n+1) kt (.int .i64 k)).run P w=.ok () w:=fun n=>by simp[Instr.checkKey,run_underlying hk]
 exact this 9999
theorem sameBits_int(k:Int):Instr.sameBits 10000 (.int .i64 k) (.int .i64 k)=true:=by
 have:∀n,Instr.sameBits n (.int .i64 k) (.int .i64 k)=true:=fun n=>by cases n<;>simp[Instr.sameBits]
 exact this 10000
theorem run_findKey_int(hk:P.underlying kt=some (.int .i64))(k:Int)(l:List MapEntry)(r:Option (Nat×Value))(w:World)(h:Instr.findNow (.int .i64) (.int .i64 k) l 0=some r):
  (Instr.findKey kt (.int .i64 k) l).run P w=.ok r w:=by
 simp[Instr.findKey,run_underlying hk,h]
theorem IMap.look(h:IMap w b f)(ht:P.underlying t=some (.map kt et))(hk:P.underlying kt=some (.int .i64)){z:Value}(hz:(zeroValue et).run P w=.ok z w)(k:Int):
  (Instr.lookup t (.map (some b)) (.int .i64 k) false).run P w=.ok ((f k).getD z) w:=by
 obtain⟨es,c,hb,hi,hf⟩:=h
 have hgo:(getObj b).run P w=.ok (.map es c) w:=by simp[getObj,Sem.run,hb]
 rcases findNow_int .i64 k es.toList 0 hi with ⟨h1,h2⟩|⟨j,e,_,h1,_,h2,_⟩
 ·rw[hf] at h2;simp[Instr.lookup,run_underlying ht,Sem.run_bind,hgo,run_checkKey_int hk,run_findKey_int hk k _ _ w h1,hz,h2,Result.andThen]
 ·rw[hf] at h2;simp[Instr.lookup,run_underlying ht,Sem.run_bind,hgo,run_checkKey_int hk,run_findKey_int hk k _ _ w h1,h2,Result.andThen]
theorem IMap.put(h:IMap w b f)(ht:P.underlying t=some (.map kt et))(hk:P.underlying kt=some (.int .i64))(k:Int)(v:Value):
  ∃o,(Instr.mapUpdate t (.map (some b)) (.int .i64 k) v).run P w=.ok () (w.putObj b o)∧IMap (w.putObj b o) b (upd f k v):=by
 have hlt:=h.lt
 obtain⟨es,c,hb,hi,hf⟩:=h
 have hgo:(getObj b).run P w=.ok (.map es c) w:=by simp[getObj,Sem.run,hb]
 have hso:∀o,(setObj b o).run P w=.ok () (w.putObj b o):=fun o=>by simp[setObj,Sem.run,hb,World.putObj]
 rcases findNow_int .i64 k es.toList 0 hi with ⟨h1,h2⟩|⟨j,e,hj,h1,hek,h2,h3⟩
 ·refine⟨.map (es.push {key:=.int .i64 k,val:=v,born:=c}) (c+1),?_,?_⟩
  ·simp[Instr.mapUpdate,run_underlying ht,Sem.run_bind,hgo,run_checkKey_int hk,run_findKey_int hk k _ _ w h1,hso,Result.andThen]
  ·refine⟨_,_,World.putObj_heap_same hlt,?_,fun k'=>?_⟩
   ·intro x hx;simp at hx;rcases hx with hx|rfl
    ·exact hi x (by simpa using hx)
    ·exact⟨k,rfl⟩
   ·rw[Array.toList_push,mfind_push _ _ _ _ _ h2 hi];simp only[upd,hf]
 ·have hes:es[0+j]? =some e:=by simpa using hj
  refine⟨.map (es.modify (0+j) fun e=>{e with key:=.int .i64 k,val:=v}) c,?_,?_⟩
  ·simp[Instr.mapUpdate,run_underlying ht,Sem.run_bind,hgo,run_checkKey_int hk,run_findKey_int hk k _ _ w h1,hso,Result.andThen,Instr.keyThatStays];simp at hes;simp[hes,hek,sameBits_int,hso]
  ·refine⟨_,_,World.putObj_heap_same hlt,?_,fun k'=>?_⟩
   ·have:=(h3 v).1;simpa[Array.toList_modify] using this
   ·have:=(h3 v).2 k';rw[Array.toList_modify,Nat.zero_add,this];simp only[upd,hf]
end
end
end Go.Proofs.YtnmkjliioogbgaaGreatDoor
