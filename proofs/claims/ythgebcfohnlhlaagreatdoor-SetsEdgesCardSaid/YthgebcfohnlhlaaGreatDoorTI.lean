/-
 Tile:over.
-/
import Derived.Test.YthgebcfohnlhlaaGreatDoorTH
import Derived.Deep.OwnRows
namespace Go.Proofs.YthgebcfohnlhlaaGreatDoor
set_option linter.unusedSimpArgs false
set_option linter.unusedVariables false
set_option linter.unusedSectionVars false
set_option maxRecDepth 100000
set_option maxHeartbeats 40000000
section
open Go.RowKit
def zS(f:Nat→Bool):Nat→Bool:=fun q=>if q=0 then true else f q
theorem size_func:(Tryz.prog.info? 25).map (·.size)=some 2:=by kernel_rfl
theorem info_ints:(Tryz.prog.info? 22).map (fun i=>(i.zero,i.size,i.bytes))=some (some nilV,1,24):=by kernel_rfl
theorem made_hdr(n:Nat):madeCells #[nilV] n=hdrA n fun _=>nilV:=by
 apply Array.ext_getElem?
 intro k
 by_cases hk:k<n
 ·rw[hdrA_at _ _ _ hk];simp[madeCells,hk,Nat.mod_one]
 ·rw[Array.getElem?_eq_none (by simp[madeCells];omega),Array.getElem?_eq_none (by rw[hdrA_size];omega)]
abbrev funcV(pa:Option Addr)(pn pc:Nat)(ba:Option Addr)(bn bc:Nat):Value:=.agg #[.slice pa pn pc,.slice ba bn bc]
abbrev funcO(pa:Option Addr)(pn pc:Nat)(ba:Option Addr)(bn bc:Nat):Obj:=.cells #[.slice pa pn pc,.slice ba bn bc] 25
def OverPost(pa:Option Addr)(pn pc:Nat)(ba:Option Addr)(bn bc:Nat)(ts:List TermD)(w:World)(e:Ending)(w':World):Prop:=
 ∃cs:Array Value,e=.returned (.tuple #[.agg cs,.bool (fitsB ts)])∧cs.size=4∧cs.all (·.oneCell')=true∧Below w.heap.size w w'∧(fitsB ts=true→∃ta tc fa fc,Value.agg cs=walkV ⟨pa,pn,pc,ba,bn,bc,ta,tc,fa,fc⟩∧WalkOK w' ⟨pa,pn,pc,ba,bn,bc,ta,tc,fa,fc⟩ ts)
def OvJ(w:World)(pa:Option Addr)(pn pc:Nat)(ba:Option Addr)(bn bc:Nat)(ts:List TermD)(TA FA B kT k i:Nat)(hF hT:Nat→Value)(wr:World):Prop:=
 wr.heap[w.heap.size]? =some (funcO pa pn pc ba bn bc)∧wr.heap[w.heap.size+1]? =some (walkO ⟨pa,pn,pc,ba,bn,bc,some ⟨TA,0,none⟩,bn,some ⟨FA,0,none⟩,bn⟩)∧
  wr.heap[TA]? =some (hdrO bn hT)∧wr.heap[FA]? =some (hdrO bn hF)∧Fam wr B bn kT hF hT (fun y=>intsN (pvAt ts k i y)) (fun j=>toD (ts.getD j zTerm))∧B≤wr.heap.size∧Below w.heap.size w wr
section
variable {w wr wr':World} {pa:Option Addr} {pn pc:Nat} {ba:Option Addr} {bn bc:Nat} {ts:List TermD} {TA FA B kT k i:Nat} {hF hT:Nat→Value}
theorem OvJ.ext(h:OvJ w pa pn pc ba bn bc ts TA FA B kT k i hF hT wr)(hb:Below wr.heap.size wr wr'):OvJ w pa pn pc ba bn bc ts TA FA B kT k i hF hT wr':=by
 obtain⟨h1,h2,h3,h4,h5,h6,h7⟩:=h
 exact⟨block_ext hb h1,block_ext hb h2,block_ext hb h3,block_ext hb h4,h5.ext hb,Nat.le_trans h6 hb.size,ext_trans h7 hb⟩
theorem OvJ.to(h:OvJ w pa pn pc ba bn bc ts TA FA B k k 0 hF hT wr)(hb:Below wr.heap.size wr wr')(v:Value)(ho:OwnI wr' wr.heap.size v (toD (ts.getD k zTerm)))(hk:k<bn)(hw1:w.heap.size+1+1≤TA)(hne:TA≠FA)(hTB:TA<B):
  OvJ w pa pn pc ba bn bc ts TA FA B (k+1) k 0 hF (updN hT k v) (wr'.setCell ⟨TA,k,none⟩ v):=by
 obtain⟨h1,h2,h3,h4,h5,h6,h7⟩:=h
 have g:=grown_setCell wr' TA k v
 have hsz:=hb.size
 refine⟨grown_row g (block_ext hb h1) (by simp;omega),grown_row g (block_ext hb h2) (by simp;omega),hdr_put (block_ext hb h3) k v,grown_row g (block_ext hb h4) (by simpa using hne),?_,by simp;omega,(ext_trans h7 hb).setCell (by simp;omega) _⟩
 have h8:=h5.add hb h6 v _ ho
 have e:updN (fun j=>toD (ts.getD j zTerm)) k (toD (ts.getD k zTerm))=fun j=>toD (ts.getD j zTerm):=by
  funext j
  by_cases e:j=k<;>simp[updN,e]
 rw[e] at h8
 exact h8.kept g (fun r hr=>by simp at hr;omega)
theorem OvJ.from(h:OvJ w pa pn pc ba bn bc ts TA FA B (k+1) k i hF hT wr)(y:Nat)(hy:y<bn)(hx:(nx ts k)[i]? =some y)(hg:wr.grownBy wr' (hF y).ownBlock)(v:Value)(ho:OwnI wr' B v (intsN (pvAt ts k i y)++ [(k:Int)]))(hv:v.ownBlock=(hF y).ownBlock∨∃g,v.ownBlock=some g∧wr.heap.size≤g)
  (hw1:w.heap.size+1+1≤FA) (hw2:w.heap.size+1+1≤TA) (hne:TA≠FA) (hTB:TA<B) (hFB:FA<B):OvJ w pa pn pc ba bn bc ts TA FA B (k+1) k (i+1) (updN hF y v) hT (wr'.setCell ⟨FA,y,none⟩ v):=by
 obtain⟨h1,h2,h3,h4,h5,h6,h7⟩:=h
 have hlt:∀r,(hF y).ownBlock=some r→B≤r:=fun r e=>((h5.F y hy).1.lt r e).1
 have low:∀q,q<B→(hF y).ownBlock≠some q:=fun q hq e=>by have:=hlt q e;omega
 have g:=grown_setCell wr' FA y v
 refine⟨grown_row g (grown_row hg h1 (low _ (by omega))) (by simp;omega),grown_row g (grown_row hg h2 (low _ (by omega))) (by simp;omega),grown_row g (grown_row hg h3 (low _ hTB)) (by simp;omega),hdr_put (grown_row hg h4 (low _ hFB)) y v,?_,by have:=hg.size;simp;omega,(h7.grown hg h7.size (fun r e=>by have:=hlt r e;omega)).setCell (by simp;omega) _⟩
 have h8:=h5.turn y hy hg v _ ho hv
 have e:updN (fun y=>intsN (pvAt ts k i y)) y (intsN (pvAt ts k i y)++ [(k:Int)])=fun y=>intsN (pvAt ts k (i+1) y):=by
  funext z
  rw[pvAt_step ts k i y hx z];by_cases e:z=y
  ·subst e;simp[updN,intsN]
  ·simp[updN,e]
 rw[e] at h8
 exact h8.kept g (fun r hr=>by simp at hr;omega)
end
theorem OvJ.walk{w wr:World}{pa:Option Addr}{pn pc:Nat}{ba:Option Addr}{bn bc:Nat}{ts:List TermD}{TA FA B:Nat}{hF hT:Nat→Value}(h:OvJ w pa pn pc ba bn bc ts TA FA B bn bn 0 hF hT wr)(h2:bn≤200)(hg:∀q,q<bn→termB (ts.getD q zTerm)=true∧∀x∈toD (ts.getD q zTerm),1≤x∧x<bn)(hl:ts.length=bn):
  WalkOK wr ⟨pa,pn,pc,ba,bn,bc,some ⟨TA,0,none⟩,bn,some ⟨FA,0,none⟩,bn⟩ ts:=by
 obtain⟨h1,_,h3,h4,h5,h6,h7⟩:=h
 refine⟨hl,h2,⟨by simp[toRows,hl],by show bn≤1000;omega,fun k xs hx=>?_⟩,⟨by simp[fromRows,hl],by show bn≤1000;omega,fun k xs hx=>?_⟩⟩
 ·have hk:k<bn:=by
   have:=(List.getElem?_eq_some_iff.1 hx).1;simpa[toRows,hl] using this
  have e:xs=nx ts k:=by simpa[toRows,hl,hk] using hx.symm
  have e2:intsN xs=toD (ts.getD k zTerm):=by
   have e3:(toD (ts.getD k zTerm)).map ((fun(k:Nat)=>(k:Int))∘Int.toNat)=(toD (ts.getD k zTerm)).map id:=List.map_congr_left fun x hx=>by
    have:=(hg k hk).2 x hx;simp;omega
   rw[e,nx,intsN,List.map_map,e3,List.map_id]
  have ho:=h5.T k hk;obtain⟨a,c,hv⟩:=ho.form;have hn:(toD (ts.getD k zTerm)).length=xs.length:=by rw[←e2];simp[intsN]
  rw[hv] at ho;rw[hn] at ho hv;refine⟨TA,0,a,c,rfl,?_,?_⟩
  ·rw[Nat.zero_add,hdr_cell h3 k hk,hv]
  ·rw[e2];exact ho.ints
 ·have hk:k<bn:=by
   have:=(List.getElem?_eq_some_iff.1 hx).1;simpa[fromRows,hl] using this
  have e:xs=pv ts k:=by simpa[fromRows,hl,hk] using hx.symm
  have ho:=h5.F k hk;have e2:intsN (pvAt ts bn 0 k)=intsN xs:=by rw[e,←hl,pvAt_end]
  simp only[e2] at ho;obtain⟨a,c,hv⟩:=ho.form;have hn:(intsN xs).length=xs.length:=by simp[intsN]
  rw[hv] at ho;rw[hn] at ho hv;refine⟨FA,0,a,c,rfl,?_,ho.ints⟩;rw[Nat.zero_add,hdr_cell h4 k hk,hv]
theorem good_no{ts:List TermD}{k:Nat}(hk:k<ts.length)(h:termB (ts.getD k zTerm)=false∨∃x∈toD (ts.getD k zTerm),x<1∨(ts.length:Int)≤x):fitsB ts=false:=by
 rw[fitsB,Bool.and_eq_false_iff]
 refine .inl (Bool.eq_false_iff.2 fun hg=>?_)
 have hm:ts.getD k zTerm∈ts:=by rw[List.getD_eq_getElem?_getD,List.getElem?_eq_getElem hk];exact List.getElem_mem _
 have h1:=((goodB_iff _).1 hg).2 _ hm
 rcases h with h|⟨x,hx,h⟩
 ·rw[h1.1] at h;cases h
 ·have:=h1.2 x hx;omega
theorem over_any(pa:Option Addr)(pn pc:Nat)(ba:Option Addr)(bn bc:Nat)(bs:List BlkH)(w:World)(h:BlksOK w ba bn bs):
  Calls Tryz.prog 72 #[funcV pa pn pc ba bn bc] w (OverPost pa pn pc ba bn bc (tsOf bs) w):=by
 have hbn:=h.1.2.1
 have HLn:=Lib.hid h.1.1
 have HBS:=Lib.hid h
 clear h
 by_cases hgood:1≤bn∧bn≤200
 rotate_left
 ·have HE:Hid (fitsB (tsOf bs)=false):=by
   rw[Hid,fitsB,Bool.and_eq_false_iff];refine .inl (Bool.eq_false_iff.2 fun hg=>hgood ?_);have:=((goodB_iff _).1 hg).1;rw[tsOf_len,HLn.out] at this;exact this
  go_enter Tryz.func72,Tryz.ntmps72
  go_upto_region 1 with (fail)
  obtain⟨W,hW⟩:∃W,W=(w.alloc (funcO pa pn pc ba bn bc)).alloc (.cells #[.slice none 0 0,.slice none 0 0,.slice none 0 0,.slice none 0 0] 149):=⟨_,rfl⟩
  rw[←hW];have hf:W.heap[w.heap.size]? =some (funcO pa pn pc ba bn bc):=by rw[hW,Below.heap_alloc _ _ _ (by simp)];exact heap_alloc_new _ _
  have hr:W.heap[w.heap.size+1]? =some (.cells #[.slice none 0 0,.slice none 0 0,.slice none 0 0,.slice none 0 0] 149 (0,0)):=by rw[hW,heap_at _ _ _ (by simp)]
  have hB:Below w.heap.size w W:=by rw[hW];exact(ext_alloc _ _).alloc (by simp) _
  have hc1:W.cell? ⟨w.heap.size,1,none⟩=some (.slice ba bn bc):=by rw[cell_of_row _ _ _ _ _ _ hf];rfl
  have HR:=Lib.hid hr;have HB:=Lib.hid hB;have hz:(bn:Int)<1∨200<(bn:Int):=by omega
  clear hW hf hr hB hgood;rcases hz with hz|hz
  rotate_left
  ·have hz1:¬(bn:Int)<1:=by omega
   go_wp2_with (first
    |(refine wpList_load_row (o:=⟨some _,.load 149 _,_,_,_,_⟩) rfl 149 _ rfl (w.heap.size+1) rfl 149 _ (0,0) _ HR.out Tryz.underlying149 rfl size_walk ?_)
    |(refine wpList_store_row (o:=⟨none,.store 149 _ _,_,_,_,_⟩) rfl 149 _ _ rfl (w.heap.size+1) #[.slice none 0 0,.slice none 0 0,.slice none 0 0,.slice none 0 0] rfl rfl 149 _ HR.out size_walk rfl (by simp[Value.oneCell']) ?_))
   refine bodyPost_ret (v:=.tuple #[.agg #[.slice none 0 0,.slice none 0 0,.slice none 0 0,.slice none 0 0],.bool false]) ?_ rfl ⟨_,by rw[HE.out],rfl,by simp[Value.oneCell'],below_setRow HB.out (by omega) _,fun h=>by rw[HE.out] at h;cases h⟩;have hl:=run_loadVar_row (P:=Tryz.prog) _ (w.heap.size+1) 149 149 _ (0,0) _ (setRow_heap _ _ _ #[.slice none 0 0,.slice none 0 0,.slice none 0 0,.slice none 0 0] _ _ HR.out) Tryz.underlying149 rfl size_walk;simp[results,Tryz.results72,asAddr,Act.put,hl]
  ·go_wp2_with (first
    |(refine wpList_load_row (o:=⟨some _,.load 149 _,_,_,_,_⟩) rfl 149 _ rfl (w.heap.size+1) rfl 149 _ (0,0) _ HR.out Tryz.underlying149 rfl size_walk ?_)
    |(refine wpList_store_row (o:=⟨none,.store 149 _ _,_,_,_,_⟩) rfl 149 _ _ rfl (w.heap.size+1) #[.slice none 0 0,.slice none 0 0,.slice none 0 0,.slice none 0 0] rfl rfl 149 _ HR.out size_walk rfl (by simp[Value.oneCell']) ?_))
   refine bodyPost_ret (v:=.tuple #[.agg #[.slice none 0 0,.slice none 0 0,.slice none 0 0,.slice none 0 0],.bool false]) ?_ rfl ⟨_,by rw[HE.out],rfl,by simp[Value.oneCell'],below_setRow HB.out (by omega) _,fun h=>by rw[HE.out] at h;cases h⟩;have hl:=run_loadVar_row (P:=Tryz.prog) _ (w.heap.size+1) 149 149 _ (0,0) _ (setRow_heap _ _ _ #[.slice none 0 0,.slice none 0 0,.slice none 0 0,.slice none 0 0] _ _ HR.out) Tryz.underlying149 rfl size_walk;simp[results,Tryz.results72,asAddr,Act.put,hl]
 obtain⟨hb1,hb2⟩:=hgood
 go_enter Tryz.func72,Tryz.ntmps72
 go_upto_region 1 with (fail)
 obtain⟨W,hW⟩:∃W,W=(w.alloc (funcO pa pn pc ba bn bc)).alloc (.cells #[.slice none 0 0,.slice none 0 0,.slice none 0 0,.slice none 0 0] 149):=⟨_,rfl⟩
 rw[←hW]
 have hf:W.heap[w.heap.size]? =some (funcO pa pn pc ba bn bc):=by rw[hW,Below.heap_alloc _ _ _ (by simp)];exact heap_alloc_new _ _
 have hr:W.heap[w.heap.size+1]? =some (.cells #[.slice none 0 0,.slice none 0 0,.slice none 0 0,.slice none 0 0] 149 (0,0)):=by rw[hW,heap_at _ _ _ (by simp)]
 have hB:Below w.heap.size w W:=by rw[hW];exact(ext_alloc _ _).alloc (by simp) _
 have hWs:W.heap.size=w.heap.size+1+1:=by rw[hW];simp
 have hc1:W.cell? ⟨w.heap.size,1,none⟩=some (.slice ba bn bc):=by rw[cell_of_row _ _ _ _ _ _ hf];rfl
 have HWs:=Lib.hid hWs
 have HF:=Lib.hid hf
 have HR:=Lib.hid hr
 have HB:=Lib.hid hB
 clear hW hWs hf hr hB
 go_upto_region 4 with (fail)
 go_cut [] (fun wr=>∃TA FA B:Nat,w.heap.size+1+1≤TA∧w.heap.size+1+1≤FA∧TA≠FA∧TA<B∧FA<B∧∃hF hT,OvJ w pa pn pc ba bn bc (tsOf bs) TA FA B 0 0 0 hF hT wr)
 case first=>
  refine region_free 5 [some 20,some 21,some 22,some 23,some 24] (by kernel_rfl) (by kernel_rfl) (specB [.val (.agg #[.slice pa pn pc,.slice ba bn bc]),.val (.int .i64 (bn:Int)),(.any fun v lo hi w=>v=.slice (some ⟨lo,0,none⟩) bn bn∧lo<hi∧w.heap[lo]? =some (hdrO bn fun _=>nilV)),.val (.int .i64 (bn:Int)),(.any fun v lo hi w=>v=.slice (some ⟨lo,0,none⟩) bn bn∧lo<hi∧w.heap[lo]? =some (hdrO bn fun _=>nilV))]) (specB_mono ?_) ?_ ?_
  ·intro k hk;simp only[List.mem_cons,List.not_mem_nil,or_false] at hk;rcases hk with rfl|rfl|rfl|rfl|rfl
   ·exact trivial
   ·exact trivial
   ·exact fun v lo hi w w' hb h=>⟨h.1,h.2.1,block_ext hb h.2.2⟩
   ·exact trivial
   ·exact fun v lo hi w w' hb h=>⟨h.1,h.2.1,block_ext hb h.2.2⟩
  ·intro i hi ν lo hi' w1 K hB hD hK;have hcase:i=0∨i=1∨i=2∨i=3∨i=4:=by omega
   clear hi;rcases hcase with rfl|rfl|rfl|rfl|rfl
   ·clear hD;refine wpOp_atK rfl rfl ?_;simp only[zA,zB,zC,zD,zE,zF,zJ,zK,zG,zH,zI] at hK⊢;refine wp_load_row 25 _ rfl w.heap.size rfl 25 _ (0,0) _ (block_ext hB HF.out) Tryz.underlying25 rfl size_func ?_;exact hK _ _ (Below.refl _ _) rfl
   ·clear hD;refine wpOp_atK rfl rfl ?_;simp only[zA,zB,zC,zD,zE,zF,zJ,zK,zG,zH,zI] at hK⊢;go_simp;exact hK _ _ (Below.refl _ _) rfl
   ·have e1:=hD 1 (by kernel_rfl)
    replace e1:ν 1=(.int .i64 (bn:Int)):=e1
    clear hD;refine wpOp_atK rfl rfl ?_;simp only[zA,zB,zC,zD,zE,zF,zJ,zK,zG,zH,zI,e1] at hK⊢;have hmk:=run_make_row' (P:=Tryz.prog) 49 22 nilV 24 Tryz.underlying49 info_ints rfl .i64 .i64 bn (by omega) (by omega) w1;go_simp;refine hK _ _ (ext_alloc _ _) ⟨rfl,by simp,?_⟩;rw[heap_alloc_new,made_hdr]
   ·clear hD;refine wpOp_atK rfl rfl ?_;simp only[zA,zB,zC,zD,zE,zF,zJ,zK,zG,zH,zI] at hK⊢;go_simp;exact hK _ _ (Below.refl _ _) rfl
   ·have e3:=hD 3 (by kernel_rfl)
    replace e3:ν 3=(.int .i64 (bn:Int)):=e3
    clear hD;refine wpOp_atK rfl rfl ?_;simp only[zA,zB,zC,zD,zE,zF,zJ,zK,zG,zH,zI,e3] at hK⊢;have hmk:=run_make_row' (P:=Tryz.prog) 49 22 nilV 24 Tryz.underlying49 info_ints rfl .i64 .i64 bn (by omega) (by omega) w1;go_simp;refine hK _ _ (ext_alloc _ _) ⟨rfl,by simp,?_⟩;rw[heap_alloc_new,made_hdr]
  ·intro ν lo hi w1 hB hS hI hD;have e0:ν 0=(.agg #[.slice pa pn pc,.slice ba bn bc]):=hS 0 (by omega);have e1:ν 1=(.int .i64 (bn:Int)):=hS 1 (by omega);have e2:=hS 2 (by omega);unfold specB at e2;simp only[List.getD_cons_zero,List.getD_cons_succ,specK] at e2;have e3:ν 3=(.int .i64 (bn:Int)):=hS 3 (by omega);have e4:=hS 4 (by omega);unfold specB at e4;simp only[List.getD_cons_zero,List.getD_cons_succ,specK] at e4;clear hS;simp only[List.drop_succ_cons,List.drop_zero,zA,zB,zC,zD,zE,zF,zJ,zK,zG,zH,zI,e0,e1,e3];have i2:=hI 2 (by omega);have i4:=hI 4 (by omega);have hne:lo 2≠lo 4:=by
    have:=hD 2 4 (by omega) (by omega) (by omega);omega
   obtain⟨e2,l2,h2⟩:=e2;obtain⟨e4,l4,h4⟩:=e4;simp only[e2,e4];have hr:=block_ext hB HR.out;rw[HWs.out] at i2 i4;have HBw:Hid (Below w.heap.size w w1):=ext_trans HB.out hB;have HFw:=Lib.hid (block_ext hB HF.out);generalize lo 2=TA at *;generalize lo 4=FA at *;have H2:=Lib.hid h2;have H4:=Lib.hid h4;have HRw:=Lib.hid hr;have hTA:=i2.1;have hFA:=i4.1;have hTB:TA<w1.heap.size:=by omega
   have hFB:FA<w1.heap.size:=by omega
   clear hI hD hB e0 e1 e2 e3 e4 h2 h4 hr i2 i4 l2 l4
   go_wp2_with (refine wpList_store_row (o:=⟨none,.store _ _ _,_,_,_,_⟩) rfl 149 _ _ rfl (w.heap.size+1) #[.slice pa pn pc,.slice ba bn bc,.slice (some ⟨TA,0,none⟩) bn bn,.slice (some ⟨FA,0,none⟩) bn bn] rfl rfl 149 _ HRw.out size_walk rfl (by simp[Value.oneCell']) ?_)
   go_meet
   refine⟨TA,FA,w1.heap.size,hTA,hFA,hne,hTB,hFB,fun _=>nilV,fun _=>nilV,?_⟩;refine⟨(setRow_other _ _ _ _ (by omega)).trans HFw.out,setRow_heap _ _ _ _ _ _ HRw.out,(setRow_other _ _ _ _ (by omega)).trans H2.out,(setRow_other _ _ _ _ (by omega)).trans H4.out,?_,by simp,below_setRow HBw.out (by omega) _⟩;have e:(fun y=>intsN (pvAt (tsOf bs) 0 0 y))=fun _=>([]:List Int):=by funext y;rw[pvAt_zero];rfl
   rw[e];exact⟨fun y _=>OwnI.nil _ _,fun j hj=>absurd hj (by omega),fun _ _ _ _ _ g h=>by simp[Value.ownBlock] at h,fun _ _ _ hj=>absurd hj (by omega)⟩
 case rest=>
  obtain⟨TA,FA,B,hTA,hFA,hne,hTB,hFB,hF0,hT0,HJ0⟩:=hcut
  replace HJ0:=Lib.hid HJ0
  clear HWs HF HR HB hc1;have hcb:wc.cell? ⟨w.heap.size,1,none⟩=some (.slice ba bn bc):=by rw[cell_of_row _ _ _ _ _ _ HJ0.out.1];rfl
  go_wp2
  go_loopg [29] bn (fun gg i wr=>∃(k:Nat) (hF hT:Nat→Value),i=.int .i64 (k:Int)∧k≤bn∧bn≤gg+k∧Hid (∀q,q<k→termB ((tsOf bs).getD q zTerm)=true∧∀x∈toD ((tsOf bs).getD q zTerm),1≤x∧x<bn)∧Hid (OvJ w pa pn pc ba bn bc (tsOf bs) TA FA B k k 0 hF hT wr))
  case atStart=>exact⟨0,hF0,hT0,rfl,Nat.zero_le _,Nat.le_refl _,fun q hq=>absurd hq (by omega),HJ0⟩
  case round=>
   obtain⟨k,hF,hT,rfl,hk,hgg,HG,HJ⟩:=hrel;clear hcb HJ0 hF0 hT0;by_cases hlt:k<bn
   ·obtain⟨jF,jR,jT,jA,jM,jS,jB⟩:=HJ.out;obtain⟨x,b,o,hbx,htx,rfl,c0,c1,c2,c3,c4⟩:=(HBS.out.ext jB).cells hlt;have htk:(tsOf bs).getD k zTerm=x.t:=tsOf_at bs k x hbx;have HTK:=Lib.hid htk;have HTX:=Lib.hid htx;have HBX:=Lib.hid hbx;clear jF jR jT jA jM jS jB htk htx hbx;go_upto_region 8 with (fail)
    obtain⟨W1,hW1⟩:∃W1,W1=wr.alloc (blkO x):=⟨_,rfl⟩
    rw[←hW1];have HJ1:Hid (OvJ w pa pn pc (some ⟨b,o,none⟩) bn bc (tsOf bs) TA FA B k k 0 hF hT W1):=by rw[hW1];exact HJ.out.ext (ext_alloc _ _)
    have hx1:W1.heap[wr.heap.size]? =some (blkO x):=by rw[hW1,heap_alloc_new]
    have hs1:W1.heap.size=wr.heap.size+1:=by rw[hW1];simp
    have hB1:Below w.heap.size w W1:=HJ1.out.2.2.2.2.2.2;have d1:W1.cell? ⟨wr.heap.size,1,none⟩=some (.int .i64 x.t.kind):=by rw[cell_of_row _ _ _ _ _ _ hx1];rfl
    have d2:W1.cell? ⟨wr.heap.size,2,none⟩=some (.int .i64 x.t.a):=by rw[cell_of_row _ _ _ _ _ _ hx1];rfl
    have d3:W1.cell? ⟨wr.heap.size,3,none⟩=some (.int .i64 x.t.t0):=by rw[cell_of_row _ _ _ _ _ _ hx1];rfl
    have d4:W1.cell? ⟨wr.heap.size,4,none⟩=some (.int .i64 x.t.t1):=by rw[cell_of_row _ _ _ _ _ _ hx1];rfl
    have HX1:=Lib.hid hx1;clear hW1 hx1 c0 c1 c2 c3 c4;generalize hp:wr.heap.size=p at *;have HS1:=Lib.hid hs1;clear hs1 hp HJ;by_cases htB:termB x.t=true
    ·have HTB:=Lib.hid htB;clear htB
     go_upto_region 10 with (first
      |(go_at_call 158
        refine(isTerm_any x.t _ HTX.out).mono ?_;rintro e w2 ⟨rfl,hb2⟩;rw[HTB.out];have HJ2:=Lib.hid (HJ1.out.ext hb2);have D1:=Lib.hid (cell_ext hb2 d1);have D2:=Lib.hid (cell_ext hb2 d2);have D3:=Lib.hid (cell_ext hb2 d3);have D4:=Lib.hid (cell_ext hb2 d4)
        clear hb2))
     have HC40:Hid (w2.cell? ⟨w.heap.size+1,2,none⟩=some (.slice (some ⟨TA,0,none⟩) bn bn)):=by rw[Hid,cell_of_row _ _ _ _ _ _ HJ2.out.2.1];rfl
     clear d1 d2 d3 d4 HJ1 HX1 hB1 HS1
     go_cut [] (fun wx=>∃hT2,Hid (OvJ w pa pn pc (some ⟨b,o,none⟩) bn bc (tsOf bs) TA FA B (k+1) k 0 hF hT2 wx))
     case first=>
      refine region_free 6 [some 39,some 40,some 41,some 42,some 43,some 44] (by kernel_rfl) (by kernel_rfl) (specB [.val (.pointer (some ⟨w.heap.size+1,2,none⟩)),.val (.slice (some ⟨TA,0,none⟩) bn bn),.val (.int .i64 (k:Int)),.val (.pointer (some ⟨p,1,none⟩)),.val (termV x.t),(.any fun v lo hi w=>OwnI w lo v (toD x.t))]) (specB_mono ?_) ?_ ?_
      ·intro k hk;simp only[List.mem_cons,List.not_mem_nil,or_false] at hk;rcases hk with rfl|rfl|rfl|rfl|rfl|rfl
       ·exact trivial
       ·exact trivial
       ·exact trivial
       ·exact trivial
       ·exact trivial
       ·exact fun v lo hi w w' hb h=>h.ext hb
      ·intro i hi ν lo hi' w1 K hB hD hK;have hcase:i=0∨i=1∨i=2∨i=3∨i=4∨i=5:=by omega
       clear hi;rcases hcase with rfl|rfl|rfl|rfl|rfl|rfl
       ·clear hD;refine wpOp_atK rfl rfl ?_;simp only[zA,zB,zC,zD,zE,zF,zJ,zK,zG,zH,zI] at hK⊢;go_simp;exact hK _ _ (Below.refl _ _) rfl
       ·have e0:=hD 0 (by kernel_rfl)
        replace e0:ν 0=(.pointer (some ⟨w.heap.size+1,2,none⟩)):=e0
        clear hD;refine wpOp_atK rfl rfl ?_;simp only[zA,zB,zC,zD,zE,zF,zJ,zK,zG,zH,zI,e0] at hK⊢;have q0:=cell_ext hB HC40.out;go_simp;exact hK _ _ (Below.refl _ _) rfl
       ·clear hD;refine wpOp_atK rfl rfl ?_;simp only[zA,zB,zC,zD,zE,zF,zJ,zK,zG,zH,zI] at hK⊢;go_simp;exact hK _ _ (Below.refl _ _) rfl
       ·clear hD;refine wpOp_atK rfl rfl ?_;simp only[zA,zB,zC,zD,zE,zF,zJ,zK,zG,zH,zI] at hK⊢;go_simp;exact hK _ _ (Below.refl _ _) rfl
       ·have e3:=hD 3 (by kernel_rfl)
        replace e3:ν 3=(.pointer (some ⟨p,1,none⟩)):=e3
        clear hD;refine wpOp_atK rfl rfl ?_;simp only[zA,zB,zC,zD,zE,zF,zJ,zK,zG,zH,zI,e3] at hK⊢;have q1:=cell_ext hB D1.out;have q2:=cell_ext hB D2.out;have q3:=cell_ext hB D3.out;have q4:=cell_ext hB D4.out;go_simp;exact hK _ _ (Below.refl _ _) rfl
       ·have e4:=hD 4 (by kernel_rfl)
        replace e4:ν 4=(termV x.t):=e4
        clear hD;refine wpOp_atK rfl rfl ?_;simp only[zA,zB,zC,zD,zE,zF,zJ,zK,zG,zH,zI,e4] at hK⊢;go_simp;refine(to_any x.t w1 HTX.out).mono ?_;rintro e w3 ⟨v,rfl,ho,hb3⟩;exact hK _ _ hb3 ho
      ·intro ν lo hi w1 hB hS hI hD;have e0:ν 0=(.pointer (some ⟨w.heap.size+1,2,none⟩)):=hS 0 (by omega);have e1:ν 1=(.slice (some ⟨TA,0,none⟩) bn bn):=hS 1 (by omega);have e2:ν 2=(.int .i64 (k:Int)):=hS 2 (by omega);have e3:ν 3=(.pointer (some ⟨p,1,none⟩)):=hS 3 (by omega);have e4:ν 4=(termV x.t):=hS 4 (by omega);have e5:=hS 5 (by omega);unfold specB at e5;simp only[List.getD_cons_zero,List.getD_cons_succ,specK] at e5;clear hS;simp only[List.drop_succ_cons,List.drop_zero,zA,zB,zC,zD,zE,zF,zJ,zK,zG,zH,zI,e0,e1,e2,e3,e4];obtain⟨av,cv,hv⟩:=e5.form;simp only[hv];have ho5:=e5.mono (hI 5 (by omega)).1;rw[←HTK.out] at ho5;have HJ4:=Lib.hid (HJ2.out.to hB (ν 5) ho5 hlt hTA hne hTB);rw[hv] at HJ4;have hcw:=hdr_cell (block_ext hB HJ2.out.2.2.1) k hlt;have hfw:=hdr_free (block_ext hB HJ2.out.2.2.1) k;have hlw:TA<w1.heap.size:=lt_of_heap (block_ext hB HJ2.out.2.2.1);clear hI hD e0 e1 e2 e3 e4 e5 ho5 hB;generalize hT k=hTk at hcw;clear hv;go_wp2
       go_meet
       exact⟨_,HJ4⟩
     case rest=>
      obtain⟨hT2,HJ3⟩:=hcut;obtain⟨wo,rfl⟩:∃wo:World,wo=wr:=⟨_,rfl⟩
      have hoT:=HJ3.out.2.2.2.2.1.T k (by omega);rw[HTK.out] at hoT;obtain⟨va,vc,hv⟩:=hoT.form;have hcc:=hdr_cell HJ3.out.2.2.1 k hlt;rw[hv] at hcc;have hc2:wc.cell? ⟨w.heap.size+1,2,none⟩=some (.slice (some ⟨TA,0,none⟩) bn bn):=by rw[cell_of_row _ _ _ _ _ _ HJ3.out.2.1];rfl
      have HV:=Lib.hid hv;have hlen:=toD_len x.t;clear hoT hv D1 D2 D3 D4 HC40 HJ2;go_wp2
      go_loopg [52] (toD x.t).length (fun g2 i wr=>∃(j:Nat) (hF2:Nat→Value),i=.int .i64 (j:Int)∧j≤(toD x.t).length∧(toD x.t).length≤g2+j∧Hid (∀q,q<j→1≤(toD x.t).getD q 0∧(toD x.t).getD q 0<bn)∧Hid (OvJ w pa pn pc (some ⟨b,o,none⟩) bn bc (tsOf bs) TA FA B (k+1) k j hF2 hT2 wr))
      case atStart=>exact⟨0,hF,rfl,Nat.zero_le _,Nat.le_refl _,fun q hq=>absurd hq (by omega),HJ3⟩
      case round=>
       obtain⟨j,hF2,rfl,hj,hg2,HG2,HJ⟩:=hrel;clear hcc hc2 HJ3;by_cases hjl:j<(toD x.t).length
       ·have hoT:=HJ.out.2.2.2.2.1.T k (by omega);rw[HTK.out,HV.out] at hoT;obtain⟨b2,o2,e2,hcy,hy1,hy2⟩:=hoT.ints.2.2 j hjl;subst e2;have hjl':(j:Int)<((toD x.t).length:Int):=by omega
        have HG3:Hid (1≤(toD x.t).getD j 0∧(toD x.t).getD j 0<bn→∀q,q<j+1→1≤(toD x.t).getD q 0∧(toD x.t).getD q 0<bn):=fun h q hq=>by
         by_cases e:q=j
         ·subst e;exact h
         ·exact HG2.out q (by omega)
        have HNX:Hid (1≤(toD x.t).getD j 0→(nx (tsOf bs) k)[j]? =some ((toD x.t).getD j 0).toNat):=fun _=>by
         rw[nx,HTK.out,List.getElem?_map,List.getElem?_eq_getElem hjl];simp[List.getD_eq_getElem?_getD,hjl]
        have HNO:Hid ((toD x.t).getD j 0<1∨(bn:Int)≤(toD x.t).getD j 0→fitsB (tsOf bs)=false):=fun h=>by
         refine good_no (k:=k) (by rw[tsOf_len,HLn.out];exact hlt) (.inr ⟨(toD x.t).getD j 0,?_,?_⟩)
         ·rw[HTK.out,List.getD_eq_getElem?_getD,List.getElem?_eq_getElem hjl];exact List.getElem_mem _
         ·rw[tsOf_len,HLn.out];exact h
        clear hoT;generalize (toD x.t).getD j 0=y at *;by_cases hyg:1≤y∧y<bn
        ·obtain⟨hyg1,hyg2⟩:=hyg;have HG4:=Lib.hid (HG3.out ⟨hyg1,hyg2⟩);have HNY:=Lib.hid (HNX.out hyg1);obtain⟨yn,rfl⟩:∃yn:Nat,y=(yn:Int):=⟨y.toNat,by omega⟩
         have hyn:yn<bn:=by omega
         have HNY2:Hid ((nx (tsOf bs) k)[j]? =some yn):=by have:=HNY.out;rw[Hid];simpa using this
         obtain⟨jF,jR,jT,jA,jM,jS,jB⟩:=HJ.out;have hoF:=jM.F yn hyn;obtain⟨fa,fc,hfv⟩:=hoF.form;have hflen:(intsN (pvAt (tsOf bs) k j yn)).length≤1000:=by
          have:=pvAt_len (tsOf bs) k j yn;simp[intsN];omega
         have HFV:=Lib.hid hfv;have HOF:=Lib.hid hoF;have hc0:wr.cell? ⟨w.heap.size+1,3,none⟩=some (.slice (some ⟨FA,0,none⟩) bn bn):=by rw[cell_of_row _ _ _ _ _ _ jR];rfl
         have hc1:=hdr_cell jA yn hyn;rw[hfv] at hc1;have k0:∀q:ClsW (fun q=>Below B wr q),q.val.cell? ⟨w.heap.size+1,3,none⟩=some (.slice (some ⟨FA,0,none⟩) bn bn):=fun q=>(q.prop.cell (p:=⟨w.heap.size+1,3,none⟩) (show w.heap.size+1<B by omega)).trans hc0;have k1:∀q:ClsW (fun q=>Below B wr q),q.val.cell? ⟨FA,yn,none⟩=some (.slice fa (intsN (pvAt (tsOf bs) k j yn)).length fc):=fun q=>(q.prop.cell (p:=⟨FA,yn,none⟩) (show FA<B from hFB)).trans hc1;have HA:=Lib.hid jA;clear jF jR jT jA jM jB hoF hfv hc0 hc1 HG3 HNX HNO HNY;have hyn0:(0:Int)≤(yn:Int):=by omega
         have hyn1:(yn:Int)<(bn:Int):=by omega
         go_upto_region 16 with (fail)
         clear hcy;refine z_start (fun w'=>∃n:ClsW (fun q=>Below B wr q),w'=n.val) (by kernel_rfl) ?_;obtain⟨v0,F0,E0,hv0⟩:∃v0,Below B wr v0∧Below wr.heap.size wr v0∧wr.drew=v0:=⟨_,below_drewN (Below.refl _ _) 1,ext_drewN (Below.refl _ _) 1,rfl⟩
         rw[hv0];clear hv0
         haveI:Nonempty (ClsW (fun q=>Below B wr q)):=cls_ne (Below.refl _ _)
         refine z_reads 0 9 (by kernel_rfl) ⟨⟨_,F0⟩,rfl⟩ ?_;simp only[List.take_succ_cons,List.take_zero,List.drop_succ_cons,List.drop_zero]
         repeat (go_big_quiet_step (fail))
         refine wpQuiet_nil ?_;refine z_one 9 (by kernel_rfl) ?_;refine wpOp_at rfl rfl ?_;go_simp;have F1:Below B wr (v0.alloc (.cells #[.int .i64 (k:Int)] 3)):=F0.alloc (by have:=E0.size;omega) _;refine⟨Or.inr ⟨⟨_,F1⟩,rfl⟩,?_⟩
         try simp only[Act.put,List.setIfInBounds_toArray,List.set_cons_succ,List.set_cons_zero]
         refine z_one 10 (by kernel_rfl) ?_;refine wpOp_at rfl rfl ?_;refine op_append1 v0 (.tmp 71) (.tmp 73) 22 3 rfl B _ 1 8 Tryz.underlying22 infoI rfl (by omega) (.slice fa (intsN (pvAt (tsOf bs) k j yn)).length fc) (intsN (pvAt (tsOf bs) k j yn)).length _ [.int .i64 (k:Int)] rfl (by have:=(HOF.out.ext E0).1;rwa [HFV.out] at this) v0.heap.size rfl rfl rfl (by simp[Value.oneCell']) (by simp only[maxLen];omega) (by omega) (by have:=E0.size;omega) ?_;intro g cap w4 ho4 hg4 ha4;have hJv:=HJ.out.ext E0;rw[←HFV.out] at hg4 ha4;have hlow:∀r,(hF2 yn).ownBlock=some r→B≤r:=fun r e=>(HOF.out.1.lt r e).1;have F2:Below B wr w4:=F0.grown hg4 (by have:=E0.size;omega) hlow;have hA4:w4.heap[FA]? =some (hdrO bn hF2):=grown_row hg4 (block_ext E0 HA.out) (fun e=>by have:=hlow _ e;omega);have hoN:OwnI w4 B (.slice (some ⟨g,0,none⟩) ((intsN (pvAt (tsOf bs) k j yn)).length+1) cap) (intsN (pvAt (tsOf bs) k j yn)++ [(k:Int)]):=by
          refine⟨?_,?_,by simp;omega⟩
          ·have e3:(intsN (pvAt (tsOf bs) k j yn)++ [(k:Int)]).length=(intsN (pvAt (tsOf bs) k j yn)).length+1:=by simp
           have e4:intVals (intsN (pvAt (tsOf bs) k j yn)++ [(k:Int)])=intVals (intsN (pvAt (tsOf bs) k j yn))++ [.int .i64 (k:Int)]:=by simp[intVals]
           rw[e3,e4];exact ho4
          ·intro z hz;rcases List.mem_append.1 hz with h|h
           ·exact HOF.out.2.1 z h
           ·simp only[List.mem_singleton] at h;subst h;unfold I64;omega
         have HJ5:=Lib.hid (hJv.from yn hyn HNY2.out hg4 _ hoN (by
          rcases ha4 with e|e
          ·exact .inl (by simpa[Value.ownBlock] using e)
          ·exact .inr ⟨g,by simp[Value.ownBlock],by omega⟩) hFA hTA hne hTB hFB)
         have hc4:=hdr_cell hA4 yn hyn;have hf4:=hdr_free hA4 yn;have hl4:=lt_of_heap hA4;refine⟨Or.inr ⟨⟨_,F2⟩,rfl⟩,?_⟩
         try simp only[Act.put,List.setIfInBounds_toArray,List.set_cons_succ,List.set_cons_zero]
         refine z_reads 11 1 (by kernel_rfl) ⟨⟨_,F2⟩,rfl⟩ ?_;simp only[List.take_succ_cons,List.take_zero,List.drop_succ_cons,List.drop_zero]
         repeat (go_big_quiet_step (fail))
         refine wpQuiet_nil ?_;refine z_one 12 (by kernel_rfl) ?_;refine wpOp_at rfl rfl ?_;clear hJv ho4 hg4 ha4 hlow F2 hA4 hoN F0 E0 F1 k0 k1;generalize hF2 yn=hFy at *;go_simp;refine⟨Or.inl (by kernel_rfl),?_⟩
         try simp only[Act.put,List.setIfInBounds_toArray,List.set_cons_succ,List.set_cons_zero]
         refine z_done (by kernel_rfl) ?_;clear HA HOF HFV HJ;go_wp2
         go_roundg ((toD x.t).length-(j+1))
         case measure=>omega
         case rel=>exact⟨j+1,_,by go_num,by omega,by omega,HG4,HJ5⟩
        ·have HE:Hid (fitsB (tsOf bs)=false):=HNO.out (by omega);have HR2:=Lib.hid HJ.out.2.1;have HB2:=Lib.hid HJ.out.2.2.2.2.2.2;by_cases hy0:y<1
         all_goals
          go_wp2_with (first
           |(refine wpList_load_row (o:=⟨some _,.load 149 _,_,_,_,_⟩) rfl 149 _ rfl (w.heap.size+1) rfl 149 _ (0,0) _ HR2.out Tryz.underlying149 rfl size_walk ?_)
           |(refine wpList_store_row (o:=⟨none,.store 149 _ _,_,_,_,_⟩) rfl 149 _ _ rfl (w.heap.size+1) #[.slice pa pn pc,.slice (some ⟨b,o,none⟩) bn bc,.slice (some ⟨TA,0,none⟩) bn bn,.slice (some ⟨FA,0,none⟩) bn bn] rfl rfl 149 _ HR2.out size_walk rfl (by simp[Value.oneCell']) ?_))
          refine bodyPost_ret (v:=.tuple #[.agg #[.slice pa pn pc,.slice (some ⟨b,o,none⟩) bn bc,.slice (some ⟨TA,0,none⟩) bn bn,.slice (some ⟨FA,0,none⟩) bn bn],.bool false]) ?_ rfl ⟨_,by rw[HE.out],rfl,by simp[Value.oneCell'],below_setRow HB2.out (by omega) _,fun h=>by rw[HE.out] at h;cases h⟩;have hl:=run_loadVar_row (P:=Tryz.prog) _ (w.heap.size+1) 149 149 _ (0,0) _ (setRow_heap _ _ _ #[.slice pa pn pc,.slice (some ⟨b,o,none⟩) bn bc,.slice (some ⟨TA,0,none⟩) bn bn,.slice (some ⟨FA,0,none⟩) bn bn] _ _ HR2.out) Tryz.underlying149 rfl size_walk;simp[results,Tryz.results72,asAddr,Act.put,hl]
       ·obtain rfl:j=(toD x.t).length:=by omega
        have HJ4:Hid (OvJ w pa pn pc (some ⟨b,o,none⟩) bn bc (tsOf bs) TA FA B (k+1) (k+1) 0 hF2 hT2 wr):=by
         have e:(fun y=>intsN (pvAt (tsOf bs) k (toD x.t).length y))=fun y=>intsN (pvAt (tsOf bs) (k+1) 0 y):=by
          funext y
          rw[pvAt_next];rw[nx,HTK.out,List.length_map];exact Nat.le_refl _
         have:=HJ.out;unfold OvJ at this;rw[e] at this;exact this
        have HG4:Hid (∀q,q<k+1→termB ((tsOf bs).getD q zTerm)=true∧∀x∈toD ((tsOf bs).getD q zTerm),1≤x∧x<bn):=fun q hq=>by
         by_cases e:q=k
         ·subst e;rw[HTK.out];refine⟨HTB.out,fun z hz=>?_⟩;obtain⟨r,hr,e⟩:=List.mem_iff_getElem.1 hz;have:=HG2.out r hr;simpa[List.getD_eq_getElem?_getD,hr,e] using this
         ·exact HG.out q (by omega)
        go_wp2
        go_roundg (bn-(k+1))
        case measure=>omega
        case rel=>exact⟨k+1,hF2,hT2,by go_num,by omega,by omega,HG4,HJ4⟩
    ·have htB':termB x.t=false:=by simpa using htB
     have HE:Hid (fitsB (tsOf bs)=false):=good_no (k:=k) (by rw[tsOf_len,HLn.out];exact hlt) (.inl (by rw[HTK.out];exact htB'));have HTB:=Lib.hid htB';clear htB htB';have HR1:=Lib.hid HJ1.out.2.1
     go_wp2_with (first
      |(go_at_call 158
        refine(isTerm_any x.t _ HTX.out).mono ?_;rintro e w2 ⟨rfl,hb2⟩;rw[HTB.out];have HB2:=Lib.hid hb2;have HR2:=Lib.hid (block_ext hb2 HR1.out);have HB2:=Lib.hid (ext_trans hB1 hb2)
        clear hb2)
      |(refine wpList_load_row (o:=⟨some _,.load 149 _,_,_,_,_⟩) rfl 149 _ rfl (w.heap.size+1) rfl 149 _ (0,0) _ HR2.out Tryz.underlying149 rfl size_walk ?_)
      |(refine wpList_store_row (o:=⟨none,.store 149 _ _,_,_,_,_⟩) rfl 149 _ _ rfl (w.heap.size+1) #[.slice pa pn pc,.slice (some ⟨b,o,none⟩) bn bc,.slice (some ⟨TA,0,none⟩) bn bn,.slice (some ⟨FA,0,none⟩) bn bn] rfl rfl 149 _ HR2.out size_walk rfl (by simp[Value.oneCell']) ?_))
     refine bodyPost_ret (v:=.tuple #[.agg #[.slice pa pn pc,.slice (some ⟨b,o,none⟩) bn bc,.slice (some ⟨TA,0,none⟩) bn bn,.slice (some ⟨FA,0,none⟩) bn bn],.bool false]) ?_ rfl ⟨_,by rw[HE.out],rfl,by simp[Value.oneCell'],below_setRow HB2.out (by omega) _,fun h=>by rw[HE.out] at h;cases h⟩;have hl:=run_loadVar_row (P:=Tryz.prog) _ (w.heap.size+1) 149 149 _ (0,0) _ (setRow_heap _ _ _ #[.slice pa pn pc,.slice (some ⟨b,o,none⟩) bn bc,.slice (some ⟨TA,0,none⟩) bn bn,.slice (some ⟨FA,0,none⟩) bn bn] _ _ HR2.out) Tryz.underlying149 rfl size_walk;simp[results,Tryz.results72,asAddr,Act.put,hl]
   ·obtain rfl:k=bn:=by omega
    have hl2:(tsOf bs).length=k:=by rw[tsOf_len,HLn.out]
    have HWK:=Lib.hid (HJ.out.walk hb2 HG.out hl2);have HGD:Hid (goodB (tsOf bs)=true):=by
     rw[Hid,goodB_iff,hl2];refine⟨⟨hb1,hb2⟩,fun t ht=>?_⟩;obtain⟨q,hq,e⟩:=List.mem_iff_getElem.1 ht;have:=HG.out q (by omega);rw[List.getD_eq_getElem?_getD,List.getElem?_eq_getElem hq,Option.getD_some,e] at this;exact this
    have HE:Hid (eqS (zS (walkF (nx (tsOf bs)) (wholeS k) 0)) (wholeS k)=fitsB (tsOf bs)):=by
     rw[Hid,fitsB,HGD.out,Bool.true_and,hl2,Bool.eq_iff_iff];simp only[zS,eqS,List.all_eq_true,List.mem_range,beq_iff_eq,Bool.or_eq_true];constructor
     ·intro h q hq;have:=h q (by omega);by_cases e:q=0
      ·exact .inl e
      ·rw[if_neg e] at this;exact .inr (by rw[this];simpa[wholeS] using hq)
     ·intro h q hq;by_cases e:q=0
      ·subst e;simp[wholeS];omega
      ·rw[if_neg e];by_cases hq2:q<k
       ·rw[(h q hq2).resolve_left e];simp[wholeS,hq2]
       ·have h1:wholeS k q=false:=by simp[wholeS];omega
        rw[h1];cases e2:walkF (nx (tsOf bs)) (wholeS k) 0 q with
        |false=>rfl
        |true=>
         have:=((walkF_iff (whole_canon hb2) 0 q).1 e2).2.inn;rw[h1] at this;cases this
    have HC2:Hid (wr.cell? ⟨w.heap.size+1,2,none⟩=some (.slice (some ⟨TA,0,none⟩) k k)):=by rw[Hid,cell_of_row _ _ _ _ _ _ HJ.out.2.1];rfl
    have hszw:w.heap.size+1<wr.heap.size:=lt_of_heap HJ.out.2.1;clear hl2;go_upto_region 19 with (fail)
    go_cut [9] (fun s9 wx=>∃p9:Nat,s9=.pointer (some ⟨p9,0,none⟩)∧wr.heap.size≤p9∧Hid (wx.heap[p9]? =some (setO (walkF (nx (tsOf bs)) (wholeS k) 0)))∧Hid (wx.heap[w.heap.size+1]? =some (walkO ⟨pa,pn,pc,ba,k,bc,some ⟨TA,0,none⟩,k,some ⟨FA,0,none⟩,k⟩))∧Hid (Below wr.heap.size wr wx))
    case first=>
     refine region_free 7 [some 78,some 79,some 80,some 81,some 82,some 83,some 9] (by kernel_rfl) (by kernel_rfl) (specB [.val (walkV ⟨pa,pn,pc,ba,k,bc,some ⟨TA,0,none⟩,k,some ⟨FA,0,none⟩,k⟩),.val (walkV ⟨pa,pn,pc,ba,k,bc,some ⟨TA,0,none⟩,k,some ⟨FA,0,none⟩,k⟩),.val (.agg (setA (wholeS k))),.val (.pointer (some ⟨w.heap.size+1,2,none⟩)),.val (.slice (some ⟨TA,0,none⟩) k k),.val (.agg (setA (walkF (nx (tsOf bs)) (wholeS k) 0))),.new (setO fun _=>false)]) (specB_mono ?_) ?_ ?_
     ·intro k hk;simp only[List.mem_cons,List.not_mem_nil,or_false] at hk;rcases hk with rfl|rfl|rfl|rfl|rfl|rfl|rfl
      ·exact trivial
      ·exact trivial
      ·exact trivial
      ·exact trivial
      ·exact trivial
      ·exact trivial
      ·exact trivial
     ·intro i hi ν lo hi' w1 K hB hD hK;have hcase:i=0∨i=1∨i=2∨i=3∨i=4∨i=5∨i=6:=by omega
      clear hi;rcases hcase with rfl|rfl|rfl|rfl|rfl|rfl|rfl
      ·clear hD;refine wpOp_atK rfl rfl ?_;simp only[zA,zB,zC,zD,zE,zF,zJ,zK,zG,zH,zI] at hK⊢;refine wp_load_row 149 _ rfl (w.heap.size+1) rfl 149 _ (0,0) _ (block_ext hB HJ.out.2.1) Tryz.underlying149 rfl size_walk ?_;exact hK _ _ (Below.refl _ _) rfl
      ·clear hD;refine wpOp_atK rfl rfl ?_;simp only[zA,zB,zC,zD,zE,zF,zJ,zK,zG,zH,zI] at hK⊢;refine wp_load_row 149 _ rfl (w.heap.size+1) rfl 149 _ (0,0) _ (block_ext hB HJ.out.2.1) Tryz.underlying149 rfl size_walk ?_;exact hK _ _ (Below.refl _ _) rfl
      ·have e1:=hD 1 (by kernel_rfl)
       replace e1:ν 1=(walkV ⟨pa,pn,pc,ba,k,bc,some ⟨TA,0,none⟩,k,some ⟨FA,0,none⟩,k⟩):=e1
       clear hD;refine wpOp_atK rfl rfl ?_;simp only[zA,zB,zC,zD,zE,zF,zJ,zK,zG,zH,zI,e1] at hK⊢;go_simp;refine(whole_any ⟨pa,pn,pc,ba,k,bc,some ⟨TA,0,none⟩,k,some ⟨FA,0,none⟩,k⟩ hb2 w1).mono ?_;rintro e w3 ⟨rfl,hb3⟩;exact hK _ _ hb3 rfl
      ·clear hD;refine wpOp_atK rfl rfl ?_;simp only[zA,zB,zC,zD,zE,zF,zJ,zK,zG,zH,zI] at hK⊢;go_simp;exact hK _ _ (Below.refl _ _) rfl
      ·have e3:=hD 3 (by kernel_rfl)
       replace e3:ν 3=(.pointer (some ⟨w.heap.size+1,2,none⟩)):=e3
       clear hD;refine wpOp_atK rfl rfl ?_;simp only[zA,zB,zC,zD,zE,zF,zJ,zK,zG,zH,zI,e3] at hK⊢;have q0:=cell_ext hB HC2.out;go_simp;exact hK _ _ (Below.refl _ _) rfl
      ·have e0:=hD 0 (by kernel_rfl)
       replace e0:ν 0=(walkV ⟨pa,pn,pc,ba,k,bc,some ⟨TA,0,none⟩,k,some ⟨FA,0,none⟩,k⟩):=e0
       have e2:=hD 2 (by kernel_rfl)
       replace e2:ν 2=(.agg (setA (wholeS k))):=e2
       have e4:=hD 4 (by kernel_rfl)
       replace e4:ν 4=(.slice (some ⟨TA,0,none⟩) k k):=e4
       clear hD;refine wpOp_atK rfl rfl ?_;simp only[zA,zB,zC,zD,zE,zF,zJ,zK,zG,zH,zI,e0,e2,e4] at hK⊢;go_simp;refine(walk_any ⟨pa,pn,pc,ba,k,bc,some ⟨TA,0,none⟩,k,some ⟨FA,0,none⟩,k⟩ 0 (wholeS k) (some ⟨TA,0,none⟩) k k (toRows (tsOf bs)) (nx (tsOf bs)) w1 (by omega) hb2 (fun y hy=>by simpa[wholeS] using hy) (fun k hk=>by simp[toRows,tsOf_len,HLn.out,hk]) (WalkOK.nx_lt (w:=w) (d:=⟨pa,pn,pc,ba,k,bc,some ⟨TA,0,none⟩,k,some ⟨FA,0,none⟩,k⟩) HGD.out).1 (HWK.out.2.2.1.ext hB)).mono ?_;rintro e w3 ⟨rfl,hb3⟩;exact hK _ _ hb3 rfl
      ·clear hD;refine wpOp_atK rfl rfl ?_;simp only[zA,zB,zC,zD,zE,zF,zJ,zK,zG,zH,zI] at hK⊢;go_simp;refine hK _ _ (ext_alloc _ _) ⟨rfl,by simp,?_⟩;rw[heap_alloc_new,zero_set]
     ·intro ν lo hi w1 hB hS hI hD;have e0:ν 0=(walkV ⟨pa,pn,pc,ba,k,bc,some ⟨TA,0,none⟩,k,some ⟨FA,0,none⟩,k⟩):=hS 0 (by omega);have e1:ν 1=(walkV ⟨pa,pn,pc,ba,k,bc,some ⟨TA,0,none⟩,k,some ⟨FA,0,none⟩,k⟩):=hS 1 (by omega);have e2:ν 2=(.agg (setA (wholeS k))):=hS 2 (by omega);have e3:ν 3=(.pointer (some ⟨w.heap.size+1,2,none⟩)):=hS 3 (by omega);have e4:ν 4=(.slice (some ⟨TA,0,none⟩) k k):=hS 4 (by omega);have e5:ν 5=(.agg (setA (walkF (nx (tsOf bs)) (wholeS k) 0))):=hS 5 (by omega);obtain⟨e6,l6,h6⟩:=hS 6 (by omega);clear hS;simp only[List.drop_succ_cons,List.drop_zero,zA,zB,zC,zD,zE,zF,zJ,zK,zG,zH,zI,e0,e1,e2,e3,e4,e5,e6];have i6:=hI 6 (by omega);generalize lo 6=p9 at *;have H6:=Lib.hid h6;have hp9:=i6.1;have HBx:=Lib.hid (below_setRow (g:=p9) hB hp9 (setA (walkF (nx (tsOf bs)) (wholeS k) 0)));clear hI hD hB e0 e1 e2 e3 e4 e5 e6 l6 h6 i6
      go_wp2_with (refine wpList_store_row (o:=⟨none,.store 156 _ _,_,_,_,_⟩) rfl 156 _ _ rfl p9 (setA (walkF (nx (tsOf bs)) (wholeS k) 0)) rfl rfl 156 _ H6.out (by rw[setA_size];exact size_set) rfl (setA_all _) ?_)
      go_meet
      exact⟨p9,rfl,hp9,setRow_heap _ _ _ _ _ _ H6.out,block_ext HBx.out HJ.out.2.1,HBx.out⟩
    case rest=>
     obtain⟨p9,rfl,hp9,HS0,HR0,HB0⟩:=hcut;have hc9:=set_cell HS0.out 0 (by omega);have hf9:=set_free HS0.out 0;have hl9:=lt_of_heap HS0.out;have HS:Hid ((wc.setCell ⟨p9,0,none⟩ (.bool true)).heap[p9]? =some (setO (zS (walkF (nx (tsOf bs)) (wholeS k) 0)))):=set_put HS0.out 0 (by omega) true;have hg9:=grown_setCell wc p9 0 (.bool true);have HR:=Lib.hid (grown_row hg9 HR0.out (by simp;omega));have HBs:=HB0.out.setCell (p:=⟨p9,0,none⟩) hp9 (.bool true);have HWK2:=Lib.hid (HWK.out.ext HBs);have HB:=Lib.hid (ext_trans HJ.out.2.2.2.2.2.2 HBs);clear HC2 hg9 HBs HS0 HR0 HB0;generalize walkF (nx (tsOf bs)) (wholeS k) 0 0=b9 at hc9;go_upto_region 21 with (fail)
     obtain⟨W2,hW2⟩:∃W2,W2=wc.setCell ⟨p9,0,none⟩ (.bool true):=⟨_,rfl⟩
     rw[←hW2] at HS HR HWK2 HB⊢;clear hc9 hf9 hl9 hW2;refine region_free 6 [some 85,some 86,some 87,some 88,some 89,none] (by kernel_rfl) (by kernel_rfl) (specB [.val (walkV ⟨pa,pn,pc,ba,k,bc,some ⟨TA,0,none⟩,k,some ⟨FA,0,none⟩,k⟩),.val (.agg (setA (zS (walkF (nx (tsOf bs)) (wholeS k) 0)))),.val (walkV ⟨pa,pn,pc,ba,k,bc,some ⟨TA,0,none⟩,k,some ⟨FA,0,none⟩,k⟩),.val (.agg (setA (wholeS k))),.val (.bool (eqS (zS (walkF (nx (tsOf bs)) (wholeS k) 0)) (wholeS k))),(.any fun _ _ _ _=>True)]) (specB_mono ?_) ?_ ?_
     ·intro k hk;simp only[List.mem_cons,List.not_mem_nil,or_false] at hk;rcases hk with rfl|rfl|rfl|rfl|rfl|rfl
      ·exact trivial
      ·exact trivial
      ·exact trivial
      ·exact trivial
      ·exact trivial
      ·exact fun _ _ _ _ _ _ h=>h
     ·intro i hi ν lo hi' w1 K hB hD hK;have hcase:i=0∨i=1∨i=2∨i=3∨i=4∨i=5:=by omega
      clear hi;rcases hcase with rfl|rfl|rfl|rfl|rfl|rfl
      ·clear hD;refine wpOp_atK rfl rfl ?_;simp only[zA,zB,zC,zD,zE,zF,zJ,zK,zG,zH,zI] at hK⊢;refine wp_load_row 149 _ rfl (w.heap.size+1) rfl 149 _ (0,0) _ (block_ext hB HR.out) Tryz.underlying149 rfl size_walk ?_;exact hK _ _ (Below.refl _ _) rfl
      ·clear hD;refine wpOp_atK rfl rfl ?_;simp only[zA,zB,zC,zD,zE,zF,zJ,zK,zG,zH,zI] at hK⊢;refine wp_load_row 156 _ rfl p9 rfl 156 _ (0,0) _ (block_ext hB HS.out) Tryz.underlying156 rfl (by rw[setA_size];exact size_set) ?_;exact hK _ _ (Below.refl _ _) rfl
      ·clear hD;refine wpOp_atK rfl rfl ?_;simp only[zA,zB,zC,zD,zE,zF,zJ,zK,zG,zH,zI] at hK⊢;refine wp_load_row 149 _ rfl (w.heap.size+1) rfl 149 _ (0,0) _ (block_ext hB HR.out) Tryz.underlying149 rfl size_walk ?_;exact hK _ _ (Below.refl _ _) rfl
      ·have e2:=hD 2 (by kernel_rfl)
       replace e2:ν 2=(walkV ⟨pa,pn,pc,ba,k,bc,some ⟨TA,0,none⟩,k,some ⟨FA,0,none⟩,k⟩):=e2
       clear hD;refine wpOp_atK rfl rfl ?_;simp only[zA,zB,zC,zD,zE,zF,zJ,zK,zG,zH,zI,e2] at hK⊢;go_simp;refine(whole_any ⟨pa,pn,pc,ba,k,bc,some ⟨TA,0,none⟩,k,some ⟨FA,0,none⟩,k⟩ hb2 w1).mono ?_;rintro e w3 ⟨rfl,hb3⟩;exact hK _ _ hb3 rfl
      ·have e1:=hD 1 (by kernel_rfl)
       replace e1:ν 1=(.agg (setA (zS (walkF (nx (tsOf bs)) (wholeS k) 0)))):=e1
       have e3:=hD 3 (by kernel_rfl)
       replace e3:ν 3=(.agg (setA (wholeS k))):=e3
       clear hD;refine wpOp_atK rfl rfl ?_;simp only[zA,zB,zC,zD,zE,zF,zJ,zK,zG,zH,zI,e1,e3] at hK⊢;have heq:=equal_set w1 (zS (walkF (nx (tsOf bs)) (wholeS k) 0)) (wholeS k);go_simp;exact hK _ _ (Below.refl _ _) rfl
      ·have e0:=hD 0 (by kernel_rfl)
       replace e0:ν 0=(walkV ⟨pa,pn,pc,ba,k,bc,some ⟨TA,0,none⟩,k,some ⟨FA,0,none⟩,k⟩):=e0
       have e2:=hD 2 (by kernel_rfl)
       replace e2:ν 2=(walkV ⟨pa,pn,pc,ba,k,bc,some ⟨TA,0,none⟩,k,some ⟨FA,0,none⟩,k⟩):=e2
       have e3:=hD 3 (by kernel_rfl)
       replace e3:ν 3=(.agg (setA (wholeS k))):=e3
       clear hD;refine wpOp_atK rfl rfl ?_;simp only[zA,zB,zC,zD,zE,zF,zJ,zK,zG,zH,zI,e0,e2,e3] at hK⊢;have hr1:=block_ext hB HR.out;refine wp_store_row 149 _ _ rfl (w.heap.size+1) _ rfl rfl 149 _ hr1 size_walk rfl (by simp[Value.oneCell']) ?_;rw[setRow_self _ _ _ _ _ hr1];exact hK undef _ (Below.refl _ _) trivial
     ·intro ν lo hi w1 hB hS hI hD;have e0:ν 0=(walkV ⟨pa,pn,pc,ba,k,bc,some ⟨TA,0,none⟩,k,some ⟨FA,0,none⟩,k⟩):=hS 0 (by omega);have e1:ν 1=(.agg (setA (zS (walkF (nx (tsOf bs)) (wholeS k) 0)))):=hS 1 (by omega);have e2:ν 2=(walkV ⟨pa,pn,pc,ba,k,bc,some ⟨TA,0,none⟩,k,some ⟨FA,0,none⟩,k⟩):=hS 2 (by omega);have e3:ν 3=(.agg (setA (wholeS k))):=hS 3 (by omega);have e4:ν 4=(.bool (eqS (zS (walkF (nx (tsOf bs)) (wholeS k) 0)) (wholeS k))):=hS 4 (by omega);have e5:=hS 5 (by omega);unfold specB at e5;simp only[List.getD_cons_zero,List.getD_cons_succ,specK] at e5;clear hS;simp only[List.drop_succ_cons,List.drop_zero,zA,zB,zC,zD,zE,zF,zJ,zK,zG,zH,zI,e0,e1,e2,e3,e4];have hB9:=ext_trans HB.out hB;have hR9:=block_ext hB HR.out;have hW9:=HWK2.out.ext hB;clear hI hD hB e0 e1 e2 e3 e4 e5;go_wp2;refine bodyPost_ret (v:=.tuple #[walkV ⟨pa,pn,pc,ba,k,bc,some ⟨TA,0,none⟩,k,some ⟨FA,0,none⟩,k⟩,.bool (eqS (zS (walkF (nx (tsOf bs)) (wholeS k) 0)) (wholeS k))]) ?_ rfl ⟨_,by rw[HE.out],rfl,by simp[Value.oneCell'],hB9,fun _=>⟨_,_,_,_,rfl,hW9⟩⟩;have hl:=run_loadVar_row (P:=Tryz.prog) _ (w.heap.size+1) 149 149 _ (0,0) _ hR9 Tryz.underlying149 rfl size_walk;simp[results,Tryz.results72,asAddr,Act.put,hl]
end
end Go.Proofs.YthgebcfohnlhlaaGreatDoor
