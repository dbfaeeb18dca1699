/-
 Edge:rows.
-/
import Derived.Test.YtnmkjliioogbgaaGreatDoorFreeL
namespace Go.Proofs.YtnmkjliioogbgaaGreatDoor
set_option linter.unusedSimpArgs false
set_option linter.unusedVariables false
set_option linter.unusedSectionVars false
set_option maxRecDepth 100000
set_option maxHeartbeats 40000000
section
open Go.RowKit Go.Shelf
attribute [local go_sem] Oper.semAt_some wide_fn wide_depth wide_fnR wide_depthR
def RowsPost(ts:List TermD)(l:List TileD)(ask:EdgeD→Bool)(w:World)(e:Ending)(w':World):Prop:=
 ∃v,e=.returned (.tuple #[v,.int .i64 (overErr ts l)])∧Below w.heap.size w w'∧(rightB ts l=false→v=.slice none 0 0)∧(rightB ts l=true→∃hs,RowsIn w' w.heap.size v hs∧hs.map (·.r)=rowsL ts l ask)
abbrev askO(af:Nat)(ab:Array Value):Obj:=.cells #[.func (.func af) ab #[]] 186
theorem RJ.skip{w1:World}{B:Nat}{l:List TileD}{ask:EdgeD→Bool}{d:List EdgeD}{x:EdgeD}{W:World}(h:RJ w1 B l ask d W)(hx:betwB l ask x=false):RJ w1 B l ask (d++ [x]) W:=by
 obtain⟨v,hs,h1,h2,h3,h4⟩:=h
 refine⟨v,hs,h1,h2,?_,h4⟩
 rw[rowsTo_step,hx,h3]
 simp
theorem three_ext(w:World)(o1 o2 o3:Obj):Below w.heap.size w (((w.alloc o1).alloc o2).alloc o3):=(((Below.refl _ w).alloc (Nat.le_refl _) _).alloc (by simp) _).alloc (by simp;omega) _
theorem rows_any(pa:Option Addr)(pn pc:Nat)(ba:Option Addr)(bn bc:Nat)(bs:List BlkH)(a:Option Addr)(n c:Nat)(ls:List TileR)(af:Nat)(ab:Array Value)(eF:∀args w,(callFunc af args).run Tryz.prog w=.ok (.enter af args) w)(ask:EdgeD→Bool)(w:World)(h:BlksOK w ba bn bs)(ht:TilesOK w a n ls)(hT:totL (tdOf ls)≤1000000)
  (hp:∀(x:EdgeD) (W:World) (base:Nat) (v:Value),x∈allE (tsOf bs)→AroundOK W base (tdOf ls) bn a n c v→Calls Tryz.prog af (ab++ #[v,edgeV x]) W fun e W'=>e=.returned (.bool (ask x))∧Below W.heap.size W W'):
  Calls Tryz.prog 104 #[funcV pa pn pc ba bn bc,.slice a n c,.func (.func af) ab #[]] w (RowsPost (tsOf bs) (tdOf ls) ask w):=by
 have H:=Lib.hid h
 have HT:=Lib.hid ht
 have HP:=Lib.hid hp
 have EF:=Lib.hid eF
 clear h ht hp
 refine(callsIn_wide (n:=0)).1 ?_
 refine callsIn_of_wp_marks Tryz.func104 rfl trivial ?_
 simp only[Tryz.ntmps104,List.size_toArray,List.length_cons,List.length_nil,Nat.reduceAdd,Nat.reduceSub,Array.replicate_succ,Array.replicate_zero,List.push_toArray,List.append_toArray,List.nil_append,List.cons_append]
 cases hr:rightB (tsOf bs) (tdOf ls) with
 |false=>
  have HR:=Lib.hid hr;have HE:Hid (overErr (tsOf bs) (tdOf ls)≠0):=by
   simp only[Hid,overErr,hr]
   split<;>simp
  clear hr
  gi_wp2_with (
   (gi_at_call 143
    refine(callsIn_wide.2 (overE_any pa pn pc ba bn bc bs a n c ls _ (H.out.ext (three_ext w _ _ _)) (HT.out.ext (three_ext w _ _ _)) hT)).mono ?_;rintro e w2 ⟨cs,rfl,_,_,hb,h0,_⟩;obtain rfl:=h0 HR.out;have hx2:w2.heap[w.heap.size+1+1]? =some (.cells #[.slice none 0 0] 146 (0,0)):=(by have:=block_ext hb (heap_alloc_new _ _);simpa using this)
    have c6:w2.cell? ⟨w.heap.size+1+1,0,none⟩=some (.slice none 0 0):=(by rw[cell_of_row _ _ _ _ _ _ hx2];rfl)
    have f6:w2.frozen? ⟨w.heap.size+1+1,0,none⟩=false:=frozen_of_row _ _ _ _ _ hx2;have hsz:w.heap.size+1+1<w2.heap.size:=(by have:=hb.size;simp at this;omega)
    have HB2:Hid (Below w.heap.size w w2):=((three_ext w _ _ _).trans (hb.mono (by simp;omega)))
    have he:(overErr (tsOf bs) (tdOf ls) != 0)=true:=(by simpa using HE.out)
    generalize hE:overErr (tsOf bs) (tdOf ls)=er at*
    clear hb h0))
  have hx9:=block_ext (ext_alloc _ (.cells #[.slice none 0 0,.slice none 0 0,.map none] 227)) (heap_setCell_same w2 (w.heap.size+1+1) 0 _ _ (.slice none 0 0) hx2);have hB9:Below w.heap.size w ((w2.setCell ⟨w.heap.size+1+1,0,none⟩ (.slice none 0 0)).alloc (.cells #[.slice none 0 0,.slice none 0 0,.map none] 227)):=ext_trans (HB2.out.setCell (by show w.heap.size≤w.heap.size+1+1;omega) _) (ext_alloc _ _);generalize ((w2.setCell ⟨w.heap.size+1+1,0,none⟩ (.slice none 0 0)).alloc (.cells #[.slice none 0 0,.slice none 0 0,.map none] 227))=W9 at *;have c9:W9.cell? ⟨w.heap.size+1+1,0,none⟩=some (.slice none 0 0):=by rw[cell_of_row _ _ _ _ _ _ hx9];rfl
  exact⟨.tuple #[.slice none 0 0,.int .i64 er],by simp[results,Tryz.results104,go_sem,asAddr,c9],_,by rw[hE],hB9,fun _=>rfl,fun h=>by rw[HR.out] at h;cases h⟩
 |true=>
  have HR:=Lib.hid hr;have HE:Hid (overErr (tsOf bs) (tdOf ls)=0):=by simp[Hid,overErr,right_fits hr,hr]
  clear hr
  gi_wp2_with (first
   |(gi_at_call 144
     refine(callsIn_wide.2 (each40_any pa pn pc ba bn bc _)).mono ?_
     rintro e w3 ⟨rfl,rfl⟩)
   |(gi_at_call 143
     refine(callsIn_wide.2 (overE_any pa pn pc ba bn bc bs a n c ls _ (H.out.ext (three_ext w _ _ _)) (HT.out.ext (three_ext w _ _ _)) hT)).mono ?_;rintro e w2 ⟨cs,rfl,_,_,hb,_,hok⟩;rw[HE.out];have hk2:w2.heap[w.heap.size]? =some (funcO pa pn pc ba bn bc):=(by have:=block_ext hb (block_ext (ext_trans (ext_alloc _ _) (ext_alloc _ _)) (heap_alloc_new w (funcO pa pn pc ba bn bc)));simpa using this)
     have hp2:w2.heap[w.heap.size+1]? =some (askO af ab):=(by have:=block_ext hb (block_ext (ext_alloc _ _) (heap_alloc_new (w.alloc (funcO pa pn pc ba bn bc)) (askO af ab)));simpa using this)
     have hx2:w2.heap[w.heap.size+1+1]? =some (.cells #[.slice none 0 0] 146 (0,0)):=(by have:=block_ext hb (heap_alloc_new _ _);simpa using this)
     have k0:w2.cell? ⟨w.heap.size,0,none⟩=some (.slice pa pn pc):=(by rw[cell_of_row _ _ _ _ _ _ hk2];rfl)
     have k1:w2.cell? ⟨w.heap.size,1,none⟩=some (.slice ba bn bc):=(by rw[cell_of_row _ _ _ _ _ _ hk2];rfl)
     have hsz:w.heap.size+1+1<w2.heap.size:=(by have:=hb.size;simp at this;omega)
     have hsz0:w.heap.size<w2.heap.size:=(by omega)
     have HB2:Hid (Below w.heap.size w w2):=((three_ext w _ _ _).trans (hb.mono (by simp;omega)))
     have HP2:=Lib.hid hp2;have HX2:=Lib.hid hx2;have har:=hok HR.out;have har2:=har;obtain⟨g,cc,M,ecs,_⟩:=har2;injection ecs with ecs;subst ecs;have HAR:=Lib.hid har;clear har
     clear hb hok hk2 hp2 hx2))
  obtain⟨W1,hW1⟩:∃W1,W1=(w2.alloc (aroundO a n c (.slice (some ⟨g,0,none⟩) bn cc) (some M))).alloc (funcO pa pn pc ba bn bc):=⟨_,rfl⟩
  rw[←hW1];have hb12:Below w2.heap.size w2 W1:=by rw[hW1];exact ext_trans (ext_alloc _ _) (ext_alloc _ _)
  have ha1:W1.heap[w2.heap.size]? =some (aroundO a n c (.slice (some ⟨g,0,none⟩) bn cc) (some M)):=by rw[hW1];exact block_ext (ext_alloc _ _) (heap_alloc_new _ _)
  have hg1:W1.heap[w2.heap.size+1]? =some (funcO pa pn pc ba bn bc):=by rw[hW1];have:=heap_alloc_new (w2.alloc (aroundO a n c (.slice (some ⟨g,0,none⟩) bn cc) (some M))) (funcO pa pn pc ba bn bc);simpa using this
  have hs1:W1.heap.size=w2.heap.size+1+1:=by rw[hW1];simp
  have hp1:=block_ext hb12 HP2.out;have hx1:=block_ext hb12 HX2.out;have har1:=HAR.out.ext hb12;have hb1:=ext_trans HB2.out hb12;generalize w2.heap.size=ga at *;have hbase:w.heap.size+1+1<(((w.alloc (.cells #[.slice pa pn pc,.slice ba bn bc] 40)).alloc (.cells #[.func (.func af) ab #[]] 186)).alloc (.cells #[.slice none 0 0] 146)).heap.size:=by simp
  generalize hbs:(((w.alloc (.cells #[.slice pa pn pc,.slice ba bn bc] 40)).alloc (.cells #[.func (.func af) ab #[]] 186)).alloc (.cells #[.slice none 0 0] 146)).heap.size=base at *;have HA1:=Lib.hid ha1;have HG1:=Lib.hid hg1;have HP1:=Lib.hid hp1;have HX1:=Lib.hid hx1;have HAR1:=Lib.hid har1;have HB1:=Lib.hid hb1;have HB12:=Lib.hid hb12;have HS1:=Lib.hid hs1;clear hW1 hb12 ha1 hg1 hp1 hx1 har1 hb1 hs1 HP2 HX2 HAR HB2 k0 k1 hbs;have hbl:(tsOf bs).length=bn:=by rw[tsOf_len];exact H.out.1.1
  have hlen:(edgesL (tsOf bs)).length≤400:=by
   have h1:=edgesL_len (tsOf bs);have:=((goodB_iff _).1 (fits_good (right_fits HR.out))).1.2;omega
  have hBW:w.heap.size+1+1<W1.heap.size:=by have:=HS1.out;omega
  refine range_listTB (ps:=#[22]) (gf:=172) (lb:=#[.pointer (some ⟨ga+1,0,none⟩)]) (enc:=encE) (l:=edgesL (tsOf bs)) rfl enter_eachE _ (eachE_iterTI pa pn pc ba bn bc bs (ga+1)) (fun _=>rfl)
   (fun d r W=>Hid (RJ W1 (w.heap.size+1+1) (tdOf ls) ask d W)) (fun _ _=>False) (fun d r=>RJ.steady (Nat.le_refl _)) (fun c=>Steady.pure _ _) ?inv (TV (w.heap.size+1+1) 146) ?t0 ?tg ?start ?round ?done ?stop
  case inv=>
   intro d r W h;obtain⟨v,hs,_,_,_,hgr,_⟩:=h.out;refine⟨(hgr.block _ (by have:=HS1.out;omega) (fun e=>by injection e with e;omega)).trans HG1.out,H.out.ext (HB1.out.grown hgr HB1.out.size (fun q e=>by injection e with e;omega))⟩
  case t0=>
   intro d r W k h ht;obtain⟨v,hs,hv,ho,_,hgr,h1⟩:=h.out;rcases ht with rfl|⟨u,hu,hk⟩
   ·exact(Array.getElem?_eq_some_iff.1 hv).1
   ·rw[hv] at hu;simp only[Option.some.injEq,Obj.cells.injEq,Array.mk.injEq,List.cons.injEq,and_true] at hu;subst hu;exact(ho.1.low hk).2
  case tg=>
   rintro W W' row hg hr ⟨d,r,h⟩ k ht;obtain⟨v,hs,hv,_⟩:=h.out;refine ht.ext (hg.block _ (Array.getElem?_eq_some_iff.1 hv).1 fun e=>?_);obtain⟨_,o,ho,hb⟩:=hr _ e.symm;rw[hv] at ho;cases ho;cases hb
  case start=>exact⟨_,[],HX1.out,RowsIn.nil _ _,rfl,grown_refl _ _,hBW⟩
  case round=>
   rintro lp d x r W hd hJ;unfold encE
   gi_wp2
   obtain⟨v1,hs1,hv1,ho1,hm1,hgr1,hlt1⟩:=hJ.out;have hvl:=(Array.getElem?_eq_some_iff.1 hv1).1;have hbW:Below W.heap.size W (W.alloc (.cells #[.int .i64 x.fr,.int .i64 x.arm,.int .i64 x.to] 189)):=ext_alloc _ _;refine⟨Keep.ext hbW,(RJ.steady (Nat.le_refl _)).ext hJ hbW,tch_below hvl hbW,fun W2=>W2.heap[W.heap.size]? =some (edgeO x)∧W1.heap.size≤W.heap.size,(Steady.block _ _ rfl).and (Steady.pure _ _),⟨heap_alloc_new _ _,hgr1.size⟩,?_⟩;generalize W.heap.size=ge at *;clear hv1 ho1 hm1 hgr1 hlt1 hvl hbW hJ lp;rintro lp W2 hJ ⟨hG,hge⟩;have hxm:x∈allE (tsOf bs):=by
    rw[allE,if_pos (right_fits HR.out),hd];simp
   have hxb:=allE_mem hxm;obtain⟨fr,arm,tt⟩:=x;simp only at hxb;obtain⟨i,rfl⟩:∃i:Nat,fr=i:=⟨fr.toNat,by omega⟩
   obtain⟨j,rfl⟩:∃j:Nat,tt=j:=⟨tt.toNat,by omega⟩
   have HXM:=Lib.hid hxm;have hin:i<bn:=by omega
   have hjn:j<bn:=by omega
   have hdl:d.length≤400:=by rw[hd] at hlen;simp at hlen;omega
   clear hd;obtain⟨v,hs,hv,hrows,hmap,hgr,hBlt⟩:=hJ.out;obtain⟨av,cv,rfl⟩:=hrows.1.form;have hsl:hs.length≤1000:=by
    have e1:=congrArg List.length hmap;have e2:=rowsTo_len (tdOf ls) ask d;simp at e1;omega
   have ha2:W2.heap[ga]? =some (aroundO a n c (.slice (some ⟨g,0,none⟩) bn cc) (some M)):=(hgr.block _ (by have:=HS1.out;omega) (fun e=>by injection e with e;omega)).trans HA1.out;have hp2:W2.heap[w.heap.size+1]? =some (askO af ab):=(hgr.block _ (by have:=HS1.out;omega) (fun e=>by injection e with e;omega)).trans HP1.out;have har2:=HAR1.out.grown hgr (fun q e=>by injection e with e;left;omega);obtain⟨g',cc',M',ecs,hown,_⟩:=id har2;injection ecs with ecs;injection ecs with ecs;simp only[List.cons.injEq,Value.slice.injEq,Option.some.injEq,Addr.mk.injEq,Value.map.injEq,and_true,true_and] at ecs;obtain⟨⟨rfl,rfl⟩,rfl⟩:=ecs;obtain⟨b1,o1,e1,ci,_⟩:=hown.2.2 i hin;injection e1 with e1;injection e1 with e1 e2;subst e1 e2;obtain⟨b1,o1,e1,cj,_⟩:=hown.2.2 j hjn;injection e1 with e1;injection e1 with e1 e2;subst e1 e2;have hvi:(ownL (tdOf ls) bn).getD i 0=(ownF (tdOf ls) i:Int):=by
    have:(List.range bn)[i]? =some i:=by rw[List.getElem?_range hin]
    simp[ownL,List.getD_eq_getElem?_getD,this]
   have hvj:(ownL (tdOf ls) bn).getD j 0=(ownF (tdOf ls) j:Int):=by
    have:(List.range bn)[j]? =some j:=by rw[List.getElem?_range hjn]
    simp[ownL,List.getD_eq_getElem?_getD,this]
   rw[hvi,Nat.zero_add] at ci;rw[hvj,Nat.zero_add] at cj;have q0:∀n':ExtW W2,n'.val.cell? ⟨ga,0,none⟩=some (.slice a n c):=ExtW.cell (by rw[cell_of_row _ _ _ _ _ _ ha2];rfl);have q1:∀n':ExtW W2,n'.val.cell? ⟨ga,1,none⟩=some (.slice (some ⟨g,0,none⟩) bn cc):=ExtW.cell (by rw[cell_of_row _ _ _ _ _ _ ha2];rfl);have q2:∀n':ExtW W2,n'.val.cell? ⟨ga,2,none⟩=some (.map (some M)):=ExtW.cell (by rw[cell_of_row _ _ _ _ _ _ ha2];rfl);have q3:∀n':ExtW W2,n'.val.cell? ⟨ge,0,none⟩=some (.int .i64 (i:Int)):=ExtW.cell (by rw[cell_of_row _ _ _ _ _ _ hG];rfl);have q4:∀n':ExtW W2,n'.val.cell? ⟨ge,1,none⟩=some (.int .i64 arm):=ExtW.cell (by rw[cell_of_row _ _ _ _ _ _ hG];rfl);have q5:∀n':ExtW W2,n'.val.cell? ⟨ge,2,none⟩=some (.int .i64 (j:Int)):=ExtW.cell (by rw[cell_of_row _ _ _ _ _ _ hG];rfl);have q6:∀n':ExtW W2,n'.val.cell? ⟨w.heap.size+1,0,none⟩=some (.func (.func af) ab #[]):=ExtW.cell (by rw[cell_of_row _ _ _ _ _ _ hp2];rfl);have q7:=ExtW.cell ci;have q8:=ExtW.cell cj;have hi0:(0:Int)≤(i:Int)∧(i:Int)<(bn:Int):=by omega
   have hj0:(0:Int)≤(j:Int)∧(j:Int)<(bn:Int):=by omega
   have HNE:Nonempty (ExtW W2):=⟨⟨W2,Below.refl _ _⟩⟩
   have HBE:Hid (betwB (tdOf ls) ask ⟨i,arm,j⟩=((ownF (tdOf ls) i != ownF (tdOf ls) j)&&ask ⟨i,arm,j⟩)):=rfl;have HROW:=Lib.hid hrows;have HMAP:=Lib.hid hmap;have HGR:=Lib.hid hgr;have HV:=Lib.hid hv;have HJ:=Lib.hid hJ;have HE2:=Lib.hid hG;have HA2:=Lib.hid ha2;have HAR2:=Lib.hid har2;clear hrows hmap hgr hv hJ hG ha2 har2 hp2 hown ci cj hvi hvj hxb hxm;cases hq:((ownF (tdOf ls) i:Int)==(ownF (tdOf ls) j:Int)) with
   |true=>
    gi_wp2
    refine round_ext (by kernel_rfl) (by kernel_rfl) (by kernel_rfl) (by repeat (first|exact noOut_round|refine noOut_then ?_|refine noOut_block ?_)) ?_
    repeat (first
     |go_big_quiet_skip
     |go_big_quiet_step (fail))
    refine wpQuiet_nil ?_;intro _ hw';obtain⟨n',rfl⟩:=hw'
    gi_wp2
    have hbf:betwB (tdOf ls) ask ⟨i,arm,j⟩=false:=by
     rw[HBE.out]
     have:ownF (tdOf ls) i=ownF (tdOf ls) j:=by have h9:(ownF (tdOf ls) i:Int)=(ownF (tdOf ls) j:Int):=by simpa using hq
                                                omega
     simp[this]
    have hJ2:=(RJ.steady (D:=W1.heap.size) (Nat.le_refl _)).ext HJ.out n'.ext;exact⟨Keep.ext n'.ext,hJ2.skip hbf,tch_below (Array.getElem?_eq_some_iff.1 HV.out).1 n'.ext⟩
   |false=>
    have hne:ownF (tdOf ls) i≠ownF (tdOf ls) j:=by intro e;rw[e] at hq;simp at hq
    cases hask:ask ⟨i,arm,j⟩ with
    |false=>
     have HSQ:Hid (∀n':ExtW W2,Calls Tryz.prog af (ab++ #[.agg #[.slice a n c,.slice (some ⟨g,0,none⟩) bn cc,.map (some M)],edgeV ⟨i,arm,j⟩]) n'.val fun e w''=>e=.returned (.bool false)∧∃m:ExtW W2,w''=m.val):=fun n'=>by
      have:=HP.out ⟨i,arm,j⟩ n'.val base _ HXM.out (HAR2.out.ext n'.ext);rw[hask] at this;exact quiet_ext this
     have hbf:betwB (tdOf ls) ask ⟨i,arm,j⟩=false:=by rw[HBE.out,hask];simp
     have HBF:=Lib.hid hbf;clear hask hbf
     gi_wp2
     refine round_ext (by kernel_rfl) (by kernel_rfl) (by kernel_rfl) (by repeat (first|exact noOut_round|refine noOut_then ?_|refine noOut_block ?_)) ?_
     repeat (first
      |go_big_quiet_skip
      |go_big_quiet_step (first
       |exact HSQ.out _))
     refine wpQuiet_nil ?_;intro _ hw';obtain⟨n',rfl⟩:=hw'
     gi_wp2
     have hJ2:=(RJ.steady (D:=W1.heap.size) (Nat.le_refl _)).ext HJ.out n'.ext;exact⟨Keep.ext n'.ext,hJ2.skip HBF.out,tch_below (Array.getElem?_eq_some_iff.1 HV.out).1 n'.ext⟩
    |true=>
     have HSQ:Hid (∀n':ExtW W2,Calls Tryz.prog af (ab++ #[.agg #[.slice a n c,.slice (some ⟨g,0,none⟩) bn cc,.map (some M)],edgeV ⟨i,arm,j⟩]) n'.val fun e w''=>e=.returned (.bool true)∧∃m:ExtW W2,w''=m.val):=fun n'=>by
      have:=HP.out ⟨i,arm,j⟩ n'.val base _ HXM.out (HAR2.out.ext n'.ext);rw[hask] at this;exact quiet_ext this
     have hbt:betwB (tdOf ls) ask ⟨i,arm,j⟩=true:=by rw[HBE.out,hask];simpa using hne
     have HBT:=Lib.hid hbt;have HOW:=right_own HR.out;rw[hbl] at HOW;have hpar:=right_parents HR.out;have hln:(tdOf ls).length≤200:=right_len HR.out;have hli:(inL (tdOf ls) (i:Int)).length≤1000:=by have:=inL_len hpar (i:Int) (own_lt HOW hin);omega
     have hlj:(inL (tdOf ls) (j:Int)).length≤1000:=by have:=inL_len hpar (j:Int) (own_lt HOW hjn);omega
     have HLi:=Lib.hid hli;have HLj:=Lib.hid hlj;clear hask hbt HOW hpar hln hli hlj
     gi_wp2
     refine round_ext (by kernel_rfl) (by kernel_rfl) (by kernel_rfl) (by repeat (first|exact noOut_round|refine noOut_then ?_|refine noOut_block ?_)) ?_
     repeat (first
      |go_big_quiet_skip
      |go_big_quiet_step (first
       |exact HSQ.out _))
     refine wpQuiet_nil ?_;intro _ hw';obtain⟨n',rfl⟩:=hw';obtain⟨W3,hW3⟩:∃W3,W3=n'.val:=⟨_,rfl⟩
     have hb3:Below W2.heap.size W2 W3:=by rw[hW3];exact n'.ext
     rw[←hW3];have HE3:=Lib.hid (block_ext hb3 HE2.out);have HA3:=Lib.hid (block_ext hb3 HA2.out);have HAR3:=Lib.hid (HAR2.out.ext hb3);have HB3:=Lib.hid hb3;clear hW3 n' hb3 HSQ q0 q1 q2 q3 q4 q5 q6 q7 q8 HE2 HA2 HAR2 HNE
     gi_wp2
     refine round_freeL 15 [some 43,some 44,some 45,some 46,some 47,some 48,some 49,some 50,some 51,some 52,some 53,some 54,some 55,some 56,some 10] (by kernel_rfl) (by kernel_rfl) (by repeat (first|exact noOut_round|refine noOut_then ?_|refine noOut_block ?_)) (by kernel_rfl) (specB [.val (edgeV ⟨(i:Int),arm,(j:Int)⟩),.val (.agg #[.slice a n c,.slice (some ⟨g,0,none⟩) bn cc,.map (some M)]),.val (.pointer (some ⟨ge,0,none⟩)),.val (.int .i64 (i:Int)),.val (.pointer (some ⟨ge,2,none⟩)),.val (.int .i64 (j:Int)),(.any fun v lo hi W=>OwnI W lo v (besL (tdOf ls) (i:Int) (j:Int))∧∀q,v.ownBlock=some q→q<hi),.val (.agg #[.slice a n c,.slice (some ⟨g,0,none⟩) bn cc,.map (some M)]),.val (.pointer (some ⟨ge,2,none⟩)),.val (.int .i64 (j:Int)),.val (.pointer (some ⟨ge,0,none⟩)),.val (.int .i64 (i:Int)),(.any fun v lo hi W=>OwnI W lo v (besL (tdOf ls) (j:Int) (i:Int))∧∀q,v.ownBlock=some q→q<hi),(.any fun v lo hi W=>True),(.new (.cells #[.int .i64 0,.int .i64 0,.int .i64 0,.slice none 0 0,.slice none 0 0] 191))]) (fun i9 v ν=>i9=13→v=.agg #[.int .i64 (i:Int),.int .i64 arm,.int .i64 (j:Int),ν 6,ν 12]) (fun i9 v ν ν' hc hk e=>by subst e;have h6:=hc 6 (by kernel_rfl);have h12:=hc 12 (by kernel_rfl);rw[←h6,←h12];exact hk rfl) (specB_mono ?_) ?_ ?_
     ·intro k hk;simp only[List.mem_cons,List.not_mem_nil,or_false] at hk;rcases hk with rfl|rfl|rfl|rfl|rfl|rfl|rfl|rfl|rfl|rfl|rfl|rfl|rfl|rfl|rfl
      ·exact trivial
      ·exact trivial
      ·exact trivial
      ·exact trivial
      ·exact trivial
      ·exact trivial
      ·intro v lo hi w w' hb ⟨ho,hq⟩;exact⟨ho.ext hb,hq⟩
      ·exact trivial
      ·exact trivial
      ·exact trivial
      ·exact trivial
      ·exact trivial
      ·intro v lo hi w w' hb ⟨ho,hq⟩;exact⟨ho.ext hb,hq⟩
      ·intro v lo hi w w' hb _;exact trivial
      ·exact trivial
     ·intro i hi ν lo hi' w1 K hB hD hK;have hcase:i=0∨i=1∨i=2∨i=3∨i=4∨i=5∨i=6∨i=7∨i=8∨i=9∨i=10∨i=11∨i=12∨i=13∨i=14:=by omega
      clear hi;rcases hcase with rfl|rfl|rfl|rfl|rfl|rfl|rfl|rfl|rfl|rfl|rfl|rfl|rfl|rfl|rfl
      ·replace hK:=fun v w'' h1 h2=>hK v w'' h1 h2 (fun e=>by cases e)
       clear hD;refine wpOp_atK rfl rfl ?_;simp only[zA,zB,zC,zD,zE,zF,zJ,zK,zG,zH,zI] at hK⊢;refine wp_load_row 189 _ rfl ge rfl 189 _ (0,0) _ (block_ext hB HE3.out) Tryz.underlying189 rfl size_edge ?_;exact hK _ _ (Below.refl _ _) rfl
      ·replace hK:=fun v w'' h1 h2=>hK v w'' h1 h2 (fun e=>by cases e)
       clear hD;refine wpOp_atK rfl rfl ?_;simp only[zA,zB,zC,zD,zE,zF,zJ,zK,zG,zH,zI] at hK⊢;refine wp_load_row 227 _ rfl ga rfl 227 _ (0,0) _ (block_ext hB HA3.out) Tryz.underlying227 rfl size_around ?_;exact hK _ _ (Below.refl _ _) rfl
      ·replace hK:=fun v w'' h1 h2=>hK v w'' h1 h2 (fun e=>by cases e)
       clear hD;refine wpOp_atK rfl rfl ?_;simp only[zA,zB,zC,zD,zE,zF,zJ,zK,zG,zH,zI] at hK⊢;go_simp;exact hK _ _ (Below.refl _ _) rfl
      ·replace hK:=fun v w'' h1 h2=>hK v w'' h1 h2 (fun e=>by cases e)
       have e2:=hD 2 (by kernel_rfl)
       replace e2:ν 2=(.pointer (some ⟨ge,0,none⟩)):=e2
       clear hD;refine wpOp_atK rfl rfl ?_;simp only[zA,zB,zC,zD,zE,zF,zJ,zK,zG,zH,zI,e2] at hK⊢;have hcl:w1.cell? ⟨ge,0,none⟩=some (.int .i64 (i:Int)):=(by rw[cell_of_row _ _ _ _ _ _ (block_ext hB HE3.out)];rfl)
       go_simp;exact hK _ _ (Below.refl _ _) rfl
      ·replace hK:=fun v w'' h1 h2=>hK v w'' h1 h2 (fun e=>by cases e)
       clear hD;refine wpOp_atK rfl rfl ?_;simp only[zA,zB,zC,zD,zE,zF,zJ,zK,zG,zH,zI] at hK⊢;go_simp;exact hK _ _ (Below.refl _ _) rfl
      ·replace hK:=fun v w'' h1 h2=>hK v w'' h1 h2 (fun e=>by cases e)
       have e4:=hD 4 (by kernel_rfl)
       replace e4:ν 4=(.pointer (some ⟨ge,2,none⟩)):=e4
       clear hD;refine wpOp_atK rfl rfl ?_;simp only[zA,zB,zC,zD,zE,zF,zJ,zK,zG,zH,zI,e4] at hK⊢;have hcl:w1.cell? ⟨ge,2,none⟩=some (.int .i64 (j:Int)):=(by rw[cell_of_row _ _ _ _ _ _ (block_ext hB HE3.out)];rfl)
       go_simp;exact hK _ _ (Below.refl _ _) rfl
      ·replace hK:=fun v w'' h1 h2=>hK v w'' h1 h2 (fun e=>by cases e)
       have e1:=hD 1 (by kernel_rfl)
       replace e1:ν 1=(.agg #[.slice a n c,.slice (some ⟨g,0,none⟩) bn cc,.map (some M)]):=e1
       have e3:=hD 3 (by kernel_rfl)
       replace e3:ν 3=(.int .i64 (i:Int)):=e3
       have e5:=hD 5 (by kernel_rfl)
       replace e5:ν 5=(.int .i64 (j:Int)):=e5
       clear hD;refine wpOp_atK rfl rfl ?_;simp only[zA,zB,zC,zD,zE,zF,zJ,zK,zG,zH,zI,e1,e3,e5] at hK⊢;go_simp;refine(besides_any (tdOf ls) bn a n c _ i j hin hjn w1 base (HAR3.out.ext hB) HLi.out).mono ?_;rintro e w3 ⟨v,rfl,ho,hb3⟩;exact hK _ _ hb3 ⟨ho,fun q hq=>(ho.1.lt q hq).2⟩
      ·replace hK:=fun v w'' h1 h2=>hK v w'' h1 h2 (fun e=>by cases e)
       clear hD;refine wpOp_atK rfl rfl ?_;simp only[zA,zB,zC,zD,zE,zF,zJ,zK,zG,zH,zI] at hK⊢;refine wp_load_row 227 _ rfl ga rfl 227 _ (0,0) _ (block_ext hB HA3.out) Tryz.underlying227 rfl size_around ?_;exact hK _ _ (Below.refl _ _) rfl
      ·replace hK:=fun v w'' h1 h2=>hK v w'' h1 h2 (fun e=>by cases e)
       clear hD;refine wpOp_atK rfl rfl ?_;simp only[zA,zB,zC,zD,zE,zF,zJ,zK,zG,zH,zI] at hK⊢;go_simp;exact hK _ _ (Below.refl _ _) rfl
      ·replace hK:=fun v w'' h1 h2=>hK v w'' h1 h2 (fun e=>by cases e)
       have e8:=hD 8 (by kernel_rfl)
       replace e8:ν 8=(.pointer (some ⟨ge,2,none⟩)):=e8
       clear hD;refine wpOp_atK rfl rfl ?_;simp only[zA,zB,zC,zD,zE,zF,zJ,zK,zG,zH,zI,e8] at hK⊢;have hcl:w1.cell? ⟨ge,2,none⟩=some (.int .i64 (j:Int)):=(by rw[cell_of_row _ _ _ _ _ _ (block_ext hB HE3.out)];rfl)
       go_simp;exact hK _ _ (Below.refl _ _) rfl
      ·replace hK:=fun v w'' h1 h2=>hK v w'' h1 h2 (fun e=>by cases e)
       clear hD;refine wpOp_atK rfl rfl ?_;simp only[zA,zB,zC,zD,zE,zF,zJ,zK,zG,zH,zI] at hK⊢;go_simp;exact hK _ _ (Below.refl _ _) rfl
      ·replace hK:=fun v w'' h1 h2=>hK v w'' h1 h2 (fun e=>by cases e)
       have e10:=hD 10 (by kernel_rfl)
       replace e10:ν 10=(.pointer (some ⟨ge,0,none⟩)):=e10
       clear hD;refine wpOp_atK rfl rfl ?_;simp only[zA,zB,zC,zD,zE,zF,zJ,zK,zG,zH,zI,e10] at hK⊢;have hcl:w1.cell? ⟨ge,0,none⟩=some (.int .i64 (i:Int)):=(by rw[cell_of_row _ _ _ _ _ _ (block_ext hB HE3.out)];rfl)
       go_simp;exact hK _ _ (Below.refl _ _) rfl
      ·replace hK:=fun v w'' h1 h2=>hK v w'' h1 h2 (fun e=>by cases e)
       have e6:=hD 6 (by kernel_rfl);unfold specB at e6;simp only[List.getD_cons_zero,List.getD_cons_succ,specK] at e6;have e7:=hD 7 (by kernel_rfl)
       replace e7:ν 7=(.agg #[.slice a n c,.slice (some ⟨g,0,none⟩) bn cc,.map (some M)]):=e7
       have e9:=hD 9 (by kernel_rfl)
       replace e9:ν 9=(.int .i64 (j:Int)):=e9
       have e11:=hD 11 (by kernel_rfl)
       replace e11:ν 11=(.int .i64 (i:Int)):=e11
       clear hD;refine wpOp_atK rfl rfl ?_;simp only[zA,zB,zC,zD,zE,zF,zJ,zK,zG,zH,zI,e7,e9,e11] at hK⊢;go_simp;refine(besides_any (tdOf ls) bn a n c _ j i hjn hin w1 base (HAR3.out.ext hB) HLj.out).mono ?_;rintro e w3 ⟨v,rfl,ho,hb3⟩;exact hK _ _ hb3 ⟨ho,fun q hq=>(ho.1.lt q hq).2⟩
      ·have e0:=hD 0 (by kernel_rfl)
       replace e0:ν 0=(edgeV ⟨(i:Int),arm,(j:Int)⟩):=e0
       have e6:=hD 6 (by kernel_rfl);unfold specB at e6;simp only[List.getD_cons_zero,List.getD_cons_succ,specK] at e6;have e12:=hD 12 (by kernel_rfl);unfold specB at e12;simp only[List.getD_cons_zero,List.getD_cons_succ,specK] at e12;clear hD;refine wpOp_atK rfl rfl ?_;simp only[zA,zB,zC,zD,zE,zF,zJ,zK,zG,zH,zI,e0] at hK⊢;obtain⟨a6,c6,e6'⟩:=e6.1.form;obtain⟨a12,c12,e12'⟩:=e12.1.form;simp only[e6',e12'] at hK⊢;go_simp;exact hK _ _ (Below.refl _ _) trivial (fun _=>rfl)
      ·replace hK:=fun v w'' h1 h2=>hK v w'' h1 h2 (fun e=>by cases e)
       clear hD;refine wpOp_atK rfl rfl ?_;simp only[zA,zB,zC,zD,zE,zF,zJ,zK,zG,zH,zI] at hK⊢;go_simp;exact hK _ _ (ext_alloc _ _) ⟨rfl,by simp,heap_alloc_new _ _⟩
     ·intro ν lo hi w1 hB hS hI hD hL;have eL:=hL 13 (by omega) rfl;have e0:ν 0=(edgeV ⟨(i:Int),arm,(j:Int)⟩):=hS 0 (by omega);have e1:ν 1=(.agg #[.slice a n c,.slice (some ⟨g,0,none⟩) bn cc,.map (some M)]):=hS 1 (by omega);have e2:ν 2=(.pointer (some ⟨ge,0,none⟩)):=hS 2 (by omega);have e3:ν 3=(.int .i64 (i:Int)):=hS 3 (by omega);have e4:ν 4=(.pointer (some ⟨ge,2,none⟩)):=hS 4 (by omega);have e5:ν 5=(.int .i64 (j:Int)):=hS 5 (by omega);have e6:=hS 6 (by omega);unfold specB at e6;simp only[List.getD_cons_zero,List.getD_cons_succ,specK] at e6;have e7:ν 7=(.agg #[.slice a n c,.slice (some ⟨g,0,none⟩) bn cc,.map (some M)]):=hS 7 (by omega);have e8:ν 8=(.pointer (some ⟨ge,2,none⟩)):=hS 8 (by omega);have e9:ν 9=(.int .i64 (j:Int)):=hS 9 (by omega);have e10:ν 10=(.pointer (some ⟨ge,0,none⟩)):=hS 10 (by omega);have e11:ν 11=(.int .i64 (i:Int)):=hS 11 (by omega);have e12:=hS 12 (by omega);unfold specB at e12;simp only[List.getD_cons_zero,List.getD_cons_succ,specK] at e12;have e13:=hS 13 (by omega);unfold specB at e13;simp only[List.getD_cons_zero,List.getD_cons_succ,specK] at e13;obtain⟨e14,l14,h14⟩:=hS 14 (by omega);clear hS;simp only[List.drop_succ_cons,List.drop_zero,zA,zB,zC,zD,zE,zF,zJ,zK,zG,zH,zI,e0,e1,e2,e3,e4,e5,e7,e8,e9,e10,e11,e14];have i6:=hI 6 (by omega);have i12:=hI 12 (by omega);have i14:=hI 14 (by omega);have d1:=hD 6 12 (by omega) (by omega) (by omega);have d2:=hD 6 14 (by omega) (by omega) (by omega);have d3:=hD 12 14 (by omega) (by omega) (by omega);obtain⟨v6,hv6⟩:∃v,v=ν 6:=⟨_,rfl⟩
      obtain⟨v12,hv12⟩:∃v,v=ν 12:=⟨_,rfl⟩
      rw[←hv6] at e6 eL⊢;rw[←hv12] at e12 eL⊢;rw[eL];generalize lo 6=l6 at *;generalize hi 6=h6 at *;generalize lo 12=l12 at *;generalize hi 12=h12 at *;generalize lo 14=gr at *;generalize hi 14=h14' at *;have hsz23:=HB3.out.size;have hr6:∀q,v6.ownBlock=some q→W2.heap.size≤q∧q≠gr∧v12.ownBlock≠some q:=fun q hq=>by
       have b1:=(e6.1.1.lt q hq).1;have b2:=e6.2 q hq;refine⟨by omega,by omega,fun e=>?_⟩;have b3:=(e12.1.1.lt q e).1;have b4:=e12.2 q e;omega
      have hr12:∀q,v12.ownBlock=some q→W2.heap.size≤q∧q≠gr:=fun q hq=>by
       have b1:=(e12.1.1.lt q hq).1;have b2:=e12.2 q hq;exact⟨by omega,by omega⟩
      have hgr2:W2.heap.size≤gr:=by omega
      have o6:=own_one e6.1;have o12:=own_one e12.1;have H6:=Lib.hid (e6.1.mono (base':=W2.heap.size) (by omega));have H12:=Lib.hid (e12.1.mono (base':=W2.heap.size) (by omega));have HR6:=Lib.hid hr6;have HR12:=Lib.hid hr12;have H14:=Lib.hid h14;have HB4:=Lib.hid (ext_trans HB3.out hB);have HV4:=Lib.hid (block_ext (ext_trans HB3.out hB) HV.out);clear hI hD hB e0 e1 e2 e3 e4 e5 e6 e7 e8 e9 e10 e11 e12 e13 e14 l14 h14 eL i6 i12 i14 d1 d2 d3 hv6 hv12 hr6 hr12 HE3 HA3 HAR3 HB3 hsz23;refine wpList_store_row (o:=⟨none,.store 191 _ _,_,_,_,_⟩) rfl 191 _ _ rfl gr #[.int .i64 (i:Int),.int .i64 arm,.int .i64 (j:Int),v6,v12] rfl rfl 191 _ H14.out size_row rfl (by have e9:∀k (z:Int),(Value.int k z).oneCell'=true:=fun _ _=>rfl;simp[e9,o6,o12]) ?_;have hrr4:=setRow_heap w1 gr _ #[.int .i64 (i:Int),.int .i64 arm,.int .i64 (j:Int),v6,v12] _ _ H14.out;have hg4:=grown_setRow w1 gr #[.int .i64 (i:Int),.int .i64 arm,.int .i64 (j:Int),v6,v12];have hk4:Keep W2 (w1.setRow gr #[.int .i64 (i:Int),.int .i64 arm,.int .i64 (j:Int),v6,v12]):=(Keep.ext HB4.out).trans (Keep.grown hg4 (fun q o e ho=>by injection e with e;subst e;rw[H14.out] at ho;cases ho;rfl));have hg24:=grown_trans (grown_below HB4.out none) hg4 (.inr fun q e=>by injection e with e;omega);have h64:=H6.out.kept hg4 (kept_ne fun q hq e=>by injection e with e;exact(HR6.out q hq).2.1 e.symm);have h124:=H12.out.kept hg4 (kept_ne fun q hq e=>by injection e with e;exact(HR12.out q hq).2 e.symm);have hv4:=(hg4.block _ (Array.getElem?_eq_some_iff.1 HV4.out).1 (fun e=>by injection e with e;have:=(Array.getElem?_eq_some_iff.1 HV.out).1;omega)).trans HV4.out;generalize w1.setRow gr #[.int .i64 (i:Int),.int .i64 arm,.int .i64 (j:Int),v6,v12]=w4 at *;have r4:w4.cell? ⟨gr,4,none⟩=some v12:=by rw[cell_of_row _ _ _ _ _ _ hrr4];rfl
      have HRR4:=Lib.hid hrr4;have HK4:=Lib.hid hk4;have HG24:=Lib.hid hg24;have H64:=Lib.hid h64;have H124:=Lib.hid h124;have HV4':=Lib.hid hv4;clear hrr4 hk4 hg24 h64 h124 hv4 hg4 HB4 HV4 H6 H12 H14;go_wp2
      gi_wp2_with (first
       |(gi_at_builtin
         refine listIn_of (by repeat (first|exact noOut_round|refine noOut_then ?_|refine noOut_block ?_)) _ _ _ rfl ?_;refine wpList_append1 rfl w5 (.tmp 60) (.tmp 62) 146 191 rfl W1.heap.size _ 5 72 Tryz.underlying146 infoRow rfl (by omega) (.slice av hs.length cv) hs.length _ (csR ⟨rowOf (tdOf ls) ⟨(i:Int),arm,(j:Int)⟩,v6,v12⟩) rfl HROW5.out.1.1 w5.heap.size rfl rfl rfl (fun u hu=>one_row (own_one H65.out) (own_one HREV.out) u hu) (by simp only[maxLen];omega) (by omega) (by have:=HGR.out.size;have:=HG25.out.size;omega) ?_;intro g2 cap w6 hown6 hg6 hat6;have hne6:(Value.slice av hs.length cv).ownBlock≠some (w.heap.size+1+1):=(fun e=>by have:=(HROW5.out.1.low e).1;omega)
         have hv6:=(hg6.block _ (Array.getElem?_eq_some_iff.1 HV5.out).1 (fun e=>hne6 e.symm)).trans HV5.out;have hcv6:w6.cell? ⟨w.heap.size+1+1,0,none⟩=some (.slice av hs.length cv):=(by rw[cell_of_row _ _ _ _ _ _ hv6];rfl)
         have hfv6:w6.frozen? ⟨w.heap.size+1+1,0,none⟩=false:=frozen_of_row _ _ _ _ _ hv6;have HOWN6:=Lib.hid hown6;have HG6:=Lib.hid hg6;have HAT6:=Lib.hid hat6
         clear hown6 hg6 hat6 hne6 hv6 hcv hfv)
       |(gi_at_call 146
         refine(callsIn_wide.2 (reverseI_any W2.heap.size v12 _ w4 H124.out)).mono ?_;rintro e w5 ⟨rfl,hrev,hg5⟩;have hrow5:∀q,v12.ownBlock=some q→W2.heap.size≤q∧q≠gr:=HR12.out;have hg25:=grown_trans HG24.out hg5 (.inr fun q e=>(hrow5 q e).1);have hk5:=HK4.out.trans (Keep.grown hg5 (own_nobook H124.out.1));have hvl:=(Array.getElem?_eq_some_iff.1 HV.out).1;have hv5:=(hg5.block _ (Array.getElem?_eq_some_iff.1 HV4'.out).1 (fun e=>(by have:=(hrow5 _ e.symm).1;omega))).trans HV4'.out;have hrr5:=(hg5.block _ (Array.getElem?_eq_some_iff.1 HRR4.out).1 (fun e=>(hrow5 _ e.symm).2 rfl)).trans HRR4.out;have HROW5:=Lib.hid (HROW.out.grown hg25 (fun q e=>by cases e));have HK5:=Lib.hid hk5;have HG25:=Lib.hid hg25;have H65:=Lib.hid (H64.out.kept hg5 (kept_ne fun q hq=>(HR6.out q hq).2.2));have HREV:=Lib.hid hrev;have HV5:=Lib.hid hv5;have s0:w5.cell? ⟨gr,0,none⟩=some (.int .i64 (i:Int)):=(by rw[cell_of_row _ _ _ _ _ _ hrr5];rfl)
         have s1:w5.cell? ⟨gr,1,none⟩=some (.int .i64 arm):=(by rw[cell_of_row _ _ _ _ _ _ hrr5];rfl)
         have s2:w5.cell? ⟨gr,2,none⟩=some (.int .i64 (j:Int)):=(by rw[cell_of_row _ _ _ _ _ _ hrr5];rfl)
         have s3:w5.cell? ⟨gr,3,none⟩=some v6:=(by rw[cell_of_row _ _ _ _ _ _ hrr5];rfl)
         have s4:w5.cell? ⟨gr,4,none⟩=some v12:=(by rw[cell_of_row _ _ _ _ _ _ hrr5];rfl)
         have hcv:w5.cell? ⟨w.heap.size+1+1,0,none⟩=some (.slice av hs.length cv):=(by rw[cell_of_row _ _ _ _ _ _ hv5];rfl)
         have hfv:w5.frozen? ⟨w.heap.size+1+1,0,none⟩=false:=frozen_of_row _ _ _ _ _ hv5
         clear hrev hg5 hrow5 hg25 hk5 hv5 hrr5 hvl))
      go_wp2;exact row_end HV.out HROW.out HMAP.out HGR.out hBlt HG25.out HK5.out H65.out HREV.out HOWN6.out HG6.out HAT6.out HBT.out hsl
  case done=>
   rintro D W hD hJ hK;obtain⟨v,hs,hv,hrows,hmap,hgr,hBlt⟩:=hJ.out;have hc:W.cell? ⟨w.heap.size+1+1,0,none⟩=some v:=by rw[cell_of_row _ _ _ _ _ _ hv];rfl
   have hf:W.frozen? ⟨w.heap.size+1+1,0,none⟩=false:=frozen_of_row _ _ _ _ _ hv;obtain⟨av,cv,rfl⟩:=hrows.1.form;have HROW:=Lib.hid hrows;have HMAP:=Lib.hid hmap;have HGR:=Lib.hid hgr;have HV:=Lib.hid hv;clear hrows hmap hgr hv hJ
   gi_wp2
   have hset:=grown_setCell W (w.heap.size+1+1) 0 (.slice av hs.length cv);have hK2:(W.setCell ⟨w.heap.size+1+1,0,none⟩ (.slice av hs.length cv)).heap[D]? =some (.deferred (some [])):=(Below.heap_setCell _ _ _ _ (by show D≠w.heap.size+1+1;omega)).trans hK;refine⟨by simp,.inl ⟨_,_,rfl,run_takeDeferred hK2,?_⟩⟩;have hst:=heap_setCell_same W (w.heap.size+1+1) 0 _ _ (.slice av hs.length cv) HV.out;simp only[List.setIfInBounds_toArray,List.set_cons_zero] at hst;have hput:=grownBy_putObj' (W.setCell ⟨w.heap.size+1+1,0,none⟩ (.slice av hs.length cv)) D (.deferred none);have h9:((W.setCell ⟨w.heap.size+1+1,0,none⟩ (.slice av hs.length cv)).putObj D (.deferred none)).heap[w.heap.size+1+1]? =some (.cells #[.slice av hs.length cv] 146 (0,0)):=(hput.block _ (Array.getElem?_eq_some_iff.1 hst).1 (fun e=>by injection e with e;omega)).trans hst;have hr9:=(Steady.rowsIn W1.heap.size W1.heap.size (.slice av hs.length cv) hs).put (.deferred none) (l:=D) (HROW.out.grown hset (fun q e=>by injection e with e;left;omega)) hD hK2 rfl;have hs1:=HB1.out.size;have hb9:Below w.heap.size w ((W.setCell ⟨w.heap.size+1+1,0,none⟩ (.slice av hs.length cv)).putObj D (.deferred none)):=((HB1.out.grown HGR.out HB1.out.size (fun q e=>by injection e with e;omega)).grown hset (by have:=HGR.out.size;omega) (fun q e=>by injection e with e;omega)).grown hput (by have:=HGR.out.size;have:=hset.size;omega) (fun q e=>by injection e with e;omega);generalize (W.setCell ⟨w.heap.size+1+1,0,none⟩ (.slice av hs.length cv)).putObj D (.deferred none)=W9 at *;have c9:W9.cell? ⟨w.heap.size+1+1,0,none⟩=some (.slice av hs.length cv):=by rw[cell_of_row _ _ _ _ _ _ h9];rfl
   exact⟨.tuple #[.slice av hs.length cv,.int .i64 0],by simp[results,Tryz.results104,go_sem,asAddr,c9],_,by rw[HE.out],hb9,(fun h=>by rw[HR.out] at h;cases h),fun _=>⟨hs,hr9.mono hs1,HMAP.out⟩⟩
  case stop=>rintro D c W hD h;exact h.elim
end
end Go.Proofs.YtnmkjliioogbgaaGreatDoor
