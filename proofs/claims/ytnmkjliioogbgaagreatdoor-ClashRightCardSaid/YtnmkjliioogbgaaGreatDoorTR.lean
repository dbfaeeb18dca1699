/-
 Tile:where some blocks are entered.
-/
import Derived.Test.YtnmkjliioogbgaaGreatDoorTH
import Derived.Test.YtnmkjliioogbgaaGreatDoorMaps
import Derived.Test.YtnmkjliioogbgaaGreatDoorTO
import Derived.Test.YtnmkjliioogbgaaGreatDoorInsR
namespace Go.Proofs.YtnmkjliioogbgaaGreatDoor
set_option linter.unusedSimpArgs false
set_option linter.unusedVariables false
set_option linter.unusedSectionVars false
set_option maxRecDepth 100000
set_option maxHeartbeats 40000000
section
open Go.RowKit Go.Shelf
attribute [local go_sem] Oper.semAt_some wide_fn wide_depth wide_fnR wide_depthR
theorem ent1_any(f:Nat→Bool)(S:Nat)(x:Nat)(hx:x<200)(W:World)(hS:W.heap[S]? =some (setO f)):
  Calls Tryz.prog 139 (#[.int .i64 (x:Int)]++ #[.pointer (some ⟨S,0,none⟩)]) W fun e W'=>e=.returned (.bool (!f x))∧Below W.heap.size W W':=by
 show Calls Tryz.prog 139 #[.int .i64 (x:Int),.pointer (some ⟨S,0,none⟩)] W _
 have hc:=set_cell hS x hx
 generalize f x=b at*
 clear hS
 go_enter Tryz.func139,Tryz.ntmps139
 go_wp2
 go_ret
 exact⟨rfl,Below.refl _ _⟩
theorem enter_ent1(args:Array Value)(w:World):(callFunc 139 args).run Tryz.prog w=.ok (.enter 139 args) w:=enters_of Tryz.func139 (by kernel_rfl) rfl args w
def entB(ts:List TermD)(f:Nat→Bool)(b:Nat):Bool:=decide (b<ts.length)&&(pv ts b).any fun x=> !f x
theorem any_intsN(f:Nat→Bool)(l:List Nat):((intsN l).any fun z=> !f z.toNat)=l.any fun q=> !f q:=by
 rw[intsN,List.any_map]
 rfl
def EJ(w:World)(d:WalkD)(f:Nat→Bool)(xs:List Int)(W:World):Prop:=
 W.heap[w.heap.size]? =some (walkO d)∧W.heap[w.heap.size+1]? =some (setO f)∧W.heap[w.heap.size+1+1+1]? =some (.cells #[.pointer (some ⟨w.heap.size+1,0,none⟩)] 256 (0,0))∧
  (∃v,W.heap[w.heap.size+1+1]? =some (.cells #[v] 22 (0,0))∧OwnI W (w.heap.size+1+1+1+1) v xs)∧Below w.heap.size w W∧w.heap.size+1+1+1<W.heap.size
theorem EJ.steady{w:World}{d:WalkD}{f:Nat→Bool}{xs:List Int}{D:Nat}(hD:w.heap.size≤D):Steady D (EJ w d f xs):=by
 unfold EJ
 exact(Steady.block _ _ rfl).and ((Steady.block _ _ rfl).and ((Steady.block _ _ rfl).and ((Steady.ex fun v=>(Steady.block _ _ rfl).and (Steady.ownI _ _ _ _)).and ((Steady.below (Nat.le_refl _) hD).and (Steady.size _ _)))))
theorem EJ.ext{w W W':World}{d:WalkD}{f:Nat→Bool}{xs:List Int}(h:EJ w d f xs W)(hb:Below W.heap.size W W'):EJ w d f xs W':=(EJ.steady (Nat.le_refl _)).ext h hb
theorem EJ.app{w W W':World}{d:WalkD}{f:Nat→Bool}{xs:List Int}{v:Value}(hv:W.heap[w.heap.size+1+1]? =some (.cells #[v] 22 (0,0)))(ho:OwnI W (w.heap.size+1+1+1+1) v xs)(h:EJ w d f xs W)(hg:W.grownBy W' v.ownBlock)(v':Value)(x:Int)(hx:I64 x)(hn:xs.length≤1000)(ho':W'.ownsRow (w.heap.size+1+1+1+1) 3 1 v' (xs.length+1) (intVals xs++ [.int .i64 x])):
  EJ w d f (xs++ [x]) (W'.setCell ⟨w.heap.size+1+1,0,none⟩ v')∧Keep W (W'.setCell ⟨w.heap.size+1+1,0,none⟩ v'):=by
 obtain⟨h1,h2,h3,_,h5,h6⟩:=h
 have low:∀q,q<w.heap.size+1+1+1+1→v.ownBlock≠some q:=fun q hq e=>by have:=(ho.1.lt q e).1;omega
 have g:=grown_setCell W' (w.heap.size+1+1) 0 v'
 have hv2:=grown_row hg hv (low _ (by omega))
 refine⟨⟨grown_row g (grown_row hg h1 (low _ (by omega))) (by simp;omega),grown_row g (grown_row hg h2 (low _ (by omega))) (by simp),grown_row g (grown_row hg h3 (low _ (by omega))) (by simp),⟨v',?_,?_⟩,(h5.grown hg h5.size (fun r e=>by have:=(ho.1.lt r e).1;omega)).setCell (by simp;omega) _,by have:=hg.size;simp;omega⟩,
  (Keep.grown hg (own_nobook ho.1)).trans (Keep.setCell _ _ _)⟩
 ·have:=heap_setCell_same W' (w.heap.size+1+1) 0 _ _ v' hv2;simpa using this
 ·have e3:(xs++ [x]).length=xs.length+1:=by simp
  have e4:intVals (xs++ [x])=intVals xs++ [.int .i64 x]:=by simp[intVals]
  refine OwnI.kept (w:=W') ⟨by rw[e3,e4];exact ho',fun z hz=>?_,by rw[e3];omega⟩ g ?_
  ·rcases List.mem_append.1 hz with h|h
   ·exact ho.2.1 z h
   ·simp only[List.mem_singleton] at h;subst h;exact hx
  ·cases e:v'.ownBlock with
   |none=>exact .inl rfl
   |some k=>
    have:=(ho'.lt k e).1;refine .inr ?_;intro e2;injection e2 with e2;omega
theorem entries_any(d:WalkD)(ts:List TermD)(f:Nat→Bool)(w:World)(hok:WalkOK w d ts)(hg:goodB ts=true):
  Calls Tryz.prog 93 #[walkV d,.agg (setA f)] w (IntsPost w (intsN (entriesS ts f))):=by
 refine(callsIn_wide (n:=0)).1 ?_
 refine callsIn_of_wp_marks Tryz.func93 rfl trivial ?_
 simp only[Tryz.ntmps93,List.size_toArray,List.length_cons,List.length_nil,Nat.reduceAdd,Nat.reduceSub,Array.replicate_succ,Array.replicate_zero,List.push_toArray,List.append_toArray,List.nil_append,List.cons_append]
 have HOK:=Lib.hid hok
 have HPV:=Lib.hid (WalkOK.nx_lt (w:=w) (d:=d) hg).2
 have hdl:ts.length=d.bn:=hok.1
 have hdn:d.bn≤200:=hok.2.1
 have HDL:=Lib.hid hdl
 clear hok hg hdl
 gi_wp2_with (gi_at_call 138;refine(callsIn_wide.2 (each_any _ _)).mono ?_;rintro e w' ⟨rfl,rfl⟩)
 refine range_list (ps:=#[7]) (gf:=169) (lb:=#[.pointer (some ⟨w.heap.size+1+1+1,0,none⟩)]) (enc:=encN) (l:=listS f) rfl enter_each _ (each_iterI f (w.heap.size+1+1+1) (w.heap.size+1)) (fun _=>rfl)
  (fun dn r W=>Hid (EJ w d f (intsN (dn.filter (entB ts f))) W)) (fun _ _=>False)
  (fun dn r=>EJ.steady (by simp;omega)) (fun c=>Steady.pure _ _) (fun dn r W h=>⟨by rw[cell_of_row _ _ _ _ _ _ h.out.2.2.1];rfl,h.out.2.1⟩) ?start ?round ?done ?stop
 case start=>
  refine⟨?_,?_,?_,⟨_,?_,OwnI.nil _ _⟩,?_,by simp⟩
  ·rw[Below.heap_alloc _ _ _ (by simp;omega),Below.heap_alloc _ _ _ (by simp;omega),Below.heap_alloc _ _ _ (by simp)];exact heap_alloc_new _ _
  ·rw[Below.heap_alloc _ _ _ (by simp),Below.heap_alloc _ _ _ (by simp)];exact heap_at _ _ _ (by simp)
  ·exact heap_at _ _ _ (by simp)
  ·rw[Below.heap_alloc _ _ _ (by simp)];exact heap_at _ _ _ (by simp)
  ·exact(((ext_alloc _ _).alloc (by simp) _).alloc (by simp;omega) _).alloc (by simp;omega) _
 case round=>
  rintro lp dn x r W hd hJ;unfold encN
  gi_wp2
  refine⟨Keep.refl _,hJ,?_⟩;clear hJ lp W;rintro lp W hJ;obtain⟨j1,j2,j3,⟨v,j4,jo⟩,jb,js⟩:=hJ.out;have hxl:x<200:=listS_lt f x (by rw[hd];simp);have hc3:W.cell? ⟨w.heap.size,3,none⟩=some (.slice d.fa d.bn d.fc):=by rw[cell_of_row _ _ _ _ _ _ j1];rfl
  by_cases hxb:x<d.bn
  ·obtain⟨b,o,ra,rc,rfa,hcr,hir⟩:=(HOK.out.ext jb).2.2.2.2.2 x (pv ts x) (by simp[fromRows,HDL.out,hxb]);rw[rfa] at hc3;have J2:=Lib.hid j2;have HIR:=Lib.hid hir;have HPX:Hid (∀z∈intsN (pv ts x),∃q:Nat,z=(q:Int)∧q<200):=fun z hz=>by
    simp only[intsN,List.mem_map] at hz;obtain⟨q,hq,rfl⟩:=hz;exact⟨q,rfl,HPV.out x q hq⟩
   have hxb':(x:Int)<(d.bn:Int):=by omega
   clear j1 j2 j3 j4 jo jb js hir;by_cases hent:entB ts f x=true
   ·have HANY:Hid (((intsN (pv ts x)).any fun z=> !f z.toNat)=true):=by
     rw[Hid,any_intsN];simp only[entB,Bool.and_eq_true] at hent;exact hent.2
    have HFL:Hid (intsN ((dn++ [x]).filter (entB ts f))=intsN (dn.filter (entB ts f))++ [(x:Int)]):=by
     rw[Hid,List.filter_append,List.filter_cons,if_pos hent];simp[intsN]
    have hlen:(intsN (dn.filter (entB ts f))).length≤1000:=by
     have h1:=listS_len f;rw[hd] at h1;have h2:=List.length_filter_le (entB ts f) dn;simp[intsN] at h1⊢;omega
    clear hent
    gi_wp2_with (first
     |(gi_at_call 20
       refine(CallsIn.inRound _ (callsIn_wide.2 (containsFunc_any 139 #[.pointer (some ⟨w.heap.size+1,0,none⟩)] enter_ent1 (fun z=> !f z.toNat) _ _ _ (intsN (pv ts x)) W (fun z W' hz hb=>?_) HIR.out))).mono ?_
       ·obtain⟨q,rfl,hq⟩:=HPX.out z hz;exact ent1_any f (w.heap.size+1) q hq W' (block_ext hb J2.out)
       rintro e w2 ⟨rfl,hb2⟩;rw[HANY.out];have HJ2:=Lib.hid (hJ.out.ext hb2);have HK2:=Lib.hid (Keep.ext hb2);clear hb2;obtain⟨v2,hv2,ho2⟩:=HJ2.out.2.2.2.1;obtain⟨av,cv,rfl⟩:=ho2.form;have hcv:w2.cell? ⟨w.heap.size+1+1,0,none⟩=some (.slice av (intsN (dn.filter (entB ts f))).length cv):=(by rw[cell_of_row _ _ _ _ _ _ hv2];rfl)
       have HV2:=Lib.hid hv2;have HO2:=Lib.hid ho2;have hsz2:=HJ2.out.2.2.2.2.2
       clear hv2 ho2)
     |(gi_at_builtin
       refine listIn_of (by repeat (first|exact noOut_round|refine noOut_then ?_|refine noOut_block ?_)) _ _ _ rfl ?_;refine wpList_append1 rfl w2 (.tmp 22) (.tmp 24) 22 3 rfl (w.heap.size+1+1+1+1) _ 1 8 Tryz.underlying22 infoI rfl (by omega) (.slice av (intsN (dn.filter (entB ts f))).length cv) (intsN (dn.filter (entB ts f))).length _ [.int .i64 (x:Int)] rfl HO2.out.1 w2.heap.size rfl rfl rfl (by simp[Value.oneCell']) (by simp only[maxLen];omega) (by omega) (by omega) ?_;intro g cap w3 hown3 hg3 hat3;have HAPP:=Lib.hid (HJ2.out.app HV2.out HO2.out hg3 _ (x:Int) (by unfold I64;omega) hlen hown3);have hv3:=grown_row hg3 HV2.out (fun e=>by have:=(HO2.out.1.lt _ e).1;omega);have hc3':w3.cell? ⟨w.heap.size+1+1,0,none⟩=some (.slice av (intsN (dn.filter (entB ts f))).length cv):=(by rw[cell_of_row _ _ _ _ _ _ hv3];rfl)
       have hf3:w3.frozen? ⟨w.heap.size+1+1,0,none⟩=false:=frozen_of_row _ _ _ _ _ hv3;have hl3:w.heap.size+1+1<w3.heap.size:=lt_of_heap hv3
       clear hown3 hg3 hat3 hv3 hcv))
    go_wp2;refine⟨HK2.out.trans HAPP.out.2,?_⟩;have e9:=HFL.out;rw[List.filter_append] at e9;simp only[Hid,List.filter_append,e9];exact HAPP.out.1
   ·have hent':entB ts f x=false:=by simpa using hent
    have HANY:Hid (((intsN (pv ts x)).any fun z=> !f z.toNat)=false):=by
     rw[Hid,any_intsN];simp only[entB,Bool.and_eq_false_iff] at hent';rcases hent' with h|h
     ·rw[HDL.out] at h;simp at h;omega
     ·exact h
    have HFL:Hid (intsN ((dn++ [x]).filter (entB ts f))=intsN (dn.filter (entB ts f))):=by
     rw[Hid,List.filter_append,List.filter_cons,if_neg hent];simp
    clear hent hent'
    gi_wp2_with (
     (gi_at_call 20
      refine(CallsIn.inRound _ (callsIn_wide.2 (containsFunc_any 139 #[.pointer (some ⟨w.heap.size+1,0,none⟩)] enter_ent1 (fun z=> !f z.toNat) _ _ _ (intsN (pv ts x)) W (fun z W' hz hb=>?_) HIR.out))).mono ?_
      ·obtain⟨q,rfl,hq⟩:=HPX.out z hz;exact ent1_any f (w.heap.size+1) q hq W' (block_ext hb J2.out)
      rintro e w2 ⟨rfl,hb2⟩;rw[HANY.out];have HJ2:=Lib.hid (hJ.out.ext hb2);have HK2:=Lib.hid (Keep.ext hb2)
      clear hb2))
    refine⟨HK2.out,?_⟩;have e9:=HFL.out;rw[List.filter_append] at e9;simp only[Hid,List.filter_append,e9];exact HJ2.out
  ·have hxb':¬(x:Int)<(d.bn:Int):=by omega
   have HFL:Hid (intsN ((dn++ [x]).filter (entB ts f))=intsN (dn.filter (entB ts f))):=by
    rw[Hid,List.filter_append,List.filter_cons,if_neg (by simp only[entB,Bool.and_eq_true,decide_eq_true_eq,HDL.out];exact fun h=>hxb h.1)];simp
   clear j1 j2 j3 j4 jo jb js hxb
   gi_wp2
   refine⟨Keep.refl _,?_⟩;have e9:=HFL.out;rw[List.filter_append] at e9;simp only[Hid,List.filter_append,e9];exact hJ.out
 case done=>
  rintro D W hD hJ hK;obtain⟨v,hv,ho⟩:=hJ.out.2.2.2.1;obtain⟨av,cv,rfl⟩:=ho.form;have HJ:=hJ;have HV:=Lib.hid hv;have hcv:W.cell? ⟨w.heap.size+1+1,0,none⟩=some (.slice av (intsN ((listS f).filter (entB ts f))).length cv):=by rw[cell_of_row _ _ _ _ _ _ hv];rfl
  have hfv:W.frozen? ⟨w.heap.size+1+1,0,none⟩=false:=frozen_of_row _ _ _ _ _ hv;have hlv:=lt_of_heap hv;have HO:=Lib.hid ho;clear hv ho hJ
  gi_wp2
  have hDP:D≠w.heap.size+1+1:=by simp at hD;omega
  have g:=grown_setCell W (w.heap.size+1+1) 0 (.slice av (intsN ((listS f).filter (entB ts f))).length cv);have hK2:=grown_row g hK (by simp;omega)
  have ho2:OwnI (W.setCell ⟨w.heap.size+1+1,0,none⟩ (.slice av (intsN ((listS f).filter (entB ts f))).length cv)) (w.heap.size+1+1+1+1) (.slice av (intsN ((listS f).filter (entB ts f))).length cv) (intsN ((listS f).filter (entB ts f))):=HO.out.kept g (by
   cases e:(Value.slice av (intsN ((listS f).filter (entB ts f))).length cv).ownBlock with
   |none=>exact .inl rfl
   |some k=>
    have:=(HO.out.1.lt k e).1;refine .inr ?_;intro e2;injection e2 with e2
    omega)
  have hb2:Below w.heap.size w (W.setCell ⟨w.heap.size+1+1,0,none⟩ (.slice av (intsN ((listS f).filter (entB ts f))).length cv)):=HJ.out.2.2.2.2.1.setCell (by simp;omega) _;have hv2:(W.setCell ⟨w.heap.size+1+1,0,none⟩ (.slice av (intsN ((listS f).filter (entB ts f))).length cv)).heap[w.heap.size+1+1]? =some (.cells #[.slice av (intsN ((listS f).filter (entB ts f))).length cv] 22 (0,0)):=by
   have:=heap_setCell_same W (w.heap.size+1+1) 0 _ _ (.slice av (intsN ((listS f).filter (entB ts f))).length cv) HV.out;simpa using this
  generalize W.setCell ⟨w.heap.size+1+1,0,none⟩ (.slice av (intsN ((listS f).filter (entB ts f))).length cv)=W2 at *;have ho3:=(Steady.ownI D (w.heap.size+1+1+1+1) (.slice av (intsN ((listS f).filter (entB ts f))).length cv) (intsN ((listS f).filter (entB ts f)))).put (.deferred none) (l:=D) ho2 (Nat.le_refl _) hK2 rfl;have hb3:=(Steady.below (n₀:=w.heap.size) (B:=w.heap.size) (w₀:=w) (Nat.le_refl _) (Nat.le_refl _)).put (.deferred none) (l:=D) hb2 (by simp at hD;omega) hK2 rfl;have hv3:(W2.putObj D (.deferred none)).heap[w.heap.size+1+1]? =some (.cells #[.slice av (intsN ((listS f).filter (entB ts f))).length cv] 22 (0,0)):=(World.putObj_heap_other (by omega)).trans hv2;have hc3:(W2.putObj D (.deferred none)).cell? ⟨w.heap.size+1+1,0,none⟩=some (.slice av (intsN ((listS f).filter (entB ts f))).length cv):=by rw[cell_of_row _ _ _ _ _ _ hv3];rfl
  refine⟨by simp,.inl ⟨_,_,rfl,run_takeDeferred hK2,?_⟩⟩;exact⟨.slice av (intsN ((listS f).filter (entB ts f))).length cv,by simp[results,Tryz.results93,go_sem,hc3],_,rfl,ho3.mono (by omega),hb3⟩
 case stop=>rintro D c W hD h;exact h.elim
end

section
open Go.RowKit Go.Shelf
attribute [local go_sem] Oper.semAt_some wide_fn wide_depth wide_fnR wide_depthR
abbrev walkZ:Obj:=.cells #[nilV,nilV,nilV,nilV] 133
theorem tfits_any(pa:Option Addr)(pn pc:Nat)(ba:Option Addr)(bn bc:Nat)(bs:List BlkH)(w:World)(h:BlksOK w ba bn bs):
  Calls Tryz.prog 170 #[funcV pa pn pc ba bn bc] w fun e w'=>e=.returned (.bool (fitsB (tsOf bs)))∧Below w.heap.size w w':=by
 have H:=Lib.hid h
 clear h
 go_enter Tryz.func170,Tryz.ntmps170
 go_upto_region 1 with (fail)
 obtain⟨W,hW⟩:∃W,W=w.alloc (funcO pa pn pc ba bn bc):=⟨_,rfl⟩
 rw[←hW]
 have hk0:W.heap[w.heap.size]? =some (funcO pa pn pc ba bn bc):=by rw[hW];exact heap_alloc_new _ _
 have hB:Below w.heap.size w W:=by rw[hW];exact ext_alloc _ _
 have HK:=Lib.hid hk0
 have HB:=Lib.hid hB
 clear hW hk0 hB
 go_wp2_with (first
  |(refine wpList_load_row (o:=⟨some 6,.load 40 _,_,_,_,_⟩) rfl 40 _ rfl w.heap.size rfl 40 _ (0,0) _ HK.out Tryz.underlying40 rfl size_func ?_)
  |(go_at_call 55
    refine(over_any pa pn pc ba bn bc bs W (H.out.ext HB.out)).mono ?_;rintro e w2 ⟨cs,rfl,hcs,hall,hb,hokk⟩;have HB2:=Lib.hid (ext_trans HB.out hb);have HCS:=Lib.hid hcs;have HALL:=Lib.hid hall
    clear hb hokk hcs hall)
  |(refine wpList_store_row rfl 133 _ _ rfl w2.heap.size cs rfl rfl 133 _ (heap_alloc_new w2 walkZ) (by rw[HCS.out];exact size_walk) (by rw[HCS.out];rfl) HALL.out ?_))
 go_ret
 exact⟨rfl,below_setRow (HB2.out.alloc HB2.out.size _) HB2.out.size _⟩
def TOwnPost(ts:List TermD)(l:List TileD)(n:Nat)(w:World)(e:Ending)(w':World):Prop:=
 ∃v en,e=.returned (.tuple #[v,.int .i64 en])∧Below w.heap.size w w'∧(fitsB ts=false→v=nilV∧en=2)∧(fitsB ts=true→ownB l n=false→v=nilV∧en=12)∧
  (fitsB ts=true→ownB l n=true→en=0∧∃g c,v=.slice (some ⟨g,0,none⟩) n c∧OwnI w' w.heap.size v (ownL l n))
theorem fits_good{ts:List TermD}(h:fitsB ts=true):goodB ts=true:=by simp only[fitsB,Bool.and_eq_true] at h;exact h.1
theorem town_any(pa:Option Addr)(pn pc:Nat)(ba:Option Addr)(bn bc:Nat)(bs:List BlkH)(a:Option Addr)(n c:Nat)(ls:List TileR)(w:World)(h:BlksOK w ba bn bs)(ht:TilesOK w a n ls):
  Calls Tryz.prog 171 #[funcV pa pn pc ba bn bc,.slice a n c] w (TOwnPost (tsOf bs) (tdOf ls) bn w):=by
 have H:=Lib.hid h
 have HT:=Lib.hid ht
 clear h ht
 go_enter Tryz.func171,Tryz.ntmps171
 go_upto_region 1 with (fail)
 obtain⟨W,hW⟩:∃W,W=w.alloc (funcO pa pn pc ba bn bc):=⟨_,rfl⟩
 rw[←hW]
 have hk0:W.heap[w.heap.size]? =some (funcO pa pn pc ba bn bc):=by rw[hW];exact heap_alloc_new _ _
 have hB:Below w.heap.size w W:=by rw[hW];exact ext_alloc _ _
 have HK:=Lib.hid hk0
 have HB:=Lib.hid hB
 clear hW hk0 hB
 cases hf:fitsB (tsOf bs) with
 |false=>
  have HF:=Lib.hid hf;clear hf
  go_wp2_with (first
   |(refine wpList_load_row (o:=⟨some 10,.load 40 _,_,_,_,_⟩) rfl 40 _ rfl w.heap.size rfl 40 _ (0,0) _ HK.out Tryz.underlying40 rfl size_func ?_)
   |(go_at_call 55
     refine(over_any pa pn pc ba bn bc bs W (H.out.ext HB.out)).mono ?_;rintro e w2 ⟨cs,rfl,hcs,hall,hb,hokk⟩;rw[HF.out];have HB2:=Lib.hid (ext_trans HB.out hb);have HCS:=Lib.hid hcs;have HALL:=Lib.hid hall
     clear hb hokk hcs hall)
   |(refine wpList_store_row rfl 133 _ _ rfl w2.heap.size cs rfl rfl 133 _ (heap_alloc_new w2 walkZ) (by rw[HCS.out];exact size_walk) (by rw[HCS.out];rfl) HALL.out ?_))
  exact bodyPost_ret (v:=.tuple #[nilV,.int .i64 2]) (by simp[results,Tryz.results171,go_sem,Act.put]) rfl ⟨_,_,rfl,below_setRow (HB2.out.alloc HB2.out.size _) HB2.out.size _,fun _=>⟨rfl,rfl⟩,(fun h=>by rw[HF.out] at h;cases h),(fun h=>by rw[HF.out] at h;cases h)⟩
 |true=>
  have HF:=Lib.hid hf;have hgood:=(goodB_iff _).1 (fits_good hf);have hbn:(tsOf bs).length=bn:=by rw[tsOf_len];exact H.out.1.1
  have hbn1:1≤bn:=by rw[←hbn];exact hgood.1.1
  have hbn2:bn≤200:=by rw[←hbn];exact hgood.1.2
  clear hf hgood hbn
  go_upto_region 4 with (first
   |(refine wpList_load_row (o:=⟨some 10,.load 40 _,_,_,_,_⟩) rfl 40 _ rfl w.heap.size rfl 40 _ (0,0) _ HK.out Tryz.underlying40 rfl size_func ?_)
   |(go_at_call 55
     refine(over_any pa pn pc ba bn bc bs W (H.out.ext HB.out)).mono ?_;rintro e w2 ⟨cs,rfl,hcs,hall,hb,hokk⟩;rw[HF.out];obtain⟨ta,tc,fa,fc,hcv,hwk⟩:=hokk HF.out;injection hcv with hcv;subst hcv;have HB2:=Lib.hid (ext_trans HB.out hb);have HWK:=Lib.hid hwk
     clear hb hokk hcs hall hwk)
   |(refine wpList_store_row rfl 133 _ _ rfl w2.heap.size #[.slice pa pn pc,.slice ba bn bc,.slice ta bn tc,.slice fa bn fc] rfl rfl 133 _ (heap_alloc_new w2 walkZ) size_walk rfl rfl ?_))
  obtain⟨W3,hW3⟩:∃W3,W3=w2.alloc (walkO ⟨pa,pn,pc,ba,bn,bc,ta,tc,fa,fc⟩):=⟨_,rfl⟩
  rw[←hW3];have hw3:W3.heap[w2.heap.size]? =some (walkO ⟨pa,pn,pc,ba,bn,bc,ta,tc,fa,fc⟩):=by rw[hW3];exact heap_alloc_new _ _
  have HW3:=Lib.hid hw3;have HB3':Below w2.heap.size w2 W3:=by rw[hW3];exact ext_alloc _ _
  have HB3:=Lib.hid (ext_trans HB2.out HB3');have HWK3:=Lib.hid (HWK.out.ext HB3');clear hW3 hw3 HB3' HWK HB2
  go_upto_region 5 with (first
   |(refine wpList_load_row (o:=⟨some 16,.load 133 _,_,_,_,_⟩) rfl 133 _ rfl w2.heap.size rfl 133 _ (0,0) _ HW3.out Tryz.underlying133 rfl size_walk ?_)
   |(go_at_call 57
     refine(own_any ⟨pa,pn,pc,ba,bn,bc,ta,tc,fa,fc⟩ hbn1 hbn2 a n c ls W3 (HT.out.ext HB3.out)).mono ?_;rintro e w4 ⟨v,rfl,hb4,ho1,ho2⟩;have HB4:=Lib.hid (ext_trans HB3.out hb4);have HO1:=Lib.hid ho1;have HO2:=Lib.hid ho2;have hsz:=HB3.out.size
     clear hb4 ho1 ho2))
  cases hob:ownB (tdOf ls) bn with
  |false=>
   have hv:v=nilV:=HO2.out hob;subst hv;have HOB:=Lib.hid hob;clear hob HO1 HO2;have hq:=fun w n c n' c'=>Lib.run_eql_slice_nil (P:=Tryz.prog) w 22 3 none n c n' c' Tryz.underlying22;go_wp2;exact bodyPost_ret (v:=.tuple #[nilV,.int .i64 12]) (by simp[results,Tryz.results171,go_sem,Act.put]) rfl ⟨_,_,rfl,HB4.out,(fun h=>by rw[HF.out] at h;cases h),fun _ _=>⟨rfl,rfl⟩,(fun _ h=>by rw[HOB.out] at h;cases h)⟩
  |true=>
   obtain⟨g,cc,rfl,ho⟩:=HO1.out hob;have HOB:=Lib.hid hob;have HO:=Lib.hid ho;clear hob HO1 HO2 ho;have hq:=fun w n c n' c'=>Lib.run_eql_slice_nil (P:=Tryz.prog) w 22 3 (some ⟨g,0,none⟩) n c n' c' Tryz.underlying22;go_wp2;exact bodyPost_ret (v:=.tuple #[.slice (some ⟨g,0,none⟩) bn cc,.int .i64 0]) (by simp[results,Tryz.results171,go_sem,Act.put]) rfl ⟨_,_,rfl,HB4.out,(fun h=>by rw[HF.out] at h;cases h),(fun _ h=>by rw[HOB.out] at h;cases h),fun _ _=>⟨rfl,g,cc,rfl,HO.out.mono hsz⟩⟩
end

section
open Go.RowKit Go.Shelf
attribute [local go_sem] Oper.semAt_some wide_fn wide_depth wide_fnR wide_depthR
theorem index_set(w:World)(f:Nat→Bool)(b:Nat)(hb:b<200):(Instr.index 141 (.agg (setA f)) (.int .i64 (b:Int))).run Tryz.prog w=.ok (.bool (f b)) w:=by
 have hz:(Go.sizeOf 4).run Tryz.prog w=.ok 1 w:=by kernel_rfl
 have hb2:(0:Int)≤(b:Int)∧(b:Int)<((200:Nat):Int):=by omega
 have h1:=part_bool (setA f) b _ w (setA_at f b hb)
 simp only[Instr.index,asIntOf,Sem.run_bind,Sem.run_pure,Result.andThen_ok,run_underlying (w:=w) Tryz.underlying141,if_pos hb2,hz]
 simpa using h1
theorem rings1_any(d:WalkD)(ts:List TermD)(f:Nat→Bool)(P S:Nat)(x:Nat)(hx:x<200)(W:World)(hP:W.heap[P]? =some (walkO d))(hS:W.heap[S]? =some (setO f))(hok:WalkOK W d ts)(hg:goodB ts=true)(hcf:Canon f)(hf:x<d.bn):
  Calls Tryz.prog 141 (#[.int .i64 (x:Int)]++ #[.pointer (some ⟨P,0,none⟩),.pointer (some ⟨S,0,none⟩)]) W fun e W'=>e=.returned (.bool (knotS ts x f x))∧Below W.heap.size W W':=by
 show Calls Tryz.prog 141 #[.int .i64 (x:Int),.pointer (some ⟨P,0,none⟩),.pointer (some ⟨S,0,none⟩)] W _
 have HP:=Lib.hid hP
 have HS:=Lib.hid hS
 have HOK:=Lib.hid hok
 have HG:=Lib.hid hg
 have HF:=Lib.hid hf
 have HCF:=Lib.hid hcf
 clear hP hS hok hg hf hcf
 have hix:=fun w=>index_set w (knotS ts x f) x hx
 go_enter Tryz.func141,Tryz.ntmps141
 go_wp2_with (first
  |(refine wpList_load_row (o:=⟨some 5,.load 133 _,_,_,_,_⟩) rfl 133 _ rfl P rfl 133 _ (0,0) _ HP.out Tryz.underlying133 rfl size_walk ?_)
  |(refine wpList_load_row (o:=⟨some 7,.load 141 _,_,_,_,_⟩) rfl 141 _ rfl S rfl 141 _ (0,0) _ HS.out Tryz.underlying141 rfl (by rw[setA_size];exact size_set) ?_)
  |(go_at_call 140
    refine(knot_any d ts x f W hx HOK.out HG.out HCF.out fun _=>HF.out).mono ?_;rintro e w2 ⟨rfl,hb⟩;have HB:=Lib.hid hb
    clear hb))
 go_ret
 exact⟨rfl,HB.out⟩
theorem enter_rings1(args:Array Value)(w:World):(callFunc 141 args).run Tryz.prog w=.ok (.enter 141 args) w:=enters_of Tryz.func141 (by kernel_rfl) rfl args w
theorem rings_any(d:WalkD)(ts:List TermD)(f:Nat→Bool)(a:Option Addr)(n c:Nat)(bs:List Int)(w:World)(hI:Ints w a n bs)(hbs:∀x∈bs,0≤x∧x<d.bn)(hok:WalkOK w d ts)(hg:goodB ts=true)(hf:Canon f):
  Calls Tryz.prog 95 #[walkV d,.slice a n c,.agg (setA f)] w fun e w'=>e=.returned (.bool (ringsB ts bs f))∧Below w.heap.size w w':=by
 have HI:=Lib.hid hI
 have HBS:=Lib.hid hbs
 have HOK:=Lib.hid hok
 have HG:=Lib.hid hg
 have HF:=Lib.hid hf
 clear hI hbs hok hg hf
 go_enter Tryz.func95,Tryz.ntmps95
 go_wp2_with (
  (go_at_call 20
   refine(containsFunc_any 141 #[.pointer (some ⟨w.heap.size,0,none⟩),.pointer (some ⟨w.heap.size+1,0,none⟩)] enter_rings1 (fun z=>knotS ts z.toNat f z.toNat) a n c bs _ (fun z W hz hb=>?_) (HI.out.ext ((ext_alloc _ _).alloc (by simp) _))).mono ?_
   ·have hz2:=HBS.out z hz;have hbn:=HOK.out.2.1;obtain⟨q,rfl⟩:∃q:Nat,z=(q:Int):=⟨z.toNat,by omega⟩
    refine rings1_any d ts f w.heap.size (w.heap.size+1) q (by omega) W (block_ext hb ?_) (block_ext hb (heap_at _ _ _ (by simp))) (HOK.out.ext (ext_trans ((ext_alloc _ _).alloc (by simp) _) hb)) HG.out HF.out (by omega);rw[Below.heap_alloc _ _ _ (by simp)];exact heap_alloc_new _ _
   rintro e w2 ⟨rfl,hb⟩;have HB:=Lib.hid hb
   clear hb))
 go_ret
 exact⟨rfl,ext_trans ((ext_alloc _ _).alloc (by simp) _) HB.out⟩
def ToJ(w:World)(d:WalkD)(f:Nat→Bool)(W:World):Prop:=
 W.heap[w.heap.size]? =some (walkO d)∧W.heap[w.heap.size+1]? =some (setO f)∧W.heap[w.heap.size+1+1]? =some (.cells #[.bool false] 4 (0,0))∧W.heap[w.heap.size+1+1+1]? =some (.cells #[.pointer (some ⟨w.heap.size+1,0,none⟩)] 256 (0,0))∧Below w.heap.size w W
theorem ToJ.steady{w:World}{d:WalkD}{f:Nat→Bool}{D:Nat}(hD:w.heap.size≤D):Steady D (ToJ w d f):=by
 unfold ToJ
 exact(Steady.block _ _ rfl).and ((Steady.block _ _ rfl).and ((Steady.block _ _ rfl).and ((Steady.block _ _ rfl).and (Steady.below (Nat.le_refl _) hD))))
theorem together_any(d:WalkD)(ts:List TermD)(f:Nat→Bool)(w:World)(hok:WalkOK w d ts)(hg:goodB ts=true)(hcf:Canon f)(hf:∀b l,listS f=b :: l→b<d.bn):
  Calls Tryz.prog 94 #[walkV d,.agg (setA f)] w fun e w'=>e=.returned (.bool (togetherB ts f))∧Below w.heap.size w w':=by
 refine(callsIn_wide (n:=0)).1 ?_
 refine callsIn_of_wp_marks Tryz.func94 rfl trivial ?_
 simp only[Tryz.ntmps94,List.size_toArray,List.length_cons,List.length_nil,Nat.reduceAdd,Nat.reduceSub,Array.replicate_succ,Array.replicate_zero,List.push_toArray,List.append_toArray,List.nil_append,List.cons_append]
 have HOK:=Lib.hid hok
 have HG:=Lib.hid hg
 have HF:=Lib.hid hf
 have HCF:=Lib.hid hcf
 have hdn:d.bn≤200:=hok.2.1
 clear hok hg hcf hf
 gi_wp2_with (gi_at_call 138;refine(callsIn_wide.2 (each_any _ _)).mono ?_;rintro e w' ⟨rfl,rfl⟩)
 refine range_list (ps:=#[7]) (gf:=169) (lb:=#[.pointer (some ⟨w.heap.size+1+1+1,0,none⟩)]) (enc:=encN) (l:=listS f) rfl enter_each _ (each_iterI f (w.heap.size+1+1+1) (w.heap.size+1)) (fun _=>rfl)
  (fun dn r W=>Hid (dn= []∧ToJ w d f W)) (fun c W=>c=.ret∧W.heap[w.heap.size+1+1]? =some (.cells #[.bool (togetherB ts f)] 4 (0,0))∧Below w.heap.size w W)
  (fun dn r=>(Steady.pure _ _).and (ToJ.steady (by simp;omega))) (fun c=>(Steady.pure _ _).and ((Steady.block _ _ rfl).and (Steady.below (Nat.le_refl _) (by simp;omega)))) (fun dn r W h=>⟨by rw[cell_of_row _ _ _ _ _ _ h.out.2.2.2.2.1];rfl,h.out.2.2.1⟩) ?start ?round ?done ?stop
 case start=>
  refine⟨rfl,?_,?_,?_,?_,?_⟩
  ·rw[Below.heap_alloc _ _ _ (by simp;omega),Below.heap_alloc _ _ _ (by simp;omega),Below.heap_alloc _ _ _ (by simp)];exact heap_alloc_new _ _
  ·rw[Below.heap_alloc _ _ _ (by simp),Below.heap_alloc _ _ _ (by simp)];exact heap_at _ _ _ (by simp)
  ·rw[Below.heap_alloc _ _ _ (by simp)];exact heap_at _ _ _ (by simp)
  ·exact heap_at _ _ _ (by simp)
  ·exact(((ext_alloc _ _).alloc (by simp) _).alloc (by simp;omega) _).alloc (by simp;omega) _
 case round=>
  rintro lp dn x r W0 hd hJ;unfold encN
  gi_wp2
  refine⟨Keep.refl _,hJ,?_⟩;clear hJ lp W0;rintro lp W0 hJ;obtain⟨rfl,j1,j2,j3,j4,jb⟩:=hJ.out;have hxl:x<200:=listS_lt f x (by rw[hd];simp);have HXB:Hid (f x=true→x<d.bn):=fun _=>HF.out x r hd;have HE:Hid (togetherB ts f=eqS (knotS ts x f) f):=by
   have:listS f=x :: r:=hd;simp only[Hid,togetherB,this]
  have HW:=Lib.hid j1;have HS:=Lib.hid j2;have HR:=Lib.hid j3;have HBW:=Lib.hid jb;clear hJ j1 j2 j3 j4 jb hd;refine wpIn_block ?_;refine wpIn_seq ?_;refine round_free 6 [some 8,some 9,some 10,some 11,some 12,some 13] (by kernel_rfl) (by kernel_rfl) (by repeat (first|exact noOut_round|refine noOut_then ?_|refine noOut_block ?_)) (by kernel_rfl) (specB [.val (walkV d),.val (.int .i64 (x:Int)),.val (.agg (setA f)),.val (.agg (setA (knotS ts x f))),.val (.agg (setA f)),.val (.bool (eqS (knotS ts x f) f))]) (specB_mono ?_) ?_ ?_
  ·intro k hk;simp only[List.mem_cons,List.not_mem_nil,or_false] at hk;rcases hk with rfl|rfl|rfl|rfl|rfl|rfl
   ·exact trivial
   ·exact trivial
   ·exact trivial
   ·exact trivial
   ·exact trivial
   ·exact trivial
  ·intro i hi ν lo hi' w1 K hB hD hK;have hcase:i=0∨i=1∨i=2∨i=3∨i=4∨i=5:=by omega
   clear hi;rcases hcase with rfl|rfl|rfl|rfl|rfl|rfl
   ·clear hD;refine wpOp_atK rfl rfl ?_;simp only[zA,zB,zC,zD,zE,zF,zJ,zK,zG,zH,zI] at hK⊢;refine wp_load_row 133 _ rfl w.heap.size rfl 133 _ (0,0) _ (block_ext hB HW.out) Tryz.underlying133 rfl size_walk ?_;exact hK _ _ (Below.refl _ _) rfl
   ·clear hD;refine wpOp_atK rfl rfl ?_;simp only[zA,zB,zC,zD,zE,zF,zJ,zK,zG,zH,zI] at hK⊢;go_simp;exact hK _ _ (Below.refl _ _) rfl
   ·clear hD;refine wpOp_atK rfl rfl ?_;simp only[zA,zB,zC,zD,zE,zF,zJ,zK,zG,zH,zI] at hK⊢;refine wp_load_row 141 _ rfl (w.heap.size+1) rfl 141 _ (0,0) _ (block_ext hB HS.out) Tryz.underlying141 rfl (by rw[setA_size];exact size_set) ?_;exact hK _ _ (Below.refl _ _) rfl
   ·have e0:=hD 0 (by kernel_rfl)
    replace e0:ν 0=(walkV d):=e0
    have e1:=hD 1 (by kernel_rfl)
    replace e1:ν 1=(.int .i64 (x:Int)):=e1
    have e2:=hD 2 (by kernel_rfl)
    replace e2:ν 2=(.agg (setA f)):=e2
    clear hD;refine wpOp_atK rfl rfl ?_;simp only[zA,zB,zC,zD,zE,zF,zJ,zK,zG,zH,zI,e0,e1,e2] at hK⊢;go_simp;refine(knot_any d ts x f w1 (by omega) (HOK.out.ext (ext_trans HBW.out hB)) HG.out HCF.out HXB.out).mono ?_;rintro e w3 ⟨rfl,hb3⟩;exact hK _ _ hb3 rfl
   ·clear hD;refine wpOp_atK rfl rfl ?_;simp only[zA,zB,zC,zD,zE,zF,zJ,zK,zG,zH,zI] at hK⊢;refine wp_load_row 141 _ rfl (w.heap.size+1) rfl 141 _ (0,0) _ (block_ext hB HS.out) Tryz.underlying141 rfl (by rw[setA_size];exact size_set) ?_;exact hK _ _ (Below.refl _ _) rfl
   ·have e3:=hD 3 (by kernel_rfl)
    replace e3:ν 3=(.agg (setA (knotS ts x f))):=e3
    have e4:=hD 4 (by kernel_rfl)
    replace e4:ν 4=(.agg (setA f)):=e4
    clear hD;refine wpOp_atK rfl rfl ?_;simp only[zA,zB,zC,zD,zE,zF,zJ,zK,zG,zH,zI,e3,e4] at hK⊢;have heq:=equal_set w1 (knotS ts x f) f;go_simp;exact hK _ _ (Below.refl _ _) rfl
  ·intro ν lo hi w1 hB hS hI hD;have e0:ν 0=(walkV d):=hS 0 (by omega);have e1:ν 1=(.int .i64 (x:Int)):=hS 1 (by omega);have e2:ν 2=(.agg (setA f)):=hS 2 (by omega);have e3:ν 3=(.agg (setA (knotS ts x f))):=hS 3 (by omega);have e4:ν 4=(.agg (setA f)):=hS 4 (by omega);have e5:ν 5=(.bool (eqS (knotS ts x f) f)):=hS 5 (by omega);clear hS;simp only[List.drop_succ_cons,List.drop_zero,zA,zB,zC,zD,zE,zF,zJ,zK,zG,zH,zI,e0,e1,e2,e3,e4,e5];have HB1:=Lib.hid hB;clear hI hD e0 e1 e2 e3 e4 e5;have hr1:=block_ext HB1.out HR.out;have hc1:w1.cell? ⟨w.heap.size+1+1,0,none⟩=some (.bool false):=by rw[cell_of_row _ _ _ _ _ _ hr1];rfl
   have hf1:w1.frozen? ⟨w.heap.size+1+1,0,none⟩=false:=frozen_of_row _ _ _ _ _ hr1;have hl1:=lt_of_heap hr1;have HR1:=Lib.hid hr1;clear hr1 hB;go_wp2;refine wpIn_ret ?_;have hst:=heap_setCell_same w1 (w.heap.size+1+1) 0 _ _ (.bool (eqS (knotS ts x f) f)) HR1.out;exact⟨(Keep.ext HB1.out).trans (Keep.setCell _ _ _),rfl,by rw[HE.out];simpa using hst,(ext_trans HBW.out HB1.out).setCell (by simp;omega) _⟩
 case done=>
  rintro D W hD hJ hK;obtain⟨hl,j1,j2,j3,j4,jb⟩:=hJ.out;have HE:Hid (togetherB ts f=true):=by simp only[Hid,togetherB,hl]
  have hc1:W.cell? ⟨w.heap.size+1+1,0,none⟩=some (.bool false):=by rw[cell_of_row _ _ _ _ _ _ j3];rfl
  have hf1:W.frozen? ⟨w.heap.size+1+1,0,none⟩=false:=frozen_of_row _ _ _ _ _ j3;have hl1:=lt_of_heap j3;have HB:=Lib.hid jb;have HJ3:=Lib.hid j3;clear hJ j1 j2 j3 j4 jb hl
  gi_wp2
  have hDP:D≠w.heap.size+1+1:=by simp at hD;omega
  have g:=grown_setCell W (w.heap.size+1+1) 0 (.bool true);have hK2:=grown_row g hK (by simp;omega);have hb2:Below w.heap.size w (W.setCell ⟨w.heap.size+1+1,0,none⟩ (.bool true)):=HB.out.setCell (by simp;omega) _;have hv2:(W.setCell ⟨w.heap.size+1+1,0,none⟩ (.bool true)).heap[w.heap.size+1+1]? =some (.cells #[.bool true] 4 (0,0)):=by
   have:=heap_setCell_same W (w.heap.size+1+1) 0 _ _ (.bool true) HJ3.out;simpa using this
  generalize W.setCell ⟨w.heap.size+1+1,0,none⟩ (.bool true)=W2 at *;have hb3:=(Steady.below (n₀:=w.heap.size) (B:=w.heap.size) (w₀:=w) (Nat.le_refl _) (Nat.le_refl _)).put (.deferred none) (l:=D) hb2 (by simp at hD;omega) hK2 rfl;have hv3:(W2.putObj D (.deferred none)).heap[w.heap.size+1+1]? =some (.cells #[.bool true] 4 (0,0)):=(World.putObj_heap_other (by omega)).trans hv2;have hc3:(W2.putObj D (.deferred none)).cell? ⟨w.heap.size+1+1,0,none⟩=some (.bool true):=by rw[cell_of_row _ _ _ _ _ _ hv3];rfl
  refine⟨by simp,.inl ⟨_,_,rfl,run_takeDeferred hK2,?_⟩⟩;exact⟨.bool true,by simp[results,Tryz.results94,go_sem,hc3],by rw[HE.out],hb3⟩
 case stop=>
  rintro D c W hD ⟨rfl,hv,hb⟩ hK;have hv2:(W.putObj D (.deferred none)).heap[w.heap.size+1+1]? =some (.cells #[.bool (togetherB ts f)] 4 (0,0)):=(World.putObj_heap_other (by simp at hD;omega)).trans hv;have hb2:=(Steady.below (n₀:=w.heap.size) (B:=w.heap.size) (w₀:=w) (Nat.le_refl _) (Nat.le_refl _)).put (.deferred none) (l:=D) hb (by simp at hD;omega) hK rfl;have hc:(W.putObj D (.deferred none)).cell? ⟨w.heap.size+1+1,0,none⟩=some (.bool (togetherB ts f)):=by rw[cell_of_row _ _ _ _ _ _ hv2];rfl
  gi_wp2
  refine⟨by simp,.inl ⟨_,_,rfl,run_takeDeferred hK,?_⟩⟩;exact⟨.bool (togetherB ts f),by simp[results,Tryz.results94,go_sem,hc],rfl,hb2⟩
end
end Go.Proofs.YtnmkjliioogbgaaGreatDoor
