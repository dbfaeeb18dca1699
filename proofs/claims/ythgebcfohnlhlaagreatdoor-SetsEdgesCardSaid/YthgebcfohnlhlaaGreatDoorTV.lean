/-
 Tile:Fits,Own,Entries.
-/
import Derived.Test.YthgebcfohnlhlaaGreatDoorTI
import Derived.Test.YthgebcfohnlhlaaGreatDoorTJ
import Derived.Test.YthgebcfohnlhlaaGreatDoorTM
import Derived.Test.YthgebcfohnlhlaaGreatDoorRowG
namespace Go.Proofs.YthgebcfohnlhlaaGreatDoor
set_option linter.unusedSimpArgs false
set_option linter.unusedVariables false
set_option linter.unusedSectionVars false
set_option maxRecDepth 100000
set_option maxHeartbeats 40000000
section
open Go.RowKit Go.Shelf
attribute [local go_sem] Oper.semAt_some wide_fn wide_depth wide_fnR wide_depthR
abbrev walkZ:Obj:=.cells #[nilV,nilV,nilV,nilV] 149
theorem tfits_any(pa:Option Addr)(pn pc:Nat)(ba:Option Addr)(bn bc:Nat)(bs:List BlkH)(w:World)(h:BlksOK w ba bn bs):
  Calls Tryz.prog 249 #[funcV pa pn pc ba bn bc] w fun e w'=>e=.returned (.bool (fitsB (tsOf bs)))∧Below w.heap.size w w':=by
 have H:=Lib.hid h
 clear h
 go_enter Tryz.func249,Tryz.ntmps249
 go_upto_region 1 with (fail)
 obtain⟨W,hW⟩:∃W,W=w.alloc (funcO pa pn pc ba bn bc):=⟨_,rfl⟩
 rw[←hW]
 have hk0:W.heap[w.heap.size]? =some (funcO pa pn pc ba bn bc):=by rw[hW];exact heap_alloc_new _ _
 have hB:Below w.heap.size w W:=by rw[hW];exact ext_alloc _ _
 have HK:=Lib.hid hk0
 have HB:=Lib.hid hB
 clear hW hk0 hB
 go_wp2_with (first
  |(refine wpList_load_row (o:=⟨some 6,.load 25 _,_,_,_,_⟩) rfl 25 _ rfl w.heap.size rfl 25 _ (0,0) _ HK.out Tryz.underlying25 rfl size_func ?_)
  |(go_at_call 72
    refine(over_any pa pn pc ba bn bc bs W (H.out.ext HB.out)).mono ?_;rintro e w2 ⟨cs,rfl,hcs,hall,hb,hokk⟩;have HB2:=Lib.hid (ext_trans HB.out hb);have HCS:=Lib.hid hcs;have HALL:=Lib.hid hall
    clear hb hokk hcs hall)
  |(refine wpList_store_row rfl 149 _ _ rfl w2.heap.size cs rfl rfl 149 _ (heap_alloc_new w2 walkZ) (by rw[HCS.out];exact size_walk) (by rw[HCS.out];rfl) HALL.out ?_))
 go_ret
 exact⟨rfl,below_setRow (HB2.out.alloc HB2.out.size _) HB2.out.size _⟩
def TOwnPost(ts:List TermD)(l:List TileD)(n:Nat)(w:World)(e:Ending)(w':World):Prop:=
 ∃v en,e=.returned (.tuple #[v,.int .i64 en])∧Below w.heap.size w w'∧(fitsB ts=false→v=nilV∧en=2)∧(fitsB ts=true→ownB l n=false→v=nilV∧en=12)∧
  (fitsB ts=true→ownB l n=true→en=0∧∃g c,v=.slice (some ⟨g,0,none⟩) n c∧OwnI w' w.heap.size v (ownL l n))
theorem fits_good{ts:List TermD}(h:fitsB ts=true):goodB ts=true:=by simp only[fitsB,Bool.and_eq_true] at h;exact h.1
theorem town_any(pa:Option Addr)(pn pc:Nat)(ba:Option Addr)(bn bc:Nat)(bs:List BlkH)(a:Option Addr)(n c:Nat)(ls:List TileR)(w:World)(h:BlksOK w ba bn bs)(ht:TilesOK w a n ls):
  Calls Tryz.prog 35 #[funcV pa pn pc ba bn bc,.slice a n c] w (TOwnPost (tsOf bs) (tdOf ls) bn w):=by
 have H:=Lib.hid h
 have HT:=Lib.hid ht
 clear h ht
 go_enter Tryz.func35,Tryz.ntmps35
 go_upto_region 1 with (fail)
 obtain⟨W,hW⟩:∃W,W=w.alloc (funcO pa pn pc ba bn bc):=⟨_,rfl⟩
 rw[←hW]
 have hk0:W.heap[w.heap.size]? =some (funcO pa pn pc ba bn bc):=by rw[hW];exact heap_alloc_new _ _
 have hB:Below w.heap.size w W:=by rw[hW];exact ext_alloc _ _
 have HK:=Lib.hid hk0
 have HB:=Lib.hid hB
 clear hW hk0 hB
 cases hf:fitsB (tsOf bs) with
 |false=>
  have HF:=Lib.hid hf;clear hf
  go_wp2_with (first
   |(refine wpList_load_row (o:=⟨some 10,.load 25 _,_,_,_,_⟩) rfl 25 _ rfl w.heap.size rfl 25 _ (0,0) _ HK.out Tryz.underlying25 rfl size_func ?_)
   |(go_at_call 72
     refine(over_any pa pn pc ba bn bc bs W (H.out.ext HB.out)).mono ?_;rintro e w2 ⟨cs,rfl,hcs,hall,hb,hokk⟩;rw[HF.out];have HB2:=Lib.hid (ext_trans HB.out hb);have HCS:=Lib.hid hcs;have HALL:=Lib.hid hall
     clear hb hokk hcs hall)
   |(refine wpList_store_row rfl 149 _ _ rfl w2.heap.size cs rfl rfl 149 _ (heap_alloc_new w2 walkZ) (by rw[HCS.out];exact size_walk) (by rw[HCS.out];rfl) HALL.out ?_))
  exact bodyPost_ret (v:=.tuple #[nilV,.int .i64 2]) (by simp[results,Tryz.results35,go_sem,Act.put]) rfl ⟨_,_,rfl,below_setRow (HB2.out.alloc HB2.out.size _) HB2.out.size _,fun _=>⟨rfl,rfl⟩,(fun h=>by rw[HF.out] at h;cases h),(fun h=>by rw[HF.out] at h;cases h)⟩
 |true=>
  have HF:=Lib.hid hf;have hgood:=(goodB_iff _).1 (fits_good hf);have hbn:(tsOf bs).length=bn:=by rw[tsOf_len];exact H.out.1.1
  have hbn1:1≤bn:=by rw[←hbn];exact hgood.1.1
  have hbn2:bn≤200:=by rw[←hbn];exact hgood.1.2
  clear hf hgood hbn
  go_upto_region 4 with (first
   |(refine wpList_load_row (o:=⟨some 10,.load 25 _,_,_,_,_⟩) rfl 25 _ rfl w.heap.size rfl 25 _ (0,0) _ HK.out Tryz.underlying25 rfl size_func ?_)
   |(go_at_call 72
     refine(over_any pa pn pc ba bn bc bs W (H.out.ext HB.out)).mono ?_;rintro e w2 ⟨cs,rfl,hcs,hall,hb,hokk⟩;rw[HF.out];obtain⟨ta,tc,fa,fc,hcv,hwk⟩:=hokk HF.out;injection hcv with hcv;subst hcv;have HB2:=Lib.hid (ext_trans HB.out hb);have HWK:=Lib.hid hwk
     clear hb hokk hcs hall hwk)
   |(refine wpList_store_row rfl 149 _ _ rfl w2.heap.size #[.slice pa pn pc,.slice ba bn bc,.slice ta bn tc,.slice fa bn fc] rfl rfl 149 _ (heap_alloc_new w2 walkZ) size_walk rfl rfl ?_))
  obtain⟨W3,hW3⟩:∃W3,W3=w2.alloc (walkO ⟨pa,pn,pc,ba,bn,bc,ta,tc,fa,fc⟩):=⟨_,rfl⟩
  rw[←hW3];have hw3:W3.heap[w2.heap.size]? =some (walkO ⟨pa,pn,pc,ba,bn,bc,ta,tc,fa,fc⟩):=by rw[hW3];exact heap_alloc_new _ _
  have HW3:=Lib.hid hw3;have HB3':Below w2.heap.size w2 W3:=by rw[hW3];exact ext_alloc _ _
  have HB3:=Lib.hid (ext_trans HB2.out HB3');have HWK3:=Lib.hid (HWK.out.ext HB3');clear hW3 hw3 HB3' HWK HB2
  go_upto_region 5 with (first
   |(refine wpList_load_row (o:=⟨some 16,.load 149 _,_,_,_,_⟩) rfl 149 _ rfl w2.heap.size rfl 149 _ (0,0) _ HW3.out Tryz.underlying149 rfl size_walk ?_)
   |(go_at_call 74
     refine(own_any ⟨pa,pn,pc,ba,bn,bc,ta,tc,fa,fc⟩ hbn1 hbn2 a n c ls W3 (HT.out.ext HB3.out)).mono ?_;rintro e w4 ⟨v,rfl,hb4,ho1,ho2⟩;have HB4:=Lib.hid (ext_trans HB3.out hb4);have HO1:=Lib.hid ho1;have HO2:=Lib.hid ho2;have hsz:=HB3.out.size
     clear hb4 ho1 ho2))
  cases hob:ownB (tdOf ls) bn with
  |false=>
   have hv:v=nilV:=HO2.out hob;subst hv;have HOB:=Lib.hid hob;clear hob HO1 HO2;have hq:=fun w n c n' c'=>Lib.run_eql_slice_nil (P:=Tryz.prog) w 22 3 none n c n' c' Tryz.underlying22;go_wp2;exact bodyPost_ret (v:=.tuple #[nilV,.int .i64 12]) (by simp[results,Tryz.results35,go_sem,Act.put]) rfl ⟨_,_,rfl,HB4.out,(fun h=>by rw[HF.out] at h;cases h),fun _ _=>⟨rfl,rfl⟩,(fun _ h=>by rw[HOB.out] at h;cases h)⟩
  |true=>
   obtain⟨g,cc,rfl,ho⟩:=HO1.out hob;have HOB:=Lib.hid hob;have HO:=Lib.hid ho;clear hob HO1 HO2 ho;have hq:=fun w n c n' c'=>Lib.run_eql_slice_nil (P:=Tryz.prog) w 22 3 (some ⟨g,0,none⟩) n c n' c' Tryz.underlying22;go_wp2;exact bodyPost_ret (v:=.tuple #[.slice (some ⟨g,0,none⟩) bn cc,.int .i64 0]) (by simp[results,Tryz.results35,go_sem,Act.put]) rfl ⟨_,_,rfl,HB4.out,(fun h=>by rw[HF.out] at h;cases h),(fun _ h=>by rw[HOB.out] at h;cases h),fun _ _=>⟨rfl,g,cc,rfl,HO.out.mono hsz⟩⟩
end
end Go.Proofs.YthgebcfohnlhlaaGreatDoor
