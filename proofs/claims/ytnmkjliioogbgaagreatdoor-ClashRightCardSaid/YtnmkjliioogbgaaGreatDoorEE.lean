/-
 Edge:over (a function's tiles,whose own each block is,which tiles it lies in).
-/
import Derived.Test.YtnmkjliioogbgaaGreatDoorED
import Derived.Test.YtnmkjliioogbgaaGreatDoorMark
import Derived.Test.YtnmkjliioogbgaaGreatDoorTX
import Derived.Test.YtnmkjliioogbgaaGreatDoorMaps
namespace Go.Proofs.YtnmkjliioogbgaaGreatDoor
set_option linter.unusedSimpArgs false
set_option linter.unusedVariables false
set_option linter.unusedSectionVars false
set_option maxRecDepth 100000
set_option maxHeartbeats 40000000
section
open Go.RowKit Go.Shelf
attribute [local go_sem] Oper.semAt_some wide_fn wide_depth wide_fnR wide_depthR
theorem zero_ints(w:World):(zeroValue 22).run Tryz.prog w=.ok (.slice none 0 0) w:=by kernel_rfl
theorem size_around:(Tryz.prog.info? 227).map (·.size)=some 3:=by kernel_rfl
abbrev aroundO(a:Option Addr)(n c:Nat)(o:Value)(m:Option Nat):Obj:=.cells #[.slice a n c,o,.map m] 227
def Far(base:Nat)(a:Option Addr):Prop:=∀b o,a=some ⟨b,o,none⟩→base≤b
theorem Ints.grown{w w':World}{a:Option Addr}{n:Nat}{xs:List Int}{row:Option Nat}(h:Ints w a n xs)(hg:w.grownBy w' row)(hr:∀b o,a=some ⟨b,o,none⟩→b<w.heap.size→row≠some b):Ints w' a n xs:=
 ⟨h.1,h.2.1,fun k hk=>by
  obtain⟨b,o,e,hc,hi⟩:=h.2.2 k hk;have hlt:=World.block_lt_of_cell? _ _ hc
  exact⟨b,o,e,(cell_heap (hg.block b hlt (fun e2=>hr b o e hlt e2.symm))).trans hc,hi⟩⟩
theorem Far.own{w:World}{base:Nat}{a:Option Addr}{n c:Nat}{xs:List Int}(h:OwnI w base (.slice a n c) xs):Far base a:=fun b o e=>by
 rcases h.1.2 with ⟨hv,_⟩|⟨g,cap,cur,hv,hb,_⟩
 ·rw[e] at hv;cases hv
 ·rw[e] at hv;injection hv with h1 _ _;injection h1 with h1;injection h1 with h1 _ _;omega
def InMap(w:World)(base M:Nat)(l:List TileD)(n:Nat):Prop:=
 ∃f,IMap w M f∧base≤M∧∀b:Nat,b<n→∃a c,f b=some (.slice a (inL l b).length c)∧Ints w a (inL l b).length (inL l b)∧Far base a
theorem InMap.grown{w w':World}{base M:Nat}{l:List TileD}{n:Nat}{row:Option Nat}(h:InMap w base M l n)(hg:w.grownBy w' row)(hr:∀q,row=some q→q<base∨w.heap.size≤q):InMap w' base M l n:=by
 obtain⟨f,h1,h0,h2⟩:=h
 refine⟨f,h1.grown hg (fun e=>?_),h0,fun b hbn=>?_⟩
 ·have:=h1.lt;have:=hr M e.symm;omega
 ·obtain⟨a,c,h3,h4,h5⟩:=h2 b hbn;refine⟨a,c,h3,h4.grown hg (fun q o e hlt e2=>?_),h5⟩;have:=h5 q o e;have:=hr q e2;omega
theorem InMap.ext{w w':World}{base M:Nat}{l:List TileD}{n:Nat}(h:InMap w base M l n)(hb:Below w.heap.size w w'):InMap w' base M l n:=by
 obtain⟨f,h1,h0,h2⟩:=h
 exact⟨f,h1.ext hb,h0,fun b hbn=>let ⟨a,c,h3,h4,h5⟩:=h2 b hbn;⟨a,c,h3,h4.ext hb,h5⟩⟩
def AroundOK(w:World)(base:Nat)(l:List TileD)(n:Nat)(a:Option Addr)(ln lc:Nat)(v:Value):Prop:=
 ∃g c M,v=.agg #[.slice a ln lc,.slice (some ⟨g,0,none⟩) n c,.map (some M)]∧Ints w (some ⟨g,0,none⟩) n (ownL l n)∧base≤g∧InMap w base M l n
theorem AroundOK.grown{w w':World}{base:Nat}{l:List TileD}{n:Nat}{a:Option Addr}{ln lc:Nat}{v:Value}{row:Option Nat}(h:AroundOK w base l n a ln lc v)(hg:w.grownBy w' row)(hr:∀q,row=some q→q<base∨w.heap.size≤q):AroundOK w' base l n a ln lc v:=by
 obtain⟨g,c,M,e,h1,h0,h2⟩:=h
 refine⟨g,c,M,e,h1.grown hg (fun q o e hlt e2=>?_),h0,h2.grown hg hr⟩
 injection e with e
 injection e with e _ _
 subst e
 have:=hr _ e2
 omega
theorem AroundOK.ext{w w':World}{base:Nat}{l:List TileD}{n:Nat}{a:Option Addr}{ln lc:Nat}{v:Value}(h:AroundOK w base l n a ln lc v)(hb:Below w.heap.size w w'):AroundOK w' base l n a ln lc v:=by
 obtain⟨g,c,M,e,h1,h0,h2⟩:=h
 exact⟨g,c,M,e,h1.ext hb,h0,h2.ext hb⟩
def overErr(ts:List TermD)(l:List TileD):Int:=if fitsB ts then (if rightB ts l then 0 else 12) else 2
def OverEPost(ts:List TermD)(l:List TileD)(n:Nat)(a:Option Addr)(ln lc:Nat)(w:World)(e:Ending)(w':World):Prop:=
 ∃cs:Array Value,e=.returned (.tuple #[.agg cs,.int .i64 (overErr ts l)])∧cs.size=3∧cs.all (·.oneCell')=true∧Below w.heap.size w w'∧(rightB ts l=false→cs= #[.slice none 0 0,.slice none 0 0,.map none])∧(rightB ts l=true→AroundOK w' w.heap.size l n a ln lc (.agg cs))
theorem overE_no(pa:Option Addr)(pn pc:Nat)(ba:Option Addr)(bn bc:Nat)(bs:List BlkH)(a:Option Addr)(n c:Nat)(ls:List TileR)(w:World)(h:BlksOK w ba bn bs)(ht:TilesOK w a n ls)(hT:totL (tdOf ls)≤1000000)(hno:rightB (tsOf bs) (tdOf ls)=false):
  Calls Tryz.prog 143 #[funcV pa pn pc ba bn bc,.slice a n c] w (OverEPost (tsOf bs) (tdOf ls) bn a n c w):=by
 have H:=Lib.hid h
 have HT:=Lib.hid ht
 clear h ht
 go_enter Tryz.func143,Tryz.ntmps143
 go_upto_region 1 with (fail)
 obtain⟨W,hW⟩:∃W,W=(w.alloc (funcO pa pn pc ba bn bc)).alloc (aroundO none 0 0 (.slice none 0 0) none):=⟨_,rfl⟩
 rw[←hW]
 have hk0:W.heap[w.heap.size]? =some (funcO pa pn pc ba bn bc):=by rw[hW];exact block_ext (ext_alloc _ _) (heap_alloc_new _ _)
 have hk1:W.heap[w.heap.size+1]? =some (aroundO none 0 0 (.slice none 0 0) none):=by rw[hW];have:=heap_alloc_new (w.alloc (funcO pa pn pc ba bn bc)) (aroundO none 0 0 (.slice none 0 0) none);simpa using this
 have hB:Below w.heap.size w W:=by rw[hW];exact ext_trans (ext_alloc _ _) (ext_alloc _ _)
 have HK:=Lib.hid hk0
 have HX:=Lib.hid hk1
 have HB:=Lib.hid hB
 clear hW hk0 hk1 hB
 cases hf:fitsB (tsOf bs) with
 |false=>
  have HE:Hid (overErr (tsOf bs) (tdOf ls)=2):=by simp[Hid,overErr,hf]
  have HR:Hid (rightB (tsOf bs) (tdOf ls)=false):=by simp[Hid,rightB,hf]
  have HF:=Lib.hid hf;clear hf hno
  go_wp2_with (first
   |(refine wpList_load_row (o:=⟨some 8,.load 40 _,_,_,_,_⟩) rfl 40 _ rfl w.heap.size rfl 40 _ (0,0) _ HK.out Tryz.underlying40 rfl size_func ?_)
   |(refine wpList_load_row (o:=⟨some 11,.load 227 _,_,_,_,_⟩) rfl 227 _ rfl (w.heap.size+1) rfl 227 _ (0,0) _ HX2.out Tryz.underlying227 rfl size_around ?_)
   |(refine wpList_store_row (o:=⟨none,.store 227 _ _,_,_,_,_⟩) rfl 227 _ _ rfl (w.heap.size+1) #[.slice none 0 0,.slice none 0 0,.map none] rfl rfl 227 _ HX2.out size_around rfl (by simp[Value.oneCell']) ?_)
   |(go_at_call 170
     refine(tfits_any pa pn pc ba bn bc bs W (H.out.ext HB.out)).mono ?_;rintro e w2 ⟨rfl,hb⟩;rw[HF.out];have HX2:=Lib.hid (block_ext hb HX.out);have HB2:=Lib.hid (ext_trans HB.out hb)
     clear hb))
  refine bodyPost_ret (v:=.tuple #[.agg #[.slice none 0 0,.slice none 0 0,.map none],.int .i64 2]) ?_ rfl ⟨_,by rw[HE.out],rfl,by simp[Value.oneCell'],below_setRow HB2.out (by omega) _,fun _=>rfl,fun h=>by rw[HR.out] at h;cases h⟩;have hl:=run_loadVar_row (P:=Tryz.prog) _ (w.heap.size+1) 227 227 _ (0,0) _ (setRow_heap _ _ _ #[.slice none 0 0,.slice none 0 0,.map none] _ _ HX2.out) Tryz.underlying227 rfl size_around;simp[results,Tryz.results143,asAddr,Act.put,hl]
 |true=>
  ·have HE:Hid (overErr (tsOf bs) (tdOf ls)=12):=by simp[Hid,overErr,hf,hno]
   have HF:=Lib.hid hf;have HR:=Lib.hid hno;clear hf hno
   go_wp2_with (first
    |(refine wpList_load_row (o:=⟨some 8,.load 40 _,_,_,_,_⟩) rfl 40 _ rfl w.heap.size rfl 40 _ (0,0) _ HK.out Tryz.underlying40 rfl size_func ?_)
    |(refine wpList_load_row (o:=⟨some 16,.load 227 _,_,_,_,_⟩) rfl 227 _ rfl (w.heap.size+1) rfl 227 _ (0,0) _ HX3.out Tryz.underlying227 rfl size_around ?_)
    |(refine wpList_store_row (o:=⟨none,.store 227 _ _,_,_,_,_⟩) rfl 227 _ _ rfl (w.heap.size+1) #[.slice none 0 0,.slice none 0 0,.map none] rfl rfl 227 _ HX3.out size_around rfl (by simp[Value.oneCell']) ?_)
    |(go_at_call 42
      refine(tright_any pa pn pc ba bn bc bs a n c ls w2 (H.out.ext HB2.out) (HT.out.ext HB2.out) hT).mono ?_;rintro e w3 ⟨rfl,hb⟩;rw[HR.out];have HX3:=Lib.hid (block_ext hb HX2.out);have HB3:=Lib.hid (ext_trans HB2.out hb)
      clear hb)
    |(refine wpList_load_row (o:=⟨some 12,.load 40 _,_,_,_,_⟩) rfl 40 _ rfl w.heap.size rfl 40 _ (0,0) _ HK2.out Tryz.underlying40 rfl size_func ?_)
    |(go_at_call 170
      refine(tfits_any pa pn pc ba bn bc bs W (H.out.ext HB.out)).mono ?_;rintro e w2 ⟨rfl,hb⟩;rw[HF.out];have HK2:=Lib.hid (block_ext hb HK.out);have HX2:=Lib.hid (block_ext hb HX.out);have HB2:=Lib.hid (ext_trans HB.out hb)
      clear hb))
   refine bodyPost_ret (v:=.tuple #[.agg #[.slice none 0 0,.slice none 0 0,.map none],.int .i64 12]) ?_ rfl ⟨_,by rw[HE.out],rfl,by simp[Value.oneCell'],below_setRow HB3.out (by omega) _,fun _=>rfl,fun h=>by rw[HR.out] at h;cases h⟩;have hl:=run_loadVar_row (P:=Tryz.prog) _ (w.heap.size+1) 227 227 _ (0,0) _ (setRow_heap _ _ _ #[.slice none 0 0,.slice none 0 0,.map none] _ _ HX3.out) Tryz.underlying227 rfl size_around;simp[results,Tryz.results143,asAddr,Act.put,hl]
end
end Go.Proofs.YtnmkjliioogbgaaGreatDoor
