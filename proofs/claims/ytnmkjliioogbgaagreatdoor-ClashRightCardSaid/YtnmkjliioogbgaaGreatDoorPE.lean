/-
 Edge:Between,Into,Out.
-/
import Derived.Test.YtnmkjliioogbgaaGreatDoorEI
import Derived.Test.YtnmkjliioogbgaaGreatDoorED
import Derived.Test.YtnmkjliioogbgaaGreatDoorInsR
import Derived.Shelf.SlMaps.Clone
import Derived.Test.YtnmkjliioogbgaaGreatDoorQueueS
import Derived.Deep.Cut
import Derived.Deep.CutRange
import Derived.Deep.DeepCutAuto
import Derived.Test.YtnmkjliioogbgaaGreatDoorSM
namespace Go.Proofs.YtnmkjliioogbgaaGreatDoor
set_option linter.unusedSimpArgs false
set_option linter.unusedVariables false
set_option linter.unusedSectionVars false
set_option maxRecDepth 100000
set_option maxHeartbeats 40000000
section
open Go.RowKit Go.Shelf
attribute [local go_sem] Oper.semAt_some wide_fn wide_depth wide_fnR wide_depthR
def intoB(l:List TileD)(k:Int)(x:EdgeD):Bool:=(ownF l x.to.toNat:Int)==k
def outB(l:List TileD)(k:Int)(x:EdgeD):Bool:=(ownF l x.fr.toNat:Int)==k
theorem own_at{l:List TileD}{n i:Nat}(h:i<n):(ownL l n).getD i 0=(ownF l i:Int):=by
 have:(List.range n)[i]? =some i:=by rw[List.getElem?_range h]
 simp[ownL,List.getD_eq_getElem?_getD,this]
theorem into_ask(l:List TileD)(n:Nat)(a:Option Addr)(ln lc:Nat)(k:Int)(x:EdgeD)(W:World)(base:Nat)(v:Value)(h:AroundOK W base l n a ln lc v)(hx:0≤x.to∧x.to<n):
  Calls Tryz.prog 105 #[.int .i64 k,v,edgeV x] W fun e W'=>e=.returned (.bool (intoB l k x))∧Below W.heap.size W W':=by
 obtain⟨g,c,M,rfl,ho,_,_⟩:=h
 obtain⟨fr,arm,tt⟩:=x
 simp only at hx
 obtain⟨j,rfl⟩:∃j:Nat,tt=j:=⟨tt.toNat,by omega⟩
 obtain⟨b1,o1,e1,cj,_⟩:=ho.2.2 j (by omega)
 injection e1 with e1
 injection e1 with e1 e2
 subst e1 e2
 rw[own_at (by omega),Nat.zero_add] at cj
 have hlt:=World.block_lt_of_cell? _ _ cj
 have hj:(0:Int)≤(j:Int)∧(j:Int)<(n:Int):=by omega
 clear ho
 go_enter Tryz.func105,Tryz.ntmps105
 go_upto_region 1 with (fail)
 have cj2:=cell_ext (ext_trans (ext_alloc W (.cells #[.slice a ln lc,.slice (some ⟨g,0,none⟩) n c,.map (some M)] 227)) (ext_alloc _ (edgeO ⟨fr,arm,(j:Int)⟩))) cj
 go_wp2
 go_ret
 exact⟨rfl,ext_trans (ext_alloc _ _) (ext_alloc _ _)⟩
theorem out_ask(l:List TileD)(n:Nat)(a:Option Addr)(ln lc:Nat)(k:Int)(x:EdgeD)(W:World)(base:Nat)(v:Value)(h:AroundOK W base l n a ln lc v)(hx:0≤x.fr∧x.fr<n):
  Calls Tryz.prog 106 #[.int .i64 k,v,edgeV x] W fun e W'=>e=.returned (.bool (outB l k x))∧Below W.heap.size W W':=by
 obtain⟨g,c,M,rfl,ho,_,_⟩:=h
 obtain⟨fr,arm,tt⟩:=x
 simp only at hx
 obtain⟨j,rfl⟩:∃j:Nat,fr=j:=⟨fr.toNat,by omega⟩
 obtain⟨b1,o1,e1,cj,_⟩:=ho.2.2 j (by omega)
 injection e1 with e1
 injection e1 with e1 e2
 subst e1 e2
 rw[own_at (by omega),Nat.zero_add] at cj
 have hlt:=World.block_lt_of_cell? _ _ cj
 have hj:(0:Int)≤(j:Int)∧(j:Int)<(n:Int):=by omega
 clear ho
 go_enter Tryz.func106,Tryz.ntmps106
 go_upto_region 1 with (fail)
 have cj2:=cell_ext (ext_trans (ext_alloc W (.cells #[.slice a ln lc,.slice (some ⟨g,0,none⟩) n c,.map (some M)] 227)) (ext_alloc _ (edgeO ⟨(j:Int),arm,tt⟩))) cj
 go_wp2
 go_ret
 exact⟨rfl,ext_trans (ext_alloc _ _) (ext_alloc _ _)⟩
theorem enter_into(args:Array Value)(w:World):(callFunc 105 args).run Tryz.prog w=.ok (.enter 105 args) w:=enters_of Tryz.func105 (by kernel_rfl) rfl args w
theorem enter_out(args:Array Value)(w:World):(callFunc 106 args).run Tryz.prog w=.ok (.enter 106 args) w:=enters_of Tryz.func106 (by kernel_rfl) rfl args w
section
variable (pa:Option Addr) (pn pc:Nat) (ba:Option Addr) (bn bc:Nat) (bs:List BlkH) (a:Option Addr) (n c:Nat) (ls:List TileR) (k:Int) (w:World) (h:BlksOK w ba bn bs) (ht:TilesOK w a n ls) (hT:totL (tdOf ls)≤1000000)
theorem RowsPost.up{ts:List TermD}{l:List TileD}{ask:EdgeD→Bool}{w w1:World}{e:Ending}{w':World}(h:RowsPost ts l ask w1 e w')(hb:Below w.heap.size w w1):RowsPost ts l ask w e w':=by
 obtain⟨v,he,hb1,h0,h1⟩:=h
 exact⟨v,he,ext_trans hb hb1,h0,fun hr=>let ⟨hs,h2,h3⟩:=h1 hr;⟨hs,h2.mono hb.size,h3⟩⟩
include h ht hT
theorem eInto_any:Calls Tryz.prog 63 #[funcV pa pn pc ba bn bc,.slice a n c,.int .i64 k] w (RowsPost (tsOf bs) (tdOf ls) (intoB (tdOf ls) k) w):=by
 have H:=Lib.hid h
 have HT:=Lib.hid ht
 have HL:Hid ((tsOf bs).length=bn):=by rw[Hid,tsOf_len];exact h.1.1
 clear h ht
 have HAK:Hid (∀(x:EdgeD) (W:World) (base:Nat) (v:Value),x∈allE (tsOf bs)→AroundOK W base (tdOf ls) bn a n c v→Calls Tryz.prog 105 (#[.int .i64 k]++ #[v,edgeV x]) W fun e W'=>e=.returned (.bool (intoB (tdOf ls) k x))∧Below W.heap.size W W'):=fun x W base v hm har=>by
  have:=allE_mem hm;exact into_ask (tdOf ls) bn a n c k x W base v har (by rw[←HL.out];omega)
 go_enter Tryz.func63,Tryz.ntmps63
 go_wp2_with (
  (go_at_call 104
   refine(rows_any pa pn pc ba bn bc bs a n c ls 105 #[.int .i64 k] enter_into (intoB (tdOf ls) k) _ (H.out.ext (ext_alloc _ _)) (HT.out.ext (ext_alloc _ _)) hT HAK.out).mono ?_;rintro e w2 hp;have hp2:=hp.up (ext_alloc _ _);obtain⟨v,rfl,hb,h0,h1⟩:=hp2;have HB:=Lib.hid hb;have H0:=Lib.hid h0;have H1:=Lib.hid h1
   clear hp hb h0 h1))
 exact bodyPost_ret (v:=.tuple #[v,.int .i64 (overErr (tsOf bs) (tdOf ls))]) (by simp[results,Tryz.results63,go_sem,Act.put]) rfl ⟨v,rfl,HB.out,H0.out,H1.out⟩
theorem eOut_any:Calls Tryz.prog 65 #[funcV pa pn pc ba bn bc,.slice a n c,.int .i64 k] w (RowsPost (tsOf bs) (tdOf ls) (outB (tdOf ls) k) w):=by
 have H:=Lib.hid h
 have HT:=Lib.hid ht
 have HL:Hid ((tsOf bs).length=bn):=by rw[Hid,tsOf_len];exact h.1.1
 clear h ht
 have HAK:Hid (∀(x:EdgeD) (W:World) (base:Nat) (v:Value),x∈allE (tsOf bs)→AroundOK W base (tdOf ls) bn a n c v→Calls Tryz.prog 106 (#[.int .i64 k]++ #[v,edgeV x]) W fun e W'=>e=.returned (.bool (outB (tdOf ls) k x))∧Below W.heap.size W W'):=fun x W base v hm har=>by
  have:=allE_mem hm;exact out_ask (tdOf ls) bn a n c k x W base v har (by rw[←HL.out];omega)
 go_enter Tryz.func65,Tryz.ntmps65
 go_wp2_with (
  (go_at_call 104
   refine(rows_any pa pn pc ba bn bc bs a n c ls 106 #[.int .i64 k] enter_out (outB (tdOf ls) k) _ (H.out.ext (ext_alloc _ _)) (HT.out.ext (ext_alloc _ _)) hT HAK.out).mono ?_;rintro e w2 hp;have hp2:=hp.up (ext_alloc _ _);obtain⟨v,rfl,hb,h0,h1⟩:=hp2;have HB:=Lib.hid hb;have H0:=Lib.hid h0;have H1:=Lib.hid h1
   clear hp hb h0 h1))
 exact bodyPost_ret (v:=.tuple #[v,.int .i64 (overErr (tsOf bs) (tdOf ls))]) (by simp[results,Tryz.results65,go_sem,Act.put]) rfl ⟨v,rfl,HB.out,H0.out,H1.out⟩
end
end

section
def insAt(bs:List BlkR)(b:Nat):List InsR:=match bs[b]? with|some x=>x.rs|none=> []
def endAt(bs:List BlkR)(b:Nat):List Int:=match bs[b]? with|some x=>needsT x.h.t|none=> []
def refM(bs:List BlkR)(b:Nat):List Int:=(insAt bs b).flatMap (fun r=>readsI r.d)++endAt bs b
def defM(ps:List Int)(bs:List BlkR)(b:Nat):List Int:=(if b=0 then ps else [])++((insAt bs b).map fun r=>definesV r.d).filter fun v=>decide (0<v)
def livM(bs:List BlkR)(b:Nat):List Int:=vInL (bksL bs) b++vOutL (bksL bs) b++(List.range ((insAt bs b).length+1)).flatMap (atL (bksL bs) b)
def acrM(bs:List BlkR)(b:Nat):List Int:=(List.range (insAt bs b).length).flatMap fun n=>match (insAt bs b)[n]? with|some r=>if r.d.op=13 then lessL (atL (bksL bs) b (n+1)) [r.d.dst] else []|none=> []
def blkM(l:List TileD)(k:Nat):List Nat:=((l.getD k ⟨0,0,[]⟩).blocks).map Int.toNat
def edgM(bs:List BlkR)(rs:List RowD):List Int:=rs.flatMap fun r=>vInL (bksL bs) r.e.to.toNat
structure SetD where
 refs:List Int
 defs:List Int
 live:List Int
 across:List Int
 inn:List Int
 out:List Int
 thr:List Int
def setM(ps:List Int)(bs:List BlkR)(l:List TileD)(k:Nat):SetD:=
 let D:=(blkM l k).flatMap (defM ps bs)
 let R:=(blkM l k).flatMap (refM bs)++D
 let L:=(blkM l k).flatMap (livM bs)
 ⟨risL R,risL D,risL L,risL ((blkM l k).flatMap (acrM bs)),risL (edgM bs (rowsL (tsOf (hOf bs)) l (intoB l k))),risL (edgM bs (rowsL (tsOf (hOf bs)) l (outB l k))),lessL (risL L) R⟩
def SetD.rows(s:SetD):List (List Int):= [s.refs,s.defs,s.live,s.across,s.inn,s.out,s.thr]
def setsM(ps:List Int)(bs:List BlkR)(l:List TileD):List SetD:=(List.range l.length).map (setM ps bs l)
def setE(ps:List Int)(bs:List BlkR)(l:List TileD):Int:=if rightE ps bs≠0 then 2 else if rightB (tsOf (hOf bs)) l=false then 12 else 0
def allM(ps:List Int)(bs:List BlkR)(l:List TileD):List SetD:=if setE ps bs l=0 then setsM ps bs l else []
def noSet:SetD:=⟨[],[],[],[],[],[],[]⟩
def ofE(ps:List Int)(bs:List BlkR)(l:List TileD)(k:Int):Int:=if setE ps bs l≠0 then setE ps bs l else if k<0∨(l.length:Int)≤k then 5 else 0
def ofM(ps:List Int)(bs:List BlkR)(l:List TileD)(k:Int):SetD:=if ofE ps bs l k=0 then setM ps bs l k.toNat else noSet
def needM(ps:List Int)(bs:List BlkR)(l:List TileD)(k:Int):List Int:=risL ((ofM ps bs l k).live++(ofM ps bs l k).defs)
def VarL(xs:List Int):Prop:=∀v∈xs,1≤v∧v≤200
theorem VarL.append{xs ys:List Int}(h:VarL xs)(k:VarL ys):VarL (xs++ys):=fun v hv=>(List.mem_append.1 hv).elim (h v) (k v)
theorem VarL.flat{α:Type}{xs:List α}{f:α→List Int}(h:∀x∈xs,VarL (f x)):VarL (xs.flatMap f):=fun v hv=>by
 obtain⟨x,hx,hy⟩:=List.mem_flatMap.1 hv
 exact h x hx v hy
theorem VarL.vars(p:Int→Bool):VarL (varsL p):=fun v hv=>let ⟨h1,h2,_⟩:=varsL_mem.1 hv;⟨h1,h2⟩
theorem refM_var(bs:List BlkR)(b:Nat):VarL (refM bs b):=by
 refine VarL.append (VarL.flat fun r _ v hv=>reads_var hv) fun v hv=>?_
 unfold endAt at hv
 split at hv
 ·exact needs_var hv
 ·cases hv
theorem defM_var{ps:List Int}{bs:List BlkR}(h:VarL ps)(b:Nat):VarL (defM ps bs b):=by
 refine VarL.append ?_ fun v hv=>?_
 ·split
  ·exact h
  ·intro v hv;cases hv
 ·obtain⟨h1,h2⟩:=List.mem_filter.1 hv;obtain⟨r,_,rfl⟩:=List.mem_map.1 h1;have:=defines_var r.d;simp only[decide_eq_true_eq] at h2;omega
theorem livM_var(bs:List BlkR)(b:Nat):VarL (livM bs b):=(VarL.append (VarL.append (VarL.vars _) (VarL.vars _)) (VarL.flat fun _ _=>VarL.vars _))
theorem less_var{xs:List Int}(h:VarL xs)(ys:List Int):VarL (lessL xs ys):=fun v hv=>h v (List.mem_filter.1 hv).1
theorem acrM_var(bs:List BlkR)(b:Nat):VarL (acrM bs b):=VarL.flat fun n _=>by
 split
 ·split
  ·exact less_var (VarL.vars _) _
  ·intro v hv;cases hv
 ·intro v hv;cases hv
theorem edgM_var(bs:List BlkR)(rs:List RowD):VarL (edgM bs rs):=VarL.flat fun _ _=>VarL.vars _
theorem par_var{ps:List Int}(h:ps.all varB=true):VarL ps:=fun v hv=>by
 have:=List.all_eq_true.1 h v hv
 simp only[varB,decide_eq_true_eq,Bool.and_eq_true] at this
 omega
theorem rightE_par{ps:List Int}{bs:List BlkR}(h:irWholeB ps bs=true):VarL ps:=by
 rw[irWholeB,Bool.and_eq_true,parB,Bool.and_eq_true] at h
 exact par_var h.1.1
theorem less_ris{xs ys:List Int}:lessL (risL xs) ys=risL (lessL xs ys):=by
 unfold lessL risL risK
 rw[List.filter_map,List.filter_filter]
 congr 1
 refine List.filter_congr fun v hv=>?_
 simp only[Function.comp_apply,List.mem_filter,Bool.not_eq_true',decide_eq_false_iff_not,Bool.decide_and]
 by_cases h1:(v:Int)∈xs<;>by_cases h2:(v:Int)∈ys<;>simp[h1,h2]
end

section
open Go.RowKit Go.Shelf
attribute [local go_sem] Oper.semAt_some wide_fn wide_depth wide_fnR wide_depthR
theorem cloneV_any(b:Nat)(p:Int→Prop)(w:World)(h:VHas w b p):
  Calls Tryz.prog 66 #[.map (some b)] w fun e w'=>e=.returned (.map (some w.heap.size))∧VHas w' w.heap.size p∧Below w.heap.size w w':=by
 obtain⟨L,hL,hm⟩:=h
 obtain⟨es,clock,hb,hc⟩:=hL.copy
 have HC:=Lib.hid hc
 have HM:=Lib.hid hm
 have hq:=fun w=>run_eql_map_nil_sl (P:=Tryz.prog) w 101 _ _ (some b) mapTV
 clear hL hc hm
 go_enter Tryz.func66,Tryz.ntmps66
 go_wp2
 rw[run_callFunc_extern Tryz.func107 (by kernel_rfl) (by kernel_rfl) (by kernel_rfl) (e:=Extern.MapsClone.clone) (by kernel_rfl),run_maps_clone_sl w 101 hb]
 simp only[Result.andThen]
 rw[Oper.upon_value]
 go_wp2
 rw[run_typeAssert_map_sl _ 101 20 _ _ _ mapTV]
 simp only[Result.andThen]
 rw[Oper.upon_value]
 go_wp2
 go_ret
 exact⟨rfl,⟨L,HC.out,HM.out⟩,ext_alloc _ _⟩
theorem SetI.del{α:Type}{P:Program}{t kt et:TypeId}{enc:α→Value}{dec:Value→α}{one:Value}{w:World}{b r:Nat}{L R:List α}(h:SetI enc dec one w b r L R)(K:KeyT P kt enc dec)(ht:P.underlying t=some (.map kt et))(x:α)(hx:x∉R)(ty:TypeId):
  ∃o L',(Builtin.delete_ #[t,kt] ty #[.map (some b),enc x]).run P w=.ok (.tuple #[]) (w.putObj b o)∧SetI enc dec one (w.putObj b o) b r L' R∧∀y,y∈L'↔y∈L∧y≠x:=by
 have hlt:=h.lt
 obtain⟨es,c,since,seen,c0,hb,hi,rfl,hn,hbn,hr,hs,h8,h9,rfl⟩:=h
 have hgo:(getObj b).run P w=.ok (.map es c) w:=by simp[getObj,Sem.run,hb]
 have hso:∀o,(setObj b o).run P w=.ok () (w.putObj b o):=fun o=>by simp[setObj,Sem.run,hb,World.putObj]
 have hr2:∀o,(w.putObj b o).heap[r]? =some (.mapIter (some b) since seen c0):=fun o=>(World.putObj_heap_other hlt.2.2).trans hr
 rcases K.find x w es.toList (fun e he=>(hi e he).1) with ⟨h1,h2⟩|⟨j,e,h1,h2,h3⟩
 ·refine⟨.map es c,_,?_,⟨_,_,_,_,_,World.putObj_heap_same hlt.1,hi,rfl,hn,hbn,hr2 _,hs,h8,h9,rfl⟩,fun y=>⟨fun hy=>⟨hy,fun e=>h1 (e▸hy)⟩,fun hy=>hy.1⟩⟩;simp[Builtin.delete_,run_underlying ht,hgo,K.check,h2,hso,Result.andThen]
 ·have hjl:j<es.toList.length:=(List.getElem?_eq_some_iff.1 h1).1;have hjs:j<es.size:=by simpa using hjl
  have hlist:(es.eraseIdxIfInBounds j).toList=es.toList.eraseIdx j:=by
   unfold Array.eraseIdxIfInBounds;rw[dif_pos hjs];simp
  have hsub:(es.toList.eraseIdx j).Sublist es.toList:=List.eraseIdx_sublist _ _
  have hseen:e.born∈seen.toList:=Classical.byContradiction fun hc=>hx (List.mem_map.2 ⟨e,by
   unfold leftOf;rw[Array.toList_filter,List.mem_filter]
   exact⟨List.mem_of_getElem? h1,by simpa using hc⟩,h2⟩)
  have hleft:(leftOf (es.eraseIdxIfInBounds j) seen).toList=(leftOf es seen).toList:=by
   unfold leftOf;rw[Array.toList_filter,Array.toList_filter,hlist];have e1:es.toList=es.toList.take j++e :: es.toList.drop (j+1):=by
    have:=List.take_append_drop j es.toList;rw[List.drop_eq_getElem_cons hjl] at this;rw[(List.getElem?_eq_some_iff.1 h1).2] at this;exact this.symm
   rw[List.eraseIdx_eq_take_drop_succ,List.filter_append]
   conv=>rhs;rw[e1,List.filter_append,List.filter_cons]
   rw[if_neg (by simpa using hseen)]
  refine⟨.map (es.eraseIdxIfInBounds j) c,(es.toList.eraseIdx j).map (fun e=>dec e.key),?_,⟨_,_,since,seen,c0,World.putObj_heap_same hlt.1,?_,by rw[hlist],(hsub.map _).nodup hn,by rw[hlist];exact(hsub.map _).nodup hbn,hr2 _,?_,h8,h9,by rw[hleft]⟩,fun y=>?_⟩
  ·simp[Builtin.delete_,run_underlying ht,hgo,K.check,h3,hso,Result.andThen]
  ·intro e' he';rw[hlist] at he';exact hi e' (hsub.subset he')
  ·intro e' he';rw[hlist] at he';exact hs e' (hsub.subset he')
  ·rw[List.mem_map];constructor
   ·rintro⟨e',he',rfl⟩;obtain⟨i,hne,hi'⟩:=List.mem_eraseIdx_iff_getElem?.1 he';refine⟨List.mem_map.2 ⟨e',List.mem_of_getElem? hi',rfl⟩,fun hy=>hne ?_⟩;have hl:=(List.getElem?_eq_some_iff.1 hi').1;have h5:(es.toList.map (fun e=>dec e.key))[i]? =(es.toList.map (fun e=>dec e.key))[j]?:=by
     rw[List.getElem?_map,List.getElem?_map,hi',h1];simp[hy,h2]
    exact(List.getElem?_inj (by simpa using hl) hn).1 h5
   ·rintro⟨hy,hne⟩;obtain⟨e',he',rfl⟩:=List.mem_map.1 hy;obtain⟨i,hi'⟩:=List.getElem?_of_mem he';refine⟨e',List.mem_eraseIdx_iff_getElem?.2 ⟨i,fun c=>hne ?_,hi'⟩,rfl⟩;subst c;rw[h1] at hi';cases hi';exact h2
structure ColH where
 lv:LiveH
 pa:Option Addr
 pn:Nat
 pc:Nat
 ba:Option Addr
 bn:Nat
 bc:Nat
 ta:Option Addr
 tn:Nat
 tc:Nat
abbrev colC(h:ColH)(r d l a i o:Option Nat):Array Value:=#[.slice h.lv.ia h.bn h.lv.ic,.slice h.lv.oa h.bn h.lv.oc,.slice h.lv.ta h.bn h.lv.tc,.slice h.pa h.pn h.pc,.slice h.ba h.bn h.bc,.slice h.ta h.tn h.tc,.map r,.map d,.map l,.map a,.map i,.map o]
abbrev colO(h:ColH)(r d l a i o:Option Nat):Obj:=.cells (colC h r d l a i o) 111 (0,0)
def ColAt(w:World)(C:Nat)(h:ColH)(r d l a i o:Option Nat):Prop:=∀j v,(colC h r d l a i o)[j]? =some v→w.cell? ⟨C,j,none⟩=some v
theorem zero_intV(w:World):(zeroValue 3).run Tryz.prog w=.ok (.int .i64 0) w:=by kernel_rfl
theorem thr_ask(rm:Nat)(R:List Int)(g C:Nat)(y x:Int)(w:World)(hg:w.cell? ⟨g,0,none⟩=some (.pointer (some ⟨C,0,none⟩)))(hC:w.cell? ⟨C,6,none⟩=some (.map (some rm)))(hr:VHas w rm fun z=>z∈R):
  Calls Tryz.prog 68 #[.int .i64 y,.int .i64 x,.pointer (some ⟨g,0,none⟩)] w fun e w'=>e=.returned (.bool (decide (y∈R)))∧w'=w:=by
 obtain⟨L,hL,hm⟩:=hr
 have hlk:(Instr.lookup 101 (.map (some rm)) (.int .i64 y) false).run Tryz.prog w=.ok (if y∈L then .int .i64 1 else .int .i64 0) w:=SetM.look hL keyV mapTV (zero_intV w) y
 have hcl:=World.block_lt_of_cell? _ _ hC
 clear hL
 by_cases hy:y∈L
 ·rw[if_pos hy] at hlk;rw[decide_eq_true ((hm y).1 hy)];clear hm hy
  go_enter Tryz.func68,Tryz.ntmps68
  go_wp2
  go_ret
  exact⟨rfl,rfl⟩
 ·rw[if_neg hy] at hlk;rw[decide_eq_false fun h=>hy ((hm y).2 h)];clear hm hy
  go_enter Tryz.func68,Tryz.ntmps68
  go_wp2
  go_ret
  exact⟨rfl,rfl⟩
theorem VHas.chg{w w':World}{b:Nat}{p:Int→Prop}{S:Nat→Prop}(h:VHas w b p)(hc:Chg S w w')(hs:¬S b):VHas w' b p:=h.kept (hc.block b h.lt hs)
theorem deleteV_any(b rm:Nat)(p:Int→Prop)(R:List Int)(g C:Nat)(w:World)(hb:VHas w b p)(hg:w.cell? ⟨g,0,none⟩=some (.pointer (some ⟨C,0,none⟩)))(hC:w.cell? ⟨C,6,none⟩=some (.map (some rm)))(hr:VHas w rm fun z=>z∈R)(hne:rm≠b):
  Calls Tryz.prog 67 #[.map (some b),.func (.func 68) #[] #[.pointer (some ⟨g,0,none⟩)]] w fun e w'=>e=.returned (.tuple #[])∧VHas w' b (fun y=>p y∧y∉R)∧Chg (fun j=>j=b) w w':=by
 obtain⟨L0,hL0,hm0⟩:=hb
 have HL0:=Lib.hid hL0
 have HM0:=Lib.hid hm0
 have HASK:Hid (∀(W:World) (y:Int),Chg (fun j=>j=b) w W→Calls Tryz.prog 68 #[.int .i64 y,.int .i64 1,.pointer (some ⟨g,0,none⟩)] W fun e w'=>e=.returned (.bool (decide (y∈R)))∧w'=W):=fun W y hc=>by
  have key:∀{g o:Nat} {v:Value},w.cell? ⟨g,o,none⟩=some v→W.cell? ⟨g,o,none⟩=some v:=fun {g o v} hx=>by
   rw[←hx];have:W.heap[g]? =w.heap[g]?:=hc.block g (World.block_lt_of_cell? _ _ hx) fun e=>by
    subst e;exact SetM.nocell hL0 hx rfl
   unfold World.cell?;simp only[this]
  exact thr_ask rm R g C y 1 W (key hg) (key hC) (hr.chg hc (by simpa using hne))
 clear hL0 hm0 hg hC hr
 go_enter Tryz.func67,Tryz.ntmps67
 go_wp2_with (refine wpList_rangeM rfl _ rfl mapTV HL0.out rfl ?_;intro w1 hi hb1 hz1;have HI1:=Lib.hid hi;have HB1:=Lib.hid hb1;clear hi hb1 hz1)
 obtain⟨r,hr⟩:∃r,r=w.heap.size:=⟨_,rfl⟩
 rw[←hr] at HI1⊢
 have HWE:Hid (w.heap.size≤r):=by rw[Hid,hr];exact Nat.le_refl _
 clear hr
 simp only[Act.put,List.setIfInBounds_toArray,List.set_cons_succ,List.set_cons_zero]
 have HC1:Hid (Chg (fun j=>j=b) w w1):=(Chg.refl _ w).of_ext HB1.out
 go_loopw [4,5] (fun _ _ wr=>∃L R',Hid (VIter wr b r L R')∧Hid (∀y,y∈L↔y∈L0∧(y∈R'∨y∉R))∧Hid (Chg (fun j=>j=b) w wr)) (fun _ _ wr=>wr.rangeLeft b r)
 case atStart=>exact⟨L0,L0,HI1,fun y=>⟨fun h=>⟨h,.inl h⟩,fun h=>h.1⟩,HC1⟩
 case round=>
  obtain⟨L,R',HIr,HM,HC⟩:=hrel;have HLT:=Lib.hid (SetI.left HIr.out);clear HI1 HC1
  go_wp2_with (refine wpList_nextM rfl _ rfl rfl HIr.out (fun h0=>?_) (fun x R2 w2 hx hR' hR hi hg hz hen=>?_))
  ·subst h0;go_wp2
   go_end0
   refine⟨rfl,⟨L,HIr.out.set,fun y=>?_⟩,HC.out⟩;rw[HM.out,HM0.out];simp
  ·have HX:=Lib.hid hx;have HR2:=Lib.hid hR';have HRL:=Lib.hid hR;have HI2:=Lib.hid hi;have HC2:Hid (Chg (fun j=>j=b) w w2):=HC.out.grown hg fun k e=>by injection e with e;exact .inr (by have:=HWE.out;omega)
   have hen:(Instr.entry (.pointer (some ⟨r,0,none⟩))).run Tryz.prog w2=.ok (.tuple #[.int .i64 x,.int .i64 1]) w2:=hen;clear hx hR' hR hi hg hz;have hxR:x∉R2:=fun h=>((HR2.out x).1 h).2 rfl;have HXR:=Lib.hid hxR;by_cases hq:x∈R
   ·have HQ:=Lib.hid hq;obtain⟨o2,L2,hdel,hi2,hm2⟩:=HI2.out.del keyV mapTV x hxR 0;have HI3:=Lib.hid hi2;have HM3:=Lib.hid hm2;clear hq hxR hi2 hm2
    go_wp2_with (go_at_call 68;refine(HASK.out w2 x HC2.out).mono ?_;rw[decide_eq_true HQ.out];rintro e w3 ⟨rfl,rfl⟩)
    refine⟨⟨L2,R2,HI3,fun y=>?_,HC2.out.grown (grown_put _ b o2) fun k e=>by injection e with e;exact .inl e.symm⟩,by rw[SetI.left HI3.out,HLT.out];exact HRL.out⟩;rw[HM3.out,HM.out,HR2.out];by_cases e:y=x
    ·subst e;simp[HQ.out]
    ·simp[e]
   ·have HQ:=Lib.hid hq;clear hq hxR
    go_wp2_with (go_at_call 68;refine(HASK.out w2 x HC2.out).mono ?_;rw[decide_eq_false HQ.out];rintro e w3 ⟨rfl,rfl⟩)
    go_roundw
    case rel=>exact⟨L,R2,HI2,fun y=>by
     rw[HM.out,HR2.out];by_cases e:y=x
     ·subst e;simp[HQ.out]
     ·simp[e],HC2⟩
    case measure=>rw[SetI.left HI2.out,HLT.out];exact HRL.out
end

section
open Go.RowKit Go.Shelf
attribute [local go_sem] Oper.semAt_some wide_fn wide_depth wide_fnR wide_depthR
theorem cell_chg{S:Nat→Prop}{w w':World}{g o:Nat}{v:Value}(hc:Chg S w w')(h:w.cell? ⟨g,o,none⟩=some v)(hn:¬S g):w'.cell? ⟨g,o,none⟩=some v:=by
 rw[←h]
 have:=hc.block g (World.block_lt_of_cell? _ _ h) hn
 unfold World.cell?
 simp only[this]
theorem VHas.nocell{w:World}{b g o:Nat}{p:Int→Prop}{v:Value}(h:VHas w b p)(hc:w.cell? ⟨g,o,none⟩=some v):g≠b:=by
 obtain⟨L,h1,_⟩:=h
 exact SetM.nocell h1 hc
theorem IntsAt.chg{w w':World}{b n:Nat}{a:Option Addr}{f:Nat→List Int}{p:Int→Prop}(h:IntsAt w a n f)(hc:Chg (fun j=>j=b) w w')(hb:VHas w b p):IntsAt w' a n f:=fun k hk=>by
 obtain⟨g,o,a',c',e,h1,h2⟩:=h k hk
 refine⟨g,o,a',c',e,cell_chg hc h1 (hb.nocell h1),h2.1,h2.2.1,fun j hj=>?_⟩
 obtain⟨g2,o2,e2,h3,h4⟩:=h2.2.2 j hj
 exact⟨g2,o2,e2,cell_chg hc h3 (hb.nocell h3),h4⟩
def VPost(w:World)(b:Nat)(q:Int→Prop)(e:Ending)(w':World):Prop:=e=.returned (.tuple #[])∧VHas w' b q∧Chg (fun j=>j=b) w w'
theorem chg_of_grown{w w':World}{b:Nat}(h:w.grownBy w' (some b)):Chg (fun j=>j=b) w w':=(Chg.refl _ w).grown h fun k e=>by injection e with e;exact .inl e.symm
theorem sEdges_any(h:ColH)(bs:List BlkR)(C b:Nat)(p:Int→Prop)(ra:Option Addr)(n rc:Nat)(hs:List RowH)(w:World)(hb:VHas w b p)(hC:w.cell? ⟨C,0,none⟩=some (.slice h.lv.ia h.bn h.lv.ic))
  (hl:IntsAt w h.lv.ia h.bn (vInL (bksL bs))) (hr:Recs 5 csR w ra n hs) (hx:∀y∈hs,(0≤y.r.e.to∧y.r.e.to<h.bn)∧(∃a n c,y.lv=.slice a n c)∧∃a n c,y.en=.slice a n c):
  Calls Tryz.prog 64 #[.pointer (some ⟨C,0,none⟩),.map (some b),.slice ra n rc] w (VPost w b fun y=>p y∨y∈edgM bs (hs.map (·.r))):=by
 have HB:=Lib.hid hb
 have HC:=Lib.hid hC
 have HL:=Lib.hid hl
 have HR:=Lib.hid hr
 have HX:=Lib.hid hx
 have hn:=hr.2.1
 have HCB:Hid (C≠b):=hb.nocell hC
 clear hb hC hl hr hx
 go_enter Tryz.func64,Tryz.ntmps64
 go_wp2
 go_loopw [7,10] (fun _ q wr=>∃k:Nat,q=.int .i64 k∧k≤n∧Hid (VHas wr b fun y=>p y∨y∈edgM bs ((hs.take k).map (·.r)))∧Hid (Chg (fun j=>j=b) w wr)) (fun _ q _=>n-(intOf q).toNat)
 case atStart=>exact⟨0,rfl,by omega,HB.out.congr fun y=>by simp[edgM],Chg.refl _ _⟩
 case round=>
  obtain⟨k,rfl,hk,HV,HG⟩:=hrel;by_cases hlt:k<n
  ·obtain⟨x,hxk⟩:∃x,hs[k]? =some x:=⟨_,List.getElem?_eq_getElem (by rw[HR.out.1];exact hlt)⟩
   obtain⟨g,o2,rfl,hcs⟩:=HR.out.2.2 k x hxk;obtain⟨⟨t0,t1⟩,⟨a1,n1,k1,t2⟩,⟨a2,n2,k2,t3⟩⟩:=HX.out x (List.mem_of_getElem? hxk);have HXK:=Lib.hid hxk;have cc:∀j,j<5→∃v,(csR x)[j]? =some v∧wr.cell? ⟨g,o2+k*5+j,none⟩=some v:=fun j hj=>by
    have h1:=hcs j hj;have h2:(csR x)[j]? =some ((csR x)[j]'(by rw[csR_len];exact hj)):=List.getElem?_eq_getElem _;refine⟨_,h2,cell_chg HG.out (h1.trans h2) (HB.out.nocell (h1.trans h2))⟩
   obtain⟨⟨⟨fr,arm,tx⟩,lv,en⟩,lvv,env⟩:=x;have c0:wr.cell? ⟨g,o2+k*5,none⟩=some (.int .i64 fr):=by obtain⟨v,h1,h2⟩:=cc 0 (by omega);cases h1;exact h2
   have c1:wr.cell? ⟨g,o2+k*5+1,none⟩=some (.int .i64 arm):=by obtain⟨v,h1,h2⟩:=cc 1 (by omega);cases h1;exact h2
   have c2:wr.cell? ⟨g,o2+k*5+2,none⟩=some (.int .i64 tx):=by obtain⟨v,h1,h2⟩:=cc 2 (by omega);cases h1;exact h2
   have c3:wr.cell? ⟨g,o2+k*5+3,none⟩=some lvv:=by obtain⟨v,h1,h2⟩:=cc 3 (by omega);cases h1;exact h2
   have c4:wr.cell? ⟨g,o2+k*5+4,none⟩=some env:=by obtain⟨v,h1,h2⟩:=cc 4 (by omega);cases h1;exact h2
   simp only at t0 t1 t2 t3;subst t2 t3;obtain⟨c,rfl⟩:∃c:Nat,tx=(c:Int):=⟨tx.toNat,by omega⟩
   clear cc hcs hxk;go_upto_region 3 with (fail)
   generalize hw1:World.alloc wr _=w1;have hb1:Below wr.heap.size wr w1:=by rw[←hw1];exact ext_alloc _ _
   have hr1:w1.heap[wr.heap.size]? =some (.cells (csR ⟨⟨⟨fr,arm,c⟩,lv,en⟩,.slice a1 n1 k1,.slice a2 n2 k2⟩).toArray 191 (0,0)):=by rw[←hw1];exact heap_alloc_new _ _
   have HV1:Hid (VHas w1 b fun y=>p y∨y∈edgM bs ((hs.take k).map (·.r))):=HV.out.kept (hb1.block b HV.out.lt);have HG1:Hid (Chg (fun j=>j=b) w w1):=HG.out.of_ext hb1;have hc1:w1.cell? ⟨C,0,none⟩=some (.slice h.lv.ia h.bn h.lv.ic):=cell_chg HG1.out HC.out HCB.out;have hn1:Nonempty (ExtW w1):=⟨⟨w1,Below.refl _ _⟩⟩
   have hl1:IntsAt w1 h.lv.ia h.bn (vInL (bksL bs)):=HL.out.chg HG1.out HB.out;obtain⟨g3,o3,a3,n3,e3,hcell3,hints3⟩:=hl1 c (by omega);have g1:∀n:ExtW w1,n.val.cell? ⟨C,0,none⟩=some (.slice (some ⟨g3,o3,none⟩) h.bn h.lv.ic):=fun n=>ExtW.cell (by rw[←e3];exact hc1) n;have g2:∀n:ExtW w1,n.val.cell? ⟨wr.heap.size,2,none⟩=some (.int .i64 (c:Int)):=fun n=>ExtW.cell (by rw[cell_of_row _ _ _ _ _ _ hr1];rfl) n;have g3':∀n:ExtW w1,n.val.cell? ⟨g3,o3+c,none⟩=some (.slice a3 (vInL (bksL bs) c).length n3):=fun n=>ExtW.cell hcell3 n;have g4:∀n:ExtW w1,C<n.val.heap.size:=fun n=>Nat.lt_of_lt_of_le (World.block_lt_of_cell? _ _ hc1) n.ext.size;have g5:∀n:ExtW w1,wr.heap.size<n.val.heap.size:=fun n=>Nat.lt_of_lt_of_le (lt_of_heap hr1) n.ext.size;have HI3:=Lib.hid hints3;have HE:Hid (∀y,y∈edgM bs ((hs.take (k+1)).map (·.r))↔y∈edgM bs ((hs.take k).map (·.r))∨y∈vInL (bksL bs) c):=fun y=>by
    rw[List.take_add_one,HXK.out];simp[edgM]
   clear hw1 hb1 hr1 hc1 hl1 e3 hcell3 hints3 c0 c1 c2 c3 c4;refine region_mix (fun w'=>∃n':ExtW w1,w'=n'.val) [(0,11,some (11,false))] (by kernel_rfl) (by kernel_rfl) ⟨⟨_,ext_drewN (Below.refl _ _) 1⟩,rfl⟩ ?_;simp only[wpMix,List.take_succ_cons,List.take_zero,List.drop_succ_cons,List.drop_zero]
   repeat (go_big_quiet_step (fail))
   refine wpQuiet_nil ?_;refine wpOp_at rfl rfl ?_;clear g1 g2 g3' g4 g5;go_simp;refine(sAdd_any b _ a3 _ n3 (vInL (bksL bs) c) w1.drew (show VHas w1.drew b _ from HV1.out) (show Ints w1.drew a3 _ _ from HI3.out)).mono ?_;rintro e w2 ⟨rfl,hv2,hg2⟩;have HV2:=Lib.hid hv2;have HG2:Hid (Chg (fun j=>j=b) w w2):=HG1.out.grown (row:=some b) ⟨hg2.os,hg2.tape,hg2.output,hg2.size,hg2.block⟩ fun k e=>by injection e with e;exact .inl e.symm
   clear hv2 hg2;refine NoPanic.normal ?_;go_wp2
   go_roundw
   case rel=>exact⟨k+1,by go_num,by omega,HV2.out.congr fun y=>by rw[HE.out,or_assoc],HG2⟩
   case measure=>simp[intOf];omega
  ·obtain rfl:k=n:=by omega
   go_wp2
   go_end0
   exact⟨rfl,HV.out.congr fun y=>by rw[List.take_of_length_le (by rw[HR.out.1];exact Nat.le_refl _)],HG.out⟩
end

section
open Go.RowKit Go.Shelf
attribute [local go_sem] Oper.semAt_some wide_fn wide_depth wide_fnR wide_depthR
def backL{α:Type}(l:List α):Nat→List (Nat×α)
 |0=> []
 |k+1=>match l[k]? with
  |some r=>(k,r) :: backL l k
  |none=>backL l k
theorem backL_step{α:Type}{l:List α}{k:Nat}{r:α}(h:l[k]? =some r):backL l (k+1)=(k,r) :: backL l k:=by
 show(match l[k]? with|some r=>(k,r) :: backL l k|none=>backL l k)=_
 rw[h]
theorem backIns_any(a:Option Addr)(n c:Nat)(w:World):Calls Tryz.prog 80 #[.slice a n c] w fun e w'=>e=.returned (.func (.func 120) #[] #[.pointer (some ⟨w.heap.size,0,none⟩)])∧w'=w.alloc (.cells #[.slice a n c] 61):=by
 go_enter Tryz.func80,Tryz.ntmps80
 go_wp2
 go_ret
 exact⟨rfl,rfl⟩
theorem enter_backIns(args:Array Value)(w:World):(callFunc 120 args).run Tryz.prog w=.ok (.enter 120 args) w:=enters_of Tryz.func120 (by kernel_rfl) rfl args w
def encBIns(x:Nat×InsR):Array Value:=#[.int .i64 (x.1:Int),insVR x.2]
theorem backIns_iterI(G:Nat)(a:Option Addr)(n c:Nat)(rs:List InsR)(hn:n≤17592186044416):IterI Tryz.prog 120 #[.pointer (some ⟨G,0,none⟩)] encBIns (backL rs n) (fun W=>W.cell? ⟨G,0,none⟩=some (.slice a n c)∧InsS W a n rs):=by
 intro l K Kx W hK hKx hInv hY h0
 refine callsIn_of_wp Tryz.func120 rfl trivial ?_ rfl
 simp only[Tryz.ntmps120,List.size_toArray,List.length_cons,List.length_nil,Nat.reduceAdd,Nat.reduceSub,Array.replicate_succ,Array.replicate_zero,List.push_toArray,List.append_toArray,List.nil_append,List.cons_append]
 have HY:=Lib.hid hY
 have HI:=Lib.hid hInv
 have hc0:=(hInv _ _ h0).1
 have H0:Hid (K (backL rs n) W):=h0
 clear hY hInv hK hKx h0
 gi_wp2
 gi_loopw [3] (fun i wr=>∃s:Nat,s≤n∧i=.int .i64 ((s:Int)-1)∧Hid (K (backL rs s) wr)) (fun i _=>(intOf i+1).toNat)
 case atStart=>exact⟨n,by omega,rfl,H0.out⟩
 case round=>
  obtain⟨s,hs,rfl,HK⟩:=hrel;clear hc0 H0;obtain⟨hc,hE⟩:=HI.out _ _ HK.out;by_cases hlt:0<s
  ·obtain⟨k,rfl⟩:∃k:Nat,s=k+1:=⟨s-1,by omega⟩
   have hkn:k<n:=by omega
   obtain⟨r,b,o,hr,hok,rfl,c0,c1,c2,c3,c4,c5,c6,c7⟩:=hE.cells hkn;have hst:=backL_step hr;rw[hst] at HK;obtain⟨fn,tmps,assign,body,hy,hR⟩:=HY.out ((k,r) :: backL rs k) (k,r) wr rfl HK.out;unfold encBIns at hy;have hT:nxL ((k,r) :: backL rs k) (k,r)=backL rs k:=rfl;rw[hT] at hR;have HR2:=Lib.hid hR;rw[show(((k+1:Nat):Int)-1)=(k:Int) by omega];clear hE hr hok hst hT hR HK
   gi_wp2
   refine HR2.out.mono ?_;rintro e W' (⟨rfl,hJ'⟩|⟨rfl,hX'⟩)
   ·have HK1:=Lib.hid hJ';clear hJ' hy HR2
    gi_wp2
    go_roundw
    case rel=>exact⟨k,by omega,rfl,HK1⟩
    case measure=>simp[intOf]
   ·have HX:=Lib.hid hX';clear hX' hy HR2
    gi_wp2
    exact bodyPost_ret (v:=.tuple #[]) (by simp[results,Tryz.results120,go_sem]) rfl ⟨⟨_,rfl⟩,Or.inr HX.out⟩
  ·obtain rfl:s=0:=by omega
   have hneg:((0:Nat):Int)-1<0:=by omega
   gi_wp2
   go_end0
   exact⟨⟨_,rfl⟩,Or.inl ⟨_,rfl,HK.out⟩⟩
theorem backBlk_any(a:Option Addr)(n c:Nat)(w:World):Calls Tryz.prog 73 #[.slice a n c] w fun e w'=>e=.returned (.func (.func 117) #[] #[.pointer (some ⟨w.heap.size,0,none⟩)])∧w'=w.alloc (.cells #[.slice a n c] 38):=by
 go_enter Tryz.func73,Tryz.ntmps73
 go_wp2
 go_ret
 exact⟨rfl,rfl⟩
theorem enter_backBlk(args:Array Value)(w:World):(callFunc 117 args).run Tryz.prog w=.ok (.enter 117 args) w:=enters_of Tryz.func117 (by kernel_rfl) rfl args w
def encBBlk(x:Nat×BlkR):Array Value:=#[.int .i64 (x.1:Int),(fun b:BlkR=>blkV b.h) x.2]
theorem backBlk_iterI(G:Nat)(a:Option Addr)(n c:Nat)(rs:List BlkR)(hn:n≤17592186044416):IterI Tryz.prog 117 #[.pointer (some ⟨G,0,none⟩)] encBBlk (backL rs n) (fun W=>W.cell? ⟨G,0,none⟩=some (.slice a n c)∧BlksR W a n rs):=by
 intro l K Kx W hK hKx hInv hY h0
 refine callsIn_of_wp Tryz.func117 rfl trivial ?_ rfl
 simp only[Tryz.ntmps117,List.size_toArray,List.length_cons,List.length_nil,Nat.reduceAdd,Nat.reduceSub,Array.replicate_succ,Array.replicate_zero,List.push_toArray,List.append_toArray,List.nil_append,List.cons_append]
 have HY:=Lib.hid hY
 have HI:=Lib.hid hInv
 have hc0:=(hInv _ _ h0).1
 have H0:Hid (K (backL rs n) W):=h0
 clear hY hInv hK hKx h0
 gi_wp2
 gi_loopw [3] (fun i wr=>∃s:Nat,s≤n∧i=.int .i64 ((s:Int)-1)∧Hid (K (backL rs s) wr)) (fun i _=>(intOf i+1).toNat)
 case atStart=>exact⟨n,by omega,rfl,H0.out⟩
 case round=>
  obtain⟨s,hs,rfl,HK⟩:=hrel;clear hc0 H0;obtain⟨hc,hE⟩:=HI.out _ _ HK.out;by_cases hlt:0<s
  ·obtain⟨k,rfl⟩:∃k:Nat,s=k+1:=⟨s-1,by omega⟩
   have hkn:k<n:=by omega
   obtain⟨r,b,o,hr,hok,rfl,c0,c1,c2,c3,c4⟩:=blksR_cells hE hkn;have hst:=backL_step hr;rw[hst] at HK;obtain⟨fn,tmps,assign,body,hy,hR⟩:=HY.out ((k,r) :: backL rs k) (k,r) wr rfl HK.out;unfold encBBlk at hy;have hT:nxL ((k,r) :: backL rs k) (k,r)=backL rs k:=rfl;rw[hT] at hR;have HR2:=Lib.hid hR;rw[show(((k+1:Nat):Int)-1)=(k:Int) by omega];clear hE hr hok hst hT hR HK
   gi_wp2
   refine HR2.out.mono ?_;rintro e W' (⟨rfl,hJ'⟩|⟨rfl,hX'⟩)
   ·have HK1:=Lib.hid hJ';clear hJ' hy HR2
    gi_wp2
    go_roundw
    case rel=>exact⟨k,by omega,rfl,HK1⟩
    case measure=>simp[intOf]
   ·have HX:=Lib.hid hX';clear hX' hy HR2
    gi_wp2
    exact bodyPost_ret (v:=.tuple #[]) (by simp[results,Tryz.results117,go_sem]) rfl ⟨⟨_,rfl⟩,Or.inr HX.out⟩
  ·obtain rfl:s=0:=by omega
   have hneg:((0:Nat):Int)-1<0:=by omega
   gi_wp2
   go_end0
   exact⟨⟨_,rfl⟩,Or.inl ⟨_,rfl,HK.out⟩⟩
end

section
open Go.RowKit Go.Shelf
attribute [local go_sem] Oper.semAt_some wide_fn wide_depth wide_fnR wide_depthR
def callsFrom:Nat→List InsR→List (Nat×InsR)
 |_,[]=> []
 |k,r :: l=>if r.d.op=13 then (k,r) :: callsFrom (k+1) l else callsFrom (k+1) l
theorem callsFrom_drop{rs:List InsR}{k:Nat}{r:InsR}(h:rs[k]? =some r):callsFrom k (rs.drop k)=if r.d.op=13 then (k,r) :: callsFrom (k+1) (rs.drop (k+1)) else callsFrom (k+1) (rs.drop (k+1)):=by
 obtain⟨hl,he⟩:=List.getElem?_eq_some_iff.1 h
 rw[List.drop_eq_getElem_cons hl,he]
 rfl
theorem enter_calls(args:Array Value)(w:World):(callFunc 142 args).run Tryz.prog w=.ok (.enter 142 args) w:=enters_of Tryz.func142 (by kernel_rfl) rfl args w
theorem calls_any(C:Nat)(b:Nat)(w:World):Calls Tryz.prog 101 #[.pointer (some ⟨C,0,none⟩),.int .i64 b] w fun e w'=>e=.returned (.func (.func 142) #[] #[.pointer (some ⟨w.heap.size,0,none⟩),.pointer (some ⟨w.heap.size+1,0,none⟩)])∧w'=(w.alloc (.cells #[.pointer (some ⟨C,0,none⟩)] 109)).alloc (.cells #[.int .i64 b] 3):=by
 go_enter Tryz.func101,Tryz.ntmps101
 go_wp2
 go_ret
 exact⟨rfl,rfl⟩
abbrev CallI(h:ColH)(bs:List BlkR)(C G b:Nat)(W:World):Prop:=W.heap[G]? =some (.cells #[.pointer (some ⟨C,0,none⟩)] 109 (0,0))∧W.heap[G+1]? =some (.cells #[.int .i64 (b:Int)] 3 (0,0))∧W.cell? ⟨C,4,none⟩=some (.slice h.ba h.bn h.bc)∧BlksR W h.ba h.bn bs
theorem calls_iterI(h:ColH)(bs:List BlkR)(C G b:Nat)(x:BlkR)(hx:bs[b]? =some x):IterI Tryz.prog 142 #[.pointer (some ⟨G,0,none⟩),.pointer (some ⟨G+1,0,none⟩)] encBIns (callsFrom 0 x.rs) (CallI h bs C G b):=by
 intro lp K Kx W hK hKx hInv hY h0
 refine callsIn_of_wp Tryz.func142 rfl trivial ?_ rfl
 simp only[Tryz.ntmps142,List.size_toArray,List.length_cons,List.length_nil,Nat.reduceAdd,Nat.reduceSub,Array.replicate_succ,Array.replicate_zero,List.push_toArray,List.append_toArray,List.nil_append,List.cons_append]
 have HKE:=Lib.hid hK
 have HY:=Lib.hid hY
 have HI:=Lib.hid hInv
 have H0:=Lib.hid h0
 have HX:=Lib.hid hx
 obtain⟨i1,i2,i3,i4⟩:=hInv _ _ h0
 have hbn:b<h.bn:=by
  have:=(List.getElem?_eq_some_iff.1 hx).1;rw[i4.1.1] at this;exact this
 obtain⟨r0,bb,ob,hr0,hok0,hba,c0,c1,c2,c3,c4⟩:=blksR_cells i4 hbn
 rw[hx] at hr0
 cases hr0
 have HN:Hid (x.h.n≤17592186044416):=hok0.2.1.2.1
 have HRL:Hid (x.rs.length=x.h.n):=hok0.2.1.1
 have hn1:Nonempty (ExtW W):=⟨⟨W,Below.refl _ _⟩⟩
 have g1:∀n:ExtW W,n.val.cell? ⟨G,0,none⟩=some (.pointer (some ⟨C,0,none⟩)):=fun n=>ExtW.cell (by rw[cell_of_row _ _ _ _ _ _ i1];rfl) n
 have g2:∀n:ExtW W,n.val.cell? ⟨G+1,0,none⟩=some (.int .i64 (b:Int)):=fun n=>ExtW.cell (by rw[cell_of_row _ _ _ _ _ _ i2];rfl) n
 have g3:∀n:ExtW W,n.val.cell? ⟨C,4,none⟩=some (.slice (some ⟨bb,ob,none⟩) h.bn h.bc):=fun n=>ExtW.cell (by rw[←hba];exact i3) n
 have g4:∀n:ExtW W,C<n.val.heap.size:=fun n=>Nat.lt_of_lt_of_le (World.block_lt_of_cell? _ _ i3) n.ext.size
 have g5:∀n:ExtW W,n.val.cell? ⟨bb,ob+b*5,none⟩=some (.slice x.h.ia x.h.n x.h.c):=fun n=>ExtW.cell c0 n
 have g6:∀n:ExtW W,bb<n.val.heap.size:=fun n=>Nat.lt_of_lt_of_le (World.block_lt_of_cell? _ _ c0) n.ext.size
 clear hY hInv hK hKx h0 hx i1 i2 i3 i4 hok0 hba c0 c1 c2 c3 c4
 gi_upto_region 0 with (fail)
 refine wpIn_wide.2 ?_
 refine region_ext (by kernel_rfl) (by kernel_rfl) ?_
 repeat (go_big_quiet_step (fail))
 refine wpQuiet_nil ?_
 rintro _ ⟨n0,rfl⟩
 have HK0:=Lib.hid (HKE.out _ _ _ H0.out n0.ext)
 clear g1 g2 g3 g4 g5 g6 hn1 H0
 generalize n0.val=w0 at*
 gi_wp2
 gi_loopw [4,5,16] (fun _ _ q wr=>∃k:Nat,q=.int .i64 k∧k≤x.h.n∧Hid (K (callsFrom k (x.rs.drop k)) wr)) (fun _ _ q _=>x.h.n-(intOf q).toNat)
 case atStart=>exact⟨0,rfl,by omega,HK0⟩
 case round=>
  obtain⟨k,rfl,hk,HK⟩:=hrel;clear HK0;have hE:InsS wr x.h.ia x.h.n x.rs:=((HI.out _ _ HK.out).2.2.2.2 x (List.mem_of_getElem? HX.out)).2;by_cases hlt:k<x.h.n
  ·obtain⟨r1,bi,oi,hr1,hok1,hia,c0,c1,c2,c3,c4,c5,c6,c7⟩:=hE.cells hlt;have hst:=callsFrom_drop hr1;rw[hst] at HK;have HR1:=Lib.hid hr1;have hn:=HN.out;rw[hia] at *;by_cases hop:r1.d.op=13
   ·rw[if_pos hop] at HK;have hopb:(r1.d.op==13)=true:=by simpa using hop
    clear hop;have hka:=HKE.out _ _ _ HK.out (ext_alloc wr (insO r1.d r1.aa r1.na r1.ca));obtain⟨fn,tmps,assign,body,hy,hR⟩:=HY.out ((k,r1) :: callsFrom (k+1) (x.rs.drop (k+1))) (k,r1) _ rfl hka;unfold encBIns at hy;have hT:nxL ((k,r1) :: callsFrom (k+1) (x.rs.drop (k+1))) (k,r1)=callsFrom (k+1) (x.rs.drop (k+1)):=rfl;rw[hT] at hR;have HR2:=Lib.hid hR;clear hE hr1 hok1 hia hst hka hR hT
    gi_wp2
    refine HR2.out.mono ?_;rintro e W' (⟨rfl,hJ'⟩|⟨rfl,hX'⟩)
    ·have HK1:=Lib.hid hJ';clear hJ' hy HR2
     gi_wp2
     go_roundw
     case rel=>exact⟨k+1,by go_num,by omega,HK1⟩
     case measure=>simp[intOf];omega
    ·have HX2:=Lib.hid hX';clear hX' hy HR2
     gi_wp2
     exact bodyPost_ret (v:=.tuple #[]) (by simp[results,Tryz.results142,go_sem]) rfl ⟨⟨_,rfl⟩,Or.inr HX2.out⟩
   ·rw[if_neg hop] at HK;have hopb:(r1.d.op==13)=false:=by simpa using hop
    clear hE hr1 hok1 hia hst
    gi_wp2
    exact⟨⟨k+1,by go_num,by omega,HKE.out _ _ _ HK.out (ext_alloc _ _)⟩,by simp[intOf];omega⟩
  ·obtain rfl:k=x.h.n:=by omega
   have hd:callsFrom x.h.n (x.rs.drop x.h.n)= []:=by rw[List.drop_of_length_le (by rw[HRL.out];exact Nat.le_refl _)];rfl
   rw[hd] at HK;clear hE hd
   gi_wp2
   go_end0
   exact⟨⟨_,rfl⟩,Or.inl ⟨_,rfl,HK.out⟩⟩
end
end Go.Proofs.YtnmkjliioogbgaaGreatDoor
