/-
 Tile:going through a set's blocks.
-/
import Derived.Test.YthgebcfohnlhlaaGreatDoorTB
import Derived.Test.YthgebcfohnlhlaaGreatDoorRows2
import Derived.Scope
import Derived.Deep.DeepCutAuto
import Derived.Shelf.Sort.Plain
import Derived.Shelf.Slices.Reverse
import Derived.Ground.Names2Prog
import Derived.Shelf.Slices.Clone
import Derived.Shelf.Slices.CompactI
import Derived.Shelf.Slices.In.SortNone
import Derived.Shelf.SlicesE.Reverse
import Derived.Test.YthgebcfohnlhlaaGreatDoorProg
import Derived.Test.YthgebcfohnlhlaaGreatDoorPA
namespace Go.Proofs.YthgebcfohnlhlaaGreatDoor
set_option linter.unusedSimpArgs false
set_option linter.unusedVariables false
set_option linter.unusedSectionVars false
set_option maxRecDepth 100000
set_option maxHeartbeats 40000000
section
open Go.RowKit Go.Shelf
attribute [local go_sem] Oper.semAt_some wide_fn wide_depth wide_fnR wide_depthR
def encN(x:Nat):Array Value:=#[.int .i64 (x:Int)]
def restL(f:Nat→Bool)(k:Nat):List Nat:=(List.range' k (200-k)).filter f
theorem restL_zero(f:Nat→Bool):restL f 0=listS f:=by rw[restL,listS,List.range_eq_range']
theorem restL_end(f:Nat→Bool):restL f 200= []:=rfl
theorem restL_step(f:Nat→Bool)(k:Nat)(h:k<200):restL f k=if f k then k :: restL f (k+1) else restL f (k+1):=by
 rw[restL,show 200-k=(200-(k+1))+1 by omega,List.range'_succ,List.filter_cons]
 rfl
abbrev setO(f:Nat→Bool):Obj:=.cells (setA f) 156 (0,0)
theorem each_any(S:Nat)(w:World):Calls Tryz.prog 94 #[.pointer (some ⟨S,0,none⟩)] w fun e w'=>e=.returned (.func (.func 194) #[] #[.pointer (some ⟨w.heap.size,0,none⟩)])∧w'=w.alloc (.cells #[.pointer (some ⟨S,0,none⟩)] 277):=by
 go_enter Tryz.func94,Tryz.ntmps94
 go_wp2
 go_ret
 exact⟨rfl,rfl⟩
theorem each_iterI(f:Nat→Bool)(G S:Nat):IterI Tryz.prog 194 #[.pointer (some ⟨G,0,none⟩)] encN (listS f) (fun W=>W.cell? ⟨G,0,none⟩=some (.pointer (some ⟨S,0,none⟩))∧W.heap[S]? =some (setO f)):=by
 intro l K Kx W hK hKx hInv hY h0
 refine callsIn_of_wp Tryz.func194 rfl trivial ?_ rfl
 simp only[Tryz.ntmps194,List.size_toArray,List.length_cons,List.length_nil,Nat.reduceAdd,Nat.reduceSub,Array.replicate_succ,Array.replicate_zero,List.push_toArray,List.append_toArray,List.nil_append,List.cons_append]
 have HY:=Lib.hid hY
 have HI:=Lib.hid hInv
 have HK0:=Lib.hid hK
 have H0:Hid (K (restL f 0) W):=by rw[Hid,restL_zero];exact h0
 have hg0:W.cell? ⟨G,0,none⟩=some (.pointer (some ⟨S,0,none⟩)):=(hInv _ _ h0).1
 clear hY hInv hK hKx h0
 gi_wp2
 gi_loopw [6] (fun i wr=>∃k:Nat,i=.int .i64 k∧k≤200∧Hid (K (restL f k) wr)) (fun i _=>200-(intOf i).toNat)
 case atStart=>exact⟨0,rfl,by omega,H0.out⟩
 case round=>
  obtain⟨k,rfl,hk,HK⟩:=hrel;clear hg0;have hSr:=(HI.out _ _ HK.out).2;have hn:∀q,(wr.drewN q).cell? ⟨S,0,none⟩=some (.bool (f 0)):=fun q=>by rw[cell_of_row (wr.drewN q) _ _ _ _ _ hSr,setA_at _ _ (by omega)]
  have hne:wr.cell? ⟨S,0,none⟩=some (.bool (f 0)):=hn 0;by_cases hlt:k<200
  ·have hc:wr.cell? ⟨S,k,none⟩=some (.bool (f k)):=by rw[cell_of_row _ _ _ _ _ _ hSr,setA_at _ _ hlt]
   have HST:=Lib.hid (restL_step f k hlt);have hlt':(k:Int)<200:=by omega
   clear hSr hn;by_cases hf:f k=true
   ·rw[hf] at hc;have HR:Hid (restL f k=k :: restL f (k+1)):=by rw[Hid,HST.out,if_pos hf]
    clear hf HST
    gi_wp2
    refine wide_quiet_lit (by kernel_rfl) (by kernel_rfl) ?_
    repeat (go_big_quiet_step (fail))
    refine wpQuiet_nil ?_;rintro _ ⟨nq,rfl⟩;have HKq:Hid (K (restL f k) (wr.drewN nq)):=HK0.out _ _ _ HK.out (ext_drewN (Below.refl _ _) nq);obtain⟨fn,tmps,assign,body,hy,hR⟩:=HY.out (restL f k) k (wr.drewN nq) (by rw[HR.out];rfl) HKq.out;unfold encN at hy;have hT:nxL (restL f k) k=restL f (k+1):=by rw[HR.out];rfl
    rw[hT] at hR;have HR2:=Lib.hid hR;clear hT hR HKq
    gi_wp2
    refine HR2.out.mono ?_;rintro e W' (⟨rfl,hJ'⟩|⟨rfl,hX'⟩)
    ·have HK1:=Lib.hid hJ';clear hJ' hy HR2
     gi_wp2
     go_roundw
     case rel=>exact⟨k+1,by go_num,by omega,HK1.out⟩
     case measure=>simp[intOf];omega
    ·have HX:=Lib.hid hX';clear hX' hy HR2
     gi_wp2
     exact bodyPost_ret (v:=.tuple #[]) (by simp[results,Tryz.results194,go_sem]) rfl ⟨⟨_,rfl⟩,Or.inr HX.out⟩
   ·have hf':f k=false:=by simpa using hf
    rw[hf'] at hc;have HR:Hid (restL f k=restL f (k+1)):=by rw[Hid,HST.out,if_neg hf]
    clear hf hf' HST
    gi_wp2
    refine wide_quiet_lit (by kernel_rfl) (by kernel_rfl) ?_
    repeat (go_big_quiet_step (fail))
    refine wpQuiet_nil ?_;rintro _ ⟨nq,rfl⟩;have HKq:Hid (K (restL f (k+1)) (wr.drewN nq)):=by rw[←HR.out];exact HK0.out _ _ _ HK.out (ext_drewN (Below.refl _ _) nq)
    gi_wp2
    go_roundw
    case rel=>exact⟨k+1,by go_num,by omega,HKq.out⟩
    case measure=>simp[intOf];omega
  ·obtain rfl:k=200:=by omega
   clear hSr hn
   gi_wp2
   go_end0
   exact⟨⟨_,rfl⟩,Or.inl ⟨_,restL_end f,HK.out⟩⟩
end

section
open Go.RowKit Go.Shelf
attribute [local go_sem] Oper.semAt_some wide_fn wide_depth wide_fnR wide_depthR
theorem intsN_ok(l:List Nat)(h:∀x∈l,x<1000000):∀x∈intsN l,I64 x:=by
 intro x hx
 simp only[intsN,List.mem_map] at hx
 obtain⟨k,hk,rfl⟩:=hx
 have:=h k hk
 unfold I64
 omega
theorem own_nobook{w:World}{base:Nat}{e:TypeId}{size:Nat}{v:Value}{n:Nat}{xs:List Value}(h:w.ownsRow base e size v n xs):∀(j:Nat) (o:Obj),v.ownBlock=some j→w.heap[j]? =some o→isBook o=false:=by
 intro j o hj ho
 rcases h.2 with ⟨rfl,_⟩|⟨g,cap,cur,rfl,_,hh,_⟩
 ·cases hj
 ·simp only[Value.ownBlock,Option.some.injEq] at hj;subst hj;rw[hh] at ho;cases ho;rfl
theorem grown_row{w w':World}{row:Option Nat}(hg:w.grownBy w' row){k:Nat}{o:Obj}(hk:w.heap[k]? =some o)(hne:row≠some k):w'.heap[k]? =some o:=
 (hg.block k (Array.getElem?_eq_some_iff.1 hk).1 (fun e=>hne e.symm)).trans hk
theorem grown_setCell(w:World)(b o:Nat)(u:Value):w.grownBy (w.setCell ⟨b,o,none⟩ u) (some b):=
 ⟨rfl,rfl,rfl,by simp,fun k _ hne=>Below.heap_setCell _ _ _ _ (fun e=>hne (by rw[e]))⟩
theorem Steady.ownI(D base:Nat)(v:Value)(xs:List Int):Steady D (fun W=>OwnI W base v xs):=(Steady.ownsRow _ _ _ _ _ _ _).and (Steady.pure _ _)
theorem Steady.size(D n:Nat):Steady D (fun W=>n<W.heap.size):=fun _ _ _ h hg _=>Nat.lt_of_lt_of_le h hg.size
theorem listS_lt(f:Nat→Bool):∀x∈listS f,x<200:=fun x hx=>by simp[listS] at hx;exact hx.1
theorem listS_len(f:Nat→Bool):(listS f).length≤200:=by
 have:=List.length_filter_le f (List.range 200)
 simpa[listS] using this
theorem enter_each(args:Array Value)(w:World):(callFunc 194 args).run Tryz.prog w=.ok (.enter 194 args) w:=enters_of Tryz.func194 (by kernel_rfl) rfl args w
end

section
open Go.RowKit
theorem size_set:(Tryz.prog.info? 156).map (·.size)=some 200:=by kernel_rfl
theorem zero_set:Tryz.zeroCells156=setA fun _=>false:=by kernel_rfl
def SetPost(w:World)(f:Nat→Bool)(e:Ending)(w':World):Prop:=e=.returned (.agg (setA f))∧Below w.heap.size w w'
theorem load_set{W:World}{g:Nat}{f:Nat→Bool}(hg:W.heap[g]? =some (setO f)):(loadVar 156 ⟨g,0,none⟩).run Tryz.prog W=.ok (.agg (setA f)) W:=
 run_loadVar_row (P:=Tryz.prog) W g 156 156 _ (0,0) _ hg Tryz.underlying156 rfl (by rw[setA_size];exact size_set)
theorem set_put{W:World}{g:Nat}{f:Nat→Bool}(hg:W.heap[g]? =some (setO f))(j:Nat)(hj:j<200)(b:Bool):(W.setCell ⟨g,j,none⟩ (.bool b)).heap[g]? =some (setO fun k=>if k=j then b else f k):=by
 rw[heap_setCell_same _ _ _ _ _ _ hg,setA_put _ _ hj]
theorem set_cell{W:World}{g:Nat}{f:Nat→Bool}(hg:W.heap[g]? =some (setO f))(j:Nat)(hj:j<200):W.cell? ⟨g,j,none⟩=some (.bool (f j)):=by rw[cell_of_row _ _ _ _ _ _ hg,setA_at _ _ hj]
theorem set_free{W:World}{g:Nat}{f:Nat→Bool}(hg:W.heap[g]? =some (setO f))(j:Nat):W.frozen? ⟨g,j,none⟩=false:=frozen_of_row _ _ _ _ _ hg
theorem lt_of_heap{W:World}{g:Nat}{o:Obj}(h:W.heap[g]? =some o):g<W.heap.size:=(Array.getElem?_eq_some_iff.1 h).1
theorem lessS_put(f:Nat→Bool)(b:Nat):(fun k=>if k=b then false else f k)=lessS f b:=by
 funext k
 by_cases e:k=b<;>simp[lessS,e]
theorem less_any(f:Nat→Bool)(b:Nat)(hb:b<200)(w:World):Calls Tryz.prog 171 #[.agg (setA f),.int .i64 (b:Int)] w (SetPost w (lessS f b)):=by
 go_enter Tryz.func171,Tryz.ntmps171
 go_upto_region 1 with (fail)
 obtain⟨W,hW⟩:∃W,W=(w.alloc (setO f)).alloc (.cells Tryz.zeroCells156 156):=⟨_,rfl⟩
 rw[←hW]
 have hs:W.heap[w.heap.size]? =some (setO f):=by rw[hW,Below.heap_alloc _ _ _ (by simp)];exact heap_alloc_new _ _
 have hr:W.heap[w.heap.size+1]? =some (setO fun _=>false):=by rw[hW,heap_at _ _ _ (by simp),zero_set]
 have hB:Below w.heap.size w W:=by rw[hW];exact(ext_alloc _ _).alloc (by simp) _
 have HW:=Lib.hid hW
 clear hW
 have hc:=set_cell hs b hb
 have hf:=set_free hs b
 have hs2:=set_put hs b hb false
 rw[lessS_put] at hs2
 have hr2:=(grown_row (grown_setCell W w.heap.size b (.bool false)) hr (by simp))
 have hB2:=hB.setCell (p:=⟨w.heap.size,b,none⟩) (Nat.le_refl _) (.bool false)
 have HS2:=Lib.hid hs2
 have HR2:=Lib.hid hr2
 have HB2:=Lib.hid hB2
 have hl:=lt_of_heap hs
 clear hs hr hB hs2 hr2 hB2
 go_wp2_with (first
  |(refine wpList_load_row rfl 156 _ rfl w.heap.size rfl 156 _ (0,0) _ HS2.out Tryz.underlying156 rfl (by rw[setA_size];exact size_set) ?_)
  |(refine wpList_store_row rfl 156 _ _ rfl (w.heap.size+1) (setA (lessS f b)) rfl rfl 156 _ HR2.out (by rw[setA_size];exact size_set) rfl (setA_all _) ?_))
 exact bodyPost_ret (v:=.agg (setA (lessS f b))) (by simp[results,Tryz.results171,asAddr,Act.put,load_set (setRow_heap _ _ _ _ _ _ HR2.out)]) rfl ⟨rfl,below_setRow HB2.out (by omega) _⟩
theorem ofS_put(xs:List Int)(k:Nat)(hk:k<xs.length)(h0:0≤xs.getD k 0)(h1:xs.getD k 0<200):(fun j=>if j=(xs.getD k 0).toNat then true else ofS (xs.take k) j)=ofS (xs.take (k+1)):=by
 funext j
 rw[takeS xs k 0 hk,ofS,ofS,List.contains_append]
 generalize xs.getD k 0=x at h0 h1
 by_cases e:j=x.toNat
 ·subst e;have h3:((x.toNat:Nat):Int)=x:=Int.toNat_of_nonneg h0;have h4:x.toNat<200:=by omega
  simp[h3,h4]
 ·have e2:¬(j:Int)=x:=by omega
  simp[e,e2]
theorem ofS_skip(xs:List Int)(k:Nat)(hk:k<xs.length)(h:xs.getD k 0<0∨200≤xs.getD k 0):ofS (xs.take k)=ofS (xs.take (k+1)):=by
 funext j
 rw[takeS xs k 0 hk,ofS,ofS,List.contains_append]
 generalize xs.getD k 0=x at h
 by_cases hj:j<200
 ·have e2:¬(j:Int)=x:=by omega
  simp[e2]
 ·simp[hj]
theorem store_to{W:World}{g:Nat}{f h:Nat→Bool}{j:Nat}{b:Bool}(hg:W.heap[g]? =some (setO f))(hj:j<200)(e:(fun k=>if k=j then b else f k)=h):(W.setCell ⟨g,j,none⟩ (.bool b)).heap[g]? =some (setO h):=by rw[←e];exact set_put hg j hj b
theorem of_any(a:Option Addr)(n c:Nat)(xs:List Int)(w:World)(h:Ints w a n xs):Calls Tryz.prog 77 #[.slice a n c] w (SetPost w (ofS xs)):=by
 have HL:=Lib.hid h.1
 have hn:=h.2.1
 have H:=Lib.hid h
 clear h
 go_enter Tryz.func77,Tryz.ntmps77
 go_wp2
 go_loopw [4,7] (fun _ i wr=>∃(k:Nat),k≤n∧i=.int .i64 k∧Hid (wr.heap[w.heap.size]? =some (setO (ofS (xs.take k))))∧Hid (Below w.heap.size w wr)) (fun _ i _=>n-(intOf i).toNat)
 case atStart=>exact⟨0,by omega,rfl,by rw[Hid,heap_alloc_new,zero_set];congr 3;funext j;simp[ofS],ext_alloc _ _⟩
 case round=>
  obtain⟨k,hk,rfl,HS,HB⟩:=hrel;by_cases hlt:k<n
  ·obtain⟨b,o,rfl,hc,hw1,hw2⟩:=(H.out.ext HB.out).2.2 k hlt;have hkx:k<xs.length:=by rw[HL.out];exact hlt
   by_cases h0:0≤xs.getD k 0
   ·by_cases h1:xs.getD k 0<200
    ·have hx:(xs.getD k 0).toNat<200:=by omega
     have hcell:=set_cell HS.out _ hx;have hfr:=set_free HS.out (xs.getD k 0).toNat;have HS2:=Lib.hid (store_to HS.out hx (ofS_put xs k hkx h0 h1));have hl:=lt_of_heap HS.out;generalize xs.getD k 0=x at *;generalize ofS (xs.take k) x.toNat=bb at *;go_wp2
     go_roundw
     case rel=>exact⟨k+1,by omega,by go_num,HS2,HB.out.setCell (Nat.le_refl _) _⟩
     case measure=>simp[intOf];omega
    ·have HS2:Hid (wr.heap[w.heap.size]? =some (setO (ofS (xs.take (k+1))))):=by rw[Hid,←ofS_skip xs k hkx (.inr (by omega))];exact HS.out
     generalize xs.getD k 0=x at *;go_wp2
     go_roundw
     case rel=>exact⟨k+1,by omega,by go_num,HS2,HB⟩
     case measure=>simp[intOf];omega
   ·have HS2:Hid (wr.heap[w.heap.size]? =some (setO (ofS (xs.take (k+1))))):=by rw[Hid,←ofS_skip xs k hkx (.inl (by omega))];exact HS.out
    generalize xs.getD k 0=x at *;go_wp2
    go_roundw
    case rel=>exact⟨k+1,by omega,by go_num,HS2,HB⟩
    case measure=>simp[intOf];omega
  ·have HT:Hid (xs.take k=xs):=List.take_of_length_le (by rw[HL.out];omega);have HSx:Hid (wr.heap[w.heap.size]? =some (setO (ofS xs))):=by have:=HS.out;rwa [HT.out] at this
   go_wp2_with (first
    |(refine wpList_load_row rfl 156 _ rfl w.heap.size rfl 156 _ (0,0) _ HSx.out Tryz.underlying156 rfl (by rw[setA_size];exact size_set) ?_)
    |(refine wpList_store_row rfl 156 _ _ rfl w.heap.size (setA (ofS xs)) rfl rfl 156 _ HSx.out (by rw[setA_size];exact size_set) rfl (setA_all _) ?_))
   exact bodyPost_ret (v:=.agg (setA (ofS xs))) (by simp[results,Tryz.results77,asAddr,Act.put,load_set (setRow_heap _ _ _ _ _ _ HSx.out)]) rfl ⟨rfl,below_setRow HB.out (by omega) _⟩
def NRows(w:World)(a:Option Addr)(n:Nat)(L:List (List Nat)):Prop:=
 L.length=n∧n≤1000∧∀k xs,L[k]? =some xs→∃b o ra rc,a=some ⟨b,o,none⟩∧w.cell? ⟨b,o+k,none⟩=some (.slice ra xs.length rc)∧Ints w ra xs.length (intsN xs)
theorem NRows.ext{w w':World}{a:Option Addr}{n:Nat}{L:List (List Nat)}(h:NRows w a n L)(hb:Below w.heap.size w w'):NRows w' a n L:=
 ⟨h.1,h.2.1,fun k xs hx=>by
  obtain⟨b,o,ra,rc,e,hc,hi⟩:=h.2.2 k xs hx
  exact⟨b,o,ra,rc,e,cell_ext hb hc,hi.ext hb⟩⟩
structure WalkD where
 pa:Option Addr
 pn:Nat
 pc:Nat
 ba:Option Addr
 bn:Nat
 bc:Nat
 ta:Option Addr
 tc:Nat
 fa:Option Addr
 fc:Nat
abbrev walkV(d:WalkD):Value:=.agg #[.slice d.pa d.pn d.pc,.slice d.ba d.bn d.bc,.slice d.ta d.bn d.tc,.slice d.fa d.bn d.fc]
abbrev walkO(d:WalkD):Obj:=.cells #[.slice d.pa d.pn d.pc,.slice d.ba d.bn d.bc,.slice d.ta d.bn d.tc,.slice d.fa d.bn d.fc] 149
def toRows(ts:List TermD):List (List Nat):=(List.range ts.length).map (nx ts)
def fromRows(ts:List TermD):List (List Nat):=(List.range ts.length).map (pv ts)
def WalkOK(w:World)(d:WalkD)(ts:List TermD):Prop:=ts.length=d.bn∧d.bn≤200∧NRows w d.ta d.bn (toRows ts)∧NRows w d.fa d.bn (fromRows ts)
theorem WalkOK.ext{w w':World}{d:WalkD}{ts:List TermD}(h:WalkOK w d ts)(hb:Below w.heap.size w w'):WalkOK w' d ts:=⟨h.1,h.2.1,h.2.2.1.ext hb,h.2.2.2.ext hb⟩
theorem whole_any(d:WalkD)(hd:d.bn≤200)(w:World):Calls Tryz.prog 86 #[walkV d] w (SetPost w (wholeS d.bn)):=by
 go_enter Tryz.func86,Tryz.ntmps86
 go_wp2
 go_loopw [3,8] (fun _ i wr=>∃(k:Nat),k≤d.bn∧i=.int .i64 k∧Hid (wr.heap[w.heap.size+1]? =some (setO (wholeS k)))∧Hid (Below w.heap.size w wr)) (fun _ i _=>d.bn-(intOf i).toNat)
 case atStart=>exact⟨0,by omega,rfl,by rw[Hid,heap_at _ _ _ (by simp),zero_set];rfl,(ext_alloc _ _).alloc (by simp) _⟩
 case round=>
  obtain⟨k,hk,rfl,HS,HB⟩:=hrel;by_cases hlt:k<d.bn
  ·have hcell:=set_cell HS.out k (by omega);have hfr:=set_free HS.out k;have HS2:=Lib.hid (store_to (h:=wholeS (k+1)) (b:=true) HS.out (show k<200 by omega) (by funext j;by_cases e:j=k<;>simp[wholeS,e]<;>omega));have hl:=lt_of_heap HS.out;generalize wholeS k k=bb at *;go_wp2
   go_roundw
   case rel=>exact⟨k+1,by omega,by go_num,HS2,HB.out.setCell (by simp) _⟩
   case measure=>simp[intOf];omega
  ·obtain rfl:k=d.bn:=by omega
   go_wp2_with (first
    |(refine wpList_load_row rfl 156 _ rfl (w.heap.size+1) rfl 156 _ (0,0) _ HS.out Tryz.underlying156 rfl (by rw[setA_size];exact size_set) ?_)
    |(refine wpList_store_row rfl 156 _ _ rfl (w.heap.size+1) (setA (wholeS d.bn)) rfl rfl 156 _ HS.out (by rw[setA_size];exact size_set) rfl (setA_all _) ?_))
   exact bodyPost_ret (v:=.agg (setA (wholeS d.bn))) (by simp[results,Tryz.results86,asAddr,Act.put,load_set (setRow_heap _ _ _ _ _ _ HS.out)]) rfl ⟨rfl,below_setRow HB.out (by omega) _⟩
end

section
open Go.Shelf
def lays189_ren:Go.Shelf.Ren:=⟨fun|189=>173|125=>248|257=>247|128=>280|129=>281|294=>271|295=>272|296=>273|297=>274|298=>275|299=>276|216=>277|300=>278|301=>279|328=>283|329=>284|330=>285|331=>286|332=>287|215=>191|343=>289|n=>n,fun|28=>22|3=>3|46=>164|0=>0|51=>292|53=>166|4=>4|183=>360|182=>359|131=>146|5=>5|9=>9|218=>367|222=>371|228=>373|229=>374|n=>n,fun|n=>n⟩
theorem lays189:Go.Proofs.Lays.n189 Tryz.prog lays189_ren:={
 mixed:=by kernel_rfl
 f125:=Tryz.func248.trans (congrArg some (by kernel_rfl))
 f128:=Tryz.func280.trans (congrArg some (by kernel_rfl))
 f129:=Tryz.func281.trans (congrArg some (by kernel_rfl))
 f189:=Tryz.func173.trans (congrArg some (by kernel_rfl))
 f215:=Tryz.func191.trans (congrArg some (by kernel_rfl))
 f216:=Tryz.func277.trans (congrArg some (by kernel_rfl))
 f257:=Tryz.func247.trans (congrArg some (by kernel_rfl))
 f294:=Tryz.func271.trans (congrArg some (by kernel_rfl))
 f295:=Tryz.func272.trans (congrArg some (by kernel_rfl))
 f296:=Tryz.func273.trans (congrArg some (by kernel_rfl))
 f297:=Tryz.func274.trans (congrArg some (by kernel_rfl))
 f298:=Tryz.func275.trans (congrArg some (by kernel_rfl))
 f299:=Tryz.func276.trans (congrArg some (by kernel_rfl))
 f300:=Tryz.func278.trans (congrArg some (by kernel_rfl))
 f301:=Tryz.func279.trans (congrArg some (by kernel_rfl))
 f328:=Tryz.func283.trans (congrArg some (by kernel_rfl))
 f329:=Tryz.func284.trans (congrArg some (by kernel_rfl))
 f330:=Tryz.func285.trans (congrArg some (by kernel_rfl))
 f331:=Tryz.func286.trans (congrArg some (by kernel_rfl))
 f332:=Tryz.func287.trans (congrArg some (by kernel_rfl))
 f343:=Tryz.func289.trans (congrArg some (by kernel_rfl))
 t0:=Tryz.underlying0
 a0:=Tryz.isAgg0
 z0:=Tryz.sizeOf0
 v0:=Tryz.zeroValue0
 t3:=Tryz.underlying3
 a3:=Tryz.isAgg3
 z3:=Tryz.sizeOf3
 v3:=Tryz.zeroValue3
 t4:=Tryz.underlying4
 a4:=Tryz.isAgg4
 z4:=Tryz.sizeOf4
 v4:=Tryz.zeroValue4
 t5:=Tryz.underlying5
 a5:=Tryz.isAgg5
 z5:=Tryz.sizeOf5
 v5:=Tryz.zeroValue5
 t9:=Tryz.underlying9
 a9:=Tryz.isAgg9
 z9:=Tryz.sizeOf9
 v9:=Tryz.zeroValue9
 t28:=Tryz.underlying22
 a28:=Tryz.isAgg22
 z28:=Tryz.sizeOf22
 v28:=Tryz.zeroValue22
 t46:=Tryz.underlying164
 a46:=Tryz.isAgg164
 z46:=Tryz.sizeOf164
 v46:=Tryz.zeroValue164
 t51:=Tryz.underlying292
 a51:=Tryz.isAgg292
 z51:=Tryz.sizeOf292
 v51:=Tryz.zeroValue292
 t53:=Tryz.underlying166
 a53:=Tryz.isAgg166
 z53:=Tryz.sizeOf166
 v53:=Tryz.zeroValue166
 t131:=Tryz.underlying146
 a131:=Tryz.isAgg146
 z131:=Tryz.sizeOf146
 v131:=Tryz.zeroValue146
 t182:=Tryz.underlying359
 a182:=Tryz.isAgg359
 z182:=Tryz.sizeOf359
 v182:=Tryz.zeroValue359
 t183:=Tryz.underlying360
 a183:=Tryz.isAgg360
 z183:=Tryz.sizeOf360
 v183:=Tryz.zeroValue360
 t218:=Tryz.underlying367
 a218:=Tryz.isAgg367
 z218:=Tryz.sizeOf367
 v218:=Tryz.zeroValue367
 t222:=Tryz.underlying371
 a222:=Tryz.isAgg371
 z222:=Tryz.sizeOf371
 v222:=Tryz.zeroValue371
 t228:=Tryz.underlying373
 a228:=Tryz.isAgg373
 z228:=Tryz.sizeOf373
 v228:=Tryz.zeroValue373
 t229:=Tryz.underlying374
 a229:=Tryz.isAgg374
 z229:=Tryz.sizeOf374
 v229:=Tryz.zeroValue374}
open Go.Sort Go.RowKit in
theorem slices_Sort_int(blk off cap:Nat)(zs:List Int)(w:World)(hH:Holds (Value.int .i64) w blk off zs.toArray)(hblk:blk<w.heap.size)(hsz:zs.length<4611686018427387904):
  Calls Tryz.prog 173 #[.slice (some ⟨blk,off,none⟩) zs.length cap] w fun e w'=>
   e=.returned (.tuple #[])∧∃n os,w'=grow (putRow (Value.int .i64) (Sort.ahead w n) blk off (zs.mergeSort fun x y=>decide (x≤y)).toArray) os:=Any.slices_Sort_int lays189 blk off cap zs w hH hblk hsz
def lays112_ren:Go.Shelf.Ren:=⟨fun|112=>178|n=>n,fun|28=>22|3=>3|4=>4|0=>0|n=>n,fun|n=>n⟩
theorem lays112:Go.Proofs.Lays.n112 Tryz.prog lays112_ren:={
 mixed:=by kernel_rfl
 f112:=Tryz.func178.trans (congrArg some (by kernel_rfl))
 t0:=Tryz.underlying0
 a0:=Tryz.isAgg0
 z0:=Tryz.sizeOf0
 v0:=Tryz.zeroValue0
 t3:=Tryz.underlying3
 a3:=Tryz.isAgg3
 z3:=Tryz.sizeOf3
 v3:=Tryz.zeroValue3
 t4:=Tryz.underlying4
 a4:=Tryz.isAgg4
 z4:=Tryz.sizeOf4
 v4:=Tryz.zeroValue4
 t28:=Tryz.underlying22
 a28:=Tryz.isAgg22
 z28:=Tryz.sizeOf22
 v28:=Tryz.zeroValue22}
open Go.RowKit Go.Lib Go.Sort in
theorem slices_Reverse_int(blk off cap:Nat)(zs:List Int)(w:World)(hH:Holds (Value.int .i64) w blk off zs.toArray)(hsz:zs.length≤9223372036854775807):
  Calls Tryz.prog 178 #[.slice (some ⟨blk,off,none⟩) zs.length cap] w fun e w'=>e=.returned (.tuple #[])∧∃n,w'=putRow (Value.int .i64) (Sort.ahead w n) blk off zs.reverse.toArray:=Any.slices_Reverse_int lays112 blk off cap zs w hH hsz
open Go.RowKit Go.Lib Go.Sort in
theorem slices_Reverse_int_empty(a:Option Addr)(cap:Nat)(w:World):
  Calls Tryz.prog 178 #[.slice a 0 cap] w fun e w'=>e=.returned (.tuple #[])∧w'=w:=Any.slices_Reverse_int_empty lays112 a cap w
def laysNm220_ren:Go.Shelf.Ren:=⟨fun|20=>174|n=>n,fun|22=>22|3=>3|4=>4|0=>0|n=>n,fun|n=>n⟩
theorem laysNm220:Go.Proofs.Lays2.n20 Tryz.prog laysNm220_ren:={
 mixed:=by kernel_rfl
 f20:=Tryz.func174.trans (congrArg some (by kernel_rfl))
 t0:=Tryz.underlying0
 a0:=Tryz.isAgg0
 z0:=Tryz.sizeOf0
 v0:=Tryz.zeroValue0
 t3:=Tryz.underlying3
 a3:=Tryz.isAgg3
 z3:=Tryz.sizeOf3
 v3:=Tryz.zeroValue3
 t4:=Tryz.underlying4
 a4:=Tryz.isAgg4
 z4:=Tryz.sizeOf4
 v4:=Tryz.zeroValue4
 t22:=Tryz.underlying22
 a22:=Tryz.isAgg22
 z22:=Tryz.sizeOf22
 v22:=Tryz.zeroValue22
 i3:=by kernel_rfl}
open Go.RowKit Go.Lib Go.Sort in
theorem slices_Compact_int(blk off cap:Nat)(zs:List Int)(w:World)(hH:Holds (Value.int .i64) w blk off zs.toArray)(hsz:zs.length≤9223372036854775807)(hcap:zs.length≤cap):
  Calls Tryz.prog 174 #[.slice (some ⟨blk,off,none⟩) zs.length cap] w fun e w'=>e=.returned (.slice (some ⟨blk,off,none⟩) (Lib.compact zs).length cap)∧∃q,w'=putRow (Value.int .i64) (Sort.ahead w q) blk off (Lib.compact zs++List.replicate (zs.length-(Lib.compact zs).length) 0).toArray:=Any.slices_Compact_int laysNm220 blk off cap zs w hH hsz hcap
open Go.RowKit Go.Lib Go.Sort in
theorem slices_Compact_int_empty(a:Option Addr)(cap:Nat)(w:World):
  Calls Tryz.prog 174 #[.slice a 0 cap] w fun e w'=>e=.returned (.slice a 0 cap)∧w'=w:=Any.slices_Compact_int_empty laysNm220 a cap w
open Go.RowKit Go.Sort in
theorem slices_Sort_int_none(p:Option Addr)(cap:Nat)(w:World):
  Calls Tryz.prog 173 #[.slice p 0 cap] w fun e w'=>e=.returned (.tuple #[])∧w'=w:=Any.slices_Sort_int_none lays189 p cap w
end

section
open Go.RowKit Go.Sort
theorem heap_mapBlock(w:World)(g k:Nat)(f:Array Value→Array Value):(mapBlock w g f).heap[k]? =if g=k then (w.heap[k]?).map (onCells f) else w.heap[k]?:=by
 show(w.heap.modify g (onCells f))[k]? =_
 rw[Array.getElem?_modify]
theorem grown_putRow(w:World)(g q:Nat)(ys:List Int):w.grownBy (putRow (Value.int .i64) (Sort.ahead w q) g 0 ys.toArray) (some g):=by
 refine⟨rfl,rfl,rfl,by simp[Sort.ahead],fun k _ hne=>?_⟩
 unfold putRow
 rw[heap_mapBlock,if_neg (fun e=>hne (by rw[e]))]
 rfl
theorem grown_grow{w w':World}{row:Option Nat}(h:w.grownBy w' row)(os:Array Obj):w.grownBy (grow w' os) row:=by
 refine⟨h.os,h.tape,h.output,?_,fun k hk hne=>?_⟩
 ·have:=h.size;simp[grow];omega
 ·rw[heap_grow_old w' os (Nat.lt_of_lt_of_le hk h.size)];exact h.block k hk hne
theorem own_holds{w:World}{base g n c:Nat}{xs:List Int}(h:OwnI w base (.slice (some ⟨g,0,none⟩) n c) xs):Holds (Value.int .i64) w g 0 xs.toArray:=by
 intro j hj
 have hj':j<xs.length:=by simpa using hj
 have hn:=h.cap.2.2
 obtain⟨b,o,e,hc,_⟩:=h.ints.2.2 j (by omega)
 injection e with e
 injection e with e1 e2
 subst e1 e2
 refine⟨?_,?_⟩
 ·rw[hc];simp[List.getD_eq_getElem?_getD,hj']
 ·rcases h.1.2 with ⟨hv,_⟩|⟨g',cap,cur,hv,_,hh,_⟩
  ·cases hv
  ·injection hv with e1 _ _;injection e1 with e1;injection e1 with e1 _ _;subst e1;exact frozen_of_row _ _ _ _ _ hh
theorem own_putRow{w:World}{base g n c:Nat}{xs:List Int}(h:OwnI w base (.slice (some ⟨g,0,none⟩) n c) xs)(q:Nat)(ys:List Int)(hl:ys.length=xs.length)(hy:∀y∈ys,I64 y):
  OwnI (putRow (Value.int .i64) (Sort.ahead w q) g 0 ys.toArray) base (.slice (some ⟨g,0,none⟩) n c) ys:=by
 have hn:=h.cap.2.2
 refine⟨⟨by simp[intVals],?_⟩,hy,by have:=h.2.2;omega⟩
 rcases h.1.2 with ⟨hv,_⟩|⟨g',cap,cur,hv,hb,hh,h1,h2,h3,h4⟩
 ·cases hv
 ·injection hv with e1 e2 e3;injection e1 with e1;injection e1 with e1 _ _;subst e1 e3;refine .inr ⟨g,c,putCells (Value.int .i64) 0 ys.toArray cur,by rw[hn,hl],hb,?_,by omega,h2,by simp[putCells,h3],?_⟩
  ·unfold putRow;rw[heap_mapBlock,if_pos rfl];show(w.heap[g]?).map _=_;rw[hh];rfl
  ·apply List.ext_getElem?;intro k;rw[List.getElem?_take];by_cases hk:k<ys.length
   ·have hkc:k<cur.size:=by omega
    rw[if_pos (by omega)];simp[putCells,intVals,hk,hkc]
   ·rw[if_neg (by omega),List.getElem?_eq_none (by simp[intVals];omega)]
theorem own_ahead{w:World}{base:Nat}{v:Value}{xs:List Int}(h:OwnI w base v xs)(os:Array Obj):OwnI (grow w os) base v xs:=
 h.ext ⟨rfl,rfl,rfl,by simp[grow],fun k hk=>heap_grow_old w os hk⟩
def TurnPost(w:World)(base:Nat)(v:Value)(ys:List Int)(e:Ending)(w':World):Prop:=e=.returned (.tuple #[])∧OwnI w' base v ys∧w.grownBy w' v.ownBlock
theorem grown_refl(w:World)(row:Option Nat):w.grownBy w row:=⟨rfl,rfl,rfl,Nat.le_refl _,fun _ _ _=>rfl⟩
theorem sortI_any(base:Nat)(v:Value)(xs:List Int)(w:World)(h:OwnI w base v xs):
  Calls Tryz.prog 173 #[v] w (TurnPost w base v (xs.mergeSort fun x y=>decide (x≤y))):=by
 rcases id h.1.2 with ⟨rfl,h0⟩|⟨g,cap,cur,rfl,hb,hh,_⟩
 ·have h0:xs= []:=List.eq_nil_of_length_eq_zero h0;subst h0;refine(slices_Sort_int_none none 0 w).mono ?_;rintro e w' ⟨rfl,rfl⟩;exact⟨rfl,by simpa using h,grown_refl _ _⟩
 ·refine(slices_Sort_int g 0 cap xs w (own_holds h) (Array.getElem?_eq_some_iff.1 hh).1 (by have:=h.2.2;omega)).mono ?_;rintro e w' ⟨rfl,n,os,rfl⟩;have hp:=List.mergeSort_perm xs fun x y=>decide (x≤y);refine⟨rfl,own_ahead (own_putRow h n _ (List.length_mergeSort _) (fun y hy=>h.2.1 y (hp.mem_iff.1 hy))) os,?_⟩;exact grown_grow (grown_putRow w g n _) os
theorem reverseI_any(base:Nat)(v:Value)(xs:List Int)(w:World)(h:OwnI w base v xs):
  Calls Tryz.prog 178 #[v] w (TurnPost w base v xs.reverse):=by
 rcases id h.1.2 with ⟨rfl,h0⟩|⟨g,cap,cur,rfl,hb,hh,_⟩
 ·have h0:xs= []:=List.eq_nil_of_length_eq_zero h0;subst h0;refine(slices_Reverse_int_empty none 0 w).mono ?_;rintro e w' ⟨rfl,rfl⟩;exact⟨rfl,by simpa using h,grown_refl _ _⟩
 ·refine(slices_Reverse_int g 0 cap xs w (own_holds h) (by have:=h.2.2;omega)).mono ?_;rintro e w' ⟨rfl,n,rfl⟩;exact⟨rfl,own_putRow h n _ (by simp) (fun y hy=>h.2.1 y (by simpa using hy)),grown_putRow w g n _⟩
def CompactPost(w:World)(base:Nat)(v:Value)(ys:List Int)(e:Ending)(w':World):Prop:=∃v',e=.returned v'∧OwnI w' base v' ys∧w.grownBy w' v.ownBlock
theorem compact_len(xs:List Int):(Lib.compact xs).length≤xs.length:=by
 unfold Lib.compact Lib.compactUpTo
 rw[List.length_map]
 have:=List.length_filter_le (Lib.keeps xs.toArray) (List.range xs.length)
 simpa using this
theorem compact_mem(xs:List Int):∀y∈Lib.compact xs,y∈xs:=by
 intro y hy
 unfold Lib.compact Lib.compactUpTo at hy
 rw[List.mem_map] at hy
 obtain⟨k,hk,rfl⟩:=hy
 have:=List.mem_range.1 (List.mem_filter.1 hk).1
 simp[this]
theorem ownI_trunc{w:World}{base g c n:Nat}{xs ys:List Int}(h:OwnI w base (.slice (some ⟨g,0,none⟩) n c) (xs++ys)):OwnI w base (.slice (some ⟨g,0,none⟩) xs.length c) xs:=by
 refine⟨⟨by simp[intVals],?_⟩,fun z hz=>h.2.1 z (by simp[hz]),by have:=h.2.2;simp at this;omega⟩
 rcases h.1.2 with ⟨hv,_⟩|⟨g',cap,cur,hv,hb,hh,h1,h2,h3,h4⟩
 ·cases hv
 ·injection hv with e1 e2 e3;injection e1 with e1;injection e1 with e1 _ _;subst e1 e3;refine .inr ⟨g,c,cur,rfl,hb,hh,by simp at h1;omega,h2,h3,?_⟩;have h5:(cur.toList.take ((xs++ys).length*1)).take xs.length=(intVals (xs++ys)).take xs.length:=by rw[h4]
  rw[List.take_take] at h5;simpa[intVals] using h5
theorem compactI_any(base:Nat)(v:Value)(xs:List Int)(w:World)(h:OwnI w base v xs):
  Calls Tryz.prog 174 #[v] w (CompactPost w base v (Lib.compact xs)):=by
 rcases id h.1.2 with ⟨rfl,h0⟩|⟨g,cap,cur,rfl,hb,hh,h1,_⟩
 ·have h0:xs= []:=List.eq_nil_of_length_eq_zero h0;subst h0;refine(slices_Compact_int_empty none 0 w).mono ?_;rintro e w' ⟨rfl,rfl⟩;exact⟨_,rfl,h,grown_refl _ _⟩
 ·refine(slices_Compact_int g 0 cap xs w (own_holds h) (by have:=h.2.2;omega) h1).mono ?_;rintro e w' ⟨rfl,n,rfl⟩;have hc:=compact_len xs
  have h9:=own_putRow h n (Lib.compact xs++List.replicate (xs.length-(Lib.compact xs).length) 0) (by simp;omega) (fun y hy=>by
   rcases List.mem_append.1 hy with hy|hy
   ·exact h.2.1 y (compact_mem xs y hy)
   ·have:=(List.mem_replicate.1 hy).2;subst this
    unfold I64;omega)
  exact⟨_,rfl,ownI_trunc h9,grown_putRow w g n _⟩
end
end Go.Proofs.YthgebcfohnlhlaaGreatDoor
