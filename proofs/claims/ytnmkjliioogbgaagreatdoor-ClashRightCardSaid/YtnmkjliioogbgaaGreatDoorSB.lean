/-
 Tile:ir.To.
-/
import Derived.Test.YtnmkjliioogbgaaGreatDoorTA
import Derived.Test.YtnmkjliioogbgaaGreatDoorRangeT
import Derived.Scope
import Derived.Deep.DeepCutAuto
import Derived.Shelf.Sort.Plain
import Derived.Shelf.Slices.Reverse
import Derived.Ground.Names2Prog
import Derived.Shelf.Slices.Clone
import Derived.Shelf.Slices.CompactI
import Derived.Shelf.Slices.In.SortNone
import Derived.Shelf.SlicesE.Reverse
import Derived.Test.YtnmkjliioogbgaaGreatDoorProg
import Derived.Test.YtnmkjliioogbgaaGreatDoorNR
import Derived.Lib.TrailingZeros
import Derived.Laws.Bits64b
import Derived.Deep.Cut
import Derived.Deep.CutRange
import Derived.LoopTactic
import Derived.Deep.Light
namespace Go.Proofs.YtnmkjliioogbgaaGreatDoor
set_option linter.unusedSimpArgs false
set_option linter.unusedVariables false
set_option linter.unusedSectionVars false
set_option maxRecDepth 100000
set_option maxHeartbeats 40000000
section
open Go.RowKit
theorem toD_ok(t:TermD)(h:TermOK t):∀x∈toD t,I64 x:=by
 intro x hx
 unfold toD at hx
 split at hx
 ·split at hx
  ·simp at hx;subst hx;exact h.2.2.1
  ·split at hx
   ·simp at hx;rcases hx with rfl|rfl
    ·exact h.2.2.1
    ·exact h.2.2.2
   ·cases hx
 ·cases hx
theorem below_size'{w w':World}{o:Obj}(h:Below (w.alloc o).heap.size (w.alloc o) w'):w.heap.size≤w'.heap.size:=by have:=h.size;simp at this;omega
theorem to_any(t:TermD)(w:World)(h:TermOK t):Calls Tryz.prog 74 #[termV t] w (IntsPost w (toD t)):=by
 have HT:=Lib.hid h
 have HO:=Lib.hid (toD_ok t h)
 clear h
 obtain⟨k,a,x,y⟩:=t
 by_cases ht:termB ⟨k,a,x,y⟩=true
 ·have HB:=Lib.hid ht;by_cases k1:k=1
  ·subst k1;have HE:Hid (toD ⟨1,a,x,y⟩= [x]):=by rw[Hid,toD,if_pos ht,if_pos rfl]
   clear ht
   go_enter Tryz.func74,Tryz.ntmps74
   go_wp2_with (go_at_call 88;refine(isTerm_any ⟨1,a,x,y⟩ _ HT.out).mono ?_;rintro e w' ⟨rfl,hb'⟩;rw[HB.out];obtain⟨g1,g2⟩:=bcell hb';have HB':=Lib.hid hb';clear hb')
   go_ret
   rw[HE.out];exact⟨_,rfl,(ownI_lit (xs:= [x]) rfl _ (below_size' HB'.out) (by have:=HO.out;rwa [HE.out] at this) (by simp)),(ext_trans (ext_alloc _ _) HB'.out).alloc (below_size' HB'.out) _⟩
  ·have b1:(k==1)=false:=by simpa using k1
   by_cases k2:k=2
   ·subst k2;have HE:Hid (toD ⟨2,a,x,y⟩= [x,y]):=by rw[Hid,toD,if_pos ht,if_neg (by simp),if_pos rfl]
    clear ht k1
    go_enter Tryz.func74,Tryz.ntmps74
    go_wp2_with (first
     |(go_at_call 97
       refine(cloneInts_any _ _ _ [x,y] _ (ints_lit HK.out [x,y] (by have:=HO.out;rwa [HE.out] at this) (by simp) (fun k hk=>by match k,hk with|0,_=>rfl|1,_=>rfl))).mono ?_;rintro e w2 ⟨v,rfl,ho,hb2⟩;have HO2:=Lib.hid ho;have HB2:=Lib.hid hb2
       clear ho hb2)
     |(go_at_call 88
       refine(isTerm_any ⟨2,a,x,y⟩ _ HT.out).mono ?_;rintro e w' ⟨rfl,hb'⟩;rw[HB.out];obtain⟨g1,g2⟩:=bcell hb';have HK:=Lib.hid (block_ext hb' (heap_alloc_new w (termO ⟨2,a,x,y⟩)));have HB':=Lib.hid hb'
       clear hb'))
    go_ret
    rw[HE.out];exact⟨_,rfl,HO2.out.mono (below_size' HB'.out),ext_trans (ext_trans (ext_alloc _ _) HB'.out) HB2.out⟩
   ·have b2:(k==2)=false:=by simpa using k2
    have HE:Hid (toD ⟨k,a,x,y⟩= []):=by rw[Hid,toD,if_pos ht,if_neg k1,if_neg k2]
    clear ht k1 k2
    go_enter Tryz.func74,Tryz.ntmps74
    go_wp2_with (go_at_call 88;refine(isTerm_any ⟨k,a,x,y⟩ _ HT.out).mono ?_;rintro e w' ⟨rfl,hb'⟩;rw[HB.out];obtain⟨g1,g2⟩:=bcell hb';have HB':=Lib.hid hb';clear hb')
    go_ret
    rw[HE.out];exact⟨_,rfl,OwnI.nil _ _,ext_trans (ext_alloc _ _) HB'.out⟩
 ·have HE:Hid (toD ⟨k,a,x,y⟩= []):=by rw[Hid,toD,if_neg ht]
  have ht':termB ⟨k,a,x,y⟩=false:=by simpa using ht
  have HB:=Lib.hid ht';clear ht ht'
  go_enter Tryz.func74,Tryz.ntmps74
  go_wp2_with (go_at_call 88;refine(isTerm_any ⟨k,a,x,y⟩ _ HT.out).mono ?_;rintro e w' ⟨rfl,hb'⟩;rw[HB.out];obtain⟨g1,g2⟩:=bcell hb';have HB':=Lib.hid hb';clear hb')
  go_ret
  rw[HE.out];exact⟨_,rfl,OwnI.nil _ _,ext_trans (ext_alloc _ _) HB'.out⟩
end

section
open Go.RowKit Go.Shelf
attribute [local go_sem] Oper.semAt_some wide_fn wide_depth wide_fnR wide_depthR
def encN(x:Nat):Array Value:=#[.int .i64 (x:Int)]
def restL(f:Nat→Bool)(k:Nat):List Nat:=(List.range' k (200-k)).filter f
theorem restL_zero(f:Nat→Bool):restL f 0=listS f:=by rw[restL,listS,List.range_eq_range']
theorem restL_end(f:Nat→Bool):restL f 200= []:=rfl
theorem restL_step(f:Nat→Bool)(k:Nat)(h:k<200):restL f k=if f k then k :: restL f (k+1) else restL f (k+1):=by
 rw[restL,show 200-k=(200-(k+1))+1 by omega,List.range'_succ,List.filter_cons]
 rfl
abbrev setO(f:Nat→Bool):Obj:=.cells (setA f) 141 (0,0)
theorem each_any(S:Nat)(w:World):Calls Tryz.prog 138 #[.pointer (some ⟨S,0,none⟩)] w fun e w'=>e=.returned (.func (.func 169) #[] #[.pointer (some ⟨w.heap.size,0,none⟩)])∧w'=w.alloc (.cells #[.pointer (some ⟨S,0,none⟩)] 256):=by
 go_enter Tryz.func138,Tryz.ntmps138
 go_wp2
 go_ret
 exact⟨rfl,rfl⟩
theorem each_iterI(f:Nat→Bool)(G S:Nat):IterI Tryz.prog 169 #[.pointer (some ⟨G,0,none⟩)] encN (listS f) (fun W=>W.cell? ⟨G,0,none⟩=some (.pointer (some ⟨S,0,none⟩))∧W.heap[S]? =some (setO f)):=by
 intro l K Kx W hK hKx hInv hY h0
 refine callsIn_of_wp Tryz.func169 rfl trivial ?_ rfl
 simp only[Tryz.ntmps169,List.size_toArray,List.length_cons,List.length_nil,Nat.reduceAdd,Nat.reduceSub,Array.replicate_succ,Array.replicate_zero,List.push_toArray,List.append_toArray,List.nil_append,List.cons_append]
 have HY:=Lib.hid hY
 have HI:=Lib.hid hInv
 have HK0:=Lib.hid hK
 have H0:Hid (K (restL f 0) W):=by rw[Hid,restL_zero];exact h0
 have hg0:W.cell? ⟨G,0,none⟩=some (.pointer (some ⟨S,0,none⟩)):=(hInv _ _ h0).1
 clear hY hInv hK hKx h0
 gi_wp2
 gi_loopw [6] (fun i wr=>∃k:Nat,i=.int .i64 k∧k≤200∧Hid (K (restL f k) wr)) (fun i _=>200-(intOf i).toNat)
 case atStart=>exact⟨0,rfl,by omega,H0.out⟩
 case round=>
  obtain⟨k,rfl,hk,HK⟩:=hrel;clear hg0;have hSr:=(HI.out _ _ HK.out).2;have hn:∀q,(wr.drewN q).cell? ⟨S,0,none⟩=some (.bool (f 0)):=fun q=>by rw[cell_of_row (wr.drewN q) _ _ _ _ _ hSr,setA_at _ _ (by omega)]
  have hne:wr.cell? ⟨S,0,none⟩=some (.bool (f 0)):=hn 0;by_cases hlt:k<200
  ·have hc:wr.cell? ⟨S,k,none⟩=some (.bool (f k)):=by rw[cell_of_row _ _ _ _ _ _ hSr,setA_at _ _ hlt]
   have HST:=Lib.hid (restL_step f k hlt);have hlt':(k:Int)<200:=by omega
   clear hSr hn;by_cases hf:f k=true
   ·rw[hf] at hc;have HR:Hid (restL f k=k :: restL f (k+1)):=by rw[Hid,HST.out,if_pos hf]
    clear hf HST
    gi_wp2
    refine wide_quiet_lit (by kernel_rfl) (by kernel_rfl) ?_
    repeat (go_big_quiet_step (fail))
    refine wpQuiet_nil ?_;rintro _ ⟨nq,rfl⟩;have HKq:Hid (K (restL f k) (wr.drewN nq)):=HK0.out _ _ _ HK.out (ext_drewN (Below.refl _ _) nq);obtain⟨fn,tmps,assign,body,hy,hR⟩:=HY.out (restL f k) k (wr.drewN nq) (by rw[HR.out];rfl) HKq.out;unfold encN at hy;have hT:nxL (restL f k) k=restL f (k+1):=by rw[HR.out];rfl
    rw[hT] at hR;have HR2:=Lib.hid hR;clear hT hR HKq
    gi_wp2
    refine HR2.out.mono ?_;rintro e W' (⟨rfl,hJ'⟩|⟨rfl,hX'⟩)
    ·have HK1:=Lib.hid hJ';clear hJ' hy HR2
     gi_wp2
     go_roundw
     case rel=>exact⟨k+1,by go_num,by omega,HK1.out⟩
     case measure=>simp[intOf];omega
    ·have HX:=Lib.hid hX';clear hX' hy HR2
     gi_wp2
     exact bodyPost_ret (v:=.tuple #[]) (by simp[results,Tryz.results169,go_sem]) rfl ⟨⟨_,rfl⟩,Or.inr HX.out⟩
   ·have hf':f k=false:=by simpa using hf
    rw[hf'] at hc;have HR:Hid (restL f k=restL f (k+1)):=by rw[Hid,HST.out,if_neg hf]
    clear hf hf' HST
    gi_wp2
    refine wide_quiet_lit (by kernel_rfl) (by kernel_rfl) ?_
    repeat (go_big_quiet_step (fail))
    refine wpQuiet_nil ?_;rintro _ ⟨nq,rfl⟩;have HKq:Hid (K (restL f (k+1)) (wr.drewN nq)):=by rw[←HR.out];exact HK0.out _ _ _ HK.out (ext_drewN (Below.refl _ _) nq)
    gi_wp2
    go_roundw
    case rel=>exact⟨k+1,by go_num,by omega,HKq.out⟩
    case measure=>simp[intOf];omega
  ·obtain rfl:k=200:=by omega
   clear hSr hn
   gi_wp2
   go_end0
   exact⟨⟨_,rfl⟩,Or.inl ⟨_,restL_end f,HK.out⟩⟩
end

section
open Go.RowKit Go.Shelf
attribute [local go_sem] Oper.semAt_some wide_fn wide_depth wide_fnR wide_depthR
theorem intsN_ok(l:List Nat)(h:∀x∈l,x<1000000):∀x∈intsN l,I64 x:=by
 intro x hx
 simp only[intsN,List.mem_map] at hx
 obtain⟨k,hk,rfl⟩:=hx
 have:=h k hk
 unfold I64
 omega
theorem own_nobook{w:World}{base:Nat}{e:TypeId}{size:Nat}{v:Value}{n:Nat}{xs:List Value}(h:w.ownsRow base e size v n xs):∀(j:Nat) (o:Obj),v.ownBlock=some j→w.heap[j]? =some o→isBook o=false:=by
 intro j o hj ho
 rcases h.2 with ⟨rfl,_⟩|⟨g,cap,cur,rfl,_,hh,_⟩
 ·cases hj
 ·simp only[Value.ownBlock,Option.some.injEq] at hj;subst hj;rw[hh] at ho;cases ho;rfl
theorem grown_row{w w':World}{row:Option Nat}(hg:w.grownBy w' row){k:Nat}{o:Obj}(hk:w.heap[k]? =some o)(hne:row≠some k):w'.heap[k]? =some o:=
 (hg.block k (Array.getElem?_eq_some_iff.1 hk).1 (fun e=>hne e.symm)).trans hk
theorem grown_setCell(w:World)(b o:Nat)(u:Value):w.grownBy (w.setCell ⟨b,o,none⟩ u) (some b):=
 ⟨rfl,rfl,rfl,by simp,fun k _ hne=>Below.heap_setCell _ _ _ _ (fun e=>hne (by rw[e]))⟩
theorem Steady.ownI(D base:Nat)(v:Value)(xs:List Int):Steady D (fun W=>OwnI W base v xs):=(Steady.ownsRow _ _ _ _ _ _ _).and (Steady.pure _ _)
theorem Steady.size(D n:Nat):Steady D (fun W=>n<W.heap.size):=fun _ _ _ h hg _=>Nat.lt_of_lt_of_le h hg.size
theorem listS_lt(f:Nat→Bool):∀x∈listS f,x<200:=fun x hx=>by simp[listS] at hx;exact hx.1
theorem listS_len(f:Nat→Bool):(listS f).length≤200:=by
 have:=List.length_filter_le f (List.range 200)
 simpa[listS] using this
theorem enter_each(args:Array Value)(w:World):(callFunc 169 args).run Tryz.prog w=.ok (.enter 169 args) w:=enters_of Tryz.func169 (by kernel_rfl) rfl args w
end

section
open Go.RowKit
theorem size_set:(Tryz.prog.info? 141).map (·.size)=some 200:=by kernel_rfl
theorem zero_set:Tryz.zeroCells141=setA fun _=>false:=by kernel_rfl
def SetPost(w:World)(f:Nat→Bool)(e:Ending)(w':World):Prop:=e=.returned (.agg (setA f))∧Below w.heap.size w w'
theorem load_set{W:World}{g:Nat}{f:Nat→Bool}(hg:W.heap[g]? =some (setO f)):(loadVar 141 ⟨g,0,none⟩).run Tryz.prog W=.ok (.agg (setA f)) W:=
 run_loadVar_row (P:=Tryz.prog) W g 141 141 _ (0,0) _ hg Tryz.underlying141 rfl (by rw[setA_size];exact size_set)
theorem set_put{W:World}{g:Nat}{f:Nat→Bool}(hg:W.heap[g]? =some (setO f))(j:Nat)(hj:j<200)(b:Bool):(W.setCell ⟨g,j,none⟩ (.bool b)).heap[g]? =some (setO fun k=>if k=j then b else f k):=by
 rw[heap_setCell_same _ _ _ _ _ _ hg,setA_put _ _ hj]
theorem set_cell{W:World}{g:Nat}{f:Nat→Bool}(hg:W.heap[g]? =some (setO f))(j:Nat)(hj:j<200):W.cell? ⟨g,j,none⟩=some (.bool (f j)):=by rw[cell_of_row _ _ _ _ _ _ hg,setA_at _ _ hj]
theorem set_free{W:World}{g:Nat}{f:Nat→Bool}(hg:W.heap[g]? =some (setO f))(j:Nat):W.frozen? ⟨g,j,none⟩=false:=frozen_of_row _ _ _ _ _ hg
theorem lt_of_heap{W:World}{g:Nat}{o:Obj}(h:W.heap[g]? =some o):g<W.heap.size:=(Array.getElem?_eq_some_iff.1 h).1
theorem lessS_put(f:Nat→Bool)(b:Nat):(fun k=>if k=b then false else f k)=lessS f b:=by
 funext k
 by_cases e:k=b<;>simp[lessS,e]
theorem less_any(f:Nat→Bool)(b:Nat)(hb:b<200)(w:World):Calls Tryz.prog 96 #[.agg (setA f),.int .i64 (b:Int)] w (SetPost w (lessS f b)):=by
 go_enter Tryz.func96,Tryz.ntmps96
 go_upto_region 1 with (fail)
 obtain⟨W,hW⟩:∃W,W=(w.alloc (setO f)).alloc (.cells Tryz.zeroCells141 141):=⟨_,rfl⟩
 rw[←hW]
 have hs:W.heap[w.heap.size]? =some (setO f):=by rw[hW,Below.heap_alloc _ _ _ (by simp)];exact heap_alloc_new _ _
 have hr:W.heap[w.heap.size+1]? =some (setO fun _=>false):=by rw[hW,heap_at _ _ _ (by simp),zero_set]
 have hB:Below w.heap.size w W:=by rw[hW];exact(ext_alloc _ _).alloc (by simp) _
 have HW:=Lib.hid hW
 clear hW
 have hc:=set_cell hs b hb
 have hf:=set_free hs b
 have hs2:=set_put hs b hb false
 rw[lessS_put] at hs2
 have hr2:=(grown_row (grown_setCell W w.heap.size b (.bool false)) hr (by simp))
 have hB2:=hB.setCell (p:=⟨w.heap.size,b,none⟩) (Nat.le_refl _) (.bool false)
 have HS2:=Lib.hid hs2
 have HR2:=Lib.hid hr2
 have HB2:=Lib.hid hB2
 have hl:=lt_of_heap hs
 clear hs hr hB hs2 hr2 hB2
 go_wp2_with (first
  |(refine wpList_load_row rfl 141 _ rfl w.heap.size rfl 141 _ (0,0) _ HS2.out Tryz.underlying141 rfl (by rw[setA_size];exact size_set) ?_)
  |(refine wpList_store_row rfl 141 _ _ rfl (w.heap.size+1) (setA (lessS f b)) rfl rfl 141 _ HR2.out (by rw[setA_size];exact size_set) rfl (setA_all _) ?_))
 exact bodyPost_ret (v:=.agg (setA (lessS f b))) (by simp[results,Tryz.results96,asAddr,Act.put,load_set (setRow_heap _ _ _ _ _ _ HR2.out)]) rfl ⟨rfl,below_setRow HB2.out (by omega) _⟩
theorem ofS_put(xs:List Int)(k:Nat)(hk:k<xs.length)(h0:0≤xs.getD k 0)(h1:xs.getD k 0<200):(fun j=>if j=(xs.getD k 0).toNat then true else ofS (xs.take k) j)=ofS (xs.take (k+1)):=by
 funext j
 rw[takeS xs k 0 hk,ofS,ofS,List.contains_append]
 generalize xs.getD k 0=x at h0 h1
 by_cases e:j=x.toNat
 ·subst e;have h3:((x.toNat:Nat):Int)=x:=Int.toNat_of_nonneg h0;have h4:x.toNat<200:=by omega
  simp[h3,h4]
 ·have e2:¬(j:Int)=x:=by omega
  simp[e,e2]
theorem ofS_skip(xs:List Int)(k:Nat)(hk:k<xs.length)(h:xs.getD k 0<0∨200≤xs.getD k 0):ofS (xs.take k)=ofS (xs.take (k+1)):=by
 funext j
 rw[takeS xs k 0 hk,ofS,ofS,List.contains_append]
 generalize xs.getD k 0=x at h
 by_cases hj:j<200
 ·have e2:¬(j:Int)=x:=by omega
  simp[e2]
 ·simp[hj]
theorem store_to{W:World}{g:Nat}{f h:Nat→Bool}{j:Nat}{b:Bool}(hg:W.heap[g]? =some (setO f))(hj:j<200)(e:(fun k=>if k=j then b else f k)=h):(W.setCell ⟨g,j,none⟩ (.bool b)).heap[g]? =some (setO h):=by rw[←e];exact set_put hg j hj b
theorem of_any(a:Option Addr)(n c:Nat)(xs:List Int)(w:World)(h:Ints w a n xs):Calls Tryz.prog 60 #[.slice a n c] w (SetPost w (ofS xs)):=by
 have HL:=Lib.hid h.1
 have hn:=h.2.1
 have H:=Lib.hid h
 clear h
 go_enter Tryz.func60,Tryz.ntmps60
 go_wp2
 go_loopw [4,7] (fun _ i wr=>∃(k:Nat),k≤n∧i=.int .i64 k∧Hid (wr.heap[w.heap.size]? =some (setO (ofS (xs.take k))))∧Hid (Below w.heap.size w wr)) (fun _ i _=>n-(intOf i).toNat)
 case atStart=>exact⟨0,by omega,rfl,by rw[Hid,heap_alloc_new,zero_set];congr 3;funext j;simp[ofS],ext_alloc _ _⟩
 case round=>
  obtain⟨k,hk,rfl,HS,HB⟩:=hrel;by_cases hlt:k<n
  ·obtain⟨b,o,rfl,hc,hw1,hw2⟩:=(H.out.ext HB.out).2.2 k hlt;have hkx:k<xs.length:=by rw[HL.out];exact hlt
   by_cases h0:0≤xs.getD k 0
   ·by_cases h1:xs.getD k 0<200
    ·have hx:(xs.getD k 0).toNat<200:=by omega
     have hcell:=set_cell HS.out _ hx;have hfr:=set_free HS.out (xs.getD k 0).toNat;have HS2:=Lib.hid (store_to HS.out hx (ofS_put xs k hkx h0 h1));have hl:=lt_of_heap HS.out;generalize xs.getD k 0=x at *;generalize ofS (xs.take k) x.toNat=bb at *;go_wp2
     go_roundw
     case rel=>exact⟨k+1,by omega,by go_num,HS2,HB.out.setCell (Nat.le_refl _) _⟩
     case measure=>simp[intOf];omega
    ·have HS2:Hid (wr.heap[w.heap.size]? =some (setO (ofS (xs.take (k+1))))):=by rw[Hid,←ofS_skip xs k hkx (.inr (by omega))];exact HS.out
     generalize xs.getD k 0=x at *;go_wp2
     go_roundw
     case rel=>exact⟨k+1,by omega,by go_num,HS2,HB⟩
     case measure=>simp[intOf];omega
   ·have HS2:Hid (wr.heap[w.heap.size]? =some (setO (ofS (xs.take (k+1))))):=by rw[Hid,←ofS_skip xs k hkx (.inl (by omega))];exact HS.out
    generalize xs.getD k 0=x at *;go_wp2
    go_roundw
    case rel=>exact⟨k+1,by omega,by go_num,HS2,HB⟩
    case measure=>simp[intOf];omega
  ·have HT:Hid (xs.take k=xs):=List.take_of_length_le (by rw[HL.out];omega);have HSx:Hid (wr.heap[w.heap.size]? =some (setO (ofS xs))):=by have:=HS.out;rwa [HT.out] at this
   go_wp2_with (first
    |(refine wpList_load_row rfl 141 _ rfl w.heap.size rfl 141 _ (0,0) _ HSx.out Tryz.underlying141 rfl (by rw[setA_size];exact size_set) ?_)
    |(refine wpList_store_row rfl 141 _ _ rfl w.heap.size (setA (ofS xs)) rfl rfl 141 _ HSx.out (by rw[setA_size];exact size_set) rfl (setA_all _) ?_))
   exact bodyPost_ret (v:=.agg (setA (ofS xs))) (by simp[results,Tryz.results60,asAddr,Act.put,load_set (setRow_heap _ _ _ _ _ _ HSx.out)]) rfl ⟨rfl,below_setRow HB.out (by omega) _⟩
def NRows(w:World)(a:Option Addr)(n:Nat)(L:List (List Nat)):Prop:=
 L.length=n∧n≤1000∧∀k xs,L[k]? =some xs→∃b o ra rc,a=some ⟨b,o,none⟩∧w.cell? ⟨b,o+k,none⟩=some (.slice ra xs.length rc)∧Ints w ra xs.length (intsN xs)
theorem NRows.ext{w w':World}{a:Option Addr}{n:Nat}{L:List (List Nat)}(h:NRows w a n L)(hb:Below w.heap.size w w'):NRows w' a n L:=
 ⟨h.1,h.2.1,fun k xs hx=>by
  obtain⟨b,o,ra,rc,e,hc,hi⟩:=h.2.2 k xs hx
  exact⟨b,o,ra,rc,e,cell_ext hb hc,hi.ext hb⟩⟩
structure WalkD where
 pa:Option Addr
 pn:Nat
 pc:Nat
 ba:Option Addr
 bn:Nat
 bc:Nat
 ta:Option Addr
 tc:Nat
 fa:Option Addr
 fc:Nat
abbrev walkV(d:WalkD):Value:=.agg #[.slice d.pa d.pn d.pc,.slice d.ba d.bn d.bc,.slice d.ta d.bn d.tc,.slice d.fa d.bn d.fc]
abbrev walkO(d:WalkD):Obj:=.cells #[.slice d.pa d.pn d.pc,.slice d.ba d.bn d.bc,.slice d.ta d.bn d.tc,.slice d.fa d.bn d.fc] 133
def toRows(ts:List TermD):List (List Nat):=(List.range ts.length).map (nx ts)
def fromRows(ts:List TermD):List (List Nat):=(List.range ts.length).map (pv ts)
def WalkOK(w:World)(d:WalkD)(ts:List TermD):Prop:=ts.length=d.bn∧d.bn≤200∧NRows w d.ta d.bn (toRows ts)∧NRows w d.fa d.bn (fromRows ts)
theorem WalkOK.ext{w w':World}{d:WalkD}{ts:List TermD}(h:WalkOK w d ts)(hb:Below w.heap.size w w'):WalkOK w' d ts:=⟨h.1,h.2.1,h.2.2.1.ext hb,h.2.2.2.ext hb⟩
theorem whole_any(d:WalkD)(hd:d.bn≤200)(w:World):Calls Tryz.prog 90 #[walkV d] w (SetPost w (wholeS d.bn)):=by
 go_enter Tryz.func90,Tryz.ntmps90
 go_wp2
 go_loopw [3,8] (fun _ i wr=>∃(k:Nat),k≤d.bn∧i=.int .i64 k∧Hid (wr.heap[w.heap.size+1]? =some (setO (wholeS k)))∧Hid (Below w.heap.size w wr)) (fun _ i _=>d.bn-(intOf i).toNat)
 case atStart=>exact⟨0,by omega,rfl,by rw[Hid,heap_at _ _ _ (by simp),zero_set];rfl,(ext_alloc _ _).alloc (by simp) _⟩
 case round=>
  obtain⟨k,hk,rfl,HS,HB⟩:=hrel;by_cases hlt:k<d.bn
  ·have hcell:=set_cell HS.out k (by omega);have hfr:=set_free HS.out k;have HS2:=Lib.hid (store_to (h:=wholeS (k+1)) (b:=true) HS.out (show k<200 by omega) (by funext j;by_cases e:j=k<;>simp[wholeS,e]<;>omega));have hl:=lt_of_heap HS.out;generalize wholeS k k=bb at *;go_wp2
   go_roundw
   case rel=>exact⟨k+1,by omega,by go_num,HS2,HB.out.setCell (by simp) _⟩
   case measure=>simp[intOf];omega
  ·obtain rfl:k=d.bn:=by omega
   go_wp2_with (first
    |(refine wpList_load_row rfl 141 _ rfl (w.heap.size+1) rfl 141 _ (0,0) _ HS.out Tryz.underlying141 rfl (by rw[setA_size];exact size_set) ?_)
    |(refine wpList_store_row rfl 141 _ _ rfl (w.heap.size+1) (setA (wholeS d.bn)) rfl rfl 141 _ HS.out (by rw[setA_size];exact size_set) rfl (setA_all _) ?_))
   exact bodyPost_ret (v:=.agg (setA (wholeS d.bn))) (by simp[results,Tryz.results90,asAddr,Act.put,load_set (setRow_heap _ _ _ _ _ _ HS.out)]) rfl ⟨rfl,below_setRow HB.out (by omega) _⟩
end

section
open Go.Shelf
def lays189_ren:Go.Shelf.Ren:=⟨fun|189=>83|125=>87|257=>123|128=>132|129=>133|294=>152|295=>153|296=>154|297=>155|298=>156|299=>157|216=>158|300=>159|301=>160|328=>174|329=>162|330=>163|331=>175|332=>176|215=>41|343=>178|n=>n,fun|28=>22|3=>3|46=>172|0=>0|51=>218|53=>118|4=>4|183=>212|182=>211|131=>154|5=>5|9=>9|218=>246|222=>250|228=>262|229=>263|n=>n,fun|n=>n⟩
theorem lays189:Go.Proofs.Lays.n189 Tryz.prog lays189_ren:={
 mixed:=by kernel_rfl
 f125:=Tryz.func87.trans (congrArg some (by kernel_rfl))
 f128:=Tryz.func132.trans (congrArg some (by kernel_rfl))
 f129:=Tryz.func133.trans (congrArg some (by kernel_rfl))
 f189:=Tryz.func83.trans (congrArg some (by kernel_rfl))
 f215:=Tryz.func41.trans (congrArg some (by kernel_rfl))
 f216:=Tryz.func158.trans (congrArg some (by kernel_rfl))
 f257:=Tryz.func123.trans (congrArg some (by kernel_rfl))
 f294:=Tryz.func152.trans (congrArg some (by kernel_rfl))
 f295:=Tryz.func153.trans (congrArg some (by kernel_rfl))
 f296:=Tryz.func154.trans (congrArg some (by kernel_rfl))
 f297:=Tryz.func155.trans (congrArg some (by kernel_rfl))
 f298:=Tryz.func156.trans (congrArg some (by kernel_rfl))
 f299:=Tryz.func157.trans (congrArg some (by kernel_rfl))
 f300:=Tryz.func159.trans (congrArg some (by kernel_rfl))
 f301:=Tryz.func160.trans (congrArg some (by kernel_rfl))
 f328:=Tryz.func174.trans (congrArg some (by kernel_rfl))
 f329:=Tryz.func162.trans (congrArg some (by kernel_rfl))
 f330:=Tryz.func163.trans (congrArg some (by kernel_rfl))
 f331:=Tryz.func175.trans (congrArg some (by kernel_rfl))
 f332:=Tryz.func176.trans (congrArg some (by kernel_rfl))
 f343:=Tryz.func178.trans (congrArg some (by kernel_rfl))
 t0:=Tryz.underlying0
 a0:=Tryz.isAgg0
 z0:=Tryz.sizeOf0
 v0:=Tryz.zeroValue0
 t3:=Tryz.underlying3
 a3:=Tryz.isAgg3
 z3:=Tryz.sizeOf3
 v3:=Tryz.zeroValue3
 t4:=Tryz.underlying4
 a4:=Tryz.isAgg4
 z4:=Tryz.sizeOf4
 v4:=Tryz.zeroValue4
 t5:=Tryz.underlying5
 a5:=Tryz.isAgg5
 z5:=Tryz.sizeOf5
 v5:=Tryz.zeroValue5
 t9:=Tryz.underlying9
 a9:=Tryz.isAgg9
 z9:=Tryz.sizeOf9
 v9:=Tryz.zeroValue9
 t28:=Tryz.underlying22
 a28:=Tryz.isAgg22
 z28:=Tryz.sizeOf22
 v28:=Tryz.zeroValue22
 t46:=Tryz.underlying172
 a46:=Tryz.isAgg172
 z46:=Tryz.sizeOf172
 v46:=Tryz.zeroValue172
 t51:=Tryz.underlying218
 a51:=Tryz.isAgg218
 z51:=Tryz.sizeOf218
 v51:=Tryz.zeroValue218
 t53:=Tryz.underlying118
 a53:=Tryz.isAgg118
 z53:=Tryz.sizeOf118
 v53:=Tryz.zeroValue118
 t131:=Tryz.underlying154
 a131:=Tryz.isAgg154
 z131:=Tryz.sizeOf154
 v131:=Tryz.zeroValue154
 t182:=Tryz.underlying211
 a182:=Tryz.isAgg211
 z182:=Tryz.sizeOf211
 v182:=Tryz.zeroValue211
 t183:=Tryz.underlying212
 a183:=Tryz.isAgg212
 z183:=Tryz.sizeOf212
 v183:=Tryz.zeroValue212
 t218:=Tryz.underlying246
 a218:=Tryz.isAgg246
 z218:=Tryz.sizeOf246
 v218:=Tryz.zeroValue246
 t222:=Tryz.underlying250
 a222:=Tryz.isAgg250
 z222:=Tryz.sizeOf250
 v222:=Tryz.zeroValue250
 t228:=Tryz.underlying262
 a228:=Tryz.isAgg262
 z228:=Tryz.sizeOf262
 v228:=Tryz.zeroValue262
 t229:=Tryz.underlying263
 a229:=Tryz.isAgg263
 z229:=Tryz.sizeOf263
 v229:=Tryz.zeroValue263}
open Go.Sort Go.RowKit in
theorem slices_Sort_int(blk off cap:Nat)(zs:List Int)(w:World)(hH:Holds (Value.int .i64) w blk off zs.toArray)(hblk:blk<w.heap.size)(hsz:zs.length<4611686018427387904):
  Calls Tryz.prog 83 #[.slice (some ⟨blk,off,none⟩) zs.length cap] w fun e w'=>
   e=.returned (.tuple #[])∧∃n os,w'=grow (putRow (Value.int .i64) (Sort.ahead w n) blk off (zs.mergeSort fun x y=>decide (x≤y)).toArray) os:=Any.slices_Sort_int lays189 blk off cap zs w hH hblk hsz
def lays112_ren:Go.Shelf.Ren:=⟨fun|112=>146|n=>n,fun|28=>22|3=>3|4=>4|0=>0|n=>n,fun|n=>n⟩
theorem lays112:Go.Proofs.Lays.n112 Tryz.prog lays112_ren:={
 mixed:=by kernel_rfl
 f112:=Tryz.func146.trans (congrArg some (by kernel_rfl))
 t0:=Tryz.underlying0
 a0:=Tryz.isAgg0
 z0:=Tryz.sizeOf0
 v0:=Tryz.zeroValue0
 t3:=Tryz.underlying3
 a3:=Tryz.isAgg3
 z3:=Tryz.sizeOf3
 v3:=Tryz.zeroValue3
 t4:=Tryz.underlying4
 a4:=Tryz.isAgg4
 z4:=Tryz.sizeOf4
 v4:=Tryz.zeroValue4
 t28:=Tryz.underlying22
 a28:=Tryz.isAgg22
 z28:=Tryz.sizeOf22
 v28:=Tryz.zeroValue22}
open Go.RowKit Go.Lib Go.Sort in
theorem slices_Reverse_int(blk off cap:Nat)(zs:List Int)(w:World)(hH:Holds (Value.int .i64) w blk off zs.toArray)(hsz:zs.length≤9223372036854775807):
  Calls Tryz.prog 146 #[.slice (some ⟨blk,off,none⟩) zs.length cap] w fun e w'=>e=.returned (.tuple #[])∧∃n,w'=putRow (Value.int .i64) (Sort.ahead w n) blk off zs.reverse.toArray:=Any.slices_Reverse_int lays112 blk off cap zs w hH hsz
open Go.RowKit Go.Lib Go.Sort in
theorem slices_Reverse_int_empty(a:Option Addr)(cap:Nat)(w:World):
  Calls Tryz.prog 146 #[.slice a 0 cap] w fun e w'=>e=.returned (.tuple #[])∧w'=w:=Any.slices_Reverse_int_empty lays112 a cap w
def laysNm220_ren:Go.Shelf.Ren:=⟨fun|20=>98|n=>n,fun|22=>22|3=>3|4=>4|0=>0|n=>n,fun|n=>n⟩
theorem laysNm220:Go.Proofs.Lays2.n20 Tryz.prog laysNm220_ren:={
 mixed:=by kernel_rfl
 f20:=Tryz.func98.trans (congrArg some (by kernel_rfl))
 t0:=Tryz.underlying0
 a0:=Tryz.isAgg0
 z0:=Tryz.sizeOf0
 v0:=Tryz.zeroValue0
 t3:=Tryz.underlying3
 a3:=Tryz.isAgg3
 z3:=Tryz.sizeOf3
 v3:=Tryz.zeroValue3
 t4:=Tryz.underlying4
 a4:=Tryz.isAgg4
 z4:=Tryz.sizeOf4
 v4:=Tryz.zeroValue4
 t22:=Tryz.underlying22
 a22:=Tryz.isAgg22
 z22:=Tryz.sizeOf22
 v22:=Tryz.zeroValue22
 i3:=by kernel_rfl}
open Go.RowKit Go.Lib Go.Sort in
theorem slices_Compact_int(blk off cap:Nat)(zs:List Int)(w:World)(hH:Holds (Value.int .i64) w blk off zs.toArray)(hsz:zs.length≤9223372036854775807)(hcap:zs.length≤cap):
  Calls Tryz.prog 98 #[.slice (some ⟨blk,off,none⟩) zs.length cap] w fun e w'=>e=.returned (.slice (some ⟨blk,off,none⟩) (Lib.compact zs).length cap)∧∃q,w'=putRow (Value.int .i64) (Sort.ahead w q) blk off (Lib.compact zs++List.replicate (zs.length-(Lib.compact zs).length) 0).toArray:=Any.slices_Compact_int laysNm220 blk off cap zs w hH hsz hcap
open Go.RowKit Go.Lib Go.Sort in
theorem slices_Compact_int_empty(a:Option Addr)(cap:Nat)(w:World):
  Calls Tryz.prog 98 #[.slice a 0 cap] w fun e w'=>e=.returned (.slice a 0 cap)∧w'=w:=Any.slices_Compact_int_empty laysNm220 a cap w
open Go.RowKit Go.Sort in
theorem slices_Sort_int_none(p:Option Addr)(cap:Nat)(w:World):
  Calls Tryz.prog 83 #[.slice p 0 cap] w fun e w'=>e=.returned (.tuple #[])∧w'=w:=Any.slices_Sort_int_none lays189 p cap w
end

section
open Go.RowKit Go.Sort
theorem heap_mapBlock(w:World)(g k:Nat)(f:Array Value→Array Value):(mapBlock w g f).heap[k]? =if g=k then (w.heap[k]?).map (onCells f) else w.heap[k]?:=by
 show(w.heap.modify g (onCells f))[k]? =_
 rw[Array.getElem?_modify]
theorem grown_putRow(w:World)(g q:Nat)(ys:List Int):w.grownBy (putRow (Value.int .i64) (Sort.ahead w q) g 0 ys.toArray) (some g):=by
 refine⟨rfl,rfl,rfl,by simp[Sort.ahead],fun k _ hne=>?_⟩
 unfold putRow
 rw[heap_mapBlock,if_neg (fun e=>hne (by rw[e]))]
 rfl
theorem grown_grow{w w':World}{row:Option Nat}(h:w.grownBy w' row)(os:Array Obj):w.grownBy (grow w' os) row:=by
 refine⟨h.os,h.tape,h.output,?_,fun k hk hne=>?_⟩
 ·have:=h.size;simp[grow];omega
 ·rw[heap_grow_old w' os (Nat.lt_of_lt_of_le hk h.size)];exact h.block k hk hne
theorem own_holds{w:World}{base g n c:Nat}{xs:List Int}(h:OwnI w base (.slice (some ⟨g,0,none⟩) n c) xs):Holds (Value.int .i64) w g 0 xs.toArray:=by
 intro j hj
 have hj':j<xs.length:=by simpa using hj
 have hn:=h.cap.2.2
 obtain⟨b,o,e,hc,_⟩:=h.ints.2.2 j (by omega)
 injection e with e
 injection e with e1 e2
 subst e1 e2
 refine⟨?_,?_⟩
 ·rw[hc];simp[List.getD_eq_getElem?_getD,hj']
 ·rcases h.1.2 with ⟨hv,_⟩|⟨g',cap,cur,hv,_,hh,_⟩
  ·cases hv
  ·injection hv with e1 _ _;injection e1 with e1;injection e1 with e1 _ _;subst e1;exact frozen_of_row _ _ _ _ _ hh
theorem own_putRow{w:World}{base g n c:Nat}{xs:List Int}(h:OwnI w base (.slice (some ⟨g,0,none⟩) n c) xs)(q:Nat)(ys:List Int)(hl:ys.length=xs.length)(hy:∀y∈ys,I64 y):
  OwnI (putRow (Value.int .i64) (Sort.ahead w q) g 0 ys.toArray) base (.slice (some ⟨g,0,none⟩) n c) ys:=by
 have hn:=h.cap.2.2
 refine⟨⟨by simp[intVals],?_⟩,hy,by have:=h.2.2;omega⟩
 rcases h.1.2 with ⟨hv,_⟩|⟨g',cap,cur,hv,hb,hh,h1,h2,h3,h4⟩
 ·cases hv
 ·injection hv with e1 e2 e3;injection e1 with e1;injection e1 with e1 _ _;subst e1 e3;refine .inr ⟨g,c,putCells (Value.int .i64) 0 ys.toArray cur,by rw[hn,hl],hb,?_,by omega,h2,by simp[putCells,h3],?_⟩
  ·unfold putRow;rw[heap_mapBlock,if_pos rfl];show(w.heap[g]?).map _=_;rw[hh];rfl
  ·apply List.ext_getElem?;intro k;rw[List.getElem?_take];by_cases hk:k<ys.length
   ·have hkc:k<cur.size:=by omega
    rw[if_pos (by omega)];simp[putCells,intVals,hk,hkc]
   ·rw[if_neg (by omega),List.getElem?_eq_none (by simp[intVals];omega)]
theorem own_ahead{w:World}{base:Nat}{v:Value}{xs:List Int}(h:OwnI w base v xs)(os:Array Obj):OwnI (grow w os) base v xs:=
 h.ext ⟨rfl,rfl,rfl,by simp[grow],fun k hk=>heap_grow_old w os hk⟩
def TurnPost(w:World)(base:Nat)(v:Value)(ys:List Int)(e:Ending)(w':World):Prop:=e=.returned (.tuple #[])∧OwnI w' base v ys∧w.grownBy w' v.ownBlock
theorem grown_refl(w:World)(row:Option Nat):w.grownBy w row:=⟨rfl,rfl,rfl,Nat.le_refl _,fun _ _ _=>rfl⟩
theorem sortI_any(base:Nat)(v:Value)(xs:List Int)(w:World)(h:OwnI w base v xs):
  Calls Tryz.prog 83 #[v] w (TurnPost w base v (xs.mergeSort fun x y=>decide (x≤y))):=by
 rcases id h.1.2 with ⟨rfl,h0⟩|⟨g,cap,cur,rfl,hb,hh,_⟩
 ·have h0:xs= []:=List.eq_nil_of_length_eq_zero h0;subst h0;refine(slices_Sort_int_none none 0 w).mono ?_;rintro e w' ⟨rfl,rfl⟩;exact⟨rfl,by simpa using h,grown_refl _ _⟩
 ·refine(slices_Sort_int g 0 cap xs w (own_holds h) (Array.getElem?_eq_some_iff.1 hh).1 (by have:=h.2.2;omega)).mono ?_;rintro e w' ⟨rfl,n,os,rfl⟩;have hp:=List.mergeSort_perm xs fun x y=>decide (x≤y);refine⟨rfl,own_ahead (own_putRow h n _ (List.length_mergeSort _) (fun y hy=>h.2.1 y (hp.mem_iff.1 hy))) os,?_⟩;exact grown_grow (grown_putRow w g n _) os
theorem reverseI_any(base:Nat)(v:Value)(xs:List Int)(w:World)(h:OwnI w base v xs):
  Calls Tryz.prog 146 #[v] w (TurnPost w base v xs.reverse):=by
 rcases id h.1.2 with ⟨rfl,h0⟩|⟨g,cap,cur,rfl,hb,hh,_⟩
 ·have h0:xs= []:=List.eq_nil_of_length_eq_zero h0;subst h0;refine(slices_Reverse_int_empty none 0 w).mono ?_;rintro e w' ⟨rfl,rfl⟩;exact⟨rfl,by simpa using h,grown_refl _ _⟩
 ·refine(slices_Reverse_int g 0 cap xs w (own_holds h) (by have:=h.2.2;omega)).mono ?_;rintro e w' ⟨rfl,n,rfl⟩;exact⟨rfl,own_putRow h n _ (by simp) (fun y hy=>h.2.1 y (by simpa using hy)),grown_putRow w g n _⟩
def CompactPost(w:World)(base:Nat)(v:Value)(ys:List Int)(e:Ending)(w':World):Prop:=∃v',e=.returned v'∧OwnI w' base v' ys∧w.grownBy w' v.ownBlock
theorem compact_len(xs:List Int):(Lib.compact xs).length≤xs.length:=by
 unfold Lib.compact Lib.compactUpTo
 rw[List.length_map]
 have:=List.length_filter_le (Lib.keeps xs.toArray) (List.range xs.length)
 simpa using this
theorem compact_mem(xs:List Int):∀y∈Lib.compact xs,y∈xs:=by
 intro y hy
 unfold Lib.compact Lib.compactUpTo at hy
 rw[List.mem_map] at hy
 obtain⟨k,hk,rfl⟩:=hy
 have:=List.mem_range.1 (List.mem_filter.1 hk).1
 simp[this]
theorem ownI_trunc{w:World}{base g c n:Nat}{xs ys:List Int}(h:OwnI w base (.slice (some ⟨g,0,none⟩) n c) (xs++ys)):OwnI w base (.slice (some ⟨g,0,none⟩) xs.length c) xs:=by
 refine⟨⟨by simp[intVals],?_⟩,fun z hz=>h.2.1 z (by simp[hz]),by have:=h.2.2;simp at this;omega⟩
 rcases h.1.2 with ⟨hv,_⟩|⟨g',cap,cur,hv,hb,hh,h1,h2,h3,h4⟩
 ·cases hv
 ·injection hv with e1 e2 e3;injection e1 with e1;injection e1 with e1 _ _;subst e1 e3;refine .inr ⟨g,c,cur,rfl,hb,hh,by simp at h1;omega,h2,h3,?_⟩;have h5:(cur.toList.take ((xs++ys).length*1)).take xs.length=(intVals (xs++ys)).take xs.length:=by rw[h4]
  rw[List.take_take] at h5;simpa[intVals] using h5
theorem compactI_any(base:Nat)(v:Value)(xs:List Int)(w:World)(h:OwnI w base v xs):
  Calls Tryz.prog 98 #[v] w (CompactPost w base v (Lib.compact xs)):=by
 rcases id h.1.2 with ⟨rfl,h0⟩|⟨g,cap,cur,rfl,hb,hh,h1,_⟩
 ·have h0:xs= []:=List.eq_nil_of_length_eq_zero h0;subst h0;refine(slices_Compact_int_empty none 0 w).mono ?_;rintro e w' ⟨rfl,rfl⟩;exact⟨_,rfl,h,grown_refl _ _⟩
 ·refine(slices_Compact_int g 0 cap xs w (own_holds h) (by have:=h.2.2;omega) h1).mono ?_;rintro e w' ⟨rfl,n,rfl⟩;have hc:=compact_len xs
  have h9:=own_putRow h n (Lib.compact xs++List.replicate (xs.length-(Lib.compact xs).length) 0) (by simp;omega) (fun y hy=>by
   rcases List.mem_append.1 hy with hy|hy
   ·exact h.2.1 y (compact_mem xs y hy)
   ·have:=(List.mem_replicate.1 hy).2;subst this
    unfold I64;omega)
  exact⟨_,rfl,ownI_trunc h9,grown_putRow w g n _⟩
end

section
def wd(S k:Nat):Nat:=(S >>> (64*k))%2^64
theorem wd_lt(S k:Nat):wd S k<18446744073709551616:=Nat.mod_lt _ (by decide)
theorem wd_bit(S k j:Nat):(wd S k).testBit j=(decide (j<64)&&S.testBit (64*k+j)):=by
 rw[wd,Nat.testBit_mod_two_pow,Nat.testBit_shiftRight]
def insN(S n:Nat):Nat:=S|||2^n
def delN(S n:Nat):Nat:=S ^^^ (S&&&2^n)
theorem ins_bit(S n j:Nat):(insN S n).testBit j=(S.testBit j||decide (n=j)):=by
 rw[insN,Nat.testBit_or,Nat.testBit_two_pow]
theorem del_bit(S n j:Nat):(delN S n).testBit j=(S.testBit j&& !decide (n=j)):=by
 rw[delN,Nat.testBit_xor,Nat.testBit_and,Nat.testBit_two_pow]
 cases S.testBit j<;>cases decide (n=j)<;>rfl
theorem wd_ins(S n:Nat):wd (insN S n) (n/64)=wd S (n/64)|||2^(n%64):=by
 apply Nat.eq_of_testBit_eq
 intro j
 rw[wd_bit,ins_bit,Nat.testBit_or,wd_bit,Nat.testBit_two_pow]
 by_cases hj:j<64
 ·have:(n=64*(n/64)+j)↔n%64=j:=by omega
  simp[hj,this]
 ·have:¬n%64=j:=by omega
  simp[hj,this]
theorem wd_ins_ne{S n k:Nat}(h:k≠n/64):wd (insN S n) k=wd S k:=by
 apply Nat.eq_of_testBit_eq
 intro j
 rw[wd_bit,ins_bit,wd_bit]
 by_cases hj:j<64
 ·have:¬n=64*k+j:=by omega
  simp[this]
 ·simp[hj]
theorem wd_del(S n:Nat):wd (delN S n) (n/64)=wd S (n/64) ^^^ (wd S (n/64)&&&2^(n%64)):=by
 apply Nat.eq_of_testBit_eq
 intro j
 rw[wd_bit,del_bit,Nat.testBit_xor,Nat.testBit_and,wd_bit,Nat.testBit_two_pow]
 by_cases hj:j<64
 ·have:(n=64*(n/64)+j)↔n%64=j:=by omega
  simp only[hj,decide_true,Bool.true_and,this];cases S.testBit (64*(n/64)+j)<;>cases decide (n%64=j)<;>rfl
 ·simp[hj]
theorem wd_del_ne{S n k:Nat}(h:k≠n/64):wd (delN S n) k=wd S k:=by
 apply Nat.eq_of_testBit_eq
 intro j
 rw[wd_bit,del_bit,wd_bit]
 by_cases hj:j<64
 ·have:¬n=64*k+j:=by omega
  simp[this]
 ·simp[hj]
theorem wd_or(S T k:Nat):wd (S|||T) k=wd S k|||wd T k:=by
 apply Nat.eq_of_testBit_eq
 intro j
 rw[wd_bit,Nat.testBit_or,Nat.testBit_or,wd_bit,wd_bit]
 cases decide (j<64)<;>simp
theorem bits_andNot_u64_nat(a b:Nat)(ha:a<18446744073709551616)(hb:b<18446744073709551616):bits .andNot .u64 (a:Int) (b:Int)=((a ^^^ (a&&&b):Nat):Int):=by
 have h1:(BitVec.ofInt 64 (a:Int)).toNat=a:=by
  rw[BitVec.ofInt_natCast,BitVec.toNat_ofNat];exact Nat.mod_eq_of_lt (by omega)
 have h2:(BitVec.ofInt 64 (b:Int)).toNat=b:=by
  rw[BitVec.ofInt_natCast,BitVec.toNat_ofNat];exact Nat.mod_eq_of_lt (by omega)
 have h3:(BitVec.ofInt 64 (a:Int)&&& ~~~BitVec.ofInt 64 (b:Int)).toNat=a ^^^ (a&&&b):=by
  apply Nat.eq_of_testBit_eq;intro j;have e1:(BitVec.ofInt 64 (a:Int)).getLsbD j=a.testBit j:=by rw[←BitVec.testBit_toNat,h1]
  have e2:(BitVec.ofInt 64 (b:Int)).getLsbD j=b.testBit j:=by rw[←BitVec.testBit_toNat,h2]
  rw[BitVec.testBit_toNat,BitVec.getLsbD_and,BitVec.getLsbD_not,e1,e2,Nat.testBit_xor,Nat.testBit_and];by_cases hj:j<64
  ·simp[hj];cases a.testBit j<;>cases b.testBit j<;>rfl
  ·have ha2:a.testBit j=false:=Nat.testBit_lt_two_pow (Nat.lt_of_lt_of_le (show a<2^64 from ha) (Nat.pow_le_pow_right (by decide) (by omega)));simp[hj,ha2]
 show IntKind.u64.wrap ((BitVec.ofInt 64 (a:Int)&&& ~~~BitVec.ofInt 64 (b:Int)).toNat:Int)=_
 have h4:a ^^^ (a&&&b)<2^64:=Nat.xor_lt_two_pow ha (Nat.and_lt_two_pow _ hb)
 rw[h3,IntKind.wrap_u64]
 omega
def bitsL(n S:Nat):List Nat:=(List.range n).filter S.testBit
theorem filter_least(n:Nat)(p q:Nat→Bool)(c:Nat)(hc:c<n)(hp:p c=true)(hl:∀j,j<c→p j=false)(hq:∀j,q j=(p j&& !decide (j=c))):(List.range n).filter p=c :: (List.range n).filter q:=by
 obtain⟨k,rfl⟩:∃k,n=c+(k+1):=⟨n-c-1,by omega⟩
 have e1:(List.range c).filter p= []:=List.filter_eq_nil_iff.2 fun j hj=>by rw[hl j (List.mem_range.1 hj)];simp
 have e2:(List.range c).filter q= []:=List.filter_eq_nil_iff.2 fun j hj=>by rw[hq,hl j (List.mem_range.1 hj)];simp
 rw[List.range_add,List.filter_append,List.filter_append,e1,e2,List.nil_append,List.nil_append,List.range_succ_eq_map,List.map_cons,List.filter_cons,List.filter_cons,Nat.add_zero,if_pos hp,if_neg (by rw[hq];simp)]
 congr 1
 apply List.filter_congr
 intro j hj
 simp only[List.map_map,List.mem_map,List.mem_range,Function.comp] at hj
 obtain⟨i,_,rfl⟩:=hj
 rw[hq]
 have:¬c+(i+1)=c:=by omega
 simp[this]
theorem low_bits(x:Nat)(h0:x≠0)(hx:x<2^64):x.testBit (Lib.ctz 64 x)=true∧Lib.ctz 64 x<64∧(∀j,j<Lib.ctz 64 x→x.testBit j=false)∧∀j,(x&&&(x-1)).testBit j=(x.testBit j&& !decide (j=Lib.ctz 64 x)):=by
 obtain⟨m,hm,hlt⟩:=Lib.ctzFrom_spec 64 x (by omega) hx
 have e:Lib.ctz 64 x=Lib.ctzFrom 64 x:=by rw[Lib.ctz,if_neg h0]
 rw[e]
 generalize Lib.ctzFrom 64 x=c at hm hlt
 have b1:∀j,x.testBit j=(decide (j≥c)&&(2*m+1).testBit (j-c)):=fun j=>by rw[hm,Nat.testBit_two_pow_mul]
 have h2:x-1=2^c*(2*m)+(2^c-1):=by
  have:=Nat.two_pow_pos c;rw[hm,Nat.mul_add,Nat.mul_one];omega
 have b2:∀j,(x-1).testBit j=if j<c then (2^c-1).testBit j else (2*m).testBit (j-c):=fun j=>by rw[h2,Nat.testBit_two_pow_mul_add _ (by have:=Nat.two_pow_pos c;omega)]
 refine⟨?_,hlt,fun j hj=>?_,fun j=>?_⟩
 ·rw[b1];simp
 ·rw[b1];simp;omega
 ·rw[Nat.testBit_and,b1,b2];by_cases hj:j<c
  ·have:¬c≤j:=by omega
   simp[this]
  ·rw[if_neg hj];by_cases hjc:j=c
   ·subst hjc;simp
   ·obtain⟨i,hi⟩:∃i,j-c=i+1:=⟨j-c-1,by omega⟩
    rw[hi,Nat.testBit_succ,Nat.testBit_succ,show(2*m+1)/2=m by omega,show 2*m/2=m by omega];simp[hjc]
theorem bits_step(x:Nat)(h0:x≠0)(hx:x<2^64):bitsL 64 x=Lib.ctz 64 x :: bitsL 64 (x&&&(x-1)):=by
 obtain⟨h1,h2,h3,h4⟩:=low_bits x h0 hx
 exact filter_least 64 x.testBit (x&&&(x-1)).testBit _ h2 h1 h3 h4
theorem bits_zero(n:Nat):bitsL n 0= []:=List.filter_eq_nil_iff.2 fun j _=>by simp
theorem bits_mem{n S v:Nat}:v∈bitsL n S↔v<n∧S.testBit v=true:=by simp[bitsL]
theorem bits_words(S:Nat):∀k,bitsL (64*k) S=(List.range k).flatMap fun i=>(bitsL 64 (wd S i)).map fun j=>64*i+j
 |0=>rfl
 |k+1=>by
  rw[List.range_succ,List.flatMap_append,←bits_words S k,Nat.mul_succ];unfold bitsL;rw[List.range_add,List.filter_append]
  congr 1
  rw[List.flatMap_cons,List.flatMap_nil,List.append_nil,List.filter_map]
  congr 1
  apply List.filter_congr;intro j hj;rw[wd_bit];simp[List.mem_range.1 hj]
theorem set_ext{S T n:Nat}(hS:S<2^(64*n))(hT:T<2^(64*n))(h:∀k,k<n→wd S k=wd T k):S=T:=by
 apply Nat.eq_of_testBit_eq
 intro j
 by_cases hj:j<64*n
 ·have h1:=h (j/64) (by omega);have h2:(wd S (j/64)).testBit (j%64)=(wd T (j/64)).testBit (j%64):=by rw[h1]
  rw[wd_bit,wd_bit,show 64*(j/64)+j%64=j by omega] at h2;have:j%64<64:=by omega
  simpa[this] using h2
 ·have hp:2^(64*n)≤2^j:=Nat.pow_le_pow_right (by decide) (by omega);rw[Nat.testBit_lt_two_pow (Nat.lt_of_lt_of_le hS hp),Nat.testBit_lt_two_pow (Nat.lt_of_lt_of_le hT hp)]
theorem set_ext16{S T:Nat}(hS:S<2^1024)(hT:T<2^1024)(h:∀k,k<16→wd S k=wd T k):S=T:=by
 rw[show(1024:Nat)=64*16 from rfl] at hS hT
 exact set_ext (n:=16) hS hT h
theorem ins_lt{S v n:Nat}(hS:S<2^n)(hv:v<n):insN S v<2^n:=Nat.or_lt_two_pow hS (Nat.pow_lt_pow_right (by decide) hv)
theorem del_lt{S v n:Nat}(hS:S<2^n):delN S v<2^n:=Nat.xor_lt_two_pow hS (Nat.lt_of_le_of_lt Nat.and_le_left hS)
end

section
open Go.RowKit
def arrN(n:Nat)(f:Nat→Value):Array Value:=((List.range n).map f).toArray
theorem arr_size(n:Nat)(f:Nat→Value):(arrN n f).size=n:=by simp[arrN]
theorem arr_at(n:Nat)(f:Nat→Value)(j:Nat)(h:j<n):(arrN n f)[j]? =some (f j):=by simp[arrN,h]
theorem arr_ext{n:Nat}{f g:Nat→Value}(h:∀k,k<n→f k=g k):arrN n f=arrN n g:=by
 unfold arrN
 congr 1
 exact List.map_congr_left fun k hk=>h k (List.mem_range.1 hk)
theorem arr_put{n:Nat}{f g:Nat→Value}{j:Nat}{v:Value}(hj:g j=v)(hg:∀k,k<n→k≠j→g k=f k):(arrN n f).setIfInBounds j v=arrN n g:=by
 apply Array.ext_getElem?
 intro k
 by_cases hk:k<n
 ·rw[Array.getElem?_setIfInBounds,arr_at n f k hk,arr_at n g k hk];by_cases e:j=k
  ·subst e;simp[arr_size,hk,hj]
  ·rw[if_neg e,hg k hk (fun x=>e x.symm)]
 ·rw[Array.getElem?_eq_none (by simp[arr_size];omega),Array.getElem?_eq_none (by simp[arr_size];omega)]
theorem arr_all{n:Nat}{f:Nat→Value}(h:∀k,(f k).oneCell'=true):(arrN n f).all (·.oneCell')=true:=by
 rw[Array.all_eq_true_iff_forall_mem]
 intro v hv
 simp[arrN] at hv
 obtain⟨j,_,rfl⟩:=hv
 exact h j
def setW(S:Nat):Array Value:=arrN 16 fun k=>.int .u64 (wd S k:Nat)
theorem setW_size(S:Nat):(setW S).size=16:=arr_size _ _
theorem setW_at(S:Nat)(k:Nat)(h:k<16):(setW S)[k]? =some (.int .u64 (wd S k:Nat)):=arr_at _ _ _ h
theorem setW_all(S:Nat):(setW S).all (·.oneCell')=true:=arr_all fun _=>rfl
theorem setW_ins(S n:Nat):(setW S).setIfInBounds (n/64) (.int .u64 ((wd S (n/64)|||2^(n%64):Nat):Int))=setW (insN S n):=
 arr_put (by rw[wd_ins]) fun k _ hk=>by rw[wd_ins_ne hk]
theorem setW_del(S n:Nat):(setW S).setIfInBounds (n/64) (.int .u64 ((wd S (n/64) ^^^ (wd S (n/64)&&&2^(n%64)):Nat):Int))=setW (delN S n):=
 arr_put (by rw[wd_del]) fun k _ hk=>by rw[wd_del_ne hk]
def orK(S T k:Nat)(j:Nat):Value:=if j<k then .int .u64 ((wd S j|||wd T j:Nat):Int) else .int .u64 (wd S j:Nat)
theorem or_zero(S T:Nat):arrN 16 (orK S T 0)=setW S:=arr_ext fun k _=>by simp[orK]
theorem or_all(S T:Nat):arrN 16 (orK S T 16)=setW (S|||T):=arr_ext fun k hk=>by rw[orK,if_pos hk,wd_or]
theorem or_put(S T k:Nat):(arrN 16 (orK S T k)).setIfInBounds k (.int .u64 ((wd S k|||wd T k:Nat):Int))=arrN 16 (orK S T (k+1)):=
 arr_put (by rw[orK,if_pos (by omega)]) fun j _ hj=>by
  unfold orK;by_cases h:j<k
  ·rw[if_pos h,if_pos (by omega)]
  ·rw[if_neg h,if_neg (by omega)]
def setV(f:Nat→Bool):Array Value:=arrN 201 fun k=>.bool (f k)
theorem setV_size(f:Nat→Bool):(setV f).size=201:=arr_size _ _
theorem setV_at(f:Nat→Bool)(k:Nat)(h:k<201):(setV f)[k]? =some (.bool (f k)):=arr_at _ _ _ h
theorem setV_all(f:Nat→Bool):(setV f).all (·.oneCell')=true:=arr_all fun _=>rfl
theorem setV_put(f:Nat→Bool)(j:Nat)(b:Bool):(setV f).setIfInBounds j (.bool b)=setV fun k=>if k=j then b else f k:=
 arr_put (by simp) fun k _ hk=>by simp[hk]
theorem setV_ext{f g:Nat→Bool}(h:∀k,k<201→f k=g k):setV f=setV g:=arr_ext fun k hk=>by rw[h k hk]
end

section
open Go.RowKit
theorem size_bset:(Tryz.prog.info? 120).map (·.size)=some 16:=by kernel_rfl
theorem zero_bset:(#[.int .u64 0,.int .u64 0,.int .u64 0,.int .u64 0,.int .u64 0,.int .u64 0,.int .u64 0,.int .u64 0,.int .u64 0,.int .u64 0,.int .u64 0,.int .u64 0,.int .u64 0,.int .u64 0,.int .u64 0,.int .u64 0]:Array Value)=setW 0:=by kernel_rfl
abbrev bsO(S:Nat):Obj:=.cells (setW S) 120
theorem load_bset{W:World}{g:Nat}{S:Nat}(hg:W.heap[g]? =some (bsO S)):(loadVar 120 ⟨g,0,none⟩).run Tryz.prog W=.ok (.agg (setW S)) W:=
 run_loadVar_row (P:=Tryz.prog) W g 120 120 _ (0,0) _ hg Tryz.underlying120 rfl (by rw[setW_size];exact size_bset)
theorem bset_cell{W:World}{g:Nat}{S:Nat}(hg:W.heap[g]? =some (bsO S))(k:Nat)(hk:k<16):W.cell? ⟨g,k,none⟩=some (.int .u64 (wd S k:Nat)):=by rw[cell_of_row _ _ _ _ _ _ hg,setW_at _ _ hk]
def addN(S:Nat)(v:Int):Nat:=if 0≤v∧v<1024 then insN S v.toNat else S
def withN(S:Nat)(l:List Int):Nat:=l.foldl addN S
def subN(S:Nat)(v:Int):Nat:=if 0≤v∧v<1024 then delN S v.toNat else S
def withoutN(S:Nat)(l:List Int):Nat:=l.foldl subN S
theorem addN_lt{S:Nat}{v:Int}(hS:S<2^1024):addN S v<2^1024:=by
 unfold addN
 split
 ·exact ins_lt (n:=1024) hS (by omega)
 ·exact hS
theorem withN_lt(l:List Int):∀{S:Nat},S<2^1024→withN S l<2^1024:=by
 induction l with
 |nil=>exact fun h=>h
 |cons v l ih=>exact fun h=>ih (addN_lt h)
theorem addN_bit(S:Nat)(v:Int)(j:Nat)(hj:j<1024):(addN S v).testBit j=(S.testBit j||decide (v=(j:Int))):=by
 unfold addN
 split
 ·rw[ins_bit]
  congr 1
  rw[decide_eq_decide];omega
 ·have:¬v=(j:Int):=by omega
  simp[this]
theorem withN_bit(l:List Int)(j:Nat)(hj:j<1024):∀S,(withN S l).testBit j=(S.testBit j||decide ((j:Int)∈l)):=by
 induction l with
 |nil=>intro S;simp[withN]
 |cons v l ih=>
  intro S;show(withN (addN S v) l).testBit j=_;rw[ih,addN_bit S v j hj];by_cases h:v=(j:Int)
  ·simp[h]
  ·have h2:¬(j:Int)=v:=fun e=>h e.symm;simp[h,h2]
theorem with_take(S:Nat)(xs:List Int)(k:Nat)(h:k<xs.length):withN S (xs.take (k+1))=addN (withN S (xs.take k)) (xs.getD k 0):=by
 rw[takeS xs k 0 h,withN,List.foldl_append]
 rfl
theorem without_take(S:Nat)(xs:List Int)(k:Nat)(h:k<xs.length):withoutN S (xs.take (k+1))=subN (withoutN S (xs.take k)) (xs.getD k 0):=by
 rw[takeS xs k 0 h,withoutN,List.foldl_append]
 rfl
theorem subN_lt{S:Nat}{v:Int}(hS:S<2^1024):subN S v<2^1024:=by
 unfold subN
 split
 ·exact del_lt (n:=1024) hS
 ·exact hS
theorem subN_bit(S:Nat)(v:Int)(j:Nat)(hj:j<1024):(subN S v).testBit j=(S.testBit j&& !decide (v=(j:Int))):=by
 unfold subN
 split
 ·rw[del_bit]
  congr 2
  rw[decide_eq_decide];omega
 ·have:¬v=(j:Int):=by omega
  simp[this]
def BSPost(w:World)(S:Nat)(e:Ending)(w':World):Prop:=e=.returned (.agg (setW S))∧Below w.heap.size w w'
theorem wrap_small(n:Nat)(h:n<1024):IntKind.u64.wrap (n:Int)=(n:Int):=by rw[IntKind.wrap_u64];omega
theorem wrap_odd(v:Int)(h:I64 v)(ho:¬(0≤v∧v<1024)):¬IntKind.u64.wrap v<1024:=by
 rw[IntKind.wrap_u64]
 have h1:=h.1
 have h2:=h.2
 omega
theorem and63(n:Nat)(h:n<1024):bits .and .i64 (n:Int) 63=((n%64:Nat):Int):=by
 have:=bits_mask .i64 62 (by decide) (fun n h0 h1=>IntWalk.i64_in n (by omega)) 6 (by decide) (n:Int) (by omega) (by omega)
 simpa using this
theorem shl1(r:Nat)(h:r<64):IntKind.u64.wrap (2^r)=((2^r:Nat):Int):=by
 have hp:(2:Nat)^r<2^64:=Nat.pow_lt_pow_right (by decide) h
 have e:(2:Int)^r=((2^r:Nat):Int):=by simp
 rw[e,IntKind.wrap_u64]
 generalize 2^r=q at hp⊢
 omega
theorem bWith_any(S:Nat)(a:Option Addr)(n c:Nat)(xs:List Int)(w:World)(h:Ints w a n xs):Calls Tryz.prog 78 #[.agg (setW S),.slice a n c] w (BSPost w (withN S xs)):=by
 have HL:=Lib.hid h.1
 have hn:=h.2.1
 have H:=Lib.hid h
 clear h
 go_enter Tryz.func78,Tryz.ntmps78
 go_upto_region 1 with (fail)
 obtain⟨W,hW⟩:∃W,W=(w.alloc (bsO S)).alloc (bsO 0):=⟨_,rfl⟩
 rw[zero_bset,←hW]
 have hs:W.heap[w.heap.size]? =some (bsO S):=by rw[hW,Below.heap_alloc _ _ _ (by simp)];exact heap_alloc_new _ _
 have hr:W.heap[w.heap.size+1]? =some (bsO 0):=by
  rw[hW];have:=heap_alloc_new (w.alloc (bsO S)) (bsO 0);simpa using this
 have hB:Below w.heap.size w W:=by rw[hW];exact(((Below.refl _ w).alloc (Nat.le_refl _) _).alloc (by simp) _)
 have HS:=Lib.hid hs
 have HR:=Lib.hid hr
 have HB:=Lib.hid hB
 clear hW hs hr hB
 go_wp2
 go_loopw [6,9] (fun _ i wr=>∃(k:Nat),k≤n∧i=.int .i64 k∧Hid (wr.heap[w.heap.size]? =some (bsO (withN S (xs.take k))))∧Hid (wr.heap[w.heap.size+1]? =some (bsO 0))∧Hid (Below w.heap.size w wr)) (fun _ i _=>n-(intOf i).toNat)
 case atStart=>exact⟨0,by omega,rfl,HS.out,HR.out,HB.out⟩
 case round=>
  obtain⟨k,hk,rfl,HS,HR,HB⟩:=hrel;by_cases hlt:k<n
  ·obtain⟨b,o,rfl,hc,hw1,hw2⟩:=(H.out.ext HB.out).2.2 k hlt;have hkx:k<xs.length:=by rw[HL.out];exact hlt
   have HT:=Lib.hid (with_take S xs k hkx);generalize xs.getD k 0=v at *;generalize withN S (xs.take k)=T at *;by_cases hv:0≤v∧v<1024
   ·obtain⟨m,rfl⟩:∃m:Nat,v=(m:Int):=⟨v.toNat,by omega⟩
    have hm:m<1024:=by omega
    have HE:Hid (withN S (xs.take (k+1))=insN T m):=by rw[Hid,HT.out,addN,if_pos hv];rfl
    have e1:=wrap_small m hm;have hm1:(m:Int)<1024:=by omega
    have hlt':(k:Int)<(n:Int):=by omega
    clear hv HT hw1 hw2;go_upto_region 5 with (fail)
    obtain⟨q,hq⟩:∃q,q=m/64:=⟨_,rfl⟩
    obtain⟨r,hr⟩:∃r,r=m%64:=⟨_,rfl⟩
    have hq1:q<16:=by omega
    have hr1:r<64:=by omega
    have e2:(m:Int)/64=(q:Int):=by omega
    have e3:bits .and .i64 (m:Int) 63=(r:Int):=by rw[hr];exact and63 m hm
    obtain⟨p,hp⟩:∃p:Nat,p=2^r:=⟨_,rfl⟩
    have e4:IntKind.u64.wrap (2^r)=(p:Int):=by rw[hp];exact shl1 r hr1
    have hpl:p<18446744073709551616:=by rw[hp];exact Nat.pow_lt_pow_right (by decide) hr1
    obtain⟨u,hu⟩:∃u:Nat,u=wd T q|||p:=⟨_,rfl⟩
    have e5:bits .or .u64 (wd T q:Nat) (p:Int)=(u:Int):=by rw[hu];exact bits_or_u64_nat _ _ (wd_lt _ _) hpl
    have HS2:Hid ((wr.setCell ⟨w.heap.size,q,none⟩ (.int .u64 (u:Int))).heap[w.heap.size]? =some (bsO (insN T m))):=by
     rw[Hid,heap_setCell_same _ _ _ _ _ _ HS.out,hu,hp,hq,hr,setW_ins]
    have HR2:Hid ((wr.setCell ⟨w.heap.size,q,none⟩ (.int .u64 (u:Int))).heap[w.heap.size+1]? =some (bsO 0)):=by
     rw[Hid,Below.heap_setCell _ _ _ _ (by simp)];exact HR.out
    have HB2:Hid (Below w.heap.size w (wr.setCell ⟨w.heap.size,q,none⟩ (.int .u64 (u:Int))).drew):=(HB.out.setCell (Nat.le_refl _) _).drew;have hne:Nonempty (ExtW wr):=⟨⟨wr,Below.refl _ _⟩⟩
    have g1:∀n:ExtW wr,n.val.cell? ⟨w.heap.size,q,none⟩=some (.int .u64 (wd T q:Nat)):=fun n=>ExtW.cell (bset_cell HS.out q hq1) n;have HQ:=Lib.hid hq;have HRR:=Lib.hid hr;have hq2:(q:Int)<16:=by omega
    have hr2:(r:Int)≤64:=by omega
    have cc:wr.drew.cell? ⟨w.heap.size,q,none⟩=some (.int .u64 (wd T q:Nat)):=bset_cell HS.out q hq1;have cf:wr.drew.frozen? ⟨w.heap.size,q,none⟩=false:=frozen_of_row _ _ _ _ _ HS.out;clear hq hr hp hu;refine region_mix (fun w'=>∃n':ExtW wr,w'=n'.val) [(0,9,some (9,false))] (by kernel_rfl) (by kernel_rfl) ⟨⟨_,ext_drewN (Below.refl _ _) 1⟩,rfl⟩ ?_;simp only[wpMix,List.take_succ_cons,List.take_zero,List.drop_succ_cons,List.drop_zero]
    repeat (go_big_quiet_step (fail))
    refine wpQuiet_nil ?_;refine wpOp_at rfl rfl ?_;go_simp;refine NoPanic.normal ?_;clear g1 hne cc cf e1 e2 e3 e4 e5 hpl;generalize (wr.setCell ⟨w.heap.size,q,none⟩ (.int .u64 (u:Int)))=wn at *;go_wp2
    go_roundw
    case rel=>exact⟨k+1,by omega,by go_num,by rw[Hid,HE.out];exact HS2.out,HR2,HB2⟩
    case measure=>simp[intOf];omega
   ·have HE:Hid (withN S (xs.take (k+1))=T):=by rw[Hid,HT.out,addN,if_neg hv]
    have e1:=wrap_odd v ⟨hw1,hw2⟩ hv;have hlt':(k:Int)<(n:Int):=by omega
    clear hv HT hw1 hw2;go_wp2
    go_roundw
    case rel=>exact⟨k+1,by omega,by go_num,by rw[Hid,HE.out];exact HS.out,HR,HB⟩
    case measure=>simp[intOf];omega
  ·have HT:Hid (xs.take k=xs):=List.take_of_length_le (by rw[HL.out];omega);have HSx:Hid (wr.heap[w.heap.size]? =some (bsO (withN S xs))):=by have:=HS.out;rwa [HT.out] at this
   have hlt':¬(k:Int)<(n:Int):=by omega
   go_wp2_with (first
    |(refine wpList_load_row rfl 120 _ rfl w.heap.size rfl 120 _ (0,0) _ HSx.out Tryz.underlying120 rfl (by rw[setW_size];exact size_bset) ?_)
    |(refine wpList_store_row rfl 120 _ _ rfl (w.heap.size+1) (setW (withN S xs)) rfl rfl 120 _ HR.out (by rw[setW_size];exact size_bset) rfl (setW_all _) ?_))
   exact bodyPost_ret (v:=.agg (setW (withN S xs))) (by simp[results,Tryz.results78,asAddr,Act.put,load_bset (setRow_heap _ _ _ _ _ _ HR.out)]) rfl ⟨rfl,below_setRow HB.out (by omega) _⟩
theorem bWithout_any(S:Nat)(a:Option Addr)(n c:Nat)(xs:List Int)(w:World)(h:Ints w a n xs):Calls Tryz.prog 121 #[.agg (setW S),.slice a n c] w (BSPost w (withoutN S xs)):=by
 have HL:=Lib.hid h.1
 have hn:=h.2.1
 have H:=Lib.hid h
 clear h
 go_enter Tryz.func121,Tryz.ntmps121
 go_upto_region 1 with (fail)
 obtain⟨W,hW⟩:∃W,W=(w.alloc (bsO S)).alloc (bsO 0):=⟨_,rfl⟩
 rw[zero_bset,←hW]
 have hs:W.heap[w.heap.size]? =some (bsO S):=by rw[hW,Below.heap_alloc _ _ _ (by simp)];exact heap_alloc_new _ _
 have hr:W.heap[w.heap.size+1]? =some (bsO 0):=by
  rw[hW];have:=heap_alloc_new (w.alloc (bsO S)) (bsO 0);simpa using this
 have hB:Below w.heap.size w W:=by rw[hW];exact(((Below.refl _ w).alloc (Nat.le_refl _) _).alloc (by simp) _)
 have HS:=Lib.hid hs
 have HR:=Lib.hid hr
 have HB:=Lib.hid hB
 clear hW hs hr hB
 go_wp2
 go_loopw [6,9] (fun _ i wr=>∃(k:Nat),k≤n∧i=.int .i64 k∧Hid (wr.heap[w.heap.size]? =some (bsO (withoutN S (xs.take k))))∧Hid (wr.heap[w.heap.size+1]? =some (bsO 0))∧Hid (Below w.heap.size w wr)) (fun _ i _=>n-(intOf i).toNat)
 case atStart=>exact⟨0,by omega,rfl,HS.out,HR.out,HB.out⟩
 case round=>
  obtain⟨k,hk,rfl,HS,HR,HB⟩:=hrel;by_cases hlt:k<n
  ·obtain⟨b,o,rfl,hc,hw1,hw2⟩:=(H.out.ext HB.out).2.2 k hlt;have hkx:k<xs.length:=by rw[HL.out];exact hlt
   have HT:=Lib.hid (without_take S xs k hkx);generalize xs.getD k 0=v at *;generalize withoutN S (xs.take k)=T at *;by_cases hv:0≤v∧v<1024
   ·obtain⟨m,rfl⟩:∃m:Nat,v=(m:Int):=⟨v.toNat,by omega⟩
    have hm:m<1024:=by omega
    have HE:Hid (withoutN S (xs.take (k+1))=delN T m):=by rw[Hid,HT.out,subN,if_pos hv];rfl
    have e1:=wrap_small m hm;have hm1:(m:Int)<1024:=by omega
    have hlt':(k:Int)<(n:Int):=by omega
    clear hv HT hw1 hw2;go_upto_region 5 with (fail)
    obtain⟨q,hq⟩:∃q,q=m/64:=⟨_,rfl⟩
    obtain⟨r,hr⟩:∃r,r=m%64:=⟨_,rfl⟩
    have hq1:q<16:=by omega
    have hr1:r<64:=by omega
    have e2:(m:Int)/64=(q:Int):=by omega
    have e3:bits .and .i64 (m:Int) 63=(r:Int):=by rw[hr];exact and63 m hm
    obtain⟨p,hp⟩:∃p:Nat,p=2^r:=⟨_,rfl⟩
    have e4:IntKind.u64.wrap (2^r)=(p:Int):=by rw[hp];exact shl1 r hr1
    have hpl:p<18446744073709551616:=by rw[hp];exact Nat.pow_lt_pow_right (by decide) hr1
    obtain⟨u,hu⟩:∃u:Nat,u=wd T q ^^^ (wd T q&&&p):=⟨_,rfl⟩
    have e5:bits .andNot .u64 (wd T q:Nat) (p:Int)=(u:Int):=by rw[hu];exact bits_andNot_u64_nat _ _ (wd_lt _ _) hpl
    have HS2:Hid ((wr.setCell ⟨w.heap.size,q,none⟩ (.int .u64 (u:Int))).heap[w.heap.size]? =some (bsO (delN T m))):=by
     rw[Hid,heap_setCell_same _ _ _ _ _ _ HS.out,hu,hp,hq,hr,setW_del]
    have HR2:Hid ((wr.setCell ⟨w.heap.size,q,none⟩ (.int .u64 (u:Int))).heap[w.heap.size+1]? =some (bsO 0)):=by
     rw[Hid,Below.heap_setCell _ _ _ _ (by simp)];exact HR.out
    have HB2:Hid (Below w.heap.size w (wr.setCell ⟨w.heap.size,q,none⟩ (.int .u64 (u:Int))).drew):=(HB.out.setCell (Nat.le_refl _) _).drew;have hne:Nonempty (ExtW wr):=⟨⟨wr,Below.refl _ _⟩⟩
    have g1:∀n:ExtW wr,n.val.cell? ⟨w.heap.size,q,none⟩=some (.int .u64 (wd T q:Nat)):=fun n=>ExtW.cell (bset_cell HS.out q hq1) n;have HQ:=Lib.hid hq;have HRR:=Lib.hid hr;have hq2:(q:Int)<16:=by omega
    have hr2:(r:Int)≤64:=by omega
    have cc:wr.drew.cell? ⟨w.heap.size,q,none⟩=some (.int .u64 (wd T q:Nat)):=bset_cell HS.out q hq1;have cf:wr.drew.frozen? ⟨w.heap.size,q,none⟩=false:=frozen_of_row _ _ _ _ _ HS.out;clear hq hr hp hu;refine region_mix (fun w'=>∃n':ExtW wr,w'=n'.val) [(0,9,some (9,false))] (by kernel_rfl) (by kernel_rfl) ⟨⟨_,ext_drewN (Below.refl _ _) 1⟩,rfl⟩ ?_;simp only[wpMix,List.take_succ_cons,List.take_zero,List.drop_succ_cons,List.drop_zero]
    repeat (go_big_quiet_step (fail))
    refine wpQuiet_nil ?_;refine wpOp_at rfl rfl ?_;go_simp;refine NoPanic.normal ?_;clear g1 hne cc cf e1 e2 e3 e4 e5 hpl;generalize (wr.setCell ⟨w.heap.size,q,none⟩ (.int .u64 (u:Int)))=wn at *;go_wp2
    go_roundw
    case rel=>exact⟨k+1,by omega,by go_num,by rw[Hid,HE.out];exact HS2.out,HR2,HB2⟩
    case measure=>simp[intOf];omega
   ·have HE:Hid (withoutN S (xs.take (k+1))=T):=by rw[Hid,HT.out,subN,if_neg hv]
    have e1:=wrap_odd v ⟨hw1,hw2⟩ hv;have hlt':(k:Int)<(n:Int):=by omega
    clear hv HT hw1 hw2;go_wp2
    go_roundw
    case rel=>exact⟨k+1,by omega,by go_num,by rw[Hid,HE.out];exact HS.out,HR,HB⟩
    case measure=>simp[intOf];omega
  ·have HT:Hid (xs.take k=xs):=List.take_of_length_le (by rw[HL.out];omega);have HSx:Hid (wr.heap[w.heap.size]? =some (bsO (withoutN S xs))):=by have:=HS.out;rwa [HT.out] at this
   have hlt':¬(k:Int)<(n:Int):=by omega
   go_wp2_with (first
    |(refine wpList_load_row rfl 120 _ rfl w.heap.size rfl 120 _ (0,0) _ HSx.out Tryz.underlying120 rfl (by rw[setW_size];exact size_bset) ?_)
    |(refine wpList_store_row rfl 120 _ _ rfl (w.heap.size+1) (setW (withoutN S xs)) rfl rfl 120 _ HR.out (by rw[setW_size];exact size_bset) rfl (setW_all _) ?_))
   exact bodyPost_ret (v:=.agg (setW (withoutN S xs))) (by simp[results,Tryz.results121,asAddr,Act.put,load_bset (setRow_heap _ _ _ _ _ _ HR.out)]) rfl ⟨rfl,below_setRow HB.out (by omega) _⟩
theorem bOr_any(S T:Nat)(w:World):Calls Tryz.prog 75 #[.agg (setW S),.agg (setW T)] w (BSPost w (S|||T)):=by
 go_enter Tryz.func75,Tryz.ntmps75
 go_upto_region 1 with (fail)
 obtain⟨W,hW⟩:∃W,W=((w.alloc (bsO S)).alloc (bsO T)).alloc (bsO 0):=⟨_,rfl⟩
 rw[zero_bset,←hW]
 have hs:W.heap[w.heap.size]? =some (bsO S):=by rw[hW,Below.heap_alloc _ _ _ (by simp;omega),Below.heap_alloc _ _ _ (by simp)];exact heap_alloc_new _ _
 have ht:W.heap[w.heap.size+1]? =some (bsO T):=by
  rw[hW,Below.heap_alloc _ _ _ (by simp)];have:=heap_alloc_new (w.alloc (bsO S)) (bsO T);simpa using this
 have hr:W.heap[w.heap.size+1+1]? =some (bsO 0):=by
  rw[hW];have:=heap_alloc_new ((w.alloc (bsO S)).alloc (bsO T)) (bsO 0);simpa using this
 have hB:Below w.heap.size w W:=by rw[hW];exact((((Below.refl _ w).alloc (Nat.le_refl _) _).alloc (by simp) _).alloc (by simp;omega) _)
 have HS:=Lib.hid hs
 have HT:=Lib.hid ht
 have HR:=Lib.hid hr
 have HB:=Lib.hid hB
 clear hW hs ht hr hB
 go_wp2
 go_loopw [5,6] (fun _ i wr=>∃(k:Nat),k≤16∧i=.int .i64 k∧Hid (wr.heap[w.heap.size]? =some (.cells (arrN 16 (orK S T k)) 120))∧Hid (wr.heap[w.heap.size+1]? =some (bsO T))∧Hid (wr.heap[w.heap.size+1+1]? =some (bsO 0))∧Hid (Below w.heap.size w wr)) (fun _ i _=>16-(intOf i).toNat)
 case atStart=>exact⟨0,by omega,rfl,by rw[Hid,or_zero];exact HS.out,HT.out,HR.out,HB.out⟩
 case round=>
  obtain⟨k,hk,rfl,HS,HT,HR,HB⟩:=hrel;by_cases hlt:k<16
  ·have hlt':(k:Int)<16:=by omega
   go_upto_region 4 with (fail)
   obtain⟨u,hu⟩:∃u:Nat,u=wd S k|||wd T k:=⟨_,rfl⟩
   have e5:bits .or .u64 (wd S k:Nat) (wd T k:Nat)=(u:Int):=by rw[hu];exact bits_or_u64_nat _ _ (wd_lt _ _) (wd_lt _ _)
   have hs0:wr.cell? ⟨w.heap.size,k,none⟩=some (.int .u64 (wd S k:Nat)):=by rw[cell_of_row _ _ _ _ _ _ HS.out,arr_at _ _ _ hlt,orK,if_neg (Nat.lt_irrefl k)]
   have HS2:Hid ((wr.setCell ⟨w.heap.size,k,none⟩ (.int .u64 (u:Int))).heap[w.heap.size]? =some (.cells (arrN 16 (orK S T (k+1))) 120)):=by
    rw[Hid,heap_setCell_same _ _ _ _ _ _ HS.out,hu,or_put]
   have HT2:Hid ((wr.setCell ⟨w.heap.size,k,none⟩ (.int .u64 (u:Int))).heap[w.heap.size+1]? =some (bsO T)):=by
    rw[Hid,Below.heap_setCell _ _ _ _ (by simp)];exact HT.out
   have HR2:Hid ((wr.setCell ⟨w.heap.size,k,none⟩ (.int .u64 (u:Int))).heap[w.heap.size+1+1]? =some (bsO 0)):=by
    rw[Hid,Below.heap_setCell _ _ _ _ (by simp;omega)];exact HR.out
   have HB2:Hid (Below w.heap.size w (wr.setCell ⟨w.heap.size,k,none⟩ (.int .u64 (u:Int))).drew):=(HB.out.setCell (Nat.le_refl _) _).drew;have hne:Nonempty (ExtW wr):=⟨⟨wr,Below.refl _ _⟩⟩
   have g1:∀n:ExtW wr,n.val.cell? ⟨w.heap.size,k,none⟩=some (.int .u64 (wd S k:Nat)):=fun n=>ExtW.cell hs0 n;have g2:∀n:ExtW wr,n.val.cell? ⟨w.heap.size+1,k,none⟩=some (.int .u64 (wd T k:Nat)):=fun n=>ExtW.cell (bset_cell HT.out k hlt) n;have cc:wr.drew.cell? ⟨w.heap.size,k,none⟩=some (.int .u64 (wd S k:Nat)):=hs0;have cf:wr.drew.frozen? ⟨w.heap.size,k,none⟩=false:=frozen_of_row _ _ _ _ _ HS.out;clear hu hs0;refine region_mix (fun w'=>∃n':ExtW wr,w'=n'.val) [(0,8,some (8,false))] (by kernel_rfl) (by kernel_rfl) ⟨⟨_,ext_drewN (Below.refl _ _) 1⟩,rfl⟩ ?_;simp only[wpMix,List.take_succ_cons,List.take_zero,List.drop_succ_cons,List.drop_zero]
   repeat (go_big_quiet_step (fail))
   refine wpQuiet_nil ?_;refine wpOp_at rfl rfl ?_;go_simp;refine NoPanic.normal ?_;clear g1 g2 hne cc cf e5;generalize (wr.setCell ⟨w.heap.size,k,none⟩ (.int .u64 (u:Int)))=wn at *;go_wp2
   go_roundw
   case rel=>exact⟨k+1,by omega,by go_num,HS2,HT2,HR2,HB2⟩
   case measure=>simp[intOf];omega
  ·obtain rfl:k=16:=by omega
   have HSx:Hid (wr.heap[w.heap.size]? =some (bsO (S|||T))):=by have:=HS.out;rwa [or_all] at this
   go_wp2_with (first
    |(refine wpList_load_row rfl 120 _ rfl w.heap.size rfl 120 _ (0,0) _ HSx.out Tryz.underlying120 rfl (by rw[setW_size];exact size_bset) ?_)
    |(refine wpList_store_row rfl 120 _ _ rfl (w.heap.size+1+1) (setW (S|||T)) rfl rfl 120 _ HR.out (by rw[setW_size];exact size_bset) rfl (setW_all _) ?_))
   exact bodyPost_ret (v:=.agg (setW (S|||T))) (by simp[results,Tryz.results75,asAddr,Act.put,load_bset (setRow_heap _ _ _ _ _ _ HR.out)]) rfl ⟨rfl,below_setRow HB.out (by omega) _⟩
end
end Go.Proofs.YtnmkjliioogbgaaGreatDoor
