/-
 ir.Reads,Needs;what an instruction reads,defines.
-/
import Derived.Test.YthgebcfohnlhlaaGreatDoorSA
import Derived.Test.YthgebcfohnlhlaaGreatDoorTB
import Derived.Test.YthgebcfohnlhlaaGreatDoorPA
import Derived.Test.YthgebcfohnlhlaaGreatDoorRows2
import Derived.Test.YthgebcfohnlhlaaGreatDoorSortI
import Derived.Deep.LoopGhost
namespace Go.Proofs.YthgebcfohnlhlaaGreatDoor
set_option linter.unusedSimpArgs false
set_option linter.unusedVariables false
set_option linter.unusedSectionVars false
set_option maxRecDepth 100000
set_option maxHeartbeats 40000000
section
open Go.RowKit
abbrev insO(i:InsD)(aa:Option Addr)(na ca:Nat):Obj:=.cells #[.int .i64 i.op,.int .i64 i.dst,.int .i64 i.a,.int .i64 i.b,.int .i64 i.imm,.int .i64 i.callee,.slice aa na ca,.int .i64 i.many] 57
theorem part_int0(cs:Array Value)(o:Nat)(v:Value)(w:World)(h:cs[o]? =some v):(part 3 cs o).run Tryz.prog w=.ok v w:=by
 have hu:(underlying 3).run Tryz.prog w=.ok (.int .i64) w:=run_underlying Tryz.underlying3 w
 simp[part,isAgg,hu,h]
theorem row_form{w:World}{base:Nat}{e:TypeId}{size:Nat}{v:Value}{n:Nat}{xs:List Value}(h:w.ownsRow base e size v n xs):∃a c,v=.slice a n c:=by
 rcases h.2 with ⟨rfl,h0⟩|⟨g,cap,cur,hv,_⟩
 ·rw[h0];exact⟨none,0,rfl⟩
 ·exact⟨_,_,hv⟩
def readsI(i:InsD):List Int:=if isInsB i then ([i.a,i.b].filter fun x=>x != 0)++i.args else []
def twoL(i:InsD)(k:Nat):List Int:=([i.a,i.b].take k).filter fun x=>x != 0
theorem twoL_len(i:InsD)(k:Nat):(twoL i k).length≤2:=by
 have h1:=List.length_filter_le (fun x:Int=>x != 0) ([i.a,i.b].take k)
 have h2:=List.length_take_le k [i.a,i.b]
 have h3:([i.a,i.b].take k).length≤2:=by rw[List.length_take];simp;omega
 exact Nat.le_trans h1 h3
theorem twoL_step(i:InsD)(k:Nat)(x:Int)(h: [i.a,i.b][k]? =some x):twoL i (k+1)=if x != 0 then twoL i k++ [x] else twoL i k:=by
 unfold twoL
 rw[List.take_add_one,h,List.filter_append]
 cases hx:(x != 0)<;>simp[hx]
theorem ints_news{w:World}{a:Option Addr}{n:Nat}{xs:List Int}(h:Ints w a n xs):∀j u,(xs.map (Value.int .i64))[j]? =some u→∃ad,a=some ad∧w.cell? (ad.add j)=some u:=h.news
theorem index_two(w:World)(x y:Int):(Instr.index 64 (.agg #[.int .i64 x,.int .i64 y]) (.int .i64 0)).run Tryz.prog w=.ok (.int .i64 x) w∧(Instr.index 64 (.agg #[.int .i64 x,.int .i64 y]) (.int .i64 1)).run Tryz.prog w=.ok (.int .i64 y) w:=by
 have hz:(sizeOf 3).run Tryz.prog w=.ok 1 w:=Tryz.sizeOf3 w
 have p0:(part 3 #[.int .i64 x,.int .i64 y] 0).run Tryz.prog w=.ok (.int .i64 x) w:=part_int0 _ _ _ w rfl
 have p1:(part 3 #[.int .i64 x,.int .i64 y] 1).run Tryz.prog w=.ok (.int .i64 y) w:=part_int0 _ _ _ w rfl
 constructor
 ·simp[Instr.index,asIntOf,run_underlying (w:=w) Tryz.underlying64,hz,p0,Result.andThen]
 ·simp[Instr.index,asIntOf,run_underlying (w:=w) Tryz.underlying64,hz,p1,Result.andThen]
theorem readsI_any(i:InsD)(aa:Option Addr)(na ca:Nat)(w:World)(h:Ints w aa na i.args)(h1:I64 i.a)(h2:I64 i.b)(h3:I64 i.imm)(h4:I64 i.callee)(h5:na≤1000000):
  Calls Tryz.prog 96 #[insV i aa na ca] w (IntsPost w (readsI i)):=by
 have H:=Lib.hid h
 have HL:=Lib.hid h.1
 have H1:=Lib.hid h1
 have H2:=Lib.hid h2
 have HC:=Lib.hid (fun W (hb:Below w.heap.size w W)=>isIns_any i aa na ca W (h.ext hb) h1 h2 h3 h4)
 have hix:=fun w=>(index_two w i.a i.b).1
 have hiy:=fun w=>(index_two w i.a i.b).2
 have HX:Hid (∀q∈i.args,I64 q):=fun q hq=>by
  obtain⟨k,hk,rfl⟩:=List.mem_iff_getElem.1 hq;obtain⟨_,_,_,_,hi⟩:=h.2.2 k (by rw[←h.1];exact hk);rw[List.getD_eq_getElem?_getD,List.getElem?_eq_getElem hk] at hi;exact hi
 clear h h1 h2 h3 h4
 cases hr:isInsB i with
 |false=>
  have HR:=Lib.hid hr;clear hr
  go_enter Tryz.func96,Tryz.ntmps96
  go_wp2_with (
   (go_at_call 161
    refine(HC.out _ (ext_alloc w _)).mono ?_;rintro e w1 ⟨rfl,hb1⟩;rw[HR.out];have HB1:=Lib.hid (ext_trans (ext_alloc w _) hb1)
    clear hb1))
  go_ret
  have e:readsI i= []:=by unfold readsI;rw[HR.out];rfl
  rw[e];exact⟨_,rfl,OwnI.nil _ _,HB1.out⟩
 |true=>
  have HR:=Lib.hid hr;clear hr
  go_enter Tryz.func96,Tryz.ntmps96
  go_wp2_with (
   (go_at_call 161
    refine(HC.out _ (ext_alloc w _)).mono ?_;rintro e w1 ⟨rfl,hb1⟩;rw[HR.out];have hx1:=block_ext hb1 (heap_alloc_new w (insO i aa na ca));have HX1:=Lib.hid hx1;have x2:w1.cell? ⟨w.heap.size,2,none⟩=some (.int .i64 i.a):=(by rw[cell_of_row _ _ _ _ _ _ hx1];rfl)
    have x3:w1.cell? ⟨w.heap.size,3,none⟩=some (.int .i64 i.b):=(by rw[cell_of_row _ _ _ _ _ _ hx1];rfl)
    have HB1:=Lib.hid (ext_trans (ext_alloc w _) hb1)
    clear hb1 hx1))
  have hsz1:w.heap.size<w1.heap.size:=(Array.getElem?_eq_some_iff.1 HX1.out).1;have HSZ:=Lib.hid hsz1;clear hsz1
  go_loopw [2,4,13] (fun v _ t wr=>∃k,k≤2∧t=.int .i64 (k:Nat)∧Hid (wr.ownsRow w1.heap.size 3 1 v (twoL i k).length ((twoL i k).map (Value.int .i64)))∧Hid (Below w1.heap.size w1 wr)) (fun _ _ t _=>2-(intOf t).toNat)
  case atStart=>exact⟨0,by omega,rfl,World.ownsRow_nil _ _ _ _,Below.refl _ _⟩
  case round=>
   obtain⟨k,hk,rfl,HO,HB⟩:=hrel;clear x2 x3;have hl2:=twoL_len i k;by_cases hlt:k<2
   ·obtain rfl|rfl:k=0∨k=1:=by omega
    ·by_cases hx:i.a=0
     ·have hb:(i.a != 0)=false:=by simpa using hx
      have HT:Hid (twoL i 1=twoL i 0):=by rw[Hid,twoL_step i 0 (i.a) rfl,hb];rfl
      clear hx;go_wp2
      go_roundw
      case rel=>exact⟨1,by omega,by go_num,by rw[Hid,HT.out];exact HO.out,HB⟩
      case measure=>simp[intOf]
     ·have hb:(i.a != 0)=true:=by simpa using hx
      have HT:Hid (twoL i 1=twoL i 0++ [i.a]):=by rw[Hid,twoL_step i 0 (i.a) rfl,hb];rfl
      clear hx;generalize twoL i 0=ls at *;obtain⟨av,cv,rfl⟩:=row_form HO.out
      go_wp2_with (
       (at_builtin
        refine wpList_append1 rfl wr (.tmp 18) (.tmp 20) 22 3 rfl w1.heap.size _ 1 8 Tryz.underlying22 infoI rfl (by omega) (.slice av ls.length cv) ls.length _ [.int .i64 (i.a)] rfl HO.out wr.heap.size rfl rfl rfl (by simp[Value.oneCell']) (by simp only[maxLen];omega) (by omega) HB.out.size ?_;intro g2 cap w3 hown3 hgr3 hat3;have HO3:Hid (w3.ownsRow w1.heap.size 3 1 (.slice (some ⟨g2,0,none⟩) (ls.length+1) cap) (ls++ [i.a]).length ((ls++ [i.a]).map (Value.int .i64))):=(by rw[Hid,List.map_append,List.length_append];exact hown3)
        have HB3:Hid (Below w1.heap.size w1 w3):=(HB.out.grown hgr3 HB.out.size (fun q e=>(HO.out.lt q e).1))
        clear hown3 hgr3 hat3))
      go_roundw
      case rel=>exact⟨1,by omega,by go_num,by rw[Hid,HT.out];exact HO3.out,HB3⟩
      case measure=>simp[intOf]
    ·by_cases hx:i.b=0
     ·have hb:(i.b != 0)=false:=by simpa using hx
      have HT:Hid (twoL i 2=twoL i 1):=by rw[Hid,twoL_step i 1 (i.b) rfl,hb];rfl
      clear hx;go_wp2
      go_roundw
      case rel=>exact⟨2,by omega,by go_num,by rw[Hid,HT.out];exact HO.out,HB⟩
      case measure=>simp[intOf]
     ·have hb:(i.b != 0)=true:=by simpa using hx
      have HT:Hid (twoL i 2=twoL i 1++ [i.b]):=by rw[Hid,twoL_step i 1 (i.b) rfl,hb];rfl
      clear hx;generalize twoL i 1=ls at *;obtain⟨av,cv,rfl⟩:=row_form HO.out
      go_wp2_with (
       (at_builtin
        refine wpList_append1 rfl wr (.tmp 18) (.tmp 20) 22 3 rfl w1.heap.size _ 1 8 Tryz.underlying22 infoI rfl (by omega) (.slice av ls.length cv) ls.length _ [.int .i64 (i.b)] rfl HO.out wr.heap.size rfl rfl rfl (by simp[Value.oneCell']) (by simp only[maxLen];omega) (by omega) HB.out.size ?_;intro g2 cap w3 hown3 hgr3 hat3;have HO3:Hid (w3.ownsRow w1.heap.size 3 1 (.slice (some ⟨g2,0,none⟩) (ls.length+1) cap) (ls++ [i.b]).length ((ls++ [i.b]).map (Value.int .i64))):=(by rw[Hid,List.map_append,List.length_append];exact hown3)
        have HB3:Hid (Below w1.heap.size w1 w3):=(HB.out.grown hgr3 HB.out.size (fun q e=>(HO.out.lt q e).1))
        clear hown3 hgr3 hat3))
      go_roundw
      case rel=>exact⟨2,by omega,by go_num,by rw[Hid,HT.out];exact HO3.out,HB3⟩
      case measure=>simp[intOf]
   ·obtain rfl:k=2:=by omega
    have HT:Hid (readsI i=twoL i 2++i.args):=by rw[Hid];unfold readsI;rw[HR.out,if_pos rfl];rfl
    have HI2:Hid (∀q∈twoL i 2,I64 q):=fun q hq=>by
     have:=(List.mem_filter.1 hq).1;simp at this;rcases this with rfl|rfl
     ·exact H1.out
     ·exact H2.out
    have hxr:=block_ext HB.out HX1.out;have x6:wr.cell? ⟨w.heap.size,6,none⟩=some (.slice aa na ca):=by rw[cell_of_row _ _ _ _ _ _ hxr];rfl
    have HHr:=Lib.hid (H.out.ext (ext_trans HB1.out HB.out));have hsz:=HSZ.out;clear hxr HC HX1;generalize twoL i 2=ls at *;obtain⟨av,cv,rfl⟩:=row_form HO.out
    go_wp2_with (
     (at_builtin
      refine wpList_appendS wr rfl (.tmp 23) (.tmp 25) 22 3 rfl w1.heap.size (.int .i64 0) 8 Tryz.underlying22 infoI rfl (.slice av ls.length cv) ls.length _ rfl HO.out aa na ca rfl (i.args.map (Value.int .i64)) (by rw[List.length_map,HL.out]) (ints_news HHr.out) (by intro u hu;obtain⟨q,_,rfl⟩:=List.mem_map.1 hu;rfl) (by simp only[maxLen];omega) (by omega) HB.out.size ?_;intro v3 w3 hown3 hgr3 hat3;have HO3:Hid (w3.ownsRow w1.heap.size 3 1 v3 (readsI i).length ((readsI i).map (Value.int .i64))):=(by rw[Hid,HT.out,List.map_append,List.length_append,HL.out];exact hown3)
      have HB3:Hid (Below w.heap.size w w3):=(ext_trans HB1.out (HB.out.grown hgr3 HB.out.size (fun q e=>(HO.out.lt q e).1)))
      clear hown3 hgr3 hat3))
    go_ret
    have hq:∀q∈readsI i,I64 q:=fun q hq=>by
     rw[HT.out] at hq;rcases List.mem_append.1 hq with hq|hq
     ·exact HI2.out q hq
     ·exact HX.out q hq
    have hle:(readsI i).length≤1000002:=by rw[HT.out,List.length_append,HL.out];omega
    have hoI:OwnI w3 w1.heap.size v3 (readsI i):=⟨HO3.out,hq,by omega⟩
    exact⟨v3,rfl,hoI.mono HB1.out.size,HB3.out⟩
def needsT(t:TermD):List Int:=if termB t&&t.a != 0 then [t.a] else []
theorem needsT_any(t:TermD)(w:World)(h:TermOK t):Calls Tryz.prog 98 #[termV t] w (IntsPost w (needsT t)):=by
 have HA:Hid (I64 t.a):=h.2.1
 have HT:=Lib.hid (fun W=>isTerm_any t W h)
 clear h
 cases hb:termB t with
 |false=>
  have HE:Hid (needsT t= []):=by rw[Hid,needsT,hb];rfl
  go_enter Tryz.func98,Tryz.ntmps98
  go_wp2_with (
   (go_at_call 158
    refine(HT.out _).mono ?_;rintro e w1 ⟨rfl,hb1⟩;rw[hb];have HB1:=Lib.hid (ext_trans (ext_alloc w _) hb1)
    clear hb1))
  go_ret
  rw[HE.out];exact⟨_,rfl,OwnI.nil _ _,HB1.out⟩
 |true=>
  by_cases h0:t.a=0
  ·have b0:(t.a==0)=true:=by simpa using h0
   have HE:Hid (needsT t= []):=by rw[Hid,needsT,h0];simp
   clear h0
   go_enter Tryz.func98,Tryz.ntmps98
   go_wp2_with (
    (go_at_call 158
     refine(HT.out _).mono ?_;rintro e w1 ⟨rfl,hb1⟩;rw[hb];have hx1:=block_ext hb1 (heap_alloc_new w (termO t));have x1:w1.cell? ⟨w.heap.size,1,none⟩=some (.int .i64 t.a):=(by rw[cell_of_row _ _ _ _ _ _ hx1];rfl)
     have HB1:=Lib.hid (ext_trans (ext_alloc w _) hb1)
     clear hb1 hx1))
   go_ret
   rw[HE.out];exact⟨_,rfl,OwnI.nil _ _,HB1.out⟩
  ·have b0:(t.a==0)=false:=by simpa using h0
   have HE:Hid (needsT t= [t.a]):=by rw[Hid,needsT,hb];simp[h0]
   clear h0
   go_enter Tryz.func98,Tryz.ntmps98
   go_wp2_with (
    (go_at_call 158
     refine(HT.out _).mono ?_;rintro e w1 ⟨rfl,hb1⟩;rw[hb];have hx1:=block_ext hb1 (heap_alloc_new w (termO t));have x1:w1.cell? ⟨w.heap.size,1,none⟩=some (.int .i64 t.a):=(by rw[cell_of_row _ _ _ _ _ _ hx1];rfl)
     have HB1:=Lib.hid (ext_trans (ext_alloc w _) hb1)
     clear hb1 hx1))
   go_ret
   rw[HE.out];refine⟨_,rfl,OwnI.mono (base:=w1.heap.size) ?_ HB1.out.size,ext_trans HB1.out (ext_alloc _ _)⟩;exact⟨⟨rfl,.inr ⟨w1.heap.size,1,#[.int .i64 t.a],rfl,Nat.le_refl _,heap_alloc_new _ _,Nat.le_refl _,by decide,rfl,rfl⟩⟩,fun x hx=>by rw[List.mem_singleton] at hx;subst hx;exact HA.out,by simp⟩
end

section
open Go.RowKit
theorem ownI_pop{w:World}{base:Nat}{g c:Nat}{xs:List Int}{x:Int}(h:OwnI w base (.slice (some ⟨g,0,none⟩) (xs.length+1) c) (xs++ [x])):OwnI w base (.slice (some ⟨g,0,none⟩) xs.length c) xs:=by
 refine⟨⟨by simp[intVals],?_⟩,fun z hz=>h.2.1 z (by simp[hz]),by have:=h.2.2;simp at this;omega⟩
 rcases h.1.2 with ⟨hv,_⟩|⟨g',cap,cur,hv,hb,hh,h1,h2,h3,h4⟩
 ·cases hv
 ·injection hv with e1 e2 e3;injection e1 with e1;injection e1 with e1 _ _;subst e1 e3;refine .inr ⟨g,c,cur,rfl,hb,hh,by simp at h1;omega,h2,h3,?_⟩;have h5:(cur.toList.take ((xs++ [x]).length*1)).take xs.length=(intVals (xs++ [x])).take xs.length:=by rw[h4]
  rw[List.take_take] at h5;simpa[intVals] using h5
theorem ownI_last{w:World}{base:Nat}{g c:Nat}{xs:List Int}{x:Int}(h:OwnI w base (.slice (some ⟨g,0,none⟩) (xs.length+1) c) (xs++ [x])):w.cell? ⟨g,xs.length,none⟩=some (.int .i64 x):=by
 have h1:=h.ints
 obtain⟨b,o,e,hc,_⟩:=h1.2.2 xs.length (by omega)
 injection e with e
 injection e with e1 e2
 subst e1 e2
 rw[Nat.zero_add] at hc
 rw[hc]
 simp[List.getD_eq_getElem?_getD]
def WJ(next:Nat→List Nat)(f:Nat→Bool)(b:Nat)(w:World)(st seen:List Nat)(x:Option (Nat×Nat))(v:Value)(wr:World):Prop:=
 WInv next f b st (fun y=>seen.contains y) x∧seen.Nodup∧(∀y∈seen,y<200)∧wr.heap[w.heap.size+1]? =some (setO f)∧wr.heap[w.heap.size+1+1]? =some (setO fun y=>seen.contains y)∧
  OwnI wr (w.heap.size+1+1+1) v (intsN st)∧Below w.heap.size w wr
theorem Reach.lt{next:Nat→List Nat}{inn:Nat→Bool}{b y n:Nat}(h:Reach next inn b y)(hx:∀k y,y∈next k→y<200∧(inn y=true→y<n)):y<n:=by
 cases h with
 |one h1 h2=>exact(hx _ _ h1).2 h2
 |step _ h1 h2=>exact(hx _ _ h1).2 h2
theorem walk_at(d:WalkD)(b:Nat)(f:Nat→Bool)(ra:Option Addr)(rn rc:Nat)(L:List (List Nat))(next:Nat→List Nat)(w:World)(hb:b<200)(hrn:rn≤200)(hcf:Canon f)(hf:f b=true→b<rn)
  (hL:∀k,k<rn→L[k]? =some (next k)) (hx:∀k y,y∈next k→y<200∧(f y=true→y<rn)) (hw:NRows w ra rn L):
  Calls Tryz.prog 165 #[walkV d,.int .i64 (b:Int),.agg (setA f),.slice ra rn rc] w (SetPost w (walkF next f b)):=by
 have HC:=Lib.hid hcf
 have HF:=Lib.hid hf
 have HL:=Lib.hid hL
 have HX:=Lib.hid hx
 have HW:=Lib.hid hw
 clear hcf hf hL hx hw
 go_enter Tryz.func165,Tryz.ntmps165
 go_upto_region 1 with (fail)
 obtain⟨W,hW⟩:∃W,W=((w.alloc (walkO d)).alloc (setO f)).alloc (.cells Tryz.zeroCells156 156):=⟨_,rfl⟩
 rw[←hW]
 have hs:W.heap[w.heap.size+1]? =some (setO f):=by rw[hW,Below.heap_alloc _ _ _ (by simp)];exact heap_at _ _ _ (by simp)
 have hr:W.heap[w.heap.size+1+1]? =some (setO fun _=>false):=by rw[hW,heap_at _ _ _ (by simp),zero_set]
 have hB:Below w.heap.size w W:=by rw[hW];exact((ext_alloc _ _).alloc (by simp) _).alloc (by simp;omega) _
 have hWs:W.heap.size=w.heap.size+1+1+1:=by rw[hW];simp
 have HWs:=Lib.hid hWs
 have hc:=set_cell hs b hb
 clear hW hWs
 by_cases hfb:f b=true
 ·rw[hfb] at hc;have HS:=Lib.hid hs;have HR:=Lib.hid hr;have HB:=Lib.hid hB;have HFB:=Lib.hid hfb;clear hs hr hB hfb;go_wp2
  go_loopg [9] 201 (fun gg v wr=>∃(st seen:List Nat),st.length+200≤gg+seen.length∧st.length≤seen.length+1∧Hid (WJ next f b w st seen none v wr))
  case atStart=>
   refine⟨[b],[],by simp,by simp,by simpa using WInv.start next f b,by simp,by simp,?_,?_,?_,?_⟩
   ·exact(Below.heap_alloc _ _ _ (by rw[HWs.out];omega)).trans HS.out
   ·exact(Below.heap_alloc _ _ _ (by rw[HWs.out];omega)).trans HR.out
   ·exact ownI_lit (xs:=intsN [b]) rfl _ (by rw[HWs.out];omega) (intsN_ok [b] (by simp;omega)) (by simp[intsN])
   ·exact HB.out.alloc (by rw[HWs.out];omega) _
  case round=>
   obtain⟨st,seen,hm,hm2,HJ⟩:=hrel;clear hc HS HR HB HWs;rcases List.eq_nil_or_concat st with rfl|⟨st',x,rfl⟩
   ·obtain⟨h1,h2,h3,h4,h5,h6,h7⟩:=HJ.out;obtain⟨av,cv,rfl⟩:=h6.form;have HE:Hid ((fun y=>seen.contains y)=walkF next f b):=walkF_of HC.out HFB.out h1;rw[HE.out] at h5;have HS:=Lib.hid h5;have HB:=Lib.hid h7;clear h1 h2 h3 h4 h5 h6 h7 HJ hm
    go_wp2_with (first
     |(refine wpList_load_row rfl 156 _ rfl (w.heap.size+1+1) rfl 156 _ (0,0) _ HS.out Tryz.underlying156 rfl (by rw[setA_size];exact size_set) ?_)
     |(refine wpList_store_row rfl 156 _ _ rfl (w.heap.size+1+1) (setA (walkF next f b)) rfl rfl 156 _ HS.out (by rw[setA_size];exact size_set) rfl (setA_all _) ?_))
    exact bodyPost_ret (v:=.agg (setA (walkF next f b))) (by simp[results,Tryz.results165,asAddr,Act.put,load_set (setRow_heap _ _ _ _ _ _ HS.out)]) rfl ⟨rfl,below_setRow HB.out (by omega) _⟩
   ·obtain⟨h1,h2,h3,h4,h5,h6,h7⟩:=id HJ.out;rw[List.concat_eq_append] at h1 h6 hm hm2;have hst:intsN (st'++ [x])=intsN st'++ [(x:Int)]:=by simp[intsN]
    rw[hst] at h6;obtain⟨gb,cb,hv⟩:=own_form h6.1 (by simp);have hlen':(intsN st'++ [(x:Int)]).length=st'.length+1:=by simp[intsN]
    have hlen2:(intsN st').length=st'.length:=by simp[intsN]
    rw[hlen'] at hv;subst hv;rw[←hlen2] at h6;have hpop:=ownI_pop h6;have hlast:=ownI_last h6;rw[hlen2] at hpop hlast;have hcap:=h6.cap;have hxf:f x=true:=by
     rcases h1.src x (by simp) with e|e
     ·rw[e];exact HFB.out
     ·exact(h1.sound x e).inn
    have hxr:x<rn:=by
     rcases h1.src x (by simp) with e|e
     ·rw[e];exact HF.out HFB.out
     ·exact(h1.sound x e).lt HX.out
    obtain⟨bb,oo,xa,xc,rfl,hcr0,hir⟩:=HW.out.2.2 x (next x) (HL.out x hxr);have hcr:=cell_ext h7 hcr0;have hseen:seen.length≤200:=nodup_len 200 seen h2 h3;have hstl:=hm;simp only[List.length_append,List.length_cons,List.length_nil,Nat.zero_add] at hstl hm2
    have HJ2:Hid (WJ next f b w st' seen (some (x,0)) (.slice (some ⟨gb,0,none⟩) st'.length cb) wr):=
     ⟨h1.take x st' (fun z=>by simp[or_comm]),h2,h3,h4,h5,hpop,h7⟩
    have HIR:=Lib.hid hir;have hnl:(next x).length≤17592186044416:=hir.2.1;have hcb:st'.length+1≤cb:=by have:=hcap.1;omega
    have hcb2:cb≤9223372036854775807:=hcap.2.1;have hstn:st'.length≤1000:=by omega
    clear h1 h2 h3 h4 h5 h6 h7 HJ hm hst hlen' hlen2 hpop hir hxf hcap hcr0;go_wp2;obtain⟨wo,rfl⟩:∃wo:World,wo=wr:=⟨_,rfl⟩
    go_loopg [9,12,39] (next x).length (fun g2 v2 _ j wi=>∃(j':Nat) (st2 seen2:List Nat),j=.int .i64 (j':Int)∧j'≤(next x).length∧(next x).length≤g2+j'∧st2.length+seen.length=st'.length+seen2.length∧Hid (WJ next f b w st2 seen2 (some (x,j')) v2 wi))
    case atStart=>exact⟨0,st',seen,rfl,Nat.zero_le _,Nat.le_refl _,rfl,HJ2⟩
    case round=>
     obtain⟨j',st2,seen2,rfl,hj,hg2,hcnt,HJ⟩:=hrel;clear HJ2 hlast;obtain⟨h1,h2,h3,h4,h5,h6,h7⟩:=id HJ.out;obtain⟨va,vc,rfl⟩:=h6.form;have hseen2:seen2.length≤200:=nodup_len 200 seen2 h2 h3;by_cases hjl:j'<(next x).length
     ·have hyx:(next x).getD j' 0∈next x:=by rw[List.getD_eq_getElem?_getD,List.getElem?_eq_getElem hjl];exact List.getElem_mem _
      have hy:=(HX.out x _ hyx).1;obtain⟨b3,o3,rfl,hcy,_⟩:=(HIR.out.ext h7).2.2 j' hjl;have hey:(intsN (next x)).getD j' 0=(((next x).getD j' 0:Nat):Int):=by simp[intsN,List.getD_eq_getElem?_getD,hjl]
      rw[hey] at hcy;have hcf:=set_cell h4 _ hy;have hcs:=set_cell h5 _ hy;have hfs:=set_free h5 ((next x).getD j' 0);have hlS:=lt_of_heap h5;have hjl':(j':Int)<((next x).length:Int):=by omega
      clear hey hyx;by_cases hgo:f ((next x).getD j' 0)=true∧seen2.contains ((next x).getD j' 0)=false
      ·obtain⟨hg1,hg2'⟩:=hgo;have hns:(next x).getD j' 0∉seen2:=by simpa using hg2'
       have hP:=h1.push hjl hg1 (st2++ [(next x).getD j' 0]) (fun z=>by simp[or_comm]) (fun z=>((next x).getD j' 0 :: seen2).contains z) (fun z=>by simp);rw[hg1] at hcf;simp only[hg2'] at hcs;have HP:=Lib.hid hP;have HN:=Lib.hid hns;have e1:(fun k=>if k=(next x).getD j' 0 then true else seen2.contains k)=(fun z=>((next x).getD j' 0 :: seen2).contains z):=by
        funext k
        by_cases e:k=(next x).getD j' 0
        ·simp[e]
        ·simp[e,List.contains_cons]
       have HS1:=Lib.hid (store_to (b:=true) h5 hy e1);have HF1:=Lib.hid (grown_row (grown_setCell wr (w.heap.size+1+1) ((next x).getD j' 0) (.bool true)) h4 (by simp))
       have HO1:=Lib.hid (h6.kept (grown_setCell wr (w.heap.size+1+1) ((next x).getD j' 0) (.bool true)) (by
        rcases hvb:(Value.slice va (intsN st2).length vc).ownBlock with _|kb
        ·exact .inl rfl
        ·have:=(h6.1.lt kb hvb).1;refine .inr ?_;intro e;injection e with e
         omega))
       have HB1:=Lib.hid (h7.setCell (p:=⟨w.heap.size+1+1,(next x).getD j' 0,none⟩) (by simp;omega) (.bool true));have H2:=Lib.hid h2;have H3:=Lib.hid h3;have hst2:(intsN st2).length=st2.length:=by simp[intsN]
       have hsl:st2.length≤1000:=by omega
       have hsl2:(intsN st2).length≤1000:=by omega
       clear hg1 hg2' hns hP e1 h1 h2 h3 h4 h5 h6 h7 HJ;generalize hyy:(next x).getD j' 0=y at*
       go_wp2_with (
        (at_builtin
         refine wpList_append1 rfl (wr.setCell ⟨w.heap.size+1+1,y,none⟩ (.bool true)) (.tmp 54) (.tmp 56) 22 3 rfl (w.heap.size+1+1+1) _ 1 8 Tryz.underlying22 infoI rfl (by omega) (.slice va (intsN st2).length vc) (intsN st2).length _ [.int .i64 (y:Int)] rfl HO1.out.1 wr.heap.size (by simp) rfl rfl (by simp[Value.oneCell']) (by simp only[maxLen];omega) (by omega) (by simp;omega) ?_;intro g cap w2 hown2 hg2 hat2;have HO2:=Lib.hid hown2;have HG2:=Lib.hid hg2
         clear hown2 hg2 hat2))
       have hrow:∀(k:Nat),k<w.heap.size+1+1+1→¬(Value.slice va (intsN st2).length vc).ownBlock=some k:=fun k hk e=>by
        have:=(HO1.out.1.lt k e).1;omega
       go_roundg ((next x).length-(j'+1))
       case measure=>omega
       case rel=>
        refine⟨j'+1,st2++ [y],y :: seen2,by go_num,by omega,by omega,by simp;omega,HP.out,List.nodup_cons.2 ⟨HN.out,H2.out⟩,?_,?_,?_,?_,?_⟩
        ·intro z hz;rcases List.mem_cons.1 hz with rfl|hz
         ·exact hy
         ·exact H3.out z hz
        ·exact grown_row HG2.out HF1.out (hrow _ (by omega))
        ·exact grown_row HG2.out HS1.out (hrow _ (by omega))
        ·have e2:intsN (st2++ [y])=intsN st2++ [(y:Int)]:=by simp[intsN]
         rw[e2];refine⟨?_,?_,by simp;omega⟩
         ·have e3:(intsN st2++ [(y:Int)]).length=(intsN st2).length+1:=by simp
          have e4:intVals (intsN st2++ [(y:Int)])=intVals (intsN st2)++ [.int .i64 (y:Int)]:=by simp[intVals]
          rw[e3,e4];have h9:=HO2.out;rw[hst2] at h9⊢;exact h9
         ·intro z hz;rcases List.mem_append.1 hz with h|h
          ·exact HO1.out.2.1 z h
          ·simp only[List.mem_singleton] at h;subst h;unfold I64;omega
        ·exact HB1.out.grown HG2.out (by simp;omega) (fun k e=>by have:=(HO1.out.1.lt k e).1;omega)
      ·have HJ3:Hid (WJ next f b w st2 seen2 (some (x,j'+1)) (.slice va (intsN st2).length vc) wr):=by
        refine⟨h1.skip hjl (fun hi=>?_),h2,h3,h4,h5,h6,h7⟩;cases hb2:seen2.contains ((next x).getD j' 0) with
        |true=>rfl
        |false=>exact absurd ⟨hi,hb2⟩ hgo
       have hgo':f ((next x).getD j' 0)=true→seen2.contains ((next x).getD j' 0)=true:=fun hi=>by
        cases hb2:seen2.contains ((next x).getD j' 0) with
        |true=>rfl
        |false=>exact absurd ⟨hi,hb2⟩ hgo
       clear h1 h2 h3 h4 h5 h6 h7 HJ hgo;generalize hyy:(next x).getD j' 0=y at *;cases hfy:f y with
       |true=>
        have hsy:=hgo' hfy;rw[hfy] at hcf;simp only[hsy] at hcs;clear hgo' hsy hfy;go_wp2
        go_roundg ((next x).length-(j'+1))
        case measure=>omega
        case rel=>exact⟨j'+1,st2,seen2,by go_num,by omega,by omega,by omega,HJ3⟩
       |false=>
        rw[hfy] at hcf;clear hgo' hfy;go_wp2
        go_roundg ((next x).length-(j'+1))
        case measure=>omega
        case rel=>exact⟨j'+1,st2,seen2,by go_num,by omega,by omega,by omega,HJ3⟩
     ·obtain rfl:j'=(next x).length:=by omega
      have HJ3:Hid (WJ next f b w st2 seen2 none (.slice va (intsN st2).length vc) wr):=⟨h1.fin (Nat.le_refl _),h2,h3,h4,h5,h6,h7⟩
      clear h1 h2 h3 h4 h5 h6 h7 HJ;go_wp2
      go_roundg (st2.length+200-seen2.length)
      case measure=>omega
      case rel=>exact⟨st2,seen2,by omega,by omega,HJ3⟩
 ·have hfb':f b=false:=by simpa using hfb
  rw[hfb'] at hc;have HE:Hid (walkF next f b=fun _=>false):=walkF_no hfb';have HR:=Lib.hid hr;have HB:=Lib.hid hB;clear hfb hfb' hs hr hB
  go_wp2_with (first
   |(refine wpList_load_row rfl 156 _ rfl (w.heap.size+1+1) rfl 156 _ (0,0) _ HR.out Tryz.underlying156 rfl (by rw[setA_size];exact size_set) ?_)
   |(refine wpList_store_row rfl 156 _ _ rfl (w.heap.size+1+1) (setA fun _=>false) rfl rfl 156 _ HR.out (by rw[setA_size];exact size_set) rfl (setA_all _) ?_))
  exact bodyPost_ret (v:=.agg (setA fun _=>false)) (by simp[results,Tryz.results165,asAddr,Act.put,load_set (setRow_heap _ _ _ _ _ _ HR.out)]) rfl ⟨by rw[HE.out],below_setRow HB.out (by omega) _⟩
theorem walk_any(d:WalkD)(b:Nat)(f:Nat→Bool)(ra:Option Addr)(rn rc:Nat)(L:List (List Nat))(next:Nat→List Nat)(w:World)(hb:b<200)(hrn:rn≤200)(hf:∀y,f y=true→y<rn)
  (hL:∀k,k<rn→L[k]? =some (next k)) (hx:∀k y,y∈next k→y<200) (hw:NRows w ra rn L):
  Calls Tryz.prog 165 #[walkV d,.int .i64 (b:Int),.agg (setA f),.slice ra rn rc] w (SetPost w (walkF next f b)):=
 walk_at d b f ra rn rc L next w hb hrn (fun y hy=>by have:=hf y hy;omega) (hf b) hL (fun k y hy=>⟨hx k y hy,hf y⟩) hw
end

section
open Go.RowKit
def setRange(listed:Array Bool)(i:Nat):Nat→Array Bool
 |0=>listed
 |n+1=>setRange (listed.setIfInBounds i true) (i+1) n
def okReadsB(l:List Oper):Nat→Nat→Array Bool→Bool
 |0,_,_=>true
 |n+1,i,listed=>(Region.ready .any l.toArray listed).contains i&&Region.free .any l.toArray listed i&&((l[i]?).map valOp).getD false&&okReadsB l n (i+1) (listed.setIfInBounds i true)
def closedB(l:List Oper)(listed:Array Bool):Bool:=
 (List.range l.length).all fun j=> !listed.getD j false||((l[j]?).map fun o=>o.after.all fun e=> !Region.binds .any e||listed.getD e.on false).getD true
section
variable {P:Program} {l:List Oper} {S:World→Prop} {Q:Exit→Act→World→Prop}
theorem closed_of{listed:Array Bool}(h:closedB l listed=true):Closed l listed:=by
 intro j o ho hl e he hb
 unfold closedB at h
 rw[List.all_eq_true] at h
 have hlt:j<l.length:=by
  have:=(Array.getElem?_eq_some_iff.1 ho).1;simpa using this
 have:=h j (List.mem_range.2 hlt)
 have ho':l[j]? =some o:=by simpa using ho
 simp only[hl,Bool.not_true,Bool.false_or,ho',Option.map_some,Option.getD_some] at this
 have:=(Array.all_eq_true'.1 this) e he
 simpa[hb] using this
theorem okReads_of:∀(n i:Nat) (listed:Array Bool),okReadsB l n i listed=true→okReads l n i listed=some (setRange listed i n):=by
 intro n
 induction n with
 |zero=>intro i listed _;rfl
 |succ n ih=>
  intro i listed h;simp only[okReadsB,Bool.and_eq_true] at h;obtain⟨⟨⟨h1,h2⟩,h3⟩,h4⟩:=h;simp only[okReads,setRange];rw[if_pos (by simp only[Bool.and_eq_true];exact⟨⟨h1,h2⟩,h3⟩)];exact ih _ _ h4
theorem z_start{id:Nat}{a:Act}{w:World}(S:World→Prop)(hm:P.follows .mixedOrders=true)
  (h:wpAnyZ P l (NoPanic Q) S l.length (Array.replicate l.length false) a w.drew):(Code.region id l.toArray true).wp P Q a w:=by
 refine wp_region_noPanic (wp_region_any hm ?_)
 have:=wpAny_of_Z _ _ _ _ h
 simpa using this
theorem z_reads{fuel:Nat}{listed:Array Bool}{a:Act}{w:World}(i n:Nat)(hok:(okReadsB l n i listed&&closedB l listed&&Region.noSelect l.toArray)=true)(hS:S w)
  (h:wpQuiet P l.toArray S (fun a'=>wpAnyZ P l (NoPanic Q) S fuel (setRange listed i n) a' w) ((l.drop i).take n) a):wpAnyZ P l (NoPanic Q) S (fuel+n) listed a w:=by
 simp only[Bool.and_eq_true] at hok
 exact reads_first hok.2 (fun _ _ _ hp=>hp) fuel w hS _ n i listed _ a (closed_of hok.1.2) (okReads_of n i listed hok.1.1) (fun _ a' ha'=>ha') h
theorem z_one{fuel:Nat}{listed:Array Bool}{a:Act}{w:World}(e:Nat)(hr:(Region.ready .any l.toArray listed== [e])=true)
  (h:wpOp P l.toArray (NoPanic Q) e (fun a' w'=>(aloneB l e=true∨S w')∧wpAnyZ P l (NoPanic Q) S fuel (listed.setIfInBounds e true) a' w') a w):wpAnyZ P l (NoPanic Q) S (fuel+1) listed a w:=by
 have hr:=eq_of_beq hr
 refine⟨fun h0=>?_,fun i hi=>?_⟩
 ·rw[hr] at h0;cases h0
 ·rw[hr,List.mem_singleton] at hi;subst hi;exact h
theorem z_two{fuel:Nat}{listed:Array Bool}{a:Act}{w:World}(e e':Nat)(hr:(Region.ready .any l.toArray listed== [e,e'])=true)
  (h:wpOp P l.toArray (NoPanic Q) e (fun a' w'=>(aloneB l e=true∨S w')∧wpAnyZ P l (NoPanic Q) S fuel (listed.setIfInBounds e true) a' w') a w)
  (h':wpOp P l.toArray (NoPanic Q) e' (fun a' w'=>(aloneB l e'=true∨S w')∧wpAnyZ P l (NoPanic Q) S fuel (listed.setIfInBounds e' true) a' w') a w):wpAnyZ P l (NoPanic Q) S (fuel+1) listed a w:=by
 have hr:=eq_of_beq hr
 refine⟨fun h0=>?_,fun i hi=>?_⟩
 ·rw[hr] at h0;cases h0
 ·rw[hr] at hi;rcases List.mem_cons.1 hi with rfl|hi
  ·exact h
  ·rw[List.mem_singleton] at hi;subst hi;exact h'
theorem z_done{listed:Array Bool}{a:Act}{w:World}(hr:(Region.ready .any l.toArray listed== [])=true)(h:Q .normal a w):wpAnyZ P l (NoPanic Q) S 0 listed a w:=⟨eq_of_beq hr,h⟩
end
end
end Go.Proofs.YthgebcfohnlhlaaGreatDoor
