/-
 Maps as sets:keys of whatever type can be compared,elements all alike. No program in sight.
-/
import Derived.Maps.RangeRun
import Derived.Maps.OwnSet
import Derived.Maps.RangeWalk
import Derived.Test.YtnmkjliioogbgaaGreatDoorRangeT
import Derived.Test.YtnmkjliioogbgaaGreatDoorNR
import Derived.Laws.Tables
import Derived.Laws.CopyOwn
import Derived.Test.YtnmkjliioogbgaaGreatDoorRows
import Derived.ChangeKeysEq
import Derived.WalkSpells
import Derived.Deep.Cut
import Derived.Deep.CutRange
import Derived.Deep.DeepCutAuto
namespace Go.Proofs.YtnmkjliioogbgaaGreatDoor
set_option linter.unusedSimpArgs false
set_option linter.unusedVariables false
set_option linter.unusedSectionVars false
set_option maxRecDepth 100000
set_option maxHeartbeats 40000000
section
open Go.RowKit
theorem nodup_length_le{α:Type}:∀{l l':List α},l.Nodup→(∀x∈l,x∈l')→l.length≤l'.length
 | [],l',_,_=>Nat.zero_le _
 |a :: t,l',hn,hs=>by
  obtain⟨hat,ht⟩:=List.nodup_cons.1 hn;obtain⟨s,r,rfl⟩:=List.append_of_mem (hs a (by simp));have h1:∀x∈t,x∈s++r:=fun x hx=>by
   have h2:=hs x (by simp[hx]);have hne:x≠a:=fun e=>hat (e▸hx);simp only[List.mem_append,List.mem_cons] at h2⊢;rcases h2 with h2|h2|h2
   ·exact .inl h2
   ·exact absurd h2 hne
   ·exact .inr h2
  have:=nodup_length_le ht h1;simp only[List.length_append,List.length_cons] at this⊢;omega
theorem map_inj_of_nodup{α β:Type}{g:α→β}:∀{l:List α},(l.map g).Nodup→∀{x y:α},x∈l→y∈l→g x=g y→x=y
 | [],_,_,_,hx,_,_=>by cases hx
 |a :: t,hn,x,y,hx,hy,h=>by
  obtain⟨h1,h2⟩:=List.nodup_cons.1 hn;rcases List.mem_cons.1 hx with rfl|hx'
  ·rcases List.mem_cons.1 hy with rfl|hy'
   ·rfl
   ·exact absurd (List.mem_map.2 ⟨y,hy',h.symm⟩) h1
  ·rcases List.mem_cons.1 hy with rfl|hy'
   ·exact absurd (List.mem_map.2 ⟨x,hx',h⟩) h1
   ·exact map_inj_of_nodup h2 hx' hy' h
structure KeyT{α:Type}(P:Program)(kt:TypeId)(enc:α→Value)(dec:Value→α):Prop where
 find:∀(x:α) (w:World) (l:List MapEntry),(∀e∈l,e.key=enc (dec e.key))→
  (x∉l.map (fun e=>dec e.key)∧(Instr.findKey kt (enc x) l).run P w=.ok none w)∨
  ∃j e,l[j]? =some e∧dec e.key=x∧(Instr.findKey kt (enc x) l).run P w=.ok (some (j,e.val)) w
 check:∀(em:Bool) (x:α) (w:World),(Instr.checkKey em 10000 kt (enc x)).run P w=.ok () w
 bits:∀(x:α),Instr.sameBits 10000 (enc x) (enc x)=true
 dec:∀(x:α),dec (enc x)=x
def SetM{α:Type}(enc:α→Value)(dec:Value→α)(one:Value)(w:World)(b:Nat)(L:List α):Prop:=
 ∃es clock,w.heap[b]? =some (.map es clock)∧(∀e∈es.toList,e.key=enc (dec e.key)∧e.val=one∧e.born<clock)∧L=es.toList.map (fun e=>dec e.key)∧L.Nodup∧(es.toList.map (·.born)).Nodup
section
variable {α:Type} {P:Program} {t kt et:TypeId} {enc:α→Value} {dec:Value→α} {one:Value} {w w':World} {b:Nat} {L:List α}
theorem SetM.lt(h:SetM enc dec one w b L):b<w.heap.size:=by obtain⟨es,c,hb,_⟩:=h;exact(Array.getElem?_eq_some_iff.1 hb).1
theorem SetM.nodup(h:SetM enc dec one w b L):L.Nodup:=by obtain⟨es,c,_,_,_,h,_⟩:=h;exact h
theorem SetM.made(enc:α→Value)(dec:Value→α)(one:Value)(w:World):SetM enc dec one (w.alloc (.map #[] 0)) w.heap.size []:=
 ⟨#[],0,World.alloc_heap_new w _,by intro e he;simp at he,by simp,by simp,by simp⟩
theorem SetM.of_block(h:SetM enc dec one w b L)(hb:w'.heap[b]? =w.heap[b]?):SetM enc dec one w' b L:=by
 obtain⟨es,c,h1,h2⟩:=h;exact⟨es,c,hb.trans h1,h2⟩
theorem SetM.copy(h:SetM enc dec one w b L):∃es clock,w.heap[b]? =some (.map es clock)∧SetM enc dec one (w.alloc (.map es clock)) w.heap.size L:=by
 obtain⟨es,c,h1,h2⟩:=h;exact⟨es,c,h1,es,c,World.alloc_heap_new w _,h2⟩
theorem Steady.setM(B b:Nat)(L:List α):Steady B (fun W=>SetM enc dec one W b L):=fun W W' row h hg hr=>by
 obtain⟨es,c,h1,h2⟩:=h
 exact⟨es,c,block_keep h1 rfl hg hr,h2⟩
theorem SetM.nocell(h:SetM enc dec one w b L){p:Addr}{v:Value}(hc:w.cell? p=some v):p.block≠b:=fun e=>by
 obtain⟨es,c,h1,_⟩:=h
 unfold World.cell? at hc
 rw[e,h1] at hc
 cases hc
theorem run_keyStays(x:α)(K:KeyT P kt enc dec)(w:World):(Instr.keyThatStays (enc x) (enc x)).run P w=.ok (enc x) w:=by
 simp[Instr.keyThatStays,K.bits]
theorem SetM.look [DecidableEq α](h:SetM enc dec one w b L)(K:KeyT P kt enc dec)(ht:P.underlying t=some (.map kt et)){z:Value}(hz:(zeroValue et).run P w=.ok z w)(x:α):
  (Instr.lookup t (.map (some b)) (enc x) false).run P w=.ok (if x∈L then one else z) w:=by
 obtain⟨es,c,hb,hi,rfl,_⟩:=h
 have hgo:(getObj b).run P w=.ok (.map es c) w:=by simp[getObj,Sem.run,hb]
 rcases K.find x w es.toList (fun e he=>(hi e he).1) with ⟨h1,h2⟩|⟨j,e,h1,h2,h3⟩
 ·simp[Instr.lookup,run_underlying ht,Sem.run_bind,hgo,K.check,h2,hz,Result.andThen];intro y hy hxy;exact absurd (List.mem_map.2 ⟨y,Array.mem_toList_iff.2 hy,hxy⟩) h1
 ·have hm:=List.mem_of_getElem? h1;have hx:x∈es.toList.map (fun e=>dec e.key):=List.mem_map.2 ⟨e,hm,h2⟩;rw[if_pos hx,←(hi e hm).2.1];simp[Instr.lookup,run_underlying ht,Sem.run_bind,hgo,K.check,h3,Result.andThen]
theorem SetM.put(h:SetM enc dec one w b L)(K:KeyT P kt enc dec)(ht:P.underlying t=some (.map kt et))(x:α):
  ∃o L',(Instr.mapUpdate t (.map (some b)) (enc x) one).run P w=.ok () (w.putObj b o)∧SetM enc dec one (w.putObj b o) b L'∧∀y,y∈L'↔y∈L∨y=x:=by
 have hlt:=h.lt
 obtain⟨es,c,hb,hi,rfl,hn,hbn⟩:=h
 have hgo:(getObj b).run P w=.ok (.map es c) w:=by simp[getObj,Sem.run,hb]
 have hso:∀o,(setObj b o).run P w=.ok () (w.putObj b o):=fun o=>by simp[setObj,Sem.run,hb,World.putObj]
 rcases K.find x w es.toList (fun e he=>(hi e he).1) with ⟨h1,h2⟩|⟨j,e,h1,h2,h3⟩
 ·refine⟨.map (es.push {key:=enc x,val:=one,born:=c}) (c+1),es.toList.map (fun e=>dec e.key)++ [x],?_,⟨_,_,World.putObj_heap_same hlt,?_,?_,?_,?_⟩,fun y=>by simp⟩
  ·simp[Instr.mapUpdate,run_underlying ht,Sem.run_bind,hgo,K.check,h2,hso,Result.andThen]
  ·intro e he;simp only[Array.toList_push,List.mem_append,List.mem_singleton] at he;rcases he with he|rfl
   ·obtain⟨a1,a2,a3⟩:=hi e he;exact⟨a1,a2,by omega⟩
   ·exact⟨by rw[K.dec],rfl,by simp⟩
  ·simp[K.dec]
  ·refine List.nodup_append.2 ⟨hn,by simp,fun a ha a' ha' e=>?_⟩;simp at ha';subst ha' e;exact h1 ha
  ·rw[Array.toList_push,List.map_append];refine List.nodup_append.2 ⟨hbn,by simp,fun a ha a' ha' e=>?_⟩;simp at ha';subst ha';obtain⟨e',he',rfl⟩:=List.mem_map.1 ha;have:=(hi e' he').2.2;omega
 ·have hm:=List.mem_of_getElem? h1;have hes:es[j]? =some e:=by simpa using h1
  have hsame:es.modify j (fun e'=>{e' with key:=enc x,val:=one})=es:=by
   apply Array.ext_getElem?;intro i;rw[Array.getElem?_modify]
   split
   ·rename_i hij
    subst hij;rw[hes];obtain⟨a1,a2,_⟩:=hi e hm;simp only[Option.map_some];rw[←h2,←a1,←a2]
   ·rfl
  refine⟨.map es c,es.toList.map (fun e=>dec e.key),?_,⟨_,_,World.putObj_heap_same hlt,hi,rfl,hn,hbn⟩,fun y=>⟨.inl,fun hy=>?_⟩⟩
  ·have hk:e.key=enc x:=by rw[(hi e hm).1,h2]
   simp[Instr.mapUpdate,run_underlying ht,Sem.run_bind,hgo,K.check,h3,Result.andThen,hes,hk,run_keyStays x K,hso,hsame]
  ·rcases hy with hy|rfl
   ·exact hy
   ·exact List.mem_map.2 ⟨e,hm,h2⟩
def SetI(enc:α→Value)(dec:Value→α)(one:Value)(w:World)(b r:Nat)(L R:List α):Prop:=
 ∃es clock since seen c0,w.heap[b]? =some (.map es clock)∧(∀e∈es.toList,e.key=enc (dec e.key)∧e.val=one∧e.born<clock)∧L=es.toList.map (fun e=>dec e.key)∧L.Nodup∧(es.toList.map (·.born)).Nodup∧
  w.heap[r]? =some (.mapIter (some b) since seen c0)∧(∀x∈es.toList,x.born<since)∧since≤c0∧since≤clock∧R=(leftOf es seen).toList.map (fun e=>dec e.key)
theorem SetI.set{r:Nat}{R:List α}(h:SetI enc dec one w b r L R):SetM enc dec one w b L:=by
 obtain⟨es,clock,since,seen,c0,h1,h2,h3,h4,h5,_⟩:=h
 exact⟨es,clock,h1,h2,h3,h4,h5⟩
theorem SetI.of_blocks{r:Nat}{R:List α}(h:SetI enc dec one w b r L R)(hb:w'.heap[b]? =w.heap[b]?)(hr:w'.heap[r]? =w.heap[r]?):SetI enc dec one w' b r L R:=by
 obtain⟨es,clock,since,seen,c0,h1,h2,h3,h4,h5,h6,h7⟩:=h
 exact⟨es,clock,since,seen,c0,hb.trans h1,h2,h3,h4,h5,hr.trans h6,h7⟩
theorem SetI.lt{r:Nat}{R:List α}(h:SetI enc dec one w b r L R):b<w.heap.size∧r<w.heap.size∧r≠b:=by
 obtain⟨es,clock,since,seen,c0,h1,h2,h3,h4,h5,h6,h7⟩:=h
 refine⟨(Array.getElem?_eq_some_iff.1 h1).1,(Array.getElem?_eq_some_iff.1 h6).1,fun e=>?_⟩
 rw[e,h1] at h6
 cases h6
theorem SetI.ext{r:Nat}{R:List α}(h:SetI enc dec one w b r L R)(hb:Below w.heap.size w w'):SetI enc dec one w' b r L R:=h.of_blocks (hb.block b h.lt.1) (hb.block r h.lt.2.1)
theorem SetI.sub{r:Nat}{R:List α}(h:SetI enc dec one w b r L R):R.Nodup∧∀x∈R,x∈L:=by
 obtain⟨es,clock,since,seen,c0,h1,h2,rfl,h4,h5,h6,h7,h8,h8b,rfl⟩:=h
 have hs:((leftOf es seen).toList.map (fun e=>dec e.key)).Sublist (es.toList.map (fun e=>dec e.key)):=by
  unfold leftOf;rw[Array.toList_filter];exact(List.filter_sublist (l:=es.toList)).map _
 exact⟨hs.nodup h4,fun x hx=>hs.subset hx⟩
theorem SetM.range(h:SetM enc dec one w b L)(ht:P.underlying t=some (.map kt et)):
  ∃o,isBook o=false∧(Instr.range t (.map (some b))).run P w=.ok (.pointer (some ⟨w.heap.size,0,none⟩)) (w.alloc o)∧SetI enc dec one (w.alloc o) b w.heap.size L L:=by
 have hlt:=h.lt
 obtain⟨es,c,hb,hi,hL,hn,hbn⟩:=h
 refine⟨_,?_,run_range_map w t kt et b es c ht hb,es,c,c,#[],c,?_,hi,hL,hn,hbn,World.alloc_heap_new w _,fun x hx=>(hi x hx).2.2,Nat.le_refl _,Nat.le_refl _,?_⟩
 ·rfl
 ·exact(Below.heap_alloc w _ b hlt).trans hb
 ·rw[hL];unfold leftOf;rw[Array.toList_filter,List.filter_eq_self.2 (fun x _=>by simp)]
theorem SetI.next{r:Nat}{R:List α}(h:SetI enc dec one w b r L R)(ty:TypeId):
  (R= []∧(Instr.next (.pointer (some ⟨r,0,none⟩)) false ty).run P w=.ok (.tuple #[.bool false]) w)∨
  ∃x R' w',x∈R∧(∀y,y∈R'↔y∈R∧y≠x)∧R'.length<R.length∧(Instr.next (.pointer (some ⟨r,0,none⟩)) false ty).run P w=.ok (.tuple #[.bool true,enc x,one]) w'∧SetI enc dec one w' b r L R'∧
   w.grownBy w' (some r)∧w'.heap.size=w.heap.size∧(Instr.entry (.pointer (some ⟨r,0,none⟩))).run P w'=.ok (.tuple #[enc x,one]) w':=by
 have hlt:=h.lt
 have hsub:=h.sub
 obtain⟨es,clock,since,seen,c0,h1,h2,rfl,h4,h5,h6,h7,h8,h8b,rfl⟩:=h
 rcases run_next_at (P:=P) w ty r b since c0 seen es clock h6 h1 h7 h8 with ⟨h0,hrun⟩|⟨e,he,w1,hal,hrun⟩
 ·refine .inl ⟨?_,hrun⟩;have:(leftOf es seen).toList= []:=List.eq_nil_of_length_eq_zero (by simpa using h0);rw[this];rfl
 ·have hle:e∈es.toList∧e.born∉seen.toList:=by
   unfold leftOf at he;rw[Array.toList_filter,List.mem_filter] at he;refine⟨he.1,?_⟩;simpa using he.2
  obtain⟨k1,k2,k3⟩:=h2 e hle.1;have hmem:∀y,y∈(leftOf es (seen.push e.born)).toList.map (fun e=>dec e.key)↔y∈(leftOf es seen).toList.map (fun e=>dec e.key)∧y≠dec e.key:=fun y=>by
   unfold leftOf;rw[Array.toList_filter,Array.toList_filter,List.mem_map,List.mem_map];constructor
   ·rintro⟨e',he',rfl⟩;rw[List.mem_filter] at he';simp only[Array.contains_push,Bool.not_or,Bool.and_eq_true] at he';refine⟨⟨e',List.mem_filter.2 ⟨he'.1,?_⟩,rfl⟩,fun c=>?_⟩
    ·first|exact he'.2.1|exact he'.2.2
    ·have:=map_inj_of_nodup h4 he'.1 hle.1 c;subst this;simp at he'
   ·rintro⟨⟨e',he',rfl⟩,hne⟩;rw[List.mem_filter] at he';refine⟨e',List.mem_filter.2 ⟨he'.1,?_⟩,rfl⟩;have hb:e'.born≠e.born:=fun c=>hne (by rw[map_inj_of_nodup h5 he'.1 hle.1 c]);have h9:=he'.2;simp at h9;simp[h9,hb]
  have hw1:w1.heap=w.heap:=by rcases hal with rfl|rfl<;>rfl
  have hg1:w.grownBy w1 (some r):=by rcases hal with rfl|rfl<;>exact⟨rfl,rfl,rfl,Nat.le_refl _,fun _ _ _=>rfl⟩
  have hsb:(Go.ChangeMaps.setBlock w1 r (.mapIter (some b) since (seen.push e.born) clock))=w1.putObj r (.mapIter (some b) since (seen.push e.born) clock):=rfl;have hrl:r<w1.heap.size:=by rw[hw1];exact hlt.2.1
  have hSI:SetI enc dec one (w1.putObj r (.mapIter (some b) since (seen.push e.born) clock)) b r (es.toList.map (fun e=>dec e.key)) ((leftOf es (seen.push e.born)).toList.map (fun e=>dec e.key)):=by
   refine⟨es,clock,since,seen.push e.born,clock,?_,h2,rfl,h4,h5,World.putObj_heap_same hrl,h7,h8b,h8b,rfl⟩
   ·have:=(grown_put w1 r (.mapIter (some b) since (seen.push e.born) clock)).block b (by rw[hw1];exact hlt.1) (by simpa using fun c:b=r=>hlt.2.2 c.symm);rw[this,hw1];exact h1
  refine .inr ⟨dec e.key,(leftOf es (seen.push e.born)).toList.map (fun e=>dec e.key),w1.putObj r (.mapIter (some b) since (seen.push e.born) clock),List.mem_map.2 ⟨e,he,rfl⟩,hmem,?_,?_,hSI,?_,?_,?_⟩
  ·have hn':(dec e.key :: (leftOf es (seen.push e.born)).toList.map (fun e=>dec e.key)).Nodup:=List.nodup_cons.2 ⟨fun c=>((hmem _).1 c).2 rfl,hSI.sub.1⟩
   have:=nodup_length_le hn' (l':=(leftOf es seen).toList.map (fun e=>dec e.key)) (fun x hx=>by
    rcases List.mem_cons.1 hx with rfl|hx
    ·exact List.mem_map.2 ⟨e,he,rfl⟩
    ·exact((hmem x).1 hx).1)
   simp only[List.length_cons] at this;omega
  ·rw[hrun,←k1,k2];rfl
  ·exact hg1.andThen (grown_put w1 r _) (fun j hj=>.inr hj)
  ·simp[World.putObj,hw1]
  ·rw[run_entry_at (P:=P) _ r b since seen es clock e (World.putObj_heap_same hrl) ?_ hle.1 h5,←k1,k2];have:=(grown_put w1 r (.mapIter (some b) since (seen.push e.born) clock)).block b (by rw[hw1];exact hlt.1) (by simpa using fun c:b=r=>hlt.2.2 c.symm);rw[this,hw1];exact h1
variable {ops:Array Oper} {rest:List Oper} {o:Oper} {a:Act} {Q:Exit→Act→World→Prop}
theorem size_put(w:World)(b:Nat)(o:Obj):(w.putObj b o).heap.size=w.heap.size:=by simp[World.putObj]
theorem wpList_putM(hg:o.guard=none)(m x v:Operand)(hop:o.op=Op.mapUpdate t m x v)(K:KeyT P kt enc dec)(ht:P.underlying t=some (.map kt et))(h:SetM enc dec one w b L)
  (hm:a.eval m=.map (some b)) (y:α) (hx:a.eval x=enc y) (hv:a.eval v=one)
  (hK:∀w' L',SetM enc dec one w' b L'→(∀z,z∈L'↔z∈L∨z=y)→w.grownBy w' (some b)→w'.heap.size=w.heap.size→wpList P ops Q rest (a.put o.dst undef) w'):wpList P ops Q (o :: rest) a w:=by
 refine wpList_plain hg fun K' hK'=>?_
 obtain⟨o',L',hrun,r1,r2⟩:=h.put K ht y
 unfold Oper.wp
 simp[execOp,hop,hm,hx,hv,hrun,Result.andThen]
 exact hK' _ _ (hK _ L' r1 r2 (grown_put w b o') (size_put _ _ _))
theorem op_putM{K':Act→World→Prop}(m x v:Operand)(hop:o.op=Op.mapUpdate t m x v)(K:KeyT P kt enc dec)(ht:P.underlying t=some (.map kt et))(h:SetM enc dec one w b L)
  (hm:a.eval m=.map (some b)) (y:α) (hx:a.eval x=enc y) (hv:a.eval v=one)
  (hK:∀w' L',SetM enc dec one w' b L'→(∀z,z∈L'↔z∈L∨z=y)→w.grownBy w' (some b)→w'.heap.size=w.heap.size→K' (a.put o.dst undef) w'):o.wp P a w K' Q:=by
 obtain⟨o',L',hrun,r1,r2⟩:=h.put K ht y
 unfold Oper.wp execOp
 simp only[hop,hm,hx,hv,Sem.run_bind,hrun,Result.andThen,Sem.run_pure]
 exact hK _ L' r1 r2 (grown_put w b o') (size_put _ _ _)
theorem wpList_rangeM(hg:o.guard=none)(m:Operand)(hop:o.op=Op.range t m)(ht:P.underlying t=some (.map kt et))(h:SetM enc dec one w b L)(hm:a.eval m=.map (some b))
  (hK:∀w',SetI enc dec one w' b w.heap.size L L→Below w.heap.size w w'→w'.heap.size=w.heap.size+1→wpList P ops Q rest (a.put o.dst (.pointer (some ⟨w.heap.size,0,none⟩))) w'):wpList P ops Q (o :: rest) a w:=by
 refine wpList_plain hg fun K' hK'=>?_
 obtain⟨o',_,hrun,r1⟩:=h.range ht
 unfold Oper.wp
 simp[execOp,hop,hm,hrun,Result.andThen]
 exact hK' _ _ (hK _ r1 ((Below.refl _ w).alloc (Nat.le_refl _) _) (by simp))
theorem wpList_nextM{r:Nat}{R:List α}(hg:o.guard=none)(it:Operand)(hop:o.op=Op.next it false)(hit:a.eval it=.pointer (some ⟨r,0,none⟩))(h:SetI enc dec one w b r L R)
  (hDone:R= []→wpList P ops Q rest (a.put o.dst (.tuple #[.bool false])) w)
  (hMore:∀x R' w',x∈R→(∀y,y∈R'↔y∈R∧y≠x)→R'.length<R.length→SetI enc dec one w' b r L R'→w.grownBy w' (some r)→w'.heap.size=w.heap.size→
    (Instr.entry (.pointer (some ⟨r,0,none⟩))).run P w'=.ok (.tuple #[enc x,one]) w'→wpList P ops Q rest (a.put o.dst (.tuple #[.bool true,enc x,one])) w'):wpList P ops Q (o :: rest) a w:=by
 refine wpList_plain hg fun K' hK'=>?_
 unfold Oper.wp
 rcases h.next (P:=P) o.type with ⟨h0,hrun⟩|⟨x,R',w',hx,hR',hlt,hrun,hSI,hgr,hsz,hen⟩
 ·simp[execOp,hop,hit,hrun,Result.andThen];exact hK' _ _ (hDone h0)
 ·simp[execOp,hop,hit,hrun,Result.andThen];exact hK' _ _ (hMore x R' w' hx hR' hlt hSI hgr hsz hen)
end
end

section
open Go.RowKit
section
variable {P:Program} {Q:Exit→Act→World→Prop}
theorem op_allocB{o:Oper}{a:Act}{K:Act→World→Prop}{w:World}(ty:TypeId)(ho:o.op=.alloc ty)(z:Value)(hz:∀w,(zeroValue ty).run P w=.ok z w)
  (h:∀g W',Below w.heap.size w W'→g=w.heap.size→W'.heap[g]? =some (.cells z.cells ty (0,0))→K (a.put o.dst (.pointer (some ⟨g,0,none⟩))) W'):o.wp P a w K Q:=by
 have hr:(Instr.alloc ty true (.tuple #[])).run P w=.ok (.pointer (some ⟨w.heap.size,0,none⟩)) (w.alloc (.cells z.cells ty)):=by
  simp[Instr.alloc,hz,newVar,newRow]
 unfold Oper.wp execOp
 simp only[ho,Sem.run_bind,hr,Result.andThen_ok,Sem.run_pure]
 exact h _ _ ((Below.refl _ w).alloc (Nat.le_refl _) _) rfl (heap_alloc_new w _)
end
theorem unDrew1{w w2:World}(h:Below w.drew.heap.size w.drew w2):Below w.heap.size w w2:=⟨h.os,h.tape,h.output,h.size,h.block⟩
theorem own_form{w:World}{base:Nat}{e:TypeId}{size:Nat}{v:Value}{n:Nat}{xs:List Value}(h:w.ownsRow base e size v n xs)(hn:0<n):∃g c,v=.slice (some ⟨g,0,none⟩) n c:=by
 rcases h.2 with ⟨_,h0⟩|⟨g,cap,cur,hv,_⟩
 ·omega
 ·exact⟨g,cap,hv⟩
theorem intsOwn{w:World}{base:Nat}{e:TypeId}{g n c:Nat}{xs:List Int}(h:w.ownsRow base e 1 (.slice (some ⟨g,0,none⟩) n c) n (xs.map (Value.int .i64)))(hx:∀x∈xs,I64 x)(hn:n≤17592186044416):Ints w (some ⟨g,0,none⟩) n xs:=by
 have hl:xs.length=n:=by have:=h.1;simpa using this
 refine⟨hl,hn,fun k hk=>⟨g,0,rfl,?_,?_⟩⟩
 ·rw[Nat.zero_add,World.ownsRow.cellAt h k (by omega)];simp[List.getD_eq_getElem?_getD,show k<xs.length by omega]
 ·have:xs.getD k 0∈xs:=by
   rw[List.getD_eq_getElem?_getD,List.getElem?_eq_getElem (by omega)];exact List.getElem_mem _
  exact hx _ this
theorem Ints.mem{w:World}{a:Option Addr}{n:Nat}{xs:List Int}(h:Ints w a n xs):∀x∈xs,I64 x:=by
 intro x hx
 obtain⟨k,hk,e⟩:=List.mem_iff_getElem.1 hx
 obtain⟨_,_,_,_,hi⟩:=h.2.2 k (by rw[←h.1];exact hk)
 rw[List.getD_eq_getElem?_getD,List.getElem?_eq_getElem hk,Option.getD_some,e] at hi
 exact hi
theorem block_ext{w w':World}(h:Below w.heap.size w w'){k:Nat}{o:Obj}(hk:w.heap[k]? =some o):w'.heap[k]? =some o:=(h.block k (Array.getElem?_eq_some_iff.1 hk).1).trans hk
end

section
open Go.RowKit
theorem addr_add(b o m:Nat):(⟨b,o,none⟩:Addr).add m=⟨b,o+m,none⟩:=by
 unfold Addr.add
 split<;>simp_all
section
variable {P:Program} {Q:Exit→Act→World→Prop}
theorem run_append_rows(w:World)(base:Nat)(t ty e:TypeId)(z:Value)(size bytes:Nat)(ht:P.underlying t=some (.slice e))(hinfo:(P.info? e).map (fun i=>(i.zero,i.size,i.bytes))=some (some z,size,bytes))(hzs:z.cells.size=size)(hsz:0<size)
  (v:Value) (n:Nat) (xs:List Value) (hown:w.ownsRow base e size v n xs) (A:Option Addr) (m c:Nat) (news:List Value) (hl:news.length=m*size)
  (hr:∀j u,news[j]? =some u→∃ad,A=some ad∧w.cell? (ad.add j)=some u) (h1:∀u∈news,u.oneCell'=true)
  (h63:n+m≤maxLen) (hbytes:(n+m)*bytes≤140737488355328) (hbase:base≤w.heap.size):
  ∃v' w',(Builtin.append_ #[t,t] ty #[v,.slice A m c]).run P w=.ok v' w'∧w'.ownsRow base e size v' (n+m) (xs++news)∧w.grownBy w' v.ownBlock∧(v'.ownBlock=v.ownBlock∨v'.ownBlock=some w.heap.size):=by
 obtain⟨i,hi,hz,hsize,hby⟩:=info_parts hinfo
 rcases A with _|ad
 ·have hm:news= []:=by
   cases news with
   |nil=>rfl
   |cons u l=>obtain⟨ad,h,_⟩:=hr 0 u rfl;cases h
  subst hm;obtain rfl:m=0:=by
   simp only[List.length_nil] at hl;rcases Nat.mul_eq_zero.1 hl.symm with h|h<;>omega
  refine⟨v,w,?_,by simpa using hown,⟨rfl,rfl,rfl,Nat.le_refl _,fun _ _ _=>rfl⟩,Or.inl rfl⟩;rcases hown.2 with ⟨rfl,rfl⟩|⟨g,cap,cur,rfl,_,_,hnc,_⟩
  ·simp[Builtin.append_,run_underlying ht,sizeOf,typeInfo,hi,Builtin.lenOf,Builtin.firstCells]
  ·simp[Builtin.append_,run_underlying ht,sizeOf,typeInfo,hi,Builtin.lenOf,Builtin.firstCells,hnc,storeCells]
 ·obtain⟨v',w',hrun,h2,h3,_,h5⟩:=run_append_own_at (P:=P) w base t ty e i z size bytes ht hi hz hsize hby hzs hsz v n xs hown ad m c news hl
   (fun j u hu=>by obtain⟨ad',h,hc⟩:=hr j u hu;cases h;exact hc) h1 h63 hbytes hbase
  exact⟨v',w',hrun,h2,h3,h5⟩
theorem wpList_appendR{ops:Array Oper}{rest:List Oper}{o:Oper}{a:Act}(w:World)(hgd:o.guard=none)(s x:Operand)(t e:TypeId)(ho:o.op=.call {callee:=.builtin .append,args:=#[s,x],argTypes:=#[t,t]})
  (base:Nat) (z:Value) (size bytes:Nat) (ht:P.underlying t=some (.slice e)) (hinfo:(P.info? e).map (fun i=>(i.zero,i.size,i.bytes))=some (some z,size,bytes)) (hzs:z.cells.size=size) (hsz:0<size)
  (v:Value) (n:Nat) (xs:List Value) (hs:a.eval s=v) (hown:w.ownsRow base e size v n xs) (A:Option Addr) (m c:Nat) (hx:a.eval x=.slice A m c) (news:List Value) (hl:news.length=m*size)
  (hr:∀j u,news[j]? =some u→∃ad,A=some ad∧w.cell? (ad.add j)=some u) (h1:∀u∈news,u.oneCell'=true)
  (h63:n+m≤maxLen) (hbytes:(n+m)*bytes≤140737488355328) (hbase:base≤w.heap.size)
  (h:∀v' w',w'.ownsRow base e size v' (n+m) (xs++news)→w.grownBy w' v.ownBlock→(v'.ownBlock=v.ownBlock∨v'.ownBlock=some w.heap.size)→wpList P ops Q rest (a.put o.dst v') w'):
  wpList P ops Q (o :: rest) a w:=by
 refine wpList_plain hgd fun K hK=>?_
 obtain⟨v',w',hrun,h2,h3,h4⟩:=run_append_rows (P:=P) w base t o.type e z size bytes ht hinfo hzs hsz v n xs hown A m c news hl hr h1 h63 hbytes hbase
 unfold Oper.wp execOp
 simp only[ho,resolve,invoke,builtin,Sem.run_bind,Sem.run_pure,Result.andThen_ok,List.map_toArray,List.map_cons,List.map_nil,hs,hx,hrun]
 exact hK _ _ (h v' w' h2 h3 h4)
theorem op_appendR{o:Oper}{a:Act}{K:Act→World→Prop}(w:World)(s x:Operand)(t e:TypeId)(ho:o.op=.call {callee:=.builtin .append,args:=#[s,x],argTypes:=#[t,t]})
  (base:Nat) (z:Value) (size bytes:Nat) (ht:P.underlying t=some (.slice e)) (hinfo:(P.info? e).map (fun i=>(i.zero,i.size,i.bytes))=some (some z,size,bytes)) (hzs:z.cells.size=size) (hsz:0<size)
  (v:Value) (n:Nat) (xs:List Value) (hs:a.eval s=v) (hown:w.ownsRow base e size v n xs) (A:Option Addr) (m c:Nat) (hx:a.eval x=.slice A m c) (news:List Value) (hl:news.length=m*size)
  (hr:∀j u,news[j]? =some u→∃ad,A=some ad∧w.cell? (ad.add j)=some u) (h1:∀u∈news,u.oneCell'=true)
  (h63:n+m≤maxLen) (hbytes:(n+m)*bytes≤140737488355328) (hbase:base≤w.heap.size)
  (h:∀v' w',w'.ownsRow base e size v' (n+m) (xs++news)→w.grownBy w' v.ownBlock→(v'.ownBlock=v.ownBlock∨v'.ownBlock=some w.heap.size)→(∀w0,Below base w0 w→Below base w0 w')→K (a.put o.dst v') w'):
  o.wp P a w K Q:=by
 obtain⟨v',w',hrun,h2,h3,h4⟩:=run_append_rows (P:=P) w base t o.type e z size bytes ht hinfo hzs hsz v n xs hown A m c news hl hr h1 h63 hbytes hbase
 unfold Oper.wp execOp
 simp only[ho,resolve,invoke,builtin,Sem.run_bind,Sem.run_pure,Result.andThen_ok,List.map_toArray,List.map_cons,List.map_nil,hs,hx,hrun]
 exact h v' w' h2 h3 h4 (fun w0 hb=>hb.grown h3 hbase (fun k hk=>(hown.lt k hk).1))
end
theorem Ints.news{w:World}{a:Option Addr}{n:Nat}{xs:List Int}(h:Ints w a n xs):∀j u,(xs.map (Value.int .i64))[j]? =some u→∃ad,a=some ad∧w.cell? (ad.add j)=some u:=by
 intro j u hu
 rw[List.getElem?_map,Option.map_eq_some_iff] at hu
 obtain⟨x,hx,rfl⟩:=hu
 have hlt:=(List.getElem?_eq_some_iff.1 hx).1
 obtain⟨b,o,e,hc,_⟩:=h.2.2 j (by rw[←h.1];exact hlt)
 refine⟨_,e,?_⟩
 rw[addr_add,hc]
 simp[List.getD_eq_getElem?_getD,hx]
end

section
open Go.RowKit
theorem infoI:(Tryz.prog.info? 3).map (fun i=>(i.zero,i.size,i.bytes))=some (some (.int .i64 0),1,8):=by kernel_rfl
def intVals(xs:List Int):List Value:=xs.map (Value.int .i64)
theorem intVals_len(xs:List Int):(intVals xs).length=xs.length:=by simp[intVals]
theorem intVals_one(xs:List Int):∀u∈intVals xs,u.oneCell'=true:=by
 intro u hu
 simp only[intVals,List.mem_map] at hu
 obtain⟨x,_,rfl⟩:=hu
 rfl
def OwnI(w:World)(base:Nat)(v:Value)(xs:List Int):Prop:=w.ownsRow base 3 1 v xs.length (intVals xs)∧(∀x∈xs,I64 x)∧xs.length≤17592186044416
theorem OwnI.nil(w:World)(base:Nat):OwnI w base (.slice none 0 0) []:=⟨World.ownsRow_nil _ _ _ _,by simp,by simp⟩
theorem OwnI.mono{w:World}{base base':Nat}{v:Value}{xs:List Int}(h:OwnI w base v xs)(hb:base'≤base):OwnI w base' v xs:=by
 refine⟨⟨h.1.1,?_⟩,h.2⟩
 rcases h.1.2 with h0|⟨g,cap,cur,hv,h1,r⟩
 ·exact .inl h0
 ·exact .inr ⟨g,cap,cur,hv,Nat.le_trans hb h1,r⟩
theorem OwnI.kept{w w':World}{base:Nat}{v:Value}{xs:List Int}{row:Option Nat}(h:OwnI w base v xs)(hg:w.grownBy w' row)(hne:v.ownBlock=none∨v.ownBlock≠row):OwnI w' base v xs:=⟨h.1.kept hg hne,h.2⟩
theorem OwnI.ext{w w':World}{base:Nat}{v:Value}{xs:List Int}(h:OwnI w base v xs)(hb:Below w.heap.size w w'):OwnI w' base v xs:=by
 refine⟨h.1.kept (row:=none) ⟨hb.os,hb.tape,hb.output,hb.size,fun k hk _=>hb.block k hk⟩ ?_,h.2⟩
 cases h1:v.ownBlock with
 |none=>exact .inl rfl
 |some k=>exact .inr (by simp)
theorem OwnI.form{w:World}{base:Nat}{v:Value}{xs:List Int}(h:OwnI w base v xs):∃a c,v=.slice a xs.length c:=by
 rcases h.1.2 with ⟨rfl,h0⟩|⟨g,cap,cur,hv,_⟩
 ·have h0:xs.length=0:=h0;rw[h0];exact⟨none,0,rfl⟩
 ·exact⟨_,_,hv⟩
theorem OwnI.ints{w:World}{base:Nat}{a:Option Addr}{n c:Nat}{xs:List Int}(h:OwnI w base (.slice a n c) xs):Ints w a n xs:=by
 rcases h.1.2 with ⟨hv,h0⟩|⟨g,cap,cur,hv,_⟩
 ·injection hv with e1 e2 e3;subst e1 e2;have h0:xs.length=0:=h0;exact⟨h0,by omega,fun k hk=>by omega⟩
 ·injection hv with e1 e2 e3;subst e1 e2 e3;exact intsOwn h.1 h.2.1 h.2.2
theorem OwnI.cap{w:World}{base:Nat}{a:Option Addr}{n c:Nat}{xs:List Int}(h:OwnI w base (.slice a n c) xs):n≤c∧c≤9223372036854775807∧n=xs.length:=by
 rcases h.1.2 with ⟨hv,h0⟩|⟨g,cap,cur,hv,_,_,h1,h2,_⟩
 ·injection hv with e1 e2 e3;subst e1 e2 e3;exact⟨by omega,by omega,by rw[show xs.length=0 from h0]⟩
 ·injection hv with e1 e2 e3;subst e1 e2 e3;unfold maxLen at h2;exact⟨h1,by omega,rfl⟩
def IntsPost(w:World)(xs:List Int)(e:Ending)(w':World):Prop:=∃v,e=.returned v∧OwnI w' w.heap.size v xs∧Below w.heap.size w w'
theorem ownI_lit{W:World}{g:Nat}{xs:List Int}(hg:W.heap.size=g)(base:Nat)(hb:base≤g)(hx:∀x∈xs,I64 x)(hn:xs.length≤1000):OwnI (W.alloc (.cells (intVals xs).toArray 3)) base (.slice (some ⟨g,0,none⟩) xs.length xs.length) xs:=by
 subst hg
 refine⟨?_,hx,by omega⟩
 have:=World.ownsRow_lit (base:=base) (e:=3) (size:=1) W (intVals xs).toArray xs.length hb (by unfold maxLen;omega) (by simp[intVals])
 simpa using this
theorem cloneInts_any(a:Option Addr)(n c:Nat)(xs:List Int)(w:World)(h:Ints w a n xs):
  Calls Tryz.prog 97 #[.slice a n c] w (IntsPost w xs):=by
 have HL:=Lib.hid h.1
 have hn:=h.2.1
 have HM:=Lib.hid h.mem
 have H:=Lib.hid h
 clear h
 cases a with
 |none=>
  have hq:=fun w n c n' c'=>Lib.run_eql_slice_nil (P:=Tryz.prog) w 22 3 none n c n' c' Tryz.underlying22
  go_enter Tryz.func97,Tryz.ntmps97
  go_wp2
  go_ret
  have h0:xs= []:=by
   cases xs with
   |nil=>rfl
   |cons r l=>obtain⟨b,o,e,_⟩:=H.out.2.2 0 (by rw[←HL.out];simp);cases e
  subst h0;exact⟨_,rfl,OwnI.nil _ _,Below.refl _ _⟩
 |some ad=>
  have hq:=fun w n c n' c'=>Lib.run_eql_slice_nil (P:=Tryz.prog) w 22 3 (some ad) n c n' c' Tryz.underlying22
  go_enter Tryz.func97,Tryz.ntmps97
  go_wp2_with (at_builtin;go_loud (refine wpList_appendR (w.alloc (.cells #[] 3)) rfl (.tmp 5) (.tmp 6) 22 3 rfl w.heap.size _ 1 8 Tryz.underlying22 infoI rfl (by omega) (.slice (some ⟨w.heap.size,0,none⟩) 0 0) 0 [] rfl (World.ownsRow_lit w #[] 0 (by omega) (by unfold maxLen;omega) rfl) (some ad) n c rfl (intVals xs) (by rw[intVals_len,HL.out,Nat.mul_one]) ((H.out.ext ((Below.refl _ w).alloc (Nat.le_refl _) _)).news) (intVals_one xs) (by unfold maxLen;omega) (by omega) (by simp) ?_);intro v' w1 ho1 hg1 hv1;have HO1:=Lib.hid ho1;have HG1:=Lib.hid hg1;clear ho1 hg1 hv1)
  go_ret
  have ho:=HO1.out;rw[Nat.zero_add,List.nil_append,←HL.out] at ho;exact⟨_,rfl,⟨ho,HM.out,by rw[HL.out];exact hn⟩,((Below.refl _ w).alloc (Nat.le_refl _) _).grown HG1.out (by simp) (fun k hk=>by simp[Value.ownBlock] at hk;omega)⟩
end

section
open Go.RowKit
attribute [local go_sem] Oper.semAt_some
abbrev encV(x:Int):Value:=.int .i64 x
def decV(v:Value):Int:=match v with| .int _ x=>x|_=>0
abbrev oneV:Value:=.int .i64 1
theorem findNow_var(x:Int):∀(l:List MapEntry) (i:Nat),(∀e∈l,e.key=encV (decV e.key))→
  (x∉l.map (fun e=>decV e.key)∧Instr.findNow (.int .i64) (encV x) l i=some none)∨
  ∃j e,l[j]? =some e∧decV e.key=x∧Instr.findNow (.int .i64) (encV x) l i=some (some (i+j,e.val))
 | [],i,_=>.inl ⟨by simp,rfl⟩
 |e :: l,i,h=>by
  have he:=h e (by simp);generalize hj:decV e.key=j at he;have he:e.key=.int .i64 j:=he;by_cases hx:x=j
  ·subst hx;exact .inr ⟨0,e,rfl,hj,by simp[Instr.findNow,Instr.sameNow,encV,he]⟩
  ·have hb:(x==j)=false:=by simpa using hx
   rcases findNow_var x l (i+1) (fun e' he'=>h e' (by simp[he'])) with ⟨h1,h2⟩|⟨m,e',h0,h1,h2⟩
   ·refine .inl ⟨by simp only[List.map_cons,List.mem_cons,not_or];exact⟨by rw[hj];exact hx,h1⟩,?_⟩;unfold encV at h2;simp[Instr.findNow,Instr.sameNow,encV,he,hb,h2]
   ·refine .inr ⟨m+1,e',by simpa using h0,h1,?_⟩;unfold encV at h2;simp[Instr.findNow,Instr.sameNow,encV,he,hb,h2];omega
theorem checkKey_var(em:Bool)(n:Nat)(x:Int)(w:World):(Instr.checkKey em (n+1) 3 (encV x)).run Tryz.prog w=.ok () w:=by
 simp[Instr.checkKey,run_underlying Tryz.underlying3,encV]
theorem keyV:KeyT Tryz.prog 3 encV decV where
 find x w l h:=by
  rcases findNow_var x l 0 h with ⟨h1,h2⟩|⟨j,e,h0,h1,h2⟩
  ·exact .inl ⟨h1,by simp[Instr.findKey,run_underlying Tryz.underlying3,h2]⟩
  ·exact .inr ⟨j,e,h0,h1,by simp[Instr.findKey,run_underlying Tryz.underlying3,h2]⟩
 check em x w:=checkKey_var em _ x w
 bits x:=by
  have h:∀n,Instr.sameBits n (encV x) (encV x)=true:=fun n=>by cases n<;>simp[Instr.sameBits,encV]
  exact h _
 dec x:=rfl
theorem mapTV:Tryz.prog.underlying 101=some (.map 3 3):=Tryz.underlying101
abbrev VSet(w:World)(b:Nat)(L:List Int):Prop:=SetM encV decV oneV w b L
abbrev VIter(w:World)(b r:Nat)(L R:List Int):Prop:=SetI encV decV oneV w b r L R
def VHas(w:World)(b:Nat)(p:Int→Prop):Prop:=∃L,VSet w b L∧∀y,y∈L↔p y
theorem VHas.kept{w w':World}{b:Nat}{p:Int→Prop}(h:VHas w b p)(hb:w'.heap[b]? =w.heap[b]?):VHas w' b p:=let ⟨L,h1,h2⟩:=h;⟨L,h1.of_block hb,h2⟩
theorem VHas.lt{w:World}{b:Nat}{p:Int→Prop}(h:VHas w b p):b<w.heap.size:=let ⟨_,h1,_⟩:=h;h1.lt
theorem VHas.congr{w:World}{b:Nat}{p q:Int→Prop}(h:VHas w b p)(e:∀y,p y↔q y):VHas w b q:=let ⟨L,h1,h2⟩:=h;⟨L,h1,fun y=>(h2 y).trans (e y)⟩
def AddPost(w:World)(b:Nat)(q:Int→Prop)(e:Ending)(w':World):Prop:=e=.returned (.tuple #[])∧VHas w' b q∧w.grownBy w' (some b)
theorem sAdd_any(b:Nat)(p:Int→Prop)(a:Option Addr)(n c:Nat)(xs:List Int)(w:World)(h:VHas w b p)(hx:Ints w a n xs):
  Calls Tryz.prog 37 #[.map (some b),.slice a n c] w (AddPost w b fun y=>p y∨y∈xs):=by
 have HV:=Lib.hid h
 have HX:=Lib.hid hx
 have hn:=hx.2.1
 clear h hx
 go_enter Tryz.func37,Tryz.ntmps37
 go_wp2
 go_loopw [5,8] (fun _ i wr=>∃k:Nat,i=.int .i64 k∧k≤n∧Hid (VHas wr b fun y=>p y∨y∈xs.take k)∧Hid (w.grownBy wr (some b))) (fun _ i _=>n-(intOf i).toNat)
 case atStart=>exact⟨0,rfl,by omega,HV.out.congr fun y=>by simp,⟨rfl,rfl,rfl,Nat.le_refl _,fun _ _ _=>rfl⟩⟩
 case round=>
  obtain⟨k,rfl,hk,HR,HG⟩:=hrel;by_cases hlt:k<n
  ·obtain⟨g,o,rfl,hcell,hw1,hw2⟩:=HX.out.2.2 k hlt;have hy:xs[k]? =some (xs.getD k 0):=by rw[List.getD_eq_getElem?_getD,List.getElem?_eq_getElem (by rw[HX.out.1];exact hlt)];rfl
   have HT:Hid (∀y,y∈xs.take (k+1)↔y∈xs.take k∨y=xs.getD k 0):=fun y=>by rw[List.take_add_one,hy];simp
   have hne:g≠b:=by
    obtain⟨L,h1,_⟩:=HV.out;exact SetM.nocell h1 hcell
   have hc2:wr.cell? ⟨g,o+k,none⟩=some (.int .i64 (xs.getD k 0)):=by
    have:=HG.out.block g (World.block_lt_of_cell? _ _ hcell) (by simpa using hne);rw[←hcell];unfold World.cell?;simp only[this]
   clear hcell hy;generalize xs.getD k 0=y at *;obtain⟨L,hL,hm⟩:=HR.out;have HL:=Lib.hid hL;have HM:=Lib.hid hm;clear hL hm
   go_wp2_with ((with_reducible show wpList _ _ _ (⟨none,.mapUpdate _ _ _ _,_,_,_,_⟩ :: _) _ _);refine wpList_putM rfl _ _ _ rfl keyV mapTV HL.out rfl y rfl rfl ?_;intro w2 L2 hs2 hm2 hg2 hz2)
   have HS2:=Lib.hid hs2;have HM2:=Lib.hid hm2;have HG2:=Lib.hid (HG.out.andThen hg2 fun j hj=>.inr hj);clear hs2 hm2 hg2 hz2 hc2
   go_roundw
   case rel=>exact⟨k+1,by go_num,by omega,⟨L2,HS2.out,fun z=>by show z∈L2↔p z∨z∈xs.take (k+1);rw[HM2.out z,HM.out z,HT.out z,or_assoc]⟩,HG2⟩
   case measure=>simp[intOf];omega
  ·obtain rfl:k=n:=by omega
   go_wp2
   go_end0
   exact⟨rfl,HR.out.congr fun y=>by rw[List.take_of_length_le (by rw[HX.out.1];exact Nat.le_refl _)],HG.out⟩
end

section
open Go.RowKit
def OwnR{α:Type}(e:TypeId)(size:Nat)(cs:α→List Value)(w:World)(base:Nat)(v:Value)(ls:List α):Prop:=w.ownsRow base e size v ls.length (ls.flatMap cs)∧ls.length≤17592186044416
section
variable {α:Type} {e:TypeId} {size:Nat} {cs:α→List Value} {w w':World} {base base':Nat} {v:Value} {ls:List α}
theorem OwnR.nil(e:TypeId)(size:Nat)(cs:α→List Value)(w:World)(base:Nat):OwnR e size cs w base (.slice none 0 0) []:=⟨World.ownsRow_nil _ _ _ _,by simp⟩
theorem OwnR.mono(h:OwnR e size cs w base v ls)(hb:base'≤base):OwnR e size cs w base' v ls:=by
 refine⟨⟨h.1.1,?_⟩,h.2⟩
 rcases h.1.2 with h0|⟨g,cap,cur,hv,h1,r⟩
 ·exact .inl h0
 ·exact .inr ⟨g,cap,cur,hv,Nat.le_trans hb h1,r⟩
theorem OwnR.kept{row:Option Nat}(h:OwnR e size cs w base v ls)(hg:w.grownBy w' row)(hne:v.ownBlock=none∨v.ownBlock≠row):OwnR e size cs w' base v ls:=⟨h.1.kept hg hne,h.2⟩
theorem OwnR.ext(h:OwnR e size cs w base v ls)(hb:Below w.heap.size w w'):OwnR e size cs w' base v ls:=by
 refine⟨h.1.kept (row:=none) ⟨hb.os,hb.tape,hb.output,hb.size,fun k hk _=>hb.block k hk⟩ ?_,h.2⟩
 cases h1:v.ownBlock with
 |none=>exact .inl rfl
 |some k=>exact .inr (by simp)
theorem OwnR.form(h:OwnR e size cs w base v ls):∃a c,v=.slice a ls.length c:=by
 rcases h.1.2 with ⟨rfl,h0⟩|⟨g,cap,cur,hv,_⟩
 ·have h0:ls.length=0:=h0;rw[h0];exact⟨none,0,rfl⟩
 ·exact⟨_,_,hv⟩
theorem OwnR.recs{a:Option Addr}{n c:Nat}(hs:∀x,(cs x).length=size)(h:OwnR e size cs w base (.slice a n c) ls):Recs size cs w a n ls:=by
 obtain⟨a',c',e1,e2,_⟩:=recs_of_own hs h.1 h.2
 injection e1 with h1 h2 h3
 subst h1 h2 h3
 exact e2
theorem OwnR.low{k:Nat}(h:OwnR e size cs w base v ls)(hk:v.ownBlock=some k):base≤k∧k<w.heap.size:=⟨(h.1.lt k hk).1,(h.1.lt k hk).2⟩
theorem Steady.ownR(D base:Nat)(v:Value)(ls:List α):Steady D (fun W=>OwnR e size cs W base v ls):=(Steady.ownsRow _ _ _ _ _ _ _).and (Steady.pure _ _)
end
def TV(B:Nat)(ty:TypeId)(W:World)(k:Nat):Prop:=k=B∨∃v,W.heap[B]? =some (.cells #[v] ty (0,0))∧v.ownBlock=some k
theorem TV.ext{B:Nat}{ty:TypeId}{W W':World}(h:W'.heap[B]? =W.heap[B]?){k:Nat}(ht:TV B ty W' k):TV B ty W k:=by
 rcases ht with ht|⟨v,hv,hk⟩
 ·exact .inl ht
 ·exact .inr ⟨v,h▸hv,hk⟩
theorem tch_var{W W':World}{B:Nat}{ty:TypeId}{v v':Value}(hB:W.heap[B]? =some (.cells #[v] ty (0,0)))(hB':W'.heap[B]? =some (.cells #[v'] ty (0,0)))(hs:W.heap.size≤W'.heap.size)
  (hk:∀k,k<W.heap.size→k≠B→v.ownBlock≠some k→W'.heap[k]? =W.heap[k]?) (ho:∀k,v'.ownBlock=some k→v.ownBlock=some k∨W.heap.size≤k):Tch (TV B ty) W W':=by
 refine⟨hs,fun k h1 h2=>hk k h1 (fun e=>h2 (.inl e)) (fun e=>h2 (.inr ⟨v,hB,e⟩)),fun k ht=>?_⟩
 rcases ht with ht|⟨u,hu,huk⟩
 ·exact .inl (.inl ht)
 ·rw[hB'] at hu;simp only[Option.some.injEq,Obj.cells.injEq,Array.mk.injEq,List.cons.injEq,and_true] at hu;obtain⟨rfl,_⟩:=hu;rcases ho k huk with h|h
  ·exact .inl (.inr ⟨v,hB,h⟩)
  ·exact .inr h
theorem tch_below{W W':World}{B:Nat}{ty:TypeId}(hB:B<W.heap.size)(hb:Below W.heap.size W W'):Tch (TV B ty) W W':=
 ⟨hb.size,fun k hk _=>hb.block k hk,fun _ ht=>.inl (ht.ext (hb.block B hB))⟩
section
variable {P:Program}
theorem range_listTB{α:Type}{g:Operand}{ps:Array Tmp}{assign body:Code}{Q:Exit→Act→World→Prop}{a:Act}{w:World}{gf:Nat}{lb:Array Value}
  (hg:a.eval g=.func (.func gf) #[] lb) (eg:∀args w,(callFunc gf args).run P w=.ok (.enter gf args) w)
  {enc:α→Array Value} {l:List α} (I:World→Prop) (hit:IterTI P gf lb enc l I) (hps:∀x,(enc x).size=ps.size)
  (J:List α→List α→World→Prop) (Jx:Code→World→Prop)
  (hJ:∀d r,Steady w.heap.size (J d r)) (hJx:∀c,Steady w.heap.size (Jx c)) (hInv:∀d r W,J d r W→I W)
  (T:World→Nat→Prop) (hT0:∀d r W k,J d r W→T W k→k<W.heap.size) (hTg:∀W W' row,W.grownBy W' row→(∀q,row=some q→w.heap.size≤q∧∃o:Obj,W.heap[q]? =some o∧isBook o=true)→(∃d r,J d r W)→∀k,T W' k→T W k)
  (h0:J [] l w)
  (hround:∀(lp:Nat) (d:List α) (x:α) (r:List α) (W:World),l=d++x :: r→J d (x :: r) W→
    assign.wpIn (Fence.wide.inRound lp) 0 P (Exit.then (fun a1 W1=>Keep W W1∧J d (x :: r) W1∧Tch T W W1∧∃G:World→Prop,Steady w.heap.size G∧G W1∧∀(lp:Nat) (W2:World),J d (x :: r) W2→G W2→
     body.wpIn (Fence.wide.inRound lp) 0 P (roundEnd (fun W'=>Keep W2 W'∧J (d++ [x]) r W'∧Tch T W2 W') (fun c W'=>Keep W2 W'∧Jx c W')) a1 W2) (fun _ _ _=>False)) {tmps:=(ps.zip (enc x)).foldl (fun t (p,v)=>t.setIfInBounds p v) a.tmps,defers:= []} W)
  (hdone:∀(D:Nat) (W:World),w.heap.size≤D→J l [] W→W.heap[D]? =some (.deferred (some []))→Q .normal {a with defers:={target:=.collected D,args:=#[]} :: a.defers} W)
  (hstop:∀(D:Nat) (c:Code) (W:World),w.heap.size≤D→Jx c W→W.heap[D]? =some (.deferred (some []))→c.wpIn Fence.wide 0 P Q {a with defers:={target:=.collected D,args:=#[]} :: a.defers} W):
  (Code.rangeFunc g ps assign body).wpIn Fence.wide 0 P Q a w:=by
 refine range_outerT (enc:=enc) hg eg hit hps (fun s W=>∃d,l=d++s∧J d s W) Jx
  (fun s x a1 W=>∃G:World→Prop,Steady w.heap.size G∧G W∧∀(d:List α) (lp:Nat) (W2:World),l=d++s→J d s W2→G W2→body.wpIn (Fence.wide.inRound lp) 0 P (roundEnd (fun W'=>Keep W2 W'∧J (d++ [x]) (nxL s x) W'∧Tch T W2 W') (fun c W'=>Keep W2 W'∧Jx c W')) a1 W2)
  (fun s=>Steady.ex fun d=>(Steady.pure _ _).and (hJ d s)) hJx (fun _ _ _=>fun W W' row h hg hr=>let ⟨G,h1,h2,h3⟩:=h;⟨G,h1,h1 W W' row h2 hg hr,h3⟩) (fun s W ⟨d,_,h⟩=>hInv d s W h) T (fun s W k ⟨d,_,h⟩ ht=>hT0 d s W k h ht) (fun W W' row hg hr ⟨s,d,_,h⟩=>hTg W W' row hg hr ⟨d,s,h⟩) ⟨[],rfl,h0⟩ ?_ ?_ ?_ hstop
 ·rintro lp s x W hok ⟨d,hd,hj⟩;have hs:=okL_cons hok;generalize nxL s x=r at hs⊢;subst hs;refine wpIn_mono (hround lp d x r W hd hj) ?_;rintro e a1 W1 he;cases e with
  |normal=>
   obtain⟨h1,h2,hT1,G,h4,h5,h3⟩:=he;refine⟨h1,⟨d,hd,h2⟩,⟨G,h4,h5,fun d' lp' W2 hd' hj' hG'=>?_⟩,hT1⟩;have:d'=d:=by
    have:=hd'.symm.trans hd;exact List.append_cancel_right this
   subst this;exact h3 lp' W2 hj' hG'
  |_=>exact he.elim
 ·rintro lp s x a1 W hok ⟨d,hd,hj⟩ ⟨G,_,hG,hA⟩;refine wpIn_mono (hA d lp W hd hj hG) ?_;rintro e a3 W3 he;cases e with
  |normal=>
   refine⟨he.1,⟨d++ [x],?_,he.2.1⟩,he.2.2⟩;rw[hd,List.append_assoc]
   congr 1
   exact okL_cons hok
  |ret=>exact he
  |exit id=>exact he
  |goto t=>exact he
  |panic ch=>exact he.elim
  |outgrown=>exact he.elim
 ·rintro D s W hD hf ⟨d,hd,hj⟩ hk;have hf:s= []:=hf;subst hf;rw[List.append_nil] at hd;subst hd;exact hdone D W hD hj hk
end
end

section
open Go.RowKit
def isIt:Obj→Bool
 | .mapIter _ _ _ _=>true
 |_=>false
def isBk(o:Obj):Bool:=isBook o||isIt o
def SteadyM(B:Nat)(J:World→Prop):Prop:=
 ∀W W' row,J W→W.grownBy W' row→(∀r,row=some r→B≤r∧∃o:Obj,W.heap[r]? =some o∧isBk o=true)→J W'
theorem SteadyM.pure(B:Nat)(p:Prop):SteadyM B (fun _=>p):=fun _ _ _ h _ _=>h
theorem SteadyM.and{B:Nat}{J J':World→Prop}(h:SteadyM B J)(h':SteadyM B J'):SteadyM B (fun W=>J W∧J' W):=
 fun W W' row hj hg hr=>⟨h W W' row hj.1 hg hr,h' W W' row hj.2 hg hr⟩
theorem SteadyM.ex{B:Nat}{α:Sort _}{J:α→World→Prop}(h:∀x,SteadyM B (J x)):SteadyM B (fun W=>∃x,J x W):=
 fun W W' row ⟨x,hj⟩ hg hr=>⟨x,h x W W' row hj hg hr⟩
theorem block_keepM{W W':World}{row:Option Nat}{B k:Nat}{o:Obj}(hk:W.heap[k]? =some o)(ho:isBk o=false)(hg:W.grownBy W' row)
  (hr:∀r,row=some r→B≤r∧∃o:Obj,W.heap[r]? =some o∧isBk o=true):W'.heap[k]? =some o:=by
 refine(hg.block k (Array.getElem?_eq_some_iff.1 hk).1 (fun e=>?_)).trans hk
 obtain⟨_,o',ho',hb⟩:=hr k e.symm
 rw[hk] at ho';cases ho';rw[ho] at hb;cases hb
theorem SteadyM.block(B k:Nat){o:Obj}(ho:isBk o=false):SteadyM B (fun W=>W.heap[k]? =some o):=fun _ _ _ h hg hr=>block_keepM h ho hg hr
theorem SteadyM.cell(B:Nat)(p:Addr)(v:Value):SteadyM B (fun W=>W.cell? p=some v):=fun W W' row h hg hr=>by
 have h:W.cell? p=some v:=h
 show W'.cell? p=some v
 unfold World.cell? at h⊢
 cases ho:W.heap[p.block]? with
 |none=>simp[ho] at h
 |some o=>
  rw[block_keepM ho (by cases o<;>simp_all[isBk,isBook,isIt]) hg hr];rw[ho] at h;exact h
theorem SteadyM.below{n₀ B:Nat}{w₀:World}(hn:n₀≤w₀.heap.size)(hB:n₀≤B):SteadyM B (fun W=>Below n₀ w₀ W):=
 fun _ _ _ hs hg hr=>hs.grown hg (Nat.le_trans hn hs.size) (fun k e=>Nat.le_trans hB (hr k e).1)
theorem SteadyM.ownsRow(B:Nat)(base:Nat)(e:TypeId)(size:Nat)(v:Value)(n:Nat)(xs:List Value):SteadyM B (fun W=>W.ownsRow base e size v n xs):=
 fun W W' row h hg hr=>by
  refine⟨h.1,?_⟩;rcases h.2 with h2|⟨g,cap,cur,hv,hb,hh,r⟩
  ·exact Or.inl h2
  ·exact Or.inr ⟨g,cap,cur,hv,hb,block_keepM hh rfl hg hr,r⟩
theorem SteadyM.ext{B:Nat}{J:World→Prop}(h:SteadyM B J){W W':World}(hj:J W)(hb:Below W.heap.size W W'):J W':=
 h W W' none hj ⟨hb.os,hb.tape,hb.output,hb.size,fun k hk _=>hb.block k hk⟩ (fun r e=>by cases e)
theorem SteadyM.put{B:Nat}{J:World→Prop}(h:SteadyM B J){W:World}{l:Nat}{o:Obj}(o':Obj)(hj:J W)(hl:B≤l)(ho:W.heap[l]? =some o)(hb:isBk o=true):J (W.putObj l o'):=
 h W _ (some l) hj (grownBy_putObj' W l o') (fun r e=>by cases e;exact⟨hl,o,ho,hb⟩)
theorem SteadyM.size(B n:Nat):SteadyM B (fun W=>n<W.heap.size):=fun _ _ _ h hg _=>Nat.lt_of_lt_of_le h hg.size
theorem SteadyM.ownR{α:Type}{e:TypeId}{size:Nat}{cs:α→List Value}(D base:Nat)(v:Value)(ls:List α):SteadyM D (fun W=>OwnR e size cs W base v ls):=(SteadyM.ownsRow _ _ _ _ _ _ _).and (SteadyM.pure _ _)
def IterM{σ α:Type}(P:Program)(gf:Nat)(lb:Array Value)(enc:α→Array Value)(ok:σ→α→Prop)(nx:σ→α→σ)(s0:σ)(Fin:σ→Prop)(Inv:σ→World→Prop):Prop:=
 ∀(l:Nat) (K:σ→World→Prop) (Kx:World→Prop) (T:World→Nat→Prop) (W0:World),
  (∀s W W' row,K s W→W.grownBy W' row→(∀q,row=some q→W0.heap.size≤q∧∃o:Obj,W.heap[q]? =some o∧isIt o=true)→K s W')→(∀W W',Kx W→Below W.heap.size W W'→Kx W')→(∀s W,K s W→Inv s W)→
  (∀s W k,K s W→T W k→k<W.heap.size)→(∀s W W' row k,K s W→W.grownBy W' row→(∀q,row=some q→W0.heap.size≤q∧∃o:Obj,W.heap[q]? =some o∧isIt o=true)→T W' k→T W k)→
  (∀s x W,ok s x→K s W→YieldAt Fence.wide 0 P l (enc x) W fun e W'=>(e=.returned (.bool true)∧K (nx s x) W'∧Tch T W W')∨(e=.returned (.bool false)∧Kx W'))→
  K s0 W0→CallsIn Fence.wide 0 P gf (#[.func (.yield l) #[] #[]]++lb) W0 fun e W'=>(∃v,e=.returned v)∧((∃s,Fin s∧K s W')∨Kx W')
theorem range_outerM{P:Program}{σ α:Type}{g:Operand}{ps:Array Tmp}{assign body:Code}{Q:Exit→Act→World→Prop}{a:Act}{w:World}{gf:Nat}{lb:Array Value}
  (hg:a.eval g=.func (.func gf) #[] lb) (eg:∀args w,(callFunc gf args).run P w=.ok (.enter gf args) w)
  {enc:α→Array Value} {ok:σ→α→Prop} {nx:σ→α→σ} {s0:σ} {Fin:σ→Prop} {Inv:σ→World→Prop} (hit:IterM P gf lb enc ok nx s0 Fin Inv)
  (hps:∀x,(enc x).size=ps.size)
  (J:σ→World→Prop) (Jx:Code→World→Prop) (A:σ→α→Act→World→Prop)
  (hJ:∀s,SteadyM w.heap.size (J s)) (hJx:∀c,SteadyM w.heap.size (Jx c)) (hA:∀s x a,SteadyM w.heap.size (A s x a)) (hInv:∀s W,J s W→Inv s W)
  (T:World→Nat→Prop) (hT0:∀s W k,J s W→T W k→k<W.heap.size) (hTg:∀W W' row,W.grownBy W' row→(∀r,row=some r→w.heap.size≤r∧∃o:Obj,W.heap[r]? =some o∧isBk o=true)→(∃s,J s W)→∀k,T W' k→T W k)
  (h0:J s0 w)
  (hassign:∀(l:Nat) (s:σ) (x:α) (W:World),ok s x→J s W→
    assign.wpIn (Fence.wide.inRound l) 0 P (Exit.then (fun a1 W1=>Keep W W1∧J s W1∧A s x a1 W1∧Tch T W W1) (fun _ _ _=>False)) {tmps:=(ps.zip (enc x)).foldl (fun t (p,v)=>t.setIfInBounds p v) a.tmps,defers:= []} W)
  (hbody:∀(l:Nat) (s:σ) (x:α) (a1:Act) (W:World),ok s x→J s W→A s x a1 W→
    body.wpIn (Fence.wide.inRound l) 0 P (roundEnd (fun W'=>Keep W W'∧J (nx s x) W'∧Tch T W W') (fun c W'=>Keep W W'∧Jx c W')) a1 W)
  (hdone:∀(D:Nat) (s:σ) (W:World),w.heap.size≤D→Fin s→J s W→W.heap[D]? =some (.deferred (some []))→Q .normal {a with defers:={target:=.collected D,args:=#[]} :: a.defers} W)
  (hstop:∀(D:Nat) (c:Code) (W:World),w.heap.size≤D→Jx c W→W.heap[D]? =some (.deferred (some []))→c.wpIn Fence.wide 0 P Q {a with defers:={target:=.collected D,args:=#[]} :: a.defers} W):
  (Code.rangeFunc g ps assign body).wpIn Fence.wide 0 P Q a w:=by
 refine wpIn_rangeFunc ?_
 intro fn hfn
 obtain⟨rec,hrec⟩:∃rec:LoopState→Option Code→Loop,rec=fun st pe=>{state:=st,pending:=pe,fn,tmps:=a.tmps,params:=ps,assign,body,defers:=w.heap.size}:=⟨_,rfl⟩
 obtain⟨W1,hW1⟩:∃W1,(w.alloc (.deferred (some []))).alloc (.loop (rec .ready none))=W1:=⟨_,rfl⟩
 have hL1:W1.heap[w.heap.size+1]? =some (.loop (rec .ready none)):=by
  rw[←hW1];have:=World.alloc_heap_new (w.alloc (.deferred (some []))) (.loop (rec .ready none));rwa [World.size_alloc] at this
 have hK1:W1.heap[w.heap.size]? =some (.deferred (some [])):=by
  rw[←hW1];exact(Below.heap_alloc _ _ _ (by simp)).trans (World.alloc_heap_new w _)
 have hb1:Below w.heap.size w W1:=by
  rw[←hW1];exact((Below.refl _ w).alloc (Nat.le_refl _) _).alloc (by simp) _
 have hI1:J s0 W1:=(hJ s0).ext h0 hb1
 have keepE:∀{W W':World} {k:Nat} {o:Obj},W.heap[k]? =some o→Below W.heap.size W W'→W'.heap[k]? =some o:=
  fun hk hb=>(hb.block _ (Array.getElem?_eq_some_iff.1 hk).1).trans hk
 refine⟨w.heap.size+1,[{target:=.collected w.heap.size,args:=#[]}],W1,{target:=.fn (.func gf) lb,args:=#[.func (.yield (w.heap.size+1)) #[] #[]]},W1,gf,
  #[.func (.yield (w.heap.size+1)) #[] #[]]++lb,W1,?_,?_,?_,?_,fun h=>by simp[Fence.wide] at h,?_⟩
 ·rw[←hW1,hrec];exact run_enterLoop_outer _ _ _ _ _
 ·simp only[resolve,hg];simp[go_sem]
 ·intro f' hf';trivial
 ·simp[invoke,go_sem,eg]
 ·refine(hit (w.heap.size+1)
   (fun s W=>J s W∧W.heap[w.heap.size+1]? =some (.loop (rec .ready none))∧W.heap[w.heap.size]? =some (.deferred (some [])))
   (fun W=>∃c,Jx c W∧W.heap[w.heap.size+1]? =some (.loop (rec .done (some c)))∧W.heap[w.heap.size]? =some (.deferred (some [])))
   (fun W k=>T W k∨k=w.heap.size+1∨k=w.heap.size)
   W1 (fun s A B row h hg hr=>by
    have hz:W1.heap.size=w.heap.size+1+1:=by rw[←hW1];simp
    refine⟨hJ s A B row h.1 hg (fun r e=>?_),(hg.block _ (Array.getElem?_eq_some_iff.1 h.2.1).1 (fun e=>?_)).trans h.2.1,(hg.block _ (Array.getElem?_eq_some_iff.1 h.2.2).1 (fun e=>?_)).trans h.2.2⟩
    ·obtain⟨h1,o,h2,h3⟩:=hr r e;exact⟨by omega,o,h2,by unfold isBk;rw[h3];simp⟩
    ·obtain⟨h1,_⟩:=hr _ e.symm;omega
    ·obtain⟨h1,_⟩:=hr _ e.symm
     omega)
   (fun A B h hb=>by obtain⟨c,h1,h2,h3⟩:=h;exact⟨c,(hJx c).ext h1 hb,keepE h2 hb,keepE h3 hb⟩)
   (fun s W h=>hInv s W h.1)
   (fun s W k h ht=>by
     rcases ht with ht|rfl|rfl
     ·exact hT0 s W k h.1 ht
     ·exact(Array.getElem?_eq_some_iff.1 h.2.1).1
     ·exact(Array.getElem?_eq_some_iff.1 h.2.2).1)
   (fun s A B row k h hg hr ht=>by
     have hz:W1.heap.size=w.heap.size+1+1:=by rw[←hW1];simp
     rcases ht with ht|ht
     ·exact .inl (hTg A B row hg (fun r e=>by
       obtain⟨h1,o,h2,h3⟩:=hr r e
       exact⟨by omega,o,h2,by unfold isBk;rw[h3];simp⟩) ⟨s,h.1⟩ k ht)
     ·exact .inr ht)
   ?_ ⟨hI1,hL1,hK1⟩).mono ?_
  ·rintro s x W hok ⟨hi,hl,hk⟩;have hy:=run_yield (P:=P) (args:=enc x) hl (by rw[hrec];exact hps x);rw[hrec] at hy;refine⟨fn,_,assign,body,hy,roundIn_of_wpIn hfn (wpIn_mono (hassign _ s x W hok hi) ?_)⟩;rintro e a1 V hp;cases e with
   |normal=>
    obtain⟨hkp,hiV,hAV,hTV⟩:=hp;have hlV:=hkp _ _ hl rfl;have hkV:=hkp _ _ hk rfl;have hlt:w.heap.size+1<V.heap.size:=(Array.getElem?_eq_some_iff.1 hlV).1;refine⟨_,run_beginRound hlV (by rw[hrec]),?_⟩;have hl2:(V.putObj (w.heap.size+1) (.loop {rec .ready none with state:=.busy})).heap[w.heap.size+1]? =some (.loop {rec .ready none with state:=.busy}):=World.putObj_heap_same hlt;have hk2:(V.putObj (w.heap.size+1) (.loop {rec .ready none with state:=.busy})).heap[w.heap.size]? =some (.deferred (some [])):=(World.putObj_heap_other (by omega)).trans hkV;refine wpIn_mono (hbody _ s x a1 _ hok ((hJ s).put _ hiV (by omega) hlV rfl) ((hA s x a1).put _ hAV (by omega) hlV rfl)) ?_
    have fin:∀(jump:Option Code) (W3:World),Keep (V.putObj (w.heap.size+1) (.loop {rec .ready none with state:=.busy})) W3→
      (Instr.endRound (w.heap.size+1) jump).run P W3=.ok (.bool jump.isNone) (W3.putObj (w.heap.size+1) (.loop (rec (if jump.isNone then .ready else .done) jump)))∧
      W3.heap[w.heap.size+1]? =some (.loop {rec .ready none with state:=.busy})∧
      (W3.putObj (w.heap.size+1) (.loop (rec (if jump.isNone then .ready else .done) jump))).heap[w.heap.size+1]? =some (.loop (rec (if jump.isNone then .ready else .done) jump))∧
      (W3.putObj (w.heap.size+1) (.loop (rec (if jump.isNone then .ready else .done) jump))).heap[w.heap.size]? =some (.deferred (some [])):=fun jump W3 hk3=>by
     have hl3:=hk3 _ _ hl2 rfl;have:=run_endRound (P:=P) jump hl3;rw[hrec] at this⊢;exact⟨this,by rw[hrec] at hl3;exact hl3,World.putObj_heap_same (Array.getElem?_eq_some_iff.1 hl3).1,(World.putObj_heap_other (by omega)).trans (hk3 _ _ hk2 rfl)⟩
    rintro e a3 W3 hp;cases e with
    |normal=>
     obtain⟨hk3,hi3,hT3⟩:=hp;obtain⟨hr,hl3,hl4,hk4⟩:=fin none W3 hk3;refine⟨_,_,hr,.inl ⟨rfl,⟨(hJ _).put _ hi3 (by omega) hl3 rfl,hl4,hk4⟩,?_⟩⟩;have g1:=grown_put V (w.heap.size+1) (.loop {rec .ready none with state:=.busy});have g2:=grown_put W3 (w.heap.size+1) (.loop (rec (if (none:Option Code).isNone then .ready else .done) none));have t1:∀k,T (V.putObj (w.heap.size+1) (.loop {rec .ready none with state:=.busy})) k→T V k:=hTg _ _ _ g1 (fun r hr=>by cases hr;exact⟨by omega,_,hlV,rfl⟩) ⟨s,hiV⟩;have t2:∀k,T (W3.putObj (w.heap.size+1) (.loop (rec (if (none:Option Code).isNone then .ready else .done) none))) k→T W3 k:=hTg _ _ _ g2 (fun r hr=>by cases hr;exact⟨by omega,_,hl3,rfl⟩) ⟨_,hi3⟩;have z1:(V.putObj (w.heap.size+1) (.loop {rec .ready none with state:=.busy})).heap.size=V.heap.size:=by simp
     have z2:(W3.putObj (w.heap.size+1) (.loop (rec (if (none:Option Code).isNone then .ready else .done) none))).heap.size=W3.heap.size:=by simp
     have s1:=hTV.1;have s3:=hT3.1;rw[z1] at s3;refine⟨by rw[z2];omega,fun k hk hn=>?_,fun k hk=>?_⟩
     ·have n1:k≠w.heap.size+1:=fun e=>hn (.inr (.inl e));have n0:¬T W k:=fun e=>hn (.inl e);have m1:¬T V k:=fun e=>(hTV.2.2 k e).elim n0 (by omega);have m2:=fun e=>m1 (t1 k e);rw[World.putObj_heap_other n1,hT3.2.1 k (by rw[z1];omega) m2,World.putObj_heap_other n1,hTV.2.1 k hk n0]
     ·rcases hk with hk|hk
      ·rcases hT3.2.2 k (t2 k hk) with h|h
       ·rcases hTV.2.2 k (t1 k h) with h|h
        ·exact .inl (.inl h)
        ·exact .inr h
       ·rw[z1] at h;exact .inr (by omega)
      ·exact .inl (.inr hk)
    |ret=>
     obtain⟨hk3,hi3⟩:=hp;obtain⟨hr,hl3,hl4,hk4⟩:=fin (some .ret) W3 hk3;exact⟨_,_,hr,.inr ⟨rfl,.ret,(hJx _).put _ hi3 (by omega) hl3 rfl,hl4,hk4⟩⟩
    |exit id=>
     obtain⟨hk3,hi3⟩:=hp;obtain⟨hr,hl3,hl4,hk4⟩:=fin (some (.exit id)) W3 hk3;exact⟨_,_,hr,.inr ⟨rfl,.exit id,(hJx _).put _ hi3 (by omega) hl3 rfl,hl4,hk4⟩⟩
    |goto t=>
     obtain⟨hk3,hi3⟩:=hp;obtain⟨hr,hl3,hl4,hk4⟩:=fin (some (.goto t)) W3 hk3;exact⟨_,_,hr,.inr ⟨rfl,.goto t,(hJx _).put _ hi3 (by omega) hl3 rfl,hl4,hk4⟩⟩
    |panic ch=>exact hp.elim
    |outgrown=>exact hp.elim
   |exit id=>exact hp.elim
   |goto t=>exact hp.elim
   |ret=>exact hp.elim
   |panic chain=>exact hp.elim
   |outgrown=>exact hp.elim
  ·rintro e W2 ⟨⟨v,rfl⟩,(⟨s,hS,hi,hl,hk⟩|⟨c,hi,hl,hk⟩)⟩
   ·exact⟨none,_,by have:=run_endLoop (P:=P) hl (by rw[hrec];simp);rw[hrec] at this;exact this,hdone _ s _ (Nat.le_refl _) hS ((hJ s).put _ hi (by omega) hl rfl) ((World.putObj_heap_other (by omega)).trans hk)⟩
   ·exact⟨some c,_,by have:=run_endLoop (P:=P) hl (by rw[hrec];simp);rw[hrec] at this;exact this,hstop _ c _ (Nat.le_refl _) ((hJx c).put _ hi (by omega) hl rfl) ((World.putObj_heap_other (by omega)).trans hk)⟩
end

section
open Go.RowKit
def setA(f:Nat→Bool):Array Value:=((List.range 200).map fun j=>Value.bool (f j)).toArray
theorem setA_size(f:Nat→Bool):(setA f).size=200:=by simp[setA]
theorem setA_at(f:Nat→Bool)(j:Nat)(h:j<200):(setA f)[j]? =some (.bool (f j)):=by simp[setA,h]
theorem setA_put(f:Nat→Bool)(j:Nat)(h:j<200)(b:Bool):(setA f).setIfInBounds j (.bool b)=setA (fun k=>if k=j then b else f k):=by
 apply Array.ext_getElem?
 intro k
 by_cases hk:k<200
 ·rw[Array.getElem?_setIfInBounds,setA_at f k hk,setA_at _ k hk];by_cases e:j=k
  ·subst e;simp[setA_size,h]
  ·rw[if_neg e,if_neg (fun x=>e x.symm)]
 ·rw[Array.getElem?_eq_none (by simp[setA_size];omega),Array.getElem?_eq_none (by simp[setA_size];omega)]
theorem setA_all(f:Nat→Bool):(setA f).all (·.oneCell')=true:=by
 rw[Array.all_eq_true_iff_forall_mem]
 intro v hv
 simp[setA] at hv
 obtain⟨j,_,rfl⟩:=hv
 rfl
end

section
open Go.RowKit
theorem none1_any(x:Int)(w:World):Calls Tryz.prog 166 (#[.int .i64 x]++ #[]) w fun e w'=>e=.returned (.bool (x != 0))∧Below w.heap.size w w':=by
 show Calls Tryz.prog 166 #[.int .i64 x] w _
 go_enter Tryz.func166,Tryz.ntmps166
 go_wp2
 go_ret
 exact⟨rfl,Below.refl _ _⟩
theorem call_none1(args:Array Value)(w:World):(callFunc 166 args).run Tryz.prog w=.ok (.enter 166 args) w:=by kernel_rfl
def noneB(xs:List Int):Bool:= !xs.any (fun x=>x != 0)
theorem none_any(a:Option Addr)(n c:Nat)(xs:List Int)(w:World)(h:Ints w a n xs):
  Calls Tryz.prog 134 #[.slice a n c] w fun e w'=>e=.returned (.bool (noneB xs))∧Below w.heap.size w w':=by
 have H:=Lib.hid h
 clear h
 go_enter Tryz.func134,Tryz.ntmps134
 go_wp2_with (go_at_call 20;refine(containsFunc_any _ #[] call_none1 (fun x=>x != 0) a n c xs w (fun x W _ _=>none1_any x W) H.out).mono ?_;rintro e w' ⟨rfl,hb'⟩;have HB':=Lib.hid hb';clear hb')
 go_ret
 exact⟨rfl,HB'.out⟩
theorem variable_any(n:Int)(w:World):Calls Tryz.prog 110 #[.int .i64 n] w fun e w'=>e=.returned (.bool (varB n))∧w=w':=by
 by_cases h1:1≤n
 ·have d1:decide (1≤n)=true:=by simpa using h1
  have HE:Hid (varB n=decide (n≤200)):=by rw[Hid,varB,decide_eq_decide];omega
  go_enter Tryz.func110,Tryz.ntmps110
  go_wp2
  go_ret
  exact⟨by rw[HE.out];rfl,rfl⟩
 ·have d1:decide (1≤n)=false:=by simpa using h1
  have HE:Hid (varB n=false):=by rw[Hid,varB,decide_eq_false_iff_not];omega
  go_enter Tryz.func110,Tryz.ntmps110
  go_wp2
  go_ret
  exact⟨by rw[HE.out];rfl,rfl⟩
def fitsV(b:Bool)(n:Int):Bool:=if b then varB n else decide (n=0)
theorem fits_any(b:Bool)(n:Int)(w:World):Calls Tryz.prog 135 #[.bool b,.int .i64 n] w fun e w'=>e=.returned (.bool (fitsV b n))∧w=w':=by
 cases b with
 |true=>
  go_enter Tryz.func135,Tryz.ntmps135
  go_wp2_with (go_at_call 110;refine(variable_any _ _).mono ?_;rintro e w' ⟨rfl,rfl⟩)
  go_ret
  exact⟨rfl,rfl⟩
 |false=>
  have HE:Hid (fitsV false n=(n==0)):=by
   rw[Hid,fitsV,if_neg (by simp)];by_cases h:n=0<;>simp[h]
  go_enter Tryz.func135,Tryz.ntmps135
  go_wp2
  go_ret
  exact⟨by rw[HE.out];rfl,rfl⟩
abbrev termV(t:TermD):Value:=.agg #[.int .i64 t.kind,.int .i64 t.a,.int .i64 t.t0,.int .i64 t.t1]
abbrev termO(t:TermD):Obj:=.cells #[.int .i64 t.kind,.int .i64 t.a,.int .i64 t.t0,.int .i64 t.t1] 65
def TermOK(t:TermD):Prop:=I64 t.kind∧I64 t.a∧I64 t.t0∧I64 t.t1
theorem ints_lit{W:World}{g o:Nat}{cells:Array Value}{t:TypeId}(hg:W.heap[g]? =some (.cells cells t (0,0)))(xs:List Int)(hx:∀x∈xs,I64 x)(hn:xs.length≤1000)(hc:∀k,k<xs.length→cells[o+k]? =some (.int .i64 (xs.getD k 0))):Ints W (some ⟨g,o,none⟩) xs.length xs:=
 ⟨rfl,by omega,fun k hk=>⟨g,o,rfl,by rw[cell_of_row _ _ _ _ _ _ hg];exact hc k hk,hx _ (by rw[List.getD_eq_getElem?_getD,List.getElem?_eq_getElem hk];exact List.getElem_mem _)⟩⟩
theorem heap_at(W:World)(o:Obj)(H:Nat)(hH:W.heap.size=H):(W.alloc o).heap[H]? =some o:=by subst hH;exact heap_alloc_new _ _
def TermPost(t:TermD)(w:World)(e:Ending)(w':World):Prop:=e=.returned (.bool (termB t))∧Below w.heap.size w w'
theorem isTerm_any(t:TermD)(w:World)(h:TermOK t):Calls Tryz.prog 88 #[termV t] w (TermPost t w):=by
 obtain⟨⟨h1,h2⟩,⟨h3,h4⟩,⟨h5,h6⟩,h7,h8⟩:=h
 obtain⟨k,a,x,y⟩:=t
 simp only at h1 h2 h3 h4 h5 h6 h7 h8
 have HX:=Lib.hid (show∀z∈[a,x,y],I64 z by simp[I64];omega)
 have box:∀(W:World),Below w.heap.size w W→∀W',Below W.heap.size W W'→Below w.heap.size w W':=fun W h1 W' h2=>ext_trans h1 h2
 have HBX:=Lib.hid box
 clear box
 by_cases k1:k=1
 ·subst k1;have HE:Hid (termB ⟨1,a,x,y⟩=noneB [a,y]):=by
   rw[Hid,Bool.eq_iff_iff];simp[termB,noneB]
  go_enter Tryz.func88,Tryz.ntmps88
  go_wp2_with (go_at_call 134;refine(none_any _ _ _ [a,y] _ (ints_lit (heap_at _ _ _ (by simp)) [a,y] (fun z hz=>HX.out z (by simp at hz⊢;omega)) (by simp) (fun k hk=>by match k,hk with|0,_=>rfl|1,_=>rfl))).mono ?_;rintro e w' ⟨rfl,hb'⟩;have HB':=Lib.hid hb';clear hb')
  go_ret
  exact⟨by rw[HE.out];rfl,HBX.out _ ((ext_alloc _ _).alloc (by simp) _) _ HB'.out⟩
 ·by_cases k2:k=2
  ·subst k2;have HE:Hid (termB ⟨2,a,x,y⟩=varB a):=by
    rw[Hid,Bool.eq_iff_iff];simp[termB]
   go_enter Tryz.func88,Tryz.ntmps88
   go_wp2_with (go_at_call 110;refine(variable_any _ _).mono ?_;rintro e w' ⟨rfl,rfl⟩)
   go_ret
   exact⟨by rw[HE.out];rfl,ext_alloc _ _⟩
  ·by_cases k3:k=3
   ·subst k3;by_cases hf:fitsV (a != 0) a=true
    ·have HE:Hid (termB ⟨3,a,x,y⟩=noneB [x,y]):=by
      rw[Hid,Bool.eq_iff_iff];unfold fitsV at hf;by_cases ha:a=0
      ·simp[termB,noneB,ha]
      ·simp[ha] at hf;simp[termB,noneB,hf]
     have HF:=Lib.hid hf;clear hf
     go_enter Tryz.func88,Tryz.ntmps88
     go_wp2_with (first
      |(go_at_call 134;refine(none_any _ _ _ [x,y] _ (ints_lit (heap_alloc_new _ _) [x,y] (fun z hz=>HX.out z (by simp at hz⊢;omega)) (by simp) (fun k hk=>by match k,hk with|0,_=>rfl|1,_=>rfl))).mono ?_;rintro e w' ⟨rfl,hb'⟩;have HB':=Lib.hid hb';clear hb')
      |(go_at_call 135;refine(fits_any _ _ _).mono ?_;rintro e w' ⟨rfl,rfl⟩;rw[HF.out]))
     go_ret
     exact⟨by rw[HE.out];rfl,HBX.out _ (ext_alloc _ _) _ HB'.out⟩
    ·have HE:Hid (termB ⟨3,a,x,y⟩=false):=by
      rw[Hid,Bool.eq_false_iff];unfold fitsV at hf;by_cases ha:a=0
      ·simp[ha] at hf
      ·simp[ha] at hf;simp[termB,hf,ha]
     have hf':fitsV (a != 0) a=false:=by simpa using hf
     have HF:=Lib.hid hf';clear hf hf'
     go_enter Tryz.func88,Tryz.ntmps88
     go_wp2_with (go_at_call 135;refine(fits_any _ _ _).mono ?_;rintro e w' ⟨rfl,rfl⟩;rw[HF.out])
     go_ret
     exact⟨by rw[HE.out];rfl,ext_alloc _ _⟩
   ·have b1:(k==1)=false:=by simpa using k1
    have b2:(k==2)=false:=by simpa using k2
    have b3:(k==3)=false:=by simpa using k3
    by_cases k4:k=4
    ·subst k4;have HE:Hid (termB ⟨4,a,x,y⟩=noneB [a,x,y]):=by
      rw[Hid,Bool.eq_iff_iff];simp[termB,noneB]
     clear b1 b2 b3 k1 k2 k3
     go_enter Tryz.func88,Tryz.ntmps88
     go_wp2_with (go_at_call 134;refine(none_any _ _ _ [a,x,y] _ (ints_lit (heap_at _ _ _ (by simp)) [a,x,y] (fun z hz=>HX.out z hz) (by simp) (fun k hk=>by match k,hk with|0,_=>rfl|1,_=>rfl|2,_=>rfl))).mono ?_;rintro e w' ⟨rfl,hb'⟩;have HB':=Lib.hid hb';clear hb')
     go_ret
     exact⟨by rw[HE.out];rfl,HBX.out _ ((ext_alloc _ _).alloc (by simp) _) _ HB'.out⟩
    ·have HE:Hid (termB ⟨k,a,x,y⟩=false):=by
      rw[Hid,Bool.eq_false_iff];simp[termB,k1,k2,k3,k4]
     have b4:(k==4)=false:=by simpa using k4
     clear k1 k2 k3 k4
     go_enter Tryz.func88,Tryz.ntmps88
     go_wp2
     go_ret
     exact⟨by rw[HE.out];rfl,ext_alloc _ _⟩
end
end Go.Proofs.YtnmkjliioogbgaaGreatDoor
