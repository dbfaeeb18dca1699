/-
 Regions that draw their order:(1) reads and calls that yield one value in a whole class of worlds;(2) reads beside one chain of operations that turn memory. In a function's own frame and in a round's. No program in sight.
-/
import Derived.Test.YthgebcfohnlhlaaGreatDoorRows2
import Derived.OrdersHeld
import Derived.Maps.AppendAt
import Derived.Deep.RegionHeld3
import Derived.Test.YthgebcfohnlhlaaGreatDoorNR
import Derived.Laws.OwnMore
import Derived.Test.YthgebcfohnlhlaaGreatDoorRows
import Derived.ChangeKeysEq
import Derived.WalkSpells
import Derived.Deep.Cut
import Derived.Deep.CutRange
import Derived.Deep.DeepCutAuto
namespace Go.Proofs.YthgebcfohnlhlaaGreatDoor
set_option linter.unusedSimpArgs false
set_option linter.unusedVariables false
set_option linter.unusedSectionVars false
set_option maxRecDepth 100000
set_option maxHeartbeats 40000000
section
open Go.RowKit
structure ExtW(w:World) where
 val:World
 ext:Below w.heap.size w val
instance(w:World):Nonempty (ExtW w):=⟨⟨w,Below.refl _ _⟩⟩
theorem ExtW.cell{w:World}{p:Addr}{v:Value}(h:w.cell? p=some v)(n:ExtW w):n.val.cell? p=some v:=cell_ext n.ext h
theorem quiet_ext{P:Program}{f:FuncId}{args:Array Value}{w:World}{n:ExtW w}{v:Value}
  (h:Calls P f args n.val fun e w'=>e=.returned v∧Below n.val.heap.size n.val w'):Calls P f args n.val fun e w''=>e=.returned v∧∃m:ExtW w,w''=m.val:=
 h.mono fun _ w' ⟨he,hb⟩=>⟨he,⟨w',ext_trans n.ext hb⟩,rfl⟩
theorem quiet_ext_same{P:Program}{f:FuncId}{args:Array Value}{w:World}{n:ExtW w}{v:Value}
  (h:Calls P f args n.val fun e w'=>e=.returned v∧n.val=w'):Calls P f args n.val fun e w''=>e=.returned v∧∃m:ExtW w,w''=m.val:=
 h.mono fun _ _ ⟨he,hb⟩=>⟨he,n,hb.symm⟩
theorem region_ext{P:Program}{id:Nat}{Q:Exit→Act→World→Prop}{a:Act}{w:World}{ol:List Oper}(hm:P.follows .mixedOrders=true)(hB:Region.lexB .any ol.toArray=true)
  (h:wpQuiet P ol.toArray (fun w'=>∃n:ExtW w,w'=n.val) (fun a'=>∀w',(∃n:ExtW w,w'=n.val)→Q .normal a' w') ol a):(Code.region id ol.toArray true).wp P Q a w:=
 wp_region_quiet (C:=fun w'=>∃n:ExtW w,w'=n.val) hm hB ⟨⟨_,ext_drewN (Below.refl _ _) 1⟩,rfl⟩ (by simpa using h)
theorem round_class{P:Program}{id:Nat}{Q:Exit→Act→World→Prop}{a:Act}{w:World}{ol:List Oper}{l:Nat}{C:World→Prop}(hm:P.follows .mixedOrders=true)(hB:Region.lexB .any ol.toArray=true)
  (hn:ol.all notDefer=true) (hQ:¬LetsOut Q) (hC:C {w with drawn:=w.drawn+1})
  (h:wpQuiet P ol.toArray C (fun a'=>∀w',C w'→Q .normal a' w') ol a):(Code.region id ol.toArray true).wpIn (Fence.wide.inRound l) 0 P Q a w:=by
 refine wpIn_region_draw fun t=>?_
 refine wpOpsIn_of l (fun i o ho=>?_) hQ _ _ _ ?_
 ·rw[List.all_eq_true] at hn
  exact hn o (by
   have:ol[i]? =some o:=by simpa using ho
   exact List.mem_of_getElem? this)
 ·simp only[Region.schedule,hm,Bool.true_or,if_true];simp only[Region.lexB,Bool.and_eq_true] at hB;refine wpAny_sound _ t _ a _ ?_;refine wpAny_of_quiet (C:=C) (Q:=fun a'=>∀w',C w'→Q .normal a' w') (fun _ w' hw' h=>h w' hw') _ _ _ _ hC ?_;have:=wpAnyQ_lex (C:=C) (md:=.any) hB.1 ol 0 (Array.replicate ol.toArray.size false) a (by simp) (by simpa using hB.2) h;simpa using this
theorem round_ext{P:Program}{id:Nat}{Q:Exit→Act→World→Prop}{a:Act}{w:World}{ol:List Oper}{l:Nat}(hm:P.follows .mixedOrders=true)(hB:Region.lexB .any ol.toArray=true)
  (hn:ol.all notDefer=true) (hQ:¬LetsOut Q)
  (h:wpQuiet P ol.toArray (fun w'=>∃n:ExtW w,w'=n.val) (fun a'=>∀w',(∃n:ExtW w,w'=n.val)→Q .normal a' w') ol a):(Code.region id ol.toArray true).wpIn (Fence.wide.inRound l) 0 P Q a w:=
 round_class hm hB hn hQ ⟨⟨_,ext_drewN (Below.refl _ _) 1⟩,rfl⟩ h
structure ClsW(F:World→Prop) where
 val:World
 prop:F val
theorem cls_mk{F:World→Prop}{w:World}(h:F w):∃n:ClsW F,w=n.val:=⟨⟨w,h⟩,rfl⟩
theorem cls_ne{F:World→Prop}{w:World}(h:F w):Nonempty (ClsW F):=⟨⟨w,h⟩⟩
def valOp(o:Oper):Bool:=match o.op with
 | .move _| .assign _| .pick .. | .build .. | .load .. | .binOp .. | .unOp .. | .convert .. | .slice .. | .fieldAddr .. | .field .. | .indexAddr .. | .index .. | .lookup .. | .extract .. | .makeInterface .. =>true
 | .nilCheck _=>true
 | .call {callee:=.builtin .len,..}| .call {callee:=.builtin .cap,..}| .call {callee:=.builtin .max,..}| .call {callee:=.builtin .min,..}=>true
 |_=>false
def IsVal(r:Result Next):Prop:=(∃v w,r=.ok (.value v) w)∨∃h w,r=.halt h w
theorem isVal_v{P:Program}(s:Sem Value)(w:World):IsVal ((do pure (Next.value (←s)):Sem Next).run P w):=by
 rw[Sem.run_bind]
 cases s.run P w with
 |ok x w'=>exact Or.inl ⟨x,w',by simp[Result.andThen]⟩
 |halt h w'=>exact Or.inr ⟨h,w',by simp[Result.andThen]⟩
theorem isVal_value{P:Program}(v:Value)(w:World):IsVal ((pure (Next.value v):Sem Next).run P w):=Or.inl ⟨v,w,by simp⟩
theorem isVal_bind{α:Type}{P:Program}(s:Sem α)(k:α→Sem Next)(w:World)(hk:∀x w,IsVal ((k x).run P w)):IsVal ((s >>= k).run P w):=by
 rw[Sem.run_bind]
 cases s.run P w with
 |ok x w'=>simpa[Result.andThen] using hk x w'
 |halt h w'=>exact Or.inr ⟨h,w',by simp[Result.andThen]⟩
theorem isVal_builtin{P:Program}(b:Builtin)(hb:b=.len∨b=.cap∨b=.max∨b=.min)(ts:Array TypeId)(t:TypeId)(cs:Array Bool)(args:Array Value)(w:World):IsVal ((builtin b ts t cs args).run P w):=by
 rcases hb with rfl|rfl|rfl|rfl<;>exact isVal_v _ _
theorem isVal_call{P:Program}(ρ:Operand→Value)(c:Call)(b:Builtin)(hc:c.callee=.builtin b)(hb:b=.len∨b=.cap∨b=.max∨b=.min)(t:TypeId)(w:World):
  IsVal ((do let d←resolve ρ c t;invoke d.target d.args:Sem Next).run P w):=by
 simp only[resolve,hc,Sem.run_bind,Sem.run_pure,Result.andThen]
 exact isVal_builtin b hb _ _ _ _ _
theorem isVal_panic{P:Program}(w:World):IsVal ((runtimePanic .nilDeref:Sem Next).run P w):=by
 refine Or.inr ?_
 simp[runtimePanic,Sem.run_bind,program,goPanic,Sem.run,Result.andThen]
theorem isVal_op{P:Program}(ρ:Operand→Value)(o:Oper)(h:valOp o=true)(w:World):IsVal ((execOp ρ o).run P w):=by
 unfold valOp at h
 unfold execOp
 cases ho:o.op with
 |call c=>
  simp only[ho] at h⊢;obtain⟨callee,args,ts⟩:=c;cases callee with
  |builtin b=>cases b<;>simp at h<;>exact isVal_call ρ _ _ rfl (by simp) _ _
  |value f=>simp at h
  |invoke r m=>simp at h
 |nilCheck x=>
  simp only
  split
  ·exact isVal_panic w
  ·exact isVal_panic w
  ·exact isVal_panic w
  ·split
   ·exact isVal_panic w
   ·exact isVal_bind _ _ _ (fun p w=>isVal_bind _ _ _ (fun y w=>by
     split
     ·exact isVal_bind _ _ _ (fun _ w=>isVal_value _ _)
     ·exact isVal_value _ _))
   ·exact isVal_value _ _
  ·exact isVal_value _ _
 |move x=>exact isVal_value _ _
 |assign x=>exact isVal_value _ _
 |pick c a b=>exact isVal_bind _ _ _ (fun x w=>isVal_value _ _)
 |_=>simp only[ho] at h<;>first|exact isVal_v _ _|(simp at h;done)
def wpMix(P:Program)(l:List Oper)(S:World→Prop)(Q:Exit→Act→World→Prop):List (Nat×Nat×Option (Nat×Bool))→Act→World→Prop
 | [],a,w=>Q .normal a w
 |(i,n,none) :: rest,a,w=>wpQuiet P l.toArray S (fun a'=>wpMix P l S Q rest a' w) ((l.drop i).take n) a
 |(i,n,some (e,true)) :: rest,a,w=>wpQuiet P l.toArray S (fun a'=>wpOp P l.toArray Q e (fun a'' w''=>S w''∧wpMix P l S Q rest a'' w'') a' w) ((l.drop i).take n) a
 |(i,n,some (e,false)) :: rest,a,w=>wpQuiet P l.toArray S (fun a'=>wpOp P l.toArray Q e (fun a'' w''=>wpMix P l S Q rest a'' w'') a' w) ((l.drop i).take n) a
def waits(l:List Oper):Nat→Nat→Nat→Bool
 |0,j,i=>match l[j]? with
  |some o=>o.after.any fun e=>Region.binds .any e&&e.on==i
  |none=>false
 |n+1,j,i=>waits l 0 j i||(match l[j]? with
  |some o=>o.after.any fun e=>Region.binds .any e&&waits l n e.on i
  |none=>false)
def maskOf(acc:List Nat)(o:Oper):Nat:=o.after.toList.foldl (fun m e=>if Region.binds .any e then m|||(1 <<< e.on)|||acc.getD e.on 0 else m) 0
def masks:List Oper→List Nat→List Nat
 | [],acc=>acc
 |o :: l,acc=>masks l (acc++ [maskOf acc o])
def reach(l:List Oper)(j i:Nat):Bool:=((masks l []).getD j 0).testBit i
def aloneB(l:List Oper)(j:Nat):Bool:=(List.range l.length).all fun i=>i==j||waits l 3 j i||waits l 3 i j||reach l j i||reach l i j
theorem maskOf_bit(acc:List Nat)(i:Nat):∀(es:List Edge) (m:Nat),(es.foldl (fun m e=>if Region.binds .any e then m|||(1 <<< e.on)|||acc.getD e.on 0 else m) m).testBit i=true→m.testBit i=true∨∃e∈es,Region.binds .any e=true∧(e.on=i∨(acc.getD e.on 0).testBit i=true)
 | [],m,h=>Or.inl h
 |e :: es,m,h=>by
  rw[List.foldl_cons] at h;rcases maskOf_bit acc i es _ h with h1|⟨e',he',hb⟩
  ·by_cases hb:Region.binds .any e=true
   ·rw[if_pos hb,Nat.testBit_or,Nat.testBit_or,Bool.or_eq_true,Bool.or_eq_true] at h1;rcases h1 with (h1|h1)|h1
    ·exact Or.inl h1
    ·refine Or.inr ⟨e,by simp,hb,Or.inl ?_⟩;rw[Nat.one_shiftLeft,Nat.testBit_two_pow] at h1;exact of_decide_eq_true h1
    ·exact Or.inr ⟨e,by simp,hb,Or.inr h1⟩
   ·rw[if_neg hb] at h1;exact Or.inl h1
  ·exact Or.inr ⟨e',by simp[he'],hb⟩
theorem masks_sound(l:List Oper):∀(l2:List Oper) (acc:List Nat),l.drop acc.length=l2→(∀j i,(acc.getD j 0).testBit i=true→∃n,waits l n j i=true)→∀j i,((masks l2 acc).getD j 0).testBit i=true→∃n,waits l n j i=true
 | [],acc,_,hacc=>hacc
 |o :: l2,acc,hd,hacc=>by
  have ho:l[acc.length]? =some o:=by
   have:(l.drop acc.length)[0]? =some o:=by rw[hd];rfl
   rwa [List.getElem?_drop,Nat.add_zero] at this
  refine masks_sound l l2 (acc++ [maskOf acc o]) ?_ ?_
  ·have:l.drop (acc.length+1)=l2:=by rw[←List.drop_drop,hd];rfl
   simpa using this
  ·intro j i h;by_cases hj:j<acc.length
   ·rw[List.getD_eq_getElem?_getD,List.getElem?_append_left hj,←List.getD_eq_getElem?_getD] at h;exact hacc j i h
   ·by_cases hj2:j=acc.length
    ·subst hj2;rw[List.getD_eq_getElem?_getD,List.getElem?_append_right (Nat.le_refl _),Nat.sub_self] at h;rcases maskOf_bit acc i o.after.toList 0 h with h0|⟨e,he,hb,h1⟩
     ·simp at h0
     ·have he':e∈o.after:=by simpa using he
      rcases h1 with rfl|h1
      ·refine⟨0,?_⟩;unfold waits;rw[ho];exact Array.any_eq_true'.2 ⟨e,he',by simp[hb]⟩
      ·obtain⟨n,hn⟩:=hacc _ _ h1;refine⟨n+1,?_⟩;rw[waits,ho,Bool.or_eq_true];exact Or.inr (Array.any_eq_true'.2 ⟨e,he',by simp[hb,hn]⟩)
    ·rw[List.getD_eq_getElem?_getD,List.getElem?_eq_none (by simp;omega)] at h;simp at h
theorem reach_sound{l:List Oper}{j i:Nat}(h:reach l j i=true):∃n,waits l n j i=true:=
 masks_sound l l [] rfl (fun j i h=>by simp at h) j i h
def Closed(l:List Oper)(listed:Array Bool):Prop:=∀(j:Nat) (o:Oper),l.toArray[j]? =some o→listed.getD j false=true→∀e∈o.after,Region.binds .any e=true→listed.getD e.on false=true
def okReads(l:List Oper):Nat→Nat→Array Bool→Option (Array Bool)
 |0,_,listed=>some listed
 |n+1,i,listed=>
  if (Region.ready .any l.toArray listed).contains i&&Region.free .any l.toArray listed i&&((l[i]?).map valOp).getD false then okReads l n (i+1) (listed.setIfInBounds i true) else none
def okMix(l:List Oper):List (Nat×Nat×Option (Nat×Bool))→Array Bool→Bool
 | [],listed=>(Region.ready .any l.toArray listed).isEmpty
 |(i,n,e) :: rest,listed=>
  match okReads l n i listed with
  |none=>false
  |some listed'=>
   match e with
   |none=>okMix l rest listed'
   |some (k,true)=>Region.ready .any l.toArray listed'== [k]&&okMix l rest (listed'.setIfInBounds k true)
   |some (k,false)=>Region.ready .any l.toArray listed'== [k]&&okMix l rest (listed'.setIfInBounds k true)&&aloneB l k&&rest.isEmpty
section
variable {P:Program} {l:List Oper} {S:World→Prop} {Q:Exit→Act→World→Prop}
theorem waits_listed{listed:Array Bool}(hc:Closed l listed):∀(n j i:Nat),listed.getD j false=true→waits l n j i=true→listed.getD i false=true:=by
 intro n
 induction n with
 |zero=>
  intro j i hj h;unfold waits at h
  split at h
  ·rename_i o ho
   obtain⟨e,he,hb⟩:=Array.any_eq_true'.1 h;simp only[Bool.and_eq_true,beq_iff_eq] at hb;exact hb.2▸hc j o (by simpa using ho) hj e he hb.1
  ·cases h
 |succ n ih=>
  intro j i hj h;have h0:∀(h:waits l 0 j i=true),listed.getD i false=true:=fun h=>by
   unfold waits at h
   split at h
   ·rename_i o ho
    obtain⟨e,he,hb⟩:=Array.any_eq_true'.1 h;simp only[Bool.and_eq_true,beq_iff_eq] at hb;exact hb.2▸hc j o (by simpa using ho) hj e he hb.1
   ·cases h
  rw[waits,Bool.or_eq_true] at h;rcases h with h|h
  ·exact h0 h
  ·split at h
   ·rename_i o ho
    obtain⟨e,he,hb⟩:=Array.any_eq_true'.1 h;simp only[Bool.and_eq_true] at hb;exact ih _ _ (hc j o (by simpa using ho) hj e he hb.1) hb.2
   ·cases h
theorem waits_ready{listed:Array Bool}(hc:Closed l listed){n j i:Nat}(hj:j∈Region.ready .any l.toArray listed)(h:waits l n j i=true):listed.getD i false=true:=by
 obtain⟨_,o,ho,hall⟩:=mem_ready.1 hj
 have ho':l[j]? =some o:=by simpa using ho
 have h0:∀(h:waits l 0 j i=true),listed.getD i false=true:=fun h=>by
  unfold waits at h;rw[ho'] at h;obtain⟨e,he,hb⟩:=Array.any_eq_true'.1 h;simp only[Bool.and_eq_true,beq_iff_eq] at hb;exact hb.2▸hall e he hb.1
 cases n with
 |zero=>exact h0 h
 |succ n=>
  rw[waits,Bool.or_eq_true] at h;rcases h with h|h
  ·exact h0 h
  ·rw[ho'] at h;obtain⟨e,he,hb⟩:=Array.any_eq_true'.1 h;simp only[Bool.and_eq_true] at hb;exact waits_listed hc n _ _ (hall e he hb.1) hb.2
theorem Closed.set{listed:Array Bool}(hc:Closed l listed){i:Nat}(hi:i∈Region.ready .any l.toArray listed):Closed l (listed.setIfInBounds i true):=by
 intro j o ho hl e he hb
 obtain⟨_,oi,hoi,hall⟩:=mem_ready.1 hi
 by_cases hij:i=j
 ·subst hij;rw[ho] at hoi;cases hoi;exact getD_set_true (hall e he hb)
 ·rw[getD_set_ne false hij] at hl;exact getD_set_true (hc j o ho hl e he hb)
theorem closed_none(n:Nat):Closed l (Array.replicate n false):=by
 intro j o _ hl
 rcases Nat.lt_or_ge j n with h|h
 ·simp[h] at hl
 ·simp[h] at hl
theorem not_both{i j:Nat}{listed:Array Bool}(hc:Closed l listed)(n:Nat)(hi:i∈Region.ready .any l.toArray listed)(hj:j∈Region.ready .any l.toArray listed):waits l n j i=false:=by
 cases h:waits l n j i with
 |false=>rfl
 |true=>
  have h1:=waits_ready hc hj h;have h0:=(mem_ready.1 hi).1;rcases Nat.lt_or_ge i listed.size with h'|h'
  ·simp[h'] at h0 h1;rw[h0] at h1;cases h1
  ·simp[Array.getElem?_eq_none h'] at h1
theorem not_reach{i j:Nat}{listed:Array Bool}(hc:Closed l listed)(hi:i∈Region.ready .any l.toArray listed)(hj:j∈Region.ready .any l.toArray listed):reach l j i=false:=by
 cases h:reach l j i with
 |false=>rfl
 |true=>
  obtain⟨n,hn⟩:=reach_sound h;rw[not_both hc n hi hj] at hn;cases hn
theorem not_alone{i j:Nat}{listed:Array Bool}(hc:Closed l listed)(hi:i∈Region.ready .any l.toArray listed)(hj:j∈Region.ready .any l.toArray listed)(hne:i≠j):aloneB l j=false:=by
 cases h:aloneB l j with
 |false=>rfl
 |true=>
  unfold aloneB at h;rw[List.all_eq_true] at h;have hlt:i<l.length:=by
   obtain⟨_,o,ho,_⟩:=mem_ready.1 hi;have:=(Array.getElem?_eq_some_iff.1 ho).1;simpa using this
  have:=h i (List.mem_range.2 hlt);simp only[Bool.or_eq_true,beq_iff_eq,not_both hc 3 hi hj,not_both hc 3 hj hi,not_reach hc hi hj,not_reach hc hj hi,hne] at this;simp at this
def wpAnyZ(P:Program)(l:List Oper)(Q:Exit→Act→World→Prop)(S:World→Prop):Nat→Array Bool→Act→World→Prop
 |0,listed,a,w=>Region.ready .any l.toArray listed= []∧Q .normal a w
 |fuel+1,listed,a,w=>
  (Region.ready .any l.toArray listed= []→Q .normal a w)∧
  ∀i∈Region.ready .any l.toArray listed,wpOp P l.toArray Q i (fun a' w'=>(aloneB l i=true∨S w')∧wpAnyZ P l Q S fuel (listed.setIfInBounds i true) a' w') a w
theorem wpAny_of_Z:∀(fuel:Nat) (listed:Array Bool) (a:Act) (w:World),wpAnyZ P l Q S fuel listed a w→wpAny P .any l.toArray Q fuel listed a w
 |0,_,_,_,h=>h
 |fuel+1,_,_,_,h=>⟨h.1,fun i hi=>wpOp_mono (fun a' w' h'=>wpAny_of_Z fuel _ a' w' h'.2) (h.2 i hi)⟩
theorem wpAnyZ_first{i:Nat}{oi:Oper}{v:Value}(hi:l.toArray[i]? =some oi)(hs:Region.noSelect l.toArray=true)(hQ:∀c a w,¬Q (.panic c) a w):
  ∀(fuel:Nat) (listed:Array Bool) (a:Act) (w:World),Closed l listed→Region.free .any l.toArray listed i=true→i∈Region.ready .any l.toArray listed→YieldsIf P l.toArray S oi v a→S w→
   wpAnyZ P l Q S fuel (listed.setIfInBounds i true) (a.put oi.dst v) w→wpAnyZ P l Q S (fuel+1) listed a w:=by
 have hsel:=Region.noSelect_spec hs
 have key:∀(fuel:Nat) (listed:Array Bool) (a:Act) (w:World),Closed l listed→
   (∀j oj,l.toArray[j]? =some oj→j≠i→listed.getD j true=false→(∀e∈oj.after,Region.binds .any e=true→e.on≠i)→oi.apart l.toArray oj=true)→
   i∈Region.ready .any l.toArray listed→YieldsIf P l.toArray S oi v a→S w→
   wpAnyZ P l Q S fuel (listed.setIfInBounds i true) (a.put oi.dst v) w→wpAnyZ P l Q S (fuel+1) listed a w:=by
  intro fuel
  induction fuel with
  |zero=>
   intro listed a w _ _ hr hy hS H;refine⟨fun h=>absurd (h▸hr) (by simp),fun j hj=>?_⟩;by_cases hji:j=i
   ·subst hji;exact hy.wpOp hi hS ⟨Or.inr hS,H⟩
   ·exact absurd (H.1▸ready_mono hj hji) (by simp)
  |succ fuel ih=>
   intro listed a w hcl hfree hr hy hS H;refine⟨fun h=>absurd (h▸hr) (by simp),fun j hj=>?_⟩;by_cases hji:j=i
   ·subst hji;exact hy.wpOp hi hS ⟨Or.inr hS,H⟩
   ·have hal:=not_alone hcl hr hj (Ne.symm hji);have hnw:=not_both hcl 0 hr hj;have h1:=H.2 j (ready_mono hj hji);obtain⟨hjun,oj,hoj,_⟩:=mem_ready.1 hj;have hnot:∀e∈oj.after,Region.binds .any e=true→e.on≠i:=fun e he hb heq=>by
     have:waits l 0 j i=true:=by
      unfold waits;have hoj':l[j]? =some oj:=by simpa using hoj
      rw[hoj'];exact Array.any_eq_true'.2 ⟨e,he,by simp[hb,heq]⟩
     rw[hnw] at this;cases this
    have h2:=wpOp_putIf hoj (hfree j oj hoj hji hjun hnot) (fun cs b=>hsel i oi cs b hi) (fun cs b=>hsel j oj cs b hoj) (fun c a w hp=>absurd hp (hQ _ _ _)) hy h1;refine wpOp_mono (fun a' w' h3=>?_) h2;have hS':S w':=h3.2.1.resolve_left (by rw[hal];simp);refine⟨Or.inr hS',ih (listed.setIfInBounds j true) a' w' (hcl.set hj) (fun k ok hk hki hun hno=>?_) (ready_mono hr (Ne.symm hji)) h3.1 hS' ?_⟩
    ·refine hfree k ok hk hki ?_ hno;by_cases hjk:j=k
     ·subst hjk;exact hjun
     ·rw[getD_set_ne true hjk] at hun;exact hun
    ·rw[Array.setIfInBounds_comm _ _ hji];exact h3.2.2
 intro fuel listed a w hcl hf
 exact key fuel listed a w hcl (Region.free_spec hi hf)
theorem yieldsIf_of_quiet{o:Oper}{a:Act}{K:Act→Prop}(hv:valOp o=true)(hw:Region.wanted o (yielded l.toArray a.tmps)=true)(h:o.quiet P a S K):
  ∃v,YieldsIf P l.toArray S o v a∧K (a.put o.dst v):=by
 obtain⟨v,h1,h2⟩:=h
 refine⟨v,Or.inl ⟨hw,fun w hs=>?_⟩,h2⟩
 have:=h1 w hs
 unfold Oper.quietAt at this
 rcases isVal_op (P:=P) a.eval o hv w with ⟨x,w',e⟩|⟨x,w',e⟩
 ·rw[e] at this⊢;obtain⟨rfl,rfl⟩:=this;rfl
 ·rw[e] at this;exact this.elim
theorem reads_first(hs:Region.noSelect l.toArray=true)(hQ:∀c a w,¬Q (.panic c) a w)(fuel:Nat)(w:World)(hS:S w)(K:Act→Prop):
  ∀(n i:Nat) (listed listed':Array Bool) (a:Act),Closed l listed→okReads l n i listed=some listed'→(Closed l listed'→∀a',K a'→wpAnyZ P l Q S fuel listed' a' w)→
   wpQuiet P l.toArray S K ((l.drop i).take n) a→wpAnyZ P l Q S (fuel+n) listed a w:=by
 intro n
 induction n with
 |zero=>
  intro i listed listed' a hcl hok hK h;simp only[okReads,Option.some.injEq] at hok;subst hok;simp only[List.take_zero] at h;exact hK hcl a h
 |succ n ih=>
  intro i listed listed' a hcl hok hK h;simp only[okReads] at hok
  split at hok
  ·rename_i hc
   simp only[Bool.and_eq_true] at hc;obtain⟨⟨hr,hf⟩,hv⟩:=hc;cases ho:l[i]? with
   |none=>simp[ho] at hv
   |some o=>
    simp only[ho,Option.map_some,Option.getD_some] at hv;have hlt:i<l.length:=(List.getElem?_eq_some_iff.1 ho).1;have hd:(l.drop i).take (n+1)=o :: (l.drop (i+1)).take n:=by
     rw[List.drop_eq_getElem_cons hlt,List.take_succ_cons]
     congr 1
     exact(List.getElem?_eq_some_iff.1 ho).2
    rw[hd] at h;simp only[wpQuiet] at h;have hoA:l.toArray[i]? =some o:=by simpa using ho
    have hr':i∈Region.ready .any l.toArray listed:=by simpa using hr
    have e1:fuel+(n+1)=(fuel+n)+1:=by omega
    rw[e1];by_cases hw:Region.wanted o (yielded l.toArray a.tmps)=true
    ·rw[if_pos hw] at h;obtain⟨v,hy,hk⟩:=yieldsIf_of_quiet hv hw h;exact wpAnyZ_first hoA hs hQ _ _ _ _ hcl hf hr' hy hS (ih (i+1) _ _ _ (hcl.set hr') hok hK hk)
    ·rw[if_neg hw] at h;exact wpAnyZ_first hoA hs hQ _ _ _ _ hcl hf hr' (Or.inr ⟨by simpa using hw,rfl⟩) hS (ih (i+1) _ _ _ (hcl.set hr') hok hK h)
  ·cases hok
def segFuel:List (Nat×Nat×Option (Nat×Bool))→Nat
 | []=>0
 |(_,n,none) :: rest=>segFuel rest+n
 |(_,n,some _) :: rest=>segFuel rest+1+n
theorem mix_sound(hs:Region.noSelect l.toArray=true)(hQ:∀c a w,¬Q (.panic c) a w):
  ∀(segs:List (Nat×Nat×Option (Nat×Bool))) (listed:Array Bool) (a:Act) (w:World),Closed l listed→okMix l segs listed=true→(S w∨segs= [])→wpMix P l S Q segs a w→wpAnyZ P l Q S (segFuel segs) listed a w:=by
 intro segs
 induction segs with
 |nil=>
  intro listed a w _ hok _ h;simp only[okMix,List.isEmpty_iff] at hok;exact⟨hok,h⟩
 |cons seg rest ih=>
  intro listed a w hcl hok hS0 h;have hS:S w:=hS0.resolve_right (by simp);clear hS0;obtain⟨i,n,e⟩:=seg;simp only[okMix] at hok
  split at hok
  ·cases hok
  ·rename_i listed' hr
   rcases e with _|⟨k,fl⟩
   ·simp only[wpMix] at h;exact reads_first hs hQ _ w hS _ n i listed listed' a hcl hr (fun hcl' a' ha'=>ih listed' a' w hcl' hok (Or.inl hS) ha') h
   ·cases fl with
    |true=>
     simp only[Bool.and_eq_true,beq_iff_eq] at hok;simp only[wpMix] at h;refine reads_first hs hQ _ w hS _ n i listed listed' a hcl hr (fun hcl' a' ha'=>⟨fun h0=>?_,fun j hj=>?_⟩) h
     ·rw[hok.1] at h0;cases h0
     ·have hcl2:=hcl'.set hj;rw[hok.1,List.mem_singleton] at hj;subst hj;exact wpOp_mono (fun a'' w'' hh=>⟨Or.inr hh.1,ih _ a'' w'' hcl2 hok.2 (Or.inl hh.1) hh.2⟩) ha'
    |false=>
     simp only[Bool.and_eq_true,beq_iff_eq,List.isEmpty_iff] at hok;simp only[wpMix] at h;refine reads_first hs hQ _ w hS _ n i listed listed' a hcl hr (fun hcl' a' ha'=>⟨fun h0=>?_,fun j hj=>?_⟩) h
     ·rw[hok.1.1.1] at h0;cases h0
     ·have hcl2:=hcl'.set hj;rw[hok.1.1.1,List.mem_singleton] at hj;subst hj;exact wpOp_mono (fun a'' w'' hh=>⟨Or.inl hok.1.2,ih _ a'' w'' hcl2 hok.1.1.2 (Or.inr hok.2) hh⟩) ha'
def okRegion(l:List Oper)(segs:List (Nat×Nat×Option (Nat×Bool))):Bool:=
 okMix l segs (Array.replicate l.length false)&&(segFuel segs==l.length)&&Region.noSelect l.toArray
theorem mix_any(segs:List (Nat×Nat×Option (Nat×Bool)))(hok:okRegion l segs=true)(hQ:∀c a w,¬Q (.panic c) a w){a:Act}{w:World}(hS:S w)(h:wpMix P l S Q segs a w):
  wpAny P .any l.toArray Q l.toArray.size (Array.replicate l.toArray.size false) a w:=by
 simp only[okRegion,Bool.and_eq_true,beq_iff_eq] at hok
 have:=wpAny_of_Z _ _ _ _ (mix_sound hok.2 hQ segs _ a w (closed_none _) hok.1.1 (Or.inl hS) h)
 rw[hok.1.2] at this
 simpa using this
theorem region_mix{id:Nat}{a:Act}{w:World}(S:World→Prop)(segs:List (Nat×Nat×Option (Nat×Bool)))(hm:P.follows .mixedOrders=true)(hok:okRegion l segs=true)(hS:S w.drew)
  (h:wpMix P l S (NoPanic Q) segs a w.drew):(Code.region id l.toArray true).wp P Q a w:=
 wp_region_noPanic (wp_region_any hm (mix_any segs hok (fun _ _ _ hp=>hp) hS h))
theorem round_mix{id:Nat}{a:Act}{w:World}{r:Nat}(S:World→Prop)(segs:List (Nat×Nat×Option (Nat×Bool)))(hm:P.follows .mixedOrders=true)(hok:okRegion l segs=true)(hn:l.all notDefer=true)(hQ:¬LetsOut Q)(hS:S w.drew)
  (h:wpMix P l S (NoPanic Q) segs a w.drew):(Code.region id l.toArray true).wpIn (Fence.wide.inRound r) 0 P Q a w:=by
 refine wpIn_mono (Q:=NoPanic Q) ?_ NoPanic.imp
 refine wpIn_region_draw fun t=>?_
 refine wpOpsIn_of (Q:=NoPanic Q) r (fun i o ho=>?_) hQ _ _ _ ?_
 ·rw[List.all_eq_true] at hn
  exact hn o (by
   have:l[i]? =some o:=by simpa using ho
   exact List.mem_of_getElem? this)
 ·simp only[Region.schedule,hm,Bool.true_or,if_true];exact wpAny_sound _ t _ a _ (mix_any segs hok (fun _ _ _ hp=>hp) hS h)
theorem wpOp_at{e:Nat}{o:Oper}{K:Act→World→Prop}{a:Act}{w:World}(ho:l[e]? =some o)(hg:o.guard=none)(h:o.wp P a w K Q):wpOp P l.toArray Q e K a w:=by
 unfold wpOp
 have:l.toArray[e]? =some o:=by simpa using ho
 simp only[this]
 rw[if_pos (by simp[Region.wanted,hg])]
 exact Or.inl h
theorem op_append1{o:Oper}{K:Act→World→Prop}{a:Act}(w0:World)(s x:Operand)(t e:TypeId)(ho:o.op=.call {callee:=.builtin .append,args:=#[s,x],argTypes:=#[t,t]})
  (base:Nat) (z:Value) (size bytes:Nat) (ht:P.underlying t=some (.slice e)) (hinfo:(P.info? e).map (fun i=>(i.zero,i.size,i.bytes))=some (some z,size,bytes)) (hzs:z.cells.size=size) (hsz:0<size)
  (v:Value) (n:Nat) (xs news:List Value) (hs:a.eval s=v) (hown:w0.ownsRow base e size v n xs) (H:Nat) (hH:w0.heap.size=H) (hx:a.eval x=.slice (some ⟨H,0,none⟩) 1 1) (hl:news.length=size) (h1:∀u∈news,u.oneCell'=true)
  (h63:n+1≤maxLen) (hbytes:(n+1)*bytes≤140737488355328) (hbase:base≤w0.heap.size)
  (h:∀g cap w',w'.ownsRow base e size (.slice (some ⟨g,0,none⟩) (n+1) cap) (n+1) (xs++news)→w0.grownBy w' v.ownBlock→(some g=v.ownBlock∨g=H+1)→K (a.put o.dst (.slice (some ⟨g,0,none⟩) (n+1) cap)) w'):
  o.wp P a (w0.alloc (.cells news.toArray e)) K Q:=by
 subst hH
 obtain⟨i,hi,hz,hsize,hby⟩:=info_parts hinfo
 have hnews:∀j u,news[j]? =some u→(w0.alloc (.cells news.toArray e)).cell? ((⟨w0.heap.size,0,none⟩:Addr).add j)=some u:=by
  intro j u hu;have hadd:(⟨w0.heap.size,0,none⟩:Addr).add j=⟨w0.heap.size,j,none⟩:=by unfold Addr.add;split<;>simp_all
  rw[hadd,cell_of_row _ _ _ _ _ _ (World.alloc_heap_new w0 _)];simpa using hu
 obtain⟨v',w',hrun,h2,h3,h4,h5⟩:=run_append_own_at (P:=P) (w0.alloc (.cells news.toArray e)) base t o.type e i z size bytes ht hi hz hsize hby hzs hsz v n xs (hown.alloc _) ⟨w0.heap.size,0,none⟩ 1 1 news (by omega) hnews h1 h63 hbytes (by simp;omega)
 obtain⟨g,cap,rfl⟩:∃g cap,v'=.slice (some ⟨g,0,none⟩) (n+1) cap:=by
  rcases h2.2 with ⟨_,h0⟩|⟨g,cap,cur,hv,_⟩
  ·omega
  ·exact⟨g,cap,hv⟩
 have hg:w0.grownBy w' v.ownBlock:=by
  refine⟨h3.os,h3.tape,h3.output,Nat.le_trans (by simp) h3.size,fun k hk hne=>?_⟩;rw[h3.block k (by simp;omega) hne];exact Below.heap_alloc _ _ _ hk
 unfold Oper.wp execOp
 simp only[ho,resolve,invoke,builtin,Sem.run_bind,Sem.run_pure,Result.andThen_ok,List.map_toArray,List.map_cons,List.map_nil,hs,hx,hrun]
 refine h g cap w' h2 hg ?_
 rcases h5 with h5|h5
 ·exact Or.inl (by simpa[Value.ownBlock] using h5)
 ·exact Or.inr (by simpa[Value.ownBlock] using h5)
theorem wpList_append1{ops:Array Oper}{rest:List Oper}{o:Oper}{a:Act}(hgd:o.guard=none)(w0:World)(s x:Operand)(t e:TypeId)(ho:o.op=.call {callee:=.builtin .append,args:=#[s,x],argTypes:=#[t,t]})
  (base:Nat) (z:Value) (size bytes:Nat) (ht:P.underlying t=some (.slice e)) (hinfo:(P.info? e).map (fun i=>(i.zero,i.size,i.bytes))=some (some z,size,bytes)) (hzs:z.cells.size=size) (hsz:0<size)
  (v:Value) (n:Nat) (xs news:List Value) (hs:a.eval s=v) (hown:w0.ownsRow base e size v n xs) (H:Nat) (hH:w0.heap.size=H) (hx:a.eval x=.slice (some ⟨H,0,none⟩) 1 1) (hl:news.length=size) (h1:∀u∈news,u.oneCell'=true)
  (h63:n+1≤maxLen) (hbytes:(n+1)*bytes≤140737488355328) (hbase:base≤w0.heap.size)
  (h:∀g cap w',w'.ownsRow base e size (.slice (some ⟨g,0,none⟩) (n+1) cap) (n+1) (xs++news)→w0.grownBy w' v.ownBlock→(some g=v.ownBlock∨g=H+1)→wpList P ops Q rest (a.put o.dst (.slice (some ⟨g,0,none⟩) (n+1) cap)) w'):
  wpList P ops Q (o :: rest) a (w0.alloc (.cells news.toArray e)):=
 wpList_plain hgd fun _ hK=>op_append1 w0 s x t e ho base z size bytes ht hinfo hzs hsz v n xs news hs hown H hH hx hl h1 h63 hbytes hbase fun g cap w' h2 h3 h4=>hK _ _ (h g cap w' h2 h3 h4)
theorem run_append_all(w:World)(base:Nat)(t ty e:TypeId)(z:Value)(bytes:Nat)(ht:P.underlying t=some (.slice e))(hinfo:(P.info? e).map (fun i=>(i.zero,i.size,i.bytes))=some (some z,1,bytes))(hzs:z.cells.size=1)
  (v:Value) (n:Nat) (xs:List Value) (hown:w.ownsRow base e 1 v n xs) (A:Option Addr) (m c:Nat) (news:List Value) (hl:news.length=m)
  (hr:∀j u,news[j]? =some u→∃ad,A=some ad∧w.cell? (ad.add j)=some u) (h1:∀u∈news,u.oneCell'=true)
  (h63:n+m≤maxLen) (hbytes:(n+m)*bytes≤140737488355328) (hbase:base≤w.heap.size):
  ∃v' w',(Builtin.append_ #[t,t] ty #[v,.slice A m c]).run P w=.ok v' w'∧w'.ownsRow base e 1 v' (n+m) (xs++news)∧w.grownBy w' v.ownBlock∧(v'.ownBlock=v.ownBlock∨v'.ownBlock=some w.heap.size):=by
 obtain⟨i,hi,hz,hsize,hby⟩:=info_parts hinfo
 rcases A with _|ad
 ·have hm:news= []:=by
   cases news with
   |nil=>rfl
   |cons u l=>obtain⟨ad,h,_⟩:=hr 0 u rfl;cases h
  subst hm;simp only[List.length_nil] at hl;subst hl;refine⟨v,w,?_,by simpa using hown,⟨rfl,rfl,rfl,Nat.le_refl _,fun _ _ _=>rfl⟩,Or.inl rfl⟩;rcases hown.2 with ⟨rfl,rfl⟩|⟨g,cap,cur,rfl,_,_,hnc,_⟩
  ·simp[Builtin.append_,run_underlying ht,sizeOf,typeInfo,hi,Builtin.lenOf,Builtin.firstCells]
  ·simp[Builtin.append_,run_underlying ht,sizeOf,typeInfo,hi,Builtin.lenOf,Builtin.firstCells,hnc,storeCells]
 ·obtain⟨v',w',hrun,h2,h3,_,h5⟩:=run_append_own_at (P:=P) w base t ty e i z 1 bytes ht hi hz hsize hby hzs (by omega) v n xs hown ad m c news (by omega)
   (fun j u hu=>by obtain⟨ad',h,hc⟩:=hr j u hu;cases h;exact hc) h1 h63 hbytes hbase
  exact⟨v',w',hrun,h2,h3,h5⟩
theorem wpList_appendS{ops:Array Oper}{rest:List Oper}{o:Oper}{a:Act}(w:World)(hgd:o.guard=none)(s x:Operand)(t e:TypeId)(ho:o.op=.call {callee:=.builtin .append,args:=#[s,x],argTypes:=#[t,t]})
  (base:Nat) (z:Value) (bytes:Nat) (ht:P.underlying t=some (.slice e)) (hinfo:(P.info? e).map (fun i=>(i.zero,i.size,i.bytes))=some (some z,1,bytes)) (hzs:z.cells.size=1)
  (v:Value) (n:Nat) (xs:List Value) (hs:a.eval s=v) (hown:w.ownsRow base e 1 v n xs) (A:Option Addr) (m c:Nat) (hx:a.eval x=.slice A m c) (news:List Value) (hl:news.length=m)
  (hr:∀j u,news[j]? =some u→∃ad,A=some ad∧w.cell? (ad.add j)=some u) (h1:∀u∈news,u.oneCell'=true)
  (h63:n+m≤maxLen) (hbytes:(n+m)*bytes≤140737488355328) (hbase:base≤w.heap.size)
  (h:∀v' w',w'.ownsRow base e 1 v' (n+m) (xs++news)→w.grownBy w' v.ownBlock→(v'.ownBlock=v.ownBlock∨v'.ownBlock=some w.heap.size)→wpList P ops Q rest (a.put o.dst v') w'):
  wpList P ops Q (o :: rest) a w:=by
 refine wpList_plain hgd fun K hK=>?_
 obtain⟨v',w',hrun,h2,h3,h4⟩:=run_append_all (P:=P) w base t o.type e z bytes ht hinfo hzs v n xs hown A m c news hl hr h1 h63 hbytes hbase
 unfold Oper.wp execOp
 simp only[ho,resolve,invoke,builtin,Sem.run_bind,Sem.run_pure,Result.andThen_ok,List.map_toArray,List.map_cons,List.map_nil,hs,hx,hrun]
 exact hK _ _ (h v' w' h2 h3 h4)
end
end

section
open Go.RowKit
theorem flatMap_at{α:Type}(cs:α→List Value)(size:Nat)(hs:∀x,(cs x).length=size)(l:List α)(k j:Nat)(hj:j<size)(x:α)(hx:l[k]? =some x):(l.flatMap cs)[k*size+j]? =(cs x)[j]?:=by
 induction l generalizing k with
 |nil=>simp at hx
 |cons y l ih=>
  rw[List.flatMap_cons];cases k with
  |zero=>
   simp only[List.getElem?_cons_zero,Option.some.injEq] at hx;subst hx;rw[Nat.zero_mul,Nat.zero_add,List.getElem?_append_left (by rw[hs];exact hj)]
  |succ k=>
   simp only[List.getElem?_cons_succ] at hx;rw[List.getElem?_append_right (by rw[hs,Nat.add_mul];omega),hs,show(k+1)*size+j-size=k*size+j by rw[Nat.add_mul];omega];exact ih k hx
theorem flatMap_len{α:Type}(cs:α→List Value)(size:Nat)(hs:∀x,(cs x).length=size)(l:List α):(l.flatMap cs).length=l.length*size:=by
 induction l with
 |nil=>simp
 |cons y l ih=>rw[List.flatMap_cons,List.length_append,ih,hs,List.length_cons,Nat.add_mul];omega
theorem takeS{α:Type}(l:List α)(k:Nat)(d:α)(h:k<l.length):l.take (k+1)=l.take k++ [l.getD k d]:=by
 rw[List.take_add_one,List.getElem?_eq_getElem h]
 simp[List.getD_eq_getElem?_getD,h]
def Recs{α:Type}(size:Nat)(cs:α→List Value)(w:World)(a:Option Addr)(n:Nat)(ls:List α):Prop:=
 ls.length=n∧n≤17592186044416∧∀k x,ls[k]? =some x→∃b o,a=some ⟨b,o,none⟩∧∀j,j<size→w.cell? ⟨b,o+k*size+j,none⟩=(cs x)[j]?
section
variable {α:Type} {size:Nat} {cs:α→List Value} {w w':World} {a:Option Addr} {n:Nat} {ls:List α}
theorem Recs.ext(h:Recs size cs w a n ls)(hs:∀x,(cs x).length=size)(hb:Below w.heap.size w w'):Recs size cs w' a n ls:=
 ⟨h.1,h.2.1,fun k x hx=>by
  obtain⟨b,o,e,hc⟩:=h.2.2 k x hx;refine⟨b,o,e,fun j hj=>?_⟩;have h1:=hc j hj;rw[List.getElem?_eq_getElem (by rw[hs];exact hj)] at h1⊢
  exact cell_ext hb h1⟩
theorem Recs.nil(size:Nat)(cs:α→List Value)(w:World):Recs size cs w none 0 []:=⟨rfl,by omega,fun k x hx=>by simp at hx⟩
theorem Recs.at_(h:Recs size cs w a n ls){k:Nat}(hk:k<n)(d:α):∃b o,a=some ⟨b,o,none⟩∧∀j,j<size→w.cell? ⟨b,o+k*size+j,none⟩=(cs (ls.getD k d))[j]?:=by
 have hk':k<ls.length:=by rw[h.1];exact hk
 obtain⟨b,o,e,hc⟩:=h.2.2 k (ls.getD k d) (by simp[List.getD_eq_getElem?_getD,hk'])
 exact⟨b,o,e,hc⟩
theorem recs_of_own{base:Nat}{e:TypeId}{v:Value}(hs:∀x,(cs x).length=size)(h:w.ownsRow base e size v ls.length (ls.flatMap cs))(hl:ls.length≤17592186044416):∃a c,v=.slice a ls.length c∧Recs size cs w a ls.length ls∧∀g o s,a=some ⟨g,o,s⟩→base≤g:=by
 rcases h.2 with ⟨rfl,h0⟩|⟨g,cap,cur,rfl,hb,_⟩
 ·have:ls= []:=List.eq_nil_of_length_eq_zero h0;subst this;exact⟨none,0,rfl,⟨rfl,hl,fun k x hx=>by simp at hx⟩,fun g o s e=>by cases e⟩
 ·refine⟨some ⟨g,0,none⟩,cap,rfl,⟨rfl,hl,fun k x hx=>⟨g,0,rfl,fun j hj=>?_⟩⟩,fun g' o s e=>?_⟩
  ·have hk:=(List.getElem?_eq_some_iff.1 hx).1;have hlt:k*size+j<ls.length*size:=by
    have:(k+1)*size≤ls.length*size:=Nat.mul_le_mul_right _ hk;rw[Nat.add_mul] at this;omega
   rw[Nat.zero_add,World.ownsRow.cellAt h (k*size+j) hlt,flatMap_at cs size hs ls k j hj x hx]
  ·simp only[Option.some.injEq,Addr.mk.injEq] at e;omega
end
end

section
open Go.RowKit
theorem addr_add(b o m:Nat):(⟨b,o,none⟩:Addr).add m=⟨b,o+m,none⟩:=by
 unfold Addr.add
 split<;>simp_all
section
variable {P:Program} {Q:Exit→Act→World→Prop}
theorem run_append_rows(w:World)(base:Nat)(t ty e:TypeId)(z:Value)(size bytes:Nat)(ht:P.underlying t=some (.slice e))(hinfo:(P.info? e).map (fun i=>(i.zero,i.size,i.bytes))=some (some z,size,bytes))(hzs:z.cells.size=size)(hsz:0<size)
  (v:Value) (n:Nat) (xs:List Value) (hown:w.ownsRow base e size v n xs) (A:Option Addr) (m c:Nat) (news:List Value) (hl:news.length=m*size)
  (hr:∀j u,news[j]? =some u→∃ad,A=some ad∧w.cell? (ad.add j)=some u) (h1:∀u∈news,u.oneCell'=true)
  (h63:n+m≤maxLen) (hbytes:(n+m)*bytes≤140737488355328) (hbase:base≤w.heap.size):
  ∃v' w',(Builtin.append_ #[t,t] ty #[v,.slice A m c]).run P w=.ok v' w'∧w'.ownsRow base e size v' (n+m) (xs++news)∧w.grownBy w' v.ownBlock∧(v'.ownBlock=v.ownBlock∨v'.ownBlock=some w.heap.size):=by
 obtain⟨i,hi,hz,hsize,hby⟩:=info_parts hinfo
 rcases A with _|ad
 ·have hm:news= []:=by
   cases news with
   |nil=>rfl
   |cons u l=>obtain⟨ad,h,_⟩:=hr 0 u rfl;cases h
  subst hm;obtain rfl:m=0:=by
   simp only[List.length_nil] at hl;rcases Nat.mul_eq_zero.1 hl.symm with h|h<;>omega
  refine⟨v,w,?_,by simpa using hown,⟨rfl,rfl,rfl,Nat.le_refl _,fun _ _ _=>rfl⟩,Or.inl rfl⟩;rcases hown.2 with ⟨rfl,rfl⟩|⟨g,cap,cur,rfl,_,_,hnc,_⟩
  ·simp[Builtin.append_,run_underlying ht,sizeOf,typeInfo,hi,Builtin.lenOf,Builtin.firstCells]
  ·simp[Builtin.append_,run_underlying ht,sizeOf,typeInfo,hi,Builtin.lenOf,Builtin.firstCells,hnc,storeCells]
 ·obtain⟨v',w',hrun,h2,h3,_,h5⟩:=run_append_own_at (P:=P) w base t ty e i z size bytes ht hi hz hsize hby hzs hsz v n xs hown ad m c news hl
   (fun j u hu=>by obtain⟨ad',h,hc⟩:=hr j u hu;cases h;exact hc) h1 h63 hbytes hbase
  exact⟨v',w',hrun,h2,h3,h5⟩
theorem wpList_appendR{ops:Array Oper}{rest:List Oper}{o:Oper}{a:Act}(w:World)(hgd:o.guard=none)(s x:Operand)(t e:TypeId)(ho:o.op=.call {callee:=.builtin .append,args:=#[s,x],argTypes:=#[t,t]})
  (base:Nat) (z:Value) (size bytes:Nat) (ht:P.underlying t=some (.slice e)) (hinfo:(P.info? e).map (fun i=>(i.zero,i.size,i.bytes))=some (some z,size,bytes)) (hzs:z.cells.size=size) (hsz:0<size)
  (v:Value) (n:Nat) (xs:List Value) (hs:a.eval s=v) (hown:w.ownsRow base e size v n xs) (A:Option Addr) (m c:Nat) (hx:a.eval x=.slice A m c) (news:List Value) (hl:news.length=m*size)
  (hr:∀j u,news[j]? =some u→∃ad,A=some ad∧w.cell? (ad.add j)=some u) (h1:∀u∈news,u.oneCell'=true)
  (h63:n+m≤maxLen) (hbytes:(n+m)*bytes≤140737488355328) (hbase:base≤w.heap.size)
  (h:∀v' w',w'.ownsRow base e size v' (n+m) (xs++news)→w.grownBy w' v.ownBlock→(v'.ownBlock=v.ownBlock∨v'.ownBlock=some w.heap.size)→wpList P ops Q rest (a.put o.dst v') w'):
  wpList P ops Q (o :: rest) a w:=by
 refine wpList_plain hgd fun K hK=>?_
 obtain⟨v',w',hrun,h2,h3,h4⟩:=run_append_rows (P:=P) w base t o.type e z size bytes ht hinfo hzs hsz v n xs hown A m c news hl hr h1 h63 hbytes hbase
 unfold Oper.wp execOp
 simp only[ho,resolve,invoke,builtin,Sem.run_bind,Sem.run_pure,Result.andThen_ok,List.map_toArray,List.map_cons,List.map_nil,hs,hx,hrun]
 exact hK _ _ (h v' w' h2 h3 h4)
end
theorem Ints.news{w:World}{a:Option Addr}{n:Nat}{xs:List Int}(h:Ints w a n xs):∀j u,(xs.map (Value.int .i64))[j]? =some u→∃ad,a=some ad∧w.cell? (ad.add j)=some u:=by
 intro j u hu
 rw[List.getElem?_map,Option.map_eq_some_iff] at hu
 obtain⟨x,hx,rfl⟩:=hu
 have hlt:=(List.getElem?_eq_some_iff.1 hx).1
 obtain⟨b,o,e,hc,_⟩:=h.2.2 j (by rw[←h.1];exact hlt)
 refine⟨_,e,?_⟩
 rw[addr_add,hc]
 simp[List.getD_eq_getElem?_getD,hx]
end

section
open Go.RowKit
theorem infoI:(Tryz.prog.info? 3).map (fun i=>(i.zero,i.size,i.bytes))=some (some (.int .i64 0),1,8):=by kernel_rfl
def intVals(xs:List Int):List Value:=xs.map (Value.int .i64)
theorem intVals_len(xs:List Int):(intVals xs).length=xs.length:=by simp[intVals]
theorem intVals_one(xs:List Int):∀u∈intVals xs,u.oneCell'=true:=by
 intro u hu
 simp only[intVals,List.mem_map] at hu
 obtain⟨x,_,rfl⟩:=hu
 rfl
def OwnI(w:World)(base:Nat)(v:Value)(xs:List Int):Prop:=w.ownsRow base 3 1 v xs.length (intVals xs)∧(∀x∈xs,I64 x)∧xs.length≤17592186044416
theorem OwnI.nil(w:World)(base:Nat):OwnI w base (.slice none 0 0) []:=⟨World.ownsRow_nil _ _ _ _,by simp,by simp⟩
theorem OwnI.mono{w:World}{base base':Nat}{v:Value}{xs:List Int}(h:OwnI w base v xs)(hb:base'≤base):OwnI w base' v xs:=by
 refine⟨⟨h.1.1,?_⟩,h.2⟩
 rcases h.1.2 with h0|⟨g,cap,cur,hv,h1,r⟩
 ·exact .inl h0
 ·exact .inr ⟨g,cap,cur,hv,Nat.le_trans hb h1,r⟩
theorem OwnI.kept{w w':World}{base:Nat}{v:Value}{xs:List Int}{row:Option Nat}(h:OwnI w base v xs)(hg:w.grownBy w' row)(hne:v.ownBlock=none∨v.ownBlock≠row):OwnI w' base v xs:=⟨h.1.kept hg hne,h.2⟩
theorem OwnI.ext{w w':World}{base:Nat}{v:Value}{xs:List Int}(h:OwnI w base v xs)(hb:Below w.heap.size w w'):OwnI w' base v xs:=by
 refine⟨h.1.kept (row:=none) ⟨hb.os,hb.tape,hb.output,hb.size,fun k hk _=>hb.block k hk⟩ ?_,h.2⟩
 cases h1:v.ownBlock with
 |none=>exact .inl rfl
 |some k=>exact .inr (by simp)
theorem OwnI.form{w:World}{base:Nat}{v:Value}{xs:List Int}(h:OwnI w base v xs):∃a c,v=.slice a xs.length c:=by
 rcases h.1.2 with ⟨rfl,h0⟩|⟨g,cap,cur,hv,_⟩
 ·have h0:xs.length=0:=h0;rw[h0];exact⟨none,0,rfl⟩
 ·exact⟨_,_,hv⟩
theorem OwnI.ints{w:World}{base:Nat}{a:Option Addr}{n c:Nat}{xs:List Int}(h:OwnI w base (.slice a n c) xs):Ints w a n xs:=by
 rcases h.1.2 with ⟨hv,h0⟩|⟨g,cap,cur,hv,_⟩
 ·injection hv with e1 e2 e3;subst e1 e2;have h0:xs.length=0:=h0;exact⟨h0,by omega,fun k hk=>by omega⟩
 ·injection hv with e1 e2 e3;subst e1 e2 e3;exact intsOwn h.1 h.2.1 h.2.2
theorem OwnI.cap{w:World}{base:Nat}{a:Option Addr}{n c:Nat}{xs:List Int}(h:OwnI w base (.slice a n c) xs):n≤c∧c≤9223372036854775807∧n=xs.length:=by
 rcases h.1.2 with ⟨hv,h0⟩|⟨g,cap,cur,hv,_,_,h1,h2,_⟩
 ·injection hv with e1 e2 e3;subst e1 e2 e3;exact⟨by omega,by omega,by rw[show xs.length=0 from h0]⟩
 ·injection hv with e1 e2 e3;subst e1 e2 e3;unfold maxLen at h2;exact⟨h1,by omega,rfl⟩
def IntsPost(w:World)(xs:List Int)(e:Ending)(w':World):Prop:=∃v,e=.returned v∧OwnI w' w.heap.size v xs∧Below w.heap.size w w'
theorem ownI_lit{W:World}{g:Nat}{xs:List Int}(hg:W.heap.size=g)(base:Nat)(hb:base≤g)(hx:∀x∈xs,I64 x)(hn:xs.length≤1000):OwnI (W.alloc (.cells (intVals xs).toArray 3)) base (.slice (some ⟨g,0,none⟩) xs.length xs.length) xs:=by
 subst hg
 refine⟨?_,hx,by omega⟩
 have:=World.ownsRow_lit (base:=base) (e:=3) (size:=1) W (intVals xs).toArray xs.length hb (by unfold maxLen;omega) (by simp[intVals])
 simpa using this
theorem cloneInts_any(a:Option Addr)(n c:Nat)(xs:List Int)(w:World)(h:Ints w a n xs):
  Calls Tryz.prog 172 #[.slice a n c] w (IntsPost w xs):=by
 have HL:=Lib.hid h.1
 have hn:=h.2.1
 have HM:=Lib.hid h.mem
 have H:=Lib.hid h
 clear h
 cases a with
 |none=>
  have hq:=fun w n c n' c'=>Lib.run_eql_slice_nil (P:=Tryz.prog) w 22 3 none n c n' c' Tryz.underlying22
  go_enter Tryz.func172,Tryz.ntmps172
  go_wp2
  go_ret
  have h0:xs= []:=by
   cases xs with
   |nil=>rfl
   |cons r l=>obtain⟨b,o,e,_⟩:=H.out.2.2 0 (by rw[←HL.out];simp);cases e
  subst h0;exact⟨_,rfl,OwnI.nil _ _,Below.refl _ _⟩
 |some ad=>
  have hq:=fun w n c n' c'=>Lib.run_eql_slice_nil (P:=Tryz.prog) w 22 3 (some ad) n c n' c' Tryz.underlying22
  go_enter Tryz.func172,Tryz.ntmps172
  go_wp2_with (at_builtin;go_loud (refine wpList_appendR (w.alloc (.cells #[] 3)) rfl (.tmp 5) (.tmp 6) 22 3 rfl w.heap.size _ 1 8 Tryz.underlying22 infoI rfl (by omega) (.slice (some ⟨w.heap.size,0,none⟩) 0 0) 0 [] rfl (World.ownsRow_lit w #[] 0 (by omega) (by unfold maxLen;omega) rfl) (some ad) n c rfl (intVals xs) (by rw[intVals_len,HL.out,Nat.mul_one]) ((H.out.ext ((Below.refl _ w).alloc (Nat.le_refl _) _)).news) (intVals_one xs) (by unfold maxLen;omega) (by omega) (by simp) ?_);intro v' w1 ho1 hg1 hv1;have HO1:=Lib.hid ho1;have HG1:=Lib.hid hg1;clear ho1 hg1 hv1)
  go_ret
  have ho:=HO1.out;rw[Nat.zero_add,List.nil_append,←HL.out] at ho;exact⟨_,rfl,⟨ho,HM.out,by rw[HL.out];exact hn⟩,((Below.refl _ w).alloc (Nat.le_refl _) _).grown HG1.out (by simp) (fun k hk=>by simp[Value.ownBlock] at hk;omega)⟩
end

section
open Go.RowKit
attribute [local go_sem] Oper.semAt_some
abbrev encV(x:Int):Value:=.int .i64 x
def decV(v:Value):Int:=match v with| .int _ x=>x|_=>0
abbrev oneV:Value:=.int .i64 1
theorem findNow_var(x:Int):∀(l:List MapEntry) (i:Nat),(∀e∈l,e.key=encV (decV e.key))→
  (x∉l.map (fun e=>decV e.key)∧Instr.findNow (.int .i64) (encV x) l i=some none)∨
  ∃j e,l[j]? =some e∧decV e.key=x∧Instr.findNow (.int .i64) (encV x) l i=some (some (i+j,e.val))
 | [],i,_=>.inl ⟨by simp,rfl⟩
 |e :: l,i,h=>by
  have he:=h e (by simp);generalize hj:decV e.key=j at he;have he:e.key=.int .i64 j:=he;by_cases hx:x=j
  ·subst hx;exact .inr ⟨0,e,rfl,hj,by simp[Instr.findNow,Instr.sameNow,encV,he]⟩
  ·have hb:(x==j)=false:=by simpa using hx
   rcases findNow_var x l (i+1) (fun e' he'=>h e' (by simp[he'])) with ⟨h1,h2⟩|⟨m,e',h0,h1,h2⟩
   ·refine .inl ⟨by simp only[List.map_cons,List.mem_cons,not_or];exact⟨by rw[hj];exact hx,h1⟩,?_⟩;unfold encV at h2;simp[Instr.findNow,Instr.sameNow,encV,he,hb,h2]
   ·refine .inr ⟨m+1,e',by simpa using h0,h1,?_⟩;unfold encV at h2;simp[Instr.findNow,Instr.sameNow,encV,he,hb,h2];omega
theorem checkKey_var(em:Bool)(n:Nat)(x:Int)(w:World):(Instr.checkKey em (n+1) 3 (encV x)).run Tryz.prog w=.ok () w:=by
 simp[Instr.checkKey,run_underlying Tryz.underlying3,encV]
theorem keyV:KeyT Tryz.prog 3 encV decV where
 find x w l h:=by
  rcases findNow_var x l 0 h with ⟨h1,h2⟩|⟨j,e,h0,h1,h2⟩
  ·exact .inl ⟨h1,by simp[Instr.findKey,run_underlying Tryz.underlying3,h2]⟩
  ·exact .inr ⟨j,e,h0,h1,by simp[Instr.findKey,run_underlying Tryz.underlying3,h2]⟩
 check em x w:=checkKey_var em _ x w
 bits x:=by
  have h:∀n,Instr.sameBits n (encV x) (encV x)=true:=fun n=>by cases n<;>simp[Instr.sameBits,encV]
  exact h _
 dec x:=rfl
theorem mapTV:Tryz.prog.underlying 105=some (.map 3 3):=Tryz.underlying105
abbrev VSet(w:World)(b:Nat)(L:List Int):Prop:=SetM encV decV oneV w b L
abbrev VIter(w:World)(b r:Nat)(L R:List Int):Prop:=SetI encV decV oneV w b r L R
def VHas(w:World)(b:Nat)(p:Int→Prop):Prop:=∃L,VSet w b L∧∀y,y∈L↔p y
theorem VHas.kept{w w':World}{b:Nat}{p:Int→Prop}(h:VHas w b p)(hb:w'.heap[b]? =w.heap[b]?):VHas w' b p:=let ⟨L,h1,h2⟩:=h;⟨L,h1.of_block hb,h2⟩
theorem VHas.lt{w:World}{b:Nat}{p:Int→Prop}(h:VHas w b p):b<w.heap.size:=let ⟨_,h1,_⟩:=h;h1.lt
theorem VHas.congr{w:World}{b:Nat}{p q:Int→Prop}(h:VHas w b p)(e:∀y,p y↔q y):VHas w b q:=let ⟨L,h1,h2⟩:=h;⟨L,h1,fun y=>(h2 y).trans (e y)⟩
def AddPost(w:World)(b:Nat)(q:Int→Prop)(e:Ending)(w':World):Prop:=e=.returned (.tuple #[])∧VHas w' b q∧w.grownBy w' (some b)
theorem sAdd_any(b:Nat)(p:Int→Prop)(a:Option Addr)(n c:Nat)(xs:List Int)(w:World)(h:VHas w b p)(hx:Ints w a n xs):
  Calls Tryz.prog 51 #[.map (some b),.slice a n c] w (AddPost w b fun y=>p y∨y∈xs):=by
 have HV:=Lib.hid h
 have HX:=Lib.hid hx
 have hn:=hx.2.1
 clear h hx
 go_enter Tryz.func51,Tryz.ntmps51
 go_wp2
 go_loopw [5,8] (fun _ i wr=>∃k:Nat,i=.int .i64 k∧k≤n∧Hid (VHas wr b fun y=>p y∨y∈xs.take k)∧Hid (w.grownBy wr (some b))) (fun _ i _=>n-(intOf i).toNat)
 case atStart=>exact⟨0,rfl,by omega,HV.out.congr fun y=>by simp,⟨rfl,rfl,rfl,Nat.le_refl _,fun _ _ _=>rfl⟩⟩
 case round=>
  obtain⟨k,rfl,hk,HR,HG⟩:=hrel;by_cases hlt:k<n
  ·obtain⟨g,o,rfl,hcell,hw1,hw2⟩:=HX.out.2.2 k hlt;have hy:xs[k]? =some (xs.getD k 0):=by rw[List.getD_eq_getElem?_getD,List.getElem?_eq_getElem (by rw[HX.out.1];exact hlt)];rfl
   have HT:Hid (∀y,y∈xs.take (k+1)↔y∈xs.take k∨y=xs.getD k 0):=fun y=>by rw[List.take_add_one,hy];simp
   have hne:g≠b:=by
    obtain⟨L,h1,_⟩:=HV.out;exact SetM.nocell h1 hcell
   have hc2:wr.cell? ⟨g,o+k,none⟩=some (.int .i64 (xs.getD k 0)):=by
    have:=HG.out.block g (World.block_lt_of_cell? _ _ hcell) (by simpa using hne);rw[←hcell];unfold World.cell?;simp only[this]
   clear hcell hy;generalize xs.getD k 0=y at *;obtain⟨L,hL,hm⟩:=HR.out;have HL:=Lib.hid hL;have HM:=Lib.hid hm;clear hL hm
   go_wp2_with ((with_reducible show wpList _ _ _ (⟨none,.mapUpdate _ _ _ _,_,_,_,_⟩ :: _) _ _);refine wpList_putM rfl _ _ _ rfl keyV mapTV HL.out rfl y rfl rfl ?_;intro w2 L2 hs2 hm2 hg2 hz2)
   have HS2:=Lib.hid hs2;have HM2:=Lib.hid hm2;have HG2:=Lib.hid (HG.out.andThen hg2 fun j hj=>.inr hj);clear hs2 hm2 hg2 hz2 hc2
   go_roundw
   case rel=>exact⟨k+1,by go_num,by omega,⟨L2,HS2.out,fun z=>by show z∈L2↔p z∨z∈xs.take (k+1);rw[HM2.out z,HM.out z,HT.out z,or_assoc]⟩,HG2⟩
   case measure=>simp[intOf];omega
  ·obtain rfl:k=n:=by omega
   go_wp2
   go_end0
   exact⟨rfl,HR.out.congr fun y=>by rw[List.take_of_length_le (by rw[HX.out.1];exact Nat.le_refl _)],HG.out⟩
end
end Go.Proofs.YthgebcfohnlhlaaGreatDoor
