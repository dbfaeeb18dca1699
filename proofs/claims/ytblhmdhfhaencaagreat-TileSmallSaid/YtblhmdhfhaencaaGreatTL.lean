/-
 Regions that draw their order,where several operations that turn memory may come up at one time:the walk goes through the orders of those alone. No program in sight.
-/
import Derived.Test.YtblhmdhfhaencaaGreatTF
import Derived.Test.YtblhmdhfhaencaaGreatBR
import Derived.Laws.StructEq
import Derived.ChangeKeysEq
import Derived.Deep.OwnRows
import Derived.Shelf.Sort.Plain
import Derived.Shelf.Slices.Reverse
import Derived.Ground.Names2Prog
import Derived.Shelf.Slices.Clone
import Derived.Shelf.Slices.CompactI
import Derived.Shelf.Slices.In.SortNone
import Derived.Shelf.SlicesE.Reverse
import Derived.Test.YtblhmdhfhaencaaGreatProg
import Derived.Deep.LoopGhost
namespace Go.Proofs.YtblhmdhfhaencaaGreat
set_option linter.unusedSimpArgs false
set_option linter.unusedVariables false
set_option linter.unusedSectionVars false
set_option maxRecDepth 100000
set_option maxHeartbeats 40000000
section
open Go.RowKit
def vA(listed:Array Bool)(i:Nat):Nat→Array Bool
 |0=>listed
 |n+1=>vA (listed.setIfInBounds i true) (i+1) n
def vG(l:List Oper):Nat→Nat→Array Bool→Bool
 |0,_,_=>true
 |n+1,i,listed=>(Region.ready .any l.toArray listed).contains i&&Region.free .any l.toArray listed i&&((l[i]?).map IC).getD false&&vG l n (i+1) (listed.setIfInBounds i true)
def FY(l:List Oper)(listed:Array Bool):Bool:=
 (List.range l.length).all fun j=> !listed.getD j false||((l[j]?).map fun o=>o.after.all fun e=> !Region.binds .any e||listed.getD e.on false).getD true
section
variable {P:Program} {l:List Oper} {S:World→Prop} {Q:Exit→Act→World→Prop}
theorem TW{listed:Array Bool}(h:FY l listed=true):jJ l listed:=by
 intro j o ho hl e he hb
 unfold FY at h
 rw[List.all_eq_true] at h
 have hlt:j<l.length:=by
  have:=(aBW.1 ho).1;simpa using this
 have:=h j (List.mem_range.2 hlt)
 have ho':l[j]? =some o:=by simpa using ho
 simp only[hl,Bool.not_true,Bool.false_or,ho',Option.map_some,Option.getD_some] at this
 have:=(Array.all_eq_true'.1 this) e he
 simpa[hb] using this
theorem OD:∀(n i:Nat) (listed:Array Bool),vG l n i listed=true→qF l n i listed=some (vA listed i n):=by
 intro n
 induction n with
 |zero=>intro i listed _;rfl
 |succ n ih=>
  intro i listed h;simp only[vG,Bool.and_eq_true] at h;obtain⟨⟨⟨h1,h2⟩,h3⟩,h4⟩:=h;simp only[qF,vA];rw[if_pos (by simp only[Bool.and_eq_true];exact⟨⟨h1,h2⟩,h3⟩)];exact ih _ _ h4
theorem oU{id:Nat}{a:Act}{w:World}(S:World→Prop)(hm:P.follows .mixedOrders=true)
  (h:gO P l (NoPanic Q) S l.length (Array.replicate l.length false) a w.drew):(Code.region id l.toArray true).wp P Q a w:=by
 refine wp_region_noPanic (wp_region_any hm ?_)
 have:=uC _ _ _ _ h
 simpa using this
theorem cP{fuel:Nat}{listed:Array Bool}{a:Act}{w:World}(i n:Nat)(hok:(vG l n i listed&&FY l listed&&Region.noSelect l.toArray)=true)(hS:S w)
  (h:wpQuiet P l.toArray S (fun a'=>gO P l (NoPanic Q) S fuel (vA listed i n) a' w) ((l.drop i).take n) a):gO P l (NoPanic Q) S (fuel+n) listed a w:=by
 simp only[Bool.and_eq_true] at hok
 exact oX hok.2 (fun _ _ _ hp=>hp) fuel w hS _ n i listed _ a (TW hok.1.2) (OD n i listed hok.1.1) (fun _ a' ha'=>ha') h
theorem eQ{fuel:Nat}{listed:Array Bool}{a:Act}{w:World}(e:Nat)(hr:(Region.ready .any l.toArray listed== [e])=true)
  (h:wpOp P l.toArray (NoPanic Q) e (fun a' w'=>(rE l e=true∨S w')∧gO P l (NoPanic Q) S fuel (listed.setIfInBounds e true) a' w') a w):gO P l (NoPanic Q) S (fuel+1) listed a w:=by
 have hr:=eq_of_beq hr
 refine⟨fun h0=>?_,fun i hi=>?_⟩
 ·rw[hr] at h0;cases h0
 ·rw[hr,List.mem_singleton] at hi;subst hi;exact h
theorem IB{fuel:Nat}{listed:Array Bool}{a:Act}{w:World}(e e':Nat)(hr:(Region.ready .any l.toArray listed== [e,e'])=true)
  (h:wpOp P l.toArray (NoPanic Q) e (fun a' w'=>(rE l e=true∨S w')∧gO P l (NoPanic Q) S fuel (listed.setIfInBounds e true) a' w') a w)
  (h':wpOp P l.toArray (NoPanic Q) e' (fun a' w'=>(rE l e'=true∨S w')∧gO P l (NoPanic Q) S fuel (listed.setIfInBounds e' true) a' w') a w):gO P l (NoPanic Q) S (fuel+1) listed a w:=by
 have hr:=eq_of_beq hr
 refine⟨fun h0=>?_,fun i hi=>?_⟩
 ·rw[hr] at h0;cases h0
 ·rw[hr] at hi;rcases List.mem_cons.1 hi with rfl|hi
  ·exact h
  ·rw[List.mem_singleton] at hi;subst hi;exact h'
theorem mE{listed:Array Bool}{a:Act}{w:World}(hr:(Region.ready .any l.toArray listed== [])=true)(h:Q .normal a w):gO P l (NoPanic Q) S 0 listed a w:=⟨eq_of_beq hr,h⟩
end
end

section
open Go.RowKit
def eM:Act→List (Option Nat)→Nat→(Nat→Value)→Act
 |a,[],_,_=>a
 |a,none :: ds,k,ν=>eM a ds (k+1) ν
 |a,some d :: ds,k,ν=>eM {tmps:=a.tmps.setIfInBounds d (ν k),defers:=a.defers} ds (k+1) ν
def iB(a:Act)(ds:List (Option Nat))(ν:Nat→Value):Act:=eM a ds 0 ν
def gM{α:Type}(ν:Nat→α)(i:Nat)(v:α):Nat→α:=fun j=>if j=i then v else ν j
theorem IU(a:Act)(d:Nat)(v:Value):a.put (some d) v={tmps:=a.tmps.setIfInBounds d v,defers:=a.defers}:=rfl
theorem cW(a:Act)(v:Value):a.put none v=a:=rfl
theorem mQ:∀(ds:List (Option Nat)) (a:Act) (k:Nat) (ν ν':Nat→Value),(∀j,k≤j→ν j=ν' j)→eM a ds k ν=eM a ds k ν'
 | [],_,_,_,_,_=>rfl
 |none :: ds,a,k,ν,ν',h=>mQ ds a (k+1) ν ν' (fun j hj=>h j (by omega))
 |some d :: ds,a,k,ν,ν',h=>by
  simp only[eM];rw[h k (aBV _)];exact mQ ds _ (k+1) ν ν' (fun j hj=>h j (by omega))
theorem rV:∀(ds:List (Option Nat)) (a:Act) (k:Nat) (ν:Nat→Value) (d:Nat) (v:Value),some d∉ds→(eM a ds k ν).put (some d) v=eM (a.put (some d) v) ds k ν
 | [],_,_,_,_,_,_=>rfl
 |none :: ds,a,k,ν,d,v,h=>rV ds a (k+1) ν d v (fun hm=>h (by simp[hm]))
 |some d' :: ds,a,k,ν,d,v,h=>by
  have hne:d'≠d:=fun e=>h (by simp[e]);simp only[eM];rw[rV ds _ (k+1) ν d v (fun hm=>h (by simp[hm]))]
  congr 1
  simp only[IU];rw[Array.setIfInBounds_comm _ _ hne]
theorem rU:∀(ds:List (Option Nat)) (a:Act) (k:Nat) (ν:Nat→Value) (i d:Nat) (v:Value),(ds.filterMap id).Nodup→ds[i]? =some (some d)→(eM a ds k ν).put (some d) v=eM a ds k (gM ν (k+i) v)
 | [],_,_,_,i,_,_,_,h=>by simp at h
 |none :: ds,a,k,ν,i,d,v,hn,h=>by
  cases i with
  |zero=>simp at h
  |succ i=>
   simp only[List.filterMap_cons_none,id_eq] at hn;have:=rU ds a (k+1) ν i d v hn (by simpa using h);simp only[eM];rw[this,show k+1+i=k+(i+1) by omega]
 |some d' :: ds,a,k,ν,i,d,v,hn,h=>by
  simp only[List.filterMap_cons,id_eq,List.nodup_cons] at hn;have hmem:∀x,some x∈ds→x∈ds.filterMap id:=fun x hx=>List.mem_filterMap.2 ⟨some x,hx,rfl⟩;cases i with
  |zero=>
   simp only[List.getElem?_cons_zero,Option.some.injEq] at h;subst h;simp only[eM];rw[rV ds _ (k+1) ν d' v (fun hm=>hn.1 (hmem _ hm))];simp only[IU,Array.setIfInBounds_setIfInBounds];have e:gM ν (k+0) v k=v:=by simp[gM]
   rw[e];exact mQ ds _ (k+1) ν _ (fun j hj=>by simp only[gM];rw[if_neg (by omega)])
  |succ i=>
   simp only[eM];rw[rU ds _ (k+1) ν i d v hn.2 (by simpa using h),show k+1+i=k+(i+1) by omega];have e:gM ν (k+(i+1)) v k=ν k:=by simp only[gM];rw[if_neg (by omega)]
   rw[e]
theorem TD(a:Act)(ds:List (Option Nat))(ν:Nat→Value)(i:Nat)(v:Value)(hn:(ds.filterMap id).Nodup)(hi:i<ds.length):(iB a ds ν).put (ds.getD i none) v=iB a ds (gM ν i v):=by
 have hg:ds[i]? =some (ds.getD i none):=by rw[aBT,aBU hi];rfl
 cases hd:ds.getD i none with
 |some d=>
  rw[hd] at hg;have:=rU ds a 0 ν i d v hn hg;rw[Nat.zero_add] at this;exact this
 |none=>
  rw[hd] at hg;show iB a ds ν=_;unfold iB;have key:∀(ds:List (Option Nat)) (a:Act) (k i:Nat),ds[i]? =some none→eM a ds k ν=eM a ds k (gM ν (k+i) v):=by
   intro ds
   induction ds with
   |nil=>intro a k i h;simp at h
   |cons x ds ih=>
    intro a k i h;cases i with
    |zero=>
     simp only[List.getElem?_cons_zero,Option.some.injEq] at h;subst h;simp only[eM];exact mQ ds a (k+1) ν _ (fun j hj=>by simp only[gM];rw[if_neg (by omega)])
    |succ i=>
     have h':ds[i]? =some none:=by simpa using h
     have e2:k+1+i=k+(i+1):=by omega
     cases x with
     |none=>simp only[eM];rw[ih a (k+1) i h',e2]
     |some d'=>
      simp only[eM];have e:gM ν (k+(i+1)) v k=ν k:=by simp only[gM];rw[if_neg (by omega)]
      rw[ih _ (k+1) i h',e2,e]
  have:=key ds a 0 i hg
  rwa [Nat.zero_add] at this
def NK(a:Act)(ds:List (Option Nat)):Nat→Value:=fun k=>match ds.getD k none with
 |some d=>a.tmps.getD d undef
 |none=>undef
theorem IN(t:Array Value)(d:Nat):t.setIfInBounds d (t.getD d undef)=t:=by
 apply Array.ext_getElem?
 intro k
 rw[Array.getElem?_setIfInBounds]
 by_cases e:d=k
 ·subst e;rw[if_pos rfl];by_cases h:d<t.size
  ·simp[h,Array.getD_eq_getD_getElem?]
  ·rw[if_neg h,Array.getElem?_eq_none (by omega)]
 ·rw[if_neg e]
theorem MF(a:Act)(ds:List (Option Nat)):iB a ds (NK a ds)=a:=by
 have key:∀(ds:List (Option Nat)) (k:Nat) (ν:Nat→Value),(∀j d,ds[j]? =some (some d)→ν (k+j)=a.tmps.getD d undef)→eM a ds k ν=a:=by
  intro ds
  induction ds with
  |nil=>intro k ν _;rfl
  |cons x ds ih=>
   intro k ν h;have h':∀j d,ds[j]? =some (some d)→ν (k+1+j)=a.tmps.getD d undef:=fun j d hj=>by
    have:=h (j+1) d (by simpa using hj)
    rwa [show k+(j+1)=k+1+j by omega] at this
   cases x with
   |none=>exact ih (k+1) ν h'
   |some d=>
    have h0:=h 0 d (by simp);rw[Nat.add_zero] at h0;simp only[eM];rw[h0,IN];exact ih (k+1) ν h'
 refine key ds 0 _ (fun j d hj=>?_)
 rw[Nat.zero_add]
 unfold NK
 have:ds.getD j none=some d:=by rw[aBT,hj];rfl
 rw[this]
theorem yL(L:Array Bool)(i:Nat)(h:i<L.size):(L.setIfInBounds i true).getD i false=true:=by
 rw[Array.getD_eq_getD_getElem?,Array.getElem?_setIfInBounds_self_of_lt h]
 rfl
theorem XD(p p':Nat→Bool)(i:Nat)(hp:p i=true)(he:∀j,p' j=(j != i&&p j)):∀(L:List Nat),L.Nodup→i∈L→(L.filter p').length+1=(L.filter p).length:=by
 intro L
 induction L with
 |nil=>intro _ h;cases h
 |cons x L ih=>
  intro hn hm;rw[List.nodup_cons] at hn;by_cases e:x=i
  ·subst e;have h1:L.filter p'=L.filter p:=List.filter_congr fun j hj=>by
    rw[he];have:j≠x:=fun e=>hn.1 (e▸hj);simp[this]
   have h2:p' x=false:=by rw[he];simp
   simp[List.filter_cons,hp,h2,h1]
  ·have h2:p' x=p x:=by rw[he];simp[e]
   have:=ih hn.2 ((List.mem_cons.1 hm).resolve_left (fun h=>e h.symm));simp only[List.filter_cons,h2]
   split<;>simp_all
theorem RA(m:Nat):∀n,((List.range n).filter fun j=> !decide (j<m)).length=n-m:=by
 intro n
 induction n with
 |zero=>simp
 |succ n ih=>
  rw[List.range_succ,List.filter_append,List.length_append,ih];by_cases h:n<m
  ·simp[h];omega
  ·simp[h];omega
def YA(l:List Oper)(i j:Nat):Bool:=((l[i]?).map fun o=>o.after.any fun e=>Region.binds .any e&&e.on==j).getD false
def FL(l:List Oper)(m:Nat)(ds:List (Option Nat)):Bool:=
 decide (ds.length=m∧m≤l.length∧(ds.filterMap id).Nodup)&&((List.range m).all fun i=>((l[i]?).map fun o=>o.dst==ds.getD i none&&o.after.all fun e=> !Region.binds .any e||decide (e.on<i)).getD false)&&
  ((List.range l.length).all fun j=>(decide (j<m)||(List.range j).all fun i=>reach l j i)&&((l[j]?).map fun o=>o.after.all fun e=> !Region.binds .any e||decide (e.on<j)).getD false)
inductive PQ where
 |val (c:Value)
 |new (o:Obj)
 |any (p:Value→Nat→Nat→World→Prop)
abbrev Spec:=Nat→Value→Nat→Nat→World→Prop
def gG:PQ→Value→Nat→Nat→World→Prop
 | .val c,v,_,_,_=>v=c
 | .new o,v,lo,hi,w=>v=.pointer (some ⟨lo,0,none⟩)∧lo<hi∧w.heap[lo]? =some o
 | .any p,v,lo,hi,w=>p v lo hi w
def dV(ks:List PQ):Spec:=fun i v lo hi w=>gG (ks.getD i (.any fun _ _ _ _=>True)) v lo hi w
def ZL:PQ→Prop
 | .any p=>∀v lo hi w w',Below w.heap.size w w'→p v lo hi w→p v lo hi w'
 |_=>True
theorem dN{ks:List PQ}(h:∀k∈ks,ZL k):∀i v lo hi w w',Below w.heap.size w w'→dV ks i v lo hi w→dV ks i v lo hi w':=by
 intro i v lo hi w w' hb hs
 unfold dV at*
 have hk:ZL (ks.getD i (.any fun _ _ _ _=>True)):=by
  rw[aBT];cases e:ks[i]? with
  |none=>exact fun _ _ _ _ _ _ h=>h
  |some k=>exact h k (aBY e)
 generalize ks.getD i (.any fun _ _ _ _=>True)=k at*
 cases k with
 |val c=>exact hs
 |new o=>exact⟨hs.1,hs.2.1,aB hb hs.2.2⟩
 |any p=>exact hk v lo hi w w' hb hs
section
variable {P:Program} {l:List Oper} {Q:Exit→Act→World→Prop}
theorem EV(m:Nat)(hok:∀j,m≤j→j<l.length→∀i,i<j→reach l j i=true)(hup:∀j o,l[j]? =some o→∀e∈o.after,Region.binds .any e=true→e.on<j):
  ∀(k j:Nat) (listed:Array Bool) (a:Act) (w:World),l.length-j=k→m≤j→j≤l.length→listed.size=l.length→(∀i,i<l.length→listed.getD i false=decide (i<j))→jJ l listed→wpList P l.toArray Q (l.drop j) a w→wpAny P .any l.toArray Q k listed a w:=by
 intro k
 induction k with
 |zero=>
  intro j listed a w hk hm hj hs hL hc h;have hr:Region.ready .any l.toArray listed= []:=by
   cases hr:Region.ready .any l.toArray listed with
   |nil=>rfl
   |cons i r=>
    have hi:i∈Region.ready .any l.toArray listed:=by rw[hr];simp
    obtain⟨h1,o,ho,_⟩:=mem_ready.1 hi;have hlt:i<l.length:=by have:=(aBW.1 ho).1;simpa using this
    have h2:=hL i hlt;have e:listed.getD i true=listed.getD i false:=by simp[hs,hlt]
    rw[e,h2] at h1;simp at h1;omega
  rw[List.drop_of_length_le (by omega)] at h;exact⟨hr,h⟩
 |succ k ih=>
  intro j listed a w hk hm hj hs hL hc h;have hjl:j<l.length:=by omega
  have hj0:l[j]? =some l[j]:=aBU hjl;have only:∀i∈Region.ready .any l.toArray listed,i=j:=fun i hi=>by
   obtain⟨h1,o,ho,_⟩:=mem_ready.1 hi;have hlt:i<l.length:=by have:=(aBW.1 ho).1;simpa using this
   have h2:=hL i hlt;have e:listed.getD i true=listed.getD i false:=by simp[hs,hlt]
   rw[e,h2] at h1;simp at h1;by_cases hij:i=j
   ·exact hij
   ·obtain⟨n,hn⟩:=rQ (hok i (by omega) hlt j (by omega));have h3:=rN hc hi hn;rw[hL j hjl] at h3;simp at h3
  have hrj:j∈Region.ready .any l.toArray listed:=by
   refine mem_ready.2 ⟨?_,l[j],by simp[hjl],fun e he hb=>?_⟩
   ·have e:listed.getD j true=listed.getD j false:=by simp[hs,hjl]
    rw[e,hL j hjl];simp
   ·have hon:=hup j l[j] hj0 e he hb;rw[hL e.on (by omega)];simpa using hon
  refine⟨fun h0=>absurd hrj (by rw[h0];simp),fun i hi=>?_⟩;obtain rfl:=only i hi;rw[List.drop_eq_getElem_cons hjl] at h;have hget:l.toArray[i]? =some l[i]:=by simp[hjl]
  unfold wpOp;simp only[hget];have hnext:∀a' w',wpList P l.toArray Q (l.drop (i+1)) a' w'→wpAny P .any l.toArray Q k (listed.setIfInBounds i true) a' w':=fun a' w' h'=>by
   refine ih (i+1) _ a' w' (by omega) (by omega) (by omega) (by simpa using hs) (fun q hq=>?_) (hc.set hrj) h';by_cases e:i=q
   ·subst e;rw[yL _ _ (by rw[hs];exact hjl)];simp
   ·rw[getD_set_ne false e,hL q hq];rw[decide_eq_decide];omega
  rw[wpList] at h
  split
  ·rename_i hw
   rw[if_pos hw] at h;exact h.imp (fun h=>Oper.wp_mono hnext h) id
  ·rename_i hw
   rw[if_neg hw] at h;exact hnext _ _ h
theorem KF{P:Program}{l:List Oper}{Q:Exit→Act→World→Prop}(m:Nat)(ds:List (Option Nat))(hok:FL l m ds=true)(S:Spec)(a0:Act)(w0:World)
  (hmono:∀i v lo hi w w',Below w.heap.size w w'→S i v lo hi w→S i v lo hi w')
  (hops:∀i,i<m→∀(ν:Nat→Value) (lo hi:Nat→Nat) (w:World) (K:Act→World→Prop),Below w0.heap.size w0 w→(∀j,YA l i j=true→S j (ν j) (lo j) (hi j) w)→
    (∀v w',Below w.heap.size w w'→S i v w.heap.size w'.heap.size w'→K ((iB a0 ds ν).put (ds.getD i none) v) w')→wpOp P l.toArray Q i K (iB a0 ds ν) w)
  (hend:∀(ν:Nat→Value) (lo hi:Nat→Nat) (w:World),Below w0.heap.size w0 w→(∀i,i<m→S i (ν i) (lo i) (hi i) w)→(∀i,i<m→w0.heap.size≤lo i∧lo i≤hi i∧hi i≤w.heap.size)→
    (∀i j,i<m→j<m→i≠j→hi i≤lo j∨hi j≤lo i)→wpList P l.toArray Q (l.drop m) (iB a0 ds ν) w):
  wpAny P .any l.toArray Q l.length (Array.replicate l.length false) a0 w0:=by
 simp only[FL,Bool.and_eq_true,decide_eq_true_eq,List.all_eq_true,List.mem_range] at hok
 obtain⟨⟨⟨hds,hml,hnd⟩,h1⟩,h2⟩:=hok
 have hup:∀j o,l[j]? =some o→∀e∈o.after,Region.binds .any e=true→e.on<j:=fun j o hj e he hb=>by
  have hlt:j<l.length:=(aBX.1 hj).1;have:=(h2 j hlt).2;rw[hj] at this;simp only[Option.map_some,Option.getD_some] at this;have:=(Array.all_eq_true'.1 this) e he;simpa[hb] using this
 have htail:∀j,m≤j→j<l.length→∀i,i<j→reach l j i=true:=fun j hj hlt i hi=>by
  have:=(h2 j hlt).1;simp only[Bool.or_eq_true,decide_eq_true_eq,List.all_eq_true,List.mem_range] at this;exact(this.resolve_left (by omega)) i hi
 have key:∀(fuel:Nat) (listed:Array Bool) (ν:Nat→Value) (lo hi:Nat→Nat) (w:World),((List.range l.length).filter fun j=> !listed.getD j true).length=fuel→listed.size=l.length→jJ l listed→
   (∀j,m≤j→listed.getD j false=false)→Below w0.heap.size w0 w→(∀i,i<m→listed.getD i false=true→S i (ν i) (lo i) (hi i) w∧w0.heap.size≤lo i∧lo i≤hi i∧hi i≤w.heap.size)→
   (∀i j,i<m→j<m→i≠j→listed.getD i false=true→listed.getD j false=true→hi i≤lo j∨hi j≤lo i)→wpAny P .any l.toArray Q fuel listed (iB a0 ds ν) w:=by
  intro fuel
  induction fuel with
  |zero=>
   intro listed ν lo hi w hf hs hc htl hB hS hD;by_cases hall:∀i,i<m→listed.getD i false=true
   ·have hL:∀i,i<l.length→listed.getD i false=decide (i<m):=fun i _=>by
     by_cases h:i<m
     ·rw[hall i h];simp[h]
     ·rw[htl i (by omega)];simp[h]
    have hcnt:l.length-m=0:=by
     rw[←hf,←RA m l.length]
     congr 1
     refine List.filter_congr fun j hj=>?_;have hj:=List.mem_range.1 hj;have e:listed.getD j true=listed.getD j false:=by simp[hs,hj]
     rw[e,hL j hj]
    exact EV m htail hup 0 m listed _ w hcnt (aBV _) hml hs hL hc (hend ν lo hi w hB (fun i h=>(hS i h (hall i h)).1) (fun i h=>(hS i h (hall i h)).2) (fun i j h h' hne=>hD i j h h' hne (hall i h) (hall j h')))
   ·exfalso;have⟨i,hi⟩:=Classical.not_forall.1 hall;have⟨him,hin⟩:=Classical.not_imp.1 hi;have hlt:i<l.length:=by omega
    have hmem:i∈(List.range l.length).filter fun j=> !listed.getD j true:=by
     rw[List.mem_filter,List.mem_range];refine⟨hlt,?_⟩;have e:listed.getD i true=listed.getD i false:=by simp[hs,hlt]
     rw[e];simpa using hin
    rw[List.eq_nil_of_length_eq_zero hf] at hmem;cases hmem
  |succ fuel ih=>
   intro listed ν lo hi w hf hs hc htl hB hS hD;by_cases hall:∀i,i<m→listed.getD i false=true
   ·have hL:∀i,i<l.length→listed.getD i false=decide (i<m):=fun i _=>by
     by_cases h:i<m
     ·rw[hall i h];simp[h]
     ·rw[htl i (by omega)];simp[h]
    have hcnt:l.length-m=fuel+1:=by
     rw[←hf,←RA m l.length]
     congr 1
     refine List.filter_congr fun j hj=>?_;have hj:=List.mem_range.1 hj;have e:listed.getD j true=listed.getD j false:=by simp[hs,hj]
     rw[e,hL j hj]
    exact EV m htail hup (fuel+1) m listed _ w hcnt (aBV _) hml hs hL hc (hend ν lo hi w hB (fun i h=>(hS i h (hall i h)).1) (fun i h=>(hS i h (hall i h)).2) (fun i j h h' hne=>hD i j h h' hne (hall i h) (hall j h')))
   · -- the least that is to come
     have hex:∀k,(∃i,i<m∧i≤k∧listed.getD i false=false)→∃i,i<m∧listed.getD i false=false∧∀j,j<i→listed.getD j false=true:=by
      intro k
      induction k with
      |zero=>
       rintro⟨i,h1,h2,h3⟩;exact⟨i,h1,h3,fun j hj=>by omega⟩
      |succ k ihk=>
       rintro⟨i,h1,h2,h3⟩;by_cases h:∃i,i<m∧i≤k∧listed.getD i false=false
       ·exact ihk h
       ·refine⟨i,h1,h3,fun j hj=>?_⟩;cases e:listed.getD j false with
        |true=>rfl
        |false=>exact absurd ⟨j,by omega,by omega,e⟩ h
     have⟨i1,hi1⟩:=Classical.not_forall.1 hall;have⟨him1,hin1⟩:=Classical.not_imp.1 hi1;obtain⟨i0,h0m,h0f,h0all⟩:=hex i1 ⟨i1,him1,aBV _,by simpa using hin1⟩;have h0l:i0<l.length:=by omega
     have hr0:i0∈Region.ready .any l.toArray listed:=by
      refine mem_ready.2 ⟨?_,l[i0],by simp[h0l],fun e he hb=>h0all e.on (hup i0 l[i0] (aBU h0l) e he hb)⟩;have e:listed.getD i0 true=listed.getD i0 false:=by simp[hs,h0l]
      rw[e,h0f]
     refine⟨fun h=>absurd hr0 (by rw[h];simp),fun i hir=>?_⟩;obtain⟨hi1',o,ho,hdep⟩:=mem_ready.1 hir;have hil:i<l.length:=by have:=(aBW.1 ho).1;simpa using this
     have hif:listed.getD i false=false:=by
      have e:listed.getD i true=listed.getD i false:=by simp[hs,hil]
      rw[←e];exact hi1'
     have him:i<m:=by
      apply aCF;intro hge;obtain⟨n,hn⟩:=rQ (htail i (by omega) hil i0 (by omega));have h9:=rN hc hir hn;rw[h0f] at h9;cases h9
     refine hops i him ν lo hi w _ hB (fun j hj=>?_) (fun v w' hb hsp=>?_)
     ·have ho':l[i]? =some o:=by simpa using ho
      simp only[YA,ho',Option.map_some,Option.getD_some] at hj;obtain⟨e,he,hbe⟩:=Array.any_eq_true'.1 hj;simp only[Bool.and_eq_true,beq_iff_eq] at hbe;have hlj:listed.getD j false=true:=hbe.2▸hdep e he hbe.1;have hji:j<i:=hbe.2▸hup i o ho' e he hbe.1;exact(hS j (by omega) hlj).1
     ·rw[TD a0 ds ν i v hnd (by omega)];have hsz:=hb.size;refine ih (listed.setIfInBounds i true) (gM ν i v) (gM lo i w.heap.size) (gM hi i w'.heap.size) w' ?_ (by simpa using hs) (hc.set hir) (fun j hj=>?_) (hB.trans (hb.mono hB.size)) (fun j hj hlj=>?_) (fun j k hj hk hne hlj hlk=>?_)
      ·have:=XD (fun j=> !listed.getD j true) (fun j=> !(listed.setIfInBounds i true).getD j true) i (by simp[hi1']) (fun j=>by
        by_cases e:i=j
        ·subst e;have:(listed.setIfInBounds i true).getD i true=true:=by
          have h1:=yL listed i (by rw[hs];exact hil);rw[Array.getD_eq_getD_getElem?] at h1⊢;cases h2:(listed.setIfInBounds i true)[i]? with
          |none=>rfl
          |some b=>rw[h2] at h1;exact h1
         simp[this]
        ·have e':(j != i)=true:=by simpa using fun h=>e h.symm
         rw[getD_set_ne true e,e',Bool.true_and]) (List.range l.length) List.nodup_range (List.mem_range.2 hil)
       omega
      ·rw[getD_set_ne false (by omega)];exact htl j hj
      ·by_cases e:i=j
       ·subst e;simp only[gM,if_pos rfl];exact⟨hsp,hB.size,hsz,aBV _⟩
       ·have e':¬j=i:=fun h=>e h.symm;rw[getD_set_ne false e] at hlj;simp only[gM,if_neg e'];obtain⟨s1,s2,s3,s4⟩:=hS j hj hlj;exact⟨hmono j _ _ _ w w' hb s1,s2,s3,by omega⟩
      ·by_cases ej:i=j
       ·subst ej;have e':¬k=i:=fun h=>hne h.symm;rw[getD_set_ne false hne] at hlk;obtain⟨_,s2,s3,s4⟩:=hS k hk hlk;simp only[gM,if_pos rfl,if_neg e'];exact .inr s4
       ·have ej':¬j=i:=fun h=>ej h.symm;rw[getD_set_ne false ej] at hlj;obtain⟨_,s2,s3,s4⟩:=hS j hj hlj;by_cases ek:i=k
        ·subst ek;simp only[gM,if_pos rfl,if_neg ej'];exact .inl s4
        ·have ek':¬k=i:=fun h=>ek h.symm;rw[getD_set_ne false ek] at hlk;simp only[gM,if_neg ej',if_neg ek'];exact hD j k hj hk hne hlj hlk
 have h3:=key l.length (Array.replicate l.length false) (NK a0 ds) (fun _=>0) (fun _=>0) w0 (by
  have:(List.range l.length).filter (fun j=> !(Array.replicate l.length false).getD j true)=List.range l.length:=by
   rw[List.filter_eq_self];intro j hj;have:=List.mem_range.1 hj;simp[this]
  rw[this];simp) (by simp) (yQ _) (fun j hj=>by
  by_cases h:j<l.length<;>simp[h]) (aBQ _ _) (fun i hi h=>by
  by_cases h':i<l.length
  ·simp[h'] at h
  ·omega) (fun i j hi hj _ h=>by
  by_cases h':i<l.length
  ·simp[h'] at h
  ·omega)
 rwa [MF] at h3
theorem dL{id:Nat}{a:Act}{w:World}(m:Nat)(ds:List (Option Nat))(hm:P.follows .mixedOrders=true)(hok:FL l m ds=true)(S:Spec)
  (hmono:∀i v lo hi w w',Below w.heap.size w w'→S i v lo hi w→S i v lo hi w')
  (hops:∀i,i<m→∀(ν:Nat→Value) (lo hi:Nat→Nat) (w':World) (K:Act→World→Prop),Below w.heap.size w w'→(∀j,YA l i j=true→S j (ν j) (lo j) (hi j) w')→
    (∀v w'',Below w'.heap.size w' w''→S i v w'.heap.size w''.heap.size w''→K ((iB a ds ν).put (ds.getD i none) v) w'')→wpOp P l.toArray Q i K (iB a ds ν) w')
  (hend:∀(ν:Nat→Value) (lo hi:Nat→Nat) (w':World),Below w.heap.size w w'→(∀i,i<m→S i (ν i) (lo i) (hi i) w')→(∀i,i<m→w.heap.size≤lo i∧lo i≤hi i∧hi i≤w'.heap.size)→
    (∀i j,i<m→j<m→i≠j→hi i≤lo j∨hi j≤lo i)→wpList P l.toArray Q (l.drop m) (iB a ds ν) w'):
  (Code.region id l.toArray true).wp P Q a w:=by
 refine wp_region_any hm ?_
 have:=KF (P:=P) (l:=l) (Q:=Q) m ds hok S a w.drew hmono (fun i hi ν lo hi' w' K hB=>hops i hi ν lo hi' w' K (nN hB)) (fun ν lo hi w' hB=>hend ν lo hi w' (nN hB))
 simpa using this
theorem BH{id:Nat}{a:Act}{w:World}{lp:Nat}(m:Nat)(ds:List (Option Nat))(hm:P.follows .mixedOrders=true)(hn:l.all pN=true)(hQ:¬LetsOut Q)(hok:FL l m ds=true)(S:Spec)
  (hmono:∀i v lo hi w w',Below w.heap.size w w'→S i v lo hi w→S i v lo hi w')
  (hops:∀i,i<m→∀(ν:Nat→Value) (lo hi:Nat→Nat) (w':World) (K:Act→World→Prop),Below w.heap.size w w'→(∀j,YA l i j=true→S j (ν j) (lo j) (hi j) w')→
    (∀v w'',Below w'.heap.size w' w''→S i v w'.heap.size w''.heap.size w''→K ((iB a ds ν).put (ds.getD i none) v) w'')→wpOp P l.toArray Q i K (iB a ds ν) w')
  (hend:∀(ν:Nat→Value) (lo hi:Nat→Nat) (w':World),Below w.heap.size w w'→(∀i,i<m→S i (ν i) (lo i) (hi i) w')→(∀i,i<m→w.heap.size≤lo i∧lo i≤hi i∧hi i≤w'.heap.size)→
    (∀i j,i<m→j<m→i≠j→hi i≤lo j∨hi j≤lo i)→wpList P l.toArray Q (l.drop m) (iB a ds ν) w'):
  (Code.region id l.toArray true).wpIn (Fence.wide.inRound lp) 0 P Q a w:=by
 refine wpIn_region_draw fun t=>?_
 refine BC lp (fun i o ho=>?_) hQ _ _ _ ?_
 ·rw[List.all_eq_true] at hn
  exact hn o (by
   have:l[i]? =some o:=by simpa using ho
   exact aBY this)
 ·simp only[Region.schedule,hm,Bool.true_or,if_true];refine wpAny_sound _ t _ a _ ?_;have:=KF (P:=P) (l:=l) (Q:=Q) m ds hok S a w.drew hmono (fun i hi ν lo hi' w' K hB=>hops i hi ν lo hi' w' K (nN hB)) (fun ν lo hi w' hB=>hend ν lo hi w' (nN hB));simpa using this
theorem aC{e:Nat}{o:Oper}{K:Act→World→Prop}{a:Act}{w:World}(ho:l[e]? =some o)(hg:o.guard=none)(h:o.wp P a w K Q):wpOp P l.toArray Q e K a w:=dP ho hg h
end
theorem zA(a:Act)(ds:List (Option Nat))(v:Nat→Value):iB a ds v=eM a ds 0 v:=rfl
theorem zB(a:Act)(k:Nat)(v:Nat→Value):eM a [] k v=a:=rfl
theorem zC(a:Act)(ds:List (Option Nat))(k:Nat)(v:Nat→Value):eM a (none :: ds) k v=eM a ds (k+1) v:=rfl
theorem zD(a:Act)(d:Nat)(ds:List (Option Nat))(k:Nat)(v:Nat→Value):eM a (some d :: ds) k v=eM {tmps:=a.tmps.setIfInBounds d (v k),defers:=a.defers} ds (k+1) v:=rfl
theorem zE{α:Type}(x d:α)(l:List α):(x :: l).getD 0 d=x:=rfl
theorem zF{α:Type}(x d:α)(l:List α)(n:Nat):(x :: l).getD (n+1) d=l.getD n d:=rfl
theorem zG{α:Type}(l:List α)(i:Nat)(x:α):l.toArray.setIfInBounds i x=(l.set i x).toArray:=List.setIfInBounds_toArray l i x
theorem zH{α:Type}(a:α)(l:List α)(n:Nat)(b:α):(a :: l).set (n+1) b=a :: l.set n b:=rfl
theorem zJ(a:Act)(d:Nat)(v:Value):a.put (some d) v={tmps:=a.tmps.setIfInBounds d v,defers:=a.defers}:=rfl
theorem zK(a:Act)(v:Value):a.put none v=a:=rfl
theorem zI{α:Type}(a:α)(l:List α)(b:α):(a :: l).set 0 b=b :: l:=rfl
end

section
open Go.RowKit
theorem bD:(Tryz.prog.info? 116).map (·.size)=some 4:=by kernel_rfl
theorem gH.nx_lt{w:World}{d:fD}{ts:List aT}(h:fS ts=true):(∀k y,y∈nx ts k→y<200)∧(∀k y,y∈pv ts k→y<200):=by
 have hl:=((cY ts).1 h).1
 refine⟨fun k y hy=>?_,fun k y hy=>?_⟩
 ·have:=lJ h hy;omega
 ·have hk:=(nJ ts k y).1 hy;by_cases hy2:y<ts.length
  ·omega
  ·rw[sJ ts y (by omega)] at hk;cases hk
theorem gH.nx_to{w:World}{d:fD}{ts:List aT}(h:fS ts=true)(hok:gH w d ts)(f:Nat→Bool):(∀k y,y∈nx ts k→y<200∧(f y=true→y<d.bn))∧(∀k y,y∈pv ts k→y<200∧(f y=true→y<d.bn)):=by
 have hl:=((cY ts).1 h).1
 rw[←hok.1]
 refine⟨fun k y hy=>?_,fun k y hy=>?_⟩
 ·have:=lJ h hy;exact⟨by omega,fun _=>by omega⟩
 ·have hk:=(nJ ts k y).1 hy;by_cases hy2:y<ts.length
  ·exact⟨by omega,fun _=>hy2⟩
  ·rw[sJ ts y (by omega)] at hk;cases hk
theorem AR(d:fD)(ts:List aT)(b:Nat)(f:Nat→Bool)(w:World)(hb:b<200)(hok:gH w d ts)(hg:fS ts=true)(hcf:cA f)(hf:f b=true→b<d.bn):
  Calls Tryz.prog 130 #[dK d,.int .i64 (b:Int),.agg (aQ f)] w (lK w (bT ts b f)):=by
 have HOK:=aBO hok
 have HF:=aBO hf
 have HCF:=aBO hcf
 have HX:=aBO (gH.nx_to hg hok f)
 clear hok hg hcf hf
 go_enter Tryz.func130,Tryz.ntmps130
 go_upto_region 1 with (fail)
 obtain⟨W,hW⟩:∃W,W=((w.alloc (kK d)).alloc (eA f)).alloc (.cells Tryz.zeroCells124 124):=⟨_,rfl⟩
 rw[←hW]
 have hk:W.heap[w.heap.size]? =some (kK d):=by rw[hW,aBR _ _ _ (by simp;omega),aBR _ _ _ (by simp)];exact aBS _ _
 have hs:W.heap[w.heap.size+1]? =some (eA f):=by rw[hW,aBR _ _ _ (by simp)];exact aU _ _ _ (by simp)
 have hr:W.heap[w.heap.size+1+1]? =some (eA fun _=>false):=by rw[hW,aU _ _ _ (by simp),jK]
 have hB:Below w.heap.size w W:=by rw[hW];exact((aD _ _).alloc (by simp) _).alloc (by simp;omega) _
 have hWs:W.heap.size=w.heap.size+1+1+1:=by rw[hW];simp
 have HWs:=aBO hWs
 have HK:=aBO hk
 have HS:=aBO hs
 have HR:=aBO hr
 have HB:=aBO hB
 have HC2:Hid (W.cell? ⟨w.heap.size,2,none⟩=some (.slice d.ta d.bn d.tc)):=by rw[Hid,aBP _ _ _ _ _ _ hk];rfl
 have HC3:Hid (W.cell? ⟨w.heap.size,3,none⟩=some (.slice d.fa d.bn d.fc)):=by rw[Hid,aBP _ _ _ _ _ _ hk];rfl
 clear hW hWs hk hs hr hB
 go_cut [7,8] (fun s7 s8 wr=>∃p7 p8:Nat,s7=.pointer (some ⟨p7,0,none⟩)∧s8=.pointer (some ⟨p8,0,none⟩)∧w.heap.size+1+1+1≤p7∧w.heap.size+1+1+1≤p8∧p7≠p8∧Hid (wr.heap[p7]? =some (eA (bL (nx ts) f b)))∧Hid (wr.heap[p8]? =some (eA (bL (pv ts) f b)))∧Hid (wr.heap[w.heap.size+1+1]? =some (eA fun _=>false))∧Hid (Below w.heap.size w wr))
 case first=>
  refine dL 14 [some 10,some 11,some 12,some 13,some 14,some 15,some 16,some 17,some 18,some 19,some 20,some 21,some 7,some 8] (by kernel_rfl) (by kernel_rfl) (dV [.val (dK d),.val (.int .i64 (b:Int)),.val (.agg (aQ f)),.val (.pointer (some ⟨w.heap.size,2,none⟩)),.val (.slice d.ta d.bn d.tc),.val (.agg (aQ (bL (nx ts) f b))),.val (dK d),.val (.int .i64 (b:Int)),.val (.agg (aQ f)),.val (.pointer (some ⟨w.heap.size,3,none⟩)),.val (.slice d.fa d.bn d.fc),.val (.agg (aQ (bL (pv ts) f b))),.new (eA fun _=>false),.new (eA fun _=>false)]) (dN ?_) ?_ ?_
  ·intro k hk;simp only[List.mem_cons,List.not_mem_nil,or_false] at hk;rcases hk with rfl|rfl|rfl|rfl|rfl|rfl|rfl|rfl|rfl|rfl|rfl|rfl|rfl|rfl
   ·exact trivial
   ·exact trivial
   ·exact trivial
   ·exact trivial
   ·exact trivial
   ·exact trivial
   ·exact trivial
   ·exact trivial
   ·exact trivial
   ·exact trivial
   ·exact trivial
   ·exact trivial
   ·exact trivial
   ·exact trivial
  ·intro i hi ν lo hi' w1 K hB hD hK;have hcase:i=0∨i=1∨i=2∨i=3∨i=4∨i=5∨i=6∨i=7∨i=8∨i=9∨i=10∨i=11∨i=12∨i=13:=by omega
   clear hi;rcases hcase with rfl|rfl|rfl|rfl|rfl|rfl|rfl|rfl|rfl|rfl|rfl|rfl|rfl|rfl
   ·clear hD;refine aC rfl rfl ?_;simp only[zA,zB,zC,zD,zE,zF,zJ,zK,zG,zH,zI] at hK⊢;refine wp_load_row 116 _ rfl w.heap.size rfl 116 _ (0,0) _ (aB hB HK.out) Tryz.underlying116 rfl bD ?_;exact hK _ _ (aBQ _ _) rfl
   ·clear hD;refine aC rfl rfl ?_;simp only[zA,zB,zC,zD,zE,zF,zJ,zK,zG,zH,zI] at hK⊢;go_simp;exact hK _ _ (aBQ _ _) rfl
   ·clear hD;refine aC rfl rfl ?_;simp only[zA,zB,zC,zD,zE,zF,zJ,zK,zG,zH,zI] at hK⊢;refine wp_load_row 124 _ rfl (w.heap.size+1) rfl 124 _ (0,0) _ (aB hB HS.out) Tryz.underlying124 rfl (by rw[aF];exact bF) ?_;exact hK _ _ (aBQ _ _) rfl
   ·clear hD;refine aC rfl rfl ?_;simp only[zA,zB,zC,zD,zE,zF,zJ,zK,zG,zH,zI] at hK⊢;go_simp;exact hK _ _ (aBQ _ _) rfl
   ·have e3:=hD 3 (by kernel_rfl)
    replace e3:ν 3=(.pointer (some ⟨w.heap.size,2,none⟩)):=e3
    clear hD;refine aC rfl rfl ?_;simp only[zA,zB,zC,zD,zE,zF,zJ,zK,zG,zH,zI,e3] at hK⊢;have c0:=aH hB HC2.out;go_simp;exact hK _ _ (aBQ _ _) rfl
   ·have e0:=hD 0 (by kernel_rfl)
    replace e0:ν 0=(dK d):=e0
    have e1:=hD 1 (by kernel_rfl)
    replace e1:ν 1=(.int .i64 (b:Int)):=e1
    have e2:=hD 2 (by kernel_rfl)
    replace e2:ν 2=(.agg (aQ f)):=e2
    have e4:=hD 4 (by kernel_rfl)
    replace e4:ν 4=(.slice d.ta d.bn d.tc):=e4
    clear hD;refine aC rfl rfl ?_;simp only[zA,zB,zC,zD,zE,zF,zJ,zK,zG,zH,zI,e0,e1,e2,e4] at hK⊢;go_simp;refine(FN d b f d.ta d.bn d.tc (oE ts) (nx ts) w1 hb HOK.out.2.1 HCF.out HF.out (fun k hk=>by simp[oE,HOK.out.1,hk]) HX.out.1 ((HOK.out.2.2.1).ext (aA HB.out hB))).mono ?_;rintro e w2 ⟨rfl,hb2⟩;exact hK _ _ hb2 rfl
   ·clear hD;refine aC rfl rfl ?_;simp only[zA,zB,zC,zD,zE,zF,zJ,zK,zG,zH,zI] at hK⊢;refine wp_load_row 116 _ rfl w.heap.size rfl 116 _ (0,0) _ (aB hB HK.out) Tryz.underlying116 rfl bD ?_;exact hK _ _ (aBQ _ _) rfl
   ·clear hD;refine aC rfl rfl ?_;simp only[zA,zB,zC,zD,zE,zF,zJ,zK,zG,zH,zI] at hK⊢;go_simp;exact hK _ _ (aBQ _ _) rfl
   ·clear hD;refine aC rfl rfl ?_;simp only[zA,zB,zC,zD,zE,zF,zJ,zK,zG,zH,zI] at hK⊢;refine wp_load_row 124 _ rfl (w.heap.size+1) rfl 124 _ (0,0) _ (aB hB HS.out) Tryz.underlying124 rfl (by rw[aF];exact bF) ?_;exact hK _ _ (aBQ _ _) rfl
   ·clear hD;refine aC rfl rfl ?_;simp only[zA,zB,zC,zD,zE,zF,zJ,zK,zG,zH,zI] at hK⊢;go_simp;exact hK _ _ (aBQ _ _) rfl
   ·have e9:=hD 9 (by kernel_rfl)
    replace e9:ν 9=(.pointer (some ⟨w.heap.size,3,none⟩)):=e9
    clear hD;refine aC rfl rfl ?_;simp only[zA,zB,zC,zD,zE,zF,zJ,zK,zG,zH,zI,e9] at hK⊢;have c0:=aH hB HC3.out;go_simp;exact hK _ _ (aBQ _ _) rfl
   ·have e5:=hD 5 (by kernel_rfl)
    replace e5:ν 5=(.agg (aQ (bL (nx ts) f b))):=e5
    have e6:=hD 6 (by kernel_rfl)
    replace e6:ν 6=(dK d):=e6
    have e7:=hD 7 (by kernel_rfl)
    replace e7:ν 7=(.int .i64 (b:Int)):=e7
    have e8:=hD 8 (by kernel_rfl)
    replace e8:ν 8=(.agg (aQ f)):=e8
    have e10:=hD 10 (by kernel_rfl)
    replace e10:ν 10=(.slice d.fa d.bn d.fc):=e10
    clear hD;refine aC rfl rfl ?_;simp only[zA,zB,zC,zD,zE,zF,zJ,zK,zG,zH,zI,e5,e6,e7,e8,e10] at hK⊢;go_simp;refine(FN d b f d.fa d.bn d.fc (nA ts) (pv ts) w1 hb HOK.out.2.1 HCF.out HF.out (fun k hk=>by simp[nA,HOK.out.1,hk]) HX.out.2 ((HOK.out.2.2.2).ext (aA HB.out hB))).mono ?_;rintro e w2 ⟨rfl,hb2⟩;exact hK _ _ hb2 rfl
   ·clear hD;refine aC rfl rfl ?_;simp only[zA,zB,zC,zD,zE,zF,zJ,zK,zG,zH,zI] at hK⊢;go_simp;refine hK _ _ (aD _ _) ⟨rfl,by simp,?_⟩;rw[aBS,jK]
   ·clear hD;refine aC rfl rfl ?_;simp only[zA,zB,zC,zD,zE,zF,zJ,zK,zG,zH,zI] at hK⊢;go_simp;refine hK _ _ (aD _ _) ⟨rfl,by simp,?_⟩;rw[aBS,jK]
  ·intro ν lo hi w1 hB hS hI hD;have e0:ν 0=(dK d):=hS 0 (by omega);have e1:ν 1=(.int .i64 (b:Int)):=hS 1 (by omega);have e2:ν 2=(.agg (aQ f)):=hS 2 (by omega);have e3:ν 3=(.pointer (some ⟨w.heap.size,2,none⟩)):=hS 3 (by omega);have e4:ν 4=(.slice d.ta d.bn d.tc):=hS 4 (by omega);have e5:ν 5=(.agg (aQ (bL (nx ts) f b))):=hS 5 (by omega);have e6:ν 6=(dK d):=hS 6 (by omega);have e7:ν 7=(.int .i64 (b:Int)):=hS 7 (by omega);have e8:ν 8=(.agg (aQ f)):=hS 8 (by omega);have e9:ν 9=(.pointer (some ⟨w.heap.size,3,none⟩)):=hS 9 (by omega);have e10:ν 10=(.slice d.fa d.bn d.fc):=hS 10 (by omega);have e11:ν 11=(.agg (aQ (bL (pv ts) f b))):=hS 11 (by omega);obtain⟨e12,l12,h12⟩:=hS 12 (by omega);obtain⟨e13,l13,h13⟩:=hS 13 (by omega);clear hS;simp only[List.drop_succ_cons,List.drop_zero,zA,zB,zC,zD,zE,zF,zJ,zK,zG,zH,zI,e0,e1,e2,e3,e4,e5,e6,e7,e8,e9,e10,e11,e12,e13];have i12:=hI 12 (by omega);have i13:=hI 13 (by omega);have hne:lo 12≠lo 13:=by
    have:=hD 12 13 (by omega) (by omega) (by omega);omega
   rw[HWs.out] at i12 i13;have hr1:=aB hB HR.out;have HBw:Hid (Below w.heap.size w w1):=aA HB.out hB;generalize lo 12=p7 at *;generalize lo 13=p8 at *;have h13':(w1.setRow p7 (aQ (bL (nx ts) f b))).heap[p8]? =some (eA fun _=>false):=(setRow_other _ _ _ _ (by omega)).trans h13;have H12:=aBO h12;have H13:=aBO h13';have HR1:=aBO hr1;have HI12:=i12.1;have HI13:=i13.1;clear hI hD hB e0 e1 e2 e3 e4 e5 e6 e7 e8 e9 e10 e11 e12 e13 h12 h13 h13' hr1 i12 i13
   go_wp2_with (first
    |(refine wpList_store_row rfl 124 _ _ rfl p7 (aQ (bL (nx ts) f b)) rfl rfl 124 _ H12.out (by rw[aF];exact bF) rfl (dE _) ?_)
    |(refine wpList_store_row rfl 124 _ _ rfl p8 (aQ (bL (pv ts) f b)) rfl rfl 124 _ H13.out (by rw[aF];exact bF) rfl (dE _) ?_))
   go_meet
   exact⟨p7,p8,rfl,rfl,HI12,HI13,hne,(setRow_other _ _ _ _ hne).trans (setRow_heap _ _ _ _ _ _ H12.out),setRow_heap _ _ _ _ _ _ H13.out,(setRow_other _ _ _ _ (by omega)).trans ((setRow_other _ _ _ _ (by omega)).trans HR1.out),below_setRow (below_setRow HBw.out (by omega) _) (by omega) _⟩
 case rest=>
  obtain⟨p7,p8,rfl,rfl,hp7,hp8,hne,H7,H8,HR,HB⟩:=hcut;clear HK HS HC2 HC3 HWs;go_wp2
  go_loopw [9,22] (fun _ i wx=>∃(k:Nat),k≤200∧i=.int .i64 k∧Hid (wx.heap[w.heap.size+1+1]? =some (eA fun j=>decide (j<k)&&bT ts b f j))∧Hid (wx.heap[p7]? =some (eA (bL (nx ts) f b)))∧Hid (wx.heap[p8]? =some (eA (bL (pv ts) f b)))∧Hid (Below w.heap.size w wx)) (fun _ i _=>200-(intOf i).toNat)
  case atStart=>exact⟨0,by omega,rfl,by have e:(fun j=>decide (j<0)&&bT ts b f j)=(fun _=>false):=(by funext j;simp);rw[Hid,e];exact HR.out,H7,H8,HB⟩
  case round=>
   obtain⟨k,hk,rfl,HR2,G7,G8,HB2⟩:=hrel;clear HR H7 H8 HB;by_cases hlt:k<200
   ·have c7:=fE G7.out k hlt;have c8:=fE G8.out k hlt;have cr:=fE HR2.out k hlt;have fr:=lL HR2.out k;have hl:=aN HR2.out;have e1:(fun j=>if j=k then (bL (nx ts) f b k&&bL (pv ts) f b k) else (decide (j<k)&&bT ts b f j))=(fun j=>decide (j<k+1)&&bT ts b f j):=by
     funext j
     by_cases e:j=k
     ·subst e;simp[bT]
     ·rw[if_neg e]
      congr 1
      rw[decide_eq_decide];omega
    have HS2:=aBO (uZ HR2.out hlt e1);have HG7:=aBO (aK (bA _ (w.heap.size+1+1) k (.bool (bL (nx ts) f b k&&bL (pv ts) f b k))) G7.out (by simp;omega));have HG8:=aBO (aK (bA _ (w.heap.size+1+1) k (.bool (bL (nx ts) f b k&&bL (pv ts) f b k))) G8.out (by simp;omega));have hlt':(k:Int)<200:=by omega
    clear e1 G7 G8 HR2;generalize (decide (k<k)&&bT ts b f k)=x0 at *;cases hx1:bL (nx ts) f b k<;>simp only[hx1,Bool.true_and,Bool.false_and] at HS2 HG7 HG8 c7
    all_goals
     generalize bL (pv ts) f b k=x2 at *;clear hx1;go_wp2
     go_roundw
     case rel=>exact⟨k+1,by omega,by go_num,HS2,HG7,HG8,HB2.out.setCell (by simp;omega) _⟩
     case measure=>simp[intOf];omega
   ·obtain rfl:k=200:=by omega
    have HE:Hid ((fun j=>decide (j<200)&&bT ts b f j)=bT ts b f):=by
     have hc:cA f:=HCF.out
     funext j
     cases e:bT ts b f j with
     |false=>simp
     |true=>have:=oL hc b j e;simp[this]
    rw[HE.out] at HR2
    go_wp2_with (first
     |(refine wpList_load_row rfl 124 _ rfl (w.heap.size+1+1) rfl 124 _ (0,0) _ HR2.out Tryz.underlying124 rfl (by rw[aF];exact bF) ?_)
     |(refine wpList_store_row rfl 124 _ _ rfl (w.heap.size+1+1) (aQ (bT ts b f)) rfl rfl 124 _ HR2.out (by rw[aF];exact bF) rfl (dE _) ?_))
    exact bodyPost_ret (v:=.agg (aQ (bT ts b f))) (by simp[results,Tryz.results130,asAddr,Act.put,oI (setRow_heap _ _ _ _ _ _ HR2.out)]) rfl ⟨rfl,below_setRow HB2.out (by omega) _⟩
end

section
open Go.RowKit
theorem sP(cs:Array Value)(o:Nat)(v:Value)(w:World)(h:cs[o]? =some v):(part 4 cs o).run Tryz.prog w=.ok v w:=by
 have hu:(underlying 4).run Tryz.prog w=.ok .bool w:=run_underlying Tryz.underlying4 w
 simp[part,isAgg,hu,h]
theorem qU(w:World)(f g:Nat→Bool)(xs ys:Array Value):∀(is:List Nat),(∀i∈is,xs[i]? =some (.bool (f i))∧ys[i]? =some (.bool (g i)))→(Op.eqItems 9999 4 1 xs ys is).run Tryz.prog w=.ok (is.all fun i=>f i==g i) w
 | [],_=>by simp[Op.eqItems]
 |i :: is,h=>by
  obtain⟨h1,h2⟩:=h i (by simp);have ih:=qU w f g xs ys is (fun j hj=>h j (by simp[hj]));simp only[Op.eqItems,Sem.run_bind,Nat.mul_one];rw[sP _ i _ w h1];simp only[Result.andThen_ok];rw[sP _ i _ w h2];simp only[Result.andThen_ok];rw[run_equalIn_bool' w 9998 4 (f i) (g i) Tryz.underlying4];simp only[Result.andThen_ok];cases hq:(f i==g i) with
  |false=>simp[hq]
  |true=>simp[hq,ih]
theorem xJ(w:World)(f g:Nat→Bool):(Op.equalIn 10000 124 (.agg (aQ f)) (.agg (aQ g))).run Tryz.prog w=.ok (eqS f g) w:=by
 have hi:∃i,Tryz.prog.info? 4=some i:=Option.isSome_iff_exists.1 (by kernel_rfl)
 obtain⟨i,hi⟩:=hi
 have h1:Tryz.prog.cellsOf 4=1:=by kernel_rfl
 rw[run_equalIn_array w 9999 _ _ Tryz.underlying124 hi,h1]
 exact qU w f g _ _ _ (fun i hi=>⟨iV f i (List.mem_range.1 hi),iV g i (List.mem_range.1 hi)⟩)
structure gS where
 ia:Option Addr
 n:Nat
 c:Nat
 t:aT
def iZ(b:gS):List Value:= [.slice b.ia b.n b.c,.int .i64 b.t.kind,.int .i64 b.t.a,.int .i64 b.t.t0,.int .i64 b.t.t1]
theorem AY(b:gS):(iZ b).length=5:=rfl
def dU(w:World)(a:Option Addr)(n:Nat)(bs:List gS):Prop:=kM 5 iZ w a n bs∧∀b∈bs,qE b.t
theorem dU.ext{w w':World}{a:Option Addr}{n:Nat}{bs:List gS}(h:dU w a n bs)(hb:Below w.heap.size w w'):dU w' a n bs:=⟨h.1.ext AY hb,h.2⟩
def aG(bs:List gS):List aT:=bs.map (·.t)
theorem dD(bs:List gS):(aG bs).length=bs.length:=by simp[aG]
theorem FP(bs:List gS)(k:Nat)(b:gS)(h:bs[k]? =some b):(aG bs).getD k fP=b.t:=by
 simp[aG,aBT,h]
abbrev aBM(b:gS):Value:=.agg #[.slice b.ia b.n b.c,.int .i64 b.t.kind,.int .i64 b.t.a,.int .i64 b.t.t0,.int .i64 b.t.t1]
abbrev aAP(b:gS):Obj:=.cells #[.slice b.ia b.n b.c,.int .i64 b.t.kind,.int .i64 b.t.a,.int .i64 b.t.t0,.int .i64 b.t.t1] 73
theorem dU.cells{w:World}{a:Option Addr}{n:Nat}{bs:List gS}(h:dU w a n bs){k:Nat}(hk:k<n):∃x b o,bs[k]? =some x∧qE x.t∧a=some ⟨b,o,none⟩∧
  w.cell? ⟨b,o+k*5,none⟩=some (.slice x.ia x.n x.c)∧w.cell? ⟨b,o+k*5+1,none⟩=some (.int .i64 x.t.kind)∧w.cell? ⟨b,o+k*5+2,none⟩=some (.int .i64 x.t.a)∧w.cell? ⟨b,o+k*5+3,none⟩=some (.int .i64 x.t.t0)∧w.cell? ⟨b,o+k*5+4,none⟩=some (.int .i64 x.t.t1):=by
 have hk':k<bs.length:=by rw[h.1.1];exact hk
 obtain⟨b,o,e,hc⟩:=h.1.2.2 k bs[k] (aBU hk')
 exact⟨bs[k],b,o,aBU hk',h.2 _ (aBZ hk'),e,hc 0 (by omega),hc 1 (by omega),hc 2 (by omega),hc 3 (by omega),hc 4 (by omega)⟩
def Sep(v v':Value):Prop:=∀g,v.ownBlock=some g→v'.ownBlock≠some g
theorem Sep.symm{v v':Value}(h:Sep v v'):Sep v' v:=fun g h1 h2=>h g h2 h1
structure Fam(w:World)(B n k:Nat)(hF hT:Nat→Value)(xF xT:Nat→List Int):Prop where
 F:∀y,y<n→bN w B (hF y) (xF y)
 T:∀j,j<k→bN w B (hT j) (xT j)
 FF:∀y y',y<n→y'<n→y≠y'→Sep (hF y) (hF y')
 FT:∀y j,y<n→j<k→Sep (hF y) (hT j)
section
variable {w w':World} {B n k:Nat} {hF hT:Nat→Value} {xF xT:Nat→List Int}
theorem Fam.kept{row:Option Nat}(h:Fam w B n k hF hT xF xT)(hg:w.grownBy w' row)(hr:∀r,row=some r→r<B∨w.heap.size≤r):Fam w' B n k hF hT xF xT:=by
 have key:∀v xs,bN w B v xs→bN w' B v xs:=fun v xs ho=>by
  refine ho.kept hg ?_;cases e:v.ownBlock with
  |none=>exact .inl rfl
  |some g=>
   have:=ho.1.lt g e;refine .inr fun e2=>?_;have:=hr g e2.symm;omega
 exact⟨fun y hy=>key _ _ (h.F y hy),fun j hj=>key _ _ (h.T j hj),h.FF,h.FT⟩
theorem Fam.ext(h:Fam w B n k hF hT xF xT)(hb:Below w.heap.size w w'):Fam w' B n k hF hT xF xT:=
 h.kept (row:=none) ⟨hb.os,hb.tape,hb.output,hb.size,fun k hk _=>hb.block k hk⟩ (fun r e=>by cases e)
theorem Fam.add(h:Fam w B n k hF hT xF xT)(hb:Below w.heap.size w w')(hB:B≤w.heap.size)(v:Value)(xs:List Int)(ho:bN w' w.heap.size v xs):Fam w' B n (k+1) hF (gM hT k v) xF (gM xT k xs):=by
 have h':=h.ext hb
 have hlt:∀y,y<n→Sep (hF y) v:=fun y hy g e1 e2=>by
  have h1:=(h.F y hy).1.lt g e1;have h2:=ho.1.lt g e2;omega
 refine⟨h'.F,fun j hj=>?_,h.FF,fun y j hy hj=>?_⟩
 ·by_cases e:j=k
  ·simp only[gM,if_pos e];exact ho.mono hB
  ·simp only[gM,if_neg e];exact h'.T j (by omega)
 ·by_cases e:j=k
  ·simp only[gM,if_pos e];exact hlt y hy
  ·simp only[gM,if_neg e];exact h.FT y j hy (by omega)
theorem Fam.turn(h:Fam w B n k hF hT xF xT)(y:Nat)(hy:y<n)(hg:w.grownBy w' (hF y).ownBlock)(v:Value)(xs:List Int)(ho:bN w' B v xs)(hv:v.ownBlock=(hF y).ownBlock∨∃g,v.ownBlock=some g∧w.heap.size≤g):Fam w' B n k (gM hF y v) hT (gM xF y xs) xT:=by
 have keep:∀v' xs',bN w B v' xs'→Sep (hF y) v'→bN w' B v' xs':=fun v' xs' ho' hs=>by
  refine ho'.kept hg ?_;cases e:v'.ownBlock with
  |none=>exact .inl rfl
  |some g=>exact .inr fun e2=>hs g e2.symm e
 have sep:∀v' xs',bN w B v' xs'→Sep (hF y) v'→Sep v v':=fun v' xs' ho' hs g e1 e2=>by
  rcases hv with e|⟨g',e,hge⟩
  ·exact hs g (by rw[←e];exact e1) e2
  ·rw[e] at e1;injection e1 with e1;have:=(ho'.1.lt g e2).2;omega
 refine⟨fun z hz=>?_,fun j hj=>keep _ _ (h.T j hj) (h.FT y j hy hj),fun z z' hz hz' hne=>?_,fun z j hz hj=>?_⟩
 ·by_cases e:z=y
  ·simp only[gM,if_pos e];exact ho
  ·simp only[gM,if_neg e];exact keep _ _ (h.F z hz) (h.FF y z hy hz (fun e2=>e e2.symm))
 ·by_cases e:z=y
  ·have e':¬z'=y:=fun e2=>hne (e.trans e2.symm);simp only[gM,if_pos e,if_neg e'];exact sep _ _ (h.F z' hz') (h.FF y z' hy hz' (fun e2=>e' e2.symm))
  ·by_cases e':z'=y
   ·simp only[gM,if_pos e',if_neg e];exact(sep _ _ (h.F z hz) (h.FF y z hy hz (fun e2=>e e2.symm))).symm
   ·simp only[gM,if_neg e',if_neg e];exact h.FF z z' hz hz' hne
 ·by_cases e:z=y
  ·simp only[gM,if_pos e];exact sep _ _ (h.T j hj) (h.FT y j hy hj)
  ·simp only[gM,if_neg e];exact h.FT z j hz hj
end
def CW(n:Nat)(h:Nat→Value):Array Value:=((List.range n).map h).toArray
abbrev iY:Value:=.slice none 0 0
abbrev FI(n:Nat)(h:Nat→Value):Obj:=.cells (CW n h) 22 (0,0)
theorem zO(n:Nat)(h:Nat→Value)(j:Nat)(hj:j<n):(CW n h)[j]? =some (h j):=by simp[CW,hj]
theorem pZ(n:Nat)(h:Nat→Value):(CW n h).size=n:=by simp[CW]
theorem WW(n:Nat)(h:Nat→Value)(j:Nat)(v:Value):(CW n h).setIfInBounds j v=CW n (gM h j v):=by
 apply Array.ext_getElem?
 intro k
 rw[Array.getElem?_setIfInBounds]
 by_cases hk:k<n
 ·rw[zO n h k hk,zO n _ k hk,pZ];by_cases e:j=k
  ·subst e;simp[gM,hk]
  ·have e':¬k=j:=fun h=>e h.symm;simp[gM,e,e']
 ·have h1:(CW n h)[k]? =none:=Array.getElem?_eq_none (by rw[pZ];omega);have h2:(CW n (gM h j v))[k]? =none:=Array.getElem?_eq_none (by rw[pZ];omega);rw[h1,h2];by_cases e:j=k
  ·subst e;rw[if_pos rfl,pZ,if_neg hk]
  ·rw[if_neg e]
theorem pP{W:World}{g n:Nat}{h:Nat→Value}(hg:W.heap[g]? =some (FI n h))(j:Nat)(hj:j<n):W.cell? ⟨g,j,none⟩=some (h j):=by rw[aBP _ _ _ _ _ _ hg,zO _ _ _ hj]
theorem KC{W:World}{g n:Nat}{h:Nat→Value}(hg:W.heap[g]? =some (FI n h))(j:Nat):W.frozen? ⟨g,j,none⟩=false:=frozen_of_row _ _ _ _ _ hg
theorem QX{W:World}{g n:Nat}{h:Nat→Value}(hg:W.heap[g]? =some (FI n h))(j:Nat)(v:Value):(W.setCell ⟨g,j,none⟩ v).heap[g]? =some (FI n (gM h j v)):=by rw[heap_setCell_same _ _ _ _ _ _ hg,WW]
def gN(ts:List aT)(k i y:Nat):List Nat:=((List.range k).flatMap fun q=>((nx ts q).filter (fun x=>x==y)).map fun _=>q)++(((nx ts k).take i).filter (fun x=>x==y)).map fun _=>k
theorem sO(ts:List aT)(y:Nat):gN ts 0 0 y= []:=by simp[gN]
theorem wY(ts:List aT)(k i y:Nat)(h:(nx ts k).length≤i):gN ts k i y=gN ts (k+1) 0 y:=by
 simp only[gN,aCB h,List.range_succ,List.flatMap_append,List.flatMap_cons,List.flatMap_nil,List.append_nil,List.take_zero,List.filter_nil,List.map_nil]
theorem vC(ts:List aT)(y:Nat):gN ts ts.length 0 y=pv ts y:=by simp[gN,pv]
theorem pU(ts:List aT)(k i:Nat)(x:Nat)(h:(nx ts k)[i]? =some x)(y:Nat):gN ts k (i+1) y=if y=x then gN ts k i y++ [k] else gN ts k i y:=by
 have e:(nx ts k).take (i+1)=(nx ts k).take i++ [x]:=by rw[List.take_add_one,h];rfl
 simp only[gN,e,List.filter_append,List.map_append]
 by_cases hy:y=x
 ·subst hy;simp
 ·have:(x==y)=false:=by simpa using fun e=>hy e.symm
  simp[hy,this]
theorem AI(ts:List aT)(k i y:Nat):(gN ts k i y).length≤2*k+2:=by
 have hn:∀q,(nx ts q).length≤2:=fun q=>by rw[nx,List.length_map];exact sG _
 have h1:∀k,((List.range k).flatMap fun q=>((nx ts q).filter (fun x=>x==y)).map fun _=>q).length≤2*k:=by
  intro k
  induction k with
  |zero=>simp
  |succ k ih=>
   rw[List.range_succ,List.flatMap_append,List.length_append];have h2:=List.length_filter_le (fun x=>x==y) (nx ts k);have h3:=hn k;simp;simp at ih;omega
 have h2:=List.length_filter_le (fun x=>x==y) ((nx ts k).take i)
 have h3:((nx ts k).take i).length≤2:=by rw[List.length_take];have:=hn k;omega
 have h4:=h1 k
 simp only[gN,List.length_append,List.length_map]
 omega
end

section
open Go.RowKit
def zS(f:Nat→Bool):Nat→Bool:=fun q=>if q=0 then true else f q
theorem aS:(Tryz.prog.info? 25).map (·.size)=some 2:=by kernel_rfl
theorem ER:(Tryz.prog.info? 22).map (fun i=>(i.zero,i.size,i.bytes))=some (some iY,1,24):=by kernel_rfl
theorem JI(n:Nat):madeCells #[iY] n=CW n fun _=>iY:=by
 apply Array.ext_getElem?
 intro k
 by_cases hk:k<n
 ·rw[zO _ _ _ hk];simp[madeCells,hk,Nat.mod_one]
 ·rw[Array.getElem?_eq_none (by simp[madeCells];omega),Array.getElem?_eq_none (by rw[pZ];omega)]
abbrev dX(pa:Option Addr)(pn pc:Nat)(ba:Option Addr)(bn bc:Nat):Value:=.agg #[.slice pa pn pc,.slice ba bn bc]
abbrev bO(pa:Option Addr)(pn pc:Nat)(ba:Option Addr)(bn bc:Nat):Obj:=.cells #[.slice pa pn pc,.slice ba bn bc] 25
def XX(pa:Option Addr)(pn pc:Nat)(ba:Option Addr)(bn bc:Nat)(ts:List aT)(w:World)(e:Ending)(w':World):Prop:=
 ∃cs:Array Value,e=.returned (.tuple #[.agg cs,.bool (bU ts)])∧cs.size=4∧cs.all (·.oneCell')=true∧Below w.heap.size w w'∧(bU ts=true→∃ta tc fa fc,Value.agg cs=dK ⟨pa,pn,pc,ba,bn,bc,ta,tc,fa,fc⟩∧gH w' ⟨pa,pn,pc,ba,bn,bc,ta,tc,fa,fc⟩ ts)
def OvJ(w:World)(pa:Option Addr)(pn pc:Nat)(ba:Option Addr)(bn bc:Nat)(ts:List aT)(TA FA B kT k i:Nat)(hF hT:Nat→Value)(wr:World):Prop:=
 wr.heap[w.heap.size]? =some (bO pa pn pc ba bn bc)∧wr.heap[w.heap.size+1]? =some (kK ⟨pa,pn,pc,ba,bn,bc,some ⟨TA,0,none⟩,bn,some ⟨FA,0,none⟩,bn⟩)∧
  wr.heap[TA]? =some (FI bn hT)∧wr.heap[FA]? =some (FI bn hF)∧Fam wr B bn kT hF hT (fun y=>aO (gN ts k i y)) (fun j=>toD (ts.getD j fP))∧B≤wr.heap.size∧Below w.heap.size w wr
section
variable {w wr wr':World} {pa:Option Addr} {pn pc:Nat} {ba:Option Addr} {bn bc:Nat} {ts:List aT} {TA FA B kT k i:Nat} {hF hT:Nat→Value}
theorem OvJ.ext(h:OvJ w pa pn pc ba bn bc ts TA FA B kT k i hF hT wr)(hb:Below wr.heap.size wr wr'):OvJ w pa pn pc ba bn bc ts TA FA B kT k i hF hT wr':=by
 obtain⟨h1,h2,h3,h4,h5,h6,h7⟩:=h
 exact⟨aB hb h1,aB hb h2,aB hb h3,aB hb h4,h5.ext hb,aCD h6 hb.size,aA h7 hb⟩
theorem OvJ.to(h:OvJ w pa pn pc ba bn bc ts TA FA B k k 0 hF hT wr)(hb:Below wr.heap.size wr wr')(v:Value)(ho:bN wr' wr.heap.size v (toD (ts.getD k fP)))(hk:k<bn)(hw1:w.heap.size+1+1≤TA)(hne:TA≠FA)(hTB:TA<B):
  OvJ w pa pn pc ba bn bc ts TA FA B (k+1) k 0 hF (gM hT k v) (wr'.setCell ⟨TA,k,none⟩ v):=by
 obtain⟨h1,h2,h3,h4,h5,h6,h7⟩:=h
 have g:=bA wr' TA k v
 have hsz:=hb.size
 refine⟨aK g (aB hb h1) (by simp;omega),aK g (aB hb h2) (by simp;omega),QX (aB hb h3) k v,aK g (aB hb h4) (by simpa using hne),?_,by simp;omega,(aA h7 hb).setCell (by simp;omega) _⟩
 have h8:=h5.add hb h6 v _ ho
 have e:gM (fun j=>toD (ts.getD j fP)) k (toD (ts.getD k fP))=fun j=>toD (ts.getD j fP):=by
  funext j
  by_cases e:j=k<;>simp[gM,e]
 rw[e] at h8
 exact h8.kept g (fun r hr=>by simp at hr;omega)
theorem OvJ.from(h:OvJ w pa pn pc ba bn bc ts TA FA B (k+1) k i hF hT wr)(y:Nat)(hy:y<bn)(hx:(nx ts k)[i]? =some y)(hg:wr.grownBy wr' (hF y).ownBlock)(v:Value)(ho:bN wr' B v (aO (gN ts k i y)++ [(k:Int)]))(hv:v.ownBlock=(hF y).ownBlock∨∃g,v.ownBlock=some g∧wr.heap.size≤g)
  (hw1:w.heap.size+1+1≤FA) (hw2:w.heap.size+1+1≤TA) (hne:TA≠FA) (hTB:TA<B) (hFB:FA<B):OvJ w pa pn pc ba bn bc ts TA FA B (k+1) k (i+1) (gM hF y v) hT (wr'.setCell ⟨FA,y,none⟩ v):=by
 obtain⟨h1,h2,h3,h4,h5,h6,h7⟩:=h
 have hlt:∀r,(hF y).ownBlock=some r→B≤r:=fun r e=>((h5.F y hy).1.lt r e).1
 have low:∀q,q<B→(hF y).ownBlock≠some q:=fun q hq e=>by have:=hlt q e;omega
 have g:=bA wr' FA y v
 refine⟨aK g (aK hg h1 (low _ (by omega))) (by simp;omega),aK g (aK hg h2 (low _ (by omega))) (by simp;omega),aK g (aK hg h3 (low _ hTB)) (by simp;omega),QX (aK hg h4 (low _ hFB)) y v,?_,by have:=hg.size;simp;omega,(h7.grown hg h7.size (fun r e=>by have:=hlt r e;omega)).setCell (by simp;omega) _⟩
 have h8:=h5.turn y hy hg v _ ho hv
 have e:gM (fun y=>aO (gN ts k i y)) y (aO (gN ts k i y)++ [(k:Int)])=fun y=>aO (gN ts k (i+1) y):=by
  funext z
  rw[pU ts k i y hx z];by_cases e:z=y
  ·subst e;simp[gM,aO]
  ·simp[gM,e]
 rw[e] at h8
 exact h8.kept g (fun r hr=>by simp at hr;omega)
end
theorem OvJ.walk{w wr:World}{pa:Option Addr}{pn pc:Nat}{ba:Option Addr}{bn bc:Nat}{ts:List aT}{TA FA B:Nat}{hF hT:Nat→Value}(h:OvJ w pa pn pc ba bn bc ts TA FA B bn bn 0 hF hT wr)(h2:bn≤200)(hg:∀q,q<bn→eH (ts.getD q fP)=true∧∀x∈toD (ts.getD q fP),1≤x∧x<bn)(hl:ts.length=bn):
  gH wr ⟨pa,pn,pc,ba,bn,bc,some ⟨TA,0,none⟩,bn,some ⟨FA,0,none⟩,bn⟩ ts:=by
 obtain⟨h1,_,h3,h4,h5,h6,h7⟩:=h
 refine⟨hl,h2,⟨by simp[oE,hl],by show bn≤1000;omega,fun k xs hx=>?_⟩,⟨by simp[nA,hl],by show bn≤1000;omega,fun k xs hx=>?_⟩⟩
 ·have hk:k<bn:=by
   have:=(aBX.1 hx).1;simpa[oE,hl] using this
  have e:xs=nx ts k:=by simpa[oE,hl,hk] using hx.symm
  have e2:aO xs=toD (ts.getD k fP):=by
   have e3:(toD (ts.getD k fP)).map ((fun(k:Nat)=>(k:Int))∘Int.toNat)=(toD (ts.getD k fP)).map id:=List.map_congr_left fun x hx=>by
    have:=(hg k hk).2 x hx;simp;omega
   rw[e,nx,aO,List.map_map,e3,List.map_id]
  have ho:=h5.T k hk;obtain⟨a,c,hv⟩:=ho.form;have hn:(toD (ts.getD k fP)).length=xs.length:=by rw[←e2];simp[aO]
  rw[hv] at ho;rw[hn] at ho hv;refine⟨TA,0,a,c,rfl,?_,?_⟩
  ·rw[Nat.zero_add,pP h3 k hk,hv]
  ·rw[e2];exact ho.ints
 ·have hk:k<bn:=by
   have:=(aBX.1 hx).1;simpa[nA,hl] using this
  have e:xs=pv ts k:=by simpa[nA,hl,hk] using hx.symm
  have ho:=h5.F k hk;have e2:aO (gN ts bn 0 k)=aO xs:=by rw[e,←hl,vC]
  simp only[e2] at ho;obtain⟨a,c,hv⟩:=ho.form;have hn:(aO xs).length=xs.length:=by simp[aO]
  rw[hv] at ho;rw[hn] at ho hv;refine⟨FA,0,a,c,rfl,?_,ho.ints⟩;rw[Nat.zero_add,pP h4 k hk,hv]
theorem QY{ts:List aT}{k:Nat}(hk:k<ts.length)(h:eH (ts.getD k fP)=false∨∃x∈toD (ts.getD k fP),x<1∨(ts.length:Int)≤x):bU ts=false:=by
 rw[bU,Bool.and_eq_false_iff]
 refine .inl (Bool.eq_false_iff.2 fun hg=>?_)
 have hm:ts.getD k fP∈ts:=by rw[aBT,aBU hk];exact aBZ _
 have h1:=((cY _).1 hg).2 _ hm
 rcases h with h|⟨x,hx,h⟩
 ·rw[h1.1] at h;cases h
 ·have:=h1.2 x hx;omega
theorem lO(pa:Option Addr)(pn pc:Nat)(ba:Option Addr)(bn bc:Nat)(bs:List gS)(w:World)(h:dU w ba bn bs):
  Calls Tryz.prog 78 #[dX pa pn pc ba bn bc] w (XX pa pn pc ba bn bc (aG bs) w):=by
 have hbn:=h.1.2.1
 have HLn:=aBO h.1.1
 have HBS:=aBO h
 clear h
 by_cases hgood:1≤bn∧bn≤200
 rotate_left
 ·have HE:Hid (bU (aG bs)=false):=by
   rw[Hid,bU,Bool.and_eq_false_iff];refine .inl (Bool.eq_false_iff.2 fun hg=>hgood ?_);have:=((cY _).1 hg).1;rw[dD,HLn.out] at this;exact this
  go_enter Tryz.func78,Tryz.ntmps78
  go_upto_region 1 with (fail)
  obtain⟨W,hW⟩:∃W,W=(w.alloc (bO pa pn pc ba bn bc)).alloc (.cells #[.slice none 0 0,.slice none 0 0,.slice none 0 0,.slice none 0 0] 116):=⟨_,rfl⟩
  rw[←hW];have hf:W.heap[w.heap.size]? =some (bO pa pn pc ba bn bc):=by rw[hW,aBR _ _ _ (by simp)];exact aBS _ _
  have hr:W.heap[w.heap.size+1]? =some (.cells #[.slice none 0 0,.slice none 0 0,.slice none 0 0,.slice none 0 0] 116 (0,0)):=by rw[hW,aU _ _ _ (by simp)]
  have hB:Below w.heap.size w W:=by rw[hW];exact(aD _ _).alloc (by simp) _
  have hc1:W.cell? ⟨w.heap.size,1,none⟩=some (.slice ba bn bc):=by rw[aBP _ _ _ _ _ _ hf];rfl
  have HR:=aBO hr;have HB:=aBO hB;have hz:(bn:Int)<1∨200<(bn:Int):=by omega
  clear hW hf hr hB hgood;rcases hz with hz|hz
  rotate_left
  ·have hz1:¬(bn:Int)<1:=by omega
   go_wp2_with (first
    |(refine wpList_load_row (o:=⟨some _,.load 116 _,_,_,_,_⟩) rfl 116 _ rfl (w.heap.size+1) rfl 116 _ (0,0) _ HR.out Tryz.underlying116 rfl bD ?_)
    |(refine wpList_store_row (o:=⟨none,.store 116 _ _,_,_,_,_⟩) rfl 116 _ _ rfl (w.heap.size+1) #[.slice none 0 0,.slice none 0 0,.slice none 0 0,.slice none 0 0] rfl rfl 116 _ HR.out bD rfl (by simp[Value.oneCell']) ?_))
   refine bodyPost_ret (v:=.tuple #[.agg #[.slice none 0 0,.slice none 0 0,.slice none 0 0,.slice none 0 0],.bool false]) ?_ rfl ⟨_,by rw[HE.out],rfl,by simp[Value.oneCell'],below_setRow HB.out (by omega) _,fun h=>by rw[HE.out] at h;cases h⟩;have hl:=run_loadVar_row (P:=Tryz.prog) _ (w.heap.size+1) 116 116 _ (0,0) _ (setRow_heap _ _ _ #[.slice none 0 0,.slice none 0 0,.slice none 0 0,.slice none 0 0] _ _ HR.out) Tryz.underlying116 rfl bD;simp[results,Tryz.results78,asAddr,Act.put,hl]
  ·go_wp2_with (first
    |(refine wpList_load_row (o:=⟨some _,.load 116 _,_,_,_,_⟩) rfl 116 _ rfl (w.heap.size+1) rfl 116 _ (0,0) _ HR.out Tryz.underlying116 rfl bD ?_)
    |(refine wpList_store_row (o:=⟨none,.store 116 _ _,_,_,_,_⟩) rfl 116 _ _ rfl (w.heap.size+1) #[.slice none 0 0,.slice none 0 0,.slice none 0 0,.slice none 0 0] rfl rfl 116 _ HR.out bD rfl (by simp[Value.oneCell']) ?_))
   refine bodyPost_ret (v:=.tuple #[.agg #[.slice none 0 0,.slice none 0 0,.slice none 0 0,.slice none 0 0],.bool false]) ?_ rfl ⟨_,by rw[HE.out],rfl,by simp[Value.oneCell'],below_setRow HB.out (by omega) _,fun h=>by rw[HE.out] at h;cases h⟩;have hl:=run_loadVar_row (P:=Tryz.prog) _ (w.heap.size+1) 116 116 _ (0,0) _ (setRow_heap _ _ _ #[.slice none 0 0,.slice none 0 0,.slice none 0 0,.slice none 0 0] _ _ HR.out) Tryz.underlying116 rfl bD;simp[results,Tryz.results78,asAddr,Act.put,hl]
 obtain⟨hb1,hb2⟩:=hgood
 go_enter Tryz.func78,Tryz.ntmps78
 go_upto_region 1 with (fail)
 obtain⟨W,hW⟩:∃W,W=(w.alloc (bO pa pn pc ba bn bc)).alloc (.cells #[.slice none 0 0,.slice none 0 0,.slice none 0 0,.slice none 0 0] 116):=⟨_,rfl⟩
 rw[←hW]
 have hf:W.heap[w.heap.size]? =some (bO pa pn pc ba bn bc):=by rw[hW,aBR _ _ _ (by simp)];exact aBS _ _
 have hr:W.heap[w.heap.size+1]? =some (.cells #[.slice none 0 0,.slice none 0 0,.slice none 0 0,.slice none 0 0] 116 (0,0)):=by rw[hW,aU _ _ _ (by simp)]
 have hB:Below w.heap.size w W:=by rw[hW];exact(aD _ _).alloc (by simp) _
 have hWs:W.heap.size=w.heap.size+1+1:=by rw[hW];simp
 have hc1:W.cell? ⟨w.heap.size,1,none⟩=some (.slice ba bn bc):=by rw[aBP _ _ _ _ _ _ hf];rfl
 have HWs:=aBO hWs
 have HF:=aBO hf
 have HR:=aBO hr
 have HB:=aBO hB
 clear hW hWs hf hr hB
 go_upto_region 4 with (fail)
 go_cut [] (fun wr=>∃TA FA B:Nat,w.heap.size+1+1≤TA∧w.heap.size+1+1≤FA∧TA≠FA∧TA<B∧FA<B∧∃hF hT,OvJ w pa pn pc ba bn bc (aG bs) TA FA B 0 0 0 hF hT wr)
 case first=>
  refine dL 5 [some 20,some 21,some 22,some 23,some 24] (by kernel_rfl) (by kernel_rfl) (dV [.val (.agg #[.slice pa pn pc,.slice ba bn bc]),.val (.int .i64 (bn:Int)),(.any fun v lo hi w=>v=.slice (some ⟨lo,0,none⟩) bn bn∧lo<hi∧w.heap[lo]? =some (FI bn fun _=>iY)),.val (.int .i64 (bn:Int)),(.any fun v lo hi w=>v=.slice (some ⟨lo,0,none⟩) bn bn∧lo<hi∧w.heap[lo]? =some (FI bn fun _=>iY))]) (dN ?_) ?_ ?_
  ·intro k hk;simp only[List.mem_cons,List.not_mem_nil,or_false] at hk;rcases hk with rfl|rfl|rfl|rfl|rfl
   ·exact trivial
   ·exact trivial
   ·exact fun v lo hi w w' hb h=>⟨h.1,h.2.1,aB hb h.2.2⟩
   ·exact trivial
   ·exact fun v lo hi w w' hb h=>⟨h.1,h.2.1,aB hb h.2.2⟩
  ·intro i hi ν lo hi' w1 K hB hD hK;have hcase:i=0∨i=1∨i=2∨i=3∨i=4:=by omega
   clear hi;rcases hcase with rfl|rfl|rfl|rfl|rfl
   ·clear hD;refine aC rfl rfl ?_;simp only[zA,zB,zC,zD,zE,zF,zJ,zK,zG,zH,zI] at hK⊢;refine wp_load_row 25 _ rfl w.heap.size rfl 25 _ (0,0) _ (aB hB HF.out) Tryz.underlying25 rfl aS ?_;exact hK _ _ (aBQ _ _) rfl
   ·clear hD;refine aC rfl rfl ?_;simp only[zA,zB,zC,zD,zE,zF,zJ,zK,zG,zH,zI] at hK⊢;go_simp;exact hK _ _ (aBQ _ _) rfl
   ·have e1:=hD 1 (by kernel_rfl)
    replace e1:ν 1=(.int .i64 (bn:Int)):=e1
    clear hD;refine aC rfl rfl ?_;simp only[zA,zB,zC,zD,zE,zF,zJ,zK,zG,zH,zI,e1] at hK⊢;have hmk:=run_make_row' (P:=Tryz.prog) 53 22 iY 24 Tryz.underlying53 ER rfl .i64 .i64 bn (by omega) (by omega) w1;go_simp;refine hK _ _ (aD _ _) ⟨rfl,by simp,?_⟩;rw[aBS,JI]
   ·clear hD;refine aC rfl rfl ?_;simp only[zA,zB,zC,zD,zE,zF,zJ,zK,zG,zH,zI] at hK⊢;go_simp;exact hK _ _ (aBQ _ _) rfl
   ·have e3:=hD 3 (by kernel_rfl)
    replace e3:ν 3=(.int .i64 (bn:Int)):=e3
    clear hD;refine aC rfl rfl ?_;simp only[zA,zB,zC,zD,zE,zF,zJ,zK,zG,zH,zI,e3] at hK⊢;have hmk:=run_make_row' (P:=Tryz.prog) 53 22 iY 24 Tryz.underlying53 ER rfl .i64 .i64 bn (by omega) (by omega) w1;go_simp;refine hK _ _ (aD _ _) ⟨rfl,by simp,?_⟩;rw[aBS,JI]
  ·intro ν lo hi w1 hB hS hI hD;have e0:ν 0=(.agg #[.slice pa pn pc,.slice ba bn bc]):=hS 0 (by omega);have e1:ν 1=(.int .i64 (bn:Int)):=hS 1 (by omega);have e2:=hS 2 (by omega);unfold dV at e2;simp only[List.getD_cons_zero,List.getD_cons_succ,gG] at e2;have e3:ν 3=(.int .i64 (bn:Int)):=hS 3 (by omega);have e4:=hS 4 (by omega);unfold dV at e4;simp only[List.getD_cons_zero,List.getD_cons_succ,gG] at e4;clear hS;simp only[List.drop_succ_cons,List.drop_zero,zA,zB,zC,zD,zE,zF,zJ,zK,zG,zH,zI,e0,e1,e3];have i2:=hI 2 (by omega);have i4:=hI 4 (by omega);have hne:lo 2≠lo 4:=by
    have:=hD 2 4 (by omega) (by omega) (by omega);omega
   obtain⟨e2,l2,h2⟩:=e2;obtain⟨e4,l4,h4⟩:=e4;simp only[e2,e4];have hr:=aB hB HR.out;rw[HWs.out] at i2 i4;have HBw:Hid (Below w.heap.size w w1):=aA HB.out hB;have HFw:=aBO (aB hB HF.out);generalize lo 2=TA at *;generalize lo 4=FA at *;have H2:=aBO h2;have H4:=aBO h4;have HRw:=aBO hr;have hTA:=i2.1;have hFA:=i4.1;have hTB:TA<w1.heap.size:=by omega
   have hFB:FA<w1.heap.size:=by omega
   clear hI hD hB e0 e1 e2 e3 e4 h2 h4 hr i2 i4 l2 l4
   go_wp2_with (refine wpList_store_row (o:=⟨none,.store _ _ _,_,_,_,_⟩) rfl 116 _ _ rfl (w.heap.size+1) #[.slice pa pn pc,.slice ba bn bc,.slice (some ⟨TA,0,none⟩) bn bn,.slice (some ⟨FA,0,none⟩) bn bn] rfl rfl 116 _ HRw.out bD rfl (by simp[Value.oneCell']) ?_)
   go_meet
   refine⟨TA,FA,w1.heap.size,hTA,hFA,hne,hTB,hFB,fun _=>iY,fun _=>iY,?_⟩;refine⟨(setRow_other _ _ _ _ (by omega)).trans HFw.out,setRow_heap _ _ _ _ _ _ HRw.out,(setRow_other _ _ _ _ (by omega)).trans H2.out,(setRow_other _ _ _ _ (by omega)).trans H4.out,?_,by simp,below_setRow HBw.out (by omega) _⟩;have e:(fun y=>aO (gN (aG bs) 0 0 y))=fun _=>([]:List Int):=by funext y;rw[sO];rfl
   rw[e];exact⟨fun y _=>bN.nil _ _,fun j hj=>absurd hj (by omega),fun _ _ _ _ _ g h=>by simp[Value.ownBlock] at h,fun _ _ _ hj=>absurd hj (by omega)⟩
 case rest=>
  obtain⟨TA,FA,B,hTA,hFA,hne,hTB,hFB,hF0,hT0,HJ0⟩:=hcut
  replace HJ0:=aBO HJ0
  clear HWs HF HR HB hc1;have hcb:wc.cell? ⟨w.heap.size,1,none⟩=some (.slice ba bn bc):=by rw[aBP _ _ _ _ _ _ HJ0.out.1];rfl
  go_wp2
  go_loopg [29] bn (fun gg i wr=>∃(k:Nat) (hF hT:Nat→Value),i=.int .i64 (k:Int)∧k≤bn∧bn≤gg+k∧Hid (∀q,q<k→eH ((aG bs).getD q fP)=true∧∀x∈toD ((aG bs).getD q fP),1≤x∧x<bn)∧Hid (OvJ w pa pn pc ba bn bc (aG bs) TA FA B k k 0 hF hT wr))
  case atStart=>exact⟨0,hF0,hT0,rfl,Nat.zero_le _,aBV _,fun q hq=>absurd hq (by omega),HJ0⟩
  case round=>
   obtain⟨k,hF,hT,rfl,hk,hgg,HG,HJ⟩:=hrel;clear hcb HJ0 hF0 hT0;by_cases hlt:k<bn
   ·obtain⟨jF,jR,jT,jA,jM,jS,jB⟩:=HJ.out;obtain⟨x,b,o,hbx,htx,rfl,c0,c1,c2,c3,c4⟩:=(HBS.out.ext jB).cells hlt;have htk:(aG bs).getD k fP=x.t:=FP bs k x hbx;have HTK:=aBO htk;have HTX:=aBO htx;have HBX:=aBO hbx;clear jF jR jT jA jM jS jB htk htx hbx;go_upto_region 8 with (fail)
    obtain⟨W1,hW1⟩:∃W1,W1=wr.alloc (aAP x):=⟨_,rfl⟩
    rw[←hW1];have HJ1:Hid (OvJ w pa pn pc (some ⟨b,o,none⟩) bn bc (aG bs) TA FA B k k 0 hF hT W1):=by rw[hW1];exact HJ.out.ext (aD _ _)
    have hx1:W1.heap[wr.heap.size]? =some (aAP x):=by rw[hW1,aBS]
    have hs1:W1.heap.size=wr.heap.size+1:=by rw[hW1];simp
    have hB1:Below w.heap.size w W1:=HJ1.out.2.2.2.2.2.2;have d1:W1.cell? ⟨wr.heap.size,1,none⟩=some (.int .i64 x.t.kind):=by rw[aBP _ _ _ _ _ _ hx1];rfl
    have d2:W1.cell? ⟨wr.heap.size,2,none⟩=some (.int .i64 x.t.a):=by rw[aBP _ _ _ _ _ _ hx1];rfl
    have d3:W1.cell? ⟨wr.heap.size,3,none⟩=some (.int .i64 x.t.t0):=by rw[aBP _ _ _ _ _ _ hx1];rfl
    have d4:W1.cell? ⟨wr.heap.size,4,none⟩=some (.int .i64 x.t.t1):=by rw[aBP _ _ _ _ _ _ hx1];rfl
    have HX1:=aBO hx1;clear hW1 hx1 c0 c1 c2 c3 c4;generalize hp:wr.heap.size=p at *;have HS1:=aBO hs1;clear hs1 hp HJ;by_cases htB:eH x.t=true
    ·have HTB:=aBO htB;clear htB
     go_upto_region 10 with (first
      |(go_at_call 128
        refine(mO x.t _ HTX.out).mono ?_;rintro e w2 ⟨rfl,hb2⟩;rw[HTB.out];have HJ2:=aBO (HJ1.out.ext hb2);have D1:=aBO (aH hb2 d1);have D2:=aBO (aH hb2 d2);have D3:=aBO (aH hb2 d3);have D4:=aBO (aH hb2 d4)
        clear hb2))
     have HC40:Hid (w2.cell? ⟨w.heap.size+1,2,none⟩=some (.slice (some ⟨TA,0,none⟩) bn bn)):=by rw[Hid,aBP _ _ _ _ _ _ HJ2.out.2.1];rfl
     clear d1 d2 d3 d4 HJ1 HX1 hB1 HS1
     go_cut [] (fun wx=>∃hT2,Hid (OvJ w pa pn pc (some ⟨b,o,none⟩) bn bc (aG bs) TA FA B (k+1) k 0 hF hT2 wx))
     case first=>
      refine dL 6 [some 39,some 40,some 41,some 42,some 43,some 44] (by kernel_rfl) (by kernel_rfl) (dV [.val (.pointer (some ⟨w.heap.size+1,2,none⟩)),.val (.slice (some ⟨TA,0,none⟩) bn bn),.val (.int .i64 (k:Int)),.val (.pointer (some ⟨p,1,none⟩)),.val (zW x.t),(.any fun v lo hi w=>bN w lo v (toD x.t))]) (dN ?_) ?_ ?_
      ·intro k hk;simp only[List.mem_cons,List.not_mem_nil,or_false] at hk;rcases hk with rfl|rfl|rfl|rfl|rfl|rfl
       ·exact trivial
       ·exact trivial
       ·exact trivial
       ·exact trivial
       ·exact trivial
       ·exact fun v lo hi w w' hb h=>h.ext hb
      ·intro i hi ν lo hi' w1 K hB hD hK;have hcase:i=0∨i=1∨i=2∨i=3∨i=4∨i=5:=by omega
       clear hi;rcases hcase with rfl|rfl|rfl|rfl|rfl|rfl
       ·clear hD;refine aC rfl rfl ?_;simp only[zA,zB,zC,zD,zE,zF,zJ,zK,zG,zH,zI] at hK⊢;go_simp;exact hK _ _ (aBQ _ _) rfl
       ·have e0:=hD 0 (by kernel_rfl)
        replace e0:ν 0=(.pointer (some ⟨w.heap.size+1,2,none⟩)):=e0
        clear hD;refine aC rfl rfl ?_;simp only[zA,zB,zC,zD,zE,zF,zJ,zK,zG,zH,zI,e0] at hK⊢;have q0:=aH hB HC40.out;go_simp;exact hK _ _ (aBQ _ _) rfl
       ·clear hD;refine aC rfl rfl ?_;simp only[zA,zB,zC,zD,zE,zF,zJ,zK,zG,zH,zI] at hK⊢;go_simp;exact hK _ _ (aBQ _ _) rfl
       ·clear hD;refine aC rfl rfl ?_;simp only[zA,zB,zC,zD,zE,zF,zJ,zK,zG,zH,zI] at hK⊢;go_simp;exact hK _ _ (aBQ _ _) rfl
       ·have e3:=hD 3 (by kernel_rfl)
        replace e3:ν 3=(.pointer (some ⟨p,1,none⟩)):=e3
        clear hD;refine aC rfl rfl ?_;simp only[zA,zB,zC,zD,zE,zF,zJ,zK,zG,zH,zI,e3] at hK⊢;have q1:=aH hB D1.out;have q2:=aH hB D2.out;have q3:=aH hB D3.out;have q4:=aH hB D4.out;go_simp;exact hK _ _ (aBQ _ _) rfl
       ·have e4:=hD 4 (by kernel_rfl)
        replace e4:ν 4=(zW x.t):=e4
        clear hD;refine aC rfl rfl ?_;simp only[zA,zB,zC,zD,zE,zF,zJ,zK,zG,zH,zI,e4] at hK⊢;go_simp;refine(ZT x.t w1 HTX.out).mono ?_;rintro e w3 ⟨v,rfl,ho,hb3⟩;exact hK _ _ hb3 ho
      ·intro ν lo hi w1 hB hS hI hD;have e0:ν 0=(.pointer (some ⟨w.heap.size+1,2,none⟩)):=hS 0 (by omega);have e1:ν 1=(.slice (some ⟨TA,0,none⟩) bn bn):=hS 1 (by omega);have e2:ν 2=(.int .i64 (k:Int)):=hS 2 (by omega);have e3:ν 3=(.pointer (some ⟨p,1,none⟩)):=hS 3 (by omega);have e4:ν 4=(zW x.t):=hS 4 (by omega);have e5:=hS 5 (by omega);unfold dV at e5;simp only[List.getD_cons_zero,List.getD_cons_succ,gG] at e5;clear hS;simp only[List.drop_succ_cons,List.drop_zero,zA,zB,zC,zD,zE,zF,zJ,zK,zG,zH,zI,e0,e1,e2,e3,e4];obtain⟨av,cv,hv⟩:=e5.form;simp only[hv];have ho5:=e5.mono (hI 5 (by omega)).1;rw[←HTK.out] at ho5;have HJ4:=aBO (HJ2.out.to hB (ν 5) ho5 hlt hTA hne hTB);rw[hv] at HJ4;have hcw:=pP (aB hB HJ2.out.2.2.1) k hlt;have hfw:=KC (aB hB HJ2.out.2.2.1) k;have hlw:TA<w1.heap.size:=aN (aB hB HJ2.out.2.2.1);clear hI hD e0 e1 e2 e3 e4 e5 ho5 hB;generalize hT k=hTk at hcw;clear hv;go_wp2
       go_meet
       exact⟨_,HJ4⟩
     case rest=>
      obtain⟨hT2,HJ3⟩:=hcut;obtain⟨wo,rfl⟩:∃wo:World,wo=wr:=⟨_,rfl⟩
      have hoT:=HJ3.out.2.2.2.2.1.T k (by omega);rw[HTK.out] at hoT;obtain⟨va,vc,hv⟩:=hoT.form;have hcc:=pP HJ3.out.2.2.1 k hlt;rw[hv] at hcc;have hc2:wc.cell? ⟨w.heap.size+1,2,none⟩=some (.slice (some ⟨TA,0,none⟩) bn bn):=by rw[aBP _ _ _ _ _ _ HJ3.out.2.1];rfl
      have HV:=aBO hv;have hlen:=sG x.t;clear hoT hv D1 D2 D3 D4 HC40 HJ2;go_wp2
      go_loopg [52] (toD x.t).length (fun g2 i wr=>∃(j:Nat) (hF2:Nat→Value),i=.int .i64 (j:Int)∧j≤(toD x.t).length∧(toD x.t).length≤g2+j∧Hid (∀q,q<j→1≤(toD x.t).getD q 0∧(toD x.t).getD q 0<bn)∧Hid (OvJ w pa pn pc (some ⟨b,o,none⟩) bn bc (aG bs) TA FA B (k+1) k j hF2 hT2 wr))
      case atStart=>exact⟨0,hF,rfl,Nat.zero_le _,aBV _,fun q hq=>absurd hq (by omega),HJ3⟩
      case round=>
       obtain⟨j,hF2,rfl,hj,hg2,HG2,HJ⟩:=hrel;clear hcc hc2 HJ3;by_cases hjl:j<(toD x.t).length
       ·have hoT:=HJ.out.2.2.2.2.1.T k (by omega);rw[HTK.out,HV.out] at hoT;obtain⟨b2,o2,e2,hcy,hy1,hy2⟩:=hoT.ints.2.2 j hjl;subst e2;have hjl':(j:Int)<((toD x.t).length:Int):=by omega
        have HG3:Hid (1≤(toD x.t).getD j 0∧(toD x.t).getD j 0<bn→∀q,q<j+1→1≤(toD x.t).getD q 0∧(toD x.t).getD q 0<bn):=fun h q hq=>by
         by_cases e:q=j
         ·subst e;exact h
         ·exact HG2.out q (by omega)
        have HNX:Hid (1≤(toD x.t).getD j 0→(nx (aG bs) k)[j]? =some ((toD x.t).getD j 0).toNat):=fun _=>by
         rw[nx,HTK.out,List.getElem?_map,aBU hjl];simp[aBT,hjl]
        have HNO:Hid ((toD x.t).getD j 0<1∨(bn:Int)≤(toD x.t).getD j 0→bU (aG bs)=false):=fun h=>by
         refine QY (k:=k) (by rw[dD,HLn.out];exact hlt) (.inr ⟨(toD x.t).getD j 0,?_,?_⟩)
         ·rw[HTK.out,aBT,aBU hjl];exact aBZ _
         ·rw[dD,HLn.out];exact h
        clear hoT;generalize (toD x.t).getD j 0=y at *;by_cases hyg:1≤y∧y<bn
        ·obtain⟨hyg1,hyg2⟩:=hyg;have HG4:=aBO (HG3.out ⟨hyg1,hyg2⟩);have HNY:=aBO (HNX.out hyg1);obtain⟨yn,rfl⟩:∃yn:Nat,y=(yn:Int):=⟨y.toNat,by omega⟩
         have hyn:yn<bn:=by omega
         have HNY2:Hid ((nx (aG bs) k)[j]? =some yn):=by have:=HNY.out;rw[Hid];simpa using this
         obtain⟨jF,jR,jT,jA,jM,jS,jB⟩:=HJ.out;have hoF:=jM.F yn hyn;obtain⟨fa,fc,hfv⟩:=hoF.form;have hflen:(aO (gN (aG bs) k j yn)).length≤1000:=by
          have:=AI (aG bs) k j yn;simp[aO];omega
         have HFV:=aBO hfv;have HOF:=aBO hoF;have hc0:wr.cell? ⟨w.heap.size+1,3,none⟩=some (.slice (some ⟨FA,0,none⟩) bn bn):=by rw[aBP _ _ _ _ _ _ jR];rfl
         have hc1:=pP jA yn hyn;rw[hfv] at hc1;have k0:∀q:mD (fun q=>Below B wr q),q.val.cell? ⟨w.heap.size+1,3,none⟩=some (.slice (some ⟨FA,0,none⟩) bn bn):=fun q=>(q.prop.cell (p:=⟨w.heap.size+1,3,none⟩) (show w.heap.size+1<B by omega)).trans hc0;have k1:∀q:mD (fun q=>Below B wr q),q.val.cell? ⟨FA,yn,none⟩=some (.slice fa (aO (gN (aG bs) k j yn)).length fc):=fun q=>(q.prop.cell (p:=⟨FA,yn,none⟩) (show FA<B from hFB)).trans hc1;have HA:=aBO jA;clear jF jR jT jA jM jB hoF hfv hc0 hc1 HG3 HNX HNO HNY;have hyn0:(0:Int)≤(yn:Int):=by omega
         have hyn1:(yn:Int)<(bn:Int):=by omega
         go_upto_region 16 with (fail)
         clear hcy;refine oU (fun w'=>∃n:mD (fun q=>Below B wr q),w'=n.val) (by kernel_rfl) ?_;obtain⟨v0,F0,E0,hv0⟩:∃v0,Below B wr v0∧Below wr.heap.size wr v0∧wr.drew=v0:=⟨_,rY (aBQ _ _) 1,bZ (aBQ _ _) 1,rfl⟩
         rw[hv0];clear hv0
         haveI:Nonempty (mD (fun q=>Below B wr q)):=wV (aBQ _ _)
         refine cP 0 9 (by kernel_rfl) ⟨⟨_,F0⟩,rfl⟩ ?_;simp only[List.take_succ_cons,List.take_zero,List.drop_succ_cons,List.drop_zero]
         repeat (go_big_quiet_step (fail))
         refine wpQuiet_nil ?_;refine eQ 9 (by kernel_rfl) ?_;refine dP rfl rfl ?_;go_simp;have F1:Below B wr (v0.alloc (.cells #[.int .i64 (k:Int)] 3)):=F0.alloc (by have:=E0.size;omega) _;refine⟨Or.inr ⟨⟨_,F1⟩,rfl⟩,?_⟩
         try simp only[Act.put,List.setIfInBounds_toArray,List.set_cons_succ,List.set_cons_zero]
         refine eQ 10 (by kernel_rfl) ?_;refine dP rfl rfl ?_;refine mM v0 (.tmp 71) (.tmp 73) 22 3 rfl B _ 1 8 Tryz.underlying22 lY rfl (by omega) (.slice fa (aO (gN (aG bs) k j yn)).length fc) (aO (gN (aG bs) k j yn)).length _ [.int .i64 (k:Int)] rfl (by have:=(HOF.out.ext E0).1;rwa [HFV.out] at this) v0.heap.size rfl rfl rfl (by simp[Value.oneCell']) (by simp only[maxLen];omega) (by omega) (by have:=E0.size;omega) ?_;intro g cap w4 ho4 hg4 ha4;have hJv:=HJ.out.ext E0;rw[←HFV.out] at hg4 ha4;have hlow:∀r,(hF2 yn).ownBlock=some r→B≤r:=fun r e=>(HOF.out.1.lt r e).1;have F2:Below B wr w4:=F0.grown hg4 (by have:=E0.size;omega) hlow;have hA4:w4.heap[FA]? =some (FI bn hF2):=aK hg4 (aB E0 HA.out) (fun e=>by have:=hlow _ e;omega);have hoN:bN w4 B (.slice (some ⟨g,0,none⟩) ((aO (gN (aG bs) k j yn)).length+1) cap) (aO (gN (aG bs) k j yn)++ [(k:Int)]):=by
          refine⟨?_,?_,by simp;omega⟩
          ·have e3:(aO (gN (aG bs) k j yn)++ [(k:Int)]).length=(aO (gN (aG bs) k j yn)).length+1:=by simp
           have e4:bC (aO (gN (aG bs) k j yn)++ [(k:Int)])=bC (aO (gN (aG bs) k j yn))++ [.int .i64 (k:Int)]:=by simp[bC]
           rw[e3,e4];exact ho4
          ·intro z hz;rcases aCA.1 hz with h|h
           ·exact HOF.out.2.1 z h
           ·simp only[List.mem_singleton] at h;subst h;unfold I64;omega
         have HJ5:=aBO (hJv.from yn hyn HNY2.out hg4 _ hoN (by
          rcases ha4 with e|e
          ·exact .inl (by simpa[Value.ownBlock] using e)
          ·exact .inr ⟨g,by simp[Value.ownBlock],by omega⟩) hFA hTA hne hTB hFB)
         have hc4:=pP hA4 yn hyn;have hf4:=KC hA4 yn;have hl4:=aN hA4;refine⟨Or.inr ⟨⟨_,F2⟩,rfl⟩,?_⟩
         try simp only[Act.put,List.setIfInBounds_toArray,List.set_cons_succ,List.set_cons_zero]
         refine cP 11 1 (by kernel_rfl) ⟨⟨_,F2⟩,rfl⟩ ?_;simp only[List.take_succ_cons,List.take_zero,List.drop_succ_cons,List.drop_zero]
         repeat (go_big_quiet_step (fail))
         refine wpQuiet_nil ?_;refine eQ 12 (by kernel_rfl) ?_;refine dP rfl rfl ?_;clear hJv ho4 hg4 ha4 hlow F2 hA4 hoN F0 E0 F1 k0 k1;generalize hF2 yn=hFy at *;go_simp;refine⟨Or.inl (by kernel_rfl),?_⟩
         try simp only[Act.put,List.setIfInBounds_toArray,List.set_cons_succ,List.set_cons_zero]
         refine mE (by kernel_rfl) ?_;clear HA HOF HFV HJ;go_wp2
         go_roundg ((toD x.t).length-(j+1))
         case measure=>omega
         case rel=>exact⟨j+1,_,by go_num,by omega,by omega,HG4,HJ5⟩
        ·have HE:Hid (bU (aG bs)=false):=HNO.out (by omega);have HR2:=aBO HJ.out.2.1;have HB2:=aBO HJ.out.2.2.2.2.2.2;by_cases hy0:y<1
         all_goals
          go_wp2_with (first
           |(refine wpList_load_row (o:=⟨some _,.load 116 _,_,_,_,_⟩) rfl 116 _ rfl (w.heap.size+1) rfl 116 _ (0,0) _ HR2.out Tryz.underlying116 rfl bD ?_)
           |(refine wpList_store_row (o:=⟨none,.store 116 _ _,_,_,_,_⟩) rfl 116 _ _ rfl (w.heap.size+1) #[.slice pa pn pc,.slice (some ⟨b,o,none⟩) bn bc,.slice (some ⟨TA,0,none⟩) bn bn,.slice (some ⟨FA,0,none⟩) bn bn] rfl rfl 116 _ HR2.out bD rfl (by simp[Value.oneCell']) ?_))
          refine bodyPost_ret (v:=.tuple #[.agg #[.slice pa pn pc,.slice (some ⟨b,o,none⟩) bn bc,.slice (some ⟨TA,0,none⟩) bn bn,.slice (some ⟨FA,0,none⟩) bn bn],.bool false]) ?_ rfl ⟨_,by rw[HE.out],rfl,by simp[Value.oneCell'],below_setRow HB2.out (by omega) _,fun h=>by rw[HE.out] at h;cases h⟩;have hl:=run_loadVar_row (P:=Tryz.prog) _ (w.heap.size+1) 116 116 _ (0,0) _ (setRow_heap _ _ _ #[.slice pa pn pc,.slice (some ⟨b,o,none⟩) bn bc,.slice (some ⟨TA,0,none⟩) bn bn,.slice (some ⟨FA,0,none⟩) bn bn] _ _ HR2.out) Tryz.underlying116 rfl bD;simp[results,Tryz.results78,asAddr,Act.put,hl]
       ·obtain rfl:j=(toD x.t).length:=by omega
        have HJ4:Hid (OvJ w pa pn pc (some ⟨b,o,none⟩) bn bc (aG bs) TA FA B (k+1) (k+1) 0 hF2 hT2 wr):=by
         have e:(fun y=>aO (gN (aG bs) k (toD x.t).length y))=fun y=>aO (gN (aG bs) (k+1) 0 y):=by
          funext y
          rw[wY];rw[nx,HTK.out,List.length_map];exact aBV _
         have:=HJ.out;unfold OvJ at this;rw[e] at this;exact this
        have HG4:Hid (∀q,q<k+1→eH ((aG bs).getD q fP)=true∧∀x∈toD ((aG bs).getD q fP),1≤x∧x<bn):=fun q hq=>by
         by_cases e:q=k
         ·subst e;rw[HTK.out];refine⟨HTB.out,fun z hz=>?_⟩;obtain⟨r,hr,e⟩:=List.mem_iff_getElem.1 hz;have:=HG2.out r hr;simpa[aBT,hr,e] using this
         ·exact HG.out q (by omega)
        go_wp2
        go_roundg (bn-(k+1))
        case measure=>omega
        case rel=>exact⟨k+1,hF2,hT2,by go_num,by omega,by omega,HG4,HJ4⟩
    ·have htB':eH x.t=false:=by simpa using htB
     have HE:Hid (bU (aG bs)=false):=QY (k:=k) (by rw[dD,HLn.out];exact hlt) (.inl (by rw[HTK.out];exact htB'));have HTB:=aBO htB';clear htB htB';have HR1:=aBO HJ1.out.2.1
     go_wp2_with (first
      |(go_at_call 128
        refine(mO x.t _ HTX.out).mono ?_;rintro e w2 ⟨rfl,hb2⟩;rw[HTB.out];have HB2:=aBO hb2;have HR2:=aBO (aB hb2 HR1.out);have HB2:=aBO (aA hB1 hb2)
        clear hb2)
      |(refine wpList_load_row (o:=⟨some _,.load 116 _,_,_,_,_⟩) rfl 116 _ rfl (w.heap.size+1) rfl 116 _ (0,0) _ HR2.out Tryz.underlying116 rfl bD ?_)
      |(refine wpList_store_row (o:=⟨none,.store 116 _ _,_,_,_,_⟩) rfl 116 _ _ rfl (w.heap.size+1) #[.slice pa pn pc,.slice (some ⟨b,o,none⟩) bn bc,.slice (some ⟨TA,0,none⟩) bn bn,.slice (some ⟨FA,0,none⟩) bn bn] rfl rfl 116 _ HR2.out bD rfl (by simp[Value.oneCell']) ?_))
     refine bodyPost_ret (v:=.tuple #[.agg #[.slice pa pn pc,.slice (some ⟨b,o,none⟩) bn bc,.slice (some ⟨TA,0,none⟩) bn bn,.slice (some ⟨FA,0,none⟩) bn bn],.bool false]) ?_ rfl ⟨_,by rw[HE.out],rfl,by simp[Value.oneCell'],below_setRow HB2.out (by omega) _,fun h=>by rw[HE.out] at h;cases h⟩;have hl:=run_loadVar_row (P:=Tryz.prog) _ (w.heap.size+1) 116 116 _ (0,0) _ (setRow_heap _ _ _ #[.slice pa pn pc,.slice (some ⟨b,o,none⟩) bn bc,.slice (some ⟨TA,0,none⟩) bn bn,.slice (some ⟨FA,0,none⟩) bn bn] _ _ HR2.out) Tryz.underlying116 rfl bD;simp[results,Tryz.results78,asAddr,Act.put,hl]
   ·obtain rfl:k=bn:=by omega
    have hl2:(aG bs).length=k:=by rw[dD,HLn.out]
    have HWK:=aBO (HJ.out.walk hb2 HG.out hl2);have HGD:Hid (fS (aG bs)=true):=by
     rw[Hid,cY,hl2];refine⟨⟨hb1,hb2⟩,fun t ht=>?_⟩;obtain⟨q,hq,e⟩:=List.mem_iff_getElem.1 ht;have:=HG.out q (by omega);rw[aBT,aBU hq,Option.getD_some,e] at this;exact this
    have HE:Hid (eqS (zS (bL (nx (aG bs)) (aL k) 0)) (aL k)=bU (aG bs)):=by
     rw[Hid,bU,HGD.out,Bool.true_and,hl2,Bool.eq_iff_iff];simp only[zS,eqS,List.all_eq_true,List.mem_range,beq_iff_eq,Bool.or_eq_true];constructor
     ·intro h q hq;have:=h q (by omega);by_cases e:q=0
      ·exact .inl e
      ·rw[if_neg e] at this;exact .inr (by rw[this];simpa[aL] using hq)
     ·intro h q hq;by_cases e:q=0
      ·subst e;simp[aL];omega
      ·rw[if_neg e];by_cases hq2:q<k
       ·rw[(h q hq2).resolve_left e];simp[aL,hq2]
       ·have h1:aL k q=false:=by simp[aL];omega
        rw[h1];cases e2:bL (nx (aG bs)) (aL k) 0 q with
        |false=>rfl
        |true=>
         have:=((fG (eJ hb2) 0 q).1 e2).2.inn;rw[h1] at this;cases this
    have HC2:Hid (wr.cell? ⟨w.heap.size+1,2,none⟩=some (.slice (some ⟨TA,0,none⟩) k k)):=by rw[Hid,aBP _ _ _ _ _ _ HJ.out.2.1];rfl
    have hszw:w.heap.size+1<wr.heap.size:=aN HJ.out.2.1;clear hl2;go_upto_region 19 with (fail)
    go_cut [9] (fun s9 wx=>∃p9:Nat,s9=.pointer (some ⟨p9,0,none⟩)∧wr.heap.size≤p9∧Hid (wx.heap[p9]? =some (eA (bL (nx (aG bs)) (aL k) 0)))∧Hid (wx.heap[w.heap.size+1]? =some (kK ⟨pa,pn,pc,ba,k,bc,some ⟨TA,0,none⟩,k,some ⟨FA,0,none⟩,k⟩))∧Hid (Below wr.heap.size wr wx))
    case first=>
     refine dL 7 [some 78,some 79,some 80,some 81,some 82,some 83,some 9] (by kernel_rfl) (by kernel_rfl) (dV [.val (dK ⟨pa,pn,pc,ba,k,bc,some ⟨TA,0,none⟩,k,some ⟨FA,0,none⟩,k⟩),.val (dK ⟨pa,pn,pc,ba,k,bc,some ⟨TA,0,none⟩,k,some ⟨FA,0,none⟩,k⟩),.val (.agg (aQ (aL k))),.val (.pointer (some ⟨w.heap.size+1,2,none⟩)),.val (.slice (some ⟨TA,0,none⟩) k k),.val (.agg (aQ (bL (nx (aG bs)) (aL k) 0))),.new (eA fun _=>false)]) (dN ?_) ?_ ?_
     ·intro k hk;simp only[List.mem_cons,List.not_mem_nil,or_false] at hk;rcases hk with rfl|rfl|rfl|rfl|rfl|rfl|rfl
      ·exact trivial
      ·exact trivial
      ·exact trivial
      ·exact trivial
      ·exact trivial
      ·exact trivial
      ·exact trivial
     ·intro i hi ν lo hi' w1 K hB hD hK;have hcase:i=0∨i=1∨i=2∨i=3∨i=4∨i=5∨i=6:=by omega
      clear hi;rcases hcase with rfl|rfl|rfl|rfl|rfl|rfl|rfl
      ·clear hD;refine aC rfl rfl ?_;simp only[zA,zB,zC,zD,zE,zF,zJ,zK,zG,zH,zI] at hK⊢;refine wp_load_row 116 _ rfl (w.heap.size+1) rfl 116 _ (0,0) _ (aB hB HJ.out.2.1) Tryz.underlying116 rfl bD ?_;exact hK _ _ (aBQ _ _) rfl
      ·clear hD;refine aC rfl rfl ?_;simp only[zA,zB,zC,zD,zE,zF,zJ,zK,zG,zH,zI] at hK⊢;refine wp_load_row 116 _ rfl (w.heap.size+1) rfl 116 _ (0,0) _ (aB hB HJ.out.2.1) Tryz.underlying116 rfl bD ?_;exact hK _ _ (aBQ _ _) rfl
      ·have e1:=hD 1 (by kernel_rfl)
       replace e1:ν 1=(dK ⟨pa,pn,pc,ba,k,bc,some ⟨TA,0,none⟩,k,some ⟨FA,0,none⟩,k⟩):=e1
       clear hD;refine aC rfl rfl ?_;simp only[zA,zB,zC,zD,zE,zF,zJ,zK,zG,zH,zI,e1] at hK⊢;go_simp;refine(pS ⟨pa,pn,pc,ba,k,bc,some ⟨TA,0,none⟩,k,some ⟨FA,0,none⟩,k⟩ hb2 w1).mono ?_;rintro e w3 ⟨rfl,hb3⟩;exact hK _ _ hb3 rfl
      ·clear hD;refine aC rfl rfl ?_;simp only[zA,zB,zC,zD,zE,zF,zJ,zK,zG,zH,zI] at hK⊢;go_simp;exact hK _ _ (aBQ _ _) rfl
      ·have e3:=hD 3 (by kernel_rfl)
       replace e3:ν 3=(.pointer (some ⟨w.heap.size+1,2,none⟩)):=e3
       clear hD;refine aC rfl rfl ?_;simp only[zA,zB,zC,zD,zE,zF,zJ,zK,zG,zH,zI,e3] at hK⊢;have q0:=aH hB HC2.out;go_simp;exact hK _ _ (aBQ _ _) rfl
      ·have e0:=hD 0 (by kernel_rfl)
       replace e0:ν 0=(dK ⟨pa,pn,pc,ba,k,bc,some ⟨TA,0,none⟩,k,some ⟨FA,0,none⟩,k⟩):=e0
       have e2:=hD 2 (by kernel_rfl)
       replace e2:ν 2=(.agg (aQ (aL k))):=e2
       have e4:=hD 4 (by kernel_rfl)
       replace e4:ν 4=(.slice (some ⟨TA,0,none⟩) k k):=e4
       clear hD;refine aC rfl rfl ?_;simp only[zA,zB,zC,zD,zE,zF,zJ,zK,zG,zH,zI,e0,e2,e4] at hK⊢;go_simp;refine(II ⟨pa,pn,pc,ba,k,bc,some ⟨TA,0,none⟩,k,some ⟨FA,0,none⟩,k⟩ 0 (aL k) (some ⟨TA,0,none⟩) k k (oE (aG bs)) (nx (aG bs)) w1 (by omega) hb2 (fun y hy=>by simpa[aL] using hy) (fun k hk=>by simp[oE,dD,HLn.out,hk]) (gH.nx_lt (w:=w) (d:=⟨pa,pn,pc,ba,k,bc,some ⟨TA,0,none⟩,k,some ⟨FA,0,none⟩,k⟩) HGD.out).1 (HWK.out.2.2.1.ext hB)).mono ?_;rintro e w3 ⟨rfl,hb3⟩;exact hK _ _ hb3 rfl
      ·clear hD;refine aC rfl rfl ?_;simp only[zA,zB,zC,zD,zE,zF,zJ,zK,zG,zH,zI] at hK⊢;go_simp;refine hK _ _ (aD _ _) ⟨rfl,by simp,?_⟩;rw[aBS,jK]
     ·intro ν lo hi w1 hB hS hI hD;have e0:ν 0=(dK ⟨pa,pn,pc,ba,k,bc,some ⟨TA,0,none⟩,k,some ⟨FA,0,none⟩,k⟩):=hS 0 (by omega);have e1:ν 1=(dK ⟨pa,pn,pc,ba,k,bc,some ⟨TA,0,none⟩,k,some ⟨FA,0,none⟩,k⟩):=hS 1 (by omega);have e2:ν 2=(.agg (aQ (aL k))):=hS 2 (by omega);have e3:ν 3=(.pointer (some ⟨w.heap.size+1,2,none⟩)):=hS 3 (by omega);have e4:ν 4=(.slice (some ⟨TA,0,none⟩) k k):=hS 4 (by omega);have e5:ν 5=(.agg (aQ (bL (nx (aG bs)) (aL k) 0))):=hS 5 (by omega);obtain⟨e6,l6,h6⟩:=hS 6 (by omega);clear hS;simp only[List.drop_succ_cons,List.drop_zero,zA,zB,zC,zD,zE,zF,zJ,zK,zG,zH,zI,e0,e1,e2,e3,e4,e5,e6];have i6:=hI 6 (by omega);generalize lo 6=p9 at *;have H6:=aBO h6;have hp9:=i6.1;have HBx:=aBO (below_setRow (g:=p9) hB hp9 (aQ (bL (nx (aG bs)) (aL k) 0)));clear hI hD hB e0 e1 e2 e3 e4 e5 e6 l6 h6 i6
      go_wp2_with (refine wpList_store_row (o:=⟨none,.store 124 _ _,_,_,_,_⟩) rfl 124 _ _ rfl p9 (aQ (bL (nx (aG bs)) (aL k) 0)) rfl rfl 124 _ H6.out (by rw[aF];exact bF) rfl (dE _) ?_)
      go_meet
      exact⟨p9,rfl,hp9,setRow_heap _ _ _ _ _ _ H6.out,aB HBx.out HJ.out.2.1,HBx.out⟩
    case rest=>
     obtain⟨p9,rfl,hp9,HS0,HR0,HB0⟩:=hcut;have hc9:=fE HS0.out 0 (by omega);have hf9:=lL HS0.out 0;have hl9:=aN HS0.out;have HS:Hid ((wc.setCell ⟨p9,0,none⟩ (.bool true)).heap[p9]? =some (eA (zS (bL (nx (aG bs)) (aL k) 0)))):=sH HS0.out 0 (by omega) true;have hg9:=bA wc p9 0 (.bool true);have HR:=aBO (aK hg9 HR0.out (by simp;omega));have HBs:=HB0.out.setCell (p:=⟨p9,0,none⟩) hp9 (.bool true);have HWK2:=aBO (HWK.out.ext HBs);have HB:=aBO (aA HJ.out.2.2.2.2.2.2 HBs);clear HC2 hg9 HBs HS0 HR0 HB0;generalize bL (nx (aG bs)) (aL k) 0 0=b9 at hc9;go_upto_region 21 with (fail)
     obtain⟨W2,hW2⟩:∃W2,W2=wc.setCell ⟨p9,0,none⟩ (.bool true):=⟨_,rfl⟩
     rw[←hW2] at HS HR HWK2 HB⊢;clear hc9 hf9 hl9 hW2;refine dL 6 [some 85,some 86,some 87,some 88,some 89,none] (by kernel_rfl) (by kernel_rfl) (dV [.val (dK ⟨pa,pn,pc,ba,k,bc,some ⟨TA,0,none⟩,k,some ⟨FA,0,none⟩,k⟩),.val (.agg (aQ (zS (bL (nx (aG bs)) (aL k) 0)))),.val (dK ⟨pa,pn,pc,ba,k,bc,some ⟨TA,0,none⟩,k,some ⟨FA,0,none⟩,k⟩),.val (.agg (aQ (aL k))),.val (.bool (eqS (zS (bL (nx (aG bs)) (aL k) 0)) (aL k))),(.any fun _ _ _ _=>True)]) (dN ?_) ?_ ?_
     ·intro k hk;simp only[List.mem_cons,List.not_mem_nil,or_false] at hk;rcases hk with rfl|rfl|rfl|rfl|rfl|rfl
      ·exact trivial
      ·exact trivial
      ·exact trivial
      ·exact trivial
      ·exact trivial
      ·exact fun _ _ _ _ _ _ h=>h
     ·intro i hi ν lo hi' w1 K hB hD hK;have hcase:i=0∨i=1∨i=2∨i=3∨i=4∨i=5:=by omega
      clear hi;rcases hcase with rfl|rfl|rfl|rfl|rfl|rfl
      ·clear hD;refine aC rfl rfl ?_;simp only[zA,zB,zC,zD,zE,zF,zJ,zK,zG,zH,zI] at hK⊢;refine wp_load_row 116 _ rfl (w.heap.size+1) rfl 116 _ (0,0) _ (aB hB HR.out) Tryz.underlying116 rfl bD ?_;exact hK _ _ (aBQ _ _) rfl
      ·clear hD;refine aC rfl rfl ?_;simp only[zA,zB,zC,zD,zE,zF,zJ,zK,zG,zH,zI] at hK⊢;refine wp_load_row 124 _ rfl p9 rfl 124 _ (0,0) _ (aB hB HS.out) Tryz.underlying124 rfl (by rw[aF];exact bF) ?_;exact hK _ _ (aBQ _ _) rfl
      ·clear hD;refine aC rfl rfl ?_;simp only[zA,zB,zC,zD,zE,zF,zJ,zK,zG,zH,zI] at hK⊢;refine wp_load_row 116 _ rfl (w.heap.size+1) rfl 116 _ (0,0) _ (aB hB HR.out) Tryz.underlying116 rfl bD ?_;exact hK _ _ (aBQ _ _) rfl
      ·have e2:=hD 2 (by kernel_rfl)
       replace e2:ν 2=(dK ⟨pa,pn,pc,ba,k,bc,some ⟨TA,0,none⟩,k,some ⟨FA,0,none⟩,k⟩):=e2
       clear hD;refine aC rfl rfl ?_;simp only[zA,zB,zC,zD,zE,zF,zJ,zK,zG,zH,zI,e2] at hK⊢;go_simp;refine(pS ⟨pa,pn,pc,ba,k,bc,some ⟨TA,0,none⟩,k,some ⟨FA,0,none⟩,k⟩ hb2 w1).mono ?_;rintro e w3 ⟨rfl,hb3⟩;exact hK _ _ hb3 rfl
      ·have e1:=hD 1 (by kernel_rfl)
       replace e1:ν 1=(.agg (aQ (zS (bL (nx (aG bs)) (aL k) 0)))):=e1
       have e3:=hD 3 (by kernel_rfl)
       replace e3:ν 3=(.agg (aQ (aL k))):=e3
       clear hD;refine aC rfl rfl ?_;simp only[zA,zB,zC,zD,zE,zF,zJ,zK,zG,zH,zI,e1,e3] at hK⊢;have heq:=xJ w1 (zS (bL (nx (aG bs)) (aL k) 0)) (aL k);go_simp;exact hK _ _ (aBQ _ _) rfl
      ·have e0:=hD 0 (by kernel_rfl)
       replace e0:ν 0=(dK ⟨pa,pn,pc,ba,k,bc,some ⟨TA,0,none⟩,k,some ⟨FA,0,none⟩,k⟩):=e0
       have e2:=hD 2 (by kernel_rfl)
       replace e2:ν 2=(dK ⟨pa,pn,pc,ba,k,bc,some ⟨TA,0,none⟩,k,some ⟨FA,0,none⟩,k⟩):=e2
       have e3:=hD 3 (by kernel_rfl)
       replace e3:ν 3=(.agg (aQ (aL k))):=e3
       clear hD;refine aC rfl rfl ?_;simp only[zA,zB,zC,zD,zE,zF,zJ,zK,zG,zH,zI,e0,e2,e3] at hK⊢;have hr1:=aB hB HR.out;refine wp_store_row 116 _ _ rfl (w.heap.size+1) _ rfl rfl 116 _ hr1 bD rfl (by simp[Value.oneCell']) ?_;rw[setRow_self _ _ _ _ _ hr1];exact hK undef _ (aBQ _ _) trivial
     ·intro ν lo hi w1 hB hS hI hD;have e0:ν 0=(dK ⟨pa,pn,pc,ba,k,bc,some ⟨TA,0,none⟩,k,some ⟨FA,0,none⟩,k⟩):=hS 0 (by omega);have e1:ν 1=(.agg (aQ (zS (bL (nx (aG bs)) (aL k) 0)))):=hS 1 (by omega);have e2:ν 2=(dK ⟨pa,pn,pc,ba,k,bc,some ⟨TA,0,none⟩,k,some ⟨FA,0,none⟩,k⟩):=hS 2 (by omega);have e3:ν 3=(.agg (aQ (aL k))):=hS 3 (by omega);have e4:ν 4=(.bool (eqS (zS (bL (nx (aG bs)) (aL k) 0)) (aL k))):=hS 4 (by omega);have e5:=hS 5 (by omega);unfold dV at e5;simp only[List.getD_cons_zero,List.getD_cons_succ,gG] at e5;clear hS;simp only[List.drop_succ_cons,List.drop_zero,zA,zB,zC,zD,zE,zF,zJ,zK,zG,zH,zI,e0,e1,e2,e3,e4];have hB9:=aA HB.out hB;have hR9:=aB hB HR.out;have hW9:=HWK2.out.ext hB;clear hI hD hB e0 e1 e2 e3 e4 e5;go_wp2;refine bodyPost_ret (v:=.tuple #[dK ⟨pa,pn,pc,ba,k,bc,some ⟨TA,0,none⟩,k,some ⟨FA,0,none⟩,k⟩,.bool (eqS (zS (bL (nx (aG bs)) (aL k) 0)) (aL k))]) ?_ rfl ⟨_,by rw[HE.out],rfl,by simp[Value.oneCell'],hB9,fun _=>⟨_,_,_,_,rfl,hW9⟩⟩;have hl:=run_loadVar_row (P:=Tryz.prog) _ (w.heap.size+1) 116 116 _ (0,0) _ hR9 Tryz.underlying116 rfl bD;simp[results,Tryz.results78,asAddr,Act.put,hl]
end

section
open Go.Shelf
def LV:Go.Shelf.Ren:=⟨fun|189=>94|125=>161|257=>160|128=>205|129=>206|294=>196|295=>197|296=>198|297=>199|298=>200|299=>201|216=>202|300=>203|301=>204|328=>215|329=>216|330=>217|331=>218|332=>219|215=>136|343=>221|n=>n,fun|28=>22|3=>3|46=>209|0=>0|51=>226|53=>228|4=>4|183=>267|182=>266|131=>179|5=>5|9=>9|218=>281|222=>285|228=>287|229=>95|n=>n,fun|n=>n⟩
theorem QQ:Go.Proofs.Lays.n189 Tryz.prog LV:={
 mixed:=by kernel_rfl
 f125:=Tryz.func161.trans (congrArg some (by kernel_rfl))
 f128:=Tryz.func205.trans (congrArg some (by kernel_rfl))
 f129:=Tryz.func206.trans (congrArg some (by kernel_rfl))
 f189:=Tryz.func94.trans (congrArg some (by kernel_rfl))
 f215:=Tryz.func136.trans (congrArg some (by kernel_rfl))
 f216:=Tryz.func202.trans (congrArg some (by kernel_rfl))
 f257:=Tryz.func160.trans (congrArg some (by kernel_rfl))
 f294:=Tryz.func196.trans (congrArg some (by kernel_rfl))
 f295:=Tryz.func197.trans (congrArg some (by kernel_rfl))
 f296:=Tryz.func198.trans (congrArg some (by kernel_rfl))
 f297:=Tryz.func199.trans (congrArg some (by kernel_rfl))
 f298:=Tryz.func200.trans (congrArg some (by kernel_rfl))
 f299:=Tryz.func201.trans (congrArg some (by kernel_rfl))
 f300:=Tryz.func203.trans (congrArg some (by kernel_rfl))
 f301:=Tryz.func204.trans (congrArg some (by kernel_rfl))
 f328:=Tryz.func215.trans (congrArg some (by kernel_rfl))
 f329:=Tryz.func216.trans (congrArg some (by kernel_rfl))
 f330:=Tryz.func217.trans (congrArg some (by kernel_rfl))
 f331:=Tryz.func218.trans (congrArg some (by kernel_rfl))
 f332:=Tryz.func219.trans (congrArg some (by kernel_rfl))
 f343:=Tryz.func221.trans (congrArg some (by kernel_rfl))
 t0:=Tryz.underlying0
 a0:=Tryz.isAgg0
 z0:=Tryz.sizeOf0
 v0:=Tryz.zeroValue0
 t3:=Tryz.underlying3
 a3:=Tryz.isAgg3
 z3:=Tryz.sizeOf3
 v3:=Tryz.zeroValue3
 t4:=Tryz.underlying4
 a4:=Tryz.isAgg4
 z4:=Tryz.sizeOf4
 v4:=Tryz.zeroValue4
 t5:=Tryz.underlying5
 a5:=Tryz.isAgg5
 z5:=Tryz.sizeOf5
 v5:=Tryz.zeroValue5
 t9:=Tryz.underlying9
 a9:=Tryz.isAgg9
 z9:=Tryz.sizeOf9
 v9:=Tryz.zeroValue9
 t28:=Tryz.underlying22
 a28:=Tryz.isAgg22
 z28:=Tryz.sizeOf22
 v28:=Tryz.zeroValue22
 t46:=Tryz.underlying209
 a46:=Tryz.isAgg209
 z46:=Tryz.sizeOf209
 v46:=Tryz.zeroValue209
 t51:=Tryz.underlying226
 a51:=Tryz.isAgg226
 z51:=Tryz.sizeOf226
 v51:=Tryz.zeroValue226
 t53:=Tryz.underlying228
 a53:=Tryz.isAgg228
 z53:=Tryz.sizeOf228
 v53:=Tryz.zeroValue228
 t131:=Tryz.underlying179
 a131:=Tryz.isAgg179
 z131:=Tryz.sizeOf179
 v131:=Tryz.zeroValue179
 t182:=Tryz.underlying266
 a182:=Tryz.isAgg266
 z182:=Tryz.sizeOf266
 v182:=Tryz.zeroValue266
 t183:=Tryz.underlying267
 a183:=Tryz.isAgg267
 z183:=Tryz.sizeOf267
 v183:=Tryz.zeroValue267
 t218:=Tryz.underlying281
 a218:=Tryz.isAgg281
 z218:=Tryz.sizeOf281
 v218:=Tryz.zeroValue281
 t222:=Tryz.underlying285
 a222:=Tryz.isAgg285
 z222:=Tryz.sizeOf285
 v222:=Tryz.zeroValue285
 t228:=Tryz.underlying287
 a228:=Tryz.isAgg287
 z228:=Tryz.sizeOf287
 v228:=Tryz.zeroValue287
 t229:=Tryz.underlying95
 a229:=Tryz.isAgg95
 z229:=Tryz.sizeOf95
 v229:=Tryz.zeroValue95}
open Go.Sort Go.RowKit in
theorem slices_Sort_int(blk off cap:Nat)(zs:List Int)(w:World)(hH:Holds (Value.int .i64) w blk off zs.toArray)(hblk:blk<w.heap.size)(hsz:zs.length<4611686018427387904):
  Calls Tryz.prog 94 #[.slice (some ⟨blk,off,none⟩) zs.length cap] w fun e w'=>
   e=.returned (.tuple #[])∧∃n os,w'=grow (putRow (Value.int .i64) (Sort.ahead w n) blk off (zs.mergeSort fun x y=>decide (x≤y)).toArray) os:=Any.slices_Sort_int QQ blk off cap zs w hH hblk hsz
def LW:Go.Shelf.Ren:=⟨fun|112=>117|n=>n,fun|28=>22|3=>3|4=>4|0=>0|n=>n,fun|n=>n⟩
theorem QS:Go.Proofs.Lays.n112 Tryz.prog LW:={
 mixed:=by kernel_rfl
 f112:=Tryz.func117.trans (congrArg some (by kernel_rfl))
 t0:=Tryz.underlying0
 a0:=Tryz.isAgg0
 z0:=Tryz.sizeOf0
 v0:=Tryz.zeroValue0
 t3:=Tryz.underlying3
 a3:=Tryz.isAgg3
 z3:=Tryz.sizeOf3
 v3:=Tryz.zeroValue3
 t4:=Tryz.underlying4
 a4:=Tryz.isAgg4
 z4:=Tryz.sizeOf4
 v4:=Tryz.zeroValue4
 t28:=Tryz.underlying22
 a28:=Tryz.isAgg22
 z28:=Tryz.sizeOf22
 v28:=Tryz.zeroValue22}
open Go.RowKit Go.Lib Go.Sort in
theorem slices_Reverse_int(blk off cap:Nat)(zs:List Int)(w:World)(hH:Holds (Value.int .i64) w blk off zs.toArray)(hsz:zs.length≤9223372036854775807):
  Calls Tryz.prog 117 #[.slice (some ⟨blk,off,none⟩) zs.length cap] w fun e w'=>e=.returned (.tuple #[])∧∃n,w'=putRow (Value.int .i64) (Sort.ahead w n) blk off zs.reverse.toArray:=Any.slices_Reverse_int QS blk off cap zs w hH hsz
open Go.RowKit Go.Lib Go.Sort in
theorem slices_Reverse_int_empty(a:Option Addr)(cap:Nat)(w:World):
  Calls Tryz.prog 117 #[.slice a 0 cap] w fun e w'=>e=.returned (.tuple #[])∧w'=w:=Any.slices_Reverse_int_empty QS a cap w
def DG:Go.Shelf.Ren:=⟨fun|20=>95|n=>n,fun|22=>22|3=>3|4=>4|0=>0|n=>n,fun|n=>n⟩
theorem EQ:Go.Proofs.Lays2.n20 Tryz.prog DG:={
 mixed:=by kernel_rfl
 f20:=Tryz.func95.trans (congrArg some (by kernel_rfl))
 t0:=Tryz.underlying0
 a0:=Tryz.isAgg0
 z0:=Tryz.sizeOf0
 v0:=Tryz.zeroValue0
 t3:=Tryz.underlying3
 a3:=Tryz.isAgg3
 z3:=Tryz.sizeOf3
 v3:=Tryz.zeroValue3
 t4:=Tryz.underlying4
 a4:=Tryz.isAgg4
 z4:=Tryz.sizeOf4
 v4:=Tryz.zeroValue4
 t22:=Tryz.underlying22
 a22:=Tryz.isAgg22
 z22:=Tryz.sizeOf22
 v22:=Tryz.zeroValue22
 i3:=by kernel_rfl}
open Go.RowKit Go.Lib Go.Sort in
theorem slices_Compact_int(blk off cap:Nat)(zs:List Int)(w:World)(hH:Holds (Value.int .i64) w blk off zs.toArray)(hsz:zs.length≤9223372036854775807)(hcap:zs.length≤cap):
  Calls Tryz.prog 95 #[.slice (some ⟨blk,off,none⟩) zs.length cap] w fun e w'=>e=.returned (.slice (some ⟨blk,off,none⟩) (Lib.compact zs).length cap)∧∃q,w'=putRow (Value.int .i64) (Sort.ahead w q) blk off (Lib.compact zs++List.replicate (zs.length-(Lib.compact zs).length) 0).toArray:=Any.slices_Compact_int EQ blk off cap zs w hH hsz hcap
open Go.RowKit Go.Lib Go.Sort in
theorem slices_Compact_int_empty(a:Option Addr)(cap:Nat)(w:World):
  Calls Tryz.prog 95 #[.slice a 0 cap] w fun e w'=>e=.returned (.slice a 0 cap)∧w'=w:=Any.slices_Compact_int_empty EQ a cap w
open Go.RowKit Go.Sort in
theorem slices_Sort_int_none(p:Option Addr)(cap:Nat)(w:World):
  Calls Tryz.prog 94 #[.slice p 0 cap] w fun e w'=>e=.returned (.tuple #[])∧w'=w:=Any.slices_Sort_int_none QQ p cap w
end

section
open Go.RowKit Go.Sort
theorem tK(w:World)(g k:Nat)(f:Array Value→Array Value):(mapBlock w g f).heap[k]? =if g=k then (w.heap[k]?).map (onCells f) else w.heap[k]?:=by
 show(w.heap.modify g (onCells f))[k]? =_
 rw[Array.getElem?_modify]
theorem qT(w:World)(g q:Nat)(ys:List Int):w.grownBy (putRow (Value.int .i64) (Sort.ahead w q) g 0 ys.toArray) (some g):=by
 refine⟨rfl,rfl,rfl,by simp[Sort.ahead],fun k _ hne=>?_⟩
 unfold putRow
 rw[tK,if_neg (fun e=>hne (by rw[e]))]
 rfl
theorem OV{w w':World}{row:Option Nat}(h:w.grownBy w' row)(os:Array Obj):w.grownBy (grow w' os) row:=by
 refine⟨h.os,h.tape,h.output,?_,fun k hk hne=>?_⟩
 ·have:=h.size;simp[grow];omega
 ·rw[heap_grow_old w' os (Nat.lt_of_lt_of_le hk h.size)];exact h.block k hk hne
theorem wZ{w:World}{base g n c:Nat}{xs:List Int}(h:bN w base (.slice (some ⟨g,0,none⟩) n c) xs):Holds (Value.int .i64) w g 0 xs.toArray:=by
 intro j hj
 have hj':j<xs.length:=by simpa using hj
 have hn:=h.cap.2.2
 obtain⟨b,o,e,hc,_⟩:=h.ints.2.2 j (by omega)
 injection e with e
 injection e with e1 e2
 subst e1 e2
 refine⟨?_,?_⟩
 ·rw[hc];simp[aBT,hj']
 ·rcases h.1.2 with ⟨hv,_⟩|⟨g',cap,cur,hv,_,hh,_⟩
  ·cases hv
  ·injection hv with e1 _ _;injection e1 with e1;injection e1 with e1 _ _;subst e1;exact frozen_of_row _ _ _ _ _ hh
theorem uI{w:World}{base g n c:Nat}{xs:List Int}(h:bN w base (.slice (some ⟨g,0,none⟩) n c) xs)(q:Nat)(ys:List Int)(hl:ys.length=xs.length)(hy:∀y∈ys,I64 y):
  bN (putRow (Value.int .i64) (Sort.ahead w q) g 0 ys.toArray) base (.slice (some ⟨g,0,none⟩) n c) ys:=by
 have hn:=h.cap.2.2
 refine⟨⟨by simp[bC],?_⟩,hy,by have:=h.2.2;omega⟩
 rcases h.1.2 with ⟨hv,_⟩|⟨g',cap,cur,hv,hb,hh,h1,h2,h3,h4⟩
 ·cases hv
 ·injection hv with e1 e2 e3;injection e1 with e1;injection e1 with e1 _ _;subst e1 e3;refine .inr ⟨g,c,putCells (Value.int .i64) 0 ys.toArray cur,by rw[hn,hl],hb,?_,by omega,h2,by simp[putCells,h3],?_⟩
  ·unfold putRow;rw[tK,if_pos rfl];show(w.heap[g]?).map _=_;rw[hh];rfl
  ·apply List.ext_getElem?;intro k;rw[List.getElem?_take];by_cases hk:k<ys.length
   ·have hkc:k<cur.size:=by omega
    rw[if_pos (by omega)];simp[putCells,bC,hk,hkc]
   ·rw[if_neg (by omega),List.getElem?_eq_none (by simp[bC];omega)]
theorem SE{w:World}{base:Nat}{v:Value}{xs:List Int}(h:bN w base v xs)(os:Array Obj):bN (grow w os) base v xs:=
 h.ext ⟨rfl,rfl,rfl,by simp[grow],fun k hk=>heap_grow_old w os hk⟩
def KW(w:World)(base:Nat)(v:Value)(ys:List Int)(e:Ending)(w':World):Prop:=e=.returned (.tuple #[])∧bN w' base v ys∧w.grownBy w' v.ownBlock
theorem uN(w:World)(row:Option Nat):w.grownBy w row:=⟨rfl,rfl,rfl,aBV _,fun _ _ _=>rfl⟩
theorem RS(base:Nat)(v:Value)(xs:List Int)(w:World)(h:bN w base v xs):
  Calls Tryz.prog 94 #[v] w (KW w base v (xs.mergeSort fun x y=>decide (x≤y))):=by
 rcases id h.1.2 with ⟨rfl,h0⟩|⟨g,cap,cur,rfl,hb,hh,_⟩
 ·have h0:xs= []:=List.eq_nil_of_length_eq_zero h0;subst h0;refine(slices_Sort_int_none none 0 w).mono ?_;rintro e w' ⟨rfl,rfl⟩;exact⟨rfl,by simpa using h,uN _ _⟩
 ·refine(slices_Sort_int g 0 cap xs w (wZ h) (aBW.1 hh).1 (by have:=h.2.2;omega)).mono ?_;rintro e w' ⟨rfl,n,os,rfl⟩;have hp:=List.mergeSort_perm xs fun x y=>decide (x≤y);refine⟨rfl,SE (uI h n _ (List.length_mergeSort _) (fun y hy=>h.2.1 y (hp.mem_iff.1 hy))) os,?_⟩;exact OV (qT w g n _) os
theorem ZK(base:Nat)(v:Value)(xs:List Int)(w:World)(h:bN w base v xs):
  Calls Tryz.prog 117 #[v] w (KW w base v xs.reverse):=by
 rcases id h.1.2 with ⟨rfl,h0⟩|⟨g,cap,cur,rfl,hb,hh,_⟩
 ·have h0:xs= []:=List.eq_nil_of_length_eq_zero h0;subst h0;refine(slices_Reverse_int_empty none 0 w).mono ?_;rintro e w' ⟨rfl,rfl⟩;exact⟨rfl,by simpa using h,uN _ _⟩
 ·refine(slices_Reverse_int g 0 cap xs w (wZ h) (by have:=h.2.2;omega)).mono ?_;rintro e w' ⟨rfl,n,rfl⟩;exact⟨rfl,uI h n _ (by simp) (fun y hy=>h.2.1 y (by simpa using hy)),qT w g n _⟩
def NB(w:World)(base:Nat)(v:Value)(ys:List Int)(e:Ending)(w':World):Prop:=∃v',e=.returned v'∧bN w' base v' ys∧w.grownBy w' v.ownBlock
theorem MM(xs:List Int):(Lib.compact xs).length≤xs.length:=by
 unfold Lib.compact Lib.compactUpTo
 rw[List.length_map]
 have:=List.length_filter_le (Lib.keeps xs.toArray) (List.range xs.length)
 simpa using this
theorem ML(xs:List Int):∀y∈Lib.compact xs,y∈xs:=by
 intro y hy
 unfold Lib.compact Lib.compactUpTo at hy
 rw[List.mem_map] at hy
 obtain⟨k,hk,rfl⟩:=hy
 have:=List.mem_range.1 (List.mem_filter.1 hk).1
 simp[this]
theorem OB{w:World}{base g c n:Nat}{xs ys:List Int}(h:bN w base (.slice (some ⟨g,0,none⟩) n c) (xs++ys)):bN w base (.slice (some ⟨g,0,none⟩) xs.length c) xs:=by
 refine⟨⟨by simp[bC],?_⟩,fun z hz=>h.2.1 z (by simp[hz]),by have:=h.2.2;simp at this;omega⟩
 rcases h.1.2 with ⟨hv,_⟩|⟨g',cap,cur,hv,hb,hh,h1,h2,h3,h4⟩
 ·cases hv
 ·injection hv with e1 e2 e3;injection e1 with e1;injection e1 with e1 _ _;subst e1 e3;refine .inr ⟨g,c,cur,rfl,hb,hh,by simp at h1;omega,h2,h3,?_⟩;have h5:(cur.toList.take ((xs++ys).length*1)).take xs.length=(bC (xs++ys)).take xs.length:=by rw[h4]
  rw[List.take_take] at h5;simpa[bC] using h5
theorem GY(base:Nat)(v:Value)(xs:List Int)(w:World)(h:bN w base v xs):
  Calls Tryz.prog 95 #[v] w (NB w base v (Lib.compact xs)):=by
 rcases id h.1.2 with ⟨rfl,h0⟩|⟨g,cap,cur,rfl,hb,hh,h1,_⟩
 ·have h0:xs= []:=List.eq_nil_of_length_eq_zero h0;subst h0;refine(slices_Compact_int_empty none 0 w).mono ?_;rintro e w' ⟨rfl,rfl⟩;exact⟨_,rfl,h,uN _ _⟩
 ·refine(slices_Compact_int g 0 cap xs w (wZ h) (by have:=h.2.2;omega) h1).mono ?_;rintro e w' ⟨rfl,n,rfl⟩;have hc:=MM xs
  have h9:=uI h n (Lib.compact xs++List.replicate (xs.length-(Lib.compact xs).length) 0) (by simp;omega) (fun y hy=>by
   rcases aCA.1 hy with hy|hy
   ·exact h.2.1 y (ML xs y hy)
   ·have:=(List.mem_replicate.1 hy).2;subst this
    unfold I64;omega)
  exact⟨_,rfl,OB h9,qT w g n _⟩
end

section
open Go.RowKit
structure bK where
 d:bI
 ba:Option Addr
 bn:Nat
 bc:Nat
def cN(t:bK):List Value:= [.int .i64 t.d.kind,.int .i64 t.d.parent,.slice t.ba t.bn t.bc]
theorem dM(t:bK):(cN t).length=3:=rfl
def cM(w:World)(a:Option Addr)(n:Nat)(ls:List bK):Prop:=kM 3 cN w a n ls∧∀t∈ls,dY w t.ba t.bn t.d.blocks∧t.bn≤t.bc∧I64 t.d.kind∧I64 t.d.parent
theorem cM.ext{w w':World}{a:Option Addr}{n:Nat}{ls:List bK}(h:cM w a n ls)(hb:Below w.heap.size w w'):cM w' a n ls:=⟨h.1.ext dM hb,fun t ht=>⟨(h.2 t ht).1.ext hb,(h.2 t ht).2⟩⟩
def aJ(ls:List bK):List bI:=ls.map (·.d)
theorem cQ(ls:List bK):(aJ ls).length=ls.length:=by simp[aJ]
theorem iM(ls:List bK)(k:Nat)(t:bK)(h:ls[k]? =some t):(aJ ls).getD k fC=t.d:=by simp[aJ,aBT,h]
abbrev kZ(t:bK):Obj:=.cells #[.int .i64 t.d.kind,.int .i64 t.d.parent,.slice t.ba t.bn t.bc] 76
theorem cM.cells{w:World}{a:Option Addr}{n:Nat}{ls:List bK}(h:cM w a n ls){k:Nat}(hk:k<n):∃t b o,ls[k]? =some t∧(dY w t.ba t.bn t.d.blocks∧t.bn≤t.bc∧I64 t.d.kind∧I64 t.d.parent)∧a=some ⟨b,o,none⟩∧
  w.cell? ⟨b,o+k*3,none⟩=some (.int .i64 t.d.kind)∧w.cell? ⟨b,o+k*3+1,none⟩=some (.int .i64 t.d.parent)∧w.cell? ⟨b,o+k*3+2,none⟩=some (.slice t.ba t.bn t.bc):=by
 have hk':k<ls.length:=by rw[h.1.1];exact hk
 obtain⟨b,o,e,hc⟩:=h.1.2.2 k ls[k] (aBU hk')
 exact⟨ls[k],b,o,aBU hk',h.2 _ (aBZ hk'),e,hc 0 (by omega),hc 1 (by omega),hc 2 (by omega)⟩
theorem oY(a:Option Addr)(n c:Nat)(ls:List bK)(w:World)(h:cM w a n ls):
  Calls Tryz.prog 92 #[.slice a n c] w fun e w'=>e=.returned (.bool (cD (aJ ls)))∧Below w.heap.size w w':=by
 have hn:=h.1.2.1
 have HL:=aBO h.1.1
 have H:=aBO h
 clear h
 go_enter Tryz.func92,Tryz.ntmps92
 go_wp2
 go_loopw [7] (fun i wr=>∃(k:Nat),k≤n∧i=.int .i64 k∧Hid (∀j,j<k→-1≤fJ (aJ ls) j∧fJ (aJ ls) j<j)∧Hid (Below w.heap.size w wr)) (fun i _=>n-(intOf i).toNat)
 case atStart=>exact⟨0,by omega,rfl,fun j hj=>absurd hj (by omega),aBQ _ _⟩
 case round=>
  obtain⟨k,hk,rfl,HR,HB⟩:=hrel;by_cases hlt:k<n
  ·obtain⟨t,b,o,hlk,hok,rfl,c0,c1,c2⟩:=(H.out.ext HB.out).cells hlt;obtain⟨_,_,_,hp1,hp2⟩:=hok;have htd:=iM ls k t hlk;have HTD:Hid (fJ (aJ ls) k=t.d.parent):=by rw[Hid,fJ,htd]
   clear hlk htd;have hlt':(k:Int)<(n:Int):=by omega
   by_cases hg1:t.d.parent< -1
   ·have HE:Hid (cD (aJ ls)=false):=by
     rw[Hid,Bool.eq_false_iff];intro h;have:=(dH _).1 h k (by rw[cQ,HL.out];exact hlt);rw[HTD.out] at this;omega
    go_wp2
    go_ret
    exact⟨by rw[HE.out];rfl,HB.out.alloc HB.out.size _⟩
   ·by_cases hg2:t.d.parent<k
    ·have HR2:Hid (∀j,j<k+1→-1≤fJ (aJ ls) j∧fJ (aJ ls) j<j):=fun j hj=>by
      by_cases e:j=k
      ·subst e;rw[HTD.out];omega
      ·exact HR.out j (by omega)
     go_wp2
     go_roundw
     case rel=>exact⟨k+1,by omega,by go_num,HR2,HB.out.alloc HB.out.size _⟩
     case measure=>simp[intOf];omega
    ·have HE:Hid (cD (aJ ls)=false):=by
      rw[Hid,Bool.eq_false_iff];intro h;have:=(dH _).1 h k (by rw[cQ,HL.out];exact hlt);rw[HTD.out] at this;omega
     go_wp2
     go_ret
     exact⟨by rw[HE.out];rfl,HB.out.alloc HB.out.size _⟩
  ·obtain rfl:k=n:=by omega
   have HE:Hid (cD (aJ ls)=true):=(dH _).2 fun j hj=>HR.out j (by rw[cQ,HL.out] at hj;exact hj);go_wp2
   go_ret
   exact⟨by rw[HE.out];rfl,HB.out⟩
end

section
open Go.RowKit
def lX:List MapEntry→Int→Option Value
 | [],_=>none
 |e :: l,k=>match e.key with
  | .int .i64 j=>if k=j then some e.val else lX l k
  |_=>lX l k
def uW(l:List MapEntry):Prop:=∀e∈l,∃k:Int,e.key=.int .i64 k
def nM(w:World)(b:Nat)(f:Int→Option Value):Prop:=
 ∃es clock,w.heap[b]? =some (.map es clock)∧uW es.toList∧∀k,lX es.toList k=f k
def upd(f:Int→Option Value)(k:Int)(v:Value):Int→Option Value:=fun j=>if j=k then some v else f j
theorem yN(q:IntKind)(k:Int):∀(l:List MapEntry) (i:Nat),uW l→
  (Instr.findNow (.int q) (.int .i64 k) l i=some none∧lX l k=none)∨
  ∃j e,l[j]? =some e∧Instr.findNow (.int q) (.int .i64 k) l i=some (some (i+j,e.val))∧e.key=.int .i64 k∧lX l k=some e.val∧
   ∀v,uW (l.modify j fun e=>{e with key:=.int .i64 k,val:=v})∧∀k',lX (l.modify j fun e=>{e with key:=.int .i64 k,val:=v}) k'=upd (lX l) k v k':=by
 intro l
 induction l with
 |nil=>intro i _;exact Or.inl ⟨rfl,rfl⟩
 |cons e l ih=>
  intro i hk;obtain⟨j,hj⟩:=hk e (by simp);have hk':uW l:=fun x hx=>hk x (by simp[hx]);by_cases h:k=j
  ·subst h;refine Or.inr ⟨0,e,rfl,?_,hj,?_,fun v=>⟨?_,fun k'=>?_⟩⟩
   ·simp[Instr.findNow,Instr.sameNow,hj]
   ·simp[lX,hj]
   ·intro x hx;simp at hx;rcases hx with rfl|hx
    ·exact⟨k,rfl⟩
    ·exact hk' x hx
   ·simp only[List.modify_zero_cons,lX,upd,hj]
    split<;>rfl
  ·have hb:(k==j)=false:=by simpa using h
   rcases ih (i+1) hk' with ⟨h1,h2⟩|⟨m,e',h0,h1,h2,h3,h4⟩
   ·exact Or.inl ⟨by simp[Instr.findNow,Instr.sameNow,hj,hb,h1],by simp[lX,hj,h,h2]⟩
   ·refine Or.inr ⟨m+1,e',by simpa using h0,?_,h2,?_,fun v=>⟨?_,fun k'=>?_⟩⟩
    ·simp[Instr.findNow,Instr.sameNow,hj,hb,h1];omega
    ·simp[lX,hj,h,h3]
    ·intro x hx;simp at hx;rcases hx with rfl|hx
     ·exact⟨j,hj⟩
     ·exact(h4 v).1 x hx
    ·have:=(h4 v).2 k';simp only[List.modify_succ_cons,lX,upd,hj] at this⊢;rw[this];by_cases e1:k'=j
     ·subst e1;simp[Ne.symm h]
     ·simp[e1]
theorem OE(l:List MapEntry)(k:Int)(v:Value)(b:Nat)(k':Int)(hn:lX l k=none)(hk:uW l):
  lX (l++ [{key:=.int .i64 k,val:=v,born:=b}]) k'=upd (lX l) k v k':=by
 induction l with
 |nil=>simp[lX,upd]
 |cons e l ih=>
  obtain⟨j,hj⟩:=hk e (by simp);simp only[lX,hj] at hn
  split at hn
  ·cases hn
  ·rename_i hkj
   have:=ih hn (fun x hx=>hk x (by simp[hx]));simp only[List.cons_append,lX,hj,upd] at this⊢;rw[this];by_cases e1:k'=j
   ·subst e1;simp[Ne.symm hkj]
   ·simp[e1]
section
variable {P:Program} {t kt et:TypeId} {w:World} {b:Nat} {f:Int→Option Value}
theorem nM.lt(h:nM w b f):b<w.heap.size:=by obtain⟨es,c,hb,_⟩:=h;exact(aBW.1 hb).1
theorem nM.made(w:World):nM (w.alloc (.map #[] 0)) w.heap.size (fun _=>none):=
 ⟨#[],0,World.alloc_heap_new w _,by intro e he;simp at he,fun k=>rfl⟩
theorem nM.of_block{w':World}(h:nM w b f)(hb:w'.heap[b]? =w.heap[b]?):nM w' b f:=by
 obtain⟨es,c,h1,h2⟩:=h;exact⟨es,c,hb.trans h1,h2⟩
theorem nM.ext{w':World}(h:nM w b f)(hb:Below w.heap.size w w'):nM w' b f:=h.of_block (hb.block b h.lt)
theorem nM.grown{w':World}{row:Option Nat}(h:nM w b f)(hg:w.grownBy w' row)(hne:some b≠row):nM w' b f:=h.of_block (hg.block b h.lt hne)
theorem kI(hk:P.underlying kt=some (.int .i64))(em:Bool)(k:Int)(w:World):(Instr.checkKey em 10000 kt (.int .i64 k)).run P w=.ok () w:=by
 have:∀n,(Instr.checkKey em (n+1) kt (.int .i64 k)).run P w=.ok () w:=fun n=>by simp[Instr.checkKey,run_underlying hk]
 exact this 9999
theorem GK(k:Int):Instr.sameBits 10000 (.int .i64 k) (.int .i64 k)=true:=by
 have:∀n,Instr.sameBits n (.int .i64 k) (.int .i64 k)=true:=fun n=>by cases n<;>simp[Instr.sameBits]
 exact this 10000
theorem kU(hk:P.underlying kt=some (.int .i64))(k:Int)(l:List MapEntry)(r:Option (Nat×Value))(w:World)(h:Instr.findNow (.int .i64) (.int .i64 k) l 0=some r):
  (Instr.findKey kt (.int .i64 k) l).run P w=.ok r w:=by
 simp[Instr.findKey,run_underlying hk,h]
theorem nM.look(h:nM w b f)(ht:P.underlying t=some (.map kt et))(hk:P.underlying kt=some (.int .i64)){z:Value}(hz:(zeroValue et).run P w=.ok z w)(k:Int):
  (Instr.lookup t (.map (some b)) (.int .i64 k) false).run P w=.ok ((f k).getD z) w:=by
 obtain⟨es,c,hb,hi,hf⟩:=h
 have hgo:(getObj b).run P w=.ok (.map es c) w:=by simp[getObj,Sem.run,hb]
 rcases yN .i64 k es.toList 0 hi with ⟨h1,h2⟩|⟨j,e,_,h1,_,h2,_⟩
 ·rw[hf] at h2;simp[Instr.lookup,run_underlying ht,Sem.run_bind,hgo,kI hk,kU hk k _ _ w h1,hz,h2,Result.andThen]
 ·rw[hf] at h2;simp[Instr.lookup,run_underlying ht,Sem.run_bind,hgo,kI hk,kU hk k _ _ w h1,h2,Result.andThen]
theorem nM.put(h:nM w b f)(ht:P.underlying t=some (.map kt et))(hk:P.underlying kt=some (.int .i64))(k:Int)(v:Value):
  ∃o,(Instr.mapUpdate t (.map (some b)) (.int .i64 k) v).run P w=.ok () (w.putObj b o)∧nM (w.putObj b o) b (upd f k v):=by
 have hlt:=h.lt
 obtain⟨es,c,hb,hi,hf⟩:=h
 have hgo:(getObj b).run P w=.ok (.map es c) w:=by simp[getObj,Sem.run,hb]
 have hso:∀o,(setObj b o).run P w=.ok () (w.putObj b o):=fun o=>by simp[setObj,Sem.run,hb,World.putObj]
 rcases yN .i64 k es.toList 0 hi with ⟨h1,h2⟩|⟨j,e,hj,h1,hek,h2,h3⟩
 ·refine⟨.map (es.push {key:=.int .i64 k,val:=v,born:=c}) (c+1),?_,?_⟩
  ·simp[Instr.mapUpdate,run_underlying ht,Sem.run_bind,hgo,kI hk,kU hk k _ _ w h1,hso,Result.andThen]
  ·refine⟨_,_,World.putObj_heap_same hlt,?_,fun k'=>?_⟩
   ·intro x hx;simp at hx;rcases hx with hx|rfl
    ·exact hi x (by simpa using hx)
    ·exact⟨k,rfl⟩
   ·rw[Array.toList_push,OE _ _ _ _ _ h2 hi];simp only[upd,hf]
 ·have hes:es[0+j]? =some e:=by simpa using hj
  refine⟨.map (es.modify (0+j) fun e=>{e with key:=.int .i64 k,val:=v}) c,?_,?_⟩
  ·simp[Instr.mapUpdate,run_underlying ht,Sem.run_bind,hgo,kI hk,kU hk k _ _ w h1,hso,Result.andThen,Instr.keyThatStays];simp at hes;simp[hes,hek,GK,hso]
  ·refine⟨_,_,World.putObj_heap_same hlt,?_,fun k'=>?_⟩
   ·have:=(h3 v).1;simpa[Array.toList_modify] using this
   ·have:=(h3 v).2 k';rw[Array.toList_modify,Nat.zero_add,this];simp only[upd,hf]
end
end

section
open Go.RowKit
def gZ(l:List bI):Nat:=(l.map fun t=>t.blocks.length).sum
theorem VJ(l:List bI):∀m,((l.take m).map fun t=>t.blocks.length).sum≤gZ l:=by
 induction l with
 |nil=>intro m;simp[gZ]
 |cons t l ih=>
  intro m;cases m with
  |zero=>simp[gZ]
  |succ m=>have:=ih m;simp only[gZ,List.take_succ_cons,List.map_cons,List.sum_cons] at this⊢;omega
theorem FZ(l:List bI)(k:Nat):(eW l k).length≤gZ l:=by
 induction l generalizing k with
 |nil=>simp[gZ,eW]
 |cons t l ih=>
  cases k with
  |zero=>simp[gZ,eW]
  |succ k=>have:=ih k;simp only[gZ,List.map_cons,List.sum_cons,eW,List.getD_cons_succ] at this⊢;omega
theorem IR(l:List bI)(k m:Nat)(hm:m≤l.length):(nW l k m).length≤2*gZ l:=by
 have h1:∀m,m≤l.length→(((List.range m).filter fun n=>n != k&&fX l k n).flatMap (eW l)).length≤((l.take m).map fun t=>t.blocks.length).sum:=by
  intro m
  induction m with
  |zero=>intro _;simp
  |succ m ih=>
   intro hm;have:=ih (by omega);rw[List.range_succ,List.filter_append,List.flatMap_append,List.length_append,List.take_add_one,aBU (by omega),List.map_append,List.sum_append];have e:(eW l m).length=(l[m]'(by omega)).blocks.length:=by simp[eW,aBT,show m<l.length by omega]
   by_cases hc:(m != k&&fX l k m)=true
   ·simp only[List.filter_cons,hc,if_true,List.filter_nil,List.flatMap_cons,List.flatMap_nil,List.append_nil,Option.toList_some,List.map_cons,List.map_nil,List.sum_cons,List.sum_nil];omega
   ·have hc':(m != k&&fX l k m)=false:=by simpa using hc
    simp only[List.filter_cons,hc',List.filter_nil,Option.toList_some,List.map_cons,List.map_nil,List.sum_cons,List.sum_nil];simp only[Bool.false_eq_true,if_false,List.flatMap_nil,List.length_nil];omega
 have h2:=h1 m hm
 have h3:=VJ l m
 have h4:=FZ l k
 rw[nW,List.length_append]
 omega
theorem RX(l:List bI)(k:Nat):nW l k 0=eW l k:=by simp[nW]
def upB(l:List bI)(k m:Nat):Bool:=decide (0≤fJ l m)&&fX l k (fJ l m).toNat
theorem IM{l:List bI}(hp:cD l=true)(k:Nat)(hk:k<l.length):upB l k k=false:=by
 rw[Bool.eq_false_iff]
 intro h
 simp only[upB,Bool.and_eq_true,decide_eq_true_eq] at h
 have h1:=(dH l).1 hp k hk
 have:=pR hp k _ (by omega) h.2
 omega
theorem RY{l:List bI}(hp:cD l=true)(k m:Nat)(hk:k<l.length)(hm:m<l.length):nW l k (m+1)=if upB l k m then nW l k m++eW l m else nW l k m:=by
 have e:(m != k&&fX l k m)=upB l k m:=by
  by_cases h:m=k
  ·subst h;rw[IM hp m hm];simp
  ·have h1:(m != k)=true:=by simpa using h
   have h2:(m==k)=false:=by simpa using h
   rw[h1,Bool.true_and,iF hp k m hm,h2,Bool.false_or];rfl
 simp only[nW,List.range_succ,List.filter_append,List.filter_cons,List.filter_nil,e,List.flatMap_append]
 cases upB l k m<;>simp
def fL(l:List bI)(k m:Nat):Int→Option Value:=fun x=>if x=k∨(0≤x∧x<m∧fX l k x.toNat=true) then some (.int .i64 1) else none
theorem MV(l:List bI)(k:Nat):upd (fun _=>none) (k:Int) (.int .i64 1)=fL l k 0:=by
 funext x
 by_cases e:x=k
 ·simp[upd,fL,e]
 ·have:¬(0≤x∧x<((0:Nat):Int)∧fX l k x.toNat=true):=fun h=>by omega
  simp only[upd,fL,if_neg e];rw[if_neg (fun h=>h.elim e this)]
theorem MW{l:List bI}(hp:cD l=true)(k m:Nat)(hk:k<l.length)(hm:m<l.length):fL l k (m+1)=if upB l k m then upd (fL l k m) (m:Int) (.int .i64 1) else fL l k m:=by
 funext x
 have hd:m≠k→fX l k m=upB l k m:=fun h=>by
  have h2:(m==k)=false:=by simpa using h
  rw[iF hp k m hm,h2,Bool.false_or];rfl
 by_cases e:x=m
 ·subst e;by_cases hmk:m=k
  ·subst hmk;rw[IM hp m hm];simp[fL]
  ·have hne:¬(m:Int)=k:=by omega
   cases hu:upB l k m with
   |true=>
    have:fL l k (m+1) (m:Int)=some (.int .i64 1):=by
     unfold fL;rw[if_pos (.inr ⟨by omega,by omega,by simpa[hd hmk] using hu⟩)]
    rw[this];simp[upd]
   |false=>
    have h1:fL l k (m+1) (m:Int)=none:=by
     unfold fL;rw[if_neg];rintro(h|⟨_,_,h⟩)
     ·exact hne h
     ·rw[Int.toNat_natCast,hd hmk,hu] at h;cases h
    have h2:fL l k m (m:Int)=none:=by
     unfold fL;rw[if_neg];rintro(h|⟨_,h,_⟩)
     ·exact hne h
     ·omega
    rw[h1];simp[h2]
 ·have h1:fL l k (m+1) x=fL l k m x:=by
   unfold fL
   congr 1
   rw[eq_iff_iff];constructor
   ·rintro(h|⟨a,b,c⟩)
    ·exact .inl h
    ·exact .inr ⟨a,by omega,c⟩
   ·rintro(h|⟨a,b,c⟩)
    ·exact .inl h
    ·exact .inr ⟨a,by omega,c⟩
  rw[h1];cases upB l k m<;>simp[upd,e]
theorem PK{l:List bI}(hp:cD l=true)(k m:Nat)(hm:m<l.length):(decide (0≤fJ l m)&&(fL l k m (fJ l m)).isSome)=upB l k m:=by
 have h1:=(dH l).1 hp m hm
 unfold upB
 by_cases h0:0≤fJ l m
 ·rw[decide_eq_true h0,Bool.true_and,Bool.true_and];unfold fL;by_cases hd:fX l k (fJ l m).toNat=true
  ·rw[if_pos (.inr ⟨h0,by omega,hd⟩),hd];rfl
  ·rw[if_neg]
   ·have:fX l k (fJ l m).toNat=false:=by simpa using hd
    rw[this];rfl
   ·rintro(h|⟨_,_,h⟩)
    ·rw[h,Int.toNat_natCast,jV] at hd;exact hd rfl
    ·exact hd h
 ·rw[decide_eq_false h0];rfl
theorem MN(d:Array Int)(hs:∀i,i+1<d.size→d[i]!≤d[i+1]!):∀m,m≤d.size→(Lib.compactUpTo d m).Pairwise (· < ·)∧(∀y,y∈Lib.compactUpTo d m↔∃j,j<m∧d[j]! =y)∧(0<m→∀y∈Lib.compactUpTo d m,y≤d[m-1]!):=by
 intro m
 induction m with
 |zero=>intro _;refine⟨by simp[Lib.compactUpTo],fun y=>⟨fun h=>by simp[Lib.compactUpTo] at h,fun⟨j,h,_⟩=>by omega⟩,fun h=>by omega⟩
 |succ m ih=>
  intro hm;obtain⟨h1,h2,h3⟩:=ih (by omega);rw[Lib.compactUpTo_succ];have hle:0<m→∀y∈Lib.compactUpTo d m,y≤d[m]!:=fun h0 y hy=>by
   have:=h3 h0 y hy;have h4:=hs (m-1) (by omega);rw[show m-1+1=m by omega] at h4;omega
  by_cases hk:Lib.keeps d m=true
  ·rw[if_pos hk];have hlt:∀y∈Lib.compactUpTo d m,y<d[m]!:=fun y hy=>by
    have h0:0<m:=by
     rcases Nat.eq_zero_or_pos m with e|e
     ·subst e;simp[Lib.compactUpTo] at hy
     ·exact e
    simp only[Lib.keeps,decide_eq_true_eq] at hk;have hk:=hk.resolve_left (by omega);have:=h3 h0 y hy;have h4:=hs (m-1) (by omega);rw[show m-1+1=m by omega] at h4;omega
   refine⟨?_,fun y=>?_,fun _ y hy=>?_⟩
   ·rw[List.pairwise_append];exact⟨h1,by simp,fun y hy z hz=>by simp at hz;subst hz;exact hlt y hy⟩
   ·rw[aCA,h2];constructor
    ·rintro(⟨j,hj,e⟩|h)
     ·exact⟨j,by omega,e⟩
     ·simp at h;exact⟨m,by omega,h.symm⟩
    ·rintro⟨j,hj,e⟩;by_cases hjm:j=m
     ·subst hjm;exact .inr (by simp[e])
     ·exact .inl ⟨j,by omega,e⟩
   ·rcases aCA.1 hy with hy|hy
    ·have:=hlt y hy;simp;omega
    ·simp at hy;subst hy;simp
  ·rw[if_neg hk,List.append_nil];have hk':m≠0∧d[m]! =d[m-1]!:=by
    simp only[Lib.keeps,decide_eq_true_eq,not_or] at hk;exact⟨hk.1,Classical.not_not.1 hk.2⟩
   refine⟨h1,fun y=>?_,fun _ y hy=>by have:=hle (by omega) y hy;simpa using this⟩;rw[h2];constructor
   ·rintro⟨j,hj,e⟩;exact⟨j,by omega,e⟩
   ·rintro⟨j,hj,e⟩;by_cases hjm:j=m
    ·subst hjm;exact⟨j-1,by omega,by rw[←hk'.2,e]⟩
    ·exact⟨j,by omega,e⟩
theorem GX(xs:List Int):Lib.compact (xs.mergeSort fun x y=>decide (x≤y))=oR xs:=by
 have hp:=List.mergeSort_perm xs fun x y=>decide (x≤y)
 have hso:=List.pairwise_mergeSort (le:=fun x y:Int=>decide (x≤y)) (fun a b c h1 h2=>by simp at *;omega) (fun a b=>by simp;omega) xs
 generalize xs.mergeSort (fun x y=>decide (x≤y))=ys at*
 have hs:∀i,i+1<ys.toArray.size→ys.toArray[i]!≤ys.toArray[i+1]!:=fun i hi=>by
  have hi':i+1<ys.length:=by simpa using hi
  have:=List.pairwise_iff_getElem.1 hso i (i+1) (by omega) hi' (by omega);simp at this;simp[show i<ys.length by omega,hi'];exact this
 have h:=MN ys.toArray hs ys.length (by simp)
 refine RR _ _ h.1 (wA xs) fun y=>?_
 rw[xA,←hp.mem_iff]
 show y∈Lib.compactUpTo ys.toArray ys.length↔_
 rw[h.2.1]
 constructor
 ·rintro⟨j,hj,rfl⟩;simp[hj]
 ·intro hy;obtain⟨j,hj,e⟩:=List.mem_iff_getElem.1 hy;exact⟨j,hj,by simp[hj,e]⟩
end
end Go.Proofs.YtblhmdhfhaencaaGreat
