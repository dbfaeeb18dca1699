/-
 Slices of slices of ints that a call makes:what lies where while they grow.
-/
import Derived.Test.YtnmkjliioogbgaaGreatDoorED
import Derived.Test.YtnmkjliioogbgaaGreatDoorQueueS
import Derived.Test.YtnmkjliioogbgaaGreatDoorUH
import Derived.Test.YtnmkjliioogbgaaGreatDoorMark
import Derived.Test.YtnmkjliioogbgaaGreatDoorTA
import Derived.Test.YtnmkjliioogbgaaGreatDoorSU
import Derived.Test.YtnmkjliioogbgaaGreatDoorRangeT
import Derived.Test.YtnmkjliioogbgaaGreatDoorNR
import Derived.Deep.Onto
import Derived.Test.YtnmkjliioogbgaaGreatDoorTH
import Derived.Test.YtnmkjliioogbgaaGreatDoorInsR
import Derived.Test.YtnmkjliioogbgaaGreatDoorSB
import Derived.Outline
import Derived.Deep.Light
import Derived.Deep.DeepCutAuto
import Derived.Deep.CutBlock
import Derived.BigQuiet
import Derived.Test.YtnmkjliioogbgaaGreatDoorFreeL
import Derived.Test.YtnmkjliioogbgaaGreatDoorSM
namespace Go.Proofs.YtnmkjliioogbgaaGreatDoor
set_option linter.unusedSimpArgs false
set_option linter.unusedVariables false
set_option linter.unusedSectionVars false
set_option maxRecDepth 100000
set_option maxHeartbeats 40000000
section
open Go.RowKit
def OtherTy(W:World)(e:TypeId)(q:Nat):Prop:=∀cs f,W.heap[q]?≠some (.cells cs e f)
theorem OtherTy.of{W:World}{e t:TypeId}{q:Nat}{cs:Array Value}{f:Nat×Nat}(h:W.heap[q]? =some (.cells cs t f))(hne:t≠e):OtherTy W e q:=fun cs' f' hx=>by
 rw[h] at hx
 cases hx
 exact hne rfl
theorem own_ne_ty{w:World}{base:Nat}{e:TypeId}{size:Nat}{v:Value}{n q:Nat}{xs:List Value}(h:w.ownsRow base e size v n xs)(hq:OtherTy w e q):v.ownBlock≠some q:=by
 intro hv
 rcases h.2 with ⟨rfl,_⟩|⟨g,cap,cur,rfl,_,hg,_⟩
 ·cases hv
 ·simp only[Value.ownBlock,Option.some.injEq] at hv;subst hv;exact hq _ _ hg
theorem own_kept_ty{W W':World}{base:Nat}{e:TypeId}{size:Nat}{v:Value}{n:Nat}{xs:List Value}{row:Option Nat}(h:W.ownsRow base e size v n xs)(hg:W.grownBy W' row)(hr:∀q,row=some q→OtherTy W e q):W'.ownsRow base e size v n xs:=by
 refine h.kept hg ?_
 cases hv:v.ownBlock with
 |none=>exact .inl rfl
 |some q=>exact .inr fun e=>own_ne_ty h (hr q e.symm) hv
theorem OwnI.keptT{W W':World}{base:Nat}{v:Value}{xs:List Int}{row:Option Nat}(h:OwnI W base v xs)(hg:W.grownBy W' row)(hr:∀q,row=some q→OtherTy W 3 q):OwnI W' base v xs:=⟨own_kept_ty h.1 hg hr,h.2⟩
theorem own_ty{W:World}{base:Nat}{e:TypeId}{size:Nat}{v:Value}{n q:Nat}{xs:List Value}(h:W.ownsRow base e size v n xs)(hv:v.ownBlock=some q):∃cs f,W.heap[q]? =some (.cells cs e f):=by
 rcases h.2 with ⟨rfl,_⟩|⟨g,cap,cur,rfl,_,hg,_⟩
 ·cases hv
 ·simp only[Value.ownBlock,Option.some.injEq] at hv;subst hv;exact⟨_,_,hg⟩
def ListsIn(W:World)(B:Nat)(v:Value)(xs:List (List Int)):Prop:=
 ∃us:List Value,us.length=xs.length∧W.ownsRow B 22 1 v us.length us∧(∀u∈us,u.oneCell'=true)∧∀(j:Nat) (u:Value) (x:List Int),us[j]? =some u→xs[j]? =some x→OwnI W B u x
section
variable {W W':World} {B:Nat} {v:Value} {xs:List (List Int)} {row:Option Nat}
theorem ListsIn.nil(W:World)(B:Nat):ListsIn W B (.slice none 0 0) []:=⟨[],rfl,World.ownsRow_nil _ _ _ _,fun u h=>(by cases h),fun j u x h=>by simp at h⟩
theorem ListsIn.kept(h:ListsIn W B v xs)(hg:W.grownBy W' row)(hne:v.ownBlock=none∨v.ownBlock≠row)(hr:∀q,row=some q→OtherTy W 3 q):ListsIn W' B v xs:=
 let ⟨us,h1,h2,h3,h4⟩:=h
 ⟨us,h1,h2.kept hg hne,h3,fun j u x hu hx=>(h4 j u x hu hx).keptT hg hr⟩
theorem OwnI.chgT{S:Nat→Prop}{u:Value}{ys:List Int}(h:OwnI W B u ys)(hc:Chg S W W')(ht:∀q,S q→OtherTy W 3 q):OwnI W' B u ys:=⟨ownsRow_chg h.1 hc fun q e hS=>own_ne_ty h.1 (ht q hS) e,h.2⟩
theorem ListsIn.chg{S:Nat→Prop}(h:ListsIn W B v xs)(hc:Chg S W W')(hv:∀q,v.ownBlock=some q→¬S q)(ht:∀q,S q→OtherTy W 3 q):ListsIn W' B v xs:=
 let ⟨us,h1,h2,h3,h4⟩:=h
 ⟨us,h1,ownsRow_chg h2 hc hv,h3,fun j u x hu hx=>(h4 j u x hu hx).chgT hc ht⟩
theorem ListsIn.lt(h:ListsIn W B v xs){q:Nat}(hq:v.ownBlock=some q):B≤q∧q<W.heap.size∧∃cs f,W.heap[q]? =some (.cells cs 22 f):=
 let ⟨us,_,h2,_⟩:=h
 ⟨(h2.lt q hq).1,(h2.lt q hq).2,own_ty h2 hq⟩
theorem ListsIn.form(h:ListsIn W B v xs):∃a c,v=.slice a xs.length c:=by
 obtain⟨us,h1,h2,_⟩:=h
 rcases h2.2 with ⟨rfl,h0⟩|⟨g,cap,cur,rfl,_⟩
 ·exact⟨none,0,by rw[←h1,h0]⟩
 ·exact⟨_,cap,by rw[h1]⟩
theorem ListsIn.own(h:ListsIn W B v xs):∃us:List Value,us.length=xs.length∧W.ownsRow B 22 1 v xs.length us∧(∀q,v.ownBlock=some q→OtherTy W 3 q)∧
  ∀(W':World) (g cap:Nat) (u:Value) (x:List Int),W'.ownsRow B 22 1 (.slice (some ⟨g,0,none⟩) (xs.length+1) cap) (xs.length+1) (us++ [u])→W.grownBy W' v.ownBlock→u.oneCell'=true→OwnI W' B u x→ListsIn W' B (.slice (some ⟨g,0,none⟩) (xs.length+1) cap) (xs++ [x]):=by
 obtain⟨us,h1,h2,h3,h4⟩:=h
 have ht:∀q,v.ownBlock=some q→OtherTy W 3 q:=fun q hq=>let ⟨cs,f,e⟩:=own_ty h2 hq;OtherTy.of e (by decide)
 refine⟨us,h1,by rw[←h1];exact h2,ht,fun W' g cap u x hw hg hu hx=>⟨us++ [u],by simp[h1],?_,?_,fun j u' x' hju hjx=>?_⟩⟩
 ·rw[List.length_append,h1];exact hw
 ·intro u' hu';rcases List.mem_append.1 hu' with h|h
  ·exact h3 u' h
  ·rw[List.mem_singleton] at h;rw[h];exact hu
 ·by_cases hj:j<us.length
  ·rw[List.getElem?_append_left hj] at hju;rw[List.getElem?_append_left (by omega)] at hjx;exact(h4 j u' x' hju hjx).keptT hg ht
  ·have hl:=(List.getElem?_eq_some_iff.1 hju).1;rw[List.length_append] at hl;have e:j=us.length:=by simp at hl;omega
   subst e;rw[List.getElem?_append_right (Nat.le_refl _),Nat.sub_self] at hju;rw[h1,List.getElem?_append_right (Nat.le_refl _),Nat.sub_self] at hjx;simp at hju hjx;rw[←hju,←hjx];exact hx
theorem ListsIn.at_{a:Option Addr}{n c:Nat}(h:ListsIn W B (.slice a n c) xs){f:Nat→List Int}(hf:∀k,k<xs.length→xs[k]? =some (f k)):IntsAt W a xs.length f:=fun k hk=>by
 obtain⟨us,h1,h2,h3,h4⟩:=h
 obtain⟨u,hu⟩:∃u,us[k]? =some u:=⟨_,List.getElem?_eq_getElem (by omega)⟩
 have ho:=h4 k u (f k) hu (hf k hk)
 obtain⟨a2,c2,e2⟩:=ho.form
 rcases h2.2 with ⟨e,h0⟩|⟨g,cap,cur,e,_⟩
 ·omega
 ·injection e with e0 e1 e2';subst e0;refine⟨g,0,a2,c2,rfl,?_,by rw[e2] at ho;exact ho.ints⟩;subst e1 e2';have:=World.ownsRow.cellAt h2 k (by omega);rw[Nat.zero_add,this,hu,e2]
end
def TabL(W:World)(B g m lo:Nat)(f:Nat→List Int):Prop:=
 ∃us:Nat→Value,W.heap[g]? =some (.cells (arrN m us) 22 (0,0))∧∀i,lo≤i→i<m→OwnI W B (us i) (f i)
section
variable {W W':World} {B g m lo:Nat} {f:Nat→List Int} {row:Option Nat}
theorem TabL.kept(h:TabL W B g m lo f)(hg:W.grownBy W' row)(hne:row≠some g)(hr:∀q,row=some q→OtherTy W 3 q):TabL W' B g m lo f:=
 let ⟨us,h1,h2⟩:=h
 ⟨us,(hg.block g (Array.getElem?_eq_some_iff.1 h1).1 fun e=>hne e.symm).trans h1,fun i hi hm=>(h2 i hi hm).keptT hg hr⟩
theorem TabL.chg{S:Nat→Prop}(h:TabL W B g m lo f)(hc:Chg S W W')(hg:¬S g)(ht:∀q,S q→OtherTy W 3 q):TabL W' B g m lo f:=
 let ⟨us,h1,h2⟩:=h
 ⟨us,(hc.block g (Array.getElem?_eq_some_iff.1 h1).1 hg).trans h1,fun i hi hm=>(h2 i hi hm).chgT hc ht⟩
theorem TabL.ext(h:TabL W B g m lo f)(hb:Below W.heap.size W W'):TabL W' B g m lo f:=
 h.kept (row:=none) ⟨hb.os,hb.tape,hb.output,hb.size,fun k hk _=>hb.block k hk⟩ (by simp) (fun q e=>by cases e)
theorem TabL.put(h:TabL W B g m (lo+1) f)(hl:lo<m){u:Value}(hu:OwnI W B u (f lo)):TabL (W.setCell ⟨g,lo,none⟩ u) B g m lo f∧W.frozen? ⟨g,lo,none⟩=false∧(∃z,W.cell? ⟨g,lo,none⟩=some z):=by
 obtain⟨us,h1,h2⟩:=h
 have hg:W.grownBy (W.setCell ⟨g,lo,none⟩ u) (some g):=⟨rfl,rfl,rfl,by simp,fun k _ hne=>Below.heap_setCell _ _ _ _ (by simpa using fun e=>hne (by rw[e]))⟩
 have ho:∀q,some g=some q→OtherTy W 3 q:=fun q e=>by cases e;exact OtherTy.of h1 (by decide)
 refine⟨⟨fun j=>if j=lo then u else us j,?_,fun i hi hm=>?_⟩,frozen_of_row _ _ _ _ _ h1,⟨us lo,by rw[cell_of_row _ _ _ _ _ _ h1,arr_at _ _ _ hl]⟩⟩
 ·rw[heap_setCell_same _ _ _ _ _ _ h1];refine congrArg some (congrArg (fun x=>Obj.cells x _ _) (arr_put (by simp) fun j _ hj=>by simp[hj]))
 ·show OwnI _ B (if i=lo then u else us i) (f i);by_cases e:i=lo
  ·subst e;rw[if_pos rfl];exact hu.keptT hg ho
  ·rw[if_neg e];exact(h2 i (by omega) hm).keptT hg ho
theorem TabL.at_(h:TabL W B g m 0 f):IntsAt W (some ⟨g,0,none⟩) m f:=fun k hk=>by
 obtain⟨us,h1,h2⟩:=h
 have ho:=h2 k (Nat.zero_le _) hk
 obtain⟨a,c,e⟩:=ho.form
 refine⟨g,0,a,c,rfl,?_,by rw[e] at ho;exact ho.ints⟩
 rw[Nat.zero_add,cell_of_row _ _ _ _ _ _ h1,arr_at _ _ _ hk,e]
end
end

section
open Go.RowKit
theorem fill_endL{tm:Array Value}{ds:List Deferred}{m:Nat}{G:(Nat→Value)→List Deferred→Act}{R:Nat→(Nat→Value)→List Deferred→Prop}(h:(⟨tm,ds⟩:Act)=G (fun s=>tm.getD s undef) ds)(m':Nat)(hm:m'<m)(hR:R m' (fun s=>tm.getD s undef) ds):∃m',m'<m∧∃u' ds',(⟨tm,ds⟩:Act)=G u' ds'∧R m' u' ds':=⟨m',hm,_,_,h,hR⟩
abbrev liveO(a b c:Value):Obj:=.cells #[a,b,c] 91 (0,0)
def tabV(gs:Nat→Nat)(bs:List BkL)(j:Nat):Value:=.slice (some ⟨gs j,0,none⟩) (atN bs j) (atN bs j)
structure LfJ(w:World)(fo:Obj)(bs:List BkL)(n R0 R1 PF:Nat)(inn out:Nat→Nat)(vI vO vA:Value)(gs:Nat→Nat)(kI kO kA:Nat)(W:World):Prop where
 fn:W.heap[w.heap.size]? =some fo
 lv:W.heap[w.heap.size+1]? =some (liveO vI vO vA)
 fl:W.heap[PF]? =some (flowO n R0 R1)
 inn:OwnW W (w.heap.size+2) (.slice (some ⟨R0,0,none⟩) n n) n inn
 out:OwnW W (w.heap.size+2) (.slice (some ⟨R1,0,none⟩) n n) n out
 gI:ListsIn W (w.heap.size+2) vI (famL kI (vInL bs))
 gO:ListsIn W (w.heap.size+2) vO (famL kO (vOutL bs))
 gA:W.ownsRow (w.heap.size+2) 88 1 vA kA (famL kA (tabV gs bs))
 tb:∀j,j<kA→TabL W (w.heap.size+2) (gs j) (atN bs j) 0 (atL bs j)
 apI:∀j,j<kA→vI.ownBlock≠some (gs j)
 apO:∀j,j<kA→vO.ownBlock≠some (gs j)
 apIO:∀q,vI.ownBlock=some q→vO.ownBlock≠some q
 b:Below w.heap.size w W
section
variable {w:World} {fo:Obj} {bs:List BkL} {n R0 R1 PF:Nat} {inn out:Nat→Nat} {vI vO vA:Value} {gs:Nat→Nat} {kI kO kA:Nat} {W W':World} {row:Option Nat}
theorem ne_opt{v:Value}{row:Option Nat}(h:∀q,row=some q→v.ownBlock≠some q):v.ownBlock=none∨v.ownBlock≠row:=by
 cases hv:v.ownBlock with
 |none=>exact .inl rfl
 |some q=>exact .inr fun e=>h q e.symm hv
theorem LfJ.keep(h:LfJ w fo bs n R0 R1 PF inn out vI vO vA gs kI kO kA W)(hg:W.grownBy W' row)
  (hr:∀q,row=some q→w.heap.size+2≤q∧q≠PF∧OtherTy W 3 q∧OtherTy W 88 q∧R0≠q∧R1≠q∧vI.ownBlock≠some q∧vO.ownBlock≠some q∧∀j,j<kA→gs j≠q):LfJ w fo bs n R0 R1 PF inn out vI vO vA gs kI kO kA W':=by
 have ht:∀q,row=some q→OtherTy W 3 q:=fun q e=>(hr q e).2.2.1
 refine⟨(hg.block _ (lt_of_heap h.fn) fun e=>by have:=(hr _ e.symm).1;omega).trans h.fn,(hg.block _ (lt_of_heap h.lv) fun e=>by have:=(hr _ e.symm).1;omega).trans h.lv,(hg.block _ (lt_of_heap h.fl) fun e=>(hr _ e.symm).2.1 rfl).trans h.fl,
  OwnR.kept h.inn hg (ne_opt fun q e he=>by simp only[Value.ownBlock,Option.some.injEq] at he;exact(hr q e).2.2.2.2.1 he),OwnR.kept h.out hg (ne_opt fun q e he=>by simp only[Value.ownBlock,Option.some.injEq] at he;exact(hr q e).2.2.2.2.2.1 he),
  h.gI.kept hg (ne_opt fun q e=>(hr q e).2.2.2.2.2.2.1) ht,h.gO.kept hg (ne_opt fun q e=>(hr q e).2.2.2.2.2.2.2.1) ht,own_kept_ty h.gA hg fun q e=>(hr q e).2.2.2.1,fun j hj=>(h.tb j hj).kept hg (fun e=>(hr _ e).2.2.2.2.2.2.2.2 j hj rfl) ht,h.apI,h.apO,h.apIO,h.b.grown hg h.b.size fun q e=>by have:=(hr q e).1;omega⟩
theorem LfJ.ext(h:LfJ w fo bs n R0 R1 PF inn out vI vO vA gs kI kO kA W)(hb:Below W.heap.size W W'):LfJ w fo bs n R0 R1 PF inn out vI vO vA gs kI kO kA W':=
 h.keep (row:=none) ⟨hb.os,hb.tape,hb.output,hb.size,fun k hk _=>hb.block k hk⟩ (fun q e=>by cases e)
theorem isOw_ty{W:World}{q:Nat}{o:Obj}(hq:W.heap[q]? =some o)(ho:isOw o=true):OtherTy W 3 q∧OtherTy W 22 q∧OtherTy W 88 q:=by
 refine⟨fun cs f e=>?_,fun cs f e=>?_,fun cs f e=>?_⟩<;>(rw[hq] at e;cases e;simp[isOw,isBk,isBook,isIt,isVs] at ho)
theorem LfJ.steadyO{B:Nat}(hf:isOw fo=false)(hB:w.heap.size+2≤B)(h0:R0<B)(h1:R1<B)(hp:PF<B):SteadyO B (LfJ w fo bs n R0 R1 PF inn out vI vO vA gs kI kO kA):=fun W V row h hg hr=>
 h.keep hg fun q e=>by
  obtain⟨h2,o,h3,h4⟩:=hr q e;obtain⟨t1,t2,t3⟩:=isOw_ty h3 h4;refine⟨by omega,by omega,t1,t3,by omega,by omega,fun e2=>?_,fun e2=>?_,fun j hj e2=>?_⟩
  ·obtain⟨us,_,h5,_⟩:=h.gI;exact own_ne_ty h5 t2 e2
  ·obtain⟨us,_,h5,_⟩:=h.gO;exact own_ne_ty h5 t2 e2
  ·obtain⟨us,h5,_⟩:=h.tb j hj;rw[e2] at h5;exact t2 _ _ h5
theorem LfJ.chg{S:Nat→Prop}(h:LfJ w fo bs n R0 R1 PF inn out vI vO vA gs kI kO kA W)(hc:Chg S W W')(hs:∀q,S q→w.heap.size+1≤q∧q≠PF∧OtherTy W 3 q∧R0≠q∧R1≠q∧∀j,j<kA→gs j≠q):
  W'.heap[w.heap.size]? =some fo∧W'.heap[PF]? =some (flowO n R0 R1)∧OwnW W' (w.heap.size+2) (.slice (some ⟨R0,0,none⟩) n n) n inn∧OwnW W' (w.heap.size+2) (.slice (some ⟨R1,0,none⟩) n n) n out∧(∀j,j<kA→TabL W' (w.heap.size+2) (gs j) (atN bs j) 0 (atL bs j))∧Below w.heap.size w W':=by
 have ht:∀q,S q→OtherTy W 3 q:=fun q e=>(hs q e).2.2.1
 refine⟨(hc.block _ (lt_of_heap h.fn) fun e=>by have:=(hs _ e).1;omega).trans h.fn,(hc.block _ (lt_of_heap h.fl) fun e=>(hs _ e).2.1 rfl).trans h.fl,⟨ownsRow_chg h.inn.1 hc fun q e hS=>?_,h.inn.2⟩,⟨ownsRow_chg h.out.1 hc fun q e hS=>?_,h.out.2⟩,fun j hj=>(h.tb j hj).chg hc (fun e=>(hs _ e).2.2.2.2.2 j hj rfl) ht,?_⟩
 ·simp only[Value.ownBlock,Option.some.injEq] at e;exact(hs q hS).2.2.2.1 e
 ·simp only[Value.ownBlock,Option.some.injEq] at e;exact(hs q hS).2.2.2.2.1 e
 ·exact⟨hc.os.trans h.b.os,hc.tape.trans h.b.tape,hc.output.trans h.b.output,Nat.le_trans h.b.size hc.size,fun k hk=>(hc.block k (Nat.lt_of_lt_of_le hk h.b.size) fun e=>by have:=(hs k e).1;omega).trans (h.b.block k hk)⟩
theorem ty_ne{W:World}{a b:Nat}{o o':Obj}(h1:W.heap[a]? =some o)(h2:W.heap[b]? =some o')(h:o≠o'):a≠b:=fun e=>by
 rw[e,h2] at h1
 cases h1
 exact h rfl
theorem ownW_ty{B R:Nat}{I:Nat→Nat}(h:OwnW W B (.slice (some ⟨R,0,none⟩) n n) n I):∃cs f,W.heap[R]? =some (.cells cs 120 f):=own_ty h.1 rfl
theorem LfJ.sets(h:LfJ w fo bs n R0 R1 PF inn out vI vO vA gs kI kO kA W):(PF≠w.heap.size+1∧R0≠w.heap.size+1∧R1≠w.heap.size+1∧OtherTy W 3 (w.heap.size+1)∧∀j,j<kA→gs j≠w.heap.size+1)∧
  ∀q cs t f,W.heap[q]? =some (.cells cs t f)→(t=22∨t=88)→q≠PF∧OtherTy W 3 q∧R0≠q∧R1≠q∧q≠w.heap.size+1:=by
 have key:∀{a b:Nat} {cs cs':Array Value} {t t':TypeId} {f f':Nat×Nat},W.heap[a]? =some (.cells cs t f)→W.heap[b]? =some (.cells cs' t' f')→t≠t'→a≠b:=fun h1 h2 hne=>ty_ne h1 h2 fun e=>by cases e;exact hne rfl
 obtain⟨c0,f0,h0⟩:=ownW_ty h.inn
 obtain⟨c1,f1,h1⟩:=ownW_ty h.out
 refine⟨⟨key h.fl h.lv (by decide),key h0 h.lv (by decide),key h1 h.lv (by decide),OtherTy.of h.lv (by decide),fun j hj=>?_⟩,fun q cs t f hq ht=>?_⟩
 ·obtain⟨us,h5,_⟩:=h.tb j hj;exact key h5 h.lv (by decide)
 ·rcases ht with rfl|rfl
  ·exact⟨key hq h.fl (by decide),OtherTy.of hq (by decide),key h0 hq (by decide),key h1 hq (by decide),key hq h.lv (by decide)⟩
  ·exact⟨key hq h.fl (by decide),OtherTy.of hq (by decide),key h0 hq (by decide),key h1 hq (by decide),key hq h.lv (by decide)⟩
theorem grown_box(W:World)(b o:Nat)(u:Value):Chg (fun j=>j=b) W (W.setCell ⟨b,o,none⟩ u):=(Chg.refl (fun j=>j=b) W).setCell (p:=⟨b,o,none⟩) (.inl rfl) u
theorem LfJ.pushI{W1:World}{v':Value}(h:LfJ w fo bs n R0 R1 PF inn out vI vO vA gs kI kO kA W)(hg:W.grownBy W1 vI.ownBlock)(hl:ListsIn W1 (w.heap.size+2) v' (famL (kI+1) (vInL bs)))(hb:∀q,v'.ownBlock=some q→vI.ownBlock=some q∨W.heap.size≤q):
  LfJ w fo bs n R0 R1 PF inn out v' vO vA gs (kI+1) kO kA (W1.setCell ⟨w.heap.size+1,0,none⟩ v')∧W1.heap[w.heap.size+1]? =some (liveO vI vO vA):=by
 obtain⟨⟨s1,s2,s3,s4,s5⟩,s6⟩:=h.sets
 have hI:∀q,vI.ownBlock=some q→w.heap.size+2≤q∧q≠PF∧OtherTy W 3 q∧R0≠q∧R1≠q∧OtherTy W 88 q:=fun q e=>by
  obtain⟨h1,h2,cs,f,h3⟩:=h.gI.lt e;obtain⟨a1,a2,a3,a4,_⟩:=s6 q cs _ f h3 (.inl rfl);exact⟨h1,a1,a2,a3,a4,OtherTy.of h3 (by decide)⟩
 have hc1:Chg (fun j=>j=w.heap.size+1∨vI.ownBlock=some j) W W1:=(Chg.refl _ W).grown hg fun k e=>.inl (.inr e)
 have hc:Chg (fun j=>j=w.heap.size+1∨vI.ownBlock=some j) W (W1.setCell ⟨w.heap.size+1,0,none⟩ v'):=hc1.trans ((grown_box W1 _ 0 v').mono fun k e=>.inl e)
 have hlv:W1.heap[w.heap.size+1]? =some (liveO vI vO vA):=(hg.block _ (lt_of_heap h.lv) fun e=>by have:=(hI _ e.symm).1;omega).trans h.lv
 obtain⟨p1,p2,p3,p4,p5,p6⟩:=h.chg hc fun q e=>by
  rcases e with e|e
  ·subst e;exact⟨Nat.le_refl _,s1.symm,s4,s2,s3,s5⟩
  ·obtain⟨a1,a2,a3,a4,a5,_⟩:=hI q e;exact⟨by omega,a2,a3,a4,a5,fun j hj e2=>h.apI j hj (by rw[e,e2])⟩
 refine⟨⟨p1,?_,p2,p3,p4,?_,h.gO.chg hc (fun q e hS=>?_) (fun q hS=>?_),ownsRow_chg h.gA hc (fun q e hS=>?_),p5,fun j hj e=>?_,h.apO,fun q e e2=>?_,p6⟩,hlv⟩
 ·rw[heap_setCell_same _ _ _ _ _ _ hlv];rfl
 ·refine hl.chg (grown_box W1 _ 0 v') (fun q e hS=>?_) fun q hS=>?_
  ·have:=(hl.lt e).1;omega
  ·subst hS;exact OtherTy.of hlv (by decide)
 ·rcases hS with hS|hS
  ·have:=(h.gO.lt e).1;omega
  ·exact h.apIO q hS e
 ·rcases hS with hS|hS
  ·subst hS;exact s4
  ·exact(hI q hS).2.2.1
 ·rcases hS with hS|hS
  ·have:=(h.gA.lt q e).1;omega
  ·exact own_ne_ty h.gA (hI q hS).2.2.2.2.2 e
 ·rcases hb _ e with h1|h1
  ·exact h.apI j hj h1
  ·obtain⟨us,h5,_⟩:=h.tb j hj;have:=lt_of_heap h5;omega
 ·rcases hb q e with h1|h1
  ·exact h.apIO q h1 e2
  ·have:=(h.gO.lt e2).2.1;omega
theorem LfJ.pushO{W1:World}{v':Value}(h:LfJ w fo bs n R0 R1 PF inn out vI vO vA gs kI kO kA W)(hg:W.grownBy W1 vO.ownBlock)(hl:ListsIn W1 (w.heap.size+2) v' (famL (kO+1) (vOutL bs)))(hb:∀q,v'.ownBlock=some q→vO.ownBlock=some q∨W.heap.size≤q):
  LfJ w fo bs n R0 R1 PF inn out vI v' vA gs kI (kO+1) kA (W1.setCell ⟨w.heap.size+1,1,none⟩ v')∧W1.heap[w.heap.size+1]? =some (liveO vI vO vA):=by
 obtain⟨⟨s1,s2,s3,s4,s5⟩,s6⟩:=h.sets
 have hI:∀q,vO.ownBlock=some q→w.heap.size+2≤q∧q≠PF∧OtherTy W 3 q∧R0≠q∧R1≠q∧OtherTy W 88 q:=fun q e=>by
  obtain⟨h1,h2,cs,f,h3⟩:=h.gO.lt e;obtain⟨a1,a2,a3,a4,_⟩:=s6 q cs _ f h3 (.inl rfl);exact⟨h1,a1,a2,a3,a4,OtherTy.of h3 (by decide)⟩
 have hc1:Chg (fun j=>j=w.heap.size+1∨vO.ownBlock=some j) W W1:=(Chg.refl _ W).grown hg fun k e=>.inl (.inr e)
 have hc:Chg (fun j=>j=w.heap.size+1∨vO.ownBlock=some j) W (W1.setCell ⟨w.heap.size+1,1,none⟩ v'):=hc1.trans ((grown_box W1 _ 1 v').mono fun k e=>.inl e)
 have hlv:W1.heap[w.heap.size+1]? =some (liveO vI vO vA):=(hg.block _ (lt_of_heap h.lv) fun e=>by have:=(hI _ e.symm).1;omega).trans h.lv
 obtain⟨p1,p2,p3,p4,p5,p6⟩:=h.chg hc fun q e=>by
  rcases e with e|e
  ·subst e;exact⟨Nat.le_refl _,s1.symm,s4,s2,s3,s5⟩
  ·obtain⟨a1,a2,a3,a4,a5,_⟩:=hI q e;exact⟨by omega,a2,a3,a4,a5,fun j hj e2=>h.apO j hj (by rw[e,e2])⟩
 refine⟨⟨p1,?_,p2,p3,p4,h.gI.chg hc (fun q e hS=>?_) (fun q hS=>?_),?_,ownsRow_chg h.gA hc (fun q e hS=>?_),p5,h.apI,fun j hj e=>?_,fun q e e2=>?_,p6⟩,hlv⟩
 ·rw[heap_setCell_same _ _ _ _ _ _ hlv];rfl
 ·rcases hS with hS|hS
  ·have:=(h.gI.lt e).1;omega
  ·exact h.apIO q e hS
 ·rcases hS with hS|hS
  ·subst hS;exact s4
  ·exact(hI q hS).2.2.1
 ·refine hl.chg (grown_box W1 _ 1 v') (fun q e hS=>?_) fun q hS=>?_
  ·have:=(hl.lt e).1;omega
  ·subst hS;exact OtherTy.of hlv (by decide)
 ·rcases hS with hS|hS
  ·have:=(h.gA.lt q e).1;omega
  ·exact own_ne_ty h.gA (hI q hS).2.2.2.2.2 e
 ·rcases hb _ e with h1|h1
  ·exact h.apO j hj h1
  ·obtain⟨us,h5,_⟩:=h.tb j hj;have:=lt_of_heap h5;omega
 ·rcases hb q e2 with h1|h1
  ·exact h.apIO q e h1
  ·have:=(h.gI.lt e).2.1;omega
theorem LfJ.pushA{W1:World}{v':Value}{g:Nat}(h:LfJ w fo bs n R0 R1 PF inn out vI vO vA gs kI kO kA W)(hg:W.grownBy W1 vA.ownBlock)(hl:W1.ownsRow (w.heap.size+2) 88 1 v' (kA+1) (famL (kA+1) (tabV (fun j=>if j=kA then g else gs j) bs)))
  (ht:TabL W (w.heap.size+2) g (atN bs kA) 0 (atL bs kA)) (hI:vI.ownBlock≠some g) (hO:vO.ownBlock≠some g) (hg2:w.heap.size+2≤g):
  LfJ w fo bs n R0 R1 PF inn out vI vO v' (fun j=>if j=kA then g else gs j) kI kO (kA+1) (W1.setCell ⟨w.heap.size+1,2,none⟩ v')∧W1.heap[w.heap.size+1]? =some (liveO vI vO vA):=by
 obtain⟨⟨s1,s2,s3,s4,s5⟩,s6⟩:=h.sets
 have hA:∀q,vA.ownBlock=some q→w.heap.size+2≤q∧q≠PF∧OtherTy W 3 q∧R0≠q∧R1≠q∧OtherTy W 22 q:=fun q e=>by
  obtain⟨cs,f,h3⟩:=own_ty h.gA e;obtain⟨a1,a2,a3,a4,_⟩:=s6 q cs _ f h3 (.inr rfl);exact⟨(h.gA.lt q e).1,a1,a2,a3,a4,OtherTy.of h3 (by decide)⟩
 have hc1:Chg (fun j=>j=w.heap.size+1∨vA.ownBlock=some j) W W1:=(Chg.refl _ W).grown hg fun k e=>.inl (.inr e)
 have hc:Chg (fun j=>j=w.heap.size+1∨vA.ownBlock=some j) W (W1.setCell ⟨w.heap.size+1,2,none⟩ v'):=hc1.trans ((grown_box W1 _ 2 v').mono fun k e=>.inl e)
 have hlv:W1.heap[w.heap.size+1]? =some (liveO vI vO vA):=(hg.block _ (lt_of_heap h.lv) fun e=>by have:=(hA _ e.symm).1;omega).trans h.lv
 have tabs:∀j,j<kA+1→TabL W (w.heap.size+2) (if j=kA then g else gs j) (atN bs j) 0 (atL bs j):=fun j hj=>by
  by_cases e:j=kA
  ·subst e;rw[if_pos rfl];exact ht
  ·rw[if_neg e];exact h.tb j (by omega)
 have tt:∀q,(q=w.heap.size+1∨vA.ownBlock=some q)→OtherTy W 3 q:=fun q hS=>by
  rcases hS with hS|hS
  ·subst hS;exact s4
  ·exact(hA q hS).2.2.1
 obtain⟨p1,p2,p3,p4,_,p6⟩:=h.chg hc fun q e=>by
  rcases e with e|e
  ·subst e;exact⟨Nat.le_refl _,s1.symm,s4,s2,s3,s5⟩
  ·obtain⟨a1,a2,a3,a4,a5,a6⟩:=hA q e;refine⟨by omega,a2,a3,a4,a5,fun j hj e2=>?_⟩;obtain⟨us,h5,_⟩:=h.tb j hj;rw[e2] at h5;exact a6 _ _ h5
 refine⟨⟨p1,?_,p2,p3,p4,h.gI.chg hc (fun q e hS=>?_) tt,h.gO.chg hc (fun q e hS=>?_) tt,ownsRow_chg hl (grown_box W1 _ 2 v') (fun q e hS=>?_),fun j hj=>(tabs j hj).chg hc (fun hS=>?_) tt,fun j hj e=>?_,fun j hj e=>?_,h.apIO,p6⟩,hlv⟩
 ·rw[heap_setCell_same _ _ _ _ _ _ hlv];rfl
 ·rcases hS with hS|hS
  ·have:=(h.gI.lt e).1;omega
  ·obtain⟨_,_,cs,f,h3⟩:=h.gI.lt e;exact(hA q hS).2.2.2.2.2 _ _ h3
 ·rcases hS with hS|hS
  ·have:=(h.gO.lt e).1;omega
  ·obtain⟨_,_,cs,f,h3⟩:=h.gO.lt e;exact(hA q hS).2.2.2.2.2 _ _ h3
 ·have:=(hl.lt q e).1;omega
 ·obtain⟨us,h5,_⟩:=tabs j hj;rcases hS with hS|hS
  ·by_cases e:j=kA
   ·rw[if_pos e] at hS;omega
   ·rw[if_neg e] at hS;exact s5 j (by omega) hS
  ·exact(hA _ hS).2.2.2.2.2 _ _ h5
 ·by_cases e2:j=kA
  ·rw[if_pos e2] at e;exact hI e
  ·rw[if_neg e2] at e;exact h.apI j (by omega) e
 ·by_cases e2:j=kA
  ·rw[if_pos e2] at e;exact hO e
  ·rw[if_neg e2] at e;exact h.apO j (by omega) e
theorem LfJ.fill{g o:Nat}{u:Value}(h:LfJ w fo bs n R0 R1 PF inn out vI vO vA gs kI kO kA W)(hg:∃cs f,W.heap[g]? =some (.cells cs 22 f))(hg2:w.heap.size+2≤g)(hI:vI.ownBlock≠some g)(hO:vO.ownBlock≠some g)(hgs:∀j,j<kA→gs j≠g):LfJ w fo bs n R0 R1 PF inn out vI vO vA gs kI kO kA (W.setCell ⟨g,o,none⟩ u):=by
 obtain⟨cs,f,hg⟩:=hg
 obtain⟨a1,a2,a3,a4,_⟩:=h.sets.2 g cs _ f hg (.inl rfl)
 refine h.keep (row:=some g) ⟨rfl,rfl,rfl,by simp,fun k _ hne=>Below.heap_setCell _ _ _ _ (by simpa using fun e=>hne (by rw[e]))⟩ fun q e=>?_
 cases e
 exact⟨hg2,a1,a2,OtherTy.of hg (by decide),a3,a4,hI,hO,hgs⟩
end
end

section
open Go.RowKit
theorem lentInfoI:(Tryz.prog.info? 3).map (fun i=>(i.zero,i.size,i.bytes))=some (some (.int .i64 0),1,8):=by kernel_rfl
def marks:List Int:=(List.range 12).map fun(i:Nat)=>markV 1 (i:Int)
theorem marks_len:marks.length=12:=by simp[marks]
theorem marks_at(k:Nat)(h:k<12):marks.getD k 0=markV 1 (k:Int):=by simp[marks,List.getD,h]
def lentVals(xs:List Int):List Value:=xs.map (Value.int .i64)
theorem lentVals_len(xs:List Int):(lentVals xs).length=xs.length:=by simp[lentVals]
theorem lentVals_one(xs:List Int):∀u∈lentVals xs,u.oneCell'=true:=by
 intro u hu
 simp only[lentVals,List.mem_map] at hu
 obtain⟨x,_,rfl⟩:=hu
 rfl
def Lent(w:World)(base:Nat)(v:Value)(xs:List Int):Prop:=
 ∃g cap,v=.slice (some ⟨g,0,none⟩) xs.length cap∧w.ownsRow base 3 1 (.slice (some ⟨g,0,none⟩) (xs.length+12) cap) (xs.length+12) (lentVals (xs++marks))
def LentPost(w:World)(xs:List Int)(e:Ending)(w':World):Prop:=∃v,e=.returned v∧Lent w' w.heap.size v xs∧Below w.heap.size w w'
theorem Lent.ext{w w':World}{base:Nat}{v:Value}{xs:List Int}(h:Lent w base v xs)(hb:Below w.heap.size w w'):Lent w' base v xs:=by
 obtain⟨g,cap,rfl,hown⟩:=h
 exact⟨g,cap,rfl,(Steady.ownsRow w.heap.size _ _ _ _ _ _).ext hown hb⟩
theorem Lent.cells{w:World}{base:Nat}{v:Value}{xs:List Int}(h:Lent w base v xs):∃g cap,v=.slice (some ⟨g,0,none⟩) xs.length cap∧xs.length+12≤cap∧cap≤maxLen∧
  (∀k,k<xs.length→w.cell? ⟨g,k,none⟩=some (.int .i64 (xs.getD k 0)))∧(∀k,k<12→w.cell? ⟨g,xs.length+k,none⟩=some (.int .i64 (markV 1 (k:Int)))):=by
 obtain⟨g,cap,rfl,hown⟩:=h
 have hadd:∀k,(⟨g,0,none⟩:Addr).add k=⟨g,k,none⟩:=fun k=>by unfold Addr.add;split<;>simp_all
 have hc:xs.length+12≤cap∧cap≤maxLen:=by
  rcases hown.2 with ⟨h0,_⟩|⟨g',cap',cur,hv,_,_,h1,h2,_⟩
  ·cases h0
  ·injection hv with _ _ hcc;subst hcc;exact⟨h1,h2⟩
 refine⟨g,cap,rfl,hc.1,hc.2,fun k hk=>?_,fun k hk=>?_⟩
 ·have:=hown.cells (g:=g) rfl k (.int .i64 (xs.getD k 0)) (by rw[lentVals,List.map_append,List.getElem?_append_left (by simpa using hk)];simp[List.getD,hk])
  rwa [hadd] at this
 ·have:=hown.cells (g:=g) rfl (xs.length+k) (.int .i64 (marks.getD k 0)) (by
   have hk':k<marks.length:=by rw[marks_len];exact hk
   simp[lentVals,List.getElem?_append_right,List.getD,hk'])
  rw[marks_at k hk,hadd] at this;exact this
theorem lentInts_any(a:Option Addr)(n c:Nat)(xs:List Int)(w:World)(h:Ints w a n xs)(hn:n≤1000000):
  Calls Tryz.prog 5 #[.slice a n c] w (LentPost w xs):=by
 obtain⟨i0,hi,hz0,hz1,hz2⟩:=info_parts (P:=Tryz.prog) lentInfoI
 have HL:=Lib.hid h.1
 have H:=Lib.hid h
 clear h
 go_enter Tryz.func5,Tryz.ntmps5
 go_wp2_with (first
  |(at_make
    refine wpList_make_own _ rfl _ _ 22 rfl w.heap.size 3 i0 (.int .i64 0) 1 Tryz.underlying22 hi hz0 hz1 .i64 .i64 _ (n+12) rfl rfl (by omega) (by rw[hz2];omega) (by simp only[maxLen];omega) (Nat.le_refl _) ?_;intro w1 hown1 hg1;have HO1:=Lib.hid hown1;have HB1:Hid (Below w.heap.size w w1):=(Below.refl _ _).grown hg1 (Nat.le_refl _) (by simp)
    clear hown1 hg1)
  |(at_builtin
    refine wpList_appendS _ rfl (.tmp 9) (.tmp 10) 22 3 rfl w.heap.size (.int .i64 0) 8 Tryz.underlying22 lentInfoI rfl _ 0 [] rfl HO1.out a n c rfl (lentVals xs) (by rw[lentVals_len,HL.out]) (by
     intro j u hu;have hj:j<n:=by
      have:=(List.getElem?_eq_some_iff.1 hu).1
      rwa [lentVals_len,HL.out] at this
     obtain⟨b,o,rfl,hc,_⟩:=(H.out.ext HB1.out).2.2 j hj;refine⟨_,rfl,?_⟩;have hadd:(⟨b,o,none⟩:Addr).add j=⟨b,o+j,none⟩:=by unfold Addr.add;split<;>simp_all
     rw[hadd,hc];have hj':j<xs.length:=by rw[HL.out];exact hj
     simp[lentVals,hj'] at hu
     simp[List.getD,hj',hu]) (lentVals_one xs) (by simp only[maxLen];omega) (by omega) HB1.out.size ?_
    intro v2 w2 hown2 hg2 hat2;have HO2:=Lib.hid hown2;have HB2:Hid (Below w.heap.size w w2):=HB1.out.grown hg2 HB1.out.size (fun k e=>(HO1.out.lt k e).1)
    clear hown2 hg2 hat2))
 have HO3:Hid (w2.ownsRow w.heap.size 3 1 v2 (n+0) (lentVals (xs++marks.take 0))):=by
  have:=HO2.out;rw[Hid];simpa using this
 clear HO2 HO1 HB1
 go_loopw [3,4] (fun v i wr=>∃(k:Nat),k≤12∧i=.int .i64 k∧Hid (wr.ownsRow w.heap.size 3 1 v (n+k) (lentVals (xs++marks.take k)))∧Hid (Below w.heap.size w wr)) (fun _ i _=>12-(intOf i).toNat)
 case atStart=>exact⟨0,by omega,rfl,HO3,HB2⟩
 case round=>
  clear HO3 HB2;obtain⟨k,hk,rfl,HO,HB⟩:=hrel;by_cases hlt:k<12
  ·have HS:Hid (lentVals (xs++marks.take (k+1))=lentVals (xs++marks.take k)++ [.int .i64 (markV 1 (k:Int))]):=by
    rw[Hid,takeS marks k 0 (by rw[marks_len];exact hlt),marks_at k hlt,←List.append_assoc,lentVals,List.map_append];rfl
   go_wp2_with (first
    |(go_at_call 16;refine(mark_any _ _ _ (by omega) (by omega)).mono ?_;rintro e w' ⟨rfl,rfl⟩)
    |(at_builtin
      refine wpList_append1 rfl wr (.tmp 16) (.tmp 19) 22 3 rfl w.heap.size _ 1 8 Tryz.underlying22 lentInfoI rfl (by omega) u3 (n+k) _ [.int .i64 (markV 1 (k:Int))] rfl HO.out wr.heap.size rfl rfl rfl (by simp[Value.oneCell']) (by simp only[maxLen];omega) (by omega) HB.out.size ?_;intro g cap w2 hown2 hg2 hat2;have HO2:Hid (w2.ownsRow w.heap.size 3 1 (.slice (some ⟨g,0,none⟩) (n+k+1) cap) (n+k+1) (lentVals (xs++marks.take (k+1)))):=by rw[Hid,HS.out];exact hown2
      have HB2:Hid (Below w.heap.size w w2):=HB.out.grown hg2 HB.out.size (fun j e=>(HO.out.lt j e).1)
      clear hown2 hat2 hg2))
   go_roundw
   case rel=>exact⟨k+1,by omega,by go_num,HO2,HB2⟩
   case measure=>simp[intOf];omega
  ·obtain rfl:k=12:=by omega
   have hown:=HO.out;have hform:∃g cap,u3=.slice (some ⟨g,0,none⟩) (n+12) cap∧n+12≤cap∧cap≤maxLen:=by
    rcases hown.2 with ⟨_,h0⟩|⟨g',cap',cur,hv,_,_,h1,h2,_⟩
    ·omega
    ·exact⟨_,_,hv,h1,h2⟩
   obtain⟨g,cap,rfl,hc1,hc2⟩:=hform;clear hown;unfold maxLen at hc2;go_wp2
   go_ret
   refine⟨_,rfl,⟨g,cap,by rw[HL.out];rfl,?_⟩,HB.out⟩;have:=HO.out;rw[HL.out];rw[List.take_of_length_le (by rw[marks_len];omega)] at this;exact this
theorem quiet_add_left{P:Program}{f:FuncId}{args:Array Value}{w:World}{a n:Nat}{v:Value}
  (h:Calls P f args (w.drewN (a+n)) fun e w'=>e=.returned v∧w.drewN (a+n)=w'):
  Calls P f args (w.drewN (a+n)) fun e w''=>e=.returned v∧∃m,w''=w.drewN (a+m):=
 h.mono fun _ _ ⟨he,hm⟩=>⟨he,n,hm.symm⟩
theorem keptInts_any(base:Nat)(v:Value)(a:Option Addr)(n c:Nat)(xs:List Int)(w:World)(hL:Lent w base v xs)(h:Ints w a n xs)(hn:n≤1000000):
  Calls Tryz.prog 11 #[v,.slice a n c] w fun e w'=>e=.returned (.bool true)∧∃q,w'=w.drewN q:=by
 obtain⟨g,cap,rfl,hc1,hc2,hx,hm⟩:=hL.cells
 obtain⟨hl,_,hc⟩:=h
 rw[hl] at hc1 hx hm⊢
 have HX:=Lib.hid hx
 have HM:=Lib.hid hm
 have HC:=Lib.hid hc
 clear hx hm hc hL hl
 unfold maxLen at hc2
 have b0:((n:Int) != (n:Int))=false:=by simp
 go_enter Tryz.func11,Tryz.ntmps11
 go_wp2
 go_loopw [6] (fun i wr=>∃(k q:Nat),k≤n+12∧i=.int .i64 k∧wr=w.drewN q) (fun i _=>n+12-(intOf i).toNat)
 case atStart=>exact⟨0,0,by omega,rfl,rfl⟩
 case round=>
  obtain⟨k,q,hk,rfl,rfl⟩:=hrel;by_cases hlt:k<n+12
  ·by_cases hkn:k<n
   ·obtain⟨b,o,rfl,hcell,_⟩:=HC.out k hkn;have hcell':=HX.out k hkn;have d1:decide (k<n)=true:=by simpa using hkn
    have d2:decide (n≤k)=false:=by simp;omega
    generalize xs.getD k 0=x at *;go_wp2
    go_quiet (fail)
    go_wp2
    go_roundw
    case rel=>exact⟨k+1,_,by omega,by go_num,rfl⟩
    case measure=>simp[intOf];omega
   ·obtain⟨j,rfl⟩:∃j,k=n+j:=⟨k-n,by omega⟩
    have hcell':=HM.out j (by omega);have hj:j<12:=by omega
    have d1:decide (n+j<n)=false:=by simp
    have d2:decide (n≤n+j)=true:=by simp
    have d3:decide ((n:Int)+(j:Int)<(n:Int))=false:=by simp;omega
    have d4:decide ((n:Int)≤(n:Int)+(j:Int))=true:=by simp;omega
    have d5:IntKind.i64.wrap ((n:Int)+(j:Int)-(n:Int))=(j:Int):=by rw[IntKind.wrap_i64];omega
    clear hkn;go_wp2
    go_quiet ((go_at_call 16;exact quiet_add_left (mark_any 1 (j:Int) _ (by omega) (by omega))))
    go_wp2
    go_roundw
    case rel=>exact⟨n+j+1,_,by omega,by go_num,rfl⟩
    case measure=>simp[intOf];omega
  ·go_wp2
   go_ret
   exact⟨rfl,_,rfl⟩
end

section
open Go.RowKit
theorem Lent.mono{w:World}{base base':Nat}{v:Value}{xs:List Int}(h:Lent w base v xs)(hb:base'≤base):Lent w base' v xs:=by
 obtain⟨g,cap,rfl,hown⟩:=h
 exact⟨g,cap,rfl,hown.mono hb⟩
section
variable {α:Type} (cs:α→List Value) (size:Nat) (ty:TypeId) (LX:World→Nat→α→α→Prop) (mk:Nat→α)
end
section
variable {α:Type} {cs:α→List Value} {size:Nat} {ty:TypeId} {LX:World→Nat→α→α→Prop} {mk:Nat→α} {tys:List TypeId}
end
end

section
open Go.RowKit
theorem rightE_zero{ps:List Int}{bs:List BlkR}(h:rightE ps bs=0):longB ps.length bs.length (hOf bs)=false∧irWholeB ps bs=true∧toIn bs=true:=by
 unfold rightE at h
 split at h
 ·cases h
 ·rename_i h1
  split at h
  ·cases h
  ·rename_i h2
   split at h
   ·cases h
   ·rename_i h3
    refine⟨by simpa using h1,by simpa using h2,?_⟩;cases hx:toIn bs with
    |true=>rfl
    |false=>rw[hx] at h3;simp at h3
abbrev nilS:Value:=.slice none 0 0
abbrev rowN(n:Nat):Obj:=.cells (arrN n fun _=>nilS) 22 (0,0)
theorem nil_made(n:Nat):madeCells #[nilS] n=arrN n fun _=>nilS:=by
 apply Array.ext_getElem?
 intro j
 by_cases hj:j<n
 ·simp[madeCells,arrN,hj,Nat.mod_one]
 ·rw[Array.getElem?_eq_none (by simp[madeCells];omega),Array.getElem?_eq_none (by simp[arrN];omega)]
theorem infoSI:(Tryz.prog.info? 22).map (fun i=>(i.zero,i.size,i.bytes))=some (some nilS,1,24):=by kernel_rfl
theorem infoSS:(Tryz.prog.info? 88).map (fun i=>(i.zero,i.size,i.bytes))=some (some nilS,1,24):=by kernel_rfl
theorem make_SI(n:Nat)(hn:n≤1000000)(w:World):(Instr.makeSlice 88 (.int .i64 (n:Int)) (.int .i64 (n:Int))).run Tryz.prog w=.ok (.slice (some ⟨w.heap.size,0,none⟩) n n) (w.alloc (rowN n)):=by
 have:=run_make_row' (P:=Tryz.prog) 88 22 nilS 24 Tryz.underlying88 infoSI rfl .i64 .i64 n (by omega) (by omega) w
 rwa [nil_made] at this
section
variable {p:Nat→Nat→Int→Bool} {u:Nat} {D:Nat→Nat→Bool}
end
section
variable {w:World} {fo:Obj} {n R0 R1 R2 PL A0:Nat} {m:Nat→Nat} {xs:Nat→Nat→List Int} {W W':World}
theorem grown_tr'{a b c:World}{row:Option Nat}(h:a.grownBy b row)(k:b.grownBy c row):a.grownBy c row:=
 ⟨k.os.trans h.os,k.tape.trans h.tape,k.output.trans h.output,Nat.le_trans h.size k.size,fun j hj hn=>(k.block j (Nat.lt_of_lt_of_le hj h.size) hn).trans (h.block j hj hn)⟩
theorem grown_drew'(w:World)(row:Option Nat):w.grownBy w.drew row:=⟨rfl,rfl,rfl,Nat.le_refl _,fun _ _ _=>rfl⟩
end
section
variable {w:World} {fo:Obj} {n R0 R1 R2 PL A0:Nat} {m:Nat→Nat} {k:Nat} {W:World}
end
end

section
open Go.RowKit
theorem point_var(x:BlkR)(i:Nat){v:Int}(h:withinL ((bkL x).ops.drop i) (bkL x).nd v=1):1≤v∧v≤200:=by
 have:=bksL_vars [{x with rs:=x.rs.drop i}] 0 (by simp[bksL_len]) v
 refine this ?_
 rw[bksL_at (b:={x with rs:=x.rs.drop i}) (by rfl),←h]
 show withinL ((x.rs.drop i).map fun r=>(⟨readsI r.d,definesV r.d⟩:OpL)) _ _=withinL ((x.rs.map fun r=>(⟨readsI r.d,definesV r.d⟩:OpL)).drop i) _ _
 rw[List.map_drop]
 rfl
theorem live_lists{bs:List BlkR}{inn out:Nat→Nat}(hl:LivOK (bksL bs) inn out)(he:LivEnd (bksL bs) inn out)(hti:toIn bs=true){k:Nat}{x:BlkR}(hx:bs[k]? =some x):
  intsN (bitsL 1024 (inn k))=vInL (bksL bs) k∧intsN (bitsL 1024 (out k))=vOutL (bksL bs) k∧∀i,intsN (bitsL 1024 (pointN x.h.t (out k) (x.rs.drop i)))=atL (bksL bs) k i:=by
 have hto:=toIn_ok hti
 have hvr:=bksL_vars bs
 have hk:k<(bksL bs).length:=by rw[bksL_len];exact(List.getElem?_eq_some_iff.1 hx).1
 have hd:=fun(j:Nat) (hj:j<1024)=>hl.done hto he.1 he.2 hj hk
 have hbk:bkOf (bksL bs) k=bkL x:=bksL_at hx
 have hov:∀j:Nat,NeedOut (bksL bs) (j:Int) k→1≤(j:Int)∧(j:Int)≤200:=fun j ⟨c,hc,h⟩=>needIn_var hvr hto (hto k hk c hc) h
 have hob:∀j:Nat,j<1024→bitF (out k) (j:Int)=vOutB (bksL bs) (j:Int) k:=fun j hj=>by
  rw[bitF_nat,Bool.eq_iff_iff,vOutB_iff hto _ hk];exact(hd j hj).2
 refine⟨vars_bits fun j hj=>?_,vars_bits fun j hj=>?_,fun i=>vars_bits fun j hj=>?_⟩
 ·rw[(hd j hj).1,needB_iff hto _ hk];exact⟨fun h=>by have:=needIn_var hvr hto hk h;exact⟨by omega,by omega,h⟩,fun h=>h.2.2⟩
 ·rw[(hd j hj).2,vOutB_iff hto _ hk];exact⟨fun h=>by have:=hov j h;exact⟨by omega,by omega,h⟩,fun h=>h.2.2⟩
 ·have e:(pointN x.h.t (out k) (x.rs.drop i)).testBit j=atP (bksL bs) k i (j:Int):=by
   rw[pointN_bit _ _ _ hj,List.map_drop,atP,hbk];show aheadL ((bkL x).ops.drop i) (bkL x).nd _ _=_;rw[ahead_within,ahead_within,hob j hj]
  rw[e];refine⟨fun h=>?_,fun h=>h.2.2⟩;have h1:=h;rw[atP,ahead_within,hbk] at h1;simp only[Bool.or_eq_true,Bool.and_eq_true,decide_eq_true_eq] at h1;rcases h1 with h1|h1
  ·have:=point_var x i h1;exact⟨by omega,by omega,h⟩
  ·have:=hov j ((vOutB_iff hto _ hk).1 h1.2);exact⟨by omega,by omega,h⟩
section
variable {w:World} {fo:Obj} {bs:List BkL} {n R0 R1 PF:Nat} {inn out:Nat→Nat} {vI vO vA:Value} {gs:Nat→Nat} {kI kO kA:Nat} {W W':World} {row:Option Nat}
theorem LfJ.ia(h:LfJ w fo bs n R0 R1 PF inn out vI vO vA gs kI kO kA W):∀q,vI.ownBlock=some q→w.heap.size+2≤q∧q≠PF∧R0≠q∧R1≠q:=fun q e=>by
 obtain⟨h1,_,cs,f,h3⟩:=h.gI.lt e
 obtain⟨a1,_,a3,a4,_⟩:=h.sets.2 q cs _ f h3 (.inl rfl)
 exact⟨h1,a1,a3,a4⟩
theorem LfJ.oa(h:LfJ w fo bs n R0 R1 PF inn out vI vO vA gs kI kO kA W):∀q,vO.ownBlock=some q→w.heap.size+2≤q∧q≠PF∧R0≠q∧R1≠q:=fun q e=>by
 obtain⟨h1,_,cs,f,h3⟩:=h.gO.lt e
 obtain⟨a1,_,a3,a4,_⟩:=h.sets.2 q cs _ f h3 (.inl rfl)
 exact⟨h1,a1,a3,a4⟩
theorem LfJ.cls(h:LfJ w fo bs n R0 R1 PF inn out vI vO vA gs kI kO kA W)(hr:∀q,row=some q→w.heap.size+2≤q∧q≠PF∧R0≠q∧R1≠q)(hg:W.grownBy W' row):
  W'.heap[w.heap.size+1]? =some (liveO vI vO vA)∧W'.heap[PF]? =some (flowO n R0 R1)∧OwnW W' (w.heap.size+2) (.slice (some ⟨R0,0,none⟩) n n) n inn∧OwnW W' (w.heap.size+2) (.slice (some ⟨R1,0,none⟩) n n) n out:=
 ⟨(hg.block _ (lt_of_heap h.lv) fun e=>by have:=(hr _ e.symm).1;omega).trans h.lv,(hg.block _ (lt_of_heap h.fl) fun e=>(hr _ e.symm).2.1 rfl).trans h.fl,
   OwnR.kept h.inn hg (ne_opt fun q e he=>by simp only[Value.ownBlock,Option.some.injEq] at he;exact(hr q e).2.2.1 he),OwnR.kept h.out hg (ne_opt fun q e he=>by simp only[Value.ownBlock,Option.some.injEq] at he;exact(hr q e).2.2.2 he)⟩
end
theorem keep_ownR{W W':World}{base:Nat}{e:TypeId}{size:Nat}{v:Value}{n:Nat}{xs:List Value}(h:W.ownsRow base e size v n xs)(hg:W.grownBy W' v.ownBlock):Keep W W':=fun k o hk hb=>
 (hg.block k (lt_of_heap hk) fun e=>by
   obtain⟨cs,f,h3⟩:=own_ty h e.symm;rw[h3] at hk;cases hk
   cases hb).trans hk
theorem famL_snoc{α:Type}(n:Nat)(f:Nat→α):famL n f++ [f n]=famL (n+1) f:=by simp[famL,List.range_succ]
theorem famL_congr{α:Type}{n:Nat}{f g:Nat→α}(h:∀k,k<n→f k=g k):famL n f=famL n g:=by
 unfold famL
 exact List.map_congr_left fun k hk=>h k (List.mem_range.1 hk)
theorem own_slice{W:World}{base:Nat}{e:TypeId}{size:Nat}{v:Value}{n:Nat}{xs:List Value}(h:W.ownsRow base e size v n xs):∃a c,v=.slice a n c:=by
 rcases h.2 with ⟨rfl,h0⟩|⟨g,cap,cur,rfl,_⟩
 ·exact⟨none,0,by rw[h0]⟩
 ·exact⟨_,cap,rfl⟩
section
variable {w:World} {fo:Obj} {bs:List BkL} {n R0 R1 PF:Nat} {inn out:Nat→Nat} {vI vO vA:Value} {gs:Nat→Nat} {kI kO kA:Nat} {W W':World}
theorem book_ty{W:World}{q:Nat}{o:Obj}(hq:W.heap[q]? =some o)(ho:isBook o=true):∀cs t f,W.heap[q]?≠some (.cells cs t f):=fun cs t f e=>by
 rw[hq] at e
 cases e
 cases ho
theorem LfJ.steady{B:Nat}(hB:w.heap.size+2≤B):Steady B (LfJ w fo bs n R0 R1 PF inn out vI vO vA gs kI kO kA):=fun W V row h hg hr=>
 h.keep hg fun q e=>by
  obtain⟨h2,o,h3,h4⟩:=hr q e;have hb:=book_ty h3 h4;refine⟨by omega,fun e2=>?_,fun cs f=>hb cs _ f,fun cs f=>hb cs _ f,fun e2=>?_,fun e2=>?_,fun e2=>?_,fun e2=>?_,fun j hj e2=>?_⟩
  ·subst e2;exact hb _ _ _ h.fl
  ·obtain⟨cs,f,h5⟩:=ownW_ty h.inn;subst e2;exact hb _ _ _ h5
  ·obtain⟨cs,f,h5⟩:=ownW_ty h.out;subst e2;exact hb _ _ _ h5
  ·obtain⟨_,_,cs,f,h5⟩:=h.gI.lt e2;exact hb _ _ _ h5
  ·obtain⟨_,_,cs,f,h5⟩:=h.gO.lt e2;exact hb _ _ _ h5
  ·obtain⟨us,h5,_⟩:=h.tb j hj;subst e2;exact hb _ _ _ h5
theorem LfJ.post{ai ao aA:Option Addr}{ci co cA:Nat}(h:LfJ w fo bs n R0 R1 PF inn out (.slice ai n ci) (.slice ao n co) (.slice aA n cA) gs n n n W):LiveR W bs n ⟨ai,ci,ao,co,aA,cA⟩:=by
 refine⟨?_,?_,fun j hj=>?_⟩
 ·have:=h.gI.at_ (f:=vInL bs) fun k hk=>famL_at (by rwa [famL_len] at hk)
  rwa [famL_len] at this
 ·have:=h.gO.at_ (f:=vOutL bs) fun k hk=>famL_at (by rwa [famL_len] at hk)
  rwa [famL_len] at this
 ·obtain⟨g,c',e⟩:∃g c',(Value.slice aA n cA)=.slice (some ⟨g,0,none⟩) n c':=own_form h.gA (by omega);injection e with e _ _;subst e;refine⟨g,0,some ⟨gs j,0,none⟩,atN bs j,rfl,?_,(h.tb j hj).at_⟩;have:=World.ownsRow.cellAt h.gA j (by omega);rw[Nat.zero_add,this,famL_at hj];rfl
end
structure LfJt(w:World)(fo:Obj)(bs:List BkL)(n R0 R1 PF:Nat)(inn out:Nat→Nat)(vI vO vA:Value)(gs:Nat→Nat)(k:Nat)(x:BlkR)(TG P7 S0 hi:Nat)(ds:List Deferred)(m:Nat)(W:World):Prop where
 f:LfJ w fo bs n R0 R1 PF inn out vI vO vA gs (k+1) (k+1) k W
 t:TabL W (w.heap.size+2) TG (x.h.n+1) m (atL bs k)
 p7:W.heap[P7]? =some (.cells #[.slice (some ⟨TG,0,none⟩) (x.h.n+1) (x.h.n+1)] 88 (0,0))
 s0:W.heap[S0]? =some (blkO x.h)
 s1:W.heap[S0+1]? =some (bsO (out k))
 ma:Marks (w.heap.size+2) hi ds W
section
variable {w:World} {fo:Obj} {bs:List BkL} {n R0 R1 PF:Nat} {inn out:Nat→Nat} {vI vO vA:Value} {gs:Nat→Nat} {k:Nat} {x:BlkR} {TG P7 S0 hi m:Nat} {ds:List Deferred} {W W':World} {row:Option Nat}
theorem LfJt.steadyO{B:Nat}(hf:isOw fo=false)(hB:w.heap.size+2≤B)(h0:R0<B)(h1:R1<B)(hp:PF<B)(ht:TG<B)(hh:hi≤B)(hs:S0+1<B):SteadyO B (LfJt w fo bs n R0 R1 PF inn out vI vO vA gs k x TG P7 S0 hi ds m):=fun W V row h hg hr=>by
 refine⟨LfJ.steadyO hf hB h0 h1 hp W V row h.f hg hr,h.t.kept hg (fun e=>by have:=(hr _ e).1;omega) fun q e=>?_,block_keepO h.p7 rfl hg hr,block_keepO h.s0 rfl hg hr,SteadyO.low hs _ W V row h.s1 hg hr,?_⟩
 ·obtain⟨_,o,h3,h4⟩:=hr q e;exact(isOw_ty h3 h4).1
 ·obtain⟨Ds,e,hn,hD⟩:=h.ma;refine⟨Ds,e,hn,fun D hm=>⟨(hD D hm).1,(hD D hm).2.1,?_⟩⟩;have h2:=(hD D hm).2.2;refine(hg.block D (lt_of_heap h2) fun e=>?_).trans h2;have h3:=(hr D e.symm).1;have h4:=(hD D hm).2.1;omega
theorem LfJt.ext(h:LfJt w fo bs n R0 R1 PF inn out vI vO vA gs k x TG P7 S0 hi ds m W)(hb:Below W.heap.size W W'):LfJt w fo bs n R0 R1 PF inn out vI vO vA gs k x TG P7 S0 hi ds m W':=
 ⟨h.f.ext hb,h.t.ext hb,block_ext hb h.p7,block_ext hb h.s0,block_ext hb h.s1,h.ma.keep (Keep.ext hb)⟩
theorem LfJt.put(h:LfJt w fo bs n R0 R1 PF inn out vI vO vA gs k x TG P7 S0 hi ds (m+1) W)(hm:m<x.h.n+1)(hg2:w.heap.size+2≤TG)(hI:vI.ownBlock≠some TG)(hO:vO.ownBlock≠some TG)(hgs:∀j,j<k→gs j≠TG)(hT:TG≠P7∧TG≠S0∧TG≠S0+1){u:Value}(hu:OwnI W (w.heap.size+2) u (atL bs k m)):
  LfJt w fo bs n R0 R1 PF inn out vI vO vA gs k x TG P7 S0 hi ds m (W.setCell ⟨TG,m,none⟩ u)∧W.frozen? ⟨TG,m,none⟩=false∧(∃z,W.cell? ⟨TG,m,none⟩=some z)∧TG<W.heap.size:=by
 obtain⟨t1,t2,t3⟩:=h.t.put hm hu
 obtain⟨us,h5,_⟩:=h.t
 refine⟨⟨h.f.fill ⟨_,_,h5⟩ hg2 hI hO hgs,t1,?_,?_,?_,h.ma.keep (Keep.setCell _ _ _)⟩,t2,t3,lt_of_heap h5⟩
 ·rw[Below.heap_setCell _ _ _ _ (by simpa using fun e=>hT.1 e.symm)];exact h.p7
 ·rw[Below.heap_setCell _ _ _ _ (by simpa using fun e=>hT.2.1 e.symm)];exact h.s0
 ·rw[Below.heap_setCell _ _ _ _ (by simpa using fun e=>hT.2.2 e.symm)];exact h.s1
end
theorem LfJ.start{w:World}{fo:Obj}{bs:List BkL}{n R0 R1 PF:Nat}{inn out:Nat→Nat}{W:World}(h1:W.heap[w.heap.size]? =some fo)(h2:W.heap[w.heap.size+1]? =some (liveO nilS nilS nilS))(h3:W.heap[PF]? =some (flowO n R0 R1))
  (h4:OwnW W (w.heap.size+2) (.slice (some ⟨R0,0,none⟩) n n) n inn) (h5:OwnW W (w.heap.size+2) (.slice (some ⟨R1,0,none⟩) n n) n out) (hb:Below w.heap.size w W):LfJ w fo bs n R0 R1 PF inn out nilS nilS nilS (fun _=>0) 0 0 0 W:=
 ⟨h1,h2,h3,h4,h5,ListsIn.nil _ _,ListsIn.nil _ _,World.ownsRow_nil _ _ _ _,fun j hj=>absurd hj (by omega),fun j hj=>absurd hj (by omega),fun j hj=>absurd hj (by omega),fun q e=>(by cases e),hb⟩
end

section
open Go.RowKit Go.Shelf
attribute [local go_sem] Oper.semAt_some wide_fn wide_depth wide_fnR wide_depthR
theorem bitsL_len(n S:Nat):(bitsL n S).length≤n:=by
 have:=List.length_filter_le S.testBit (List.range n)
 simpa[bitsL] using this
def AJB(w:World)(S:Nat)(xs:List Int)(W:World):Prop:=
 ∃v,W.heap[w.heap.size+1]? =some (.cells #[v] 22 (0,0))∧OwnI W (w.heap.size+3) v xs∧W.heap[w.heap.size+1+1]? =some (bsO S)∧Below w.heap.size w W
theorem AJB.steady{w:World}{S:Nat}{xs:List Int}{D:Nat}(hD:w.heap.size≤D):Steady D (AJB w S xs):=by
 unfold AJB
 exact Steady.ex fun v=>(Steady.block _ _ rfl).and ((Steady.ownI _ _ _ _).and ((Steady.block _ _ rfl).and (Steady.below (Nat.le_refl _) hD)))
theorem bList_any(S:Nat)(w:World)(hT:Tab w):Calls Tryz.prog 46 #[.agg (setW S)] w (IntsPost w (intsN (bitsL 1024 S))):=by
 refine(callsIn_wide (n:=0)).1 ?_
 refine callsIn_of_wp_marks Tryz.func46 rfl trivial ?_
 simp only[Tryz.ntmps46,List.size_toArray,List.length_cons,List.length_nil,Nat.reduceAdd,Nat.reduceSub,Array.replicate_succ,Array.replicate_zero,List.push_toArray,List.append_toArray,List.nil_append,List.cons_append]
 obtain⟨W0,hW0⟩:∃W0,W0=(w.alloc (bsO S)).alloc (.cells #[.slice none 0 0] 22 (0,0)):=⟨_,rfl⟩
 have hb0:W0.heap[w.heap.size]? =some (bsO S):=by rw[hW0,Below.heap_alloc _ _ _ (by simp)];exact heap_alloc_new _ _
 have hb1:W0.heap[w.heap.size+1]? =some (.cells #[.slice none 0 0] 22 (0,0)):=by
  rw[hW0];have:=heap_alloc_new (w.alloc (bsO S)) (.cells #[.slice none 0 0] 22 (0,0));simpa using this
 have hB0:Below w.heap.size w W0:=by rw[hW0];exact((Below.refl _ w).alloc (Nat.le_refl _) _).alloc (by simp) _
 have hs0:W0.heap.size=w.heap.size+1+1:=by rw[hW0];simp
 obtain⟨W1,hW1⟩:∃W1,W1=W0.alloc (bsO S):=⟨_,rfl⟩
 have h11:W1.heap[w.heap.size+1]? =some (.cells #[.slice none 0 0] 22 (0,0)):=by rw[hW1,Below.heap_alloc _ _ _ (by omega)];exact hb1
 have h12:W1.heap[w.heap.size+1+1]? =some (bsO S):=by rw[hW1,←hs0];exact heap_alloc_new _ _
 have hB1:Below w.heap.size w W1:=by rw[hW1];exact hB0.alloc (by omega) _
 have hs1:W1.heap.size=w.heap.size+3:=by rw[hW1];simp[hs0]
 have HT:=Lib.hid hT
 have HW0:=Lib.hid hW0
 have HW1:=Lib.hid hW1
 have HS0:=Lib.hid hs0
 have HB0:=Lib.hid hb0
 have H11:=Lib.hid h11
 have H12:=Lib.hid h12
 have HBB:=Lib.hid hB1
 have HS1:=Lib.hid hs1
 clear hT hW0 hW1 hb0 hb1 hB0 hs0 h11 h12 hB1 hs1
 gi_wp2_with (first
  |(rw[←HW0.out];refine wpListIn_load_rowG rfl 120 _ rfl w.heap.size rfl 120 _ (0,0) _ HB0.out Tryz.underlying120 rfl (by rw[setW_size];exact size_bset) ?_)
  |(gi_at_call 76
    refine(callsIn_wide.2 (bEach_any S W0)).mono ?_;rw[←HW1.out,HS0.out]
    rintro e w2 ⟨rfl,rfl⟩))
 refine range_list (ps:=#[6]) (gf:=118) (lb:=#[.pointer (some ⟨w.heap.size+1+1,0,none⟩)]) (enc:=encN) (l:=bitsL 1024 S) rfl enter_bEach _ (bEach_iterI S (w.heap.size+1+1)) (fun _=>rfl)
  (fun d r W=>Hid (AJB w S (intsN d) W))
  (fun _ _=>False)
  (fun d r=>AJB.steady (by rw[HS1.out];omega)) (fun c=>Steady.pure _ _) (fun d r W h=>by obtain⟨v,_,_,h3,hb⟩:=h.out;exact⟨h3,HT.out.ext hb⟩) ?start ?round ?done ?stop
 case start=>exact⟨_,H11.out,OwnI.nil _ _,H12.out,HBB.out⟩
 case round=>
  rintro lp d x r W hd hJ;unfold encN
  gi_wp2
  refine⟨Keep.refl _,hJ,?_⟩;clear hJ lp W;rintro lp W hJ;obtain⟨v,hv,ho,hbx,hb⟩:=hJ.out;obtain⟨av,cv,rfl⟩:=ho.form;have hc0:W.cell? ⟨w.heap.size+1,0,none⟩=some (.slice av (intsN d).length cv):=by rw[cell_of_row _ _ _ _ _ _ hv];rfl
  have hf0:W.frozen? ⟨w.heap.size+1,0,none⟩=false:=frozen_of_row _ _ _ _ _ hv;have HO:=Lib.hid ho;have HV:=Lib.hid hv;have HB:=Lib.hid hb;have HBX:=Lib.hid hbx;have hws:w.heap.size+3≤W.heap.size:=by have:=(Array.getElem?_eq_some_iff.1 hbx).1;omega
  have hlen:(intsN d).length≤1000000:=by
   have h1:=bitsL_len 1024 S;rw[hd] at h1;simp[intsN] at h1⊢;omega
  clear hv ho hb hJ hbx
  gi_wp2_with (
   (gi_at_builtin
    refine listIn_of (by repeat (first|exact noOut_round|refine noOut_then ?_|refine noOut_block ?_)) _ _ _ rfl ?_;refine wpList_append1 rfl W (.tmp 7) (.tmp 9) 22 3 rfl (w.heap.size+3) _ 1 8 Tryz.underlying22 infoI rfl (by omega) (.slice av (intsN d).length cv) (intsN d).length _ [.int .i64 (x:Int)] rfl HO.out.1 W.heap.size rfl rfl rfl (by simp[Value.oneCell']) (by simp only[maxLen];omega) (by omega) (by omega) ?_;intro g cap w2 hown2 hg2 hat2;have HO2:=Lib.hid hown2;have HG2:=Lib.hid hg2;have HA2:=Lib.hid hat2;have hv2:=grown_row hg2 HV.out (fun e=>by have:=(HO.out.1.lt _ e).1;omega);have hx2:=grown_row hg2 HBX.out (fun e=>by have:=(HO.out.1.lt _ e).1;omega);have hc2:w2.cell? ⟨w.heap.size+1,0,none⟩=some (.slice av (intsN d).length cv):=(by rw[cell_of_row _ _ _ _ _ _ hv2];rfl)
    have hf2:w2.frozen? ⟨w.heap.size+1,0,none⟩=false:=frozen_of_row _ _ _ _ _ hv2;have hlt2:w.heap.size+1<w2.heap.size:=(Array.getElem?_eq_some_iff.1 hv2).1;have HV2:=Lib.hid hv2;have HX2:=Lib.hid hx2
    clear hown2 hg2 hat2 hv2 hx2 hc0 hf0))
  go_wp2;have hb2:Below w.heap.size w w2:=HB.out.grown HG2.out HB.out.size (fun k e=>by have:=(HO.out.1.lt k e).1;omega);have hgb:w.heap.size+3≤g:=by
   rcases HA2.out with h|h
   ·exact(HO.out.1.lt g h.symm).1
   ·omega
  have hd2:intsN (d++ [x])=intsN d++ [(x:Int)]:=by simp[intsN]
  have hx3:(w2.setCell ⟨w.heap.size+1,0,none⟩ (.slice (some ⟨g,0,none⟩) ((intsN d).length+1) cap)).heap[w.heap.size+1+1]? =some (bsO S):=by rw[Below.heap_setCell _ _ _ _ (by simp)];exact HX2.out
  refine⟨(Keep.grown HG2.out (own_nobook HO.out.1)).trans (Keep.setCell _ _ _),?_⟩;refine⟨_,by have:=heap_setCell_same w2 (w.heap.size+1) 0 _ _ (.slice (some ⟨g,0,none⟩) ((intsN d).length+1) cap) HV2.out;simpa using this,?_,hx3,?_⟩
  ·rw[hd2];refine OwnI.kept (row:=some (w.heap.size+1)) (w:=w2) ⟨?_,?_,by simp;omega⟩ (grown_setCell w2 (w.heap.size+1) 0 _) (.inr (by simp[Value.ownBlock];omega))
   ·have:=HO2.out;simpa[intVals] using this
   ·intro z hz;rcases List.mem_append.1 hz with h|h
    ·exact HO.out.2.1 z h
    ·simp only[List.mem_singleton] at h;subst h;have h2:x∈bitsL 1024 S:=by rw[hd];simp
     have:=(bits_mem.1 h2).1;unfold I64;omega
  ·exact hb2.setCell (by simp) _
 case done=>
  rintro D W hD hJ hK;obtain⟨v,hv,ho,hbx,hb⟩:=hJ.out;obtain⟨av,cv,rfl⟩:=ho.form;have hc0:W.cell? ⟨w.heap.size+1,0,none⟩=some (.slice av (intsN (bitsL 1024 S)).length cv):=by rw[cell_of_row _ _ _ _ _ _ hv];rfl
  have hf0:W.frozen? ⟨w.heap.size+1,0,none⟩=false:=frozen_of_row _ _ _ _ _ hv;have hDl:w.heap.size+3≤D:=by have:=HS1.out;omega
  have hv2:(W.setCell ⟨w.heap.size+1,0,none⟩ (.slice av (intsN (bitsL 1024 S)).length cv)).heap[w.heap.size+1]? =some (.cells #[.slice av (intsN (bitsL 1024 S)).length cv] 22 (0,0)):=by
   have:=heap_setCell_same W (w.heap.size+1) 0 _ _ (.slice av (intsN (bitsL 1024 S)).length cv) hv;simpa using this
  have hJ2:AJB w S (intsN (bitsL 1024 S)) (W.setCell ⟨w.heap.size+1,0,none⟩ (.slice av (intsN (bitsL 1024 S)).length cv)):=by
   refine⟨_,hv2,ho.kept (grown_setCell W (w.heap.size+1) 0 _) ?_,?_,hb.setCell (by simp) _⟩
   ·cases ha:(Value.slice av (intsN (bitsL 1024 S)).length cv).ownBlock with
    |none=>exact .inl rfl
    |some q=>exact .inr (by have:=(ho.1.lt q ha).1;simp;omega)
   ·rw[Below.heap_setCell _ _ _ _ (by simp)];exact hbx
  have hK2:(W.setCell ⟨w.heap.size+1,0,none⟩ (.slice av (intsN (bitsL 1024 S)).length cv)).heap[D]? =some (.deferred (some [])):=by
   rw[Below.heap_setCell _ _ _ _ (by simp;omega)];exact hK
  obtain⟨v4,hv4,ho4,_,hb4⟩:=(AJB.steady (w:=w) (S:=S) (xs:=intsN (bitsL 1024 S)) (D:=w.heap.size) (Nat.le_refl _)).put (.deferred none) (l:=D) hJ2 (by omega) hK2 rfl;have HV4:=Lib.hid hv4;have HO4:=Lib.hid ho4;have HB4:=Lib.hid hb4;have HK2:=Lib.hid hK2;clear hv ho hb hJ hbx hv2 hJ2 hK2 hv4 ho4 hb4 hK
  gi_wp2
  refine⟨by simp,.inl ⟨_,_,rfl,run_takeDeferred HK2.out,?_⟩⟩;have hc4:((W.setCell ⟨w.heap.size+1,0,none⟩ (.slice av (intsN (bitsL 1024 S)).length cv)).putObj D (.deferred none)).cell? ⟨w.heap.size+1,0,none⟩=some v4:=by rw[cell_of_row _ _ _ _ _ _ HV4.out];rfl
  exact⟨v4,by simp[results,Tryz.results46,go_sem,hc4],_,rfl,HO4.out.mono (by omega),HB4.out⟩
 case stop=>rintro D c W hD h;exact h.elim
end
end Go.Proofs.YtnmkjliioogbgaaGreatDoor
