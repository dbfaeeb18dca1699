/-
 Slices of slices of ints that a call makes:what lies where while they grow.
-/
import Derived.Test.YthgebcfohnlhlaaGreatDoorED
import Derived.Test.YthgebcfohnlhlaaGreatDoorSK
import Derived.Test.YthgebcfohnlhlaaGreatDoorUH
import Derived.Test.YthgebcfohnlhlaaGreatDoorMark
import Derived.Test.YthgebcfohnlhlaaGreatDoorRows2
import Derived.Test.YthgebcfohnlhlaaGreatDoorPA
namespace Go.Proofs.YthgebcfohnlhlaaGreatDoor
set_option linter.unusedSimpArgs false
set_option linter.unusedVariables false
set_option linter.unusedSectionVars false
set_option maxRecDepth 100000
set_option maxHeartbeats 40000000
section
open Go.RowKit
def OtherTy(W:World)(e:TypeId)(q:Nat):Prop:=∀cs f,W.heap[q]?≠some (.cells cs e f)
theorem OtherTy.of{W:World}{e t:TypeId}{q:Nat}{cs:Array Value}{f:Nat×Nat}(h:W.heap[q]? =some (.cells cs t f))(hne:t≠e):OtherTy W e q:=fun cs' f' hx=>by
 rw[h] at hx
 cases hx
 exact hne rfl
theorem own_ne_ty{w:World}{base:Nat}{e:TypeId}{size:Nat}{v:Value}{n q:Nat}{xs:List Value}(h:w.ownsRow base e size v n xs)(hq:OtherTy w e q):v.ownBlock≠some q:=by
 intro hv
 rcases h.2 with ⟨rfl,_⟩|⟨g,cap,cur,rfl,_,hg,_⟩
 ·cases hv
 ·simp only[Value.ownBlock,Option.some.injEq] at hv;subst hv;exact hq _ _ hg
theorem own_kept_ty{W W':World}{base:Nat}{e:TypeId}{size:Nat}{v:Value}{n:Nat}{xs:List Value}{row:Option Nat}(h:W.ownsRow base e size v n xs)(hg:W.grownBy W' row)(hr:∀q,row=some q→OtherTy W e q):W'.ownsRow base e size v n xs:=by
 refine h.kept hg ?_
 cases hv:v.ownBlock with
 |none=>exact .inl rfl
 |some q=>exact .inr fun e=>own_ne_ty h (hr q e.symm) hv
theorem OwnI.keptT{W W':World}{base:Nat}{v:Value}{xs:List Int}{row:Option Nat}(h:OwnI W base v xs)(hg:W.grownBy W' row)(hr:∀q,row=some q→OtherTy W 3 q):OwnI W' base v xs:=⟨own_kept_ty h.1 hg hr,h.2⟩
theorem own_ty{W:World}{base:Nat}{e:TypeId}{size:Nat}{v:Value}{n q:Nat}{xs:List Value}(h:W.ownsRow base e size v n xs)(hv:v.ownBlock=some q):∃cs f,W.heap[q]? =some (.cells cs e f):=by
 rcases h.2 with ⟨rfl,_⟩|⟨g,cap,cur,rfl,_,hg,_⟩
 ·cases hv
 ·simp only[Value.ownBlock,Option.some.injEq] at hv;subst hv;exact⟨_,_,hg⟩
def ListsIn(W:World)(B:Nat)(v:Value)(xs:List (List Int)):Prop:=
 ∃us:List Value,us.length=xs.length∧W.ownsRow B 22 1 v us.length us∧(∀u∈us,u.oneCell'=true)∧∀(j:Nat) (u:Value) (x:List Int),us[j]? =some u→xs[j]? =some x→OwnI W B u x
section
variable {W W':World} {B:Nat} {v:Value} {xs:List (List Int)} {row:Option Nat}
theorem ListsIn.nil(W:World)(B:Nat):ListsIn W B (.slice none 0 0) []:=⟨[],rfl,World.ownsRow_nil _ _ _ _,fun u h=>(by cases h),fun j u x h=>by simp at h⟩
theorem ListsIn.kept(h:ListsIn W B v xs)(hg:W.grownBy W' row)(hne:v.ownBlock=none∨v.ownBlock≠row)(hr:∀q,row=some q→OtherTy W 3 q):ListsIn W' B v xs:=
 let ⟨us,h1,h2,h3,h4⟩:=h
 ⟨us,h1,h2.kept hg hne,h3,fun j u x hu hx=>(h4 j u x hu hx).keptT hg hr⟩
theorem OwnI.chgT{S:Nat→Prop}{u:Value}{ys:List Int}(h:OwnI W B u ys)(hc:Chg S W W')(ht:∀q,S q→OtherTy W 3 q):OwnI W' B u ys:=⟨ownsRow_chg h.1 hc fun q e hS=>own_ne_ty h.1 (ht q hS) e,h.2⟩
theorem ListsIn.chg{S:Nat→Prop}(h:ListsIn W B v xs)(hc:Chg S W W')(hv:∀q,v.ownBlock=some q→¬S q)(ht:∀q,S q→OtherTy W 3 q):ListsIn W' B v xs:=
 let ⟨us,h1,h2,h3,h4⟩:=h
 ⟨us,h1,ownsRow_chg h2 hc hv,h3,fun j u x hu hx=>(h4 j u x hu hx).chgT hc ht⟩
theorem ListsIn.lt(h:ListsIn W B v xs){q:Nat}(hq:v.ownBlock=some q):B≤q∧q<W.heap.size∧∃cs f,W.heap[q]? =some (.cells cs 22 f):=
 let ⟨us,_,h2,_⟩:=h
 ⟨(h2.lt q hq).1,(h2.lt q hq).2,own_ty h2 hq⟩
theorem ListsIn.form(h:ListsIn W B v xs):∃a c,v=.slice a xs.length c:=by
 obtain⟨us,h1,h2,_⟩:=h
 rcases h2.2 with ⟨rfl,h0⟩|⟨g,cap,cur,rfl,_⟩
 ·exact⟨none,0,by rw[←h1,h0]⟩
 ·exact⟨_,cap,by rw[h1]⟩
theorem ListsIn.own(h:ListsIn W B v xs):∃us:List Value,us.length=xs.length∧W.ownsRow B 22 1 v xs.length us∧(∀q,v.ownBlock=some q→OtherTy W 3 q)∧
  ∀(W':World) (g cap:Nat) (u:Value) (x:List Int),W'.ownsRow B 22 1 (.slice (some ⟨g,0,none⟩) (xs.length+1) cap) (xs.length+1) (us++ [u])→W.grownBy W' v.ownBlock→u.oneCell'=true→OwnI W' B u x→ListsIn W' B (.slice (some ⟨g,0,none⟩) (xs.length+1) cap) (xs++ [x]):=by
 obtain⟨us,h1,h2,h3,h4⟩:=h
 have ht:∀q,v.ownBlock=some q→OtherTy W 3 q:=fun q hq=>let ⟨cs,f,e⟩:=own_ty h2 hq;OtherTy.of e (by decide)
 refine⟨us,h1,by rw[←h1];exact h2,ht,fun W' g cap u x hw hg hu hx=>⟨us++ [u],by simp[h1],?_,?_,fun j u' x' hju hjx=>?_⟩⟩
 ·rw[List.length_append,h1];exact hw
 ·intro u' hu';rcases List.mem_append.1 hu' with h|h
  ·exact h3 u' h
  ·rw[List.mem_singleton] at h;rw[h];exact hu
 ·by_cases hj:j<us.length
  ·rw[List.getElem?_append_left hj] at hju;rw[List.getElem?_append_left (by omega)] at hjx;exact(h4 j u' x' hju hjx).keptT hg ht
  ·have hl:=(List.getElem?_eq_some_iff.1 hju).1;rw[List.length_append] at hl;have e:j=us.length:=by simp at hl;omega
   subst e;rw[List.getElem?_append_right (Nat.le_refl _),Nat.sub_self] at hju;rw[h1,List.getElem?_append_right (Nat.le_refl _),Nat.sub_self] at hjx;simp at hju hjx;rw[←hju,←hjx];exact hx
theorem ListsIn.at_{a:Option Addr}{n c:Nat}(h:ListsIn W B (.slice a n c) xs){f:Nat→List Int}(hf:∀k,k<xs.length→xs[k]? =some (f k)):IntsAt W a xs.length f:=fun k hk=>by
 obtain⟨us,h1,h2,h3,h4⟩:=h
 obtain⟨u,hu⟩:∃u,us[k]? =some u:=⟨_,List.getElem?_eq_getElem (by omega)⟩
 have ho:=h4 k u (f k) hu (hf k hk)
 obtain⟨a2,c2,e2⟩:=ho.form
 rcases h2.2 with ⟨e,h0⟩|⟨g,cap,cur,e,_⟩
 ·omega
 ·injection e with e0 e1 e2';subst e0;refine⟨g,0,a2,c2,rfl,?_,by rw[e2] at ho;exact ho.ints⟩;subst e1 e2';have:=World.ownsRow.cellAt h2 k (by omega);rw[Nat.zero_add,this,hu,e2]
end
def TabL(W:World)(B g m lo:Nat)(f:Nat→List Int):Prop:=
 ∃us:Nat→Value,W.heap[g]? =some (.cells (arrN m us) 22 (0,0))∧∀i,lo≤i→i<m→OwnI W B (us i) (f i)
section
variable {W W':World} {B g m lo:Nat} {f:Nat→List Int} {row:Option Nat}
theorem TabL.kept(h:TabL W B g m lo f)(hg:W.grownBy W' row)(hne:row≠some g)(hr:∀q,row=some q→OtherTy W 3 q):TabL W' B g m lo f:=
 let ⟨us,h1,h2⟩:=h
 ⟨us,(hg.block g (Array.getElem?_eq_some_iff.1 h1).1 fun e=>hne e.symm).trans h1,fun i hi hm=>(h2 i hi hm).keptT hg hr⟩
theorem TabL.chg{S:Nat→Prop}(h:TabL W B g m lo f)(hc:Chg S W W')(hg:¬S g)(ht:∀q,S q→OtherTy W 3 q):TabL W' B g m lo f:=
 let ⟨us,h1,h2⟩:=h
 ⟨us,(hc.block g (Array.getElem?_eq_some_iff.1 h1).1 hg).trans h1,fun i hi hm=>(h2 i hi hm).chgT hc ht⟩
theorem TabL.ext(h:TabL W B g m lo f)(hb:Below W.heap.size W W'):TabL W' B g m lo f:=
 h.kept (row:=none) ⟨hb.os,hb.tape,hb.output,hb.size,fun k hk _=>hb.block k hk⟩ (by simp) (fun q e=>by cases e)
theorem TabL.put(h:TabL W B g m (lo+1) f)(hl:lo<m){u:Value}(hu:OwnI W B u (f lo)):TabL (W.setCell ⟨g,lo,none⟩ u) B g m lo f∧W.frozen? ⟨g,lo,none⟩=false∧(∃z,W.cell? ⟨g,lo,none⟩=some z):=by
 obtain⟨us,h1,h2⟩:=h
 have hg:W.grownBy (W.setCell ⟨g,lo,none⟩ u) (some g):=⟨rfl,rfl,rfl,by simp,fun k _ hne=>Below.heap_setCell _ _ _ _ (by simpa using fun e=>hne (by rw[e]))⟩
 have ho:∀q,some g=some q→OtherTy W 3 q:=fun q e=>by cases e;exact OtherTy.of h1 (by decide)
 refine⟨⟨fun j=>if j=lo then u else us j,?_,fun i hi hm=>?_⟩,frozen_of_row _ _ _ _ _ h1,⟨us lo,by rw[cell_of_row _ _ _ _ _ _ h1,arr_at _ _ _ hl]⟩⟩
 ·rw[heap_setCell_same _ _ _ _ _ _ h1];refine congrArg some (congrArg (fun x=>Obj.cells x _ _) (arr_put (by simp) fun j _ hj=>by simp[hj]))
 ·show OwnI _ B (if i=lo then u else us i) (f i);by_cases e:i=lo
  ·subst e;rw[if_pos rfl];exact hu.keptT hg ho
  ·rw[if_neg e];exact(h2 i (by omega) hm).keptT hg ho
theorem TabL.at_(h:TabL W B g m 0 f):IntsAt W (some ⟨g,0,none⟩) m f:=fun k hk=>by
 obtain⟨us,h1,h2⟩:=h
 have ho:=h2 k (Nat.zero_le _) hk
 obtain⟨a,c,e⟩:=ho.form
 refine⟨g,0,a,c,rfl,?_,by rw[e] at ho;exact ho.ints⟩
 rw[Nat.zero_add,cell_of_row _ _ _ _ _ _ h1,arr_at _ _ _ hk,e]
end
end

section
open Go.RowKit
theorem fill_endL{tm:Array Value}{ds:List Deferred}{m:Nat}{G:(Nat→Value)→List Deferred→Act}{R:Nat→(Nat→Value)→List Deferred→Prop}(h:(⟨tm,ds⟩:Act)=G (fun s=>tm.getD s undef) ds)(m':Nat)(hm:m'<m)(hR:R m' (fun s=>tm.getD s undef) ds):∃m',m'<m∧∃u' ds',(⟨tm,ds⟩:Act)=G u' ds'∧R m' u' ds':=⟨m',hm,_,_,h,hR⟩
abbrev liveO(a b c:Value):Obj:=.cells #[a,b,c] 93 (0,0)
def tabV(gs:Nat→Nat)(bs:List BkL)(j:Nat):Value:=.slice (some ⟨gs j,0,none⟩) (atN bs j) (atN bs j)
structure LfJ(w:World)(fo:Obj)(bs:List BkL)(n R0 R1 PF:Nat)(inn out:Nat→Nat)(vI vO vA:Value)(gs:Nat→Nat)(kI kO kA:Nat)(W:World):Prop where
 fn:W.heap[w.heap.size]? =some fo
 lv:W.heap[w.heap.size+1]? =some (liveO vI vO vA)
 fl:W.heap[PF]? =some (flowO n R0 R1)
 inn:OwnW W (w.heap.size+2) (.slice (some ⟨R0,0,none⟩) n n) n inn
 out:OwnW W (w.heap.size+2) (.slice (some ⟨R1,0,none⟩) n n) n out
 gI:ListsIn W (w.heap.size+2) vI (famL kI (vInL bs))
 gO:ListsIn W (w.heap.size+2) vO (famL kO (vOutL bs))
 gA:W.ownsRow (w.heap.size+2) 49 1 vA kA (famL kA (tabV gs bs))
 tb:∀j,j<kA→TabL W (w.heap.size+2) (gs j) (atN bs j) 0 (atL bs j)
 apI:∀j,j<kA→vI.ownBlock≠some (gs j)
 apO:∀j,j<kA→vO.ownBlock≠some (gs j)
 apIO:∀q,vI.ownBlock=some q→vO.ownBlock≠some q
 b:Below w.heap.size w W
section
variable {w:World} {fo:Obj} {bs:List BkL} {n R0 R1 PF:Nat} {inn out:Nat→Nat} {vI vO vA:Value} {gs:Nat→Nat} {kI kO kA:Nat} {W W':World} {row:Option Nat}
theorem ne_opt{v:Value}{row:Option Nat}(h:∀q,row=some q→v.ownBlock≠some q):v.ownBlock=none∨v.ownBlock≠row:=by
 cases hv:v.ownBlock with
 |none=>exact .inl rfl
 |some q=>exact .inr fun e=>h q e.symm hv
theorem LfJ.keep(h:LfJ w fo bs n R0 R1 PF inn out vI vO vA gs kI kO kA W)(hg:W.grownBy W' row)
  (hr:∀q,row=some q→w.heap.size+2≤q∧q≠PF∧OtherTy W 3 q∧OtherTy W 49 q∧R0≠q∧R1≠q∧vI.ownBlock≠some q∧vO.ownBlock≠some q∧∀j,j<kA→gs j≠q):LfJ w fo bs n R0 R1 PF inn out vI vO vA gs kI kO kA W':=by
 have ht:∀q,row=some q→OtherTy W 3 q:=fun q e=>(hr q e).2.2.1
 refine⟨(hg.block _ (lt_of_heap h.fn) fun e=>by have:=(hr _ e.symm).1;omega).trans h.fn,(hg.block _ (lt_of_heap h.lv) fun e=>by have:=(hr _ e.symm).1;omega).trans h.lv,(hg.block _ (lt_of_heap h.fl) fun e=>(hr _ e.symm).2.1 rfl).trans h.fl,
  OwnR.kept h.inn hg (ne_opt fun q e he=>by simp only[Value.ownBlock,Option.some.injEq] at he;exact(hr q e).2.2.2.2.1 he),OwnR.kept h.out hg (ne_opt fun q e he=>by simp only[Value.ownBlock,Option.some.injEq] at he;exact(hr q e).2.2.2.2.2.1 he),
  h.gI.kept hg (ne_opt fun q e=>(hr q e).2.2.2.2.2.2.1) ht,h.gO.kept hg (ne_opt fun q e=>(hr q e).2.2.2.2.2.2.2.1) ht,own_kept_ty h.gA hg fun q e=>(hr q e).2.2.2.1,fun j hj=>(h.tb j hj).kept hg (fun e=>(hr _ e).2.2.2.2.2.2.2.2 j hj rfl) ht,h.apI,h.apO,h.apIO,h.b.grown hg h.b.size fun q e=>by have:=(hr q e).1;omega⟩
theorem LfJ.ext(h:LfJ w fo bs n R0 R1 PF inn out vI vO vA gs kI kO kA W)(hb:Below W.heap.size W W'):LfJ w fo bs n R0 R1 PF inn out vI vO vA gs kI kO kA W':=
 h.keep (row:=none) ⟨hb.os,hb.tape,hb.output,hb.size,fun k hk _=>hb.block k hk⟩ (fun q e=>by cases e)
theorem isOw_ty{W:World}{q:Nat}{o:Obj}(hq:W.heap[q]? =some o)(ho:isOw o=true):OtherTy W 3 q∧OtherTy W 22 q∧OtherTy W 49 q:=by
 refine⟨fun cs f e=>?_,fun cs f e=>?_,fun cs f e=>?_⟩<;>(rw[hq] at e;cases e;simp[isOw,isBk,isBook,isIt,isVs] at ho)
theorem LfJ.steadyO{B:Nat}(hf:isOw fo=false)(hB:w.heap.size+2≤B)(h0:R0<B)(h1:R1<B)(hp:PF<B):SteadyO B (LfJ w fo bs n R0 R1 PF inn out vI vO vA gs kI kO kA):=fun W V row h hg hr=>
 h.keep hg fun q e=>by
  obtain⟨h2,o,h3,h4⟩:=hr q e;obtain⟨t1,t2,t3⟩:=isOw_ty h3 h4;refine⟨by omega,by omega,t1,t3,by omega,by omega,fun e2=>?_,fun e2=>?_,fun j hj e2=>?_⟩
  ·obtain⟨us,_,h5,_⟩:=h.gI;exact own_ne_ty h5 t2 e2
  ·obtain⟨us,_,h5,_⟩:=h.gO;exact own_ne_ty h5 t2 e2
  ·obtain⟨us,h5,_⟩:=h.tb j hj;rw[e2] at h5;exact t2 _ _ h5
theorem LfJ.chg{S:Nat→Prop}(h:LfJ w fo bs n R0 R1 PF inn out vI vO vA gs kI kO kA W)(hc:Chg S W W')(hs:∀q,S q→w.heap.size+1≤q∧q≠PF∧OtherTy W 3 q∧R0≠q∧R1≠q∧∀j,j<kA→gs j≠q):
  W'.heap[w.heap.size]? =some fo∧W'.heap[PF]? =some (flowO n R0 R1)∧OwnW W' (w.heap.size+2) (.slice (some ⟨R0,0,none⟩) n n) n inn∧OwnW W' (w.heap.size+2) (.slice (some ⟨R1,0,none⟩) n n) n out∧(∀j,j<kA→TabL W' (w.heap.size+2) (gs j) (atN bs j) 0 (atL bs j))∧Below w.heap.size w W':=by
 have ht:∀q,S q→OtherTy W 3 q:=fun q e=>(hs q e).2.2.1
 refine⟨(hc.block _ (lt_of_heap h.fn) fun e=>by have:=(hs _ e).1;omega).trans h.fn,(hc.block _ (lt_of_heap h.fl) fun e=>(hs _ e).2.1 rfl).trans h.fl,⟨ownsRow_chg h.inn.1 hc fun q e hS=>?_,h.inn.2⟩,⟨ownsRow_chg h.out.1 hc fun q e hS=>?_,h.out.2⟩,fun j hj=>(h.tb j hj).chg hc (fun e=>(hs _ e).2.2.2.2.2 j hj rfl) ht,?_⟩
 ·simp only[Value.ownBlock,Option.some.injEq] at e;exact(hs q hS).2.2.2.1 e
 ·simp only[Value.ownBlock,Option.some.injEq] at e;exact(hs q hS).2.2.2.2.1 e
 ·exact⟨hc.os.trans h.b.os,hc.tape.trans h.b.tape,hc.output.trans h.b.output,Nat.le_trans h.b.size hc.size,fun k hk=>(hc.block k (Nat.lt_of_lt_of_le hk h.b.size) fun e=>by have:=(hs k e).1;omega).trans (h.b.block k hk)⟩
theorem ty_ne{W:World}{a b:Nat}{o o':Obj}(h1:W.heap[a]? =some o)(h2:W.heap[b]? =some o')(h:o≠o'):a≠b:=fun e=>by
 rw[e,h2] at h1
 cases h1
 exact h rfl
theorem ownW_ty{B R:Nat}{I:Nat→Nat}(h:OwnW W B (.slice (some ⟨R,0,none⟩) n n) n I):∃cs f,W.heap[R]? =some (.cells cs 168 f):=own_ty h.1 rfl
theorem LfJ.sets(h:LfJ w fo bs n R0 R1 PF inn out vI vO vA gs kI kO kA W):(PF≠w.heap.size+1∧R0≠w.heap.size+1∧R1≠w.heap.size+1∧OtherTy W 3 (w.heap.size+1)∧∀j,j<kA→gs j≠w.heap.size+1)∧
  ∀q cs t f,W.heap[q]? =some (.cells cs t f)→(t=22∨t=49)→q≠PF∧OtherTy W 3 q∧R0≠q∧R1≠q∧q≠w.heap.size+1:=by
 have key:∀{a b:Nat} {cs cs':Array Value} {t t':TypeId} {f f':Nat×Nat},W.heap[a]? =some (.cells cs t f)→W.heap[b]? =some (.cells cs' t' f')→t≠t'→a≠b:=fun h1 h2 hne=>ty_ne h1 h2 fun e=>by cases e;exact hne rfl
 obtain⟨c0,f0,h0⟩:=ownW_ty h.inn
 obtain⟨c1,f1,h1⟩:=ownW_ty h.out
 refine⟨⟨key h.fl h.lv (by decide),key h0 h.lv (by decide),key h1 h.lv (by decide),OtherTy.of h.lv (by decide),fun j hj=>?_⟩,fun q cs t f hq ht=>?_⟩
 ·obtain⟨us,h5,_⟩:=h.tb j hj;exact key h5 h.lv (by decide)
 ·rcases ht with rfl|rfl
  ·exact⟨key hq h.fl (by decide),OtherTy.of hq (by decide),key h0 hq (by decide),key h1 hq (by decide),key hq h.lv (by decide)⟩
  ·exact⟨key hq h.fl (by decide),OtherTy.of hq (by decide),key h0 hq (by decide),key h1 hq (by decide),key hq h.lv (by decide)⟩
theorem grown_box(W:World)(b o:Nat)(u:Value):Chg (fun j=>j=b) W (W.setCell ⟨b,o,none⟩ u):=(Chg.refl (fun j=>j=b) W).setCell (p:=⟨b,o,none⟩) (.inl rfl) u
theorem LfJ.pushI{W1:World}{v':Value}(h:LfJ w fo bs n R0 R1 PF inn out vI vO vA gs kI kO kA W)(hg:W.grownBy W1 vI.ownBlock)(hl:ListsIn W1 (w.heap.size+2) v' (famL (kI+1) (vInL bs)))(hb:∀q,v'.ownBlock=some q→vI.ownBlock=some q∨W.heap.size≤q):
  LfJ w fo bs n R0 R1 PF inn out v' vO vA gs (kI+1) kO kA (W1.setCell ⟨w.heap.size+1,0,none⟩ v')∧W1.heap[w.heap.size+1]? =some (liveO vI vO vA):=by
 obtain⟨⟨s1,s2,s3,s4,s5⟩,s6⟩:=h.sets
 have hI:∀q,vI.ownBlock=some q→w.heap.size+2≤q∧q≠PF∧OtherTy W 3 q∧R0≠q∧R1≠q∧OtherTy W 49 q:=fun q e=>by
  obtain⟨h1,h2,cs,f,h3⟩:=h.gI.lt e;obtain⟨a1,a2,a3,a4,_⟩:=s6 q cs _ f h3 (.inl rfl);exact⟨h1,a1,a2,a3,a4,OtherTy.of h3 (by decide)⟩
 have hc1:Chg (fun j=>j=w.heap.size+1∨vI.ownBlock=some j) W W1:=(Chg.refl _ W).grown hg fun k e=>.inl (.inr e)
 have hc:Chg (fun j=>j=w.heap.size+1∨vI.ownBlock=some j) W (W1.setCell ⟨w.heap.size+1,0,none⟩ v'):=hc1.trans ((grown_box W1 _ 0 v').mono fun k e=>.inl e)
 have hlv:W1.heap[w.heap.size+1]? =some (liveO vI vO vA):=(hg.block _ (lt_of_heap h.lv) fun e=>by have:=(hI _ e.symm).1;omega).trans h.lv
 obtain⟨p1,p2,p3,p4,p5,p6⟩:=h.chg hc fun q e=>by
  rcases e with e|e
  ·subst e;exact⟨Nat.le_refl _,s1.symm,s4,s2,s3,s5⟩
  ·obtain⟨a1,a2,a3,a4,a5,_⟩:=hI q e;exact⟨by omega,a2,a3,a4,a5,fun j hj e2=>h.apI j hj (by rw[e,e2])⟩
 refine⟨⟨p1,?_,p2,p3,p4,?_,h.gO.chg hc (fun q e hS=>?_) (fun q hS=>?_),ownsRow_chg h.gA hc (fun q e hS=>?_),p5,fun j hj e=>?_,h.apO,fun q e e2=>?_,p6⟩,hlv⟩
 ·rw[heap_setCell_same _ _ _ _ _ _ hlv];rfl
 ·refine hl.chg (grown_box W1 _ 0 v') (fun q e hS=>?_) fun q hS=>?_
  ·have:=(hl.lt e).1;omega
  ·subst hS;exact OtherTy.of hlv (by decide)
 ·rcases hS with hS|hS
  ·have:=(h.gO.lt e).1;omega
  ·exact h.apIO q hS e
 ·rcases hS with hS|hS
  ·subst hS;exact s4
  ·exact(hI q hS).2.2.1
 ·rcases hS with hS|hS
  ·have:=(h.gA.lt q e).1;omega
  ·exact own_ne_ty h.gA (hI q hS).2.2.2.2.2 e
 ·rcases hb _ e with h1|h1
  ·exact h.apI j hj h1
  ·obtain⟨us,h5,_⟩:=h.tb j hj;have:=lt_of_heap h5;omega
 ·rcases hb q e with h1|h1
  ·exact h.apIO q h1 e2
  ·have:=(h.gO.lt e2).2.1;omega
theorem LfJ.pushO{W1:World}{v':Value}(h:LfJ w fo bs n R0 R1 PF inn out vI vO vA gs kI kO kA W)(hg:W.grownBy W1 vO.ownBlock)(hl:ListsIn W1 (w.heap.size+2) v' (famL (kO+1) (vOutL bs)))(hb:∀q,v'.ownBlock=some q→vO.ownBlock=some q∨W.heap.size≤q):
  LfJ w fo bs n R0 R1 PF inn out vI v' vA gs kI (kO+1) kA (W1.setCell ⟨w.heap.size+1,1,none⟩ v')∧W1.heap[w.heap.size+1]? =some (liveO vI vO vA):=by
 obtain⟨⟨s1,s2,s3,s4,s5⟩,s6⟩:=h.sets
 have hI:∀q,vO.ownBlock=some q→w.heap.size+2≤q∧q≠PF∧OtherTy W 3 q∧R0≠q∧R1≠q∧OtherTy W 49 q:=fun q e=>by
  obtain⟨h1,h2,cs,f,h3⟩:=h.gO.lt e;obtain⟨a1,a2,a3,a4,_⟩:=s6 q cs _ f h3 (.inl rfl);exact⟨h1,a1,a2,a3,a4,OtherTy.of h3 (by decide)⟩
 have hc1:Chg (fun j=>j=w.heap.size+1∨vO.ownBlock=some j) W W1:=(Chg.refl _ W).grown hg fun k e=>.inl (.inr e)
 have hc:Chg (fun j=>j=w.heap.size+1∨vO.ownBlock=some j) W (W1.setCell ⟨w.heap.size+1,1,none⟩ v'):=hc1.trans ((grown_box W1 _ 1 v').mono fun k e=>.inl e)
 have hlv:W1.heap[w.heap.size+1]? =some (liveO vI vO vA):=(hg.block _ (lt_of_heap h.lv) fun e=>by have:=(hI _ e.symm).1;omega).trans h.lv
 obtain⟨p1,p2,p3,p4,p5,p6⟩:=h.chg hc fun q e=>by
  rcases e with e|e
  ·subst e;exact⟨Nat.le_refl _,s1.symm,s4,s2,s3,s5⟩
  ·obtain⟨a1,a2,a3,a4,a5,_⟩:=hI q e;exact⟨by omega,a2,a3,a4,a5,fun j hj e2=>h.apO j hj (by rw[e,e2])⟩
 refine⟨⟨p1,?_,p2,p3,p4,h.gI.chg hc (fun q e hS=>?_) (fun q hS=>?_),?_,ownsRow_chg h.gA hc (fun q e hS=>?_),p5,h.apI,fun j hj e=>?_,fun q e e2=>?_,p6⟩,hlv⟩
 ·rw[heap_setCell_same _ _ _ _ _ _ hlv];rfl
 ·rcases hS with hS|hS
  ·have:=(h.gI.lt e).1;omega
  ·exact h.apIO q e hS
 ·rcases hS with hS|hS
  ·subst hS;exact s4
  ·exact(hI q hS).2.2.1
 ·refine hl.chg (grown_box W1 _ 1 v') (fun q e hS=>?_) fun q hS=>?_
  ·have:=(hl.lt e).1;omega
  ·subst hS;exact OtherTy.of hlv (by decide)
 ·rcases hS with hS|hS
  ·have:=(h.gA.lt q e).1;omega
  ·exact own_ne_ty h.gA (hI q hS).2.2.2.2.2 e
 ·rcases hb _ e with h1|h1
  ·exact h.apO j hj h1
  ·obtain⟨us,h5,_⟩:=h.tb j hj;have:=lt_of_heap h5;omega
 ·rcases hb q e2 with h1|h1
  ·exact h.apIO q e h1
  ·have:=(h.gI.lt e).2.1;omega
theorem LfJ.pushA{W1:World}{v':Value}{g:Nat}(h:LfJ w fo bs n R0 R1 PF inn out vI vO vA gs kI kO kA W)(hg:W.grownBy W1 vA.ownBlock)(hl:W1.ownsRow (w.heap.size+2) 49 1 v' (kA+1) (famL (kA+1) (tabV (fun j=>if j=kA then g else gs j) bs)))
  (ht:TabL W (w.heap.size+2) g (atN bs kA) 0 (atL bs kA)) (hI:vI.ownBlock≠some g) (hO:vO.ownBlock≠some g) (hg2:w.heap.size+2≤g):
  LfJ w fo bs n R0 R1 PF inn out vI vO v' (fun j=>if j=kA then g else gs j) kI kO (kA+1) (W1.setCell ⟨w.heap.size+1,2,none⟩ v')∧W1.heap[w.heap.size+1]? =some (liveO vI vO vA):=by
 obtain⟨⟨s1,s2,s3,s4,s5⟩,s6⟩:=h.sets
 have hA:∀q,vA.ownBlock=some q→w.heap.size+2≤q∧q≠PF∧OtherTy W 3 q∧R0≠q∧R1≠q∧OtherTy W 22 q:=fun q e=>by
  obtain⟨cs,f,h3⟩:=own_ty h.gA e;obtain⟨a1,a2,a3,a4,_⟩:=s6 q cs _ f h3 (.inr rfl);exact⟨(h.gA.lt q e).1,a1,a2,a3,a4,OtherTy.of h3 (by decide)⟩
 have hc1:Chg (fun j=>j=w.heap.size+1∨vA.ownBlock=some j) W W1:=(Chg.refl _ W).grown hg fun k e=>.inl (.inr e)
 have hc:Chg (fun j=>j=w.heap.size+1∨vA.ownBlock=some j) W (W1.setCell ⟨w.heap.size+1,2,none⟩ v'):=hc1.trans ((grown_box W1 _ 2 v').mono fun k e=>.inl e)
 have hlv:W1.heap[w.heap.size+1]? =some (liveO vI vO vA):=(hg.block _ (lt_of_heap h.lv) fun e=>by have:=(hA _ e.symm).1;omega).trans h.lv
 have tabs:∀j,j<kA+1→TabL W (w.heap.size+2) (if j=kA then g else gs j) (atN bs j) 0 (atL bs j):=fun j hj=>by
  by_cases e:j=kA
  ·subst e;rw[if_pos rfl];exact ht
  ·rw[if_neg e];exact h.tb j (by omega)
 have tt:∀q,(q=w.heap.size+1∨vA.ownBlock=some q)→OtherTy W 3 q:=fun q hS=>by
  rcases hS with hS|hS
  ·subst hS;exact s4
  ·exact(hA q hS).2.2.1
 obtain⟨p1,p2,p3,p4,_,p6⟩:=h.chg hc fun q e=>by
  rcases e with e|e
  ·subst e;exact⟨Nat.le_refl _,s1.symm,s4,s2,s3,s5⟩
  ·obtain⟨a1,a2,a3,a4,a5,a6⟩:=hA q e;refine⟨by omega,a2,a3,a4,a5,fun j hj e2=>?_⟩;obtain⟨us,h5,_⟩:=h.tb j hj;rw[e2] at h5;exact a6 _ _ h5
 refine⟨⟨p1,?_,p2,p3,p4,h.gI.chg hc (fun q e hS=>?_) tt,h.gO.chg hc (fun q e hS=>?_) tt,ownsRow_chg hl (grown_box W1 _ 2 v') (fun q e hS=>?_),fun j hj=>(tabs j hj).chg hc (fun hS=>?_) tt,fun j hj e=>?_,fun j hj e=>?_,h.apIO,p6⟩,hlv⟩
 ·rw[heap_setCell_same _ _ _ _ _ _ hlv];rfl
 ·rcases hS with hS|hS
  ·have:=(h.gI.lt e).1;omega
  ·obtain⟨_,_,cs,f,h3⟩:=h.gI.lt e;exact(hA q hS).2.2.2.2.2 _ _ h3
 ·rcases hS with hS|hS
  ·have:=(h.gO.lt e).1;omega
  ·obtain⟨_,_,cs,f,h3⟩:=h.gO.lt e;exact(hA q hS).2.2.2.2.2 _ _ h3
 ·have:=(hl.lt q e).1;omega
 ·obtain⟨us,h5,_⟩:=tabs j hj;rcases hS with hS|hS
  ·by_cases e:j=kA
   ·rw[if_pos e] at hS;omega
   ·rw[if_neg e] at hS;exact s5 j (by omega) hS
  ·exact(hA _ hS).2.2.2.2.2 _ _ h5
 ·by_cases e2:j=kA
  ·rw[if_pos e2] at e;exact hI e
  ·rw[if_neg e2] at e;exact h.apI j (by omega) e
 ·by_cases e2:j=kA
  ·rw[if_pos e2] at e;exact hO e
  ·rw[if_neg e2] at e;exact h.apO j (by omega) e
theorem LfJ.fill{g o:Nat}{u:Value}(h:LfJ w fo bs n R0 R1 PF inn out vI vO vA gs kI kO kA W)(hg:∃cs f,W.heap[g]? =some (.cells cs 22 f))(hg2:w.heap.size+2≤g)(hI:vI.ownBlock≠some g)(hO:vO.ownBlock≠some g)(hgs:∀j,j<kA→gs j≠g):LfJ w fo bs n R0 R1 PF inn out vI vO vA gs kI kO kA (W.setCell ⟨g,o,none⟩ u):=by
 obtain⟨cs,f,hg⟩:=hg
 obtain⟨a1,a2,a3,a4,_⟩:=h.sets.2 g cs _ f hg (.inl rfl)
 refine h.keep (row:=some g) ⟨rfl,rfl,rfl,by simp,fun k _ hne=>Below.heap_setCell _ _ _ _ (by simpa using fun e=>hne (by rw[e]))⟩ fun q e=>?_
 cases e
 exact⟨hg2,a1,a2,OtherTy.of hg (by decide),a3,a4,hI,hO,hgs⟩
end
end

section
open Go.RowKit
def marks:List Int:=(List.range 12).map fun(i:Nat)=>markV 1 (i:Int)
end
end Go.Proofs.YthgebcfohnlhlaaGreatDoor
