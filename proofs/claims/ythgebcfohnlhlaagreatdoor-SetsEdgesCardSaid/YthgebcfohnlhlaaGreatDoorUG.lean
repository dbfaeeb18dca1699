/-
 Ranges over functions whose iterator ranges over a function itself. No program in sight. (Printed by gen_rangeb.py out of XRangeM,XOwnR.)
-/
import Derived.Test.YthgebcfohnlhlaaGreatDoorTB
import Derived.Test.YthgebcfohnlhlaaGreatDoorMarks
import Derived.Test.YthgebcfohnlhlaaGreatDoorPE
import Derived.Test.YthgebcfohnlhlaaGreatDoorSameG
import Derived.Test.YthgebcfohnlhlaaGreatDoorZed
import Derived.Test.YthgebcfohnlhlaaGreatDoorFreeL
namespace Go.Proofs.YthgebcfohnlhlaaGreatDoor
set_option linter.unusedSimpArgs false
set_option linter.unusedVariables false
set_option linter.unusedSectionVars false
set_option maxRecDepth 100000
set_option maxHeartbeats 40000000
section
open Go.RowKit
def IterB{σ α:Type}(P:Program)(gf:Nat)(lb:Array Value)(enc:α→Array Value)(ok:σ→α→Prop)(nx:σ→α→σ)(s0:σ)(Fin:σ→Prop)(Inv:σ→World→Prop):Prop:=
 ∀(l:Nat) (K:σ→World→Prop) (Kx:World→Prop) (T:World→Nat→Prop) (W0:World),
  (∀s W W' row,K s W→W.grownBy W' row→(∀q,row=some q→W0.heap.size≤q∧∃o:Obj,W.heap[q]? =some o∧isBk o=true)→K s W')→(∀W W' row,Kx W→W.grownBy W' row→(∀q,row=some q→W0.heap.size≤q∧∃o:Obj,W.heap[q]? =some o∧isBk o=true)→Kx W')→(∀s W,K s W→Inv s W)→
  (∀s W k,K s W→T W k→k<W.heap.size)→(∀s W W' row k,K s W→W.grownBy W' row→(∀q,row=some q→W0.heap.size≤q∧∃o:Obj,W.heap[q]? =some o∧isBk o=true)→T W' k→T W k)→
  (∀s x W,ok s x→K s W→YieldAt Fence.wide 0 P l (enc x) W fun e W'=>(e=.returned (.bool true)∧K (nx s x) W'∧Tch T W W')∨(e=.returned (.bool false)∧Kx W'))→
  K s0 W0→CallsIn Fence.wide 0 P gf (#[.func (.yield l) #[] #[]]++lb) W0 fun e W'=>(∃v,e=.returned v)∧((∃s,Fin s∧K s W')∨Kx W')
theorem range_outerB{P:Program}{σ α:Type}{g:Operand}{ps:Array Tmp}{assign body:Code}{Q:Exit→Act→World→Prop}{a:Act}{w:World}{gf:Nat}{lb:Array Value}
  (hg:a.eval g=.func (.func gf) #[] lb) (eg:∀args w,(callFunc gf args).run P w=.ok (.enter gf args) w)
  {enc:α→Array Value} {ok:σ→α→Prop} {nx:σ→α→σ} {s0:σ} {Fin:σ→Prop} {Inv:σ→World→Prop} (hit:IterB P gf lb enc ok nx s0 Fin Inv)
  (hps:∀x,(enc x).size=ps.size)
  (J:σ→World→Prop) (Jx:Code→World→Prop) (A:σ→α→Act→World→Prop)
  (hJ:∀s,SteadyM w.heap.size (J s)) (hJx:∀c,SteadyM w.heap.size (Jx c)) (hA:∀s x a,SteadyM w.heap.size (A s x a)) (hInv:∀s W,J s W→Inv s W)
  (T:World→Nat→Prop) (hT0:∀s W k,J s W→T W k→k<W.heap.size) (hTg:∀W W' row,W.grownBy W' row→(∀r,row=some r→w.heap.size≤r∧∃o:Obj,W.heap[r]? =some o∧isBk o=true)→(∃s,J s W)→∀k,T W' k→T W k)
  (h0:J s0 w)
  (hassign:∀(l:Nat) (s:σ) (x:α) (W:World),ok s x→J s W→
    assign.wpIn (Fence.wide.inRound l) 0 P (Exit.then (fun a1 W1=>Keep W W1∧J s W1∧A s x a1 W1∧Tch T W W1) (fun _ _ _=>False)) {tmps:=(ps.zip (enc x)).foldl (fun t (p,v)=>t.setIfInBounds p v) a.tmps,defers:= []} W)
  (hbody:∀(l:Nat) (s:σ) (x:α) (a1:Act) (W:World),ok s x→J s W→A s x a1 W→
    body.wpIn (Fence.wide.inRound l) 0 P (roundEnd (fun W'=>Keep W W'∧J (nx s x) W'∧Tch T W W') (fun c W'=>Keep W W'∧Jx c W')) a1 W)
  (hdone:∀(D:Nat) (s:σ) (W:World),w.heap.size≤D→Fin s→J s W→W.heap[D]? =some (.deferred (some []))→Q .normal {a with defers:={target:=.collected D,args:=#[]} :: a.defers} W)
  (hstop:∀(D:Nat) (c:Code) (W:World),w.heap.size≤D→Jx c W→W.heap[D]? =some (.deferred (some []))→c.wpIn Fence.wide 0 P Q {a with defers:={target:=.collected D,args:=#[]} :: a.defers} W):
  (Code.rangeFunc g ps assign body).wpIn Fence.wide 0 P Q a w:=by
 refine wpIn_rangeFunc ?_
 intro fn hfn
 obtain⟨rec,hrec⟩:∃rec:LoopState→Option Code→Loop,rec=fun st pe=>{state:=st,pending:=pe,fn,tmps:=a.tmps,params:=ps,assign,body,defers:=w.heap.size}:=⟨_,rfl⟩
 obtain⟨W1,hW1⟩:∃W1,(w.alloc (.deferred (some []))).alloc (.loop (rec .ready none))=W1:=⟨_,rfl⟩
 have hL1:W1.heap[w.heap.size+1]? =some (.loop (rec .ready none)):=by
  rw[←hW1];have:=World.alloc_heap_new (w.alloc (.deferred (some []))) (.loop (rec .ready none));rwa [World.size_alloc] at this
 have hK1:W1.heap[w.heap.size]? =some (.deferred (some [])):=by
  rw[←hW1];exact(Below.heap_alloc _ _ _ (by simp)).trans (World.alloc_heap_new w _)
 have hb1:Below w.heap.size w W1:=by
  rw[←hW1];exact((Below.refl _ w).alloc (Nat.le_refl _) _).alloc (by simp) _
 have hI1:J s0 W1:=(hJ s0).ext h0 hb1
 have keepE:∀{W W':World} {k:Nat} {o:Obj},W.heap[k]? =some o→Below W.heap.size W W'→W'.heap[k]? =some o:=
  fun hk hb=>(hb.block _ (Array.getElem?_eq_some_iff.1 hk).1).trans hk
 refine⟨w.heap.size+1,[{target:=.collected w.heap.size,args:=#[]}],W1,{target:=.fn (.func gf) lb,args:=#[.func (.yield (w.heap.size+1)) #[] #[]]},W1,gf,
  #[.func (.yield (w.heap.size+1)) #[] #[]]++lb,W1,?_,?_,?_,?_,fun h=>by simp[Fence.wide] at h,?_⟩
 ·rw[←hW1,hrec];exact run_enterLoop_outer _ _ _ _ _
 ·simp only[resolve,hg];simp[go_sem]
 ·intro f' hf';trivial
 ·simp[invoke,go_sem,eg]
 ·refine(hit (w.heap.size+1)
   (fun s W=>J s W∧W.heap[w.heap.size+1]? =some (.loop (rec .ready none))∧W.heap[w.heap.size]? =some (.deferred (some [])))
   (fun W=>∃c,Jx c W∧W.heap[w.heap.size+1]? =some (.loop (rec .done (some c)))∧W.heap[w.heap.size]? =some (.deferred (some [])))
   (fun W k=>T W k∨k=w.heap.size+1∨k=w.heap.size)
   W1 (fun s A B row h hg hr=>by
    have hz:W1.heap.size=w.heap.size+1+1:=by rw[←hW1];simp
    refine⟨hJ s A B row h.1 hg (fun r e=>?_),(hg.block _ (Array.getElem?_eq_some_iff.1 h.2.1).1 (fun e=>?_)).trans h.2.1,(hg.block _ (Array.getElem?_eq_some_iff.1 h.2.2).1 (fun e=>?_)).trans h.2.2⟩
    ·obtain⟨h1,o,h2,h3⟩:=hr r e;exact⟨by omega,o,h2,h3⟩
    ·obtain⟨h1,_⟩:=hr _ e.symm;omega
    ·obtain⟨h1,_⟩:=hr _ e.symm
     omega)
   (fun A B row h hg hr=>by
     have hz:W1.heap.size=w.heap.size+1+1:=by rw[←hW1];simp
     obtain⟨c,h1,h2,h3⟩:=h;refine⟨c,hJx c A B row h1 hg (fun r e=>?_),(hg.block _ (Array.getElem?_eq_some_iff.1 h2).1 (fun e=>?_)).trans h2,(hg.block _ (Array.getElem?_eq_some_iff.1 h3).1 (fun e=>?_)).trans h3⟩
     ·obtain⟨q1,o,q2,q3⟩:=hr r e;exact⟨by omega,o,q2,q3⟩
     ·obtain⟨q1,_⟩:=hr _ e.symm;omega
     ·obtain⟨q1,_⟩:=hr _ e.symm
      omega)
   (fun s W h=>hInv s W h.1)
   (fun s W k h ht=>by
     rcases ht with ht|rfl|rfl
     ·exact hT0 s W k h.1 ht
     ·exact(Array.getElem?_eq_some_iff.1 h.2.1).1
     ·exact(Array.getElem?_eq_some_iff.1 h.2.2).1)
   (fun s A B row k h hg hr ht=>by
     have hz:W1.heap.size=w.heap.size+1+1:=by rw[←hW1];simp
     rcases ht with ht|ht
     ·exact .inl (hTg A B row hg (fun r e=>by
       obtain⟨h1,o,h2,h3⟩:=hr r e
       exact⟨by omega,o,h2,h3⟩) ⟨s,h.1⟩ k ht)
     ·exact .inr ht)
   ?_ ⟨hI1,hL1,hK1⟩).mono ?_
  ·rintro s x W hok ⟨hi,hl,hk⟩;have hy:=run_yield (P:=P) (args:=enc x) hl (by rw[hrec];exact hps x);rw[hrec] at hy;refine⟨fn,_,assign,body,hy,roundIn_of_wpIn hfn (wpIn_mono (hassign _ s x W hok hi) ?_)⟩;rintro e a1 V hp;cases e with
   |normal=>
    obtain⟨hkp,hiV,hAV,hTV⟩:=hp;have hlV:=hkp _ _ hl rfl;have hkV:=hkp _ _ hk rfl;have hlt:w.heap.size+1<V.heap.size:=(Array.getElem?_eq_some_iff.1 hlV).1;refine⟨_,run_beginRound hlV (by rw[hrec]),?_⟩;have hl2:(V.putObj (w.heap.size+1) (.loop {rec .ready none with state:=.busy})).heap[w.heap.size+1]? =some (.loop {rec .ready none with state:=.busy}):=World.putObj_heap_same hlt;have hk2:(V.putObj (w.heap.size+1) (.loop {rec .ready none with state:=.busy})).heap[w.heap.size]? =some (.deferred (some [])):=(World.putObj_heap_other (by omega)).trans hkV;refine wpIn_mono (hbody _ s x a1 _ hok ((hJ s).put _ hiV (by omega) hlV rfl) ((hA s x a1).put _ hAV (by omega) hlV rfl)) ?_
    have fin:∀(jump:Option Code) (W3:World),Keep (V.putObj (w.heap.size+1) (.loop {rec .ready none with state:=.busy})) W3→
      (Instr.endRound (w.heap.size+1) jump).run P W3=.ok (.bool jump.isNone) (W3.putObj (w.heap.size+1) (.loop (rec (if jump.isNone then .ready else .done) jump)))∧
      W3.heap[w.heap.size+1]? =some (.loop {rec .ready none with state:=.busy})∧
      (W3.putObj (w.heap.size+1) (.loop (rec (if jump.isNone then .ready else .done) jump))).heap[w.heap.size+1]? =some (.loop (rec (if jump.isNone then .ready else .done) jump))∧
      (W3.putObj (w.heap.size+1) (.loop (rec (if jump.isNone then .ready else .done) jump))).heap[w.heap.size]? =some (.deferred (some [])):=fun jump W3 hk3=>by
     have hl3:=hk3 _ _ hl2 rfl;have:=run_endRound (P:=P) jump hl3;rw[hrec] at this⊢;exact⟨this,by rw[hrec] at hl3;exact hl3,World.putObj_heap_same (Array.getElem?_eq_some_iff.1 hl3).1,(World.putObj_heap_other (by omega)).trans (hk3 _ _ hk2 rfl)⟩
    rintro e a3 W3 hp;cases e with
    |normal=>
     obtain⟨hk3,hi3,hT3⟩:=hp;obtain⟨hr,hl3,hl4,hk4⟩:=fin none W3 hk3;refine⟨_,_,hr,.inl ⟨rfl,⟨(hJ _).put _ hi3 (by omega) hl3 rfl,hl4,hk4⟩,?_⟩⟩;have g1:=grown_put V (w.heap.size+1) (.loop {rec .ready none with state:=.busy});have g2:=grown_put W3 (w.heap.size+1) (.loop (rec (if (none:Option Code).isNone then .ready else .done) none));have t1:∀k,T (V.putObj (w.heap.size+1) (.loop {rec .ready none with state:=.busy})) k→T V k:=hTg _ _ _ g1 (fun r hr=>by cases hr;exact⟨by omega,_,hlV,rfl⟩) ⟨s,hiV⟩;have t2:∀k,T (W3.putObj (w.heap.size+1) (.loop (rec (if (none:Option Code).isNone then .ready else .done) none))) k→T W3 k:=hTg _ _ _ g2 (fun r hr=>by cases hr;exact⟨by omega,_,hl3,rfl⟩) ⟨_,hi3⟩;have z1:(V.putObj (w.heap.size+1) (.loop {rec .ready none with state:=.busy})).heap.size=V.heap.size:=by simp
     have z2:(W3.putObj (w.heap.size+1) (.loop (rec (if (none:Option Code).isNone then .ready else .done) none))).heap.size=W3.heap.size:=by simp
     have s1:=hTV.1;have s3:=hT3.1;rw[z1] at s3;refine⟨by rw[z2];omega,fun k hk hn=>?_,fun k hk=>?_⟩
     ·have n1:k≠w.heap.size+1:=fun e=>hn (.inr (.inl e));have n0:¬T W k:=fun e=>hn (.inl e);have m1:¬T V k:=fun e=>(hTV.2.2 k e).elim n0 (by omega);have m2:=fun e=>m1 (t1 k e);rw[World.putObj_heap_other n1,hT3.2.1 k (by rw[z1];omega) m2,World.putObj_heap_other n1,hTV.2.1 k hk n0]
     ·rcases hk with hk|hk
      ·rcases hT3.2.2 k (t2 k hk) with h|h
       ·rcases hTV.2.2 k (t1 k h) with h|h
        ·exact .inl (.inl h)
        ·exact .inr h
       ·rw[z1] at h;exact .inr (by omega)
      ·exact .inl (.inr hk)
    |ret=>
     obtain⟨hk3,hi3⟩:=hp;obtain⟨hr,hl3,hl4,hk4⟩:=fin (some .ret) W3 hk3;exact⟨_,_,hr,.inr ⟨rfl,.ret,(hJx _).put _ hi3 (by omega) hl3 rfl,hl4,hk4⟩⟩
    |exit id=>
     obtain⟨hk3,hi3⟩:=hp;obtain⟨hr,hl3,hl4,hk4⟩:=fin (some (.exit id)) W3 hk3;exact⟨_,_,hr,.inr ⟨rfl,.exit id,(hJx _).put _ hi3 (by omega) hl3 rfl,hl4,hk4⟩⟩
    |goto t=>
     obtain⟨hk3,hi3⟩:=hp;obtain⟨hr,hl3,hl4,hk4⟩:=fin (some (.goto t)) W3 hk3;exact⟨_,_,hr,.inr ⟨rfl,.goto t,(hJx _).put _ hi3 (by omega) hl3 rfl,hl4,hk4⟩⟩
    |panic ch=>exact hp.elim
    |outgrown=>exact hp.elim
   |exit id=>exact hp.elim
   |goto t=>exact hp.elim
   |ret=>exact hp.elim
   |panic chain=>exact hp.elim
   |outgrown=>exact hp.elim
  ·rintro e W2 ⟨⟨v,rfl⟩,(⟨s,hS,hi,hl,hk⟩|⟨c,hi,hl,hk⟩)⟩
   ·exact⟨none,_,by have:=run_endLoop (P:=P) hl (by rw[hrec];simp);rw[hrec] at this;exact this,hdone _ s _ (Nat.le_refl _) hS ((hJ s).put _ hi (by omega) hl rfl) ((World.putObj_heap_other (by omega)).trans hk)⟩
   ·exact⟨some c,_,by have:=run_endLoop (P:=P) hl (by rw[hrec];simp);rw[hrec] at this;exact this,hstop _ c _ (Nat.le_refl _) ((hJx c).put _ hi (by omega) hl rfl) ((World.putObj_heap_other (by omega)).trans hk)⟩
def IterBI{α:Type}(P:Program)(gf:Nat)(lb:Array Value)(enc:α→Array Value)(l:List α)(I:World→Prop):Prop:=
 IterB P gf lb enc okL nxL l finL (fun _ W=>I W)
section
variable {P:Program}
theorem range_listB{α:Type}{g:Operand}{ps:Array Tmp}{assign body:Code}{Q:Exit→Act→World→Prop}{a:Act}{w:World}{gf:Nat}{lb:Array Value}
  (hg:a.eval g=.func (.func gf) #[] lb) (eg:∀args w,(callFunc gf args).run P w=.ok (.enter gf args) w)
  {enc:α→Array Value} {l:List α} (I:World→Prop) (hit:IterBI P gf lb enc l I) (hps:∀x,(enc x).size=ps.size)
  (J:List α→List α→World→Prop) (Jx:Code→World→Prop)
  (hJ:∀d r,SteadyM w.heap.size (J d r)) (hJx:∀c,SteadyM w.heap.size (Jx c)) (hInv:∀d r W,J d r W→I W)
  (T:World→Nat→Prop) (hT0:∀d r W k,J d r W→T W k→k<W.heap.size) (hTg:∀W W' row,W.grownBy W' row→(∀q,row=some q→w.heap.size≤q∧∃o:Obj,W.heap[q]? =some o∧isBk o=true)→(∃d r,J d r W)→∀k,T W' k→T W k)
  (h0:J [] l w)
  (hround:∀(lp:Nat) (d:List α) (x:α) (r:List α) (W:World),l=d++x :: r→J d (x :: r) W→
    assign.wpIn (Fence.wide.inRound lp) 0 P (Exit.then (fun a1 W1=>Keep W W1∧J d (x :: r) W1∧Tch T W W1∧∃G:World→Prop,SteadyM w.heap.size G∧G W1∧∀(lp:Nat) (W2:World),J d (x :: r) W2→G W2→
     body.wpIn (Fence.wide.inRound lp) 0 P (roundEnd (fun W'=>Keep W2 W'∧J (d++ [x]) r W'∧Tch T W2 W') (fun c W'=>Keep W2 W'∧Jx c W')) a1 W2) (fun _ _ _=>False)) {tmps:=(ps.zip (enc x)).foldl (fun t (p,v)=>t.setIfInBounds p v) a.tmps,defers:= []} W)
  (hdone:∀(D:Nat) (W:World),w.heap.size≤D→J l [] W→W.heap[D]? =some (.deferred (some []))→Q .normal {a with defers:={target:=.collected D,args:=#[]} :: a.defers} W)
  (hstop:∀(D:Nat) (c:Code) (W:World),w.heap.size≤D→Jx c W→W.heap[D]? =some (.deferred (some []))→c.wpIn Fence.wide 0 P Q {a with defers:={target:=.collected D,args:=#[]} :: a.defers} W):
  (Code.rangeFunc g ps assign body).wpIn Fence.wide 0 P Q a w:=by
 refine range_outerB (enc:=enc) hg eg hit hps (fun s W=>∃d,l=d++s∧J d s W) Jx
  (fun s x a1 W=>∃G:World→Prop,SteadyM w.heap.size G∧G W∧∀(d:List α) (lp:Nat) (W2:World),l=d++s→J d s W2→G W2→body.wpIn (Fence.wide.inRound lp) 0 P (roundEnd (fun W'=>Keep W2 W'∧J (d++ [x]) (nxL s x) W'∧Tch T W2 W') (fun c W'=>Keep W2 W'∧Jx c W')) a1 W2)
  (fun s=>SteadyM.ex fun d=>(SteadyM.pure _ _).and (hJ d s)) hJx (fun _ _ _=>fun W W' row h hg hr=>let ⟨G,h1,h2,h3⟩:=h;⟨G,h1,h1 W W' row h2 hg hr,h3⟩) (fun s W ⟨d,_,h⟩=>hInv d s W h) T (fun s W k ⟨d,_,h⟩ ht=>hT0 d s W k h ht) (fun W W' row hg hr ⟨s,d,_,h⟩=>hTg W W' row hg hr ⟨d,s,h⟩) ⟨[],rfl,h0⟩ ?_ ?_ ?_ hstop
 ·rintro lp s x W hok ⟨d,hd,hj⟩;have hs:=okL_cons hok;generalize nxL s x=r at hs⊢;subst hs;refine wpIn_mono (hround lp d x r W hd hj) ?_;rintro e a1 W1 he;cases e with
  |normal=>
   obtain⟨h1,h2,hT1,G,h4,h5,h3⟩:=he;refine⟨h1,⟨d,hd,h2⟩,⟨G,h4,h5,fun d' lp' W2 hd' hj' hG'=>?_⟩,hT1⟩;have:d'=d:=by
    have:=hd'.symm.trans hd;exact List.append_cancel_right this
   subst this;exact h3 lp' W2 hj' hG'
  |_=>exact he.elim
 ·rintro lp s x a1 W hok ⟨d,hd,hj⟩ ⟨G,_,hG,hA⟩;refine wpIn_mono (hA d lp W hd hj hG) ?_;rintro e a3 W3 he;cases e with
  |normal=>
   refine⟨he.1,⟨d++ [x],?_,he.2.1⟩,he.2.2⟩;rw[hd,List.append_assoc]
   congr 1
   exact okL_cons hok
  |ret=>exact he
  |exit id=>exact he
  |goto t=>exact he
  |panic ch=>exact he.elim
  |outgrown=>exact he.elim
 ·rintro D s W hD hf ⟨d,hd,hj⟩ hk;have hf:s= []:=hf;subst hf;rw[List.append_nil] at hd;subst hd;exact hdone D W hD hj hk
end
def KeepB(B:Nat)(W W':World):Prop:=∀k,(k=B∨k=B+1)→W'.heap[k]? =W.heap[k]?
theorem range_outerK{P:Program}{σ α:Type}{g:Operand}{ps:Array Tmp}{assign body:Code}{Q:Exit→Act→World→Prop}{a:Act}{w:World}{gf:Nat}{lb:Array Value}
  (hg:a.eval g=.func (.func gf) #[] lb) (eg:∀args w,(callFunc gf args).run P w=.ok (.enter gf args) w)
  {enc:α→Array Value} {ok:σ→α→Prop} {nx:σ→α→σ} {s0:σ} {Fin:σ→Prop} {Inv:σ→World→Prop} (hit:Iter P gf lb enc ok nx s0 Fin Inv)
  (hps:∀x,(enc x).size=ps.size)
  (J:σ→World→Prop) (Jx:Code→World→Prop) (A:σ→α→Act→World→Prop)
  (hJ:∀s,SteadyM w.heap.size (J s)) (hJx:∀c,SteadyM w.heap.size (Jx c)) (hA:∀s x a,SteadyM w.heap.size (A s x a)) (hInv:∀s W,J s W→Inv s W)
  (h0:J s0 w)
  (hassign:∀(l:Nat) (s:σ) (x:α) (W:World),w.heap.size+1<W.heap.size→ok s x→J s W→
    assign.wpIn (Fence.wide.inRound l) 0 P (Exit.then (fun a1 W1=>KeepB w.heap.size W W1∧J s W1∧A s x a1 W1) (fun _ _ _=>False)) {tmps:=(ps.zip (enc x)).foldl (fun t (p,v)=>t.setIfInBounds p v) a.tmps,defers:= []} W)
  (hbody:∀(l:Nat) (s:σ) (x:α) (a1:Act) (W:World),w.heap.size+1≤l→(∃r,W.heap[l]? =some (.loop r))→ok s x→J s W→A s x a1 W→
    body.wpIn (Fence.wide.inRound l) 0 P (roundEnd (fun W'=>KeepB w.heap.size W W'∧J (nx s x) W') (fun c W'=>KeepB w.heap.size W W'∧Jx c W')) a1 W)
  (hdone:∀(D:Nat) (s:σ) (W:World),w.heap.size≤D→Fin s→J s W→W.heap[D]? =some (.deferred (some []))→Q .normal {a with defers:={target:=.collected D,args:=#[]} :: a.defers} W)
  (hstop:∀(D:Nat) (c:Code) (W:World),w.heap.size≤D→Jx c W→W.heap[D]? =some (.deferred (some []))→c.wpIn Fence.wide 0 P Q {a with defers:={target:=.collected D,args:=#[]} :: a.defers} W):
  (Code.rangeFunc g ps assign body).wpIn Fence.wide 0 P Q a w:=by
 refine wpIn_rangeFunc ?_
 intro fn hfn
 obtain⟨rec,hrec⟩:∃rec:LoopState→Option Code→Loop,rec=fun st pe=>{state:=st,pending:=pe,fn,tmps:=a.tmps,params:=ps,assign,body,defers:=w.heap.size}:=⟨_,rfl⟩
 obtain⟨W1,hW1⟩:∃W1,(w.alloc (.deferred (some []))).alloc (.loop (rec .ready none))=W1:=⟨_,rfl⟩
 have hL1:W1.heap[w.heap.size+1]? =some (.loop (rec .ready none)):=by
  rw[←hW1];have:=World.alloc_heap_new (w.alloc (.deferred (some []))) (.loop (rec .ready none));rwa [World.size_alloc] at this
 have hK1:W1.heap[w.heap.size]? =some (.deferred (some [])):=by
  rw[←hW1];exact(Below.heap_alloc _ _ _ (by simp)).trans (World.alloc_heap_new w _)
 have hb1:Below w.heap.size w W1:=by
  rw[←hW1];exact((Below.refl _ w).alloc (Nat.le_refl _) _).alloc (by simp) _
 have hI1:J s0 W1:=(hJ s0).ext h0 hb1
 have keepE:∀{W W':World} {k:Nat} {o:Obj},W.heap[k]? =some o→Below W.heap.size W W'→W'.heap[k]? =some o:=
  fun hk hb=>(hb.block _ (Array.getElem?_eq_some_iff.1 hk).1).trans hk
 refine⟨w.heap.size+1,[{target:=.collected w.heap.size,args:=#[]}],W1,{target:=.fn (.func gf) lb,args:=#[.func (.yield (w.heap.size+1)) #[] #[]]},W1,gf,
  #[.func (.yield (w.heap.size+1)) #[] #[]]++lb,W1,?_,?_,?_,?_,fun h=>by simp[Fence.wide] at h,?_⟩
 ·rw[←hW1,hrec];exact run_enterLoop_outer _ _ _ _ _
 ·simp only[resolve,hg];simp[go_sem]
 ·intro f' hf';trivial
 ·simp[invoke,go_sem,eg]
 ·refine(hit (w.heap.size+1)
   (fun s W=>J s W∧W.heap[w.heap.size+1]? =some (.loop (rec .ready none))∧W.heap[w.heap.size]? =some (.deferred (some [])))
   (fun W=>∃c,Jx c W∧W.heap[w.heap.size+1]? =some (.loop (rec .done (some c)))∧W.heap[w.heap.size]? =some (.deferred (some [])))
   W1 (fun s A B h hb=>⟨(hJ s).ext h.1 hb,keepE h.2.1 hb,keepE h.2.2 hb⟩)
   (fun A B h hb=>by obtain⟨c,h1,h2,h3⟩:=h;exact⟨c,(hJx c).ext h1 hb,keepE h2 hb,keepE h3 hb⟩)
   (fun s W h=>hInv s W h.1) ?_ ⟨hI1,hL1,hK1⟩).mono ?_
  ·rintro s x W hok ⟨hi,hl,hk⟩;have hy:=run_yield (P:=P) (args:=enc x) hl (by rw[hrec];exact hps x);rw[hrec] at hy;refine⟨fn,_,assign,body,hy,roundIn_of_wpIn hfn (wpIn_mono (hassign _ s x W (Array.getElem?_eq_some_iff.1 hl).1 hok hi) ?_)⟩;rintro e a1 V hp;cases e with
   |normal=>
    obtain⟨hkp,hiV,hAV⟩:=hp;have hlV:=(hkp _ (.inr rfl)).trans hl;have hkV:=(hkp _ (.inl rfl)).trans hk;have hlt:w.heap.size+1<V.heap.size:=(Array.getElem?_eq_some_iff.1 hlV).1;refine⟨_,run_beginRound hlV (by rw[hrec]),?_⟩;have hl2:(V.putObj (w.heap.size+1) (.loop {rec .ready none with state:=.busy})).heap[w.heap.size+1]? =some (.loop {rec .ready none with state:=.busy}):=World.putObj_heap_same hlt;have hk2:(V.putObj (w.heap.size+1) (.loop {rec .ready none with state:=.busy})).heap[w.heap.size]? =some (.deferred (some [])):=(World.putObj_heap_other (by omega)).trans hkV;refine wpIn_mono (hbody _ s x a1 _ (by omega) ⟨_,hl2⟩ hok ((hJ s).put _ hiV (by omega) hlV rfl) ((hA s x a1).put _ hAV (by omega) hlV rfl)) ?_
    have fin:∀(jump:Option Code) (W3:World),KeepB w.heap.size (V.putObj (w.heap.size+1) (.loop {rec .ready none with state:=.busy})) W3→
      (Instr.endRound (w.heap.size+1) jump).run P W3=.ok (.bool jump.isNone) (W3.putObj (w.heap.size+1) (.loop (rec (if jump.isNone then .ready else .done) jump)))∧
      W3.heap[w.heap.size+1]? =some (.loop {rec .ready none with state:=.busy})∧
      (W3.putObj (w.heap.size+1) (.loop (rec (if jump.isNone then .ready else .done) jump))).heap[w.heap.size+1]? =some (.loop (rec (if jump.isNone then .ready else .done) jump))∧
      (W3.putObj (w.heap.size+1) (.loop (rec (if jump.isNone then .ready else .done) jump))).heap[w.heap.size]? =some (.deferred (some [])):=fun jump W3 hk3=>by
     have hl3:=(hk3 _ (.inr rfl)).trans hl2;have:=run_endRound (P:=P) jump hl3;rw[hrec] at this⊢;exact⟨this,by rw[hrec] at hl3;exact hl3,World.putObj_heap_same (Array.getElem?_eq_some_iff.1 hl3).1,(World.putObj_heap_other (by omega)).trans ((hk3 _ (.inl rfl)).trans hk2)⟩
    rintro e a3 W3 hp;cases e with
    |normal=>
     obtain⟨hk3,hi3⟩:=hp;obtain⟨hr,hl3,hl4,hk4⟩:=fin none W3 hk3;exact⟨_,_,hr,.inl ⟨rfl,(hJ _).put _ hi3 (by omega) hl3 rfl,hl4,hk4⟩⟩
    |ret=>
     obtain⟨hk3,hi3⟩:=hp;obtain⟨hr,hl3,hl4,hk4⟩:=fin (some .ret) W3 hk3;exact⟨_,_,hr,.inr ⟨rfl,.ret,(hJx _).put _ hi3 (by omega) hl3 rfl,hl4,hk4⟩⟩
    |exit id=>
     obtain⟨hk3,hi3⟩:=hp;obtain⟨hr,hl3,hl4,hk4⟩:=fin (some (.exit id)) W3 hk3;exact⟨_,_,hr,.inr ⟨rfl,.exit id,(hJx _).put _ hi3 (by omega) hl3 rfl,hl4,hk4⟩⟩
    |goto t=>
     obtain⟨hk3,hi3⟩:=hp;obtain⟨hr,hl3,hl4,hk4⟩:=fin (some (.goto t)) W3 hk3;exact⟨_,_,hr,.inr ⟨rfl,.goto t,(hJx _).put _ hi3 (by omega) hl3 rfl,hl4,hk4⟩⟩
    |panic ch=>exact hp.elim
    |outgrown=>exact hp.elim
   |exit id=>exact hp.elim
   |goto t=>exact hp.elim
   |ret=>exact hp.elim
   |panic chain=>exact hp.elim
   |outgrown=>exact hp.elim
  ·rintro e W2 ⟨⟨v,rfl⟩,(⟨s,hS,hi,hl,hk⟩|⟨c,hi,hl,hk⟩)⟩
   ·exact⟨none,_,by have:=run_endLoop (P:=P) hl (by rw[hrec];simp);rw[hrec] at this;exact this,hdone _ s _ (Nat.le_refl _) hS ((hJ s).put _ hi (by omega) hl rfl) ((World.putObj_heap_other (by omega)).trans hk)⟩
   ·exact⟨some c,_,by have:=run_endLoop (P:=P) hl (by rw[hrec];simp);rw[hrec] at this;exact this,hstop _ c _ (Nat.le_refl _) ((hJx c).put _ hi (by omega) hl rfl) ((World.putObj_heap_other (by omega)).trans hk)⟩
theorem range_listK{P:Program}{α:Type}{g:Operand}{ps:Array Tmp}{assign body:Code}{Q:Exit→Act→World→Prop}{a:Act}{w:World}{gf:Nat}{lb:Array Value}
  (hg:a.eval g=.func (.func gf) #[] lb) (eg:∀args w,(callFunc gf args).run P w=.ok (.enter gf args) w)
  {enc:α→Array Value} {l:List α} (I:World→Prop) (hit:IterI P gf lb enc l I) (hps:∀x,(enc x).size=ps.size)
  (J:List α→List α→World→Prop) (Jx:Code→World→Prop)
  (hJ:∀d r,SteadyM w.heap.size (J d r)) (hJx:∀c,SteadyM w.heap.size (Jx c)) (hInv:∀d r W,J d r W→I W)
  (h0:J [] l w)
  (hround:∀(lp:Nat) (d:List α) (x:α) (r:List α) (W:World),w.heap.size+1<W.heap.size→l=d++x :: r→J d (x :: r) W→
    assign.wpIn (Fence.wide.inRound lp) 0 P (Exit.then (fun a1 W1=>KeepB w.heap.size W W1∧J d (x :: r) W1∧∃G:World→Prop,SteadyM w.heap.size G∧G W1∧∀(lp:Nat) (W2:World),w.heap.size+1<W2.heap.size→J d (x :: r) W2→G W2→
     body.wpIn (Fence.wide.inRound lp) 0 P (roundEnd (fun W'=>KeepB w.heap.size W2 W'∧J (d++ [x]) r W') (fun c W'=>KeepB w.heap.size W2 W'∧Jx c W')) a1 W2) (fun _ _ _=>False)) {tmps:=(ps.zip (enc x)).foldl (fun t (p,v)=>t.setIfInBounds p v) a.tmps,defers:= []} W)
  (hdone:∀(D:Nat) (W:World),w.heap.size≤D→J l [] W→W.heap[D]? =some (.deferred (some []))→Q .normal {a with defers:={target:=.collected D,args:=#[]} :: a.defers} W)
  (hstop:∀(D:Nat) (c:Code) (W:World),w.heap.size≤D→Jx c W→W.heap[D]? =some (.deferred (some []))→c.wpIn Fence.wide 0 P Q {a with defers:={target:=.collected D,args:=#[]} :: a.defers} W):
  (Code.rangeFunc g ps assign body).wpIn Fence.wide 0 P Q a w:=by
 refine range_outerK (enc:=enc) hg eg hit hps (fun s W=>∃d,l=d++s∧J d s W) Jx
  (fun s x a1 W=>∃G:World→Prop,SteadyM w.heap.size G∧G W∧∀(d:List α) (lp:Nat) (W2:World),w.heap.size+1<W2.heap.size→l=d++s→J d s W2→G W2→body.wpIn (Fence.wide.inRound lp) 0 P (roundEnd (fun W'=>KeepB w.heap.size W2 W'∧J (d++ [x]) (nxL s x) W') (fun c W'=>KeepB w.heap.size W2 W'∧Jx c W')) a1 W2)
  (fun s=>SteadyM.ex fun d=>(SteadyM.pure _ _).and (hJ d s)) hJx (fun _ _ _=>fun W W' row h hg hr=>let ⟨G,h1,h2,h3⟩:=h;⟨G,h1,h1 W W' row h2 hg hr,h3⟩) (fun s W ⟨d,_,h⟩=>hInv d s W h) ⟨[],rfl,h0⟩ ?_ ?_ ?_ hstop
 ·rintro lp s x W hz hok ⟨d,hd,hj⟩;have hs:=okL_cons hok;generalize nxL s x=r at hs⊢;subst hs;refine wpIn_mono (hround lp d x r W hz hd hj) ?_;rintro e a1 W1 he;cases e with
  |normal=>
   obtain⟨h1,h2,G,h4,h5,h3⟩:=he;refine⟨h1,⟨d,hd,h2⟩,⟨G,h4,h5,fun d' lp' W2 hz' hd' hj' hG'=>?_⟩⟩;have:d'=d:=by
    have:=hd'.symm.trans hd;exact List.append_cancel_right this
   subst this;exact h3 lp' W2 hz' hj' hG'
  |_=>exact he.elim
 ·rintro lp s x a1 W hlp ⟨r0,hr0⟩ hok ⟨d,hd,hj⟩ ⟨G,_,hG,hA⟩;refine wpIn_mono (hA d lp W (by have:=(Array.getElem?_eq_some_iff.1 hr0).1;omega) hd hj hG) ?_;rintro e a3 W3 he;cases e with
  |normal=>
   refine⟨he.1,⟨d++ [x],?_,he.2⟩⟩;rw[hd,List.append_assoc]
   congr 1
   exact okL_cons hok
  |ret=>exact he
  |exit id=>exact he
  |goto t=>exact he
  |panic ch=>exact he.elim
  |outgrown=>exact he.elim
 ·rintro D s W hD hf ⟨d,hd,hj⟩ hk;have hf:s= []:=hf;subst hf;rw[List.append_nil] at hd;subst hd;exact hdone D W hD hj hk
end

section
open Go.RowKit
def isVs:Obj→Bool
 | .cells _ t _=>t==168
 |_=>false
def isOw(o:Obj):Bool:=isBk o||isVs o
def OffT(T:World→Nat→Prop)(W W':World):Prop:=∀k,k<W.heap.size→¬T W k→W'.heap[k]? =W.heap[k]?
def SteadyO(B:Nat)(J:World→Prop):Prop:=
 ∀W W' row,J W→W.grownBy W' row→(∀r,row=some r→B≤r∧∃o:Obj,W.heap[r]? =some o∧isOw o=true)→J W'
theorem SteadyO.pure(B:Nat)(p:Prop):SteadyO B (fun _=>p):=fun _ _ _ h _ _=>h
theorem SteadyO.and{B:Nat}{J J':World→Prop}(h:SteadyO B J)(h':SteadyO B J'):SteadyO B (fun W=>J W∧J' W):=
 fun W W' row hj hg hr=>⟨h W W' row hj.1 hg hr,h' W W' row hj.2 hg hr⟩
theorem SteadyO.ex{B:Nat}{α:Sort _}{J:α→World→Prop}(h:∀x,SteadyO B (J x)):SteadyO B (fun W=>∃x,J x W):=
 fun W W' row ⟨x,hj⟩ hg hr=>⟨x,h x W W' row hj hg hr⟩
theorem block_keepO{W W':World}{row:Option Nat}{B k:Nat}{o:Obj}(hk:W.heap[k]? =some o)(ho:isOw o=false)(hg:W.grownBy W' row)
  (hr:∀r,row=some r→B≤r∧∃o:Obj,W.heap[r]? =some o∧isOw o=true):W'.heap[k]? =some o:=by
 refine(hg.block k (Array.getElem?_eq_some_iff.1 hk).1 (fun e=>?_)).trans hk
 obtain⟨_,o',ho',hb⟩:=hr k e.symm
 rw[hk] at ho';cases ho';rw[ho] at hb;cases hb
theorem SteadyO.low{B k:Nat}(hk:k<B)(o:Obj):SteadyO B (fun W=>W.heap[k]? =some o):=fun W W' row h hg hr=>by
 have h:W.heap[k]? =some o:=h
 exact(hg.block k (Array.getElem?_eq_some_iff.1 h).1 (fun e=>by have:=(hr k e.symm).1;omega)).trans h
theorem SteadyO.below{n₀ B:Nat}{w₀:World}(hn:n₀≤w₀.heap.size)(hB:n₀≤B):SteadyO B (fun W=>Below n₀ w₀ W):=
 fun _ _ _ hs hg hr=>hs.grown hg (Nat.le_trans hn hs.size) (fun k e=>Nat.le_trans hB (hr k e).1)
theorem SteadyO.ext{B:Nat}{J:World→Prop}(h:SteadyO B J){W W':World}(hj:J W)(hb:Below W.heap.size W W'):J W':=
 h W W' none hj ⟨hb.os,hb.tape,hb.output,hb.size,fun k hk _=>hb.block k hk⟩ (fun r e=>by cases e)
theorem SteadyO.put{B:Nat}{J:World→Prop}(h:SteadyO B J){W:World}{l:Nat}{o:Obj}(o':Obj)(hj:J W)(hl:B≤l)(ho:W.heap[l]? =some o)(hb:isOw o=true):J (W.putObj l o'):=
 h W _ (some l) hj (grownBy_putObj' W l o') (fun r e=>by cases e;exact⟨hl,o,ho,hb⟩)
def IterO{σ α:Type}(P:Program)(gf:Nat)(lb:Array Value)(enc:α→Array Value)(ok:σ→α→Prop)(nx:σ→α→σ)(s0:σ)(Fin:σ→Prop)(Inv:σ→World→Prop):Prop:=
 ∀(l:Nat) (K:σ→World→Prop) (Kx:World→Prop) (T:World→Nat→Prop) (W0:World),
  (∀s W W' row,K s W→W.grownBy W' row→(∀q,row=some q→W0.heap.size≤q∧∃o:Obj,W.heap[q]? =some o∧isOw o=true)→K s W')→(∀W W' row,Kx W→W.grownBy W' row→(∀q,row=some q→W0.heap.size≤q∧∃o:Obj,W.heap[q]? =some o∧isOw o=true)→Kx W')→(∀s W,K s W→Inv s W)→
  (∀s W k,K s W→T W k→k<W.heap.size)→(∀s W W' row k,K s W→W.grownBy W' row→(∀q,row=some q→W0.heap.size≤q∧∃o:Obj,W.heap[q]? =some o∧isOw o=true)→T W' k→T W k)→
  (∀s x W,ok s x→K s W→YieldAt Fence.wide 0 P l (enc x) W fun e W'=>(e=.returned (.bool true)∧K (nx s x) W'∧Tch T W W')∨(e=.returned (.bool false)∧Kx W'∧OffT T W W'))→
  K s0 W0→CallsIn Fence.wide 0 P gf (#[.func (.yield l) #[] #[]]++lb) W0 fun e W'=>(∃v,e=.returned v)∧((∃s,Fin s∧K s W')∨Kx W')
theorem range_outerO{P:Program}{σ α:Type}{g:Operand}{ps:Array Tmp}{assign body:Code}{Q:Exit→Act→World→Prop}{a:Act}{w:World}{gf:Nat}{lb:Array Value}
  (hg:a.eval g=.func (.func gf) #[] lb) (eg:∀args w,(callFunc gf args).run P w=.ok (.enter gf args) w)
  {enc:α→Array Value} {ok:σ→α→Prop} {nx:σ→α→σ} {s0:σ} {Fin:σ→Prop} {Inv:σ→World→Prop} (hit:IterO P gf lb enc ok nx s0 Fin Inv)
  (hps:∀x,(enc x).size=ps.size)
  (J:σ→World→Prop) (Jx:Code→World→Prop) (A:σ→α→Act→World→Prop)
  (hJ:∀s,SteadyO w.heap.size (J s)) (hJx:∀c,SteadyO w.heap.size (Jx c)) (hA:∀s x a,Steady w.heap.size (A s x a)) (hInv:∀s W,J s W→Inv s W)
  (T:World→Nat→Prop) (hT0:∀s W k,J s W→T W k→k<W.heap.size) (hTg:∀W W' row,W.grownBy W' row→(∀r,row=some r→w.heap.size≤r∧∃o:Obj,W.heap[r]? =some o∧isOw o=true)→(∃s,J s W)→∀k,T W' k→T W k)
  (h0:J s0 w)
  (hassign:∀(l:Nat) (s:σ) (x:α) (W:World),ok s x→J s W→
    assign.wpIn (Fence.wide.inRound l) 0 P (Exit.then (fun a1 W1=>Keep W W1∧J s W1∧A s x a1 W1∧Tch T W W1) (fun _ _ _=>False)) {tmps:=(ps.zip (enc x)).foldl (fun t (p,v)=>t.setIfInBounds p v) a.tmps,defers:= []} W)
  (hbody:∀(l:Nat) (s:σ) (x:α) (a1:Act) (W:World),ok s x→J s W→A s x a1 W→
    body.wpIn (Fence.wide.inRound l) 0 P (roundEnd (fun W'=>Keep W W'∧J (nx s x) W'∧Tch T W W') (fun c W'=>Keep W W'∧Jx c W'∧OffT T W W')) a1 W)
  (hdone:∀(D:Nat) (s:σ) (W:World),w.heap.size≤D→Fin s→J s W→W.heap[D]? =some (.deferred (some []))→Q .normal {a with defers:={target:=.collected D,args:=#[]} :: a.defers} W)
  (hstop:∀(D:Nat) (c:Code) (W:World),w.heap.size≤D→Jx c W→W.heap[D]? =some (.deferred (some []))→c.wpIn Fence.wide 0 P Q {a with defers:={target:=.collected D,args:=#[]} :: a.defers} W):
  (Code.rangeFunc g ps assign body).wpIn Fence.wide 0 P Q a w:=by
 refine wpIn_rangeFunc ?_
 intro fn hfn
 obtain⟨rec,hrec⟩:∃rec:LoopState→Option Code→Loop,rec=fun st pe=>{state:=st,pending:=pe,fn,tmps:=a.tmps,params:=ps,assign,body,defers:=w.heap.size}:=⟨_,rfl⟩
 obtain⟨W1,hW1⟩:∃W1,(w.alloc (.deferred (some []))).alloc (.loop (rec .ready none))=W1:=⟨_,rfl⟩
 have hL1:W1.heap[w.heap.size+1]? =some (.loop (rec .ready none)):=by
  rw[←hW1];have:=World.alloc_heap_new (w.alloc (.deferred (some []))) (.loop (rec .ready none));rwa [World.size_alloc] at this
 have hK1:W1.heap[w.heap.size]? =some (.deferred (some [])):=by
  rw[←hW1];exact(Below.heap_alloc _ _ _ (by simp)).trans (World.alloc_heap_new w _)
 have hb1:Below w.heap.size w W1:=by
  rw[←hW1];exact((Below.refl _ w).alloc (Nat.le_refl _) _).alloc (by simp) _
 have hI1:J s0 W1:=(hJ s0).ext h0 hb1
 have keepE:∀{W W':World} {k:Nat} {o:Obj},W.heap[k]? =some o→Below W.heap.size W W'→W'.heap[k]? =some o:=
  fun hk hb=>(hb.block _ (Array.getElem?_eq_some_iff.1 hk).1).trans hk
 refine⟨w.heap.size+1,[{target:=.collected w.heap.size,args:=#[]}],W1,{target:=.fn (.func gf) lb,args:=#[.func (.yield (w.heap.size+1)) #[] #[]]},W1,gf,
  #[.func (.yield (w.heap.size+1)) #[] #[]]++lb,W1,?_,?_,?_,?_,fun h=>by simp[Fence.wide] at h,?_⟩
 ·rw[←hW1,hrec];exact run_enterLoop_outer _ _ _ _ _
 ·simp only[resolve,hg];simp[go_sem]
 ·intro f' hf';trivial
 ·simp[invoke,go_sem,eg]
 ·refine(hit (w.heap.size+1)
   (fun s W=>J s W∧W.heap[w.heap.size+1]? =some (.loop (rec .ready none))∧W.heap[w.heap.size]? =some (.deferred (some [])))
   (fun W=>∃c,Jx c W∧W.heap[w.heap.size+1]? =some (.loop (rec .done (some c)))∧W.heap[w.heap.size]? =some (.deferred (some [])))
   (fun W k=>T W k∨k=w.heap.size+1∨k=w.heap.size)
   W1 (fun s A B row h hg hr=>by
    have hz:W1.heap.size=w.heap.size+1+1:=by rw[←hW1];simp
    refine⟨hJ s A B row h.1 hg (fun r e=>?_),(hg.block _ (Array.getElem?_eq_some_iff.1 h.2.1).1 (fun e=>?_)).trans h.2.1,(hg.block _ (Array.getElem?_eq_some_iff.1 h.2.2).1 (fun e=>?_)).trans h.2.2⟩
    ·obtain⟨h1,o,h2,h3⟩:=hr r e;exact⟨by omega,o,h2,h3⟩
    ·obtain⟨h1,_⟩:=hr _ e.symm;omega
    ·obtain⟨h1,_⟩:=hr _ e.symm
     omega)
   (fun A B row h hg hr=>by
     have hz:W1.heap.size=w.heap.size+1+1:=by rw[←hW1];simp
     obtain⟨c,h1,h2,h3⟩:=h;refine⟨c,hJx c A B row h1 hg (fun r e=>?_),(hg.block _ (Array.getElem?_eq_some_iff.1 h2).1 (fun e=>?_)).trans h2,(hg.block _ (Array.getElem?_eq_some_iff.1 h3).1 (fun e=>?_)).trans h3⟩
     ·obtain⟨q1,o,q2,q3⟩:=hr r e;exact⟨by omega,o,q2,q3⟩
     ·obtain⟨q1,_⟩:=hr _ e.symm;omega
     ·obtain⟨q1,_⟩:=hr _ e.symm
      omega)
   (fun s W h=>hInv s W h.1)
   (fun s W k h ht=>by
     rcases ht with ht|rfl|rfl
     ·exact hT0 s W k h.1 ht
     ·exact(Array.getElem?_eq_some_iff.1 h.2.1).1
     ·exact(Array.getElem?_eq_some_iff.1 h.2.2).1)
   (fun s A B row k h hg hr ht=>by
     have hz:W1.heap.size=w.heap.size+1+1:=by rw[←hW1];simp
     rcases ht with ht|ht
     ·exact .inl (hTg A B row hg (fun r e=>by
       obtain⟨h1,o,h2,h3⟩:=hr r e
       exact⟨by omega,o,h2,h3⟩) ⟨s,h.1⟩ k ht)
     ·exact .inr ht)
   ?_ ⟨hI1,hL1,hK1⟩).mono ?_
  ·rintro s x W hok ⟨hi,hl,hk⟩;have hy:=run_yield (P:=P) (args:=enc x) hl (by rw[hrec];exact hps x);rw[hrec] at hy;refine⟨fn,_,assign,body,hy,roundIn_of_wpIn hfn (wpIn_mono (hassign _ s x W hok hi) ?_)⟩;rintro e a1 V hp;cases e with
   |normal=>
    obtain⟨hkp,hiV,hAV,hTV⟩:=hp;have hlV:=hkp _ _ hl rfl;have hkV:=hkp _ _ hk rfl;have hlt:w.heap.size+1<V.heap.size:=(Array.getElem?_eq_some_iff.1 hlV).1;refine⟨_,run_beginRound hlV (by rw[hrec]),?_⟩;have hl2:(V.putObj (w.heap.size+1) (.loop {rec .ready none with state:=.busy})).heap[w.heap.size+1]? =some (.loop {rec .ready none with state:=.busy}):=World.putObj_heap_same hlt;have hk2:(V.putObj (w.heap.size+1) (.loop {rec .ready none with state:=.busy})).heap[w.heap.size]? =some (.deferred (some [])):=(World.putObj_heap_other (by omega)).trans hkV;refine wpIn_mono (hbody _ s x a1 _ hok ((hJ s).put _ hiV (by omega) hlV rfl) ((hA s x a1).put _ hAV (by omega) hlV rfl)) ?_
    have fin:∀(jump:Option Code) (W3:World),Keep (V.putObj (w.heap.size+1) (.loop {rec .ready none with state:=.busy})) W3→
      (Instr.endRound (w.heap.size+1) jump).run P W3=.ok (.bool jump.isNone) (W3.putObj (w.heap.size+1) (.loop (rec (if jump.isNone then .ready else .done) jump)))∧
      W3.heap[w.heap.size+1]? =some (.loop {rec .ready none with state:=.busy})∧
      (W3.putObj (w.heap.size+1) (.loop (rec (if jump.isNone then .ready else .done) jump))).heap[w.heap.size+1]? =some (.loop (rec (if jump.isNone then .ready else .done) jump))∧
      (W3.putObj (w.heap.size+1) (.loop (rec (if jump.isNone then .ready else .done) jump))).heap[w.heap.size]? =some (.deferred (some [])):=fun jump W3 hk3=>by
     have hl3:=hk3 _ _ hl2 rfl;have:=run_endRound (P:=P) jump hl3;rw[hrec] at this⊢;exact⟨this,by rw[hrec] at hl3;exact hl3,World.putObj_heap_same (Array.getElem?_eq_some_iff.1 hl3).1,(World.putObj_heap_other (by omega)).trans (hk3 _ _ hk2 rfl)⟩
    rintro e a3 W3 hp;cases e with
    |normal=>
     obtain⟨hk3,hi3,hT3⟩:=hp;obtain⟨hr,hl3,hl4,hk4⟩:=fin none W3 hk3;refine⟨_,_,hr,.inl ⟨rfl,⟨(hJ _).put _ hi3 (by omega) hl3 rfl,hl4,hk4⟩,?_⟩⟩;have g1:=grown_put V (w.heap.size+1) (.loop {rec .ready none with state:=.busy});have g2:=grown_put W3 (w.heap.size+1) (.loop (rec (if (none:Option Code).isNone then .ready else .done) none));have t1:∀k,T (V.putObj (w.heap.size+1) (.loop {rec .ready none with state:=.busy})) k→T V k:=hTg _ _ _ g1 (fun r hr=>by cases hr;exact⟨by omega,_,hlV,rfl⟩) ⟨s,hiV⟩;have t2:∀k,T (W3.putObj (w.heap.size+1) (.loop (rec (if (none:Option Code).isNone then .ready else .done) none))) k→T W3 k:=hTg _ _ _ g2 (fun r hr=>by cases hr;exact⟨by omega,_,hl3,rfl⟩) ⟨_,hi3⟩;have z1:(V.putObj (w.heap.size+1) (.loop {rec .ready none with state:=.busy})).heap.size=V.heap.size:=by simp
     have z2:(W3.putObj (w.heap.size+1) (.loop (rec (if (none:Option Code).isNone then .ready else .done) none))).heap.size=W3.heap.size:=by simp
     have s1:=hTV.1;have s3:=hT3.1;rw[z1] at s3;refine⟨by rw[z2];omega,fun k hk hn=>?_,fun k hk=>?_⟩
     ·have n1:k≠w.heap.size+1:=fun e=>hn (.inr (.inl e));have n0:¬T W k:=fun e=>hn (.inl e);have m1:¬T V k:=fun e=>(hTV.2.2 k e).elim n0 (by omega);have m2:=fun e=>m1 (t1 k e);rw[World.putObj_heap_other n1,hT3.2.1 k (by rw[z1];omega) m2,World.putObj_heap_other n1,hTV.2.1 k hk n0]
     ·rcases hk with hk|hk
      ·rcases hT3.2.2 k (t2 k hk) with h|h
       ·rcases hTV.2.2 k (t1 k h) with h|h
        ·exact .inl (.inl h)
        ·exact .inr h
       ·rw[z1] at h;exact .inr (by omega)
      ·exact .inl (.inr hk)
    |ret=>
     obtain⟨hk3,hi3,hT3⟩:=hp;obtain⟨hr,hl3,hl4,hk4⟩:=fin (some (.ret)) W3 hk3;have g1:=grown_put V (w.heap.size+1) (.loop {rec .ready none with state:=.busy});have t1:∀k,T (V.putObj (w.heap.size+1) (.loop {rec .ready none with state:=.busy})) k→T V k:=hTg _ _ _ g1 (fun r hr=>by cases hr;exact⟨by omega,_,hlV,rfl⟩) ⟨s,hiV⟩;have z1:(V.putObj (w.heap.size+1) (.loop {rec .ready none with state:=.busy})).heap.size=V.heap.size:=by simp
     have s1:=hTV.1;refine⟨_,_,hr,.inr ⟨rfl,⟨.ret,(hJx _).put _ hi3 (by omega) hl3 rfl,hl4,hk4⟩,fun k hk hn=>?_⟩⟩;have n1:k≠w.heap.size+1:=fun e=>hn (.inr (.inl e));have n0:¬T W k:=fun e=>hn (.inl e);have m1:¬T V k:=fun e=>(hTV.2.2 k e).elim n0 (by omega);have m2:=fun e=>m1 (t1 k e);rw[World.putObj_heap_other n1,hT3 k (by rw[z1];omega) m2,World.putObj_heap_other n1,hTV.2.1 k hk n0]
    |exit id=>
     obtain⟨hk3,hi3,hT3⟩:=hp;obtain⟨hr,hl3,hl4,hk4⟩:=fin (some (.exit id)) W3 hk3;have g1:=grown_put V (w.heap.size+1) (.loop {rec .ready none with state:=.busy});have t1:∀k,T (V.putObj (w.heap.size+1) (.loop {rec .ready none with state:=.busy})) k→T V k:=hTg _ _ _ g1 (fun r hr=>by cases hr;exact⟨by omega,_,hlV,rfl⟩) ⟨s,hiV⟩;have z1:(V.putObj (w.heap.size+1) (.loop {rec .ready none with state:=.busy})).heap.size=V.heap.size:=by simp
     have s1:=hTV.1;refine⟨_,_,hr,.inr ⟨rfl,⟨.exit id,(hJx _).put _ hi3 (by omega) hl3 rfl,hl4,hk4⟩,fun k hk hn=>?_⟩⟩;have n1:k≠w.heap.size+1:=fun e=>hn (.inr (.inl e));have n0:¬T W k:=fun e=>hn (.inl e);have m1:¬T V k:=fun e=>(hTV.2.2 k e).elim n0 (by omega);have m2:=fun e=>m1 (t1 k e);rw[World.putObj_heap_other n1,hT3 k (by rw[z1];omega) m2,World.putObj_heap_other n1,hTV.2.1 k hk n0]
    |goto t=>
     obtain⟨hk3,hi3,hT3⟩:=hp;obtain⟨hr,hl3,hl4,hk4⟩:=fin (some (.goto t)) W3 hk3;have g1:=grown_put V (w.heap.size+1) (.loop {rec .ready none with state:=.busy});have t1:∀k,T (V.putObj (w.heap.size+1) (.loop {rec .ready none with state:=.busy})) k→T V k:=hTg _ _ _ g1 (fun r hr=>by cases hr;exact⟨by omega,_,hlV,rfl⟩) ⟨s,hiV⟩;have z1:(V.putObj (w.heap.size+1) (.loop {rec .ready none with state:=.busy})).heap.size=V.heap.size:=by simp
     have s1:=hTV.1;refine⟨_,_,hr,.inr ⟨rfl,⟨.goto t,(hJx _).put _ hi3 (by omega) hl3 rfl,hl4,hk4⟩,fun k hk hn=>?_⟩⟩;have n1:k≠w.heap.size+1:=fun e=>hn (.inr (.inl e));have n0:¬T W k:=fun e=>hn (.inl e);have m1:¬T V k:=fun e=>(hTV.2.2 k e).elim n0 (by omega);have m2:=fun e=>m1 (t1 k e);rw[World.putObj_heap_other n1,hT3 k (by rw[z1];omega) m2,World.putObj_heap_other n1,hTV.2.1 k hk n0]
    |panic ch=>exact hp.elim
    |outgrown=>exact hp.elim
   |exit id=>exact hp.elim
   |goto t=>exact hp.elim
   |ret=>exact hp.elim
   |panic chain=>exact hp.elim
   |outgrown=>exact hp.elim
  ·rintro e W2 ⟨⟨v,rfl⟩,(⟨s,hS,hi,hl,hk⟩|⟨c,hi,hl,hk⟩)⟩
   ·exact⟨none,_,by have:=run_endLoop (P:=P) hl (by rw[hrec];simp);rw[hrec] at this;exact this,hdone _ s _ (Nat.le_refl _) hS ((hJ s).put _ hi (by omega) hl rfl) ((World.putObj_heap_other (by omega)).trans hk)⟩
   ·exact⟨some c,_,by have:=run_endLoop (P:=P) hl (by rw[hrec];simp);rw[hrec] at this;exact this,hstop _ c _ (Nat.le_refl _) ((hJx c).put _ hi (by omega) hl rfl) ((World.putObj_heap_other (by omega)).trans hk)⟩
def IterOI{α:Type}(P:Program)(gf:Nat)(lb:Array Value)(enc:α→Array Value)(l:List α)(I:World→Prop):Prop:=
 IterO P gf lb enc okL nxL l finL (fun _ W=>I W)
section
variable {P:Program}
theorem range_listO{α:Type}{g:Operand}{ps:Array Tmp}{assign body:Code}{Q:Exit→Act→World→Prop}{a:Act}{w:World}{gf:Nat}{lb:Array Value}
  (hg:a.eval g=.func (.func gf) #[] lb) (eg:∀args w,(callFunc gf args).run P w=.ok (.enter gf args) w)
  {enc:α→Array Value} {l:List α} (I:World→Prop) (hit:IterOI P gf lb enc l I) (hps:∀x,(enc x).size=ps.size)
  (J:List α→List α→World→Prop) (Jx:Code→World→Prop)
  (hJ:∀d r,SteadyO w.heap.size (J d r)) (hJx:∀c,SteadyO w.heap.size (Jx c)) (hInv:∀d r W,J d r W→I W)
  (T:World→Nat→Prop) (hT0:∀d r W k,J d r W→T W k→k<W.heap.size) (hTg:∀W W' row,W.grownBy W' row→(∀q,row=some q→w.heap.size≤q∧∃o:Obj,W.heap[q]? =some o∧isOw o=true)→(∃d r,J d r W)→∀k,T W' k→T W k)
  (h0:J [] l w)
  (hround:∀(lp:Nat) (d:List α) (x:α) (r:List α) (W:World),l=d++x :: r→J d (x :: r) W→
    assign.wpIn (Fence.wide.inRound lp) 0 P (Exit.then (fun a1 W1=>Keep W W1∧J d (x :: r) W1∧Tch T W W1∧∃G:World→Prop,Steady w.heap.size G∧G W1∧∀(lp:Nat) (W2:World),J d (x :: r) W2→G W2→
     body.wpIn (Fence.wide.inRound lp) 0 P (roundEnd (fun W'=>Keep W2 W'∧J (d++ [x]) r W'∧Tch T W2 W') (fun c W'=>Keep W2 W'∧Jx c W'∧OffT T W2 W')) a1 W2) (fun _ _ _=>False)) {tmps:=(ps.zip (enc x)).foldl (fun t (p,v)=>t.setIfInBounds p v) a.tmps,defers:= []} W)
  (hdone:∀(D:Nat) (W:World),w.heap.size≤D→J l [] W→W.heap[D]? =some (.deferred (some []))→Q .normal {a with defers:={target:=.collected D,args:=#[]} :: a.defers} W)
  (hstop:∀(D:Nat) (c:Code) (W:World),w.heap.size≤D→Jx c W→W.heap[D]? =some (.deferred (some []))→c.wpIn Fence.wide 0 P Q {a with defers:={target:=.collected D,args:=#[]} :: a.defers} W):
  (Code.rangeFunc g ps assign body).wpIn Fence.wide 0 P Q a w:=by
 refine range_outerO (enc:=enc) hg eg hit hps (fun s W=>∃d,l=d++s∧J d s W) Jx
  (fun s x a1 W=>∃G:World→Prop,Steady w.heap.size G∧G W∧∀(d:List α) (lp:Nat) (W2:World),l=d++s→J d s W2→G W2→body.wpIn (Fence.wide.inRound lp) 0 P (roundEnd (fun W'=>Keep W2 W'∧J (d++ [x]) (nxL s x) W'∧Tch T W2 W') (fun c W'=>Keep W2 W'∧Jx c W'∧OffT T W2 W')) a1 W2)
  (fun s=>SteadyO.ex fun d=>(SteadyO.pure _ _).and (hJ d s)) hJx (fun _ _ _=>fun W W' row h hg hr=>let ⟨G,h1,h2,h3⟩:=h;⟨G,h1,h1 W W' row h2 hg hr,h3⟩) (fun s W ⟨d,_,h⟩=>hInv d s W h) T (fun s W k ⟨d,_,h⟩ ht=>hT0 d s W k h ht) (fun W W' row hg hr ⟨s,d,_,h⟩=>hTg W W' row hg hr ⟨d,s,h⟩) ⟨[],rfl,h0⟩ ?_ ?_ ?_ hstop
 ·rintro lp s x W hok ⟨d,hd,hj⟩;have hs:=okL_cons hok;generalize nxL s x=r at hs⊢;subst hs;refine wpIn_mono (hround lp d x r W hd hj) ?_;rintro e a1 W1 he;cases e with
  |normal=>
   obtain⟨h1,h2,hT1,G,h4,h5,h3⟩:=he;refine⟨h1,⟨d,hd,h2⟩,⟨G,h4,h5,fun d' lp' W2 hd' hj' hG'=>?_⟩,hT1⟩;have:d'=d:=by
    have:=hd'.symm.trans hd;exact List.append_cancel_right this
   subst this;exact h3 lp' W2 hj' hG'
  |_=>exact he.elim
 ·rintro lp s x a1 W hok ⟨d,hd,hj⟩ ⟨G,_,hG,hA⟩;refine wpIn_mono (hA d lp W hd hj hG) ?_;rintro e a3 W3 he;cases e with
  |normal=>
   refine⟨he.1,⟨d++ [x],?_,he.2.1⟩,he.2.2⟩;rw[hd,List.append_assoc]
   congr 1
   exact okL_cons hok
  |ret=>exact he
  |exit id=>exact he
  |goto t=>exact he
  |panic ch=>exact he.elim
  |outgrown=>exact he.elim
 ·rintro D s W hD hf ⟨d,hd,hj⟩ hk;have hf:s= []:=hf;subst hf;rw[List.append_nil] at hd;subst hd;exact hdone D W hD hj hk
end
theorem range_innerO{P:Program}{σ α:Type}{g:Operand}{ps:Array Tmp}{assign body:Code}{Q:Exit→Act→World→Prop}{a:Act}{w:World}{l0:Nat}{r0:Loop}(hl0:w.heap[l0]? =some (.loop r0)){gf:Nat}{lb:Array Value}
  (hg:a.eval g=.func (.func gf) #[] lb) (eg:∀args w,(callFunc gf args).run P w=.ok (.enter gf args) w)
  {enc:α→Array Value} {ok:σ→α→Prop} {nx:σ→α→σ} {s0:σ} {Fin:σ→Prop} {Inv:σ→World→Prop} (hit:IterO P gf lb enc ok nx s0 Fin Inv)
  (hps:∀x,(enc x).size=ps.size)
  (J:σ→World→Prop) (Jx:Code→World→Prop) (A:σ→α→Act→World→Prop)
  (hJ:∀s,SteadyO w.heap.size (J s)) (hJx:∀c,SteadyO w.heap.size (Jx c)) (hA:∀s x a,Steady w.heap.size (A s x a)) (hInv:∀s W,J s W→Inv s W)
  (T:World→Nat→Prop) (hT0:∀s W k,J s W→T W k→k<W.heap.size) (hTg:∀W W' row,W.grownBy W' row→(∀r,row=some r→w.heap.size≤r∧∃o:Obj,W.heap[r]? =some o∧isOw o=true)→(∃s,J s W)→∀k,T W' k→T W k)
  (h0:J s0 w)
  (hassign:∀(l:Nat) (s:σ) (x:α) (W:World),ok s x→J s W→
    assign.wpIn (Fence.wide.inRound l) 0 P (Exit.then (fun a1 W1=>Keep W W1∧J s W1∧A s x a1 W1∧Tch T W W1) (fun _ _ _=>False)) {tmps:=(ps.zip (enc x)).foldl (fun t (p,v)=>t.setIfInBounds p v) a.tmps,defers:= []} W)
  (hbody:∀(l:Nat) (s:σ) (x:α) (a1:Act) (W:World),w.heap.size≤l→(∃r,W.heap[l]? =some (.loop r))→ok s x→J s W→A s x a1 W→
    body.wpIn (Fence.wide.inRound l) 0 P (roundEnd (fun W'=>Keep W W'∧J (nx s x) W'∧Tch T W W') (fun c W'=>Keep W W'∧Jx c W'∧OffT T W W')) a1 W)
  (hdone:∀(s:σ) (W:World),Fin s→J s W→Q .normal a W)
  (hstop:∀(c:Code) (W:World),Jx c W→c.wpIn (Fence.wide.inRound l0) 0 P Q a W):
  (Code.rangeFunc g ps assign body).wpIn (Fence.wide.inRound l0) 0 P Q a w:=by
 refine wpIn_rangeFunc ?_
 intro fn hfn
 obtain⟨rec,hrec⟩:∃rec:LoopState→Option Code→Loop,rec=fun st pe=>{state:=st,pending:=pe,fn,tmps:=a.tmps,params:=ps,assign,body,defers:=r0.defers}:=⟨_,rfl⟩
 obtain⟨W1,hW1⟩:∃W1,w.alloc (.loop (rec .ready none))=W1:=⟨_,rfl⟩
 have hL1:W1.heap[w.heap.size]? =some (.loop (rec .ready none)):=by rw[←hW1];exact World.alloc_heap_new w _
 have hb1:Below w.heap.size w W1:=by rw[←hW1];exact(Below.refl _ w).alloc (Nat.le_refl _) _
 have hI1:J s0 W1:=(hJ s0).ext h0 hb1
 have keepE:∀{W W':World} {k:Nat} {o:Obj},W.heap[k]? =some o→Below W.heap.size W W'→W'.heap[k]? =some o:=
  fun hk hb=>(hb.block _ (Array.getElem?_eq_some_iff.1 hk).1).trans hk
 refine⟨w.heap.size,[],W1,{target:=.fn (.func gf) lb,args:=#[.func (.yield w.heap.size) #[] #[]]},W1,gf,
  #[.func (.yield w.heap.size) #[] #[]]++lb,W1,?_,?_,?_,?_,fun h=>by simp[Fence.wide] at h,?_⟩
 ·rw[←hW1,hrec];exact run_enterLoop_inner hl0 _ _ _ _ _
 ·simp only[resolve,hg];simp[go_sem]
 ·intro f' hf';trivial
 ·simp[invoke,go_sem,eg]
 ·refine CallsIn.mono (hit w.heap.size
   (fun s W=>J s W∧W.heap[w.heap.size]? =some (.loop (rec .ready none)))
   (fun W=>∃c,Jx c W∧W.heap[w.heap.size]? =some (.loop (rec .done (some c))))
   (fun W k=>T W k∨k=w.heap.size)
   W1 (fun s A B row h hg hr=>by
    have hz:W1.heap.size=w.heap.size+1:=by rw[←hW1];simp
    refine⟨hJ s A B row h.1 hg (fun r e=>?_),(hg.block _ (Array.getElem?_eq_some_iff.1 h.2).1 (fun e=>?_)).trans h.2⟩
    ·obtain⟨h1,o,h2,h3⟩:=hr r e;exact⟨by omega,o,h2,h3⟩
    ·obtain⟨h1,_⟩:=hr _ e.symm
     omega)
   (fun A B row h hg hr=>by
     have hz:W1.heap.size=w.heap.size+1:=by rw[←hW1];simp
     obtain⟨c,h1,h2⟩:=h;refine⟨c,hJx c A B row h1 hg (fun r e=>?_),(hg.block _ (Array.getElem?_eq_some_iff.1 h2).1 (fun e=>?_)).trans h2⟩
     ·obtain⟨q1,o,q2,q3⟩:=hr r e;exact⟨by omega,o,q2,q3⟩
     ·obtain⟨q1,_⟩:=hr _ e.symm
      omega)
   (fun s W h=>hInv s W h.1)
   (fun s W k h ht=>by
     rcases ht with ht|rfl
     ·exact hT0 s W k h.1 ht
     ·exact(Array.getElem?_eq_some_iff.1 h.2).1)
   (fun s A B row k h hg hr ht=>by
     have hz:W1.heap.size=w.heap.size+1:=by rw[←hW1];simp
     rcases ht with ht|ht
     ·exact .inl (hTg A B row hg (fun r e=>by
       obtain⟨h1,o,h2,h3⟩:=hr r e
       exact⟨by omega,o,h2,h3⟩) ⟨s,h.1⟩ k ht)
     ·exact .inr ht) ?_ ⟨hI1,hL1⟩) ?_
  ·rintro s x W hok ⟨hi,hl⟩;have hy:=run_yield (P:=P) (args:=enc x) hl (by rw[hrec];exact hps x);rw[hrec] at hy;refine⟨fn,_,assign,body,hy,roundIn_of_wpIn (F:=Fence.wide) hfn (wpIn_mono (hassign _ s x W hok hi) ?_)⟩;rintro e a1 V hp;cases e with
   |normal=>
    obtain⟨hkp,hiV,hAV,hTV⟩:=hp;have hlV:=hkp _ _ hl rfl;have hlt:w.heap.size<V.heap.size:=(Array.getElem?_eq_some_iff.1 hlV).1;refine⟨_,run_beginRound hlV (by rw[hrec]),?_⟩;have hl2:(V.putObj w.heap.size (.loop {rec .ready none with state:=.busy})).heap[w.heap.size]? =some (.loop {rec .ready none with state:=.busy}):=World.putObj_heap_same hlt;refine wpIn_mono (hbody _ s x a1 _ (Nat.le_refl _) ⟨_,hl2⟩ hok ((hJ s).put _ hiV (Nat.le_refl _) hlV rfl) ((hA s x a1).put _ hAV (Nat.le_refl _) hlV rfl)) ?_
    have fin:∀(jump:Option Code) (W3:World),Keep (V.putObj w.heap.size (.loop {rec .ready none with state:=.busy})) W3→
      (Instr.endRound w.heap.size jump).run P W3=.ok (.bool jump.isNone) (W3.putObj w.heap.size (.loop (rec (if jump.isNone then .ready else .done) jump)))∧
      W3.heap[w.heap.size]? =some (.loop {rec .ready none with state:=.busy})∧
      (W3.putObj w.heap.size (.loop (rec (if jump.isNone then .ready else .done) jump))).heap[w.heap.size]? =some (.loop (rec (if jump.isNone then .ready else .done) jump)):=fun jump W3 hk3=>by
     have hl3:=hk3 _ _ hl2 rfl;have:=run_endRound (P:=P) jump hl3;rw[hrec] at this⊢;exact⟨this,by rw[hrec] at hl3;exact hl3,World.putObj_heap_same (Array.getElem?_eq_some_iff.1 hl3).1⟩
    rintro e a3 W3 hp;cases e with
    |normal=>
     obtain⟨hk3,hi3,hT3⟩:=hp;obtain⟨hr,hl3,hl4⟩:=fin none W3 hk3;refine⟨_,_,hr,.inl ⟨rfl,⟨(hJ _).put _ hi3 (Nat.le_refl _) hl3 rfl,hl4⟩,?_⟩⟩;have g1:=grown_put V w.heap.size (.loop {rec .ready none with state:=.busy});have g2:=grown_put W3 w.heap.size (.loop (rec (if (none:Option Code).isNone then .ready else .done) none));have t1:∀k,T (V.putObj w.heap.size (.loop {rec .ready none with state:=.busy})) k→T V k:=hTg _ _ _ g1 (fun r hr=>by cases hr;exact⟨Nat.le_refl _,_,hlV,rfl⟩) ⟨s,hiV⟩;have t2:∀k,T (W3.putObj w.heap.size (.loop (rec (if (none:Option Code).isNone then .ready else .done) none))) k→T W3 k:=hTg _ _ _ g2 (fun r hr=>by cases hr;exact⟨Nat.le_refl _,_,hl3,rfl⟩) ⟨_,hi3⟩;have z1:(V.putObj w.heap.size (.loop {rec .ready none with state:=.busy})).heap.size=V.heap.size:=by simp
     have z2:(W3.putObj w.heap.size (.loop (rec (if (none:Option Code).isNone then .ready else .done) none))).heap.size=W3.heap.size:=by simp
     have s1:=hTV.1;have s3:=hT3.1;rw[z1] at s3;refine⟨by rw[z2];omega,fun k hk hn=>?_,fun k hk=>?_⟩
     ·have n1:k≠w.heap.size:=fun e=>hn (.inr e);have n0:¬T W k:=fun e=>hn (.inl e);have m1:¬T V k:=fun e=>(hTV.2.2 k e).elim n0 (by omega);have m2:=fun e=>m1 (t1 k e);rw[World.putObj_heap_other n1,hT3.2.1 k (by rw[z1];omega) m2,World.putObj_heap_other n1,hTV.2.1 k hk n0]
     ·rcases hk with hk|hk
      ·rcases hT3.2.2 k (t2 k hk) with h|h
       ·rcases hTV.2.2 k (t1 k h) with h|h
        ·exact .inl (.inl h)
        ·exact .inr h
       ·rw[z1] at h;exact .inr (by omega)
      ·exact .inl (.inr hk)
    |ret=>
     obtain⟨hk3,hi3,hT3⟩:=hp;obtain⟨hr,hl3,hl4⟩:=fin (some (.ret)) W3 hk3;have g1:=grown_put V (w.heap.size) (.loop {rec .ready none with state:=.busy});have t1:∀k,T (V.putObj (w.heap.size) (.loop {rec .ready none with state:=.busy})) k→T V k:=hTg _ _ _ g1 (fun r hr=>by cases hr;exact⟨by omega,_,hlV,rfl⟩) ⟨s,hiV⟩;have z1:(V.putObj (w.heap.size) (.loop {rec .ready none with state:=.busy})).heap.size=V.heap.size:=by simp
     have s1:=hTV.1;refine⟨_,_,hr,.inr ⟨rfl,⟨.ret,(hJx _).put _ hi3 (Nat.le_refl _) hl3 rfl,hl4⟩,fun k hk hn=>?_⟩⟩;have n1:k≠w.heap.size:=fun e=>hn (.inr e);have n0:¬T W k:=fun e=>hn (.inl e);have m1:¬T V k:=fun e=>(hTV.2.2 k e).elim n0 (by omega);have m2:=fun e=>m1 (t1 k e);rw[World.putObj_heap_other n1,hT3 k (by rw[z1];omega) m2,World.putObj_heap_other n1,hTV.2.1 k hk n0]
    |exit id=>
     obtain⟨hk3,hi3,hT3⟩:=hp;obtain⟨hr,hl3,hl4⟩:=fin (some (.exit id)) W3 hk3;have g1:=grown_put V (w.heap.size) (.loop {rec .ready none with state:=.busy});have t1:∀k,T (V.putObj (w.heap.size) (.loop {rec .ready none with state:=.busy})) k→T V k:=hTg _ _ _ g1 (fun r hr=>by cases hr;exact⟨by omega,_,hlV,rfl⟩) ⟨s,hiV⟩;have z1:(V.putObj (w.heap.size) (.loop {rec .ready none with state:=.busy})).heap.size=V.heap.size:=by simp
     have s1:=hTV.1;refine⟨_,_,hr,.inr ⟨rfl,⟨.exit id,(hJx _).put _ hi3 (Nat.le_refl _) hl3 rfl,hl4⟩,fun k hk hn=>?_⟩⟩;have n1:k≠w.heap.size:=fun e=>hn (.inr e);have n0:¬T W k:=fun e=>hn (.inl e);have m1:¬T V k:=fun e=>(hTV.2.2 k e).elim n0 (by omega);have m2:=fun e=>m1 (t1 k e);rw[World.putObj_heap_other n1,hT3 k (by rw[z1];omega) m2,World.putObj_heap_other n1,hTV.2.1 k hk n0]
    |goto t=>
     obtain⟨hk3,hi3,hT3⟩:=hp;obtain⟨hr,hl3,hl4⟩:=fin (some (.goto t)) W3 hk3;have g1:=grown_put V (w.heap.size) (.loop {rec .ready none with state:=.busy});have t1:∀k,T (V.putObj (w.heap.size) (.loop {rec .ready none with state:=.busy})) k→T V k:=hTg _ _ _ g1 (fun r hr=>by cases hr;exact⟨by omega,_,hlV,rfl⟩) ⟨s,hiV⟩;have z1:(V.putObj (w.heap.size) (.loop {rec .ready none with state:=.busy})).heap.size=V.heap.size:=by simp
     have s1:=hTV.1;refine⟨_,_,hr,.inr ⟨rfl,⟨.goto t,(hJx _).put _ hi3 (Nat.le_refl _) hl3 rfl,hl4⟩,fun k hk hn=>?_⟩⟩;have n1:k≠w.heap.size:=fun e=>hn (.inr e);have n0:¬T W k:=fun e=>hn (.inl e);have m1:¬T V k:=fun e=>(hTV.2.2 k e).elim n0 (by omega);have m2:=fun e=>m1 (t1 k e);rw[World.putObj_heap_other n1,hT3 k (by rw[z1];omega) m2,World.putObj_heap_other n1,hTV.2.1 k hk n0]
    |panic ch=>exact hp.elim
    |outgrown=>exact hp.elim
   |exit id=>exact hp.elim
   |goto t=>exact hp.elim
   |ret=>exact hp.elim
   |panic chain=>exact hp.elim
   |outgrown=>exact hp.elim
  ·rintro e W2 ⟨⟨v,rfl⟩,(⟨s,hS,hi,hl⟩|⟨c,hi,hl⟩)⟩
   ·exact⟨none,_,by have:=run_endLoop (P:=P) hl (by rw[hrec];simp);rw[hrec] at this;exact this,hdone s _ hS ((hJ s).put _ hi (Nat.le_refl _) hl rfl)⟩
   ·exact⟨some c,_,by have:=run_endLoop (P:=P) hl (by rw[hrec];simp);rw[hrec] at this;exact this,hstop c _ ((hJx c).put _ hi (Nat.le_refl _) hl rfl)⟩
end

section
open Go.RowKit Go.Shelf
attribute [local go_sem] Oper.semAt_some wide_fn wide_depth wide_fnR wide_depthR
def ptsL(t:TermD)(S:Nat)(rs:List InsR):Nat→List (Nat×Nat)
 |0=> []
 |k+1=>(k,pointN t S (rs.drop k)) :: ptsL t S rs k
def encP(x:Nat×Nat):Array Value:=#[.int .i64 (x.1:Int),.agg (setW x.2)]
abbrev PtsI(x:BlkR)(S S0 B0:Nat)(W:World):Prop:=W.heap[S0]? =some (bsO S)∧W.heap[B0]? =some (blkO x.h)∧BlkROK W x
theorem points_any(h:BlkH)(S:Nat)(w:World):Calls Tryz.prog 84 #[blkV h,.agg (setW S)] w fun e w'=>e=.returned (.func (.func 182) #[] #[.pointer (some ⟨w.heap.size+1,0,none⟩),.pointer (some ⟨w.heap.size,0,none⟩)])∧w'=(w.alloc (blkO h)).alloc (bsO S):=by
 go_enter Tryz.func84,Tryz.ntmps84
 go_wp2
 go_ret
 exact⟨rfl,rfl⟩
theorem enter_points(args:Array Value)(w:World):(callFunc 182 args).run Tryz.prog w=.ok (.enter 182 args) w:=enters_of Tryz.func182 (by kernel_rfl) rfl args w
def PtJ(x:BlkR)(S:Nat)(K:List (Nat×Nat)→World→Prop)(T:World→Nat→Prop)(l A1 P4 G:Nat)(r:List (Nat×InsR))(W:World):Prop:=
 ∃k,r=backL x.rs k∧k≤x.h.n∧K (ptsL x.h.t S x.rs k) W∧W.cell? ⟨A1,0,none⟩=some (.func (.yield l) #[] #[])∧W.heap[P4]? =some (bsO (pointN x.h.t S (x.rs.drop k)))∧W.cell? ⟨G,0,none⟩=some (.slice x.h.ia x.h.n x.h.c)∧∀j,(j=A1∨j=P4∨j=G∨j=G+1∨j=G+2)→¬T W j
theorem PtJ.steady{x:BlkR}{S:Nat}{K:List (Nat×Nat)→World→Prop}{T:World→Nat→Prop}{l A1 P4 G B:Nat}{W0:World}{r:List (Nat×InsR)}
  (hK:∀s W W' row,K s W→W.grownBy W' row→(∀q,row=some q→W0.heap.size≤q∧∃o:Obj,W.heap[q]? =some o∧isOw o=true)→K s W')
  (hT:∀s W W' row k,K s W→W.grownBy W' row→(∀q,row=some q→W0.heap.size≤q∧∃o:Obj,W.heap[q]? =some o∧isOw o=true)→T W' k→T W k)
  (ha:W0.heap.size=A1) (hB:A1≤B):SteadyM B (fun W=>Hid (PtJ x S K T l A1 P4 G r W)):=by
 intro W V row h hg hr
 obtain⟨k,h1,h2,h3,h4,h5,h6,h7⟩:=h.out
 have hr2:∀q,row=some q→W0.heap.size≤q∧∃o:Obj,W.heap[q]? =some o∧isOw o=true:=fun q e=>by
  obtain⟨g1,o,g2,g3⟩:=hr q e;exact⟨by omega,o,g2,by unfold isOw;rw[g3];rfl⟩
 exact⟨k,h1,h2,hK _ _ _ row h3 hg hr2,SteadyM.cell B _ _ W V row h4 hg hr,block_keepM h5 rfl hg hr,SteadyM.cell B _ _ W V row h6 hg hr,fun j hj ht=>h7 j hj (hT _ _ _ row j h3 hg hr2 ht)⟩
theorem points_iter(x:BlkR)(S S0 B0:Nat)(hna:∀r∈x.rs,r.na≤1000000)(hn:x.h.n≤17592186044416):IterOI Tryz.prog 182 #[.pointer (some ⟨S0,0,none⟩),.pointer (some ⟨B0,0,none⟩)] encP (ptsL x.h.t S x.rs (x.h.n+1)) (PtsI x S S0 B0):=by
 intro l K Kx T W0 hK hKx hInv hT0 hTs hY h0
 refine callsIn_of_wp_marks Tryz.func182 rfl trivial ?_
 simp only[Tryz.ntmps182,List.size_toArray,List.length_cons,List.length_nil,Nat.reduceAdd,Nat.reduceSub,Array.replicate_succ,Array.replicate_zero,List.push_toArray,List.append_toArray,List.nil_append,List.cons_append]
 have HKE:Hid (∀s W W',K s W→Below W.heap.size W W'→K s W'):=fun s W W' h hb=>hK s W W' none h ⟨hb.os,hb.tape,hb.output,hb.size,fun k hk _=>hb.block k hk⟩ (fun r e=>by cases e)
 have HTE:Hid (∀s W W' k,K s W→Below W.heap.size W W'→T W' k→T W k):=fun s W W' k h hb=>hTs s W W' none k h ⟨hb.os,hb.tape,hb.output,hb.size,fun k hk _=>hb.block k hk⟩ (fun r e=>by cases e)
 have HK:=Lib.hid hK
 have HKX:=Lib.hid hKx
 have HT0:=Lib.hid hT0
 have HTS:=Lib.hid hTs
 have HY:=Lib.hid hY
 have HI:=Lib.hid hInv
 have HNA:=Lib.hid hna
 have H0:=Lib.hid h0
 clear hK hKx hInv hT0 hTs hY h0 hna
 gi_wp2
 generalize hW1:W0.alloc _=W1
 have HB1:Hid (Below W0.heap.size W0 W1):=by rw[←hW1];exact ext_alloc _ _
 have HA1:Hid (W1.cell? ⟨W0.heap.size,0,none⟩=some (.func (.yield l) #[] #[])):=by
  rw[Hid,←hW1,cell_of_row _ _ _ _ _ _ (heap_alloc_new W0 _)];rfl
 have HS1:Hid (W1.heap.size=W0.heap.size+1):=by rw[Hid,←hW1];simp
 have H1:=Lib.hid (HKE.out _ _ _ H0.out HB1.out)
 have HS:=Lib.hid (HI.out _ _ H1.out).1
 have HB:=Lib.hid (HI.out _ _ H1.out).2.1
 have HOK:=Lib.hid (HI.out _ _ H1.out).2.2
 clear hW1
 refine wpIn_wide.2 ?_
 refine region_free 6 [some 7,some 8,some 9,some 10,some 11,some 4] (by kernel_rfl) (by kernel_rfl) (specB [.val (.agg (setW S)),.val (.pointer (some ⟨B0,1,none⟩)),.val (termV x.h.t),(.any fun v lo hi W=>∃a n c,v=.slice a n c∧Ints W a n (needsT x.h.t)),.val (.agg (setW (withN S (needsT x.h.t)))),.new (bsO 0)]) (specB_mono ?_) ?_ ?_
 ·intro k hk;simp only[List.mem_cons,List.not_mem_nil,or_false] at hk;rcases hk with rfl|rfl|rfl|rfl|rfl|rfl
  ·exact trivial
  ·exact trivial
  ·exact trivial
  ·rintro v lo hi w w' hb ⟨a,n,c,h1,h2⟩;exact⟨a,n,c,h1,h2.ext hb⟩
  ·exact trivial
  ·exact trivial
 ·intro i hi ν lo hi' w1 K hB hD hK;have hcase:i=0∨i=1∨i=2∨i=3∨i=4∨i=5:=by omega
  clear hi;rcases hcase with rfl|rfl|rfl|rfl|rfl|rfl
  ·clear hD;refine wpOp_atK rfl rfl ?_;simp only[zA,zB,zC,zD,zE,zF,zJ,zK,zG,zH,zI] at hK⊢;refine wp_load_row 168 _ rfl S0 rfl 168 _ (0,0) _ (block_ext hB HS.out) Tryz.underlying168 rfl (by rw[setW_size];exact size_bset) ?_;exact hK _ _ (Below.refl _ _) rfl
  ·clear hD;refine wpOp_atK rfl rfl ?_;simp only[zA,zB,zC,zD,zE,zF,zJ,zK,zG,zH,zI] at hK⊢;have hbl:=lt_of_heap (block_ext hB HB.out);go_simp;exact hK _ _ (Below.refl _ _) rfl
  ·have e1:=hD 1 (by kernel_rfl)
   replace e1:ν 1=(.pointer (some ⟨B0,1,none⟩)):=e1
   clear hD;refine wpOp_atK rfl rfl ?_;simp only[zA,zB,zC,zD,zE,zF,zJ,zK,zG,zH,zI,e1] at hK⊢;have hb:=block_ext hB HB.out;have j0:w1.cell? ⟨B0,1,none⟩=some (.int .i64 x.h.t.kind):=by rw[cell_of_row _ _ _ _ _ _ hb];rfl
   have j1:w1.cell? ⟨B0,2,none⟩=some (.int .i64 x.h.t.a):=by rw[cell_of_row _ _ _ _ _ _ hb];rfl
   have j2:w1.cell? ⟨B0,3,none⟩=some (.int .i64 x.h.t.t0):=by rw[cell_of_row _ _ _ _ _ _ hb];rfl
   have j3:w1.cell? ⟨B0,4,none⟩=some (.int .i64 x.h.t.t1):=by rw[cell_of_row _ _ _ _ _ _ hb];rfl
   go_simp;exact hK _ _ (Below.refl _ _) rfl
  ·have e2:=hD 2 (by kernel_rfl)
   replace e2:ν 2=(termV x.h.t):=e2
   clear hD;refine wpOp_atK rfl rfl ?_;simp only[zA,zB,zC,zD,zE,zF,zJ,zK,zG,zH,zI,e2] at hK⊢;go_simp;refine(needsT_any x.h.t w1 HOK.out.1).mono ?_;rintro e w2 ⟨rv,rfl,ho,hb2⟩;obtain⟨ra,rc,rfl⟩:=ho.form;exact hK _ _ hb2 ⟨ra,_,rc,rfl,ho.ints⟩
  ·have e0:=hD 0 (by kernel_rfl)
   replace e0:ν 0=(.agg (setW S)):=e0
   have e3:=hD 3 (by kernel_rfl);unfold specB at e3;simp only[List.getD_cons_zero,List.getD_cons_succ,specK] at e3;clear hD;refine wpOp_atK rfl rfl ?_;simp only[zA,zB,zC,zD,zE,zF,zJ,zK,zG,zH,zI,e0] at hK⊢;obtain⟨na,nn,nc,e3,hN⟩:=e3;simp only[e3] at hK⊢;go_simp;refine(bWith_any S na nn nc (needsT x.h.t) w1 hN).mono ?_;rintro e w2 ⟨rfl,hb2⟩;exact hK _ _ hb2 rfl
  ·clear hD;refine wpOp_atK rfl rfl ?_;simp only[zA,zB,zC,zD,zE,zF,zJ,zK,zG,zH,zI] at hK⊢;go_simp;refine hK _ _ (ext_alloc _ _) ⟨rfl,by simp,?_⟩;rw[heap_alloc_new,zero_bset]
 ·intro ν lo hi w1 hB hS hI hD;have e0:ν 0=(.agg (setW S)):=hS 0 (by omega);have e1:ν 1=(.pointer (some ⟨B0,1,none⟩)):=hS 1 (by omega);have e2:ν 2=(termV x.h.t):=hS 2 (by omega);have e3:=hS 3 (by omega);unfold specB at e3;simp only[List.getD_cons_zero,List.getD_cons_succ,specK] at e3;have e4:ν 4=(.agg (setW (withN S (needsT x.h.t)))):=hS 4 (by omega);obtain⟨e5,l5,h5⟩:=hS 5 (by omega);clear hS;simp only[List.drop_succ_cons,List.drop_zero,zA,zB,zC,zD,zE,zF,zJ,zK,zG,zH,zI,e0,e1,e2,e4,e5];have i5:=hI 5 (by omega);have hls0:=lt_of_heap HS.out;have hlb0:=lt_of_heap HB.out;have hb1:=hB;generalize lo 5=P4 at *;have HP4:Hid (W1.heap.size≤P4):=i5.1;have HZ:=Lib.hid h5;have HBB:=Lib.hid hB;clear hI hD hB e0 e1 e2 e3 e4 e5 i5 l5 h5 hb1 hls0 hlb0
  go_wp2_with ((with_reducible show wpList _ _ _ (⟨none,.store 168 _ _,_,_,_,_⟩ :: _) _ _);refine wpList_store_row rfl 168 _ _ rfl P4 (setW (withN S (needsT x.h.t))) rfl rfl 168 _ HZ.out (by rw[setW_size];exact size_bset) (by rw[setW_size,setW_size]) (setW_all _) ?_)
  obtain⟨w3,hw3⟩:∃w3,w3=w1.setRow P4 (setW (withN S (needsT x.h.t))):=⟨_,rfl⟩
  rw[←hw3];have HZ3:Hid (w3.heap[P4]? =some (bsO (withN S (needsT x.h.t)))):=by rw[hw3];exact setRow_heap _ _ _ _ _ _ HZ.out
  have HB3:Hid (Below W1.heap.size W1 w3):=by rw[hw3];exact below_setRow HBB.out HP4.out _
  clear hw3;have HK3:=Lib.hid (HKE.out _ _ _ H1.out HB3.out);have HN4:Hid (¬T w3 P4):=fun h=>by have:=HT0.out _ _ _ H1.out (HTE.out _ _ _ _ H1.out HB3.out h);have:=HP4.out;omega
  have HN1:Hid (¬T w3 W0.heap.size):=fun h=>by have:=HT0.out _ _ _ H0.out (HTE.out _ _ _ _ H0.out HB1.out (HTE.out _ _ _ _ H1.out HB3.out h));omega
  have HA3:Hid (w3.cell? ⟨W0.heap.size,0,none⟩=some (.func (.yield l) #[] #[])):=cell_ext HB3.out HA1.out;have HL3:Hid (P4<w3.heap.size):=lt_of_heap HZ3.out;have HRL:Hid (x.rs.length=x.h.n):=HOK.out.2.1.1;have hbl3:=(HI.out _ _ HK3.out).2.1;have c0:w3.cell? ⟨B0,0,none⟩=some (.slice x.h.ia x.h.n x.h.c):=by rw[cell_of_row _ _ _ _ _ _ hbl3];rfl
  have hbl:=lt_of_heap hbl3;have ha3:=HA3.out;have hp0:pointN x.h.t S (x.rs.drop x.h.n)=withN S (needsT x.h.t):=by rw[List.drop_of_length_le (by rw[HRL.out];omega)];rfl
  obtain⟨fn,tmps,assign,body,hy,hR⟩:=HY.out (ptsL x.h.t S x.rs (x.h.n+1)) (x.h.n,withN S (needsT x.h.t)) w3 (by rw[ptsL,hp0];rfl) HK3.out;unfold encP at hy;have hT:nxL (ptsL x.h.t S x.rs (x.h.n+1)) (x.h.n,withN S (needsT x.h.t))=ptsL x.h.t S x.rs x.h.n:=rfl;rw[hT] at hR;have HR2:=Lib.hid hR;clear hbl3 hT hR hp0 H0 H1 HK3 HA1 HS HB HZ HBB HOK
  gi_wp2_with (first
   |((with_reducible show wpListIn _ _ _ _ _ (⟨some 16,.load _ _,_,_,_,_⟩ :: _) _ _);refine wpListIn_load_rowG rfl 168 _ rfl P4 rfl 168 _ (0,0) _ HZ3.out Tryz.underlying168 rfl (by rw[setW_size];exact size_bset) ?_))
  refine HR2.out.mono ?_;rintro e W' (⟨rfl,hK',hTch⟩|⟨rfl,hX',_⟩)
  ·have HK5:=Lib.hid hK';have HA5:Hid (W'.cell? ⟨W0.heap.size,0,none⟩=some (.func (.yield l) #[] #[])):=by
    have e:=hTch.2.1 W0.heap.size (by have:=HB3.out.size;have:=HS1.out;omega) HN1.out;rw[Hid,←HA3.out];unfold World.cell?;simp only[e]
   have HZ5:Hid (W'.heap[P4]? =some (bsO (withN S (needsT x.h.t)))):=(hTch.2.1 P4 HL3.out HN4.out).trans HZ3.out;have HN5:Hid (¬T W' P4):=fun h=>(hTch.2.2 P4 h).elim HN4.out (by have:=HL3.out;omega);have HN6:Hid (¬T W' W0.heap.size):=fun h=>(hTch.2.2 _ h).elim HN1.out (by have:=HB3.out.size;have:=HS1.out;omega);have HS5:Hid (W0.heap.size<P4∧P4<W'.heap.size):=⟨by have:=HP4.out;have:=HS1.out;omega,by have:=HL3.out;have:=hTch.1;omega⟩
   have hbl3:=(HI.out _ _ HK5.out).2.1;have c0:W'.cell? ⟨B0,0,none⟩=some (.slice x.h.ia x.h.n x.h.c):=by rw[cell_of_row _ _ _ _ _ _ hbl3];rfl
   have hbl:=lt_of_heap hbl3;clear hK' hTch hy HR2 ha3 HA3 HN1 HN4 HL3 HZ3 hbl3
   gi_wp2_with (
    (gi_at_call 184
     refine(callsIn_wide.2 (backIns_any x.h.ia x.h.n x.h.c W')).mono ?_;rintro e w4 ⟨rfl,hw4⟩;have HW4:=Lib.hid hw4
     clear hw4))
   have HB4:Hid (Below W'.heap.size W' w4):=by rw[HW4.out];exact ext_alloc _ _
   have HG4:Hid (w4.cell? ⟨W'.heap.size,0,none⟩=some (.slice x.h.ia x.h.n x.h.c)):=by rw[Hid,HW4.out,cell_of_row _ _ _ _ _ _ (heap_alloc_new W' _)];rfl
   have HZ4:Hid (w4.heap.size=W'.heap.size+1):=by rw[Hid,HW4.out];simp
   have HK4:=Lib.hid (HKE.out _ _ _ HK5.out HB4.out);have HA4:Hid (w4.cell? ⟨W0.heap.size,0,none⟩=some (.func (.yield l) #[] #[])):=cell_ext HB4.out HA5.out;have HP5:Hid (w4.heap[P4]? =some (bsO (withN S (needsT x.h.t)))):=block_ext HB4.out HZ5.out;obtain⟨G,hG⟩:∃G,W'.heap.size=G:=⟨_,rfl⟩
   obtain⟨A1,hA1⟩:∃A1,W0.heap.size=A1:=⟨_,rfl⟩
   have HN4:Hid (∀j,(j=A1∨j=P4∨j=G∨j=G+1∨j=G+2)→¬T w4 j):=fun j hj ht=>by
    have h4:=HT0.out _ _ _ HK4.out ht;have h5:=HTE.out _ _ _ _ HK5.out HB4.out ht;have h6:=HT0.out _ _ _ HK5.out h5;have hs:=HS5.out;have hz:=HZ4.out;rcases hj with rfl|rfl|rfl|rfl|rfl
    ·rw[←hA1] at h5;exact HN6.out h5
    ·exact HN5.out h5
    ·omega
    ·omega
    ·omega
   have HAG:Hid (A1<P4∧P4<G):=by rw[←hG,←hA1];exact HS5.out
   rw[hG] at HG4 HZ4⊢;rw[hA1] at HA4⊢;have HWA:=Lib.hid hA1;have HRI:Hid (∀W,PtsI x S S0 B0 W→InsS W x.h.ia x.h.n x.rs):=fun W h=>h.2.2.2;clear hG hA1 HW4 HK5 HA5 HZ5 HN5 HN6 HS5 HB4 c0 hbl
   refine range_listK (ps:=#[22,23]) (gf:=254) (lb:=#[.pointer (some ⟨G,0,none⟩)]) (enc:=encBIns) (l:=backL x.rs x.h.n) rfl enter_backIns _ (backIns_iterI G x.h.ia x.h.n x.h.c x.rs hn) (fun _=>rfl)
    (fun _ r W=>Hid (PtJ x S K T l A1 P4 G r W))
    (fun c W=>Hid (c=.ret∧Kx W)) ?hJ ?hJx ?hInv ?start ?round ?done ?stop
   case hJ=>exact fun d r=>PtJ.steady HK.out HTS.out HWA.out (by have:=HZ4.out;have:=HAG.out;omega)
   case hJx=>exact fun c W V row h hg hr=>⟨h.out.1,HKX.out _ _ row h.out.2 hg fun q e=>by
    obtain⟨h1,o,h2,h3⟩:=hr q e
    exact⟨by have:=HZ4.out;have:=HAG.out;have:=HWA.out;omega,o,h2,by unfold isOw;rw[h3];rfl⟩⟩
   case hInv=>
    rintro d r W h;obtain⟨k,_,_,hK,_,_,hG,_⟩:=h.out;exact⟨hG,HRI.out _ (HI.out _ _ hK)⟩
   case start=>exact⟨x.h.n,rfl,Nat.le_refl _,HK4.out,HA4.out,by rw[List.drop_of_length_le (by rw[HRL.out];omega)];exact HP5.out,HG4.out,HN4.out⟩
   case round=>
    rintro lp d x' r W hz hd hJ;obtain⟨k,hk,hkn,hK,hA,hP,hG,hN⟩:=hJ.out;cases k with
    |zero=>cases hk
    |succ k=>
     obtain⟨ri,hri⟩:∃ri,x.rs[k]? =some ri:=⟨x.rs[k]'(by rw[HRL.out];omega),List.getElem?_eq_getElem (by rw[HRL.out];omega)⟩
     rw[backL_step hri] at hk;obtain⟨rfl,rfl⟩:=List.cons.inj hk;have HRI2:=Lib.hid hri;have HKK:=Lib.hid hK;have HAA:=Lib.hid hA;have HPP:=Lib.hid hP;have HGG:=Lib.hid hG;have HNN:=Lib.hid hN;have HJJ:=Lib.hid hJ.out;have HZZ:Hid (G+2<W.heap.size):=by have:=HZ4.out;have:=hz;show G+2<_;omega
     have HZ4':Hid (w4.heap.size=G+1):=HZ4.out;unfold encBIns;clear hk hri hK hA hP hG hN hJ hz hd
     gi_wp2
     refine⟨fun j hj=>(ext_alloc W _).block j (by have:=HZZ.out;have:=HZ4'.out;omega),(PtJ.steady HK.out HTS.out HWA.out (B:=w4.heap.size) (by have:=HZ4.out;have:=HAG.out;omega)).ext HJJ (ext_alloc W _),fun V=>Hid (V.heap[W.heap.size]? =some (insO ri.d ri.aa ri.na ri.ca)),SteadyM.block _ _ rfl,heap_alloc_new _ _,?_⟩;obtain⟨N,hN⟩:∃N,W.heap.size=N:=⟨_,rfl⟩
     rw[hN];clear HKK HAA HPP HGG HNN HJJ HZZ hN lp W;rintro lp W2 hz2 hJ2 hG2;obtain⟨k2,hk2,hkn2,hK2,hA2,hP2,hG3,hN2⟩:=hJ2.out;obtain rfl:k2=k+1:=by
      cases k2 with
      |zero=>cases hk2
      |succ j=>
       rw[backL_step (List.getElem?_eq_getElem (show j<x.rs.length by rw[HRL.out];omega))] at hk2;have:=(Prod.mk.inj (List.cons.inj hk2).1).1;omega
     have hmem:ri∈x.rs:=List.mem_of_getElem? HRI2.out;have HIO:Hid (InsOK W2 ri):=(HRI.out _ (HI.out _ _ hK2)).2 ri hmem;have HRA:Hid (ri.na≤1000000):=HNA.out ri hmem;have HPN:Hid (aheadN (pointN x.h.t S (x.rs.drop (k+1))) ri.d=pointN x.h.t S (x.rs.drop k)):=by
      have hl:k<x.rs.length:=(List.getElem?_eq_some_iff.1 HRI2.out).1;have he:x.rs[k]=ri:=(List.getElem?_eq_some_iff.1 HRI2.out).2;rw[Hid,List.drop_eq_getElem_cons hl,he];rfl
     generalize pointN x.h.t S (x.rs.drop (k+1))=P1 at *;obtain⟨P2,hP2'⟩:∃P2,pointN x.h.t S (x.rs.drop k)=P2:=⟨_,rfl⟩
     have HPE:=Lib.hid hP2';rw[hP2'] at HPN;clear hP2';have HK2:=Lib.hid hK2;have HA2:=Lib.hid hA2;have HP2:=Lib.hid hP2;have HG3:=Lib.hid hG3;have HN2:=Lib.hid hN2;have HG2:=Lib.hid hG2.out;have HZ2:Hid (G+2<W2.heap.size):=by have:=HZ4'.out;show G+2<_;omega
     have hpl:=lt_of_heap hP2;clear hk2 hkn2 hK2 hA2 hP2 hG3 hN2 hG2 hJ2 hz2 hmem
     gi_upto_region 7 with (first
      |((with_reducible show wpListIn _ _ _ _ _ (⟨some 24,.load _ _,_,_,_,_⟩ :: _) _ _);refine wpListIn_load_rowG rfl 57 _ rfl N rfl 57 _ (0,0) _ HG2.out Tryz.underlying57 rfl size_insR ?_)
      |((with_reducible show wpListIn _ _ _ _ _ (⟨some 25,.load _ _,_,_,_,_⟩ :: _) _ _);refine wpListIn_load_rowG rfl 168 _ rfl P4 rfl 168 _ (0,0) _ HP2.out Tryz.underlying168 rfl (by rw[setW_size];exact size_bset) ?_)
      |(gi_at_call 185
        refine(CallsIn.inRound _ (callsIn_wide.2 (lAhead_any ri P1 W2 HIO.out HRA.out))).mono ?_;rw[HPN.out];rintro e w5 ⟨rfl,hb5⟩;have HB5:=Lib.hid hb5;have HP5:=Lib.hid (block_ext hb5 HP2.out)
        clear hb5)
      |((with_reducible show wpListIn _ _ _ _ _ (⟨none,.store 168 _ _,_,_,_,_⟩ :: _) _ _)
        refine listIn_of (by repeat (first|exact noOut_round|refine noOut_then ?_|refine noOut_block ?_)) _ _ _ rfl ?_
        refine wpList_store_row rfl 168 _ _ rfl P4 (setW P2) rfl rfl 168 _ HP5.out (by rw[setW_size];exact size_bset) (by rw[setW_size,setW_size]) (setW_all _) ?_))
     obtain⟨w6,hw6⟩:∃w6,w6=w5.setRow P4 (setW P2):=⟨_,rfl⟩
     rw[←hw6];have HP6:Hid (w6.heap[P4]? =some (bsO P2)):=by rw[hw6];exact setRow_heap _ _ _ _ _ _ HP5.out
     have hg6:w5.grownBy w6 (some P4):=by rw[hw6];exact⟨rfl,rfl,rfl,by simp[World.setRow],fun j _ hne=>setRow_other w5 P4 j _ (fun e=>hne (by rw[e]))⟩
     have hq6:∀q,some P4=some q→W0.heap.size≤q∧∃o:Obj,w5.heap[q]? =some o∧isOw o=true:=fun q e=>by cases e;exact⟨by have:=HAG.out;have:=HWA.out;omega,_,HP5.out,rfl⟩
     have hk5:=HKE.out _ _ _ HK2.out HB5.out;have HK6:=Lib.hid (HK.out _ _ _ (some P4) hk5 hg6 hq6);have HN6:Hid (∀j,(j=A1∨j=P4∨j=G∨j=G+1∨j=G+2)→¬T w6 j):=fun j hj ht=>HN2.out j hj (HTE.out _ _ _ _ HK2.out HB5.out (HTS.out _ _ _ (some P4) j hk5 hg6 hq6 ht));have hof:∀j,j<W2.heap.size→j≠P4→w6.heap[j]? =W2.heap[j]?:=fun j hj hne=>by rw[hw6,setRow_other _ _ _ _ hne,HB5.out.block j hj]
     have hz2:=HZ2.out;have hag:=HAG.out;have HA6:Hid (w6.cell? ⟨A1,0,none⟩=some (.func (.yield l) #[] #[])):=by rw[Hid,←HA2.out];unfold World.cell?;simp only[hof A1 (by omega) (by omega)]
     have HG6:Hid (w6.cell? ⟨G,0,none⟩=some (.slice x.h.ia x.h.n x.h.c)):=by rw[Hid,←HG3.out];unfold World.cell?;simp only[hof G (by omega) (by omega)]
     have HO6:Hid (∀j,j=G+1∨j=G+2→w6.heap[j]? =W2.heap[j]?):=fun j hj=>hof j (by omega) (by omega);have HZ6:Hid (G+2<w6.heap.size):=by have:=hg6.size;have:=HB5.out.size;show G+2<_;omega
     obtain⟨fn,tmps,assign,body,hy,hR⟩:=HY.out (ptsL x.h.t S x.rs (k+1)) (k,P2) w6 (by rw[ptsL,HPE.out];rfl) HK6.out;unfold encP at hy;have hT:nxL (ptsL x.h.t S x.rs (k+1)) (k,P2)=ptsL x.h.t S x.rs k:=rfl;rw[hT] at hR;have HR6:=Lib.hid hR;have ha6:=HA6.out;clear hT hR hof hz2 hag hk5 hq6 hg6 hw6 hpl HK2 HA2 HP2 HG3 HG2 HB5 HP5 HZ2 HIO HRA HPN HK6;go_wp2
     gi_wp2_with (first
      |((with_reducible show wpListIn _ _ _ _ _ (⟨some 29,.load _ _,_,_,_,_⟩ :: _) _ _);refine wpListIn_load_rowG rfl 168 _ rfl P4 rfl 168 _ (0,0) _ HP6.out Tryz.underlying168 rfl (by rw[setW_size];exact size_bset) ?_))
     refine RoundIn.mono (show RoundIn (Fence.wide.inRound lp) 0 _ _ _ _ _ _ _ _ from HR6.out) ?_;rintro e W7 (⟨rfl,hK7,hTch⟩|⟨rfl,hX7,hOff⟩)
     ·have HK7:=Lib.hid hK7;have HTch:=Lib.hid hTch;clear hK7 hTch hy HR6 ha6
      gi_wp2
      have hz6:=HZ6.out;have hag:=HAG.out;have hpl:=lt_of_heap HP6.out;refine⟨fun j hj=>(HTch.out.2.1 j (by have:=HZ4'.out;omega) (HN6.out j (by have:=HZ4'.out;omega))).trans (HO6.out j (by have:=HZ4'.out;omega)),k,rfl,by omega,HK7.out,?_,?_,?_,?_⟩
      ·rw[←HA6.out];unfold World.cell?;simp only[HTch.out.2.1 A1 (by omega) (HN6.out A1 (by simp))]
      ·rw[HPE.out];exact(HTch.out.2.1 P4 hpl (HN6.out P4 (by simp))).trans HP6.out
      ·rw[←HG6.out];unfold World.cell?;simp only[HTch.out.2.1 G (by omega) (HN6.out G (by simp))]
      ·exact fun j hj ht=>(HTch.out.2.2 j ht).elim (HN6.out j hj) (by omega)
     ·have HX7:=Lib.hid hX7;clear hX7 hy HR6 ha6;have HOF:=Lib.hid hOff;clear hOff
      gi_wp2
      have hz6:=HZ6.out;have hzz:=HZ4'.out;exact⟨fun j hj=>(HOF.out j (by omega) (HN6.out j (by omega))).trans (HO6.out j (by omega)),rfl,HX7.out⟩
   case done=>
    rintro D W hD hJ hdf;obtain⟨k,hk,hkn,hK,_⟩:=hJ.out;have hDK:k=0:=by
     cases k with
     |zero=>rfl
     |succ j=>
      rw[backL_step (List.getElem?_eq_getElem (by rw[HRL.out];omega))] at hk;cases hk
    subst hDK;have HDF:=Lib.hid hdf;have hKf:=HK.out _ _ _ (some D) hK (grownBy_putObj' W D (.deferred none)) (fun q e=>by cases e;exact⟨by have:=HZ4.out;have:=HAG.out;have:=HWA.out;omega,_,HDF.out,rfl⟩);have HKF:=Lib.hid hKf;clear hdf hKf hK hk hJ
    gi_wp2
    refine⟨by simp,.inl ⟨_,_,rfl,run_takeDeferred HDF.out,?_⟩⟩;exact⟨.tuple #[],by simp[results,Tryz.results182,go_sem],⟨_,rfl⟩,Or.inl ⟨_,rfl,HKF.out⟩⟩
   case stop=>
    rintro D c W hD hc hdf;obtain⟨rfl,hx⟩:=hc.out;have HDF:=Lib.hid hdf;have hXf:=HKX.out _ _ (some D) hx (grownBy_putObj' W D (.deferred none)) (fun q e=>by cases e;exact⟨by have:=HZ4.out;have:=HAG.out;have:=HWA.out;omega,_,HDF.out,rfl⟩);have HXF:=Lib.hid hXf;clear hdf hXf hx hc
    gi_wp2
    refine⟨by simp,.inl ⟨_,_,rfl,run_takeDeferred HDF.out,?_⟩⟩;exact⟨.tuple #[],by simp[results,Tryz.results182,go_sem],⟨_,rfl⟩,Or.inr HXF.out⟩
  ·have HX:=Lib.hid hX';clear hX' hy HR2
   gi_wp2
   exact⟨.tuple #[],by simp[results,Tryz.results182,go_sem],⟨_,rfl⟩,Or.inr HX.out⟩
end
end Go.Proofs.YthgebcfohnlhlaaGreatDoor
