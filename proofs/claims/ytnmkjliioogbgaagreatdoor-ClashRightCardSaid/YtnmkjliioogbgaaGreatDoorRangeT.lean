/-
 Slices of records of some cells that read as lists. No program in sight.
-/
import Derived.Test.YtnmkjliioogbgaaGreatDoorNR
import Derived.Laws.OwnMore
import Derived.RangeFuncRecord
import Derived.RangeFuncLeaves
import Derived.RangeFuncSeq
import Derived.RangeFuncIn
import Derived.RangeFuncOwn
import Derived.TacticsInMore
import Derived.LoopNIn
import Derived.LoopIn
import Derived.OwnWalkIn
import Derived.RangeFuncCalls
import Derived.Shelf.RegionOpen
import Derived.Deep.Quiet
import Derived.OrdersHeld
import Derived.Maps.AppendAt
import Derived.Deep.RegionHeld3
import Derived.Test.YtnmkjliioogbgaaGreatDoorRows
namespace Go.Proofs.YtnmkjliioogbgaaGreatDoor
set_option linter.unusedSimpArgs false
set_option linter.unusedVariables false
set_option linter.unusedSectionVars false
set_option maxRecDepth 100000
set_option maxHeartbeats 40000000
section
open Go.RowKit
theorem flatMap_at{α:Type}(cs:α→List Value)(size:Nat)(hs:∀x,(cs x).length=size)(l:List α)(k j:Nat)(hj:j<size)(x:α)(hx:l[k]? =some x):(l.flatMap cs)[k*size+j]? =(cs x)[j]?:=by
 induction l generalizing k with
 |nil=>simp at hx
 |cons y l ih=>
  rw[List.flatMap_cons];cases k with
  |zero=>
   simp only[List.getElem?_cons_zero,Option.some.injEq] at hx;subst hx;rw[Nat.zero_mul,Nat.zero_add,List.getElem?_append_left (by rw[hs];exact hj)]
  |succ k=>
   simp only[List.getElem?_cons_succ] at hx;rw[List.getElem?_append_right (by rw[hs,Nat.add_mul];omega),hs,show(k+1)*size+j-size=k*size+j by rw[Nat.add_mul];omega];exact ih k hx
theorem flatMap_len{α:Type}(cs:α→List Value)(size:Nat)(hs:∀x,(cs x).length=size)(l:List α):(l.flatMap cs).length=l.length*size:=by
 induction l with
 |nil=>simp
 |cons y l ih=>rw[List.flatMap_cons,List.length_append,ih,hs,List.length_cons,Nat.add_mul];omega
theorem takeS{α:Type}(l:List α)(k:Nat)(d:α)(h:k<l.length):l.take (k+1)=l.take k++ [l.getD k d]:=by
 rw[List.take_add_one,List.getElem?_eq_getElem h]
 simp[List.getD_eq_getElem?_getD,h]
def Recs{α:Type}(size:Nat)(cs:α→List Value)(w:World)(a:Option Addr)(n:Nat)(ls:List α):Prop:=
 ls.length=n∧n≤17592186044416∧∀k x,ls[k]? =some x→∃b o,a=some ⟨b,o,none⟩∧∀j,j<size→w.cell? ⟨b,o+k*size+j,none⟩=(cs x)[j]?
section
variable {α:Type} {size:Nat} {cs:α→List Value} {w w':World} {a:Option Addr} {n:Nat} {ls:List α}
theorem Recs.ext(h:Recs size cs w a n ls)(hs:∀x,(cs x).length=size)(hb:Below w.heap.size w w'):Recs size cs w' a n ls:=
 ⟨h.1,h.2.1,fun k x hx=>by
  obtain⟨b,o,e,hc⟩:=h.2.2 k x hx;refine⟨b,o,e,fun j hj=>?_⟩;have h1:=hc j hj;rw[List.getElem?_eq_getElem (by rw[hs];exact hj)] at h1⊢
  exact cell_ext hb h1⟩
theorem Recs.nil(size:Nat)(cs:α→List Value)(w:World):Recs size cs w none 0 []:=⟨rfl,by omega,fun k x hx=>by simp at hx⟩
theorem Recs.at_(h:Recs size cs w a n ls){k:Nat}(hk:k<n)(d:α):∃b o,a=some ⟨b,o,none⟩∧∀j,j<size→w.cell? ⟨b,o+k*size+j,none⟩=(cs (ls.getD k d))[j]?:=by
 have hk':k<ls.length:=by rw[h.1];exact hk
 obtain⟨b,o,e,hc⟩:=h.2.2 k (ls.getD k d) (by simp[List.getD_eq_getElem?_getD,hk'])
 exact⟨b,o,e,hc⟩
theorem recs_of_own{base:Nat}{e:TypeId}{v:Value}(hs:∀x,(cs x).length=size)(h:w.ownsRow base e size v ls.length (ls.flatMap cs))(hl:ls.length≤17592186044416):∃a c,v=.slice a ls.length c∧Recs size cs w a ls.length ls∧∀g o s,a=some ⟨g,o,s⟩→base≤g:=by
 rcases h.2 with ⟨rfl,h0⟩|⟨g,cap,cur,rfl,hb,_⟩
 ·have:ls= []:=List.eq_nil_of_length_eq_zero h0;subst this;exact⟨none,0,rfl,⟨rfl,hl,fun k x hx=>by simp at hx⟩,fun g o s e=>by cases e⟩
 ·refine⟨some ⟨g,0,none⟩,cap,rfl,⟨rfl,hl,fun k x hx=>⟨g,0,rfl,fun j hj=>?_⟩⟩,fun g' o s e=>?_⟩
  ·have hk:=(List.getElem?_eq_some_iff.1 hx).1;have hlt:k*size+j<ls.length*size:=by
    have:(k+1)*size≤ls.length*size:=Nat.mul_le_mul_right _ hk;rw[Nat.add_mul] at this;omega
   rw[Nat.zero_add,World.ownsRow.cellAt h (k*size+j) hlt,flatMap_at cs size hs ls k j hj x hx]
  ·simp only[Option.some.injEq,Addr.mk.injEq] at e;omega
end
end

section
open Go.RowKit
theorem wide_fn(f:FuncId):Fence.wide.fn f=True:=rfl
theorem wide_depth:Fence.wide.depth=none:=rfl
theorem wide_fnR(l:Nat)(f:FuncId):(Fence.wide.inRound l).fn f=True:=rfl
theorem wide_depthR(l:Nat):(Fence.wide.inRound l).depth=none:=rfl
def isBook:Obj→Bool
 | .loop _=>true
 | .deferred _=>true
 |_=>false
def Keep(W W':World):Prop:=∀(k:Nat) (o:Obj),W.heap[k]? =some o→isBook o=true→W'.heap[k]? =some o
theorem Keep.refl(W:World):Keep W W:=fun _ _ h _=>h
theorem Keep.trans{A B C:World}(h:Keep A B)(k:Keep B C):Keep A C:=fun i o hi ho=>k i o (h i o hi ho) ho
theorem Keep.alloc(W:World)(o:Obj):Keep W (W.alloc o):=fun k o' hk _=>(Below.heap_alloc W o k (Array.getElem?_eq_some_iff.1 hk).1).trans hk
theorem Keep.drew(W:World):Keep W W.drew:=fun _ _ h _=>h
theorem Keep.setCell(W:World)(a:Addr)(v:Value):Keep W (W.setCell a v):=fun k o hk ho=>by
 by_cases e:k=a.block
 ·subst e;obtain⟨hlt,hk'⟩:=Array.getElem?_eq_some_iff.1 hk;show(W.heap.modify a.block _)[a.block]? =some o;rw[Array.getElem?_eq_getElem (by rw[Array.size_modify];exact hlt),Array.getElem_modify_self,hk'];cases o<;>first|rfl|(simp[isBook] at ho)
 ·exact(Below.heap_setCell W a v k e).trans hk
theorem Keep.ext{W W':World}(h:Below W.heap.size W W'):Keep W W':=fun k _ hk _=>(h.block k (Array.getElem?_eq_some_iff.1 hk).1).trans hk
theorem Keep.grown{W W':World}{row:Option Nat}(hg:W.grownBy W' row)(hrow:∀(j:Nat) (o:Obj),row=some j→W.heap[j]? =some o→isBook o=false):Keep W W':=
 fun k o hk ho=>by
  refine(hg.block k (Array.getElem?_eq_some_iff.1 hk).1 ?_).trans hk;intro e;rw[hrow k o e.symm hk] at ho;cases ho
def Steady(B:Nat)(J:World→Prop):Prop:=
 ∀W W' row,J W→W.grownBy W' row→(∀r,row=some r→B≤r∧∃o:Obj,W.heap[r]? =some o∧isBook o=true)→J W'
theorem Steady.pure(B:Nat)(p:Prop):Steady B (fun _=>p):=fun _ _ _ h _ _=>h
theorem Steady.and{B:Nat}{J J':World→Prop}(h:Steady B J)(h':Steady B J'):Steady B (fun W=>J W∧J' W):=
 fun W W' row hj hg hr=>⟨h W W' row hj.1 hg hr,h' W W' row hj.2 hg hr⟩
theorem Steady.ex{B:Nat}{α:Sort _}{J:α→World→Prop}(h:∀x,Steady B (J x)):Steady B (fun W=>∃x,J x W):=
 fun W W' row ⟨x,hj⟩ hg hr=>⟨x,h x W W' row hj hg hr⟩
theorem Steady.all{B:Nat}{α:Sort _}{J:α→World→Prop}(h:∀x,Steady B (J x)):Steady B (fun W=>∀x,J x W):=
 fun W W' row hj hg hr x=>h x W W' row (hj x) hg hr
theorem Steady.imp{B:Nat}{p:Prop}{J:World→Prop}(h:Steady B J):Steady B (fun W=>p→J W):=
 fun W W' row hj hg hr hp=>h W W' row (hj hp) hg hr
theorem block_keep{W W':World}{row:Option Nat}{B k:Nat}{o:Obj}(hk:W.heap[k]? =some o)(ho:isBook o=false)(hg:W.grownBy W' row)
  (hr:∀r,row=some r→B≤r∧∃o:Obj,W.heap[r]? =some o∧isBook o=true):W'.heap[k]? =some o:=by
 refine(hg.block k (Array.getElem?_eq_some_iff.1 hk).1 (fun e=>?_)).trans hk
 obtain⟨_,o',ho',hb⟩:=hr k e.symm
 rw[hk] at ho';cases ho';rw[ho] at hb;cases hb
theorem Steady.block(B k:Nat){o:Obj}(ho:isBook o=false):Steady B (fun W=>W.heap[k]? =some o):=fun _ _ _ h hg hr=>block_keep h ho hg hr
theorem Steady.cell(B:Nat)(p:Addr)(v:Value):Steady B (fun W=>W.cell? p=some v):=fun W W' row h hg hr=>by
 have h:W.cell? p=some v:=h
 show W'.cell? p=some v
 unfold World.cell? at h⊢
 cases ho:W.heap[p.block]? with
 |none=>simp[ho] at h
 |some o=>
  rw[block_keep ho (by cases o<;>simp_all[isBook]) hg hr];rw[ho] at h;exact h
theorem Steady.below{n₀ B:Nat}{w₀:World}(hn:n₀≤w₀.heap.size)(hB:n₀≤B):Steady B (fun W=>Below n₀ w₀ W):=
 fun _ _ _ hs hg hr=>hs.grown hg (Nat.le_trans hn hs.size) (fun k e=>Nat.le_trans hB (hr k e).1)
theorem Steady.ownsRow(B:Nat)(base:Nat)(e:TypeId)(size:Nat)(v:Value)(n:Nat)(xs:List Value):Steady B (fun W=>W.ownsRow base e size v n xs):=
 fun W W' row h hg hr=>by
  refine⟨h.1,?_⟩;rcases h.2 with h2|⟨g,cap,cur,hv,hb,hh,r⟩
  ·exact Or.inl h2
  ·exact Or.inr ⟨g,cap,cur,hv,hb,block_keep hh rfl hg hr,r⟩
theorem Steady.ext{B:Nat}{J:World→Prop}(h:Steady B J){W W':World}(hj:J W)(hb:Below W.heap.size W W'):J W':=
 h W W' none hj ⟨hb.os,hb.tape,hb.output,hb.size,fun k hk _=>hb.block k hk⟩ (fun r e=>by cases e)
theorem Steady.put{B:Nat}{J:World→Prop}(h:Steady B J){W:World}{l:Nat}{o:Obj}(o':Obj)(hj:J W)(hl:B≤l)(ho:W.heap[l]? =some o)(hb:isBook o=true):J (W.putObj l o'):=
 h W _ (some l) hj (grownBy_putObj' W l o') (fun r e=>by cases e;exact⟨hl,o,ho,hb⟩)
def roundEnd(JN:World→Prop)(JX:Code→World→Prop):Exit→Act→World→Prop
 | .normal,_,W=>JN W
 | .ret,_,W=>JX .ret W
 | .exit id,_,W=>JX (.exit id) W
 | .goto t,_,W=>JX (.goto t) W
 | .panic _,_,_=>False
 | .outgrown,_,_=>False
def Iter{σ α:Type}(P:Program)(gf:Nat)(lb:Array Value)(enc:α→Array Value)(ok:σ→α→Prop)(nx:σ→α→σ)(s0:σ)(Fin:σ→Prop)(Inv:σ→World→Prop):Prop:=
 ∀(l:Nat) (K:σ→World→Prop) (Kx:World→Prop) (W:World),
  (∀s W W',K s W→Below W.heap.size W W'→K s W')→(∀W W',Kx W→Below W.heap.size W W'→Kx W')→(∀s W,K s W→Inv s W)→
  (∀s x W,ok s x→K s W→YieldAt Fence.wide 0 P l (enc x) W fun e W'=>(e=.returned (.bool true)∧K (nx s x) W')∨(e=.returned (.bool false)∧Kx W'))→
  K s0 W→CallsIn Fence.wide 0 P gf (#[.func (.yield l) #[] #[]]++lb) W fun e W'=>(∃v,e=.returned v)∧((∃s,Fin s∧K s W')∨Kx W')
theorem range_outer{P:Program}{σ α:Type}{g:Operand}{ps:Array Tmp}{assign body:Code}{Q:Exit→Act→World→Prop}{a:Act}{w:World}{gf:Nat}{lb:Array Value}
  (hg:a.eval g=.func (.func gf) #[] lb) (eg:∀args w,(callFunc gf args).run P w=.ok (.enter gf args) w)
  {enc:α→Array Value} {ok:σ→α→Prop} {nx:σ→α→σ} {s0:σ} {Fin:σ→Prop} {Inv:σ→World→Prop} (hit:Iter P gf lb enc ok nx s0 Fin Inv)
  (hps:∀x,(enc x).size=ps.size)
  (J:σ→World→Prop) (Jx:Code→World→Prop) (A:σ→α→Act→World→Prop)
  (hJ:∀s,Steady w.heap.size (J s)) (hJx:∀c,Steady w.heap.size (Jx c)) (hA:∀s x a,Steady w.heap.size (A s x a)) (hInv:∀s W,J s W→Inv s W)
  (h0:J s0 w)
  (hassign:∀(l:Nat) (s:σ) (x:α) (W:World),ok s x→J s W→
    assign.wpIn (Fence.wide.inRound l) 0 P (Exit.then (fun a1 W1=>Keep W W1∧J s W1∧A s x a1 W1) (fun _ _ _=>False)) {tmps:=(ps.zip (enc x)).foldl (fun t (p,v)=>t.setIfInBounds p v) a.tmps,defers:= []} W)
  (hbody:∀(l:Nat) (s:σ) (x:α) (a1:Act) (W:World),ok s x→J s W→A s x a1 W→
    body.wpIn (Fence.wide.inRound l) 0 P (roundEnd (fun W'=>Keep W W'∧J (nx s x) W') (fun c W'=>Keep W W'∧Jx c W')) a1 W)
  (hdone:∀(D:Nat) (s:σ) (W:World),w.heap.size≤D→Fin s→J s W→W.heap[D]? =some (.deferred (some []))→Q .normal {a with defers:={target:=.collected D,args:=#[]} :: a.defers} W)
  (hstop:∀(D:Nat) (c:Code) (W:World),w.heap.size≤D→Jx c W→W.heap[D]? =some (.deferred (some []))→c.wpIn Fence.wide 0 P Q {a with defers:={target:=.collected D,args:=#[]} :: a.defers} W):
  (Code.rangeFunc g ps assign body).wpIn Fence.wide 0 P Q a w:=by
 refine wpIn_rangeFunc ?_
 intro fn hfn
 obtain⟨rec,hrec⟩:∃rec:LoopState→Option Code→Loop,rec=fun st pe=>{state:=st,pending:=pe,fn,tmps:=a.tmps,params:=ps,assign,body,defers:=w.heap.size}:=⟨_,rfl⟩
 obtain⟨W1,hW1⟩:∃W1,(w.alloc (.deferred (some []))).alloc (.loop (rec .ready none))=W1:=⟨_,rfl⟩
 have hL1:W1.heap[w.heap.size+1]? =some (.loop (rec .ready none)):=by
  rw[←hW1];have:=World.alloc_heap_new (w.alloc (.deferred (some []))) (.loop (rec .ready none));rwa [World.size_alloc] at this
 have hK1:W1.heap[w.heap.size]? =some (.deferred (some [])):=by
  rw[←hW1];exact(Below.heap_alloc _ _ _ (by simp)).trans (World.alloc_heap_new w _)
 have hb1:Below w.heap.size w W1:=by
  rw[←hW1];exact((Below.refl _ w).alloc (Nat.le_refl _) _).alloc (by simp) _
 have hI1:J s0 W1:=(hJ s0).ext h0 hb1
 have keepE:∀{W W':World} {k:Nat} {o:Obj},W.heap[k]? =some o→Below W.heap.size W W'→W'.heap[k]? =some o:=
  fun hk hb=>(hb.block _ (Array.getElem?_eq_some_iff.1 hk).1).trans hk
 refine⟨w.heap.size+1,[{target:=.collected w.heap.size,args:=#[]}],W1,{target:=.fn (.func gf) lb,args:=#[.func (.yield (w.heap.size+1)) #[] #[]]},W1,gf,
  #[.func (.yield (w.heap.size+1)) #[] #[]]++lb,W1,?_,?_,?_,?_,fun h=>by simp[Fence.wide] at h,?_⟩
 ·rw[←hW1,hrec];exact run_enterLoop_outer _ _ _ _ _
 ·simp only[resolve,hg];simp[go_sem]
 ·intro f' hf';trivial
 ·simp[invoke,go_sem,eg]
 ·refine(hit (w.heap.size+1)
   (fun s W=>J s W∧W.heap[w.heap.size+1]? =some (.loop (rec .ready none))∧W.heap[w.heap.size]? =some (.deferred (some [])))
   (fun W=>∃c,Jx c W∧W.heap[w.heap.size+1]? =some (.loop (rec .done (some c)))∧W.heap[w.heap.size]? =some (.deferred (some [])))
   W1 (fun s A B h hb=>⟨(hJ s).ext h.1 hb,keepE h.2.1 hb,keepE h.2.2 hb⟩)
   (fun A B h hb=>by obtain⟨c,h1,h2,h3⟩:=h;exact⟨c,(hJx c).ext h1 hb,keepE h2 hb,keepE h3 hb⟩)
   (fun s W h=>hInv s W h.1) ?_ ⟨hI1,hL1,hK1⟩).mono ?_
  ·rintro s x W hok ⟨hi,hl,hk⟩;have hy:=run_yield (P:=P) (args:=enc x) hl (by rw[hrec];exact hps x);rw[hrec] at hy;refine⟨fn,_,assign,body,hy,roundIn_of_wpIn hfn (wpIn_mono (hassign _ s x W hok hi) ?_)⟩;rintro e a1 V hp;cases e with
   |normal=>
    obtain⟨hkp,hiV,hAV⟩:=hp;have hlV:=hkp _ _ hl rfl;have hkV:=hkp _ _ hk rfl;have hlt:w.heap.size+1<V.heap.size:=(Array.getElem?_eq_some_iff.1 hlV).1;refine⟨_,run_beginRound hlV (by rw[hrec]),?_⟩;have hl2:(V.putObj (w.heap.size+1) (.loop {rec .ready none with state:=.busy})).heap[w.heap.size+1]? =some (.loop {rec .ready none with state:=.busy}):=World.putObj_heap_same hlt;have hk2:(V.putObj (w.heap.size+1) (.loop {rec .ready none with state:=.busy})).heap[w.heap.size]? =some (.deferred (some [])):=(World.putObj_heap_other (by omega)).trans hkV;refine wpIn_mono (hbody _ s x a1 _ hok ((hJ s).put _ hiV (by omega) hlV rfl) ((hA s x a1).put _ hAV (by omega) hlV rfl)) ?_
    have fin:∀(jump:Option Code) (W3:World),Keep (V.putObj (w.heap.size+1) (.loop {rec .ready none with state:=.busy})) W3→
      (Instr.endRound (w.heap.size+1) jump).run P W3=.ok (.bool jump.isNone) (W3.putObj (w.heap.size+1) (.loop (rec (if jump.isNone then .ready else .done) jump)))∧
      W3.heap[w.heap.size+1]? =some (.loop {rec .ready none with state:=.busy})∧
      (W3.putObj (w.heap.size+1) (.loop (rec (if jump.isNone then .ready else .done) jump))).heap[w.heap.size+1]? =some (.loop (rec (if jump.isNone then .ready else .done) jump))∧
      (W3.putObj (w.heap.size+1) (.loop (rec (if jump.isNone then .ready else .done) jump))).heap[w.heap.size]? =some (.deferred (some [])):=fun jump W3 hk3=>by
     have hl3:=hk3 _ _ hl2 rfl;have:=run_endRound (P:=P) jump hl3;rw[hrec] at this⊢;exact⟨this,by rw[hrec] at hl3;exact hl3,World.putObj_heap_same (Array.getElem?_eq_some_iff.1 hl3).1,(World.putObj_heap_other (by omega)).trans (hk3 _ _ hk2 rfl)⟩
    rintro e a3 W3 hp;cases e with
    |normal=>
     obtain⟨hk3,hi3⟩:=hp;obtain⟨hr,hl3,hl4,hk4⟩:=fin none W3 hk3;exact⟨_,_,hr,.inl ⟨rfl,(hJ _).put _ hi3 (by omega) hl3 rfl,hl4,hk4⟩⟩
    |ret=>
     obtain⟨hk3,hi3⟩:=hp;obtain⟨hr,hl3,hl4,hk4⟩:=fin (some .ret) W3 hk3;exact⟨_,_,hr,.inr ⟨rfl,.ret,(hJx _).put _ hi3 (by omega) hl3 rfl,hl4,hk4⟩⟩
    |exit id=>
     obtain⟨hk3,hi3⟩:=hp;obtain⟨hr,hl3,hl4,hk4⟩:=fin (some (.exit id)) W3 hk3;exact⟨_,_,hr,.inr ⟨rfl,.exit id,(hJx _).put _ hi3 (by omega) hl3 rfl,hl4,hk4⟩⟩
    |goto t=>
     obtain⟨hk3,hi3⟩:=hp;obtain⟨hr,hl3,hl4,hk4⟩:=fin (some (.goto t)) W3 hk3;exact⟨_,_,hr,.inr ⟨rfl,.goto t,(hJx _).put _ hi3 (by omega) hl3 rfl,hl4,hk4⟩⟩
    |panic ch=>exact hp.elim
    |outgrown=>exact hp.elim
   |exit id=>exact hp.elim
   |goto t=>exact hp.elim
   |ret=>exact hp.elim
   |panic chain=>exact hp.elim
   |outgrown=>exact hp.elim
  ·rintro e W2 ⟨⟨v,rfl⟩,(⟨s,hS,hi,hl,hk⟩|⟨c,hi,hl,hk⟩)⟩
   ·exact⟨none,_,by have:=run_endLoop (P:=P) hl (by rw[hrec];simp);rw[hrec] at this;exact this,hdone _ s _ (Nat.le_refl _) hS ((hJ s).put _ hi (by omega) hl rfl) ((World.putObj_heap_other (by omega)).trans hk)⟩
   ·exact⟨some c,_,by have:=run_endLoop (P:=P) hl (by rw[hrec];simp);rw[hrec] at this;exact this,hstop _ c _ (Nat.le_refl _) ((hJx c).put _ hi (by omega) hl rfl) ((World.putObj_heap_other (by omega)).trans hk)⟩
end

section
open Go.RowKit
def notDefer(o:Oper):Bool:=match o.op with| .defer _=>false|_=>true
theorem rowsIn_of{n:Nat}{P:Program}{row:String}{args:Array Value}{w:World}{R:Value→World→Prop}(l:Nat)(h:Rows P row args w R):RowsIn (Fence.wide.inRound l) n P row args w R:=
 fun c cs _=>let ⟨v,w',r,s⟩:=h c cs;⟨v,w',r,stepsIn_wide.2 s⟩
theorem wpOpsIn_of{P:Program}{ops:Array Oper}{Q:Exit→Act→World→Prop}(l:Nat)(hn:∀(i:Nat) (o:Oper),ops[i]? =some o→notDefer o=true)(hQ:¬LetsOut Q):
  ∀(order:List Nat) (a:Act) (w:World),wpOps P ops Q order a w→wpOpsIn (Fence.wide.inRound l) 0 P ops Q order a w:=by
 intro order
 induction order with
 |nil=>intro a w h;exact h
 |cons i rest ih=>
  intro a w h;simp only[wpOps,wpOpsIn] at h⊢;cases ho:ops[i]? with
  |none=>simp only[ho] at h⊢;exact ih a w h
  |some o=>
   simp only[ho] at h⊢;by_cases hw:Region.wanted o (yielded ops a.tmps)=true
   ·simp only[hw,if_true] at h⊢;rcases h with h|⟨_,h⟩
    ·refine⟨fun _ _=>trivial,?_⟩;have hs:Oper.semAt (Fence.wide.inRound l).round a.eval o=execOp a.eval o:=Oper.semAt_some l _ _ (fun c hc=>by have:=hn i o ho;simp[notDefer,hc] at this);rw[hs];unfold Oper.wp at h;generalize (execOp a.eval o).run P w=r at h;cases r with
     |ok nx w'=>
      cases nx<;>simp only[Oper.upon,Oper.uponIn] at h⊢<;>first
       |exact ih _ _ h
       |exact⟨fun hh=>by simp[Fence.wide,Fence.inRound] at hh,(CallsIn.inRound l (callsIn_wide.2 (h.mono (fun e w'' he=>by cases e<;>first|exact ih _ _ he|exact he))))⟩
       |exact⟨fun hh=>by simp[Fence.wide,Fence.inRound] at hh,rowsIn_of l (h.mono (fun v w'' hv=>ih _ _ hv))⟩
       |exact h.elim
     |halt x w'=>cases x<;>simp only[Oper.upon,Oper.uponIn] at h⊢<;>exact h
    ·exact absurd h hQ
   ·simp only[hw] at h⊢;exact⟨fun _ _=>trivial,ih _ _ h⟩
theorem noOut_then{K:Act→World→Prop}{Q:Exit→Act→World→Prop}(h:¬LetsOut Q):¬LetsOut (Exit.then K Q):=h
theorem noOut_block{id:Nat}{Q:Exit→Act→World→Prop}(h:¬LetsOut Q):¬LetsOut (Exit.inBlock id Q):=h
theorem noOut_round{JN:World→Prop}{JX:Code→World→Prop}:¬LetsOut (roundEnd JN JX):=fun⟨_,_,h⟩=>h
end

section
open Go.RowKit
structure ExtW(w:World) where
 val:World
 ext:Below w.heap.size w val
instance(w:World):Nonempty (ExtW w):=⟨⟨w,Below.refl _ _⟩⟩
theorem ExtW.cell{w:World}{p:Addr}{v:Value}(h:w.cell? p=some v)(n:ExtW w):n.val.cell? p=some v:=cell_ext n.ext h
theorem quiet_ext{P:Program}{f:FuncId}{args:Array Value}{w:World}{n:ExtW w}{v:Value}
  (h:Calls P f args n.val fun e w'=>e=.returned v∧Below n.val.heap.size n.val w'):Calls P f args n.val fun e w''=>e=.returned v∧∃m:ExtW w,w''=m.val:=
 h.mono fun _ w' ⟨he,hb⟩=>⟨he,⟨w',ext_trans n.ext hb⟩,rfl⟩
theorem quiet_ext_same{P:Program}{f:FuncId}{args:Array Value}{w:World}{n:ExtW w}{v:Value}
  (h:Calls P f args n.val fun e w'=>e=.returned v∧n.val=w'):Calls P f args n.val fun e w''=>e=.returned v∧∃m:ExtW w,w''=m.val:=
 h.mono fun _ _ ⟨he,hb⟩=>⟨he,n,hb.symm⟩
theorem region_ext{P:Program}{id:Nat}{Q:Exit→Act→World→Prop}{a:Act}{w:World}{ol:List Oper}(hm:P.follows .mixedOrders=true)(hB:Region.lexB .any ol.toArray=true)
  (h:wpQuiet P ol.toArray (fun w'=>∃n:ExtW w,w'=n.val) (fun a'=>∀w',(∃n:ExtW w,w'=n.val)→Q .normal a' w') ol a):(Code.region id ol.toArray true).wp P Q a w:=
 wp_region_quiet (C:=fun w'=>∃n:ExtW w,w'=n.val) hm hB ⟨⟨_,ext_drewN (Below.refl _ _) 1⟩,rfl⟩ (by simpa using h)
theorem round_class{P:Program}{id:Nat}{Q:Exit→Act→World→Prop}{a:Act}{w:World}{ol:List Oper}{l:Nat}{C:World→Prop}(hm:P.follows .mixedOrders=true)(hB:Region.lexB .any ol.toArray=true)
  (hn:ol.all notDefer=true) (hQ:¬LetsOut Q) (hC:C {w with drawn:=w.drawn+1})
  (h:wpQuiet P ol.toArray C (fun a'=>∀w',C w'→Q .normal a' w') ol a):(Code.region id ol.toArray true).wpIn (Fence.wide.inRound l) 0 P Q a w:=by
 refine wpIn_region_draw fun t=>?_
 refine wpOpsIn_of l (fun i o ho=>?_) hQ _ _ _ ?_
 ·rw[List.all_eq_true] at hn
  exact hn o (by
   have:ol[i]? =some o:=by simpa using ho
   exact List.mem_of_getElem? this)
 ·simp only[Region.schedule,hm,Bool.true_or,if_true];simp only[Region.lexB,Bool.and_eq_true] at hB;refine wpAny_sound _ t _ a _ ?_;refine wpAny_of_quiet (C:=C) (Q:=fun a'=>∀w',C w'→Q .normal a' w') (fun _ w' hw' h=>h w' hw') _ _ _ _ hC ?_;have:=wpAnyQ_lex (C:=C) (md:=.any) hB.1 ol 0 (Array.replicate ol.toArray.size false) a (by simp) (by simpa using hB.2) h;simpa using this
theorem round_ext{P:Program}{id:Nat}{Q:Exit→Act→World→Prop}{a:Act}{w:World}{ol:List Oper}{l:Nat}(hm:P.follows .mixedOrders=true)(hB:Region.lexB .any ol.toArray=true)
  (hn:ol.all notDefer=true) (hQ:¬LetsOut Q)
  (h:wpQuiet P ol.toArray (fun w'=>∃n:ExtW w,w'=n.val) (fun a'=>∀w',(∃n:ExtW w,w'=n.val)→Q .normal a' w') ol a):(Code.region id ol.toArray true).wpIn (Fence.wide.inRound l) 0 P Q a w:=
 round_class hm hB hn hQ ⟨⟨_,ext_drewN (Below.refl _ _) 1⟩,rfl⟩ h
structure ClsW(F:World→Prop) where
 val:World
 prop:F val
theorem cls_mk{F:World→Prop}{w:World}(h:F w):∃n:ClsW F,w=n.val:=⟨⟨w,h⟩,rfl⟩
theorem cls_ne{F:World→Prop}{w:World}(h:F w):Nonempty (ClsW F):=⟨⟨w,h⟩⟩
def valOp(o:Oper):Bool:=match o.op with
 | .move _| .assign _| .pick .. | .build .. | .load .. | .binOp .. | .unOp .. | .convert .. | .slice .. | .fieldAddr .. | .field .. | .indexAddr .. | .index .. | .lookup .. | .extract .. | .makeInterface .. =>true
 | .nilCheck _=>true
 | .call {callee:=.builtin .len,..}| .call {callee:=.builtin .cap,..}| .call {callee:=.builtin .max,..}| .call {callee:=.builtin .min,..}=>true
 |_=>false
def IsVal(r:Result Next):Prop:=(∃v w,r=.ok (.value v) w)∨∃h w,r=.halt h w
theorem isVal_v{P:Program}(s:Sem Value)(w:World):IsVal ((do pure (Next.value (←s)):Sem Next).run P w):=by
 rw[Sem.run_bind]
 cases s.run P w with
 |ok x w'=>exact Or.inl ⟨x,w',by simp[Result.andThen]⟩
 |halt h w'=>exact Or.inr ⟨h,w',by simp[Result.andThen]⟩
theorem isVal_value{P:Program}(v:Value)(w:World):IsVal ((pure (Next.value v):Sem Next).run P w):=Or.inl ⟨v,w,by simp⟩
theorem isVal_bind{α:Type}{P:Program}(s:Sem α)(k:α→Sem Next)(w:World)(hk:∀x w,IsVal ((k x).run P w)):IsVal ((s >>= k).run P w):=by
 rw[Sem.run_bind]
 cases s.run P w with
 |ok x w'=>simpa[Result.andThen] using hk x w'
 |halt h w'=>exact Or.inr ⟨h,w',by simp[Result.andThen]⟩
theorem isVal_builtin{P:Program}(b:Builtin)(hb:b=.len∨b=.cap∨b=.max∨b=.min)(ts:Array TypeId)(t:TypeId)(cs:Array Bool)(args:Array Value)(w:World):IsVal ((builtin b ts t cs args).run P w):=by
 rcases hb with rfl|rfl|rfl|rfl<;>exact isVal_v _ _
theorem isVal_call{P:Program}(ρ:Operand→Value)(c:Call)(b:Builtin)(hc:c.callee=.builtin b)(hb:b=.len∨b=.cap∨b=.max∨b=.min)(t:TypeId)(w:World):
  IsVal ((do let d←resolve ρ c t;invoke d.target d.args:Sem Next).run P w):=by
 simp only[resolve,hc,Sem.run_bind,Sem.run_pure,Result.andThen]
 exact isVal_builtin b hb _ _ _ _ _
theorem isVal_panic{P:Program}(w:World):IsVal ((runtimePanic .nilDeref:Sem Next).run P w):=by
 refine Or.inr ?_
 simp[runtimePanic,Sem.run_bind,program,goPanic,Sem.run,Result.andThen]
theorem isVal_op{P:Program}(ρ:Operand→Value)(o:Oper)(h:valOp o=true)(w:World):IsVal ((execOp ρ o).run P w):=by
 unfold valOp at h
 unfold execOp
 cases ho:o.op with
 |call c=>
  simp only[ho] at h⊢;obtain⟨callee,args,ts⟩:=c;cases callee with
  |builtin b=>cases b<;>simp at h<;>exact isVal_call ρ _ _ rfl (by simp) _ _
  |value f=>simp at h
  |invoke r m=>simp at h
 |nilCheck x=>
  simp only
  split
  ·exact isVal_panic w
  ·exact isVal_panic w
  ·exact isVal_panic w
  ·split
   ·exact isVal_panic w
   ·exact isVal_bind _ _ _ (fun p w=>isVal_bind _ _ _ (fun y w=>by
     split
     ·exact isVal_bind _ _ _ (fun _ w=>isVal_value _ _)
     ·exact isVal_value _ _))
   ·exact isVal_value _ _
  ·exact isVal_value _ _
 |move x=>exact isVal_value _ _
 |assign x=>exact isVal_value _ _
 |pick c a b=>exact isVal_bind _ _ _ (fun x w=>isVal_value _ _)
 |_=>simp only[ho] at h<;>first|exact isVal_v _ _|(simp at h;done)
def wpMix(P:Program)(l:List Oper)(S:World→Prop)(Q:Exit→Act→World→Prop):List (Nat×Nat×Option (Nat×Bool))→Act→World→Prop
 | [],a,w=>Q .normal a w
 |(i,n,none) :: rest,a,w=>wpQuiet P l.toArray S (fun a'=>wpMix P l S Q rest a' w) ((l.drop i).take n) a
 |(i,n,some (e,true)) :: rest,a,w=>wpQuiet P l.toArray S (fun a'=>wpOp P l.toArray Q e (fun a'' w''=>S w''∧wpMix P l S Q rest a'' w'') a' w) ((l.drop i).take n) a
 |(i,n,some (e,false)) :: rest,a,w=>wpQuiet P l.toArray S (fun a'=>wpOp P l.toArray Q e (fun a'' w''=>wpMix P l S Q rest a'' w'') a' w) ((l.drop i).take n) a
def waits(l:List Oper):Nat→Nat→Nat→Bool
 |0,j,i=>match l[j]? with
  |some o=>o.after.any fun e=>Region.binds .any e&&e.on==i
  |none=>false
 |n+1,j,i=>waits l 0 j i||(match l[j]? with
  |some o=>o.after.any fun e=>Region.binds .any e&&waits l n e.on i
  |none=>false)
def maskOf(acc:List Nat)(o:Oper):Nat:=o.after.toList.foldl (fun m e=>if Region.binds .any e then m|||(1 <<< e.on)|||acc.getD e.on 0 else m) 0
def masks:List Oper→List Nat→List Nat
 | [],acc=>acc
 |o :: l,acc=>masks l (acc++ [maskOf acc o])
def reach(l:List Oper)(j i:Nat):Bool:=((masks l []).getD j 0).testBit i
def aloneB(l:List Oper)(j:Nat):Bool:=(List.range l.length).all fun i=>i==j||waits l 3 j i||waits l 3 i j||reach l j i||reach l i j
theorem maskOf_bit(acc:List Nat)(i:Nat):∀(es:List Edge) (m:Nat),(es.foldl (fun m e=>if Region.binds .any e then m|||(1 <<< e.on)|||acc.getD e.on 0 else m) m).testBit i=true→m.testBit i=true∨∃e∈es,Region.binds .any e=true∧(e.on=i∨(acc.getD e.on 0).testBit i=true)
 | [],m,h=>Or.inl h
 |e :: es,m,h=>by
  rw[List.foldl_cons] at h;rcases maskOf_bit acc i es _ h with h1|⟨e',he',hb⟩
  ·by_cases hb:Region.binds .any e=true
   ·rw[if_pos hb,Nat.testBit_or,Nat.testBit_or,Bool.or_eq_true,Bool.or_eq_true] at h1;rcases h1 with (h1|h1)|h1
    ·exact Or.inl h1
    ·refine Or.inr ⟨e,by simp,hb,Or.inl ?_⟩;rw[Nat.one_shiftLeft,Nat.testBit_two_pow] at h1;exact of_decide_eq_true h1
    ·exact Or.inr ⟨e,by simp,hb,Or.inr h1⟩
   ·rw[if_neg hb] at h1;exact Or.inl h1
  ·exact Or.inr ⟨e',by simp[he'],hb⟩
theorem masks_sound(l:List Oper):∀(l2:List Oper) (acc:List Nat),l.drop acc.length=l2→(∀j i,(acc.getD j 0).testBit i=true→∃n,waits l n j i=true)→∀j i,((masks l2 acc).getD j 0).testBit i=true→∃n,waits l n j i=true
 | [],acc,_,hacc=>hacc
 |o :: l2,acc,hd,hacc=>by
  have ho:l[acc.length]? =some o:=by
   have:(l.drop acc.length)[0]? =some o:=by rw[hd];rfl
   rwa [List.getElem?_drop,Nat.add_zero] at this
  refine masks_sound l l2 (acc++ [maskOf acc o]) ?_ ?_
  ·have:l.drop (acc.length+1)=l2:=by rw[←List.drop_drop,hd];rfl
   simpa using this
  ·intro j i h;by_cases hj:j<acc.length
   ·rw[List.getD_eq_getElem?_getD,List.getElem?_append_left hj,←List.getD_eq_getElem?_getD] at h;exact hacc j i h
   ·by_cases hj2:j=acc.length
    ·subst hj2;rw[List.getD_eq_getElem?_getD,List.getElem?_append_right (Nat.le_refl _),Nat.sub_self] at h;rcases maskOf_bit acc i o.after.toList 0 h with h0|⟨e,he,hb,h1⟩
     ·simp at h0
     ·have he':e∈o.after:=by simpa using he
      rcases h1 with rfl|h1
      ·refine⟨0,?_⟩;unfold waits;rw[ho];exact Array.any_eq_true'.2 ⟨e,he',by simp[hb]⟩
      ·obtain⟨n,hn⟩:=hacc _ _ h1;refine⟨n+1,?_⟩;rw[waits,ho,Bool.or_eq_true];exact Or.inr (Array.any_eq_true'.2 ⟨e,he',by simp[hb,hn]⟩)
    ·rw[List.getD_eq_getElem?_getD,List.getElem?_eq_none (by simp;omega)] at h;simp at h
theorem reach_sound{l:List Oper}{j i:Nat}(h:reach l j i=true):∃n,waits l n j i=true:=
 masks_sound l l [] rfl (fun j i h=>by simp at h) j i h
def Closed(l:List Oper)(listed:Array Bool):Prop:=∀(j:Nat) (o:Oper),l.toArray[j]? =some o→listed.getD j false=true→∀e∈o.after,Region.binds .any e=true→listed.getD e.on false=true
def okReads(l:List Oper):Nat→Nat→Array Bool→Option (Array Bool)
 |0,_,listed=>some listed
 |n+1,i,listed=>
  if (Region.ready .any l.toArray listed).contains i&&Region.free .any l.toArray listed i&&((l[i]?).map valOp).getD false then okReads l n (i+1) (listed.setIfInBounds i true) else none
def okMix(l:List Oper):List (Nat×Nat×Option (Nat×Bool))→Array Bool→Bool
 | [],listed=>(Region.ready .any l.toArray listed).isEmpty
 |(i,n,e) :: rest,listed=>
  match okReads l n i listed with
  |none=>false
  |some listed'=>
   match e with
   |none=>okMix l rest listed'
   |some (k,true)=>Region.ready .any l.toArray listed'== [k]&&okMix l rest (listed'.setIfInBounds k true)
   |some (k,false)=>Region.ready .any l.toArray listed'== [k]&&okMix l rest (listed'.setIfInBounds k true)&&aloneB l k&&rest.isEmpty
section
variable {P:Program} {l:List Oper} {S:World→Prop} {Q:Exit→Act→World→Prop}
theorem waits_listed{listed:Array Bool}(hc:Closed l listed):∀(n j i:Nat),listed.getD j false=true→waits l n j i=true→listed.getD i false=true:=by
 intro n
 induction n with
 |zero=>
  intro j i hj h;unfold waits at h
  split at h
  ·rename_i o ho
   obtain⟨e,he,hb⟩:=Array.any_eq_true'.1 h;simp only[Bool.and_eq_true,beq_iff_eq] at hb;exact hb.2▸hc j o (by simpa using ho) hj e he hb.1
  ·cases h
 |succ n ih=>
  intro j i hj h;have h0:∀(h:waits l 0 j i=true),listed.getD i false=true:=fun h=>by
   unfold waits at h
   split at h
   ·rename_i o ho
    obtain⟨e,he,hb⟩:=Array.any_eq_true'.1 h;simp only[Bool.and_eq_true,beq_iff_eq] at hb;exact hb.2▸hc j o (by simpa using ho) hj e he hb.1
   ·cases h
  rw[waits,Bool.or_eq_true] at h;rcases h with h|h
  ·exact h0 h
  ·split at h
   ·rename_i o ho
    obtain⟨e,he,hb⟩:=Array.any_eq_true'.1 h;simp only[Bool.and_eq_true] at hb;exact ih _ _ (hc j o (by simpa using ho) hj e he hb.1) hb.2
   ·cases h
theorem waits_ready{listed:Array Bool}(hc:Closed l listed){n j i:Nat}(hj:j∈Region.ready .any l.toArray listed)(h:waits l n j i=true):listed.getD i false=true:=by
 obtain⟨_,o,ho,hall⟩:=mem_ready.1 hj
 have ho':l[j]? =some o:=by simpa using ho
 have h0:∀(h:waits l 0 j i=true),listed.getD i false=true:=fun h=>by
  unfold waits at h;rw[ho'] at h;obtain⟨e,he,hb⟩:=Array.any_eq_true'.1 h;simp only[Bool.and_eq_true,beq_iff_eq] at hb;exact hb.2▸hall e he hb.1
 cases n with
 |zero=>exact h0 h
 |succ n=>
  rw[waits,Bool.or_eq_true] at h;rcases h with h|h
  ·exact h0 h
  ·rw[ho'] at h;obtain⟨e,he,hb⟩:=Array.any_eq_true'.1 h;simp only[Bool.and_eq_true] at hb;exact waits_listed hc n _ _ (hall e he hb.1) hb.2
theorem Closed.set{listed:Array Bool}(hc:Closed l listed){i:Nat}(hi:i∈Region.ready .any l.toArray listed):Closed l (listed.setIfInBounds i true):=by
 intro j o ho hl e he hb
 obtain⟨_,oi,hoi,hall⟩:=mem_ready.1 hi
 by_cases hij:i=j
 ·subst hij;rw[ho] at hoi;cases hoi;exact getD_set_true (hall e he hb)
 ·rw[getD_set_ne false hij] at hl;exact getD_set_true (hc j o ho hl e he hb)
theorem closed_none(n:Nat):Closed l (Array.replicate n false):=by
 intro j o _ hl
 rcases Nat.lt_or_ge j n with h|h
 ·simp[h] at hl
 ·simp[h] at hl
theorem not_both{i j:Nat}{listed:Array Bool}(hc:Closed l listed)(n:Nat)(hi:i∈Region.ready .any l.toArray listed)(hj:j∈Region.ready .any l.toArray listed):waits l n j i=false:=by
 cases h:waits l n j i with
 |false=>rfl
 |true=>
  have h1:=waits_ready hc hj h;have h0:=(mem_ready.1 hi).1;rcases Nat.lt_or_ge i listed.size with h'|h'
  ·simp[h'] at h0 h1;rw[h0] at h1;cases h1
  ·simp[Array.getElem?_eq_none h'] at h1
theorem not_reach{i j:Nat}{listed:Array Bool}(hc:Closed l listed)(hi:i∈Region.ready .any l.toArray listed)(hj:j∈Region.ready .any l.toArray listed):reach l j i=false:=by
 cases h:reach l j i with
 |false=>rfl
 |true=>
  obtain⟨n,hn⟩:=reach_sound h;rw[not_both hc n hi hj] at hn;cases hn
theorem not_alone{i j:Nat}{listed:Array Bool}(hc:Closed l listed)(hi:i∈Region.ready .any l.toArray listed)(hj:j∈Region.ready .any l.toArray listed)(hne:i≠j):aloneB l j=false:=by
 cases h:aloneB l j with
 |false=>rfl
 |true=>
  unfold aloneB at h;rw[List.all_eq_true] at h;have hlt:i<l.length:=by
   obtain⟨_,o,ho,_⟩:=mem_ready.1 hi;have:=(Array.getElem?_eq_some_iff.1 ho).1;simpa using this
  have:=h i (List.mem_range.2 hlt);simp only[Bool.or_eq_true,beq_iff_eq,not_both hc 3 hi hj,not_both hc 3 hj hi,not_reach hc hi hj,not_reach hc hj hi,hne] at this;simp at this
def wpAnyZ(P:Program)(l:List Oper)(Q:Exit→Act→World→Prop)(S:World→Prop):Nat→Array Bool→Act→World→Prop
 |0,listed,a,w=>Region.ready .any l.toArray listed= []∧Q .normal a w
 |fuel+1,listed,a,w=>
  (Region.ready .any l.toArray listed= []→Q .normal a w)∧
  ∀i∈Region.ready .any l.toArray listed,wpOp P l.toArray Q i (fun a' w'=>(aloneB l i=true∨S w')∧wpAnyZ P l Q S fuel (listed.setIfInBounds i true) a' w') a w
theorem wpAny_of_Z:∀(fuel:Nat) (listed:Array Bool) (a:Act) (w:World),wpAnyZ P l Q S fuel listed a w→wpAny P .any l.toArray Q fuel listed a w
 |0,_,_,_,h=>h
 |fuel+1,_,_,_,h=>⟨h.1,fun i hi=>wpOp_mono (fun a' w' h'=>wpAny_of_Z fuel _ a' w' h'.2) (h.2 i hi)⟩
theorem wpAnyZ_first{i:Nat}{oi:Oper}{v:Value}(hi:l.toArray[i]? =some oi)(hs:Region.noSelect l.toArray=true)(hQ:∀c a w,¬Q (.panic c) a w):
  ∀(fuel:Nat) (listed:Array Bool) (a:Act) (w:World),Closed l listed→Region.free .any l.toArray listed i=true→i∈Region.ready .any l.toArray listed→YieldsIf P l.toArray S oi v a→S w→
   wpAnyZ P l Q S fuel (listed.setIfInBounds i true) (a.put oi.dst v) w→wpAnyZ P l Q S (fuel+1) listed a w:=by
 have hsel:=Region.noSelect_spec hs
 have key:∀(fuel:Nat) (listed:Array Bool) (a:Act) (w:World),Closed l listed→
   (∀j oj,l.toArray[j]? =some oj→j≠i→listed.getD j true=false→(∀e∈oj.after,Region.binds .any e=true→e.on≠i)→oi.apart l.toArray oj=true)→
   i∈Region.ready .any l.toArray listed→YieldsIf P l.toArray S oi v a→S w→
   wpAnyZ P l Q S fuel (listed.setIfInBounds i true) (a.put oi.dst v) w→wpAnyZ P l Q S (fuel+1) listed a w:=by
  intro fuel
  induction fuel with
  |zero=>
   intro listed a w _ _ hr hy hS H;refine⟨fun h=>absurd (h▸hr) (by simp),fun j hj=>?_⟩;by_cases hji:j=i
   ·subst hji;exact hy.wpOp hi hS ⟨Or.inr hS,H⟩
   ·exact absurd (H.1▸ready_mono hj hji) (by simp)
  |succ fuel ih=>
   intro listed a w hcl hfree hr hy hS H;refine⟨fun h=>absurd (h▸hr) (by simp),fun j hj=>?_⟩;by_cases hji:j=i
   ·subst hji;exact hy.wpOp hi hS ⟨Or.inr hS,H⟩
   ·have hal:=not_alone hcl hr hj (Ne.symm hji);have hnw:=not_both hcl 0 hr hj;have h1:=H.2 j (ready_mono hj hji);obtain⟨hjun,oj,hoj,_⟩:=mem_ready.1 hj;have hnot:∀e∈oj.after,Region.binds .any e=true→e.on≠i:=fun e he hb heq=>by
     have:waits l 0 j i=true:=by
      unfold waits;have hoj':l[j]? =some oj:=by simpa using hoj
      rw[hoj'];exact Array.any_eq_true'.2 ⟨e,he,by simp[hb,heq]⟩
     rw[hnw] at this;cases this
    have h2:=wpOp_putIf hoj (hfree j oj hoj hji hjun hnot) (fun cs b=>hsel i oi cs b hi) (fun cs b=>hsel j oj cs b hoj) (fun c a w hp=>absurd hp (hQ _ _ _)) hy h1;refine wpOp_mono (fun a' w' h3=>?_) h2;have hS':S w':=h3.2.1.resolve_left (by rw[hal];simp);refine⟨Or.inr hS',ih (listed.setIfInBounds j true) a' w' (hcl.set hj) (fun k ok hk hki hun hno=>?_) (ready_mono hr (Ne.symm hji)) h3.1 hS' ?_⟩
    ·refine hfree k ok hk hki ?_ hno;by_cases hjk:j=k
     ·subst hjk;exact hjun
     ·rw[getD_set_ne true hjk] at hun;exact hun
    ·rw[Array.setIfInBounds_comm _ _ hji];exact h3.2.2
 intro fuel listed a w hcl hf
 exact key fuel listed a w hcl (Region.free_spec hi hf)
theorem yieldsIf_of_quiet{o:Oper}{a:Act}{K:Act→Prop}(hv:valOp o=true)(hw:Region.wanted o (yielded l.toArray a.tmps)=true)(h:o.quiet P a S K):
  ∃v,YieldsIf P l.toArray S o v a∧K (a.put o.dst v):=by
 obtain⟨v,h1,h2⟩:=h
 refine⟨v,Or.inl ⟨hw,fun w hs=>?_⟩,h2⟩
 have:=h1 w hs
 unfold Oper.quietAt at this
 rcases isVal_op (P:=P) a.eval o hv w with ⟨x,w',e⟩|⟨x,w',e⟩
 ·rw[e] at this⊢;obtain⟨rfl,rfl⟩:=this;rfl
 ·rw[e] at this;exact this.elim
theorem reads_first(hs:Region.noSelect l.toArray=true)(hQ:∀c a w,¬Q (.panic c) a w)(fuel:Nat)(w:World)(hS:S w)(K:Act→Prop):
  ∀(n i:Nat) (listed listed':Array Bool) (a:Act),Closed l listed→okReads l n i listed=some listed'→(Closed l listed'→∀a',K a'→wpAnyZ P l Q S fuel listed' a' w)→
   wpQuiet P l.toArray S K ((l.drop i).take n) a→wpAnyZ P l Q S (fuel+n) listed a w:=by
 intro n
 induction n with
 |zero=>
  intro i listed listed' a hcl hok hK h;simp only[okReads,Option.some.injEq] at hok;subst hok;simp only[List.take_zero] at h;exact hK hcl a h
 |succ n ih=>
  intro i listed listed' a hcl hok hK h;simp only[okReads] at hok
  split at hok
  ·rename_i hc
   simp only[Bool.and_eq_true] at hc;obtain⟨⟨hr,hf⟩,hv⟩:=hc;cases ho:l[i]? with
   |none=>simp[ho] at hv
   |some o=>
    simp only[ho,Option.map_some,Option.getD_some] at hv;have hlt:i<l.length:=(List.getElem?_eq_some_iff.1 ho).1;have hd:(l.drop i).take (n+1)=o :: (l.drop (i+1)).take n:=by
     rw[List.drop_eq_getElem_cons hlt,List.take_succ_cons]
     congr 1
     exact(List.getElem?_eq_some_iff.1 ho).2
    rw[hd] at h;simp only[wpQuiet] at h;have hoA:l.toArray[i]? =some o:=by simpa using ho
    have hr':i∈Region.ready .any l.toArray listed:=by simpa using hr
    have e1:fuel+(n+1)=(fuel+n)+1:=by omega
    rw[e1];by_cases hw:Region.wanted o (yielded l.toArray a.tmps)=true
    ·rw[if_pos hw] at h;obtain⟨v,hy,hk⟩:=yieldsIf_of_quiet hv hw h;exact wpAnyZ_first hoA hs hQ _ _ _ _ hcl hf hr' hy hS (ih (i+1) _ _ _ (hcl.set hr') hok hK hk)
    ·rw[if_neg hw] at h;exact wpAnyZ_first hoA hs hQ _ _ _ _ hcl hf hr' (Or.inr ⟨by simpa using hw,rfl⟩) hS (ih (i+1) _ _ _ (hcl.set hr') hok hK h)
  ·cases hok
def segFuel:List (Nat×Nat×Option (Nat×Bool))→Nat
 | []=>0
 |(_,n,none) :: rest=>segFuel rest+n
 |(_,n,some _) :: rest=>segFuel rest+1+n
theorem mix_sound(hs:Region.noSelect l.toArray=true)(hQ:∀c a w,¬Q (.panic c) a w):
  ∀(segs:List (Nat×Nat×Option (Nat×Bool))) (listed:Array Bool) (a:Act) (w:World),Closed l listed→okMix l segs listed=true→(S w∨segs= [])→wpMix P l S Q segs a w→wpAnyZ P l Q S (segFuel segs) listed a w:=by
 intro segs
 induction segs with
 |nil=>
  intro listed a w _ hok _ h;simp only[okMix,List.isEmpty_iff] at hok;exact⟨hok,h⟩
 |cons seg rest ih=>
  intro listed a w hcl hok hS0 h;have hS:S w:=hS0.resolve_right (by simp);clear hS0;obtain⟨i,n,e⟩:=seg;simp only[okMix] at hok
  split at hok
  ·cases hok
  ·rename_i listed' hr
   rcases e with _|⟨k,fl⟩
   ·simp only[wpMix] at h;exact reads_first hs hQ _ w hS _ n i listed listed' a hcl hr (fun hcl' a' ha'=>ih listed' a' w hcl' hok (Or.inl hS) ha') h
   ·cases fl with
    |true=>
     simp only[Bool.and_eq_true,beq_iff_eq] at hok;simp only[wpMix] at h;refine reads_first hs hQ _ w hS _ n i listed listed' a hcl hr (fun hcl' a' ha'=>⟨fun h0=>?_,fun j hj=>?_⟩) h
     ·rw[hok.1] at h0;cases h0
     ·have hcl2:=hcl'.set hj;rw[hok.1,List.mem_singleton] at hj;subst hj;exact wpOp_mono (fun a'' w'' hh=>⟨Or.inr hh.1,ih _ a'' w'' hcl2 hok.2 (Or.inl hh.1) hh.2⟩) ha'
    |false=>
     simp only[Bool.and_eq_true,beq_iff_eq,List.isEmpty_iff] at hok;simp only[wpMix] at h;refine reads_first hs hQ _ w hS _ n i listed listed' a hcl hr (fun hcl' a' ha'=>⟨fun h0=>?_,fun j hj=>?_⟩) h
     ·rw[hok.1.1.1] at h0;cases h0
     ·have hcl2:=hcl'.set hj;rw[hok.1.1.1,List.mem_singleton] at hj;subst hj;exact wpOp_mono (fun a'' w'' hh=>⟨Or.inl hok.1.2,ih _ a'' w'' hcl2 hok.1.1.2 (Or.inr hok.2) hh⟩) ha'
def okRegion(l:List Oper)(segs:List (Nat×Nat×Option (Nat×Bool))):Bool:=
 okMix l segs (Array.replicate l.length false)&&(segFuel segs==l.length)&&Region.noSelect l.toArray
theorem mix_any(segs:List (Nat×Nat×Option (Nat×Bool)))(hok:okRegion l segs=true)(hQ:∀c a w,¬Q (.panic c) a w){a:Act}{w:World}(hS:S w)(h:wpMix P l S Q segs a w):
  wpAny P .any l.toArray Q l.toArray.size (Array.replicate l.toArray.size false) a w:=by
 simp only[okRegion,Bool.and_eq_true,beq_iff_eq] at hok
 have:=wpAny_of_Z _ _ _ _ (mix_sound hok.2 hQ segs _ a w (closed_none _) hok.1.1 (Or.inl hS) h)
 rw[hok.1.2] at this
 simpa using this
theorem region_mix{id:Nat}{a:Act}{w:World}(S:World→Prop)(segs:List (Nat×Nat×Option (Nat×Bool)))(hm:P.follows .mixedOrders=true)(hok:okRegion l segs=true)(hS:S w.drew)
  (h:wpMix P l S (NoPanic Q) segs a w.drew):(Code.region id l.toArray true).wp P Q a w:=
 wp_region_noPanic (wp_region_any hm (mix_any segs hok (fun _ _ _ hp=>hp) hS h))
theorem round_mix{id:Nat}{a:Act}{w:World}{r:Nat}(S:World→Prop)(segs:List (Nat×Nat×Option (Nat×Bool)))(hm:P.follows .mixedOrders=true)(hok:okRegion l segs=true)(hn:l.all notDefer=true)(hQ:¬LetsOut Q)(hS:S w.drew)
  (h:wpMix P l S (NoPanic Q) segs a w.drew):(Code.region id l.toArray true).wpIn (Fence.wide.inRound r) 0 P Q a w:=by
 refine wpIn_mono (Q:=NoPanic Q) ?_ NoPanic.imp
 refine wpIn_region_draw fun t=>?_
 refine wpOpsIn_of (Q:=NoPanic Q) r (fun i o ho=>?_) hQ _ _ _ ?_
 ·rw[List.all_eq_true] at hn
  exact hn o (by
   have:l[i]? =some o:=by simpa using ho
   exact List.mem_of_getElem? this)
 ·simp only[Region.schedule,hm,Bool.true_or,if_true];exact wpAny_sound _ t _ a _ (mix_any segs hok (fun _ _ _ hp=>hp) hS h)
theorem wpOp_at{e:Nat}{o:Oper}{K:Act→World→Prop}{a:Act}{w:World}(ho:l[e]? =some o)(hg:o.guard=none)(h:o.wp P a w K Q):wpOp P l.toArray Q e K a w:=by
 unfold wpOp
 have:l.toArray[e]? =some o:=by simpa using ho
 simp only[this]
 rw[if_pos (by simp[Region.wanted,hg])]
 exact Or.inl h
theorem op_append1{o:Oper}{K:Act→World→Prop}{a:Act}(w0:World)(s x:Operand)(t e:TypeId)(ho:o.op=.call {callee:=.builtin .append,args:=#[s,x],argTypes:=#[t,t]})
  (base:Nat) (z:Value) (size bytes:Nat) (ht:P.underlying t=some (.slice e)) (hinfo:(P.info? e).map (fun i=>(i.zero,i.size,i.bytes))=some (some z,size,bytes)) (hzs:z.cells.size=size) (hsz:0<size)
  (v:Value) (n:Nat) (xs news:List Value) (hs:a.eval s=v) (hown:w0.ownsRow base e size v n xs) (H:Nat) (hH:w0.heap.size=H) (hx:a.eval x=.slice (some ⟨H,0,none⟩) 1 1) (hl:news.length=size) (h1:∀u∈news,u.oneCell'=true)
  (h63:n+1≤maxLen) (hbytes:(n+1)*bytes≤140737488355328) (hbase:base≤w0.heap.size)
  (h:∀g cap w',w'.ownsRow base e size (.slice (some ⟨g,0,none⟩) (n+1) cap) (n+1) (xs++news)→w0.grownBy w' v.ownBlock→(some g=v.ownBlock∨g=H+1)→K (a.put o.dst (.slice (some ⟨g,0,none⟩) (n+1) cap)) w'):
  o.wp P a (w0.alloc (.cells news.toArray e)) K Q:=by
 subst hH
 obtain⟨i,hi,hz,hsize,hby⟩:=info_parts hinfo
 have hnews:∀j u,news[j]? =some u→(w0.alloc (.cells news.toArray e)).cell? ((⟨w0.heap.size,0,none⟩:Addr).add j)=some u:=by
  intro j u hu;have hadd:(⟨w0.heap.size,0,none⟩:Addr).add j=⟨w0.heap.size,j,none⟩:=by unfold Addr.add;split<;>simp_all
  rw[hadd,cell_of_row _ _ _ _ _ _ (World.alloc_heap_new w0 _)];simpa using hu
 obtain⟨v',w',hrun,h2,h3,h4,h5⟩:=run_append_own_at (P:=P) (w0.alloc (.cells news.toArray e)) base t o.type e i z size bytes ht hi hz hsize hby hzs hsz v n xs (hown.alloc _) ⟨w0.heap.size,0,none⟩ 1 1 news (by omega) hnews h1 h63 hbytes (by simp;omega)
 obtain⟨g,cap,rfl⟩:∃g cap,v'=.slice (some ⟨g,0,none⟩) (n+1) cap:=by
  rcases h2.2 with ⟨_,h0⟩|⟨g,cap,cur,hv,_⟩
  ·omega
  ·exact⟨g,cap,hv⟩
 have hg:w0.grownBy w' v.ownBlock:=by
  refine⟨h3.os,h3.tape,h3.output,Nat.le_trans (by simp) h3.size,fun k hk hne=>?_⟩;rw[h3.block k (by simp;omega) hne];exact Below.heap_alloc _ _ _ hk
 unfold Oper.wp execOp
 simp only[ho,resolve,invoke,builtin,Sem.run_bind,Sem.run_pure,Result.andThen_ok,List.map_toArray,List.map_cons,List.map_nil,hs,hx,hrun]
 refine h g cap w' h2 hg ?_
 rcases h5 with h5|h5
 ·exact Or.inl (by simpa[Value.ownBlock] using h5)
 ·exact Or.inr (by simpa[Value.ownBlock] using h5)
theorem wpList_append1{ops:Array Oper}{rest:List Oper}{o:Oper}{a:Act}(hgd:o.guard=none)(w0:World)(s x:Operand)(t e:TypeId)(ho:o.op=.call {callee:=.builtin .append,args:=#[s,x],argTypes:=#[t,t]})
  (base:Nat) (z:Value) (size bytes:Nat) (ht:P.underlying t=some (.slice e)) (hinfo:(P.info? e).map (fun i=>(i.zero,i.size,i.bytes))=some (some z,size,bytes)) (hzs:z.cells.size=size) (hsz:0<size)
  (v:Value) (n:Nat) (xs news:List Value) (hs:a.eval s=v) (hown:w0.ownsRow base e size v n xs) (H:Nat) (hH:w0.heap.size=H) (hx:a.eval x=.slice (some ⟨H,0,none⟩) 1 1) (hl:news.length=size) (h1:∀u∈news,u.oneCell'=true)
  (h63:n+1≤maxLen) (hbytes:(n+1)*bytes≤140737488355328) (hbase:base≤w0.heap.size)
  (h:∀g cap w',w'.ownsRow base e size (.slice (some ⟨g,0,none⟩) (n+1) cap) (n+1) (xs++news)→w0.grownBy w' v.ownBlock→(some g=v.ownBlock∨g=H+1)→wpList P ops Q rest (a.put o.dst (.slice (some ⟨g,0,none⟩) (n+1) cap)) w'):
  wpList P ops Q (o :: rest) a (w0.alloc (.cells news.toArray e)):=
 wpList_plain hgd fun _ hK=>op_append1 w0 s x t e ho base z size bytes ht hinfo hzs hsz v n xs news hs hown H hH hx hl h1 h63 hbytes hbase fun g cap w' h2 h3 h4=>hK _ _ (h g cap w' h2 h3 h4)
theorem run_append_all(w:World)(base:Nat)(t ty e:TypeId)(z:Value)(bytes:Nat)(ht:P.underlying t=some (.slice e))(hinfo:(P.info? e).map (fun i=>(i.zero,i.size,i.bytes))=some (some z,1,bytes))(hzs:z.cells.size=1)
  (v:Value) (n:Nat) (xs:List Value) (hown:w.ownsRow base e 1 v n xs) (A:Option Addr) (m c:Nat) (news:List Value) (hl:news.length=m)
  (hr:∀j u,news[j]? =some u→∃ad,A=some ad∧w.cell? (ad.add j)=some u) (h1:∀u∈news,u.oneCell'=true)
  (h63:n+m≤maxLen) (hbytes:(n+m)*bytes≤140737488355328) (hbase:base≤w.heap.size):
  ∃v' w',(Builtin.append_ #[t,t] ty #[v,.slice A m c]).run P w=.ok v' w'∧w'.ownsRow base e 1 v' (n+m) (xs++news)∧w.grownBy w' v.ownBlock∧(v'.ownBlock=v.ownBlock∨v'.ownBlock=some w.heap.size):=by
 obtain⟨i,hi,hz,hsize,hby⟩:=info_parts hinfo
 rcases A with _|ad
 ·have hm:news= []:=by
   cases news with
   |nil=>rfl
   |cons u l=>obtain⟨ad,h,_⟩:=hr 0 u rfl;cases h
  subst hm;simp only[List.length_nil] at hl;subst hl;refine⟨v,w,?_,by simpa using hown,⟨rfl,rfl,rfl,Nat.le_refl _,fun _ _ _=>rfl⟩,Or.inl rfl⟩;rcases hown.2 with ⟨rfl,rfl⟩|⟨g,cap,cur,rfl,_,_,hnc,_⟩
  ·simp[Builtin.append_,run_underlying ht,sizeOf,typeInfo,hi,Builtin.lenOf,Builtin.firstCells]
  ·simp[Builtin.append_,run_underlying ht,sizeOf,typeInfo,hi,Builtin.lenOf,Builtin.firstCells,hnc,storeCells]
 ·obtain⟨v',w',hrun,h2,h3,_,h5⟩:=run_append_own_at (P:=P) w base t ty e i z 1 bytes ht hi hz hsize hby hzs (by omega) v n xs hown ad m c news (by omega)
   (fun j u hu=>by obtain⟨ad',h,hc⟩:=hr j u hu;cases h;exact hc) h1 h63 hbytes hbase
  exact⟨v',w',hrun,h2,h3,h5⟩
theorem wpList_appendS{ops:Array Oper}{rest:List Oper}{o:Oper}{a:Act}(w:World)(hgd:o.guard=none)(s x:Operand)(t e:TypeId)(ho:o.op=.call {callee:=.builtin .append,args:=#[s,x],argTypes:=#[t,t]})
  (base:Nat) (z:Value) (bytes:Nat) (ht:P.underlying t=some (.slice e)) (hinfo:(P.info? e).map (fun i=>(i.zero,i.size,i.bytes))=some (some z,1,bytes)) (hzs:z.cells.size=1)
  (v:Value) (n:Nat) (xs:List Value) (hs:a.eval s=v) (hown:w.ownsRow base e 1 v n xs) (A:Option Addr) (m c:Nat) (hx:a.eval x=.slice A m c) (news:List Value) (hl:news.length=m)
  (hr:∀j u,news[j]? =some u→∃ad,A=some ad∧w.cell? (ad.add j)=some u) (h1:∀u∈news,u.oneCell'=true)
  (h63:n+m≤maxLen) (hbytes:(n+m)*bytes≤140737488355328) (hbase:base≤w.heap.size)
  (h:∀v' w',w'.ownsRow base e 1 v' (n+m) (xs++news)→w.grownBy w' v.ownBlock→(v'.ownBlock=v.ownBlock∨v'.ownBlock=some w.heap.size)→wpList P ops Q rest (a.put o.dst v') w'):
  wpList P ops Q (o :: rest) a w:=by
 refine wpList_plain hgd fun K hK=>?_
 obtain⟨v',w',hrun,h2,h3,h4⟩:=run_append_all (P:=P) w base t o.type e z bytes ht hinfo hzs v n xs hown A m c news hl hr h1 h63 hbytes hbase
 unfold Oper.wp execOp
 simp only[ho,resolve,invoke,builtin,Sem.run_bind,Sem.run_pure,Result.andThen_ok,List.map_toArray,List.map_cons,List.map_nil,hs,hx,hrun]
 exact hK _ _ (h v' w' h2 h3 h4)
end
end

section
open Go.RowKit
def cmpV(x y:Int):Int:=if x<y then -1 else if y<x then 1 else 0
def orV:List Int→Int
 | []=>0
 |x :: l=>if x=0 then orV l else x
theorem orV_hit:∀(l:List Int) (k:Nat),k<l.length→(∀j,j<k→l.getD j 0=0)→l.getD k 0≠0→orV l=l.getD k 0
 |x :: l,0,_,_,h=>by simp only[orV,List.getD_cons_zero] at h⊢;rw[if_neg h]
 |x :: l,k+1,hk,h0,h=>by
  have h1:x=0:=by have:=h0 0 (by omega);simpa using this
  rw[orV,if_pos h1,List.getD_cons_succ];exact orV_hit l k (by simpa using hk) (fun j hj=>by have:=h0 (j+1) (by omega);simpa using this) (by simpa using h)
theorem orV_none:∀(l:List Int),(∀j,j<l.length→l.getD j 0=0)→orV l=0
 | [],_=>rfl
 |x :: l,h=>by
  have h1:x=0:=by have:=h 0 (by simp);simpa using this
  rw[orV,if_pos h1];exact orV_none l fun j hj=>by have:=h (j+1) (by simpa using hj);simpa using this
theorem isNaN_any(x:Int)(w:World):Calls Tryz.prog 41 #[.int .i64 x] w fun e w'=>e=.returned (.bool false)∧w=w':=by
 go_enter Tryz.func41,Tryz.ntmps41
 go_wp2
 go_ret
 exact⟨rfl,rfl⟩
theorem compare_any(x y:Int)(w:World):Calls Tryz.prog 30 #[.int .i64 x,.int .i64 y] w fun e w'=>e=.returned (.int .i64 (cmpV x y))∧w=w':=by
 by_cases h1:x<y
 ·have HE:Hid (cmpV x y= -1):=by rw[Hid,cmpV,if_pos h1]
  go_enter Tryz.func30,Tryz.ntmps30
  go_wp2_with (go_at_call 41;refine(isNaN_any _ _).mono ?_;rintro e w1 ⟨rfl,rfl⟩)
  go_ret
  exact⟨by rw[HE.out];rfl,rfl⟩
 ·by_cases h2:y<x
  ·have HE:Hid (cmpV x y=1):=by rw[Hid,cmpV,if_neg h1,if_pos h2]
   go_enter Tryz.func30,Tryz.ntmps30
   go_wp2_with (go_at_call 41;refine(isNaN_any _ _).mono ?_;rintro e w1 ⟨rfl,rfl⟩)
   go_ret
   exact⟨by rw[HE.out];rfl,rfl⟩
  ·have HE:Hid (cmpV x y=0):=by rw[Hid,cmpV,if_neg h1,if_neg h2]
   go_enter Tryz.func30,Tryz.ntmps30
   go_wp2_with (go_at_call 41;refine(isNaN_any _ _).mono ?_;rintro e w1 ⟨rfl,rfl⟩)
   go_ret
   exact⟨by rw[HE.out];rfl,rfl⟩
theorem cmpOr_any(a:Option Addr)(n c:Nat)(xs:List Int)(w:World)(h:Ints w a n xs):Calls Tryz.prog 29 #[.slice a n c] w fun e w'=>e=.returned (.int .i64 (orV xs))∧w=w':=by
 obtain⟨hl,hn,hc⟩:=h
 have HL:=Lib.hid hl
 have HC:=Lib.hid hc
 clear hl hc
 go_enter Tryz.func29,Tryz.ntmps29
 go_wp2
 go_loopw [5,8] (fun _ i wr=>∃(k:Nat),k≤n∧i=.int .i64 k∧wr=w∧Hid (∀j,j<k→xs.getD j 0=0)) (fun _ i _=>n-(intOf i).toNat)
 case atStart=>exact⟨0,by omega,rfl,rfl,fun j hj=>absurd hj (by omega)⟩
 case round=>
  obtain⟨k,hk,rfl,rfl,HR⟩:=hrel;by_cases hlt:k<n
  ·have hlt':(k:Int)<(n:Int):=by omega
   obtain⟨b,o,rfl,hcell,_⟩:=HC.out k hlt;by_cases he:xs.getD k 0=0
   ·have HE:Hid (∀j,j<k+1→xs.getD j 0=0):=fun j hj=>by
     by_cases hjk:j=k
     ·subst hjk;exact he
     ·exact HR.out j (by omega)
    rw[he] at hcell;clear he;go_wp2
    go_roundw
    case rel=>exact⟨k+1,by omega,by go_num,trivial,HE⟩
    case measure=>simp[intOf];omega
   ·have HE:Hid (orV xs=xs.getD k 0):=orV_hit xs k (by rw[HL.out];exact hlt) HR.out he;have hne:(xs.getD k 0 != 0)=true:=by simpa using he
    generalize xs.getD k 0=y at *;go_wp2
    go_ret
    exact⟨by rw[HE.out];rfl,rfl⟩
  ·have hlt':¬(k:Int)<(n:Int):=by omega
   have HE:Hid (orV xs=0):=orV_none xs fun j hj=>HR.out j (by rw[HL.out] at hj;omega);go_wp2
   go_ret
   exact⟨by rw[HE.out];rfl,rfl⟩
theorem or_cmp(a b x y:Int):orV [cmpV a b,cmpV x y]<0↔a<b∨a=b∧x<y:=by
 simp only[orV,cmpV]
 repeat' split
 all_goals omega
end

section
abbrev Pr2:=Int×Int
def ordPr(p q:Pr2):Int:=orV [cmpV p.1 q.1,cmpV p.2 q.2]
def ltP(p q:Pr2):Bool:=decide (ordPr p q<0)
theorem ltP_iff{p q:Pr2}:ltP p q=true↔p.1<q.1∨p.1=q.1∧p.2<q.2:=by
 unfold ltP ordPr
 rw[decide_eq_true_eq]
 exact or_cmp _ _ _ _
def ofP(a b:Int):Pr2:=(min a b,max a b)
def prevI(l:List Int)(k:Nat):Int:=if k=0 then 0 else l.getD (k-1) 0
def risK1(l:List Int)(k:Nat):Bool:=decide (prevI l k<l.getD k 0)&&decide (l.getD k 0≤200)
def risG(l:List Int):Bool:=(List.range l.length).all (risK1 l)
def prevP(ps:List Pr2)(k:Nat):Pr2:=if k=0 then (0,0) else ps.getD (k-1) (0,0)
def pairK(vs:List Int)(p q:Pr2):Bool:=decide (q.1<q.2)&&decide (q.1∈vs)&&decide (q.2∈vs)&&ltP p q
def pairsG(vs:List Int)(ps:List Pr2):Bool:=(List.range ps.length).all fun k=>pairK vs (prevP ps k) (ps.getD k (0,0))
def rightG(vs:List Int)(ps:List Pr2)(ac:List Int):Bool:=pairsG vs ps&&(risG vs&&risG ac&& !ac.any fun v=> !decide (v∈vs))
def nearG(ps:List Pr2)(a b:Int):Bool:=decide ((a,b)∈ps)||decide ((b,a)∈ps)
def risK2(l:List Int)(k:Nat):Bool:= !(decide (l.getD k 0<1)||decide (200<l.getD k 0)||decide (0<k)&&decide (l.getD k 0≤l.getD (k-1) 0))
def risR20(l:List Int):Bool:=(List.range l.length).all (risK2 l)
def pairK2(vs:List Int)(ps:List Pr2)(k:Nat):Bool:=decide ((ps.getD k (0,0)).1<(ps.getD k (0,0)).2)&&decide ((ps.getD k (0,0)).1∈vs)&&decide ((ps.getD k (0,0)).2∈vs)&&(decide (k=0)||ltP (ps.getD (k-1) (0,0)) (ps.getD k (0,0)))
def rightR20(vs:List Int)(ps:List Pr2)(ac:List Int):Bool:=(List.range ps.length).all (pairK2 vs ps)&&(ac.all fun v=>decide (v∈vs))&&(risR20 vs&&risR20 ac)
theorem risK1_iff{l:List Int}{k:Nat}:risK1 l k=true↔prevI l k<l.getD k 0∧l.getD k 0≤200:=by simp[risK1]
theorem prevI_pos{l:List Int}{k:Nat}(h:0<k):prevI l k=l.getD (k-1) 0:=if_neg (by omega)
theorem ris_pos{l:List Int}(h:risG l=true):∀k,k<l.length→1≤l.getD k 0:=by
 unfold risG at h
 rw[List.all_eq_true] at h
 intro k
 induction k with
 |zero=>intro hk;have:=risK1_iff.1 (h 0 (List.mem_range.2 hk));have e:prevI l 0=0:=rfl;omega
 |succ k ih=>
  intro hk;have h1:=risK1_iff.1 (h (k+1) (List.mem_range.2 hk));have h2:=ih (by omega);rw[prevI_pos (by omega),Nat.add_sub_cancel] at h1;omega
theorem risK2_iff{l:List Int}{k:Nat}:risK2 l k=true↔1≤l.getD k 0∧l.getD k 0≤200∧(0<k→l.getD (k-1) 0<l.getD k 0):=by
 simp only[risK2,Bool.not_eq_true',Bool.or_eq_false_iff,decide_eq_false_iff_not,Bool.and_eq_false_imp,decide_eq_true_eq]
 omega
theorem ris_eq(l:List Int):risG l=risR20 l:=by
 apply Bool.eq_iff_iff.2
 constructor
 ·intro h;have hp:=ris_pos h;unfold risG at h;rw[List.all_eq_true] at h;unfold risR20;rw[List.all_eq_true];intro k hk;have h1:=risK1_iff.1 (h k hk);have h2:=hp k (List.mem_range.1 hk);exact risK2_iff.2 ⟨h2,h1.2,fun h0=>by rw[prevI_pos h0] at h1;exact h1.1⟩
 ·intro h;unfold risR20 at h;rw[List.all_eq_true] at h;unfold risG;rw[List.all_eq_true];intro k hk;have h1:=risK2_iff.1 (h k hk);refine risK1_iff.2 ⟨?_,h1.2.1⟩;by_cases h0:0<k
  ·rw[prevI_pos h0];exact h1.2.2 h0
  ·have e:prevI l k=0:=if_pos (by omega);omega
theorem right_eq20(vs:List Int)(ps:List Pr2)(ac:List Int):rightG vs ps ac=rightR20 vs ps ac:=by
 have ha:(!ac.any fun v=> !decide (v∈vs))=ac.all fun v=>decide (v∈vs):=by
  induction ac with
  |nil=>rfl
  |cons x l ih=>rw[List.any_cons,List.all_cons,←ih];cases decide (x∈vs)<;>simp
 unfold rightG rightR20
 rw[ha,←ris_eq,←ris_eq]
 cases hv:risG vs with
 |false=>simp
 |true=>
  have e:pairsG vs ps=(List.range ps.length).all (pairK2 vs ps):=by
   unfold pairsG
   congr 1
   funext k
   unfold pairK pairK2 prevP;by_cases h0:k=0
   ·subst h0;generalize ps.getD 0 (0,0)=p;by_cases hm:p.1∈vs
    ·have hp:ltP (0,0) p=true:=by
      obtain⟨j,hj,e⟩:=List.mem_iff_getElem.1 hm;have:=ris_pos hv j hj;rw[List.getD_eq_getElem?_getD,List.getElem?_eq_getElem hj,Option.getD_some,e] at this;rw[ltP_iff];left;show(0:Int)<_;omega
     simp[hp]
    ·simp[hm]
   ·simp[h0]
  rw[e];cases (List.range ps.length).all (pairK2 vs ps)<;>cases risG ac<;>cases (ac.all fun v=>decide (v∈vs))<;>rfl
end

section
open Go.RowKit
def okL{α:Type}(s:List α)(x:α):Prop:=s.head? =some x
def nxL{α:Type}(s:List α)(_:α):List α:=s.tail
def finL{α:Type}(s:List α):Prop:=s= []
theorem okL_cons{α:Type}{s:List α}{x:α}(h:okL s x):s=x :: nxL s x:=by
 cases s with
 |nil=>cases h
 |cons y l=>injection h with h;subst h;rfl
def IterI{α:Type}(P:Program)(gf:Nat)(lb:Array Value)(enc:α→Array Value)(l:List α)(I:World→Prop):Prop:=
 Iter P gf lb enc okL nxL l finL (fun _ W=>I W)
theorem listIn_of{P:Program}{ops:Array Oper}{Q:Exit→Act→World→Prop}{l:Nat}(hQ:¬LetsOut Q):
  ∀(rest:List Oper) (a:Act) (w:World),rest.all notDefer=true→wpList P ops Q rest a w→wpListIn (Fence.wide.inRound l) 0 P ops Q rest a w:=by
 intro rest
 induction rest with
 |nil=>intro a w _ h;exact h
 |cons o rest ih=>
  intro a w hn h;rw[List.all_cons,Bool.and_eq_true] at hn;simp only[wpList,wpListIn] at h⊢;by_cases hw:Region.wanted o (yielded ops a.tmps)=true
  ·simp only[hw,if_true] at h⊢;rcases h with h|⟨_,h⟩
   ·refine⟨fun _ _=>trivial,?_⟩;have hs:Oper.semAt (Fence.wide.inRound l).round a.eval o=execOp a.eval o:=Oper.semAt_some l _ _ (fun c hc=>by have:=hn.1;simp[notDefer,hc] at this);rw[hs];unfold Oper.wp at h;generalize (execOp a.eval o).run P w=r at h;cases r with
    |ok nx w'=>
     cases nx<;>simp only[Oper.upon,Oper.uponIn] at h⊢<;>first
      |exact ih _ _ hn.2 h
      |exact⟨fun hh=>by simp[Fence.wide,Fence.inRound] at hh,(CallsIn.inRound l (callsIn_wide.2 (h.mono (fun e w'' he=>by cases e<;>first|exact ih _ _ hn.2 he|exact he))))⟩
      |exact⟨fun hh=>by simp[Fence.wide,Fence.inRound] at hh,rowsIn_of l (h.mono (fun v w'' hv=>ih _ _ hn.2 hv))⟩
      |exact h.elim
    |halt x w'=>cases x<;>simp only[Oper.upon,Oper.uponIn] at h⊢<;>exact h
   ·exact absurd h hQ
  ·simp only[hw] at h⊢;exact⟨fun _ _=>trivial,ih _ _ hn.2 h⟩
theorem wide_quiet_lit{P:Program}{id:Nat}{Q:Exit→Act→World→Prop}{a:Act}{w:World}{ol:List Oper}(hm:P.follows .mixedOrders=true)(hB:Region.lexB .any ol.toArray=true)
  (h:wpQuiet P ol.toArray (fun w'=>∃n,w'=w.drewN n) (fun a'=>∀w',(∃n,w'=w.drewN n)→Q .normal a' w') ol a):(Code.region id ol.toArray true).wpIn Fence.wide 0 P Q a w:=
 wpIn_wide.2 (wp_region_quiet_lit hm hB h)
theorem range_list{P:Program}{α:Type}{g:Operand}{ps:Array Tmp}{assign body:Code}{Q:Exit→Act→World→Prop}{a:Act}{w:World}{gf:Nat}{lb:Array Value}
  (hg:a.eval g=.func (.func gf) #[] lb) (eg:∀args w,(callFunc gf args).run P w=.ok (.enter gf args) w)
  {enc:α→Array Value} {l:List α} (I:World→Prop) (hit:IterI P gf lb enc l I) (hps:∀x,(enc x).size=ps.size)
  (J:List α→List α→World→Prop) (Jx:Code→World→Prop)
  (hJ:∀d r,Steady w.heap.size (J d r)) (hJx:∀c,Steady w.heap.size (Jx c)) (hInv:∀d r W,J d r W→I W)
  (h0:J [] l w)
  (hround:∀(lp:Nat) (d:List α) (x:α) (r:List α) (W:World),l=d++x :: r→J d (x :: r) W→
    assign.wpIn (Fence.wide.inRound lp) 0 P (Exit.then (fun a1 W1=>Keep W W1∧J d (x :: r) W1∧∀(lp:Nat) (W2:World),J d (x :: r) W2→
     body.wpIn (Fence.wide.inRound lp) 0 P (roundEnd (fun W'=>Keep W2 W'∧J (d++ [x]) r W') (fun c W'=>Keep W2 W'∧Jx c W')) a1 W2) (fun _ _ _=>False)) {tmps:=(ps.zip (enc x)).foldl (fun t (p,v)=>t.setIfInBounds p v) a.tmps,defers:= []} W)
  (hdone:∀(D:Nat) (W:World),w.heap.size≤D→J l [] W→W.heap[D]? =some (.deferred (some []))→Q .normal {a with defers:={target:=.collected D,args:=#[]} :: a.defers} W)
  (hstop:∀(D:Nat) (c:Code) (W:World),w.heap.size≤D→Jx c W→W.heap[D]? =some (.deferred (some []))→c.wpIn Fence.wide 0 P Q {a with defers:={target:=.collected D,args:=#[]} :: a.defers} W):
  (Code.rangeFunc g ps assign body).wpIn Fence.wide 0 P Q a w:=by
 refine range_outer (enc:=enc) hg eg hit hps (fun s W=>∃d,l=d++s∧J d s W) Jx
  (fun s x a1 _=>∀(d:List α) (lp:Nat) (W2:World),l=d++s→J d s W2→body.wpIn (Fence.wide.inRound lp) 0 P (roundEnd (fun W'=>Keep W2 W'∧J (d++ [x]) (nxL s x) W') (fun c W'=>Keep W2 W'∧Jx c W')) a1 W2)
  (fun s=>Steady.ex fun d=>(Steady.pure _ _).and (hJ d s)) hJx (fun _ _ _=>Steady.pure _ _) (fun s W ⟨d,_,h⟩=>hInv d s W h) ⟨[],rfl,h0⟩ ?_ ?_ ?_ hstop
 ·rintro lp s x W hok ⟨d,hd,hj⟩;have hs:=okL_cons hok;generalize nxL s x=r at hs⊢;subst hs;refine wpIn_mono (hround lp d x r W hd hj) ?_;rintro e a1 W1 he;cases e with
  |normal=>
   obtain⟨h1,h2,h3⟩:=he;refine⟨h1,⟨d,hd,h2⟩,fun d' lp' W2 hd' hj'=>?_⟩;have:d'=d:=by
    have:=hd'.symm.trans hd;exact List.append_cancel_right this
   subst this;exact h3 lp' W2 hj'
  |_=>exact he.elim
 ·rintro lp s x a1 W hok ⟨d,hd,hj⟩ hA;refine wpIn_mono (hA d lp W hd hj) ?_;rintro e a3 W3 he;cases e with
  |normal=>
   refine⟨he.1,d++ [x],?_,he.2⟩;rw[hd,List.append_assoc]
   congr 1
   exact okL_cons hok
  |ret=>exact he
  |exit id=>exact he
  |goto t=>exact he
  |panic ch=>exact he.elim
  |outgrown=>exact he.elim
 ·rintro D s W hD hf ⟨d,hd,hj⟩ hk;have hf:s= []:=hf;subst hf;rw[List.append_nil] at hd;subst hd;exact hdone D W hD hj hk
end

section
open Go.RowKit
def Tch(T:World→Nat→Prop)(W W':World):Prop:=
 W.heap.size≤W'.heap.size∧(∀k,k<W.heap.size→¬T W k→W'.heap[k]? =W.heap[k]?)∧∀k,T W' k→T W k∨W.heap.size≤k
theorem Tch.refl(T:World→Nat→Prop)(W:World):Tch T W W:=⟨Nat.le_refl _,fun _ _ _=>rfl,fun _ h=>.inl h⟩
theorem grown_put(W:World)(l:Nat)(o:Obj):W.grownBy (W.putObj l o) (some l):=
 ⟨rfl,rfl,rfl,by simp,fun k _ hne=>World.putObj_heap_other (fun e=>hne (by rw[e]))⟩
def IterT{σ α:Type}(P:Program)(gf:Nat)(lb:Array Value)(enc:α→Array Value)(ok:σ→α→Prop)(nx:σ→α→σ)(s0:σ)(Fin:σ→Prop)(Inv:σ→World→Prop):Prop:=
 ∀(l:Nat) (K:σ→World→Prop) (Kx:World→Prop) (T:World→Nat→Prop) (W:World),
  (∀s W W',K s W→Below W.heap.size W W'→K s W')→(∀W W',Kx W→Below W.heap.size W W'→Kx W')→(∀s W,K s W→Inv s W)→
  (∀s W k,K s W→T W k→k<W.heap.size)→(∀s W W' k,K s W→Below W.heap.size W W'→T W' k→T W k)→
  (∀s x W,ok s x→K s W→YieldAt Fence.wide 0 P l (enc x) W fun e W'=>(e=.returned (.bool true)∧K (nx s x) W'∧Tch T W W')∨(e=.returned (.bool false)∧Kx W'))→
  K s0 W→CallsIn Fence.wide 0 P gf (#[.func (.yield l) #[] #[]]++lb) W fun e W'=>(∃v,e=.returned v)∧((∃s,Fin s∧K s W')∨Kx W')
theorem range_outerT{P:Program}{σ α:Type}{g:Operand}{ps:Array Tmp}{assign body:Code}{Q:Exit→Act→World→Prop}{a:Act}{w:World}{gf:Nat}{lb:Array Value}
  (hg:a.eval g=.func (.func gf) #[] lb) (eg:∀args w,(callFunc gf args).run P w=.ok (.enter gf args) w)
  {enc:α→Array Value} {ok:σ→α→Prop} {nx:σ→α→σ} {s0:σ} {Fin:σ→Prop} {Inv:σ→World→Prop} (hit:IterT P gf lb enc ok nx s0 Fin Inv)
  (hps:∀x,(enc x).size=ps.size)
  (J:σ→World→Prop) (Jx:Code→World→Prop) (A:σ→α→Act→World→Prop)
  (hJ:∀s,Steady w.heap.size (J s)) (hJx:∀c,Steady w.heap.size (Jx c)) (hA:∀s x a,Steady w.heap.size (A s x a)) (hInv:∀s W,J s W→Inv s W)
  (T:World→Nat→Prop) (hT0:∀s W k,J s W→T W k→k<W.heap.size) (hTg:∀W W' row,W.grownBy W' row→(∀r,row=some r→w.heap.size≤r∧∃o:Obj,W.heap[r]? =some o∧isBook o=true)→(∃s,J s W)→∀k,T W' k→T W k)
  (h0:J s0 w)
  (hassign:∀(l:Nat) (s:σ) (x:α) (W:World),ok s x→J s W→
    assign.wpIn (Fence.wide.inRound l) 0 P (Exit.then (fun a1 W1=>Keep W W1∧J s W1∧A s x a1 W1∧Tch T W W1) (fun _ _ _=>False)) {tmps:=(ps.zip (enc x)).foldl (fun t (p,v)=>t.setIfInBounds p v) a.tmps,defers:= []} W)
  (hbody:∀(l:Nat) (s:σ) (x:α) (a1:Act) (W:World),ok s x→J s W→A s x a1 W→
    body.wpIn (Fence.wide.inRound l) 0 P (roundEnd (fun W'=>Keep W W'∧J (nx s x) W'∧Tch T W W') (fun c W'=>Keep W W'∧Jx c W')) a1 W)
  (hdone:∀(D:Nat) (s:σ) (W:World),w.heap.size≤D→Fin s→J s W→W.heap[D]? =some (.deferred (some []))→Q .normal {a with defers:={target:=.collected D,args:=#[]} :: a.defers} W)
  (hstop:∀(D:Nat) (c:Code) (W:World),w.heap.size≤D→Jx c W→W.heap[D]? =some (.deferred (some []))→c.wpIn Fence.wide 0 P Q {a with defers:={target:=.collected D,args:=#[]} :: a.defers} W):
  (Code.rangeFunc g ps assign body).wpIn Fence.wide 0 P Q a w:=by
 refine wpIn_rangeFunc ?_
 intro fn hfn
 obtain⟨rec,hrec⟩:∃rec:LoopState→Option Code→Loop,rec=fun st pe=>{state:=st,pending:=pe,fn,tmps:=a.tmps,params:=ps,assign,body,defers:=w.heap.size}:=⟨_,rfl⟩
 obtain⟨W1,hW1⟩:∃W1,(w.alloc (.deferred (some []))).alloc (.loop (rec .ready none))=W1:=⟨_,rfl⟩
 have hL1:W1.heap[w.heap.size+1]? =some (.loop (rec .ready none)):=by
  rw[←hW1];have:=World.alloc_heap_new (w.alloc (.deferred (some []))) (.loop (rec .ready none));rwa [World.size_alloc] at this
 have hK1:W1.heap[w.heap.size]? =some (.deferred (some [])):=by
  rw[←hW1];exact(Below.heap_alloc _ _ _ (by simp)).trans (World.alloc_heap_new w _)
 have hb1:Below w.heap.size w W1:=by
  rw[←hW1];exact((Below.refl _ w).alloc (Nat.le_refl _) _).alloc (by simp) _
 have hI1:J s0 W1:=(hJ s0).ext h0 hb1
 have keepE:∀{W W':World} {k:Nat} {o:Obj},W.heap[k]? =some o→Below W.heap.size W W'→W'.heap[k]? =some o:=
  fun hk hb=>(hb.block _ (Array.getElem?_eq_some_iff.1 hk).1).trans hk
 refine⟨w.heap.size+1,[{target:=.collected w.heap.size,args:=#[]}],W1,{target:=.fn (.func gf) lb,args:=#[.func (.yield (w.heap.size+1)) #[] #[]]},W1,gf,
  #[.func (.yield (w.heap.size+1)) #[] #[]]++lb,W1,?_,?_,?_,?_,fun h=>by simp[Fence.wide] at h,?_⟩
 ·rw[←hW1,hrec];exact run_enterLoop_outer _ _ _ _ _
 ·simp only[resolve,hg];simp[go_sem]
 ·intro f' hf';trivial
 ·simp[invoke,go_sem,eg]
 ·refine(hit (w.heap.size+1)
   (fun s W=>J s W∧W.heap[w.heap.size+1]? =some (.loop (rec .ready none))∧W.heap[w.heap.size]? =some (.deferred (some [])))
   (fun W=>∃c,Jx c W∧W.heap[w.heap.size+1]? =some (.loop (rec .done (some c)))∧W.heap[w.heap.size]? =some (.deferred (some [])))
   (fun W k=>T W k∨k=w.heap.size+1∨k=w.heap.size)
   W1 (fun s A B h hb=>⟨(hJ s).ext h.1 hb,keepE h.2.1 hb,keepE h.2.2 hb⟩)
   (fun A B h hb=>by obtain⟨c,h1,h2,h3⟩:=h;exact⟨c,(hJx c).ext h1 hb,keepE h2 hb,keepE h3 hb⟩)
   (fun s W h=>hInv s W h.1)
   (fun s W k h ht=>by
     rcases ht with ht|rfl|rfl
     ·exact hT0 s W k h.1 ht
     ·exact(Array.getElem?_eq_some_iff.1 h.2.1).1
     ·exact(Array.getElem?_eq_some_iff.1 h.2.2).1)
   (fun s A B k h hb ht=>by
     rcases ht with ht|ht
     ·exact .inl (hTg A B none ⟨hb.os,hb.tape,hb.output,hb.size,fun k hk _=>hb.block k hk⟩ (fun r hr=>by cases hr) ⟨s,h.1⟩ k ht)
     ·exact .inr ht)
   ?_ ⟨hI1,hL1,hK1⟩).mono ?_
  ·rintro s x W hok ⟨hi,hl,hk⟩;have hy:=run_yield (P:=P) (args:=enc x) hl (by rw[hrec];exact hps x);rw[hrec] at hy;refine⟨fn,_,assign,body,hy,roundIn_of_wpIn hfn (wpIn_mono (hassign _ s x W hok hi) ?_)⟩;rintro e a1 V hp;cases e with
   |normal=>
    obtain⟨hkp,hiV,hAV,hTV⟩:=hp;have hlV:=hkp _ _ hl rfl;have hkV:=hkp _ _ hk rfl;have hlt:w.heap.size+1<V.heap.size:=(Array.getElem?_eq_some_iff.1 hlV).1;refine⟨_,run_beginRound hlV (by rw[hrec]),?_⟩;have hl2:(V.putObj (w.heap.size+1) (.loop {rec .ready none with state:=.busy})).heap[w.heap.size+1]? =some (.loop {rec .ready none with state:=.busy}):=World.putObj_heap_same hlt;have hk2:(V.putObj (w.heap.size+1) (.loop {rec .ready none with state:=.busy})).heap[w.heap.size]? =some (.deferred (some [])):=(World.putObj_heap_other (by omega)).trans hkV;refine wpIn_mono (hbody _ s x a1 _ hok ((hJ s).put _ hiV (by omega) hlV rfl) ((hA s x a1).put _ hAV (by omega) hlV rfl)) ?_
    have fin:∀(jump:Option Code) (W3:World),Keep (V.putObj (w.heap.size+1) (.loop {rec .ready none with state:=.busy})) W3→
      (Instr.endRound (w.heap.size+1) jump).run P W3=.ok (.bool jump.isNone) (W3.putObj (w.heap.size+1) (.loop (rec (if jump.isNone then .ready else .done) jump)))∧
      W3.heap[w.heap.size+1]? =some (.loop {rec .ready none with state:=.busy})∧
      (W3.putObj (w.heap.size+1) (.loop (rec (if jump.isNone then .ready else .done) jump))).heap[w.heap.size+1]? =some (.loop (rec (if jump.isNone then .ready else .done) jump))∧
      (W3.putObj (w.heap.size+1) (.loop (rec (if jump.isNone then .ready else .done) jump))).heap[w.heap.size]? =some (.deferred (some [])):=fun jump W3 hk3=>by
     have hl3:=hk3 _ _ hl2 rfl;have:=run_endRound (P:=P) jump hl3;rw[hrec] at this⊢;exact⟨this,by rw[hrec] at hl3;exact hl3,World.putObj_heap_same (Array.getElem?_eq_some_iff.1 hl3).1,(World.putObj_heap_other (by omega)).trans (hk3 _ _ hk2 rfl)⟩
    rintro e a3 W3 hp;cases e with
    |normal=>
     obtain⟨hk3,hi3,hT3⟩:=hp;obtain⟨hr,hl3,hl4,hk4⟩:=fin none W3 hk3;refine⟨_,_,hr,.inl ⟨rfl,⟨(hJ _).put _ hi3 (by omega) hl3 rfl,hl4,hk4⟩,?_⟩⟩;have g1:=grown_put V (w.heap.size+1) (.loop {rec .ready none with state:=.busy});have g2:=grown_put W3 (w.heap.size+1) (.loop (rec (if (none:Option Code).isNone then .ready else .done) none));have t1:∀k,T (V.putObj (w.heap.size+1) (.loop {rec .ready none with state:=.busy})) k→T V k:=hTg _ _ _ g1 (fun r hr=>by cases hr;exact⟨by omega,_,hlV,rfl⟩) ⟨s,hiV⟩;have t2:∀k,T (W3.putObj (w.heap.size+1) (.loop (rec (if (none:Option Code).isNone then .ready else .done) none))) k→T W3 k:=hTg _ _ _ g2 (fun r hr=>by cases hr;exact⟨by omega,_,hl3,rfl⟩) ⟨_,hi3⟩;have z1:(V.putObj (w.heap.size+1) (.loop {rec .ready none with state:=.busy})).heap.size=V.heap.size:=by simp
     have z2:(W3.putObj (w.heap.size+1) (.loop (rec (if (none:Option Code).isNone then .ready else .done) none))).heap.size=W3.heap.size:=by simp
     have s1:=hTV.1;have s3:=hT3.1;rw[z1] at s3;refine⟨by rw[z2];omega,fun k hk hn=>?_,fun k hk=>?_⟩
     ·have n1:k≠w.heap.size+1:=fun e=>hn (.inr (.inl e));have n0:¬T W k:=fun e=>hn (.inl e);have m1:¬T V k:=fun e=>(hTV.2.2 k e).elim n0 (by omega);have m2:=fun e=>m1 (t1 k e);rw[World.putObj_heap_other n1,hT3.2.1 k (by rw[z1];omega) m2,World.putObj_heap_other n1,hTV.2.1 k hk n0]
     ·rcases hk with hk|hk
      ·rcases hT3.2.2 k (t2 k hk) with h|h
       ·rcases hTV.2.2 k (t1 k h) with h|h
        ·exact .inl (.inl h)
        ·exact .inr h
       ·rw[z1] at h;exact .inr (by omega)
      ·exact .inl (.inr hk)
    |ret=>
     obtain⟨hk3,hi3⟩:=hp;obtain⟨hr,hl3,hl4,hk4⟩:=fin (some .ret) W3 hk3;exact⟨_,_,hr,.inr ⟨rfl,.ret,(hJx _).put _ hi3 (by omega) hl3 rfl,hl4,hk4⟩⟩
    |exit id=>
     obtain⟨hk3,hi3⟩:=hp;obtain⟨hr,hl3,hl4,hk4⟩:=fin (some (.exit id)) W3 hk3;exact⟨_,_,hr,.inr ⟨rfl,.exit id,(hJx _).put _ hi3 (by omega) hl3 rfl,hl4,hk4⟩⟩
    |goto t=>
     obtain⟨hk3,hi3⟩:=hp;obtain⟨hr,hl3,hl4,hk4⟩:=fin (some (.goto t)) W3 hk3;exact⟨_,_,hr,.inr ⟨rfl,.goto t,(hJx _).put _ hi3 (by omega) hl3 rfl,hl4,hk4⟩⟩
    |panic ch=>exact hp.elim
    |outgrown=>exact hp.elim
   |exit id=>exact hp.elim
   |goto t=>exact hp.elim
   |ret=>exact hp.elim
   |panic chain=>exact hp.elim
   |outgrown=>exact hp.elim
  ·rintro e W2 ⟨⟨v,rfl⟩,(⟨s,hS,hi,hl,hk⟩|⟨c,hi,hl,hk⟩)⟩
   ·exact⟨none,_,by have:=run_endLoop (P:=P) hl (by rw[hrec];simp);rw[hrec] at this;exact this,hdone _ s _ (Nat.le_refl _) hS ((hJ s).put _ hi (by omega) hl rfl) ((World.putObj_heap_other (by omega)).trans hk)⟩
   ·exact⟨some c,_,by have:=run_endLoop (P:=P) hl (by rw[hrec];simp);rw[hrec] at this;exact this,hstop _ c _ (Nat.le_refl _) ((hJx c).put _ hi (by omega) hl rfl) ((World.putObj_heap_other (by omega)).trans hk)⟩
def IterTI{α:Type}(P:Program)(gf:Nat)(lb:Array Value)(enc:α→Array Value)(l:List α)(I:World→Prop):Prop:=
 IterT P gf lb enc okL nxL l finL (fun _ W=>I W)
end
end Go.Proofs.YtnmkjliioogbgaaGreatDoor
