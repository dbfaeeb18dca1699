/-
 A range over a function,at the wide fence:one law for the caller,one word for the iterator. No program in sight.
-/
import Derived.RangeFuncRecord
import Derived.RangeFuncLeaves
import Derived.RangeFuncSeq
import Derived.RangeFuncIn
import Derived.RangeFuncOwn
import Derived.TacticsInMore
import Derived.LoopNIn
import Derived.LoopIn
import Derived.OwnWalkIn
import Derived.RangeFuncCalls
import Derived.Shelf.RegionOpen
import Derived.Test.YthgebcfohnlhlaaGreatDoorNR
import Derived.Deep.Quiet
import Derived.Maps.RangeRun
import Derived.Maps.OwnSet
import Derived.Maps.RangeWalk
import Derived.Laws.Tables
import Derived.Laws.CopyOwn
namespace Go.Proofs.YthgebcfohnlhlaaGreatDoor
set_option linter.unusedSimpArgs false
set_option linter.unusedVariables false
set_option linter.unusedSectionVars false
set_option maxRecDepth 100000
set_option maxHeartbeats 40000000
section
open Go.RowKit
theorem wide_fn(f:FuncId):Fence.wide.fn f=True:=rfl
theorem wide_depth:Fence.wide.depth=none:=rfl
theorem wide_fnR(l:Nat)(f:FuncId):(Fence.wide.inRound l).fn f=True:=rfl
theorem wide_depthR(l:Nat):(Fence.wide.inRound l).depth=none:=rfl
def isBook:Obj→Bool
 | .loop _=>true
 | .deferred _=>true
 |_=>false
def Keep(W W':World):Prop:=∀(k:Nat) (o:Obj),W.heap[k]? =some o→isBook o=true→W'.heap[k]? =some o
theorem Keep.refl(W:World):Keep W W:=fun _ _ h _=>h
theorem Keep.trans{A B C:World}(h:Keep A B)(k:Keep B C):Keep A C:=fun i o hi ho=>k i o (h i o hi ho) ho
theorem Keep.alloc(W:World)(o:Obj):Keep W (W.alloc o):=fun k o' hk _=>(Below.heap_alloc W o k (Array.getElem?_eq_some_iff.1 hk).1).trans hk
theorem Keep.drew(W:World):Keep W W.drew:=fun _ _ h _=>h
theorem Keep.setCell(W:World)(a:Addr)(v:Value):Keep W (W.setCell a v):=fun k o hk ho=>by
 by_cases e:k=a.block
 ·subst e;obtain⟨hlt,hk'⟩:=Array.getElem?_eq_some_iff.1 hk;show(W.heap.modify a.block _)[a.block]? =some o;rw[Array.getElem?_eq_getElem (by rw[Array.size_modify];exact hlt),Array.getElem_modify_self,hk'];cases o<;>first|rfl|(simp[isBook] at ho)
 ·exact(Below.heap_setCell W a v k e).trans hk
theorem Keep.ext{W W':World}(h:Below W.heap.size W W'):Keep W W':=fun k _ hk _=>(h.block k (Array.getElem?_eq_some_iff.1 hk).1).trans hk
theorem Keep.grown{W W':World}{row:Option Nat}(hg:W.grownBy W' row)(hrow:∀(j:Nat) (o:Obj),row=some j→W.heap[j]? =some o→isBook o=false):Keep W W':=
 fun k o hk ho=>by
  refine(hg.block k (Array.getElem?_eq_some_iff.1 hk).1 ?_).trans hk;intro e;rw[hrow k o e.symm hk] at ho;cases ho
def Steady(B:Nat)(J:World→Prop):Prop:=
 ∀W W' row,J W→W.grownBy W' row→(∀r,row=some r→B≤r∧∃o:Obj,W.heap[r]? =some o∧isBook o=true)→J W'
theorem Steady.pure(B:Nat)(p:Prop):Steady B (fun _=>p):=fun _ _ _ h _ _=>h
theorem Steady.and{B:Nat}{J J':World→Prop}(h:Steady B J)(h':Steady B J'):Steady B (fun W=>J W∧J' W):=
 fun W W' row hj hg hr=>⟨h W W' row hj.1 hg hr,h' W W' row hj.2 hg hr⟩
theorem Steady.ex{B:Nat}{α:Sort _}{J:α→World→Prop}(h:∀x,Steady B (J x)):Steady B (fun W=>∃x,J x W):=
 fun W W' row ⟨x,hj⟩ hg hr=>⟨x,h x W W' row hj hg hr⟩
theorem Steady.all{B:Nat}{α:Sort _}{J:α→World→Prop}(h:∀x,Steady B (J x)):Steady B (fun W=>∀x,J x W):=
 fun W W' row hj hg hr x=>h x W W' row (hj x) hg hr
theorem Steady.imp{B:Nat}{p:Prop}{J:World→Prop}(h:Steady B J):Steady B (fun W=>p→J W):=
 fun W W' row hj hg hr hp=>h W W' row (hj hp) hg hr
theorem block_keep{W W':World}{row:Option Nat}{B k:Nat}{o:Obj}(hk:W.heap[k]? =some o)(ho:isBook o=false)(hg:W.grownBy W' row)
  (hr:∀r,row=some r→B≤r∧∃o:Obj,W.heap[r]? =some o∧isBook o=true):W'.heap[k]? =some o:=by
 refine(hg.block k (Array.getElem?_eq_some_iff.1 hk).1 (fun e=>?_)).trans hk
 obtain⟨_,o',ho',hb⟩:=hr k e.symm
 rw[hk] at ho';cases ho';rw[ho] at hb;cases hb
theorem Steady.block(B k:Nat){o:Obj}(ho:isBook o=false):Steady B (fun W=>W.heap[k]? =some o):=fun _ _ _ h hg hr=>block_keep h ho hg hr
theorem Steady.cell(B:Nat)(p:Addr)(v:Value):Steady B (fun W=>W.cell? p=some v):=fun W W' row h hg hr=>by
 have h:W.cell? p=some v:=h
 show W'.cell? p=some v
 unfold World.cell? at h⊢
 cases ho:W.heap[p.block]? with
 |none=>simp[ho] at h
 |some o=>
  rw[block_keep ho (by cases o<;>simp_all[isBook]) hg hr];rw[ho] at h;exact h
theorem Steady.below{n₀ B:Nat}{w₀:World}(hn:n₀≤w₀.heap.size)(hB:n₀≤B):Steady B (fun W=>Below n₀ w₀ W):=
 fun _ _ _ hs hg hr=>hs.grown hg (Nat.le_trans hn hs.size) (fun k e=>Nat.le_trans hB (hr k e).1)
theorem Steady.ownsRow(B:Nat)(base:Nat)(e:TypeId)(size:Nat)(v:Value)(n:Nat)(xs:List Value):Steady B (fun W=>W.ownsRow base e size v n xs):=
 fun W W' row h hg hr=>by
  refine⟨h.1,?_⟩;rcases h.2 with h2|⟨g,cap,cur,hv,hb,hh,r⟩
  ·exact Or.inl h2
  ·exact Or.inr ⟨g,cap,cur,hv,hb,block_keep hh rfl hg hr,r⟩
theorem Steady.ext{B:Nat}{J:World→Prop}(h:Steady B J){W W':World}(hj:J W)(hb:Below W.heap.size W W'):J W':=
 h W W' none hj ⟨hb.os,hb.tape,hb.output,hb.size,fun k hk _=>hb.block k hk⟩ (fun r e=>by cases e)
theorem Steady.put{B:Nat}{J:World→Prop}(h:Steady B J){W:World}{l:Nat}{o:Obj}(o':Obj)(hj:J W)(hl:B≤l)(ho:W.heap[l]? =some o)(hb:isBook o=true):J (W.putObj l o'):=
 h W _ (some l) hj (grownBy_putObj' W l o') (fun r e=>by cases e;exact⟨hl,o,ho,hb⟩)
def roundEnd(JN:World→Prop)(JX:Code→World→Prop):Exit→Act→World→Prop
 | .normal,_,W=>JN W
 | .ret,_,W=>JX .ret W
 | .exit id,_,W=>JX (.exit id) W
 | .goto t,_,W=>JX (.goto t) W
 | .panic _,_,_=>False
 | .outgrown,_,_=>False
def Iter{σ α:Type}(P:Program)(gf:Nat)(lb:Array Value)(enc:α→Array Value)(ok:σ→α→Prop)(nx:σ→α→σ)(s0:σ)(Fin:σ→Prop)(Inv:σ→World→Prop):Prop:=
 ∀(l:Nat) (K:σ→World→Prop) (Kx:World→Prop) (W:World),
  (∀s W W',K s W→Below W.heap.size W W'→K s W')→(∀W W',Kx W→Below W.heap.size W W'→Kx W')→(∀s W,K s W→Inv s W)→
  (∀s x W,ok s x→K s W→YieldAt Fence.wide 0 P l (enc x) W fun e W'=>(e=.returned (.bool true)∧K (nx s x) W')∨(e=.returned (.bool false)∧Kx W'))→
  K s0 W→CallsIn Fence.wide 0 P gf (#[.func (.yield l) #[] #[]]++lb) W fun e W'=>(∃v,e=.returned v)∧((∃s,Fin s∧K s W')∨Kx W')
theorem range_outer{P:Program}{σ α:Type}{g:Operand}{ps:Array Tmp}{assign body:Code}{Q:Exit→Act→World→Prop}{a:Act}{w:World}{gf:Nat}{lb:Array Value}
  (hg:a.eval g=.func (.func gf) #[] lb) (eg:∀args w,(callFunc gf args).run P w=.ok (.enter gf args) w)
  {enc:α→Array Value} {ok:σ→α→Prop} {nx:σ→α→σ} {s0:σ} {Fin:σ→Prop} {Inv:σ→World→Prop} (hit:Iter P gf lb enc ok nx s0 Fin Inv)
  (hps:∀x,(enc x).size=ps.size)
  (J:σ→World→Prop) (Jx:Code→World→Prop) (A:σ→α→Act→World→Prop)
  (hJ:∀s,Steady w.heap.size (J s)) (hJx:∀c,Steady w.heap.size (Jx c)) (hA:∀s x a,Steady w.heap.size (A s x a)) (hInv:∀s W,J s W→Inv s W)
  (h0:J s0 w)
  (hassign:∀(l:Nat) (s:σ) (x:α) (W:World),ok s x→J s W→
    assign.wpIn (Fence.wide.inRound l) 0 P (Exit.then (fun a1 W1=>Keep W W1∧J s W1∧A s x a1 W1) (fun _ _ _=>False)) {tmps:=(ps.zip (enc x)).foldl (fun t (p,v)=>t.setIfInBounds p v) a.tmps,defers:= []} W)
  (hbody:∀(l:Nat) (s:σ) (x:α) (a1:Act) (W:World),ok s x→J s W→A s x a1 W→
    body.wpIn (Fence.wide.inRound l) 0 P (roundEnd (fun W'=>Keep W W'∧J (nx s x) W') (fun c W'=>Keep W W'∧Jx c W')) a1 W)
  (hdone:∀(D:Nat) (s:σ) (W:World),w.heap.size≤D→Fin s→J s W→W.heap[D]? =some (.deferred (some []))→Q .normal {a with defers:={target:=.collected D,args:=#[]} :: a.defers} W)
  (hstop:∀(D:Nat) (c:Code) (W:World),w.heap.size≤D→Jx c W→W.heap[D]? =some (.deferred (some []))→c.wpIn Fence.wide 0 P Q {a with defers:={target:=.collected D,args:=#[]} :: a.defers} W):
  (Code.rangeFunc g ps assign body).wpIn Fence.wide 0 P Q a w:=by
 refine wpIn_rangeFunc ?_
 intro fn hfn
 obtain⟨rec,hrec⟩:∃rec:LoopState→Option Code→Loop,rec=fun st pe=>{state:=st,pending:=pe,fn,tmps:=a.tmps,params:=ps,assign,body,defers:=w.heap.size}:=⟨_,rfl⟩
 obtain⟨W1,hW1⟩:∃W1,(w.alloc (.deferred (some []))).alloc (.loop (rec .ready none))=W1:=⟨_,rfl⟩
 have hL1:W1.heap[w.heap.size+1]? =some (.loop (rec .ready none)):=by
  rw[←hW1];have:=World.alloc_heap_new (w.alloc (.deferred (some []))) (.loop (rec .ready none));rwa [World.size_alloc] at this
 have hK1:W1.heap[w.heap.size]? =some (.deferred (some [])):=by
  rw[←hW1];exact(Below.heap_alloc _ _ _ (by simp)).trans (World.alloc_heap_new w _)
 have hb1:Below w.heap.size w W1:=by
  rw[←hW1];exact((Below.refl _ w).alloc (Nat.le_refl _) _).alloc (by simp) _
 have hI1:J s0 W1:=(hJ s0).ext h0 hb1
 have keepE:∀{W W':World} {k:Nat} {o:Obj},W.heap[k]? =some o→Below W.heap.size W W'→W'.heap[k]? =some o:=
  fun hk hb=>(hb.block _ (Array.getElem?_eq_some_iff.1 hk).1).trans hk
 refine⟨w.heap.size+1,[{target:=.collected w.heap.size,args:=#[]}],W1,{target:=.fn (.func gf) lb,args:=#[.func (.yield (w.heap.size+1)) #[] #[]]},W1,gf,
  #[.func (.yield (w.heap.size+1)) #[] #[]]++lb,W1,?_,?_,?_,?_,fun h=>by simp[Fence.wide] at h,?_⟩
 ·rw[←hW1,hrec];exact run_enterLoop_outer _ _ _ _ _
 ·simp only[resolve,hg];simp[go_sem]
 ·intro f' hf';trivial
 ·simp[invoke,go_sem,eg]
 ·refine(hit (w.heap.size+1)
   (fun s W=>J s W∧W.heap[w.heap.size+1]? =some (.loop (rec .ready none))∧W.heap[w.heap.size]? =some (.deferred (some [])))
   (fun W=>∃c,Jx c W∧W.heap[w.heap.size+1]? =some (.loop (rec .done (some c)))∧W.heap[w.heap.size]? =some (.deferred (some [])))
   W1 (fun s A B h hb=>⟨(hJ s).ext h.1 hb,keepE h.2.1 hb,keepE h.2.2 hb⟩)
   (fun A B h hb=>by obtain⟨c,h1,h2,h3⟩:=h;exact⟨c,(hJx c).ext h1 hb,keepE h2 hb,keepE h3 hb⟩)
   (fun s W h=>hInv s W h.1) ?_ ⟨hI1,hL1,hK1⟩).mono ?_
  ·rintro s x W hok ⟨hi,hl,hk⟩;have hy:=run_yield (P:=P) (args:=enc x) hl (by rw[hrec];exact hps x);rw[hrec] at hy;refine⟨fn,_,assign,body,hy,roundIn_of_wpIn hfn (wpIn_mono (hassign _ s x W hok hi) ?_)⟩;rintro e a1 V hp;cases e with
   |normal=>
    obtain⟨hkp,hiV,hAV⟩:=hp;have hlV:=hkp _ _ hl rfl;have hkV:=hkp _ _ hk rfl;have hlt:w.heap.size+1<V.heap.size:=(Array.getElem?_eq_some_iff.1 hlV).1;refine⟨_,run_beginRound hlV (by rw[hrec]),?_⟩;have hl2:(V.putObj (w.heap.size+1) (.loop {rec .ready none with state:=.busy})).heap[w.heap.size+1]? =some (.loop {rec .ready none with state:=.busy}):=World.putObj_heap_same hlt;have hk2:(V.putObj (w.heap.size+1) (.loop {rec .ready none with state:=.busy})).heap[w.heap.size]? =some (.deferred (some [])):=(World.putObj_heap_other (by omega)).trans hkV;refine wpIn_mono (hbody _ s x a1 _ hok ((hJ s).put _ hiV (by omega) hlV rfl) ((hA s x a1).put _ hAV (by omega) hlV rfl)) ?_
    have fin:∀(jump:Option Code) (W3:World),Keep (V.putObj (w.heap.size+1) (.loop {rec .ready none with state:=.busy})) W3→
      (Instr.endRound (w.heap.size+1) jump).run P W3=.ok (.bool jump.isNone) (W3.putObj (w.heap.size+1) (.loop (rec (if jump.isNone then .ready else .done) jump)))∧
      W3.heap[w.heap.size+1]? =some (.loop {rec .ready none with state:=.busy})∧
      (W3.putObj (w.heap.size+1) (.loop (rec (if jump.isNone then .ready else .done) jump))).heap[w.heap.size+1]? =some (.loop (rec (if jump.isNone then .ready else .done) jump))∧
      (W3.putObj (w.heap.size+1) (.loop (rec (if jump.isNone then .ready else .done) jump))).heap[w.heap.size]? =some (.deferred (some [])):=fun jump W3 hk3=>by
     have hl3:=hk3 _ _ hl2 rfl;have:=run_endRound (P:=P) jump hl3;rw[hrec] at this⊢;exact⟨this,by rw[hrec] at hl3;exact hl3,World.putObj_heap_same (Array.getElem?_eq_some_iff.1 hl3).1,(World.putObj_heap_other (by omega)).trans (hk3 _ _ hk2 rfl)⟩
    rintro e a3 W3 hp;cases e with
    |normal=>
     obtain⟨hk3,hi3⟩:=hp;obtain⟨hr,hl3,hl4,hk4⟩:=fin none W3 hk3;exact⟨_,_,hr,.inl ⟨rfl,(hJ _).put _ hi3 (by omega) hl3 rfl,hl4,hk4⟩⟩
    |ret=>
     obtain⟨hk3,hi3⟩:=hp;obtain⟨hr,hl3,hl4,hk4⟩:=fin (some .ret) W3 hk3;exact⟨_,_,hr,.inr ⟨rfl,.ret,(hJx _).put _ hi3 (by omega) hl3 rfl,hl4,hk4⟩⟩
    |exit id=>
     obtain⟨hk3,hi3⟩:=hp;obtain⟨hr,hl3,hl4,hk4⟩:=fin (some (.exit id)) W3 hk3;exact⟨_,_,hr,.inr ⟨rfl,.exit id,(hJx _).put _ hi3 (by omega) hl3 rfl,hl4,hk4⟩⟩
    |goto t=>
     obtain⟨hk3,hi3⟩:=hp;obtain⟨hr,hl3,hl4,hk4⟩:=fin (some (.goto t)) W3 hk3;exact⟨_,_,hr,.inr ⟨rfl,.goto t,(hJx _).put _ hi3 (by omega) hl3 rfl,hl4,hk4⟩⟩
    |panic ch=>exact hp.elim
    |outgrown=>exact hp.elim
   |exit id=>exact hp.elim
   |goto t=>exact hp.elim
   |ret=>exact hp.elim
   |panic chain=>exact hp.elim
   |outgrown=>exact hp.elim
  ·rintro e W2 ⟨⟨v,rfl⟩,(⟨s,hS,hi,hl,hk⟩|⟨c,hi,hl,hk⟩)⟩
   ·exact⟨none,_,by have:=run_endLoop (P:=P) hl (by rw[hrec];simp);rw[hrec] at this;exact this,hdone _ s _ (Nat.le_refl _) hS ((hJ s).put _ hi (by omega) hl rfl) ((World.putObj_heap_other (by omega)).trans hk)⟩
   ·exact⟨some c,_,by have:=run_endLoop (P:=P) hl (by rw[hrec];simp);rw[hrec] at this;exact this,hstop _ c _ (Nat.le_refl _) ((hJx c).put _ hi (by omega) hl rfl) ((World.putObj_heap_other (by omega)).trans hk)⟩
end

section
open Go.RowKit
def notDefer(o:Oper):Bool:=match o.op with| .defer _=>false|_=>true
theorem rowsIn_of{n:Nat}{P:Program}{row:String}{args:Array Value}{w:World}{R:Value→World→Prop}(l:Nat)(h:Rows P row args w R):RowsIn (Fence.wide.inRound l) n P row args w R:=
 fun c cs _=>let ⟨v,w',r,s⟩:=h c cs;⟨v,w',r,stepsIn_wide.2 s⟩
theorem wpOpsIn_of{P:Program}{ops:Array Oper}{Q:Exit→Act→World→Prop}(l:Nat)(hn:∀(i:Nat) (o:Oper),ops[i]? =some o→notDefer o=true)(hQ:¬LetsOut Q):
  ∀(order:List Nat) (a:Act) (w:World),wpOps P ops Q order a w→wpOpsIn (Fence.wide.inRound l) 0 P ops Q order a w:=by
 intro order
 induction order with
 |nil=>intro a w h;exact h
 |cons i rest ih=>
  intro a w h;simp only[wpOps,wpOpsIn] at h⊢;cases ho:ops[i]? with
  |none=>simp only[ho] at h⊢;exact ih a w h
  |some o=>
   simp only[ho] at h⊢;by_cases hw:Region.wanted o (yielded ops a.tmps)=true
   ·simp only[hw,if_true] at h⊢;rcases h with h|⟨_,h⟩
    ·refine⟨fun _ _=>trivial,?_⟩;have hs:Oper.semAt (Fence.wide.inRound l).round a.eval o=execOp a.eval o:=Oper.semAt_some l _ _ (fun c hc=>by have:=hn i o ho;simp[notDefer,hc] at this);rw[hs];unfold Oper.wp at h;generalize (execOp a.eval o).run P w=r at h;cases r with
     |ok nx w'=>
      cases nx<;>simp only[Oper.upon,Oper.uponIn] at h⊢<;>first
       |exact ih _ _ h
       |exact⟨fun hh=>by simp[Fence.wide,Fence.inRound] at hh,(CallsIn.inRound l (callsIn_wide.2 (h.mono (fun e w'' he=>by cases e<;>first|exact ih _ _ he|exact he))))⟩
       |exact⟨fun hh=>by simp[Fence.wide,Fence.inRound] at hh,rowsIn_of l (h.mono (fun v w'' hv=>ih _ _ hv))⟩
       |exact h.elim
     |halt x w'=>cases x<;>simp only[Oper.upon,Oper.uponIn] at h⊢<;>exact h
    ·exact absurd h hQ
   ·simp only[hw] at h⊢;exact⟨fun _ _=>trivial,ih _ _ h⟩
theorem noOut_then{K:Act→World→Prop}{Q:Exit→Act→World→Prop}(h:¬LetsOut Q):¬LetsOut (Exit.then K Q):=h
theorem noOut_block{id:Nat}{Q:Exit→Act→World→Prop}(h:¬LetsOut Q):¬LetsOut (Exit.inBlock id Q):=h
theorem noOut_round{JN:World→Prop}{JX:Code→World→Prop}:¬LetsOut (roundEnd JN JX):=fun⟨_,_,h⟩=>h
end

section
open Go.RowKit
def okL{α:Type}(s:List α)(x:α):Prop:=s.head? =some x
def nxL{α:Type}(s:List α)(_:α):List α:=s.tail
def finL{α:Type}(s:List α):Prop:=s= []
theorem okL_cons{α:Type}{s:List α}{x:α}(h:okL s x):s=x :: nxL s x:=by
 cases s with
 |nil=>cases h
 |cons y l=>injection h with h;subst h;rfl
def IterI{α:Type}(P:Program)(gf:Nat)(lb:Array Value)(enc:α→Array Value)(l:List α)(I:World→Prop):Prop:=
 Iter P gf lb enc okL nxL l finL (fun _ W=>I W)
theorem listIn_of{P:Program}{ops:Array Oper}{Q:Exit→Act→World→Prop}{l:Nat}(hQ:¬LetsOut Q):
  ∀(rest:List Oper) (a:Act) (w:World),rest.all notDefer=true→wpList P ops Q rest a w→wpListIn (Fence.wide.inRound l) 0 P ops Q rest a w:=by
 intro rest
 induction rest with
 |nil=>intro a w _ h;exact h
 |cons o rest ih=>
  intro a w hn h;rw[List.all_cons,Bool.and_eq_true] at hn;simp only[wpList,wpListIn] at h⊢;by_cases hw:Region.wanted o (yielded ops a.tmps)=true
  ·simp only[hw,if_true] at h⊢;rcases h with h|⟨_,h⟩
   ·refine⟨fun _ _=>trivial,?_⟩;have hs:Oper.semAt (Fence.wide.inRound l).round a.eval o=execOp a.eval o:=Oper.semAt_some l _ _ (fun c hc=>by have:=hn.1;simp[notDefer,hc] at this);rw[hs];unfold Oper.wp at h;generalize (execOp a.eval o).run P w=r at h;cases r with
    |ok nx w'=>
     cases nx<;>simp only[Oper.upon,Oper.uponIn] at h⊢<;>first
      |exact ih _ _ hn.2 h
      |exact⟨fun hh=>by simp[Fence.wide,Fence.inRound] at hh,(CallsIn.inRound l (callsIn_wide.2 (h.mono (fun e w'' he=>by cases e<;>first|exact ih _ _ hn.2 he|exact he))))⟩
      |exact⟨fun hh=>by simp[Fence.wide,Fence.inRound] at hh,rowsIn_of l (h.mono (fun v w'' hv=>ih _ _ hn.2 hv))⟩
      |exact h.elim
    |halt x w'=>cases x<;>simp only[Oper.upon,Oper.uponIn] at h⊢<;>exact h
   ·exact absurd h hQ
  ·simp only[hw] at h⊢;exact⟨fun _ _=>trivial,ih _ _ hn.2 h⟩
theorem wide_quiet_lit{P:Program}{id:Nat}{Q:Exit→Act→World→Prop}{a:Act}{w:World}{ol:List Oper}(hm:P.follows .mixedOrders=true)(hB:Region.lexB .any ol.toArray=true)
  (h:wpQuiet P ol.toArray (fun w'=>∃n,w'=w.drewN n) (fun a'=>∀w',(∃n,w'=w.drewN n)→Q .normal a' w') ol a):(Code.region id ol.toArray true).wpIn Fence.wide 0 P Q a w:=
 wpIn_wide.2 (wp_region_quiet_lit hm hB h)
theorem range_list{P:Program}{α:Type}{g:Operand}{ps:Array Tmp}{assign body:Code}{Q:Exit→Act→World→Prop}{a:Act}{w:World}{gf:Nat}{lb:Array Value}
  (hg:a.eval g=.func (.func gf) #[] lb) (eg:∀args w,(callFunc gf args).run P w=.ok (.enter gf args) w)
  {enc:α→Array Value} {l:List α} (I:World→Prop) (hit:IterI P gf lb enc l I) (hps:∀x,(enc x).size=ps.size)
  (J:List α→List α→World→Prop) (Jx:Code→World→Prop)
  (hJ:∀d r,Steady w.heap.size (J d r)) (hJx:∀c,Steady w.heap.size (Jx c)) (hInv:∀d r W,J d r W→I W)
  (h0:J [] l w)
  (hround:∀(lp:Nat) (d:List α) (x:α) (r:List α) (W:World),l=d++x :: r→J d (x :: r) W→
    assign.wpIn (Fence.wide.inRound lp) 0 P (Exit.then (fun a1 W1=>Keep W W1∧J d (x :: r) W1∧∀(lp:Nat) (W2:World),J d (x :: r) W2→
     body.wpIn (Fence.wide.inRound lp) 0 P (roundEnd (fun W'=>Keep W2 W'∧J (d++ [x]) r W') (fun c W'=>Keep W2 W'∧Jx c W')) a1 W2) (fun _ _ _=>False)) {tmps:=(ps.zip (enc x)).foldl (fun t (p,v)=>t.setIfInBounds p v) a.tmps,defers:= []} W)
  (hdone:∀(D:Nat) (W:World),w.heap.size≤D→J l [] W→W.heap[D]? =some (.deferred (some []))→Q .normal {a with defers:={target:=.collected D,args:=#[]} :: a.defers} W)
  (hstop:∀(D:Nat) (c:Code) (W:World),w.heap.size≤D→Jx c W→W.heap[D]? =some (.deferred (some []))→c.wpIn Fence.wide 0 P Q {a with defers:={target:=.collected D,args:=#[]} :: a.defers} W):
  (Code.rangeFunc g ps assign body).wpIn Fence.wide 0 P Q a w:=by
 refine range_outer (enc:=enc) hg eg hit hps (fun s W=>∃d,l=d++s∧J d s W) Jx
  (fun s x a1 _=>∀(d:List α) (lp:Nat) (W2:World),l=d++s→J d s W2→body.wpIn (Fence.wide.inRound lp) 0 P (roundEnd (fun W'=>Keep W2 W'∧J (d++ [x]) (nxL s x) W') (fun c W'=>Keep W2 W'∧Jx c W')) a1 W2)
  (fun s=>Steady.ex fun d=>(Steady.pure _ _).and (hJ d s)) hJx (fun _ _ _=>Steady.pure _ _) (fun s W ⟨d,_,h⟩=>hInv d s W h) ⟨[],rfl,h0⟩ ?_ ?_ ?_ hstop
 ·rintro lp s x W hok ⟨d,hd,hj⟩;have hs:=okL_cons hok;generalize nxL s x=r at hs⊢;subst hs;refine wpIn_mono (hround lp d x r W hd hj) ?_;rintro e a1 W1 he;cases e with
  |normal=>
   obtain⟨h1,h2,h3⟩:=he;refine⟨h1,⟨d,hd,h2⟩,fun d' lp' W2 hd' hj'=>?_⟩;have:d'=d:=by
    have:=hd'.symm.trans hd;exact List.append_cancel_right this
   subst this;exact h3 lp' W2 hj'
  |_=>exact he.elim
 ·rintro lp s x a1 W hok ⟨d,hd,hj⟩ hA;refine wpIn_mono (hA d lp W hd hj) ?_;rintro e a3 W3 he;cases e with
  |normal=>
   refine⟨he.1,d++ [x],?_,he.2⟩;rw[hd,List.append_assoc]
   congr 1
   exact okL_cons hok
  |ret=>exact he
  |exit id=>exact he
  |goto t=>exact he
  |panic ch=>exact he.elim
  |outgrown=>exact he.elim
 ·rintro D s W hD hf ⟨d,hd,hj⟩ hk;have hf:s= []:=hf;subst hf;rw[List.append_nil] at hd;subst hd;exact hdone D W hD hj hk
end

section
open Go.RowKit
def Tch(T:World→Nat→Prop)(W W':World):Prop:=
 W.heap.size≤W'.heap.size∧(∀k,k<W.heap.size→¬T W k→W'.heap[k]? =W.heap[k]?)∧∀k,T W' k→T W k∨W.heap.size≤k
theorem Tch.refl(T:World→Nat→Prop)(W:World):Tch T W W:=⟨Nat.le_refl _,fun _ _ _=>rfl,fun _ h=>.inl h⟩
theorem grown_put(W:World)(l:Nat)(o:Obj):W.grownBy (W.putObj l o) (some l):=
 ⟨rfl,rfl,rfl,by simp,fun k _ hne=>World.putObj_heap_other (fun e=>hne (by rw[e]))⟩
def IterT{σ α:Type}(P:Program)(gf:Nat)(lb:Array Value)(enc:α→Array Value)(ok:σ→α→Prop)(nx:σ→α→σ)(s0:σ)(Fin:σ→Prop)(Inv:σ→World→Prop):Prop:=
 ∀(l:Nat) (K:σ→World→Prop) (Kx:World→Prop) (T:World→Nat→Prop) (W:World),
  (∀s W W',K s W→Below W.heap.size W W'→K s W')→(∀W W',Kx W→Below W.heap.size W W'→Kx W')→(∀s W,K s W→Inv s W)→
  (∀s W k,K s W→T W k→k<W.heap.size)→(∀s W W' k,K s W→Below W.heap.size W W'→T W' k→T W k)→
  (∀s x W,ok s x→K s W→YieldAt Fence.wide 0 P l (enc x) W fun e W'=>(e=.returned (.bool true)∧K (nx s x) W'∧Tch T W W')∨(e=.returned (.bool false)∧Kx W'))→
  K s0 W→CallsIn Fence.wide 0 P gf (#[.func (.yield l) #[] #[]]++lb) W fun e W'=>(∃v,e=.returned v)∧((∃s,Fin s∧K s W')∨Kx W')
theorem range_outerT{P:Program}{σ α:Type}{g:Operand}{ps:Array Tmp}{assign body:Code}{Q:Exit→Act→World→Prop}{a:Act}{w:World}{gf:Nat}{lb:Array Value}
  (hg:a.eval g=.func (.func gf) #[] lb) (eg:∀args w,(callFunc gf args).run P w=.ok (.enter gf args) w)
  {enc:α→Array Value} {ok:σ→α→Prop} {nx:σ→α→σ} {s0:σ} {Fin:σ→Prop} {Inv:σ→World→Prop} (hit:IterT P gf lb enc ok nx s0 Fin Inv)
  (hps:∀x,(enc x).size=ps.size)
  (J:σ→World→Prop) (Jx:Code→World→Prop) (A:σ→α→Act→World→Prop)
  (hJ:∀s,Steady w.heap.size (J s)) (hJx:∀c,Steady w.heap.size (Jx c)) (hA:∀s x a,Steady w.heap.size (A s x a)) (hInv:∀s W,J s W→Inv s W)
  (T:World→Nat→Prop) (hT0:∀s W k,J s W→T W k→k<W.heap.size) (hTg:∀W W' row,W.grownBy W' row→(∀r,row=some r→w.heap.size≤r∧∃o:Obj,W.heap[r]? =some o∧isBook o=true)→(∃s,J s W)→∀k,T W' k→T W k)
  (h0:J s0 w)
  (hassign:∀(l:Nat) (s:σ) (x:α) (W:World),ok s x→J s W→
    assign.wpIn (Fence.wide.inRound l) 0 P (Exit.then (fun a1 W1=>Keep W W1∧J s W1∧A s x a1 W1∧Tch T W W1) (fun _ _ _=>False)) {tmps:=(ps.zip (enc x)).foldl (fun t (p,v)=>t.setIfInBounds p v) a.tmps,defers:= []} W)
  (hbody:∀(l:Nat) (s:σ) (x:α) (a1:Act) (W:World),ok s x→J s W→A s x a1 W→
    body.wpIn (Fence.wide.inRound l) 0 P (roundEnd (fun W'=>Keep W W'∧J (nx s x) W'∧Tch T W W') (fun c W'=>Keep W W'∧Jx c W')) a1 W)
  (hdone:∀(D:Nat) (s:σ) (W:World),w.heap.size≤D→Fin s→J s W→W.heap[D]? =some (.deferred (some []))→Q .normal {a with defers:={target:=.collected D,args:=#[]} :: a.defers} W)
  (hstop:∀(D:Nat) (c:Code) (W:World),w.heap.size≤D→Jx c W→W.heap[D]? =some (.deferred (some []))→c.wpIn Fence.wide 0 P Q {a with defers:={target:=.collected D,args:=#[]} :: a.defers} W):
  (Code.rangeFunc g ps assign body).wpIn Fence.wide 0 P Q a w:=by
 refine wpIn_rangeFunc ?_
 intro fn hfn
 obtain⟨rec,hrec⟩:∃rec:LoopState→Option Code→Loop,rec=fun st pe=>{state:=st,pending:=pe,fn,tmps:=a.tmps,params:=ps,assign,body,defers:=w.heap.size}:=⟨_,rfl⟩
 obtain⟨W1,hW1⟩:∃W1,(w.alloc (.deferred (some []))).alloc (.loop (rec .ready none))=W1:=⟨_,rfl⟩
 have hL1:W1.heap[w.heap.size+1]? =some (.loop (rec .ready none)):=by
  rw[←hW1];have:=World.alloc_heap_new (w.alloc (.deferred (some []))) (.loop (rec .ready none));rwa [World.size_alloc] at this
 have hK1:W1.heap[w.heap.size]? =some (.deferred (some [])):=by
  rw[←hW1];exact(Below.heap_alloc _ _ _ (by simp)).trans (World.alloc_heap_new w _)
 have hb1:Below w.heap.size w W1:=by
  rw[←hW1];exact((Below.refl _ w).alloc (Nat.le_refl _) _).alloc (by simp) _
 have hI1:J s0 W1:=(hJ s0).ext h0 hb1
 have keepE:∀{W W':World} {k:Nat} {o:Obj},W.heap[k]? =some o→Below W.heap.size W W'→W'.heap[k]? =some o:=
  fun hk hb=>(hb.block _ (Array.getElem?_eq_some_iff.1 hk).1).trans hk
 refine⟨w.heap.size+1,[{target:=.collected w.heap.size,args:=#[]}],W1,{target:=.fn (.func gf) lb,args:=#[.func (.yield (w.heap.size+1)) #[] #[]]},W1,gf,
  #[.func (.yield (w.heap.size+1)) #[] #[]]++lb,W1,?_,?_,?_,?_,fun h=>by simp[Fence.wide] at h,?_⟩
 ·rw[←hW1,hrec];exact run_enterLoop_outer _ _ _ _ _
 ·simp only[resolve,hg];simp[go_sem]
 ·intro f' hf';trivial
 ·simp[invoke,go_sem,eg]
 ·refine(hit (w.heap.size+1)
   (fun s W=>J s W∧W.heap[w.heap.size+1]? =some (.loop (rec .ready none))∧W.heap[w.heap.size]? =some (.deferred (some [])))
   (fun W=>∃c,Jx c W∧W.heap[w.heap.size+1]? =some (.loop (rec .done (some c)))∧W.heap[w.heap.size]? =some (.deferred (some [])))
   (fun W k=>T W k∨k=w.heap.size+1∨k=w.heap.size)
   W1 (fun s A B h hb=>⟨(hJ s).ext h.1 hb,keepE h.2.1 hb,keepE h.2.2 hb⟩)
   (fun A B h hb=>by obtain⟨c,h1,h2,h3⟩:=h;exact⟨c,(hJx c).ext h1 hb,keepE h2 hb,keepE h3 hb⟩)
   (fun s W h=>hInv s W h.1)
   (fun s W k h ht=>by
     rcases ht with ht|rfl|rfl
     ·exact hT0 s W k h.1 ht
     ·exact(Array.getElem?_eq_some_iff.1 h.2.1).1
     ·exact(Array.getElem?_eq_some_iff.1 h.2.2).1)
   (fun s A B k h hb ht=>by
     rcases ht with ht|ht
     ·exact .inl (hTg A B none ⟨hb.os,hb.tape,hb.output,hb.size,fun k hk _=>hb.block k hk⟩ (fun r hr=>by cases hr) ⟨s,h.1⟩ k ht)
     ·exact .inr ht)
   ?_ ⟨hI1,hL1,hK1⟩).mono ?_
  ·rintro s x W hok ⟨hi,hl,hk⟩;have hy:=run_yield (P:=P) (args:=enc x) hl (by rw[hrec];exact hps x);rw[hrec] at hy;refine⟨fn,_,assign,body,hy,roundIn_of_wpIn hfn (wpIn_mono (hassign _ s x W hok hi) ?_)⟩;rintro e a1 V hp;cases e with
   |normal=>
    obtain⟨hkp,hiV,hAV,hTV⟩:=hp;have hlV:=hkp _ _ hl rfl;have hkV:=hkp _ _ hk rfl;have hlt:w.heap.size+1<V.heap.size:=(Array.getElem?_eq_some_iff.1 hlV).1;refine⟨_,run_beginRound hlV (by rw[hrec]),?_⟩;have hl2:(V.putObj (w.heap.size+1) (.loop {rec .ready none with state:=.busy})).heap[w.heap.size+1]? =some (.loop {rec .ready none with state:=.busy}):=World.putObj_heap_same hlt;have hk2:(V.putObj (w.heap.size+1) (.loop {rec .ready none with state:=.busy})).heap[w.heap.size]? =some (.deferred (some [])):=(World.putObj_heap_other (by omega)).trans hkV;refine wpIn_mono (hbody _ s x a1 _ hok ((hJ s).put _ hiV (by omega) hlV rfl) ((hA s x a1).put _ hAV (by omega) hlV rfl)) ?_
    have fin:∀(jump:Option Code) (W3:World),Keep (V.putObj (w.heap.size+1) (.loop {rec .ready none with state:=.busy})) W3→
      (Instr.endRound (w.heap.size+1) jump).run P W3=.ok (.bool jump.isNone) (W3.putObj (w.heap.size+1) (.loop (rec (if jump.isNone then .ready else .done) jump)))∧
      W3.heap[w.heap.size+1]? =some (.loop {rec .ready none with state:=.busy})∧
      (W3.putObj (w.heap.size+1) (.loop (rec (if jump.isNone then .ready else .done) jump))).heap[w.heap.size+1]? =some (.loop (rec (if jump.isNone then .ready else .done) jump))∧
      (W3.putObj (w.heap.size+1) (.loop (rec (if jump.isNone then .ready else .done) jump))).heap[w.heap.size]? =some (.deferred (some [])):=fun jump W3 hk3=>by
     have hl3:=hk3 _ _ hl2 rfl;have:=run_endRound (P:=P) jump hl3;rw[hrec] at this⊢;exact⟨this,by rw[hrec] at hl3;exact hl3,World.putObj_heap_same (Array.getElem?_eq_some_iff.1 hl3).1,(World.putObj_heap_other (by omega)).trans (hk3 _ _ hk2 rfl)⟩
    rintro e a3 W3 hp;cases e with
    |normal=>
     obtain⟨hk3,hi3,hT3⟩:=hp;obtain⟨hr,hl3,hl4,hk4⟩:=fin none W3 hk3;refine⟨_,_,hr,.inl ⟨rfl,⟨(hJ _).put _ hi3 (by omega) hl3 rfl,hl4,hk4⟩,?_⟩⟩;have g1:=grown_put V (w.heap.size+1) (.loop {rec .ready none with state:=.busy});have g2:=grown_put W3 (w.heap.size+1) (.loop (rec (if (none:Option Code).isNone then .ready else .done) none));have t1:∀k,T (V.putObj (w.heap.size+1) (.loop {rec .ready none with state:=.busy})) k→T V k:=hTg _ _ _ g1 (fun r hr=>by cases hr;exact⟨by omega,_,hlV,rfl⟩) ⟨s,hiV⟩;have t2:∀k,T (W3.putObj (w.heap.size+1) (.loop (rec (if (none:Option Code).isNone then .ready else .done) none))) k→T W3 k:=hTg _ _ _ g2 (fun r hr=>by cases hr;exact⟨by omega,_,hl3,rfl⟩) ⟨_,hi3⟩;have z1:(V.putObj (w.heap.size+1) (.loop {rec .ready none with state:=.busy})).heap.size=V.heap.size:=by simp
     have z2:(W3.putObj (w.heap.size+1) (.loop (rec (if (none:Option Code).isNone then .ready else .done) none))).heap.size=W3.heap.size:=by simp
     have s1:=hTV.1;have s3:=hT3.1;rw[z1] at s3;refine⟨by rw[z2];omega,fun k hk hn=>?_,fun k hk=>?_⟩
     ·have n1:k≠w.heap.size+1:=fun e=>hn (.inr (.inl e));have n0:¬T W k:=fun e=>hn (.inl e);have m1:¬T V k:=fun e=>(hTV.2.2 k e).elim n0 (by omega);have m2:=fun e=>m1 (t1 k e);rw[World.putObj_heap_other n1,hT3.2.1 k (by rw[z1];omega) m2,World.putObj_heap_other n1,hTV.2.1 k hk n0]
     ·rcases hk with hk|hk
      ·rcases hT3.2.2 k (t2 k hk) with h|h
       ·rcases hTV.2.2 k (t1 k h) with h|h
        ·exact .inl (.inl h)
        ·exact .inr h
       ·rw[z1] at h;exact .inr (by omega)
      ·exact .inl (.inr hk)
    |ret=>
     obtain⟨hk3,hi3⟩:=hp;obtain⟨hr,hl3,hl4,hk4⟩:=fin (some .ret) W3 hk3;exact⟨_,_,hr,.inr ⟨rfl,.ret,(hJx _).put _ hi3 (by omega) hl3 rfl,hl4,hk4⟩⟩
    |exit id=>
     obtain⟨hk3,hi3⟩:=hp;obtain⟨hr,hl3,hl4,hk4⟩:=fin (some (.exit id)) W3 hk3;exact⟨_,_,hr,.inr ⟨rfl,.exit id,(hJx _).put _ hi3 (by omega) hl3 rfl,hl4,hk4⟩⟩
    |goto t=>
     obtain⟨hk3,hi3⟩:=hp;obtain⟨hr,hl3,hl4,hk4⟩:=fin (some (.goto t)) W3 hk3;exact⟨_,_,hr,.inr ⟨rfl,.goto t,(hJx _).put _ hi3 (by omega) hl3 rfl,hl4,hk4⟩⟩
    |panic ch=>exact hp.elim
    |outgrown=>exact hp.elim
   |exit id=>exact hp.elim
   |goto t=>exact hp.elim
   |ret=>exact hp.elim
   |panic chain=>exact hp.elim
   |outgrown=>exact hp.elim
  ·rintro e W2 ⟨⟨v,rfl⟩,(⟨s,hS,hi,hl,hk⟩|⟨c,hi,hl,hk⟩)⟩
   ·exact⟨none,_,by have:=run_endLoop (P:=P) hl (by rw[hrec];simp);rw[hrec] at this;exact this,hdone _ s _ (Nat.le_refl _) hS ((hJ s).put _ hi (by omega) hl rfl) ((World.putObj_heap_other (by omega)).trans hk)⟩
   ·exact⟨some c,_,by have:=run_endLoop (P:=P) hl (by rw[hrec];simp);rw[hrec] at this;exact this,hstop _ c _ (Nat.le_refl _) ((hJx c).put _ hi (by omega) hl rfl) ((World.putObj_heap_other (by omega)).trans hk)⟩
def IterTI{α:Type}(P:Program)(gf:Nat)(lb:Array Value)(enc:α→Array Value)(l:List α)(I:World→Prop):Prop:=
 IterT P gf lb enc okL nxL l finL (fun _ W=>I W)
end

section
open Go.RowKit
theorem nodup_length_le{α:Type}:∀{l l':List α},l.Nodup→(∀x∈l,x∈l')→l.length≤l'.length
 | [],l',_,_=>Nat.zero_le _
 |a :: t,l',hn,hs=>by
  obtain⟨hat,ht⟩:=List.nodup_cons.1 hn;obtain⟨s,r,rfl⟩:=List.append_of_mem (hs a (by simp));have h1:∀x∈t,x∈s++r:=fun x hx=>by
   have h2:=hs x (by simp[hx]);have hne:x≠a:=fun e=>hat (e▸hx);simp only[List.mem_append,List.mem_cons] at h2⊢;rcases h2 with h2|h2|h2
   ·exact .inl h2
   ·exact absurd h2 hne
   ·exact .inr h2
  have:=nodup_length_le ht h1;simp only[List.length_append,List.length_cons] at this⊢;omega
theorem map_inj_of_nodup{α β:Type}{g:α→β}:∀{l:List α},(l.map g).Nodup→∀{x y:α},x∈l→y∈l→g x=g y→x=y
 | [],_,_,_,hx,_,_=>by cases hx
 |a :: t,hn,x,y,hx,hy,h=>by
  obtain⟨h1,h2⟩:=List.nodup_cons.1 hn;rcases List.mem_cons.1 hx with rfl|hx'
  ·rcases List.mem_cons.1 hy with rfl|hy'
   ·rfl
   ·exact absurd (List.mem_map.2 ⟨y,hy',h.symm⟩) h1
  ·rcases List.mem_cons.1 hy with rfl|hy'
   ·exact absurd (List.mem_map.2 ⟨x,hx',h⟩) h1
   ·exact map_inj_of_nodup h2 hx' hy' h
structure KeyT{α:Type}(P:Program)(kt:TypeId)(enc:α→Value)(dec:Value→α):Prop where
 find:∀(x:α) (w:World) (l:List MapEntry),(∀e∈l,e.key=enc (dec e.key))→
  (x∉l.map (fun e=>dec e.key)∧(Instr.findKey kt (enc x) l).run P w=.ok none w)∨
  ∃j e,l[j]? =some e∧dec e.key=x∧(Instr.findKey kt (enc x) l).run P w=.ok (some (j,e.val)) w
 check:∀(em:Bool) (x:α) (w:World),(Instr.checkKey em 10000 kt (enc x)).run P w=.ok () w
 bits:∀(x:α),Instr.sameBits 10000 (enc x) (enc x)=true
 dec:∀(x:α),dec (enc x)=x
def SetM{α:Type}(enc:α→Value)(dec:Value→α)(one:Value)(w:World)(b:Nat)(L:List α):Prop:=
 ∃es clock,w.heap[b]? =some (.map es clock)∧(∀e∈es.toList,e.key=enc (dec e.key)∧e.val=one∧e.born<clock)∧L=es.toList.map (fun e=>dec e.key)∧L.Nodup∧(es.toList.map (·.born)).Nodup
section
variable {α:Type} {P:Program} {t kt et:TypeId} {enc:α→Value} {dec:Value→α} {one:Value} {w w':World} {b:Nat} {L:List α}
theorem SetM.lt(h:SetM enc dec one w b L):b<w.heap.size:=by obtain⟨es,c,hb,_⟩:=h;exact(Array.getElem?_eq_some_iff.1 hb).1
theorem SetM.nodup(h:SetM enc dec one w b L):L.Nodup:=by obtain⟨es,c,_,_,_,h,_⟩:=h;exact h
theorem SetM.made(enc:α→Value)(dec:Value→α)(one:Value)(w:World):SetM enc dec one (w.alloc (.map #[] 0)) w.heap.size []:=
 ⟨#[],0,World.alloc_heap_new w _,by intro e he;simp at he,by simp,by simp,by simp⟩
theorem SetM.of_block(h:SetM enc dec one w b L)(hb:w'.heap[b]? =w.heap[b]?):SetM enc dec one w' b L:=by
 obtain⟨es,c,h1,h2⟩:=h;exact⟨es,c,hb.trans h1,h2⟩
theorem SetM.copy(h:SetM enc dec one w b L):∃es clock,w.heap[b]? =some (.map es clock)∧SetM enc dec one (w.alloc (.map es clock)) w.heap.size L:=by
 obtain⟨es,c,h1,h2⟩:=h;exact⟨es,c,h1,es,c,World.alloc_heap_new w _,h2⟩
theorem Steady.setM(B b:Nat)(L:List α):Steady B (fun W=>SetM enc dec one W b L):=fun W W' row h hg hr=>by
 obtain⟨es,c,h1,h2⟩:=h
 exact⟨es,c,block_keep h1 rfl hg hr,h2⟩
theorem SetM.nocell(h:SetM enc dec one w b L){p:Addr}{v:Value}(hc:w.cell? p=some v):p.block≠b:=fun e=>by
 obtain⟨es,c,h1,_⟩:=h
 unfold World.cell? at hc
 rw[e,h1] at hc
 cases hc
theorem run_keyStays(x:α)(K:KeyT P kt enc dec)(w:World):(Instr.keyThatStays (enc x) (enc x)).run P w=.ok (enc x) w:=by
 simp[Instr.keyThatStays,K.bits]
theorem SetM.look [DecidableEq α](h:SetM enc dec one w b L)(K:KeyT P kt enc dec)(ht:P.underlying t=some (.map kt et)){z:Value}(hz:(zeroValue et).run P w=.ok z w)(x:α):
  (Instr.lookup t (.map (some b)) (enc x) false).run P w=.ok (if x∈L then one else z) w:=by
 obtain⟨es,c,hb,hi,rfl,_⟩:=h
 have hgo:(getObj b).run P w=.ok (.map es c) w:=by simp[getObj,Sem.run,hb]
 rcases K.find x w es.toList (fun e he=>(hi e he).1) with ⟨h1,h2⟩|⟨j,e,h1,h2,h3⟩
 ·simp[Instr.lookup,run_underlying ht,Sem.run_bind,hgo,K.check,h2,hz,Result.andThen];intro y hy hxy;exact absurd (List.mem_map.2 ⟨y,Array.mem_toList_iff.2 hy,hxy⟩) h1
 ·have hm:=List.mem_of_getElem? h1;have hx:x∈es.toList.map (fun e=>dec e.key):=List.mem_map.2 ⟨e,hm,h2⟩;rw[if_pos hx,←(hi e hm).2.1];simp[Instr.lookup,run_underlying ht,Sem.run_bind,hgo,K.check,h3,Result.andThen]
theorem SetM.put(h:SetM enc dec one w b L)(K:KeyT P kt enc dec)(ht:P.underlying t=some (.map kt et))(x:α):
  ∃o L',(Instr.mapUpdate t (.map (some b)) (enc x) one).run P w=.ok () (w.putObj b o)∧SetM enc dec one (w.putObj b o) b L'∧∀y,y∈L'↔y∈L∨y=x:=by
 have hlt:=h.lt
 obtain⟨es,c,hb,hi,rfl,hn,hbn⟩:=h
 have hgo:(getObj b).run P w=.ok (.map es c) w:=by simp[getObj,Sem.run,hb]
 have hso:∀o,(setObj b o).run P w=.ok () (w.putObj b o):=fun o=>by simp[setObj,Sem.run,hb,World.putObj]
 rcases K.find x w es.toList (fun e he=>(hi e he).1) with ⟨h1,h2⟩|⟨j,e,h1,h2,h3⟩
 ·refine⟨.map (es.push {key:=enc x,val:=one,born:=c}) (c+1),es.toList.map (fun e=>dec e.key)++ [x],?_,⟨_,_,World.putObj_heap_same hlt,?_,?_,?_,?_⟩,fun y=>by simp⟩
  ·simp[Instr.mapUpdate,run_underlying ht,Sem.run_bind,hgo,K.check,h2,hso,Result.andThen]
  ·intro e he;simp only[Array.toList_push,List.mem_append,List.mem_singleton] at he;rcases he with he|rfl
   ·obtain⟨a1,a2,a3⟩:=hi e he;exact⟨a1,a2,by omega⟩
   ·exact⟨by rw[K.dec],rfl,by simp⟩
  ·simp[K.dec]
  ·refine List.nodup_append.2 ⟨hn,by simp,fun a ha a' ha' e=>?_⟩;simp at ha';subst ha' e;exact h1 ha
  ·rw[Array.toList_push,List.map_append];refine List.nodup_append.2 ⟨hbn,by simp,fun a ha a' ha' e=>?_⟩;simp at ha';subst ha';obtain⟨e',he',rfl⟩:=List.mem_map.1 ha;have:=(hi e' he').2.2;omega
 ·have hm:=List.mem_of_getElem? h1;have hes:es[j]? =some e:=by simpa using h1
  have hsame:es.modify j (fun e'=>{e' with key:=enc x,val:=one})=es:=by
   apply Array.ext_getElem?;intro i;rw[Array.getElem?_modify]
   split
   ·rename_i hij
    subst hij;rw[hes];obtain⟨a1,a2,_⟩:=hi e hm;simp only[Option.map_some];rw[←h2,←a1,←a2]
   ·rfl
  refine⟨.map es c,es.toList.map (fun e=>dec e.key),?_,⟨_,_,World.putObj_heap_same hlt,hi,rfl,hn,hbn⟩,fun y=>⟨.inl,fun hy=>?_⟩⟩
  ·have hk:e.key=enc x:=by rw[(hi e hm).1,h2]
   simp[Instr.mapUpdate,run_underlying ht,Sem.run_bind,hgo,K.check,h3,Result.andThen,hes,hk,run_keyStays x K,hso,hsame]
  ·rcases hy with hy|rfl
   ·exact hy
   ·exact List.mem_map.2 ⟨e,hm,h2⟩
def SetI(enc:α→Value)(dec:Value→α)(one:Value)(w:World)(b r:Nat)(L R:List α):Prop:=
 ∃es clock since seen c0,w.heap[b]? =some (.map es clock)∧(∀e∈es.toList,e.key=enc (dec e.key)∧e.val=one∧e.born<clock)∧L=es.toList.map (fun e=>dec e.key)∧L.Nodup∧(es.toList.map (·.born)).Nodup∧
  w.heap[r]? =some (.mapIter (some b) since seen c0)∧(∀x∈es.toList,x.born<since)∧since≤c0∧since≤clock∧R=(leftOf es seen).toList.map (fun e=>dec e.key)
theorem SetI.set{r:Nat}{R:List α}(h:SetI enc dec one w b r L R):SetM enc dec one w b L:=by
 obtain⟨es,clock,since,seen,c0,h1,h2,h3,h4,h5,_⟩:=h
 exact⟨es,clock,h1,h2,h3,h4,h5⟩
theorem SetI.of_blocks{r:Nat}{R:List α}(h:SetI enc dec one w b r L R)(hb:w'.heap[b]? =w.heap[b]?)(hr:w'.heap[r]? =w.heap[r]?):SetI enc dec one w' b r L R:=by
 obtain⟨es,clock,since,seen,c0,h1,h2,h3,h4,h5,h6,h7⟩:=h
 exact⟨es,clock,since,seen,c0,hb.trans h1,h2,h3,h4,h5,hr.trans h6,h7⟩
theorem SetI.lt{r:Nat}{R:List α}(h:SetI enc dec one w b r L R):b<w.heap.size∧r<w.heap.size∧r≠b:=by
 obtain⟨es,clock,since,seen,c0,h1,h2,h3,h4,h5,h6,h7⟩:=h
 refine⟨(Array.getElem?_eq_some_iff.1 h1).1,(Array.getElem?_eq_some_iff.1 h6).1,fun e=>?_⟩
 rw[e,h1] at h6
 cases h6
theorem SetI.sub{r:Nat}{R:List α}(h:SetI enc dec one w b r L R):R.Nodup∧∀x∈R,x∈L:=by
 obtain⟨es,clock,since,seen,c0,h1,h2,rfl,h4,h5,h6,h7,h8,h8b,rfl⟩:=h
 have hs:((leftOf es seen).toList.map (fun e=>dec e.key)).Sublist (es.toList.map (fun e=>dec e.key)):=by
  unfold leftOf;rw[Array.toList_filter];exact(List.filter_sublist (l:=es.toList)).map _
 exact⟨hs.nodup h4,fun x hx=>hs.subset hx⟩
theorem SetM.range(h:SetM enc dec one w b L)(ht:P.underlying t=some (.map kt et)):
  ∃o,isBook o=false∧(Instr.range t (.map (some b))).run P w=.ok (.pointer (some ⟨w.heap.size,0,none⟩)) (w.alloc o)∧SetI enc dec one (w.alloc o) b w.heap.size L L:=by
 have hlt:=h.lt
 obtain⟨es,c,hb,hi,hL,hn,hbn⟩:=h
 refine⟨_,?_,run_range_map w t kt et b es c ht hb,es,c,c,#[],c,?_,hi,hL,hn,hbn,World.alloc_heap_new w _,fun x hx=>(hi x hx).2.2,Nat.le_refl _,Nat.le_refl _,?_⟩
 ·rfl
 ·exact(Below.heap_alloc w _ b hlt).trans hb
 ·rw[hL];unfold leftOf;rw[Array.toList_filter,List.filter_eq_self.2 (fun x _=>by simp)]
theorem SetI.next{r:Nat}{R:List α}(h:SetI enc dec one w b r L R)(ty:TypeId):
  (R= []∧(Instr.next (.pointer (some ⟨r,0,none⟩)) false ty).run P w=.ok (.tuple #[.bool false]) w)∨
  ∃x R' w',x∈R∧(∀y,y∈R'↔y∈R∧y≠x)∧R'.length<R.length∧(Instr.next (.pointer (some ⟨r,0,none⟩)) false ty).run P w=.ok (.tuple #[.bool true,enc x,one]) w'∧SetI enc dec one w' b r L R'∧
   w.grownBy w' (some r)∧w'.heap.size=w.heap.size∧(Instr.entry (.pointer (some ⟨r,0,none⟩))).run P w'=.ok (.tuple #[enc x,one]) w':=by
 have hlt:=h.lt
 have hsub:=h.sub
 obtain⟨es,clock,since,seen,c0,h1,h2,rfl,h4,h5,h6,h7,h8,h8b,rfl⟩:=h
 rcases run_next_at (P:=P) w ty r b since c0 seen es clock h6 h1 h7 h8 with ⟨h0,hrun⟩|⟨e,he,w1,hal,hrun⟩
 ·refine .inl ⟨?_,hrun⟩;have:(leftOf es seen).toList= []:=List.eq_nil_of_length_eq_zero (by simpa using h0);rw[this];rfl
 ·have hle:e∈es.toList∧e.born∉seen.toList:=by
   unfold leftOf at he;rw[Array.toList_filter,List.mem_filter] at he;refine⟨he.1,?_⟩;simpa using he.2
  obtain⟨k1,k2,k3⟩:=h2 e hle.1;have hmem:∀y,y∈(leftOf es (seen.push e.born)).toList.map (fun e=>dec e.key)↔y∈(leftOf es seen).toList.map (fun e=>dec e.key)∧y≠dec e.key:=fun y=>by
   unfold leftOf;rw[Array.toList_filter,Array.toList_filter,List.mem_map,List.mem_map];constructor
   ·rintro⟨e',he',rfl⟩;rw[List.mem_filter] at he';simp only[Array.contains_push,Bool.not_or,Bool.and_eq_true] at he';refine⟨⟨e',List.mem_filter.2 ⟨he'.1,?_⟩,rfl⟩,fun c=>?_⟩
    ·first|exact he'.2.1|exact he'.2.2
    ·have:=map_inj_of_nodup h4 he'.1 hle.1 c;subst this;simp at he'
   ·rintro⟨⟨e',he',rfl⟩,hne⟩;rw[List.mem_filter] at he';refine⟨e',List.mem_filter.2 ⟨he'.1,?_⟩,rfl⟩;have hb:e'.born≠e.born:=fun c=>hne (by rw[map_inj_of_nodup h5 he'.1 hle.1 c]);have h9:=he'.2;simp at h9;simp[h9,hb]
  have hw1:w1.heap=w.heap:=by rcases hal with rfl|rfl<;>rfl
  have hg1:w.grownBy w1 (some r):=by rcases hal with rfl|rfl<;>exact⟨rfl,rfl,rfl,Nat.le_refl _,fun _ _ _=>rfl⟩
  have hsb:(Go.ChangeMaps.setBlock w1 r (.mapIter (some b) since (seen.push e.born) clock))=w1.putObj r (.mapIter (some b) since (seen.push e.born) clock):=rfl;have hrl:r<w1.heap.size:=by rw[hw1];exact hlt.2.1
  have hSI:SetI enc dec one (w1.putObj r (.mapIter (some b) since (seen.push e.born) clock)) b r (es.toList.map (fun e=>dec e.key)) ((leftOf es (seen.push e.born)).toList.map (fun e=>dec e.key)):=by
   refine⟨es,clock,since,seen.push e.born,clock,?_,h2,rfl,h4,h5,World.putObj_heap_same hrl,h7,h8b,h8b,rfl⟩
   ·have:=(grown_put w1 r (.mapIter (some b) since (seen.push e.born) clock)).block b (by rw[hw1];exact hlt.1) (by simpa using fun c:b=r=>hlt.2.2 c.symm);rw[this,hw1];exact h1
  refine .inr ⟨dec e.key,(leftOf es (seen.push e.born)).toList.map (fun e=>dec e.key),w1.putObj r (.mapIter (some b) since (seen.push e.born) clock),List.mem_map.2 ⟨e,he,rfl⟩,hmem,?_,?_,hSI,?_,?_,?_⟩
  ·have hn':(dec e.key :: (leftOf es (seen.push e.born)).toList.map (fun e=>dec e.key)).Nodup:=List.nodup_cons.2 ⟨fun c=>((hmem _).1 c).2 rfl,hSI.sub.1⟩
   have:=nodup_length_le hn' (l':=(leftOf es seen).toList.map (fun e=>dec e.key)) (fun x hx=>by
    rcases List.mem_cons.1 hx with rfl|hx
    ·exact List.mem_map.2 ⟨e,he,rfl⟩
    ·exact((hmem x).1 hx).1)
   simp only[List.length_cons] at this;omega
  ·rw[hrun,←k1,k2];rfl
  ·exact hg1.andThen (grown_put w1 r _) (fun j hj=>.inr hj)
  ·simp[World.putObj,hw1]
  ·rw[run_entry_at (P:=P) _ r b since seen es clock e (World.putObj_heap_same hrl) ?_ hle.1 h5,←k1,k2];have:=(grown_put w1 r (.mapIter (some b) since (seen.push e.born) clock)).block b (by rw[hw1];exact hlt.1) (by simpa using fun c:b=r=>hlt.2.2 c.symm);rw[this,hw1];exact h1
variable {ops:Array Oper} {rest:List Oper} {o:Oper} {a:Act} {Q:Exit→Act→World→Prop}
theorem size_put(w:World)(b:Nat)(o:Obj):(w.putObj b o).heap.size=w.heap.size:=by simp[World.putObj]
theorem wpList_putM(hg:o.guard=none)(m x v:Operand)(hop:o.op=Op.mapUpdate t m x v)(K:KeyT P kt enc dec)(ht:P.underlying t=some (.map kt et))(h:SetM enc dec one w b L)
  (hm:a.eval m=.map (some b)) (y:α) (hx:a.eval x=enc y) (hv:a.eval v=one)
  (hK:∀w' L',SetM enc dec one w' b L'→(∀z,z∈L'↔z∈L∨z=y)→w.grownBy w' (some b)→w'.heap.size=w.heap.size→wpList P ops Q rest (a.put o.dst undef) w'):wpList P ops Q (o :: rest) a w:=by
 refine wpList_plain hg fun K' hK'=>?_
 obtain⟨o',L',hrun,r1,r2⟩:=h.put K ht y
 unfold Oper.wp
 simp[execOp,hop,hm,hx,hv,hrun,Result.andThen]
 exact hK' _ _ (hK _ L' r1 r2 (grown_put w b o') (size_put _ _ _))
theorem wpList_rangeM(hg:o.guard=none)(m:Operand)(hop:o.op=Op.range t m)(ht:P.underlying t=some (.map kt et))(h:SetM enc dec one w b L)(hm:a.eval m=.map (some b))
  (hK:∀w',SetI enc dec one w' b w.heap.size L L→Below w.heap.size w w'→w'.heap.size=w.heap.size+1→wpList P ops Q rest (a.put o.dst (.pointer (some ⟨w.heap.size,0,none⟩))) w'):wpList P ops Q (o :: rest) a w:=by
 refine wpList_plain hg fun K' hK'=>?_
 obtain⟨o',_,hrun,r1⟩:=h.range ht
 unfold Oper.wp
 simp[execOp,hop,hm,hrun,Result.andThen]
 exact hK' _ _ (hK _ r1 ((Below.refl _ w).alloc (Nat.le_refl _) _) (by simp))
theorem wpList_nextM{r:Nat}{R:List α}(hg:o.guard=none)(it:Operand)(hop:o.op=Op.next it false)(hit:a.eval it=.pointer (some ⟨r,0,none⟩))(h:SetI enc dec one w b r L R)
  (hDone:R= []→wpList P ops Q rest (a.put o.dst (.tuple #[.bool false])) w)
  (hMore:∀x R' w',x∈R→(∀y,y∈R'↔y∈R∧y≠x)→R'.length<R.length→SetI enc dec one w' b r L R'→w.grownBy w' (some r)→w'.heap.size=w.heap.size→
    (Instr.entry (.pointer (some ⟨r,0,none⟩))).run P w'=.ok (.tuple #[enc x,one]) w'→wpList P ops Q rest (a.put o.dst (.tuple #[.bool true,enc x,one])) w'):wpList P ops Q (o :: rest) a w:=by
 refine wpList_plain hg fun K' hK'=>?_
 unfold Oper.wp
 rcases h.next (P:=P) o.type with ⟨h0,hrun⟩|⟨x,R',w',hx,hR',hlt,hrun,hSI,hgr,hsz,hen⟩
 ·simp[execOp,hop,hit,hrun,Result.andThen];exact hK' _ _ (hDone h0)
 ·simp[execOp,hop,hit,hrun,Result.andThen];exact hK' _ _ (hMore x R' w' hx hR' hlt hSI hgr hsz hen)
end
end

section
open Go.RowKit
section
variable {P:Program} {Q:Exit→Act→World→Prop}
theorem op_allocB{o:Oper}{a:Act}{K:Act→World→Prop}{w:World}(ty:TypeId)(ho:o.op=.alloc ty)(z:Value)(hz:∀w,(zeroValue ty).run P w=.ok z w)
  (h:∀g W',Below w.heap.size w W'→g=w.heap.size→W'.heap[g]? =some (.cells z.cells ty (0,0))→K (a.put o.dst (.pointer (some ⟨g,0,none⟩))) W'):o.wp P a w K Q:=by
 have hr:(Instr.alloc ty true (.tuple #[])).run P w=.ok (.pointer (some ⟨w.heap.size,0,none⟩)) (w.alloc (.cells z.cells ty)):=by
  simp[Instr.alloc,hz,newVar,newRow]
 unfold Oper.wp execOp
 simp only[ho,Sem.run_bind,hr,Result.andThen_ok,Sem.run_pure]
 exact h _ _ ((Below.refl _ w).alloc (Nat.le_refl _) _) rfl (heap_alloc_new w _)
end
theorem unDrew1{w w2:World}(h:Below w.drew.heap.size w.drew w2):Below w.heap.size w w2:=⟨h.os,h.tape,h.output,h.size,h.block⟩
theorem own_form{w:World}{base:Nat}{e:TypeId}{size:Nat}{v:Value}{n:Nat}{xs:List Value}(h:w.ownsRow base e size v n xs)(hn:0<n):∃g c,v=.slice (some ⟨g,0,none⟩) n c:=by
 rcases h.2 with ⟨_,h0⟩|⟨g,cap,cur,hv,_⟩
 ·omega
 ·exact⟨g,cap,hv⟩
theorem intsOwn{w:World}{base:Nat}{e:TypeId}{g n c:Nat}{xs:List Int}(h:w.ownsRow base e 1 (.slice (some ⟨g,0,none⟩) n c) n (xs.map (Value.int .i64)))(hx:∀x∈xs,I64 x)(hn:n≤17592186044416):Ints w (some ⟨g,0,none⟩) n xs:=by
 have hl:xs.length=n:=by have:=h.1;simpa using this
 refine⟨hl,hn,fun k hk=>⟨g,0,rfl,?_,?_⟩⟩
 ·rw[Nat.zero_add,World.ownsRow.cellAt h k (by omega)];simp[List.getD_eq_getElem?_getD,show k<xs.length by omega]
 ·have:xs.getD k 0∈xs:=by
   rw[List.getD_eq_getElem?_getD,List.getElem?_eq_getElem (by omega)];exact List.getElem_mem _
  exact hx _ this
theorem Ints.mem{w:World}{a:Option Addr}{n:Nat}{xs:List Int}(h:Ints w a n xs):∀x∈xs,I64 x:=by
 intro x hx
 obtain⟨k,hk,e⟩:=List.mem_iff_getElem.1 hx
 obtain⟨_,_,_,_,hi⟩:=h.2.2 k (by rw[←h.1];exact hk)
 rw[List.getD_eq_getElem?_getD,List.getElem?_eq_getElem hk,Option.getD_some,e] at hi
 exact hi
theorem block_ext{w w':World}(h:Below w.heap.size w w'){k:Nat}{o:Obj}(hk:w.heap[k]? =some o):w'.heap[k]? =some o:=(h.block k (Array.getElem?_eq_some_iff.1 hk).1).trans hk
end
end Go.Proofs.YthgebcfohnlhlaaGreatDoor
