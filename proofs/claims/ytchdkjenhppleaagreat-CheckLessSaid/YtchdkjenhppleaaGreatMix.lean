/-
 A range over a function,at the wide fence:one law for the caller,one word for the iterator. No program in sight.
-/
import Derived.Test.YtchdkjenhppleaaGreatA0
import Derived.RangeFuncNested
import Derived.RangeFuncRecord
import Derived.RangeFuncLeaves
import Derived.RangeFuncSeq
import Derived.RangeFuncIn
import Derived.RangeFuncOwn
import Derived.TacticsInMore
import Derived.LoopNIn
import Derived.LoopIn
import Derived.OwnWalkIn
import Derived.RangeFuncCalls
import Derived.Shelf.RegionOpen
import Derived.Test.YtchdkjenhppleaaGreatTQ
import Derived.Deep.Quiet
import Derived.Maps.RangeRun
import Derived.Maps.OwnSet
import Derived.Maps.RangeWalk
import Derived.OrdersHeld
import Derived.Maps.AppendAt
import Derived.Deep.RegionHeld3
namespace Go.Proofs.YtchdkjenhppleaaGreat
set_option linter.unusedSimpArgs false
set_option linter.unusedVariables false
set_option linter.unusedSectionVars false
set_option maxRecDepth 100000
set_option maxHeartbeats 40000000
section
open Go.RowKit
theorem iB(f:FuncId):Fence.wide.fn f=True:=rfl
theorem fS:Fence.wide.depth=none:=rfl
theorem gP(l:Nat)(f:FuncId):(Fence.wide.inRound l).fn f=True:=rfl
theorem fH(l:Nat):(Fence.wide.inRound l).depth=none:=rfl
def nR:Obj->Bool
 | .loop _=>true
 | .deferred _=>true
 |_=>false
def gO(W W':World):Prop:=∀(k:Nat) (o:Obj),W.heap[k]? =some o->nR o=true->W'.heap[k]? =some o
theorem gO.refl(W:World):gO W W:=λ_ _ h _=>h
theorem gO.trans{A B C:World}(h:gO A B)(k:gO B C):gO A C:=λi o hi ho=>k i o (h i o hi ho) ho
theorem gO.setCell(W:World)(a:Addr)(v:Value):gO W (W.setCell a v):=λk o hk ho=>by
 by_cases e:k=a.block
 .subst e;obtain⟨hlt,hk'⟩:=am.1 hk;show(W.heap.modify a.block _)[a.block]? =some o;rw[Array.getElem?_eq_getElem (by rw[Array.size_modify];exact hlt),Array.getElem_modify_self,hk'];cases o<;>first|rfl|(simp[nR] at ho)
 grind[Below.heap_setCell]
theorem gO.ext{W W':World}(h:Below W.heap.size W W'):gO W W':=λk _ hk _=>(h.block k (am.1 hk).1).trans hk
theorem gO.grown{W W':World}{row:Option Nat}(hg:W.grownBy W' row)(hrow:∀(j:Nat) (o:Obj),row=some j->W.heap[j]? =some o->nR o=false):gO W W':=
 λk o hk ho=>by
  refine(hg.block k (am.1 hk).1 ?_).trans hk
  grind
def eI(B:Nat)(J:World->Prop):Prop:=
 ∀W W' row,J W->W.grownBy W' row->(∀r,row=some r->B<=r/\∃o:Obj,W.heap[r]? =some o/\nR o=true)->J W'
theorem eI.pure(B:Nat)(p:Prop):eI B (λ_=>p):=λ_ _ _ h _ _=>h
theorem eI.and{B:Nat}{J J':World->Prop}(h:eI B J)(h':eI B J'):eI B (λW=>J W/\J' W):=
 λW W' row hj hg hr=>⟨h W W' row hj.1 hg hr,h' W W' row hj.2 hg hr⟩
theorem eI.ex{B:Nat}{α:Sort _}{J:α->World->Prop}(h:∀x,eI B (J x)):eI B (λW=>∃x,J x W):=
 λW W' row ⟨x,hj⟩ hg hr=>⟨x,h x W W' row hj hg hr⟩
theorem eI.all{B:Nat}{α:Sort _}{J:α->World->Prop}(h:∀x,eI B (J x)):eI B (λW=>∀x,J x W):=
 λW W' row hj hg hr x=>h x W W' row (hj x) hg hr
theorem eI.imp{B:Nat}{p:Prop}{J:World->Prop}(h:eI B J):eI B (λW=>p->J W):=
 λW W' row hj hg hr hp=>h W W' row (hj hp) hg hr
theorem tG{W W':World}{row:Option Nat}{B k:Nat}{o:Obj}(hk:W.heap[k]? =some o)(ho:nR o=false)(hg:W.grownBy W' row)
  (hr:∀r,row=some r->B<=r/\∃o:Obj,W.heap[r]? =some o/\nR o=true):W'.heap[k]? =some o:=by
 refine(hg.block k (am.1 hk).1 (λe=>?_)).trans hk
 grind
theorem eI.block(B k:Nat){o:Obj}(ho:nR o=false):eI B (λW=>W.heap[k]? =some o):=λ_ _ _ h hg hr=>tG h ho hg hr
theorem eI.below{n₀ B:Nat}{w₀:World}(hn:n₀<=w₀.heap.size)(hB:n₀<=B):eI B (λW=>Below n₀ w₀ W):=
 λ_ _ _ hs hg hr=>hs.grown hg (bP hn hs.size) (λk e=>bP hB (hr k e).1)
theorem eI.ownsRow(B:Nat)(base:Nat)(e:TypeId)(size:Nat)(v:Value)(n:Nat)(xs:List Value):eI B (λW=>W.ownsRow base e size v n xs):=
 λW W' row h hg hr=>by
  refine⟨h.1,?_⟩;rcases h.2 with h2|⟨g,cap,cur,hv,hb,hh,r⟩
  .grind
  .exact Or.inr ⟨g,cap,cur,hv,hb,tG hh rfl hg hr,r⟩
theorem eI.ext{B:Nat}{J:World->Prop}(h:eI B J){W W':World}(hj:J W)(hb:Below W.heap.size W W'):J W':=
 h W W' none hj ⟨hb.os,hb.tape,hb.output,hb.size,λk hk _=>hb.block k hk⟩ (λr e=>by cases e)
theorem eI.put{B:Nat}{J:World->Prop}(h:eI B J){W:World}{l:Nat}{o:Obj}(o':Obj)(hj:J W)(hl:B<=l)(ho:W.heap[l]? =some o)(hb:nR o=true):J (W.putObj l o'):=
 h W _ (some l) hj (cG W l o') (λr e=>by grind)
def jH(JN:World->Prop)(JX:Code->World->Prop):Exit->Act->World->Prop
 | .normal,_,W=>JN W
 | .ret,_,W=>JX .ret W
 | .exit id,_,W=>JX (.exit id) W
 | .goto t,_,W=>JX (.goto t) W
 | .panic _,_,_=>False
 | .outgrown,_,_=>False
def nn{σ α:Type}(P:Program)(gf:Nat)(lb:Array Value)(enc:α->Array Value)(ok:σ->α->Prop)(nx:σ->α->σ)(s0:σ)(Fin:σ->Prop)(Inv:σ->World->Prop):Prop:=
 ∀(l:Nat) (K:σ->World->Prop) (Kx:World->Prop) (W:World),
  (∀s W W',K s W->Below W.heap.size W W'->K s W')->(∀W W',Kx W->Below W.heap.size W W'->Kx W')->(∀s W,K s W->Inv s W)->
  (∀s x W,ok s x->K s W->YieldAt Fence.wide 0 P l (enc x) W λe W'=>(e=.returned (.bool true)/\K (nx s x) W')\/(e=.returned (.bool false)/\Kx W'))->
  K s0 W->CallsIn Fence.wide 0 P gf (#[.func (.yield l) #[] #[]]++lb) W λe W'=>(∃v,e=.returned v)/\((∃s,Fin s/\K s W')\/Kx W')
theorem oS{n n':World->Prop}{x x':Code->World->Prop}(h:∀W,n W->n' W)(k:∀c W,x c W->x' c W):∀(e:Exit) (a:Act) (W:World),jH n x e a W->jH n' x' e a W:=by
 intro e a W hp
 cases e with
 |normal=>exact h W hp
 |ret=>exact k _ W hp
 |exit id=>exact k _ W hp
 |goto t=>exact k _ W hp
 |panic ch=>exact hp
 |outgrown=>exact hp
def UC(fn:FuncId)(a:Act)(ps:Array Tmp)(assign body:Code)(df:Nat)(st:LoopState)(pe:Option Code):Loop:={state:=st,pending:=pe,fn,tmps:=a.tmps,params:=ps,assign,body,defers:=df}
def LO(R:LoopState->Option Code->Loop)(n:Nat)(st:LoopState)(pe:Option Code)(W:World):Prop:=W.heap[n]? =some (.loop (R st pe))
def LD(R:LoopState->Option Code->Loop)(n:Nat)(st:LoopState)(pe:Option Code)(W:World):Prop:=LO R (n+1) st pe W/\W.heap[n]? =some (.deferred (some []))
section
variable {P:Program} {σ α:Type} {g:Operand} {ps:Array Tmp} {assign body:Code} {Q:Exit->Act->World->Prop} {a:Act} {w:World} {gf:Nat} {lb:Array Value}
theorem m7{W W':World}{k:Nat}{o:Obj}(hk:W.heap[k]? =some o)(hb:Below W.heap.size W W'):W'.heap[k]? =some o:=(hb.block _ (am.1 hk).1).trans hk
theorem ZX{W W':World}{k m:Nat}{o:Obj}{X:Nat->Prop}{row:Option Nat}(hk:W.heap[k]? =some o)(hg:W.grownBy W' row)(hr:∀q,row=some q->m<=q/\X q)(hm:k<m):W'.heap[k]? =some o:=
 (hg.block _ (am.1 hk).1 λe=>by grind).trans hk
section
variable {R:LoopState->Option Code->Loop} {n:Nat} {st st':LoopState} {pe pe':Option Code} {W W':World}
theorem LO.lt(h:LO R n st pe W):n<W.heap.size:=(am.1 h).1
theorem LO.put(h:LO R n st pe W):LO R n st' pe' (W.putObj n (.loop (R st' pe'))):=b8 h.lt
theorem LD.put(h:LD R n st pe W):LD R n st' pe' (W.putObj (n+1) (.loop (R st' pe'))):=⟨LO.put h.1,(bk (by omega)).trans h.2⟩
theorem LD.ext(h:LD R n st pe W)(hb:Below W.heap.size W W'):LD R n st pe W':=⟨m7 h.1 hb,m7 h.2 hb⟩
theorem LD.keep(h:LD R n st pe W)(hk:gO W W'):LD R n st pe W':=⟨hk _ _ h.1 rfl,hk _ _ h.2 rfl⟩
theorem LD.grown{row:Option Nat}{X:Nat->Prop}(h:LD R n st pe W)(hg:W.grownBy W' row)(hr:∀q,row=some q->n+1+1<=q/\X q):LD R n st pe W':=⟨ZX h.1 hg hr (by omega),ZX h.2 hg hr (by omega)⟩
end
abbrev el(P:Program)(ps:Array Tmp)(assign body:Code)(a:Act)(L:Nat)(R:LoopState->Option Code->Loop):Prop:=
 ∀{W:World} {xs:Array Value} {A:Act->World->Prop} {S:Ending->World->Prop},LO R L .ready none W->xs.size=ps.size->
  assign.wpIn (Fence.wide.inRound L) 0 P (Exit.then A (λ_ _ _=>False)) {tmps:=(ps.zip xs).foldl (λt (p,v)=>t.setIfInBounds p v) a.tmps,defers:= []} W->
  (∀a1 V,A a1 V->LO R L .ready none V/\(LO R L .busy none (V.putObj L (.loop (R .busy none)))->
    body.wpIn (Fence.wide.inRound L) 0 P (jH (λW3=>LO R L .busy none W3/\S (.returned (.bool true)) (W3.putObj L (.loop (R .ready none)))) (λc W3=>LO R L .busy none W3/\S (.returned (.bool false)) (W3.putObj L (.loop (R .done (some c)))))) a1 (V.putObj L (.loop (R .busy none)))))->
  YieldAt Fence.wide 0 P L xs W S
theorem RO{fn:FuncId}(hfn:Fence.wide.fn fn)(df L:Nat):el P ps assign body a L (UC fn a ps assign body df):=by
 intro W xs A S hl hps h1 h2
 have hy:=run_yield (P:=P) (args:=xs) hl hps
 refine⟨fn,_,assign,body,hy,roundIn_of_wpIn hfn (dU h1 ?_)⟩
 rintro e a1 V hp
 cases e with
 |normal=>
  obtain⟨hlV,hb⟩:=h2 a1 V hp;refine⟨_,run_beginRound hlV rfl,?_⟩;refine dU (hb (LO.put hlV)) ?_;rintro e a3 W3 hp;cases e with
  |normal=>exact⟨_,_,run_endRound (P:=P) none hp.1,hp.2⟩
  |ret=>exact⟨_,_,run_endRound (P:=P) (some .ret) hp.1,hp.2⟩
  |exit id=>exact⟨_,_,run_endRound (P:=P) (some (.exit id)) hp.1,hp.2⟩
  |goto t=>exact⟨_,_,run_endRound (P:=P) (some (.goto t)) hp.1,hp.2⟩
  |panic ch=>trivial
  |outgrown=>trivial
 |_=>trivial
theorem sZ(hg:a.eval g=.func (.func gf) #[] lb)(eg:∀args w,(callFunc gf args).run P w=.ok (.enter gf args) w)
  (h:∀(R:LoopState->Option Code->Loop) (W1:World),Below w.heap.size w W1->W1.heap.size=w.heap.size+1+1->LD R w.heap.size .ready none W1->el P ps assign body a (w.heap.size+1) R->
    CallsIn Fence.wide 0 P gf (#[.func (.yield (w.heap.size+1)) #[] #[]]++lb) W1 λe W2=>(∃v,e=.returned v)/\
     ((LO R (w.heap.size+1) .ready none W2/\∀o,Q .normal {a with defers:={target:=.collected w.heap.size,args:=#[]} :: a.defers} (W2.putObj (w.heap.size+1) o))\/
      ∃c,LO R (w.heap.size+1) .done (some c) W2/\∀o,c.wpIn Fence.wide 0 P Q {a with defers:={target:=.collected w.heap.size,args:=#[]} :: a.defers} (W2.putObj (w.heap.size+1) o))):
  (Code.rangeFunc g ps assign body).wpIn Fence.wide 0 P Q a w:=by
 refine wpIn_rangeFunc ?_
 intro fn hfn
 let R:=UC fn a ps assign body w.heap.size
 let W1:=(w.alloc (.deferred (some []))).alloc (.loop (R .ready none))
 refine⟨w.heap.size+1,[{target:=.collected w.heap.size,args:=#[]}],W1,{target:=.fn (.func gf) lb,args:=#[.func (.yield (w.heap.size+1)) #[] #[]]},W1,gf,
  #[.func (.yield (w.heap.size+1)) #[] #[]]++lb,W1,run_enterLoop_outer _ _ _ _ _,?_,?_,?_,λh=>by trivial,?_⟩
 .simp only[resolve,hg];simp[go_sem]
 .intro f' hf';trivial
 .simp[invoke,go_sem,eg]
 .refine(h R W1 (((ao _ w).alloc (aw _) _).alloc (by simp) _) (by simp[W1]) ⟨?_,((aJ _ _ _ (by simp)).trans (du w _))⟩ (RO hfn _ _)).mono ?_
  .have:=du (w.alloc (.deferred (some []))) (.loop (R .ready none));rwa [World.size_alloc] at this
  .rintro e W2 ⟨⟨v,rfl⟩,(⟨hl,h⟩|⟨c,hl,h⟩)⟩
   .exact⟨none,_,run_endLoop (P:=P) hl (by simp[R,UC]),h _⟩
   .exact⟨some c,_,run_endLoop (P:=P) hl (by simp[R,UC]),h _⟩
theorem LP
  (hg:a.eval g=.func (.func gf) #[] lb) (eg:∀args w,(callFunc gf args).run P w=.ok (.enter gf args) w)
  {enc:α->Array Value} {ok:σ->α->Prop} {nx:σ->α->σ} {s0:σ} {Fin:σ->Prop} {Inv:σ->World->Prop} (hit:nn P gf lb enc ok nx s0 Fin Inv)
  (hps:∀x,(enc x).size=ps.size)
  (J:σ->World->Prop) (Jx:Code->World->Prop) (A:σ->α->Act->World->Prop)
  (hJ:∀s,eI w.heap.size (J s)) (hJx:∀c,eI w.heap.size (Jx c)) (hA:∀s x a,eI w.heap.size (A s x a)) (hInv:∀s W,J s W->Inv s W)
  (h0:J s0 w)
  (hassign:∀(l:Nat) (s:σ) (x:α) (W:World),ok s x->J s W->
    assign.wpIn (Fence.wide.inRound l) 0 P (Exit.then (λa1 W1=>gO W W1/\J s W1/\A s x a1 W1) (λ_ _ _=>False)) {tmps:=(ps.zip (enc x)).foldl (λt (p,v)=>t.setIfInBounds p v) a.tmps,defers:= []} W)
  (hbody:∀(l:Nat) (s:σ) (x:α) (a1:Act) (W:World),w.heap.size<=l->(∃r,W.heap[l]? =some (.loop r))->ok s x->J s W->A s x a1 W->
    body.wpIn (Fence.wide.inRound l) 0 P (jH (λW'=>gO W W'/\J (nx s x) W') (λc W'=>gO W W'/\Jx c W')) a1 W)
  (hdone:∀(D:Nat) (s:σ) (W:World),w.heap.size<=D->Fin s->J s W->W.heap[D]? =some (.deferred (some []))->Q .normal {a with defers:={target:=.collected D,args:=#[]} :: a.defers} W)
  (hstop:∀(D:Nat) (c:Code) (W:World),w.heap.size<=D->Jx c W->W.heap[D]? =some (.deferred (some []))->c.wpIn Fence.wide 0 P Q {a with defers:={target:=.collected D,args:=#[]} :: a.defers} W):
  (Code.rangeFunc g ps assign body).wpIn Fence.wide 0 P Q a w:=by
 refine sZ hg eg λR W1 hb1 _ h1 hy=>(hit (w.heap.size+1) (λs W=>J s W/\LD R w.heap.size .ready none W) (λW=>∃c,Jx c W/\LD R w.heap.size .done (some c) W) W1
  (λs A B h hb=>⟨(hJ s).ext h.1 hb,h.2.ext hb⟩) (λA B ⟨c,h1,h2⟩ hb=>⟨c,(hJx c).ext h1 hb,h2.ext hb⟩) (λs W h=>hInv s W h.1)
  (λs x W hok ⟨hi,hl⟩=>hy hl.1 (hps x) (hassign _ s x W hok hi) λa1 V ⟨hkp,hiV,hAV⟩=>
    have lV:LD _ _ _ _ _:=hl.keep hkp
    ⟨lV.1,λl2=>dU (hbody _ s x a1 _ (by omega) ⟨_,l2⟩ hok ((hJ s).put _ hiV (by omega) lV.1 rfl) ((hA s x a1).put _ hAV (by omega) lV.1 rfl))
     (oS (λW3 ⟨hk3,hi3⟩=>have l3:LD _ _ _ _ _:=(LD.put lV).keep hk3;⟨l3.1,.inl ⟨rfl,(hJ _).put _ hi3 (by omega) l3.1 rfl,l3.put⟩⟩)
       λc W3 ⟨hk3,hi3⟩=>have l3:LD _ _ _ _ _:=(LD.put lV).keep hk3;⟨l3.1,.inr ⟨rfl,c,(hJx c).put _ hi3 (by omega) l3.1 rfl,l3.put⟩⟩)⟩)
  ⟨(hJ s0).ext h0 hb1,h1⟩).mono ?_
 rintro e W2 ⟨hv,(⟨s,hS,hi,hl⟩|⟨c,hi,hl⟩)⟩
 .exact⟨hv,.inl ⟨hl.1,λo=>hdone _ s _ (aw _) hS ((hJ s).put _ hi (by omega) hl.1 rfl) ((bk (by omega)).trans hl.2)⟩⟩
 .exact⟨hv,.inr ⟨c,hl.1,λo=>hstop _ c _ (aw _) ((hJx c).put _ hi (by omega) hl.1 rfl) ((bk (by omega)).trans hl.2)⟩⟩
theorem PI
  (hg:a.eval g=.func (.func gf) #[] lb) (eg:∀args w,(callFunc gf args).run P w=.ok (.enter gf args) w)
  {enc:α->Array Value} {ok:σ->α->Prop} {nx:σ->α->σ} {s0:σ} {Fin:σ->Prop} {Inv:σ->World->Prop} (hit:nn P gf lb enc ok nx s0 Fin Inv)
  (hps:∀x,(enc x).size=ps.size)
  (J:σ->World->Prop) (Jx:Code->World->Prop) (A:σ->α->Act->World->Prop)
  (hJ:∀s,eI w.heap.size (J s)) (hJx:∀c,eI w.heap.size (Jx c)) (hA:∀s x a,eI w.heap.size (A s x a)) (hInv:∀s W,J s W->Inv s W)
  (h0:J s0 w)
  (hassign:∀(l:Nat) (s:σ) (x:α) (W:World),ok s x->J s W->
    assign.wpIn (Fence.wide.inRound l) 0 P (Exit.then (λa1 W1=>gO W W1/\J s W1/\A s x a1 W1) (λ_ _ _=>False)) {tmps:=(ps.zip (enc x)).foldl (λt (p,v)=>t.setIfInBounds p v) a.tmps,defers:= []} W)
  (hbody:∀(l:Nat) (s:σ) (x:α) (a1:Act) (W:World),ok s x->J s W->A s x a1 W->
    body.wpIn (Fence.wide.inRound l) 0 P (jH (λW'=>gO W W'/\J (nx s x) W') (λc W'=>gO W W'/\Jx c W')) a1 W)
  (hdone:∀(D:Nat) (s:σ) (W:World),w.heap.size<=D->Fin s->J s W->W.heap[D]? =some (.deferred (some []))->Q .normal {a with defers:={target:=.collected D,args:=#[]} :: a.defers} W)
  (hstop:∀(D:Nat) (c:Code) (W:World),w.heap.size<=D->Jx c W->W.heap[D]? =some (.deferred (some []))->c.wpIn Fence.wide 0 P Q {a with defers:={target:=.collected D,args:=#[]} :: a.defers} W):
  (Code.rangeFunc g ps assign body).wpIn Fence.wide 0 P Q a w:=
 LP hg eg hit hps J Jx A hJ hJx hA hInv h0 hassign (λl s x a1 W _ _=>hbody l s x a1 W) hdone hstop
end
end

section
open Go.RowKit
def pE(o:Oper):Bool:=match o.op with| .defer _=>false|_=>true
theorem IM{n:Nat}{P:Program}{row:String}{args:Array Value}{w:World}{R:Value->World->Prop}(l:Nat)(h:Rows P row args w R):RowsIn (Fence.wide.inRound l) n P row args w R:=
 λc cs _=>let ⟨v,w',r,s⟩:=h c cs;⟨v,w',r,stepsIn_wide.2 s⟩
theorem wN{P:Program}{ops:Array Oper}{Q:Exit->Act->World->Prop}(l:Nat)(hn:∀(i:Nat) (o:Oper),ops[i]? =some o->pE o=true)(hQ:¬LetsOut Q):
  ∀(order:List Nat) (a:Act) (w:World),wpOps P ops Q order a w->wpOpsIn (Fence.wide.inRound l) 0 P ops Q order a w:=by
 intro order
 induction order with
 |nil=>intro a w h;exact h
 |cons i rest ih=>
  intro a w h;simp only[wpOps,wpOpsIn] at h|-;cases ho:ops[i]? with
  |none=>simp only[ho] at h|-;exact ih a w h
  |some o=>
   simp only[ho] at h|-;by_cases hw:Region.wanted o (yielded ops a.tmps)=true
   .simp only[hw,if_true] at h|-;rcases h with h|⟨_,h⟩
    .refine⟨λ_ _=>trivial,?_⟩;have hs:Oper.semAt (Fence.wide.inRound l).round a.eval o=execOp a.eval o:=Oper.semAt_some l _ _ (λc hc=>by have:=hn i o ho;simp[pE,hc] at this);rw[hs];unfold Oper.wp at h;generalize (execOp a.eval o).run P w=r at h;cases r with
     |ok nx w'=>
      cases nx<;>simp only[Oper.upon,Oper.uponIn] at h|-<;>first
       |exact ih _ _ h
       |exact⟨λhh=>by simp[Fence.wide,Fence.inRound] at hh,(CallsIn.inRound l (br.2 (h.mono (λe w'' he=>by cases e<;>first|exact ih _ _ he|exact he))))⟩
       |exact⟨λhh=>by simp[Fence.wide,Fence.inRound] at hh,IM l (h.mono (λv w'' hv=>ih _ _ hv))⟩
       |exact h.elim
     |halt x w'=>cases x<;>simp only[Oper.upon,Oper.uponIn] at h|-<;>exact h
    .exact absurd h hQ
   .simp only[hw] at h|-;exact⟨λ_ _=>trivial,ih _ _ h⟩
theorem lF{K:Act->World->Prop}{Q:Exit->Act->World->Prop}(h:¬LetsOut Q):¬LetsOut (Exit.then K Q):=h
theorem jY{id:Nat}{Q:Exit->Act->World->Prop}(h:¬LetsOut Q):¬LetsOut (Exit.inBlock id Q):=h
theorem jX{JN:World->Prop}{JX:Code->World->Prop}:¬LetsOut (jH JN JX):=λ⟨_,_,h⟩=>h
end

section
open Go.RowKit
def okL{α:Type}(s:List α)(x:α):Prop:=s.head? =some x
def nxL{α:Type}(s:List α)(_:α):List α:=s.tail
def pd{α:Type}(s:List α):Prop:=s= []
theorem xZ{α:Type}{s:List α}{x:α}(h:okL s x):s=x :: nxL s x:=by
 cases s with
 |nil=>cases h
 |cons y l=>injection h with h;subst h;rfl
def nh{α:Type}(P:Program)(gf:Nat)(lb:Array Value)(enc:α->Array Value)(l:List α)(I:World->Prop):Prop:=
 nn P gf lb enc okL nxL l pd (λ_ W=>I W)
theorem vL{P:Program}{ops:Array Oper}{Q:Exit->Act->World->Prop}{l:Nat}(hQ:¬LetsOut Q):
  ∀(rest:List Oper) (a:Act) (w:World),rest.all pE=true->wpList P ops Q rest a w->wpListIn (Fence.wide.inRound l) 0 P ops Q rest a w:=by
 intro rest
 induction rest with
 |nil=>intro a w _ h;exact h
 |cons o rest ih=>
  intro a w hn h;rw[List.all_cons,az] at hn;simp only[wpList,wpListIn] at h|-;by_cases hw:Region.wanted o (yielded ops a.tmps)=true
  .simp only[hw,if_true] at h|-;rcases h with h|⟨_,h⟩
   .refine⟨λ_ _=>trivial,?_⟩;have hs:Oper.semAt (Fence.wide.inRound l).round a.eval o=execOp a.eval o:=Oper.semAt_some l _ _ (λc hc=>by grind[pE]);rw[hs];unfold Oper.wp at h;generalize (execOp a.eval o).run P w=r at h;cases r with
    |ok nx w'=>
     cases nx<;>simp only[Oper.upon,Oper.uponIn] at h|-<;>first
      |exact ih _ _ hn.2 h
      |exact⟨λhh=>by trivial,(CallsIn.inRound l (br.2 (h.mono (λe w'' he=>by grind))))⟩
      |exact⟨λhh=>by trivial,IM l (h.mono (λv w'' hv=>ih _ _ hn.2 hv))⟩
      |exact h.elim
    |halt x w'=>cases x<;>simp only[Oper.upon,Oper.uponIn] at h|-<;>exact h
   .exact absurd h hQ
  .simp only[hw] at h|-;exact⟨λ_ _=>trivial,ih _ _ hn.2 h⟩
theorem uX{P:Program}{id:Nat}{Q:Exit->Act->World->Prop}{a:Act}{w:World}{ol:List Oper}(hm:P.follows .mixedOrders=true)(hB:Region.lexB .any ol.toArray=true)
  (h:wpQuiet P ol.toArray (λw'=>∃n,w'=w.drewN n) (λa'=>∀w',(∃n,w'=w.drewN n)->Q .normal a' w') ol a):(Code.region id ol.toArray true).wpIn Fence.wide 0 P Q a w:=
 wpIn_wide.2 (wp_region_quiet_lit hm hB h)
theorem EP{P:Program}{α:Type}{g:Operand}{ps:Array Tmp}{assign body:Code}{Q:Exit->Act->World->Prop}{a:Act}{w:World}{gf:Nat}{lb:Array Value}
  (hg:a.eval g=.func (.func gf) #[] lb) (eg:∀args w,(callFunc gf args).run P w=.ok (.enter gf args) w)
  {enc:α->Array Value} {l:List α} (I:World->Prop) (hit:nh P gf lb enc l I) (hps:∀x,(enc x).size=ps.size)
  (J:List α->List α->World->Prop) (Jx:Code->World->Prop)
  (hJ:∀d r,eI w.heap.size (J d r)) (hJx:∀c,eI w.heap.size (Jx c)) (hInv:∀d r W,J d r W->I W)
  (h0:J [] l w)
  (hround:∀(lp:Nat) (d:List α) (x:α) (r:List α) (W:World),l=d++x :: r->J d (x :: r) W->
    assign.wpIn (Fence.wide.inRound lp) 0 P (Exit.then (λa1 W1=>gO W W1/\J d (x :: r) W1/\∀(lp:Nat) (W2:World),J d (x :: r) W2->
     body.wpIn (Fence.wide.inRound lp) 0 P (jH (λW'=>gO W2 W'/\J (d++ [x]) r W') (λc W'=>gO W2 W'/\Jx c W')) a1 W2) (λ_ _ _=>False)) {tmps:=(ps.zip (enc x)).foldl (λt (p,v)=>t.setIfInBounds p v) a.tmps,defers:= []} W)
  (hdone:∀(D:Nat) (W:World),w.heap.size<=D->J l [] W->W.heap[D]? =some (.deferred (some []))->Q .normal {a with defers:={target:=.collected D,args:=#[]} :: a.defers} W)
  (hstop:∀(D:Nat) (c:Code) (W:World),w.heap.size<=D->Jx c W->W.heap[D]? =some (.deferred (some []))->c.wpIn Fence.wide 0 P Q {a with defers:={target:=.collected D,args:=#[]} :: a.defers} W):
  (Code.rangeFunc g ps assign body).wpIn Fence.wide 0 P Q a w:=by
 refine PI (enc:=enc) hg eg hit hps (λs W=>∃d,l=d++s/\J d s W) Jx
  (λs x a1 _=>∀(d:List α) (lp:Nat) (W2:World),l=d++s->J d s W2->body.wpIn (Fence.wide.inRound lp) 0 P (jH (λW'=>gO W2 W'/\J (d++ [x]) (nxL s x) W') (λc W'=>gO W2 W'/\Jx c W')) a1 W2)
  (λs=>eI.ex λd=>(eI.pure _ _).and (hJ d s)) hJx (λ_ _ _=>eI.pure _ _) (λs W ⟨d,_,h⟩=>hInv d s W h) ⟨[],rfl,h0⟩ ?_ ?_ ?_ hstop
 .rintro lp s x W hok ⟨d,hd,hj⟩;have hs:=xZ hok;generalize nxL s x=r at hs|-;subst hs;refine dU (hround lp d x r W hd hj) ?_;rintro e a1 W1 he;cases e with
  |normal=>
   obtain⟨h1,h2,h3⟩:=he;refine⟨h1,⟨d,hd,h2⟩,λd' lp' W2 hd' hj'=>?_⟩;have:d'=d:=by
    have:=hd'.symm.trans hd;exact List.append_cancel_right this
   subst this;exact h3 lp' W2 hj'
  |_=>exact he.elim
 .rintro lp s x a1 W hok ⟨d,hd,hj⟩ hA;refine dU (hA d lp W hd hj) ?_;rintro e a3 W3 he;cases e with
  |normal=>
   refine⟨he.1,d++ [x],?_,he.2⟩;rw[hd,ee]
   congr 1
   exact xZ hok
  |ret=>exact he
  |exit id=>exact he
  |goto t=>exact he
  |panic ch=>exact he.elim
  |outgrown=>exact he.elim
 .rintro D s W hD hf ⟨d,hd,hj⟩ hk;subst hf;rw[dR] at hd;subst hd;exact hdone D W hD hj hk
end

section
open Go.RowKit
def Tch(T:World->Nat->Prop)(W W':World):Prop:=
 W.heap.size<=W'.heap.size/\(∀k,k<W.heap.size->¬T W k->W'.heap[k]? =W.heap[k]?)/\∀k,T W' k->T W k\/W.heap.size<=k
theorem lO(W:World)(l:Nat)(o:Obj):W.grownBy (W.putObj l o) (some l):=
 ⟨rfl,rfl,rfl,by simp,λk _ hne=>bk (λe=>hne (by rw[e]))⟩
theorem IK{T:World->Nat->Prop}{D:Nat->Prop}{W V W3:World}{L:Nat}{o o':Obj}(hD:D L)(h1:Tch T W V)(h3:Tch T (V.putObj L o) W3)(t1:∀k,T (V.putObj L o) k->T V k)(t2:∀k,T (W3.putObj L o') k->T W3 k):
  Tch (λW k=>T W k\/D k) W (W3.putObj L o'):=by
 obtain⟨s1,a1,b1⟩:=h1
 obtain⟨s3,a3,b3⟩:=h3
 rw[World.putObj_size] at s3 a3 b3
 refine⟨by grind[World.putObj_size],λk hk hn=>?_,λk hk=>?_⟩
 .grind[World.putObj_heap_other]
 grind
theorem je{W W':World}(hb:Below W.heap.size W W'):W.grownBy W' none:=⟨hb.os,hb.tape,hb.output,hb.size,λk hk _=>hb.block k hk⟩
def nc{σ α:Type}(P:Program)(gf:Nat)(lb:Array Value)(enc:α->Array Value)(ok:σ->α->Prop)(nx:σ->α->σ)(s0:σ)(Fin:σ->Prop)(Inv:σ->World->Prop):Prop:=
 ∀(l:Nat) (K:σ->World->Prop) (Kx:World->Prop) (T:World->Nat->Prop) (W:World),
  (∀s W W',K s W->Below W.heap.size W W'->K s W')->(∀W W',Kx W->Below W.heap.size W W'->Kx W')->(∀s W,K s W->Inv s W)->
  (∀s W k,K s W->T W k->k<W.heap.size)->(∀s W W' k,K s W->Below W.heap.size W W'->T W' k->T W k)->
  (∀s x W,ok s x->K s W->YieldAt Fence.wide 0 P l (enc x) W λe W'=>(e=.returned (.bool true)/\K (nx s x) W'/\Tch T W W')\/(e=.returned (.bool false)/\Kx W'))->
  K s0 W->CallsIn Fence.wide 0 P gf (#[.func (.yield l) #[] #[]]++lb) W λe W'=>(∃v,e=.returned v)/\((∃s,Fin s/\K s W')\/Kx W')
theorem LN{P:Program}{σ α:Type}{g:Operand}{ps:Array Tmp}{assign body:Code}{Q:Exit->Act->World->Prop}{a:Act}{w:World}{gf:Nat}{lb:Array Value}
  (hg:a.eval g=.func (.func gf) #[] lb) (eg:∀args w,(callFunc gf args).run P w=.ok (.enter gf args) w)
  {enc:α->Array Value} {ok:σ->α->Prop} {nx:σ->α->σ} {s0:σ} {Fin:σ->Prop} {Inv:σ->World->Prop} (hit:nc P gf lb enc ok nx s0 Fin Inv)
  (hps:∀x,(enc x).size=ps.size)
  (J:σ->World->Prop) (Jx:Code->World->Prop) (A:σ->α->Act->World->Prop)
  (hJ:∀s,eI w.heap.size (J s)) (hJx:∀c,eI w.heap.size (Jx c)) (hA:∀s x a,eI w.heap.size (A s x a)) (hInv:∀s W,J s W->Inv s W)
  (T:World->Nat->Prop) (hT0:∀s W k,J s W->T W k->k<W.heap.size) (hTg:∀W W' row,W.grownBy W' row->(∀r,row=some r->w.heap.size<=r/\∃o:Obj,W.heap[r]? =some o/\nR o=true)->(∃s,J s W)->∀k,T W' k->T W k)
  (h0:J s0 w)
  (hassign:∀(l:Nat) (s:σ) (x:α) (W:World),ok s x->J s W->
    assign.wpIn (Fence.wide.inRound l) 0 P (Exit.then (λa1 W1=>gO W W1/\J s W1/\A s x a1 W1/\Tch T W W1) (λ_ _ _=>False)) {tmps:=(ps.zip (enc x)).foldl (λt (p,v)=>t.setIfInBounds p v) a.tmps,defers:= []} W)
  (hbody:∀(l:Nat) (s:σ) (x:α) (a1:Act) (W:World),ok s x->J s W->A s x a1 W->
    body.wpIn (Fence.wide.inRound l) 0 P (jH (λW'=>gO W W'/\J (nx s x) W'/\Tch T W W') (λc W'=>gO W W'/\Jx c W')) a1 W)
  (hdone:∀(D:Nat) (s:σ) (W:World),w.heap.size<=D->Fin s->J s W->W.heap[D]? =some (.deferred (some []))->Q .normal {a with defers:={target:=.collected D,args:=#[]} :: a.defers} W)
  (hstop:∀(D:Nat) (c:Code) (W:World),w.heap.size<=D->Jx c W->W.heap[D]? =some (.deferred (some []))->c.wpIn Fence.wide 0 P Q {a with defers:={target:=.collected D,args:=#[]} :: a.defers} W):
  (Code.rangeFunc g ps assign body).wpIn Fence.wide 0 P Q a w:=by
 refine sZ hg eg λR W1 hb1 _ h1 hy=>(hit (w.heap.size+1) (λs W=>J s W/\LD R w.heap.size .ready none W) (λW=>∃c,Jx c W/\LD R w.heap.size .done (some c) W) (λW k=>T W k\/k=w.heap.size+1\/k=w.heap.size) W1
  (λs A B h hb=>⟨(hJ s).ext h.1 hb,h.2.ext hb⟩) (λA B ⟨c,h1,h2⟩ hb=>⟨c,(hJx c).ext h1 hb,h2.ext hb⟩) (λs W h=>hInv s W h.1)
  (λs W k h ht=>ht.elim (hT0 s W k h.1) λe=>e.elim (λe=>e▸h.2.1.lt) λe=>e▸(am.1 h.2.2).1)
  (λs A B k h hb ht=>ht.imp (hTg A B none (je hb) (λr hr=>by grind) ⟨s,h.1⟩ k) id)
  (λs x W hok ⟨hi,hl⟩=>hy hl.1 (hps x) (hassign _ s x W hok hi) λa1 V ⟨hkp,hiV,hAV,hTV⟩=>
    have lV:LD _ _ _ _ _:=hl.keep hkp;have t1:=hTg _ _ _ (lO V (w.heap.size+1) (.loop (R .busy none))) (λr hr=>by cases hr;exact⟨by omega,_,lV.1,rfl⟩) ⟨s,hiV⟩
    ⟨lV.1,λl2=>dU (hbody _ s x a1 _ hok ((hJ s).put _ hiV (by omega) lV.1 rfl) ((hA s x a1).put _ hAV (by omega) lV.1 rfl))
     (oS (λW3 ⟨hk3,hi3,hT3⟩=>have l3:LD _ _ _ _ _:=(LD.put lV).keep hk3;⟨l3.1,.inl ⟨rfl,⟨(hJ _).put _ hi3 (by omega) l3.1 rfl,l3.put⟩,IK (.inl rfl) hTV hT3 t1 (hTg _ _ _ (lO W3 _ _) (λr hr=>by cases hr;exact⟨by omega,_,l3.1,rfl⟩) ⟨_,hi3⟩)⟩⟩)
       λc W3 ⟨hk3,hi3⟩=>have l3:LD _ _ _ _ _:=(LD.put lV).keep hk3;⟨l3.1,.inr ⟨rfl,c,(hJx c).put _ hi3 (by omega) l3.1 rfl,l3.put⟩⟩)⟩)
  ⟨(hJ s0).ext h0 hb1,h1⟩).mono ?_
 rintro e W2 ⟨hv,(⟨s,hS,hi,hl⟩|⟨c,hi,hl⟩)⟩
 .exact⟨hv,.inl ⟨hl.1,λo=>hdone _ s _ (aw _) hS ((hJ s).put _ hi (by omega) hl.1 rfl) ((bk (by omega)).trans hl.2)⟩⟩
 .exact⟨hv,.inr ⟨c,hl.1,λo=>hstop _ c _ (aw _) ((hJx c).put _ hi (by omega) hl.1 rfl) ((bk (by omega)).trans hl.2)⟩⟩
def sQ{α:Type}(P:Program)(gf:Nat)(lb:Array Value)(enc:α->Array Value)(l:List α)(I:World->Prop):Prop:=
 nc P gf lb enc okL nxL l pd (λ_ W=>I W)
theorem sQ.mono{α:Type}{P:Program}{gf:Nat}{lb:Array Value}{enc:α->Array Value}{l:List α}{I I':World->Prop}(h:sQ P gf lb enc l I)(hi:∀W,I' W->I W):sQ P gf lb enc l I':=
 λlp K Kx T W hK hKx hInv h1 h2 hY h0=>h lp K Kx T W hK hKx (λs W hs=>hi W (hInv s W hs)) h1 h2 hY h0
end

section
open Go.RowKit
theorem iU{α:Type}:∀{l l':List α},l.Nodup->(∀x∈l,x∈l')->l.length<=l'.length
 | [],l',_,_=>Nat.zero_le _
 |a :: t,l',hn,hs=>by
  obtain⟨hat,ht⟩:=dG.1 hn;obtain⟨s,r,rfl⟩:=List.append_of_mem (hs a (by simp));have h1:∀x∈t,x∈s++r:=λx hx=>by
   have h2:=hs x (by simp[hx]);have hne:x≠a:=λe=>hat (e▸hx);simp only[bh,aH] at h2|-;rcases h2 with h2|h2|h2
   .exact .inl h2
   .exact absurd h2 hne
   .exact .inr h2
  have:=iU ht h1;simp only[aT,aN] at this|-;omega
theorem oP{α β:Type}{g:α->β}:∀{l:List α},(l.map g).Nodup->∀{x y:α},x∈l->y∈l->g x=g y->x=y
 | [],_,_,_,hx,_,_=>by cases hx
 |a :: t,hn,x,y,hx,hy,h=>by
  obtain⟨h1,h2⟩:=dG.1 hn;rcases aH.1 hx with rfl|hx'
  .rcases aH.1 hy with rfl|hy'
   .rfl
   .exact absurd (bi.2 ⟨y,hy',h.symm⟩) h1
  .rcases aH.1 hy with rfl|hy'
   .exact absurd (bi.2 ⟨x,hx',h⟩) h1
   .exact oP h2 hx' hy' h
structure zV{α:Type}(P:Program)(kt:TypeId)(enc:α->Value)(dec:Value->α):Prop where
 under:∃d,P.underlying kt=some d/\∀(x:α) (e:MapEntry) (l:List MapEntry) (i:Nat),Instr.findNow d (enc x) (e :: l) i=none
 check:∀(em:Bool) (x:α) (w:World),(Instr.checkKey em 10000 kt (enc x)).run P w=.ok () w
 eql:∀(x y:α) (w:World),∃b,(Op.equal kt (enc x) (enc y)).run P w=.ok b w/\(b=true↔x=y)
 bits:∀(x:α),Instr.sameBits 10000 (enc x) (enc x)=true
 dec:∀(x:α),dec (enc x)=x
def iM{α:Type}(enc:α->Value)(dec:Value->α)(one:Value)(w:World)(b:Nat)(L:List α):Prop:=
 ∃es clock,w.heap[b]? =some (.map es clock)/\(∀e∈es.toList,e.key=enc (dec e.key)/\e.val=one/\e.born<clock)/\L=es.toList.map (λe=>dec e.key)/\L.Nodup/\(es.toList.map (·.born)).Nodup
section
variable {α:Type} {P:Program} {t kt et:TypeId} {enc:α->Value} {dec:Value->α} {one:Value} {w w':World} {b:Nat} {L:List α}
theorem zV.asking(K:zV P kt enc dec)(x:α)(w:World):∀(l:List MapEntry) (i:Nat),(∀e∈l,e.key=enc (dec e.key))->
  (x∉l.map (λe=>dec e.key)/\(Instr.findAsking kt (enc x) l i).run P w=.ok none w)\/
  ∃j e,l[j]? =some e/\dec e.key=x/\(Instr.findAsking kt (enc x) l i).run P w=.ok (some (i+j,e.val)) w
 | [],i,_=>.inl ⟨by simp,by simp[Instr.findAsking]⟩
 |e :: l,i,h=>by
  have he:=h e (by simp);obtain⟨q,hq,hqe⟩:=K.eql x (dec e.key) w;rw[<-he] at hq;cases q with
  |true=>
   refine .inr ⟨0,e,rfl,(hqe.1 rfl).symm,?_⟩;simp[Instr.findAsking,hq,Result.andThen]
  |false=>
   have hne:x≠dec e.key:=λc=>by have:=hqe.2 c;cases this
   rcases zV.asking K x w l (i+1) (λe' he'=>h e' (by simp[he'])) with ⟨h1,h2⟩|⟨j,e',h1,h2,h3⟩
   .refine .inl ⟨by simp only[cn,aH,not_or];exact⟨hne,h1⟩,?_⟩;simp[Instr.findAsking,hq,h2,Result.andThen]
   .refine .inr ⟨j+1,e',by simpa using h1,h2,?_⟩;simp[Instr.findAsking,hq,h3,Result.andThen];omega
theorem zV.find(K:zV P kt enc dec)(x:α)(w:World)(l:List MapEntry)(h:∀e∈l,e.key=enc (dec e.key)):
  (x∉l.map (λe=>dec e.key)/\(Instr.findKey kt (enc x) l).run P w=.ok none w)\/
  ∃j e,l[j]? =some e/\dec e.key=x/\(Instr.findKey kt (enc x) l).run P w=.ok (some (j,e.val)) w:=by
 obtain⟨d,hd,hn⟩:=K.under
 cases l with
 |nil=>exact .inl ⟨by simp,by simp[Instr.findKey,aZ hd,Instr.findNow]⟩
 |cons e l=>
  have hf:(Instr.findKey kt (enc x) (e :: l)).run P w=(Instr.findAsking kt (enc x) (e :: l) 0).run P w:=by
   simp[Instr.findKey,aZ hd,hn x e l 0]
  rw[hf];rcases K.asking x w (e :: l) 0 h with h1|⟨j,e',h1,h2,h3⟩
  .exact .inl h1
  .exact .inr ⟨j,e',h1,h2,by simpa using h3⟩
theorem iM.lt(h:iM enc dec one w b L):b<w.heap.size:=by obtain⟨es,c,hb,_⟩:=h;exact(am.1 hb).1
theorem iM.nodup(h:iM enc dec one w b L):L.Nodup:=by obtain⟨es,c,_,_,_,h,_⟩:=h;exact h
theorem iM.made(enc:α->Value)(dec:Value->α)(one:Value)(w:World):iM enc dec one (w.alloc (.map #[] 0)) w.heap.size []:=
 ⟨#[],0,du w _,by intro e he;simp at he,by simp,by simp,by simp⟩
theorem iM.of_block(h:iM enc dec one w b L)(hb:w'.heap[b]? =w.heap[b]?):iM enc dec one w' b L:=by
 obtain⟨es,c,h1,h2⟩:=h;exact⟨es,c,hb.trans h1,h2⟩
theorem iM.ext(h:iM enc dec one w b L)(hb:Below w.heap.size w w'):iM enc dec one w' b L:=h.of_block (hb.block b h.lt)
theorem iM.alloc(h:iM enc dec one w b L)(o:Obj):iM enc dec one (w.alloc o) b L:=h.of_block (aJ w o b h.lt)
theorem iM.copy(h:iM enc dec one w b L):∃es clock,w.heap[b]? =some (.map es clock)/\iM enc dec one (w.alloc (.map es clock)) w.heap.size L:=by
 obtain⟨es,c,h1,h2⟩:=h;exact⟨es,c,h1,es,c,du w _,h2⟩
theorem iM.setCell(h:iM enc dec one w b L)(p:Addr)(v:Value):iM enc dec one (w.setCell p v) b L:=by
 obtain⟨es,c,h1,h2⟩:=h
 refine⟨es,c,?_,h2⟩
 by_cases e:b=p.block
 .subst e;obtain⟨hlt,hk'⟩:=am.1 h1;show(w.heap.modify p.block _)[p.block]? =_;rw[Array.getElem?_eq_getElem (by rw[Array.size_modify];exact hlt),Array.getElem_modify_self,hk']
 .exact(bf w p v b e).trans h1
theorem iM.drewN(h:iM enc dec one w b L)(n:Nat):iM enc dec one (w.drewN n) b L:=h
theorem iM.nocell(h:iM enc dec one w b L){p:Addr}{v:Value}(hc:w.cell? p=some v):p.block≠b:=λe=>by
 obtain⟨es,c,h1,_⟩:=h
 unfold World.cell? at hc
 rw[e,h1] at hc
 cases hc
theorem LL(x:α)(K:zV P kt enc dec)(w:World):(Instr.keyThatStays (enc x) (enc x)).run P w=.ok (enc x) w:=by
 simp[Instr.keyThatStays,K.bits]
theorem iM.look [DecidableEq α](h:iM enc dec one w b L)(K:zV P kt enc dec)(ht:P.underlying t=some (.map kt et)){z:Value}(hz:(zeroValue et).run P w=.ok z w)(x:α):
  (Instr.lookup t (.map (some b)) (enc x) false).run P w=.ok (if x∈L then one else z) w:=by
 obtain⟨es,c,hb,hi,rfl,_⟩:=h
 have hgo:(getObj b).run P w=.ok (.map es c) w:=by simp[getObj,Sem.run,hb]
 rcases K.find x w es.toList (λe he=>(hi e he).1) with ⟨h1,h2⟩|⟨j,e,h1,h2,h3⟩
 .simp[Instr.lookup,aZ ht,bu,hgo,K.check,h2,hz,Result.andThen];intro y hy hxy;exact absurd (bi.2 ⟨y,Array.mem_toList_iff.2 hy,hxy⟩) h1
 .have hm:=aK h1;have hx:x∈es.toList.map (λe=>dec e.key):=bi.2 ⟨e,hm,h2⟩;rw[aX hx,<-(hi e hm).2.1];simp[Instr.lookup,aZ ht,bu,hgo,K.check,h3,Result.andThen]
theorem iM.put(h:iM enc dec one w b L)(K:zV P kt enc dec)(ht:P.underlying t=some (.map kt et))(x:α):
  ∃o L',(Instr.mapUpdate t (.map (some b)) (enc x) one).run P w=.ok () (w.putObj b o)/\iM enc dec one (w.putObj b o) b L'/\∀y,y∈L'↔y∈L\/y=x:=by
 have hlt:=h.lt
 obtain⟨es,c,hb,hi,rfl,hn,hbn⟩:=h
 have hgo:(getObj b).run P w=.ok (.map es c) w:=by simp[getObj,Sem.run,hb]
 have hso:∀o,(setObj b o).run P w=.ok () (w.putObj b o):=λo=>by simp[setObj,Sem.run,hb,World.putObj]
 rcases K.find x w es.toList (λe he=>(hi e he).1) with ⟨h1,h2⟩|⟨j,e,h1,h2,h3⟩
 .refine⟨.map (es.push {key:=enc x,val:=one,born:=c}) (c+1),es.toList.map (λe=>dec e.key)++ [x],?_,⟨_,_,b8 hlt,?_,?_,?_,?_⟩,λy=>by simp⟩
  .simp[Instr.mapUpdate,aZ ht,bu,hgo,K.check,h2,hso,Result.andThen]
  .intro e he;simp only[Array.toList_push,bh,bm] at he;rcases he with he|rfl
   .obtain⟨a1,a2,a3⟩:=hi e he;exact⟨a1,a2,by omega⟩
   .exact⟨by rw[K.dec],rfl,by simp⟩
  .simp[K.dec]
  .refine ed.2 ⟨hn,by simp,λa ha a' ha' e=>?_⟩;simp at ha';subst ha' e;exact h1 ha
  .rw[Array.toList_push,bN];refine ed.2 ⟨hbn,by simp,λa ha a' ha' e=>?_⟩;simp at ha';subst ha';obtain⟨e',he',rfl⟩:=bi.1 ha;have:=(hi e' he').2.2;omega
 .have hm:=aK h1;have hes:es[j]? =some e:=by simpa using h1
  have hsame:es.modify j (λe'=>{e' with key:=enc x,val:=one})=es:=by
   apply cH;intro i;rw[Array.getElem?_modify]
   split
   .rename_i hij
    subst hij;rw[hes];obtain⟨a1,a2,_⟩:=hi e hm;simp only[Option.map_some];rw[<-h2,<-a1,<-a2]
   .rfl
  refine⟨.map es c,es.toList.map (λe=>dec e.key),?_,⟨_,_,b8 hlt,hi,rfl,hn,hbn⟩,λy=>⟨.inl,λhy=>?_⟩⟩
  .have hk:e.key=enc x:=by rw[(hi e hm).1,h2]
   simp[Instr.mapUpdate,aZ ht,bu,hgo,K.check,h3,Result.andThen,hes,hk,LL x K,hso,hsame]
  .rcases hy with hy|rfl
   .exact hy
   .exact bi.2 ⟨e,hm,h2⟩
theorem iM.del(h:iM enc dec one w b L)(K:zV P kt enc dec)(ht:P.underlying t=some (.map kt et))(x:α)(ty:TypeId):
  ∃o L',(Builtin.delete_ #[t,kt] ty #[.map (some b),enc x]).run P w=.ok (.tuple #[]) (w.putObj b o)/\iM enc dec one (w.putObj b o) b L'/\∀y,y∈L'↔y∈L/\y≠x:=by
 have hlt:=h.lt
 obtain⟨es,c,hb,hi,rfl,hn,hbn⟩:=h
 have hgo:(getObj b).run P w=.ok (.map es c) w:=by simp[getObj,Sem.run,hb]
 have hso:∀o,(setObj b o).run P w=.ok () (w.putObj b o):=λo=>by simp[setObj,Sem.run,hb,World.putObj]
 rcases K.find x w es.toList (λe he=>(hi e he).1) with ⟨h1,h2⟩|⟨j,e,h1,h2,h3⟩
 .refine⟨.map es c,_,?_,⟨_,_,b8 hlt,hi,rfl,hn,hbn⟩,λy=>⟨λhy=>⟨hy,λe=>h1 (e▸hy)⟩,λhy=>hy.1⟩⟩;simp[Builtin.delete_,aZ ht,hgo,K.check,h2,hso,Result.andThen]
 .have hjl:j<es.toList.length:=(aI.1 h1).1;have hjs:j<es.size:=by simpa using hjl
  have hlist:(es.eraseIdxIfInBounds j).toList=es.toList.eraseIdx j:=by
   unfold Array.eraseIdxIfInBounds;rw[dif_pos hjs];simp
  have hsub:(es.toList.eraseIdx j).Sublist es.toList:=List.eraseIdx_sublist _ _;refine⟨.map (es.eraseIdxIfInBounds j) c,(es.toList.eraseIdx j).map (λe=>dec e.key),?_,⟨_,_,b8 hlt,?_,by rw[hlist],(hsub.map _).nodup hn,by rw[hlist];exact(hsub.map _).nodup hbn⟩,λy=>?_⟩
  .simp[Builtin.delete_,aZ ht,hgo,K.check,h3,hso,Result.andThen]
  .intro e' he';rw[hlist] at he';exact hi e' (hsub.subset he')
  .rw[bi];constructor
   .rintro⟨e',he',rfl⟩;obtain⟨i,hne,hi'⟩:=List.mem_eraseIdx_iff_getElem?.1 he';refine⟨bi.2 ⟨e',aK hi',rfl⟩,λhy=>hne ?_⟩;have hl:=(aI.1 hi').1;have h5:(es.toList.map (λe=>dec e.key))[i]? =(es.toList.map (λe=>dec e.key))[j]?:=by
     rw[dv,dv,hi',h1];simp[hy,h2]
    exact(List.getElem?_inj (by simpa using hl) hn).1 h5
   .rintro⟨hy,hne⟩;obtain⟨e',he',rfl⟩:=bi.1 hy;obtain⟨i,hi'⟩:=List.getElem?_of_mem he';refine⟨e',List.mem_eraseIdx_iff_getElem?.2 ⟨i,λc=>hne ?_,hi'⟩,rfl⟩;subst c;rw[h1] at hi';cases hi';exact h2
def lH(enc:α->Value)(dec:Value->α)(one:Value)(w:World)(b r:Nat)(L R:List α):Prop:=
 ∃es clock since seen c0,w.heap[b]? =some (.map es clock)/\(∀e∈es.toList,e.key=enc (dec e.key)/\e.val=one/\e.born<clock)/\L=es.toList.map (λe=>dec e.key)/\L.Nodup/\(es.toList.map (·.born)).Nodup/\
  w.heap[r]? =some (.mapIter (some b) since seen c0)/\(∀x∈es.toList,x.born<since)/\since<=c0/\since<=clock/\R=(leftOf es seen).toList.map (λe=>dec e.key)
theorem lH.set{r:Nat}{R:List α}(h:lH enc dec one w b r L R):iM enc dec one w b L:=by
 obtain⟨es,clock,since,seen,c0,h1,h2,h3,h4,h5,_⟩:=h
 exact⟨es,clock,h1,h2,h3,h4,h5⟩
theorem lH.of_blocks{r:Nat}{R:List α}(h:lH enc dec one w b r L R)(hb:w'.heap[b]? =w.heap[b]?)(hr:w'.heap[r]? =w.heap[r]?):lH enc dec one w' b r L R:=by
 obtain⟨es,clock,since,seen,c0,h1,h2,h3,h4,h5,h6,h7⟩:=h
 exact⟨es,clock,since,seen,c0,hb.trans h1,h2,h3,h4,h5,hr.trans h6,h7⟩
theorem lH.lt{r:Nat}{R:List α}(h:lH enc dec one w b r L R):b<w.heap.size/\r<w.heap.size/\r≠b:=by
 obtain⟨es,clock,since,seen,c0,h1,h2,h3,h4,h5,h6,h7⟩:=h
 refine⟨(am.1 h1).1,(am.1 h6).1,λe=>?_⟩
 rw[e,h1] at h6
 cases h6
theorem lH.ext{r:Nat}{R:List α}(h:lH enc dec one w b r L R)(hb:Below w.heap.size w w'):lH enc dec one w' b r L R:=h.of_blocks (hb.block b h.lt.1) (hb.block r h.lt.2.1)
theorem lH.kept{r:Nat}{R:List α}{row:Option Nat}(h:lH enc dec one w b r L R)(hg:w.grownBy w' row)(hb:some b≠row)(hr:some r≠row):lH enc dec one w' b r L R:=h.of_blocks (hg.block b h.lt.1 hb) (hg.block r h.lt.2.1 hr)
theorem lH.sub{r:Nat}{R:List α}(h:lH enc dec one w b r L R):R.Nodup/\∀x∈R,x∈L:=by
 obtain⟨es,clock,since,seen,c0,h1,h2,rfl,h4,h5,h6,h7,h8,h8b,rfl⟩:=h
 have hs:((leftOf es seen).toList.map (λe=>dec e.key)).Sublist (es.toList.map (λe=>dec e.key)):=by
  unfold leftOf;rw[dQ];exact(List.filter_sublist (l:=es.toList)).map _
 exact⟨hs.nodup h4,λx hx=>hs.subset hx⟩
theorem iM.range(h:iM enc dec one w b L)(ht:P.underlying t=some (.map kt et)):
  ∃o,nR o=false/\(Instr.range t (.map (some b))).run P w=.ok (.pointer (some ⟨w.heap.size,0,none⟩)) (w.alloc o)/\lH enc dec one (w.alloc o) b w.heap.size L L:=by
 have hlt:=h.lt
 obtain⟨es,c,hb,hi,hL,hn,hbn⟩:=h
 refine⟨_,?_,run_range_map w t kt et b es c ht hb,es,c,c,#[],c,?_,hi,hL,hn,hbn,du w _,λx hx=>(hi x hx).2.2,aw _,aw _,?_⟩
 .rfl
 .exact(aJ w _ b hlt).trans hb
 .rw[hL];unfold leftOf;rw[dQ,dP.2 (λx _=>by simp)]
theorem lH.next{r:Nat}{R:List α}(h:lH enc dec one w b r L R)(ty:TypeId):
  (R= []/\(Instr.next (.pointer (some ⟨r,0,none⟩)) false ty).run P w=.ok (.tuple #[.bool false]) w)\/
  ∃x R' w',x∈R/\(∀y,y∈R'↔y∈R/\y≠x)/\R'.length<R.length/\(Instr.next (.pointer (some ⟨r,0,none⟩)) false ty).run P w=.ok (.tuple #[.bool true,enc x,one]) w'/\lH enc dec one w' b r L R'/\
   w.grownBy w' (some r)/\w'.heap.size=w.heap.size/\(Instr.entry (.pointer (some ⟨r,0,none⟩))).run P w'=.ok (.tuple #[enc x,one]) w':=by
 have hlt:=h.lt
 have hsub:=h.sub
 obtain⟨es,clock,since,seen,c0,h1,h2,rfl,h4,h5,h6,h7,h8,h8b,rfl⟩:=h
 rcases run_next_at (P:=P) w ty r b since c0 seen es clock h6 h1 h7 h8 with ⟨h0,hrun⟩|⟨e,he,w1,hal,hrun⟩
 .refine .inl ⟨?_,hrun⟩;have:(leftOf es seen).toList= []:=bB (by simpa using h0);rw[this];rfl
 .have hle:e∈es.toList/\e.born∉seen.toList:=by
   unfold leftOf at he;rw[dQ,bO] at he;refine⟨he.1,?_⟩;simpa using he.2
  obtain⟨k1,k2,k3⟩:=h2 e hle.1;have hmem:∀y,y∈(leftOf es (seen.push e.born)).toList.map (λe=>dec e.key)↔y∈(leftOf es seen).toList.map (λe=>dec e.key)/\y≠dec e.key:=λy=>by
   unfold leftOf;rw[dQ,dQ,bi,bi];constructor
   .rintro⟨e',he',rfl⟩;rw[bO] at he';simp only[Array.contains_push,Bool.not_or,az] at he';refine⟨⟨e',bO.2 ⟨he'.1,?_⟩,rfl⟩,λc=>?_⟩
    .first|exact he'.2.1|exact he'.2.2
    .have:=oP h4 he'.1 hle.1 c;subst this;simp at he'
   .rintro⟨⟨e',he',rfl⟩,hne⟩;rw[bO] at he';refine⟨e',bO.2 ⟨he'.1,?_⟩,rfl⟩;have hb:e'.born≠e.born:=λc=>hne (by rw[oP h5 he'.1 hle.1 c]);have h9:=he'.2;simp at h9;simp[h9,hb]
  have hw1:w1.heap=w.heap:=by rcases hal with rfl|rfl<;>rfl
  have hg1:w.grownBy w1 (some r):=by rcases hal with rfl|rfl<;>exact⟨rfl,rfl,rfl,aw _,λ_ _ _=>rfl⟩
  have hsb:(Go.ChangeMaps.setBlock w1 r (.mapIter (some b) since (seen.push e.born) clock))=w1.putObj r (.mapIter (some b) since (seen.push e.born) clock):=rfl;have hrl:r<w1.heap.size:=by rw[hw1];exact hlt.2.1
  have hSI:lH enc dec one (w1.putObj r (.mapIter (some b) since (seen.push e.born) clock)) b r (es.toList.map (λe=>dec e.key)) ((leftOf es (seen.push e.born)).toList.map (λe=>dec e.key)):=by
   refine⟨es,clock,since,seen.push e.born,clock,?_,h2,rfl,h4,h5,b8 hrl,h7,h8b,h8b,rfl⟩
   .have:=(lO w1 r (.mapIter (some b) since (seen.push e.born) clock)).block b (by rw[hw1];exact hlt.1) (by simpa using λc:b=r=>hlt.2.2 c.symm);rw[this,hw1];exact h1
  refine .inr ⟨dec e.key,(leftOf es (seen.push e.born)).toList.map (λe=>dec e.key),w1.putObj r (.mapIter (some b) since (seen.push e.born) clock),bi.2 ⟨e,he,rfl⟩,hmem,?_,?_,hSI,?_,?_,?_⟩
  .have hn':(dec e.key :: (leftOf es (seen.push e.born)).toList.map (λe=>dec e.key)).Nodup:=dG.2 ⟨λc=>((hmem _).1 c).2 rfl,hSI.sub.1⟩
   have:=iU hn' (l':=(leftOf es seen).toList.map (λe=>dec e.key)) (λx hx=>by
    rcases aH.1 hx with rfl|hx
    .exact bi.2 ⟨e,he,rfl⟩
    .exact((hmem x).1 hx).1)
   simp only[aN] at this;omega
  .rw[hrun,<-k1,k2];rfl
  .exact hg1.andThen (lO w1 r _) (λj hj=>.inr hj)
  .simp[World.putObj,hw1]
  .rw[run_entry_at (P:=P) _ r b since seen es clock e (b8 hrl) ?_ hle.1 h5,<-k1,k2];have:=(lO w1 r (.mapIter (some b) since (seen.push e.born) clock)).block b (by rw[hw1];exact hlt.1) (by simpa using λc:b=r=>hlt.2.2 c.symm);rw[this,hw1];exact h1
variable {ops:Array Oper} {rest:List Oper} {o:Oper} {a:Act} {Q:Exit->Act->World->Prop}
theorem DQ(w:World)(b:Nat)(o:Obj):(w.putObj b o).heap.size=w.heap.size:=by simp[World.putObj]
theorem OW(hg:o.guard=none)(m x v:Operand)(hop:o.op=Op.mapUpdate t m x v)(K:zV P kt enc dec)(ht:P.underlying t=some (.map kt et))(h:iM enc dec one w b L)
  (hm:a.eval m=.map (some b)) (y:α) (hx:a.eval x=enc y) (hv:a.eval v=one)
  (hK:∀w' L',iM enc dec one w' b L'->(∀z,z∈L'↔z∈L\/z=y)->w.grownBy w' (some b)->w'.heap.size=w.heap.size->wpList P ops Q rest (a.put o.dst undef) w'):wpList P ops Q (o :: rest) a w:=by
 refine dM hg λK' hK'=>?_
 obtain⟨o',L',hrun,r1,r2⟩:=h.put K ht y
 unfold Oper.wp
 simp[execOp,hop,hm,hx,hv,hrun,Result.andThen]
 exact hK' _ _ (hK _ L' r1 r2 (lO w b o') (DQ _ _ _))
theorem KU{K':Act->World->Prop}(m x v:Operand)(hop:o.op=Op.mapUpdate t m x v)(K:zV P kt enc dec)(ht:P.underlying t=some (.map kt et))(h:iM enc dec one w b L)
  (hm:a.eval m=.map (some b)) (y:α) (hx:a.eval x=enc y) (hv:a.eval v=one)
  (hK:∀w' L',iM enc dec one w' b L'->(∀z,z∈L'↔z∈L\/z=y)->w.grownBy w' (some b)->w'.heap.size=w.heap.size->K' (a.put o.dst undef) w'):o.wp P a w K' Q:=by
 obtain⟨o',L',hrun,r1,r2⟩:=h.put K ht y
 unfold Oper.wp execOp
 simp only[hop,hm,hx,hv,bu,hrun,Result.andThen,cY]
 exact hK _ L' r1 r2 (lO w b o') (DQ _ _ _)
theorem OX(hg:o.guard=none)(m x:Operand)(hop:o.op=Op.call {callee:=Callee.builtin Builtin.delete,args:=#[m,x],argTypes:=#[t,kt]})(K:zV P kt enc dec)(ht:P.underlying t=some (.map kt et))(h:iM enc dec one w b L)
  (hm:a.eval m=.map (some b)) (y:α) (hx:a.eval x=enc y)
  (hK:∀w' L',iM enc dec one w' b L'->(∀z,z∈L'↔z∈L/\z≠y)->w.grownBy w' (some b)->w'.heap.size=w.heap.size->wpList P ops Q rest (a.put o.dst (.tuple #[])) w'):wpList P ops Q (o :: rest) a w:=by
 refine dM hg λK' hK'=>?_
 obtain⟨o',L',hrun,r1,r2⟩:=h.del K ht y o.type
 unfold Oper.wp
 simp[execOp,hop,resolve,invoke,builtin,hm,hx,hrun,Result.andThen]
 exact hK' _ _ (hK _ L' r1 r2 (lO w b o') (DQ _ _ _))
theorem vR(hg:o.guard=none)(m:Operand)(hop:o.op=Op.range t m)(ht:P.underlying t=some (.map kt et))(h:iM enc dec one w b L)(hm:a.eval m=.map (some b))
  (hK:∀w',lH enc dec one w' b w.heap.size L L->Below w.heap.size w w'->w'.heap.size=w.heap.size+1->wpList P ops Q rest (a.put o.dst (.pointer (some ⟨w.heap.size,0,none⟩))) w'):wpList P ops Q (o :: rest) a w:=by
 refine dM hg λK' hK'=>?_
 obtain⟨o',_,hrun,r1⟩:=h.range ht
 unfold Oper.wp
 simp[execOp,hop,hm,hrun,Result.andThen]
 exact hK' _ _ (hK _ r1 ((ao _ w).alloc (aw _) _) (by simp))
theorem yL{r:Nat}{R:List α}(hg:o.guard=none)(it:Operand)(hop:o.op=Op.next it false)(hit:a.eval it=.pointer (some ⟨r,0,none⟩))(h:lH enc dec one w b r L R)
  (hDone:R= []->wpList P ops Q rest (a.put o.dst (.tuple #[.bool false])) w)
  (hMore:∀x R' w',x∈R->(∀y,y∈R'↔y∈R/\y≠x)->R'.length<R.length->lH enc dec one w' b r L R'->w.grownBy w' (some r)->w'.heap.size=w.heap.size->
    (Instr.entry (.pointer (some ⟨r,0,none⟩))).run P w'=.ok (.tuple #[enc x,one]) w'->wpList P ops Q rest (a.put o.dst (.tuple #[.bool true,enc x,one])) w'):wpList P ops Q (o :: rest) a w:=by
 refine dM hg λK' hK'=>?_
 unfold Oper.wp
 rcases h.next (P:=P) o.type with ⟨h0,hrun⟩|⟨x,R',w',hx,hR',hlt,hrun,hSI,hgr,hsz,hen⟩
 .simp[execOp,hop,hit,hrun,Result.andThen];exact hK' _ _ (hDone h0)
 .simp[execOp,hop,hit,hrun,Result.andThen];exact hK' _ _ (hMore x R' w' hx hR' hlt hSI hgr hsz hen)
end
end

section
open Go.RowKit
structure eH(w:World) where
 val:World
 ext:Below w.heap.size w val
instance(w:World):Nonempty (eH w):=⟨⟨w,ao _ _⟩⟩
theorem eH.cell{w:World}{p:Addr}{v:Value}(h:w.cell? p=some v)(n:eH w):n.val.cell? p=some v:=eN n.ext h
theorem oM{P:Program}{f:FuncId}{args:Array Value}{w:World}{n:eH w}{v:Value}
  (h:Calls P f args n.val λe w'=>e=.returned v/\Below n.val.heap.size n.val w'):Calls P f args n.val λe w''=>e=.returned v/\∃m:eH w,w''=m.val:=
 h.mono λ_ w' ⟨he,hb⟩=>⟨he,⟨w',eA n.ext hb⟩,rfl⟩
theorem FU{P:Program}{f:FuncId}{args:Array Value}{w:World}{n:eH w}{v:Value}
  (h:Calls P f args n.val λe w'=>e=.returned v/\n.val=w'):Calls P f args n.val λe w''=>e=.returned v/\∃m:eH w,w''=m.val:=
 h.mono λ_ _ ⟨he,hb⟩=>⟨he,n,hb.symm⟩
theorem lE{P:Program}{id:Nat}{Q:Exit->Act->World->Prop}{a:Act}{w:World}{ol:List Oper}(hm:P.follows .mixedOrders=true)(hB:Region.lexB .any ol.toArray=true)
  (h:wpQuiet P ol.toArray (λw'=>∃n:eH w,w'=n.val) (λa'=>∀w',(∃n:eH w,w'=n.val)->Q .normal a' w') ol a):(Code.region id ol.toArray true).wp P Q a w:=
 wp_region_quiet (C:=λw'=>∃n:eH w,w'=n.val) hm hB ⟨⟨_,eS (ao _ _) 1⟩,rfl⟩ (by simpa using h)
theorem PG{P:Program}{id:Nat}{Q:Exit->Act->World->Prop}{a:Act}{w:World}{ol:List Oper}{l:Nat}{C:World->Prop}(hm:P.follows .mixedOrders=true)(hB:Region.lexB .any ol.toArray=true)
  (hn:ol.all pE=true) (hQ:¬LetsOut Q) (hC:C {w with drawn:=w.drawn+1})
  (h:wpQuiet P ol.toArray C (λa'=>∀w',C w'->Q .normal a' w') ol a):(Code.region id ol.toArray true).wpIn (Fence.wide.inRound l) 0 P Q a w:=by
 refine wpIn_region_draw λt=>?_
 refine wN l (λi o ho=>?_) hQ _ _ _ ?_
 .grind
 .simp only[Region.schedule,hm,Bool.true_or,if_true];simp only[Region.lexB,az] at hB;refine wpAny_sound _ t _ a _ ?_;refine wpAny_of_quiet (C:=C) (Q:=λa'=>∀w',C w'->Q .normal a' w') (λ_ w' hw' h=>h w' hw') _ _ _ _ hC ?_;have:=wpAnyQ_lex (C:=C) (md:=.any) hB.1 ol 0 (Array.replicate ol.toArray.size false) a (by simp) (by grind) h;omega
theorem AF{P:Program}{id:Nat}{Q:Exit->Act->World->Prop}{a:Act}{w:World}{ol:List Oper}{l:Nat}(hm:P.follows .mixedOrders=true)(hB:Region.lexB .any ol.toArray=true)
  (hn:ol.all pE=true) (hQ:¬LetsOut Q)
  (h:wpQuiet P ol.toArray (λw'=>∃n:eH w,w'=n.val) (λa'=>∀w',(∃n:eH w,w'=n.val)->Q .normal a' w') ol a):(Code.region id ol.toArray true).wpIn (Fence.wide.inRound l) 0 P Q a w:=
 PG hm hB hn hQ ⟨⟨_,eS (ao _ _) 1⟩,rfl⟩ h
structure fP(F:World->Prop) where
 val:World
 prop:F val
theorem mN{F:World->Prop}{w:World}(h:F w):∃n:fP F,w=n.val:=⟨⟨w,h⟩,rfl⟩
theorem KK{F:World->Prop}{w:World}(h:F w):Nonempty (fP F):=⟨⟨w,h⟩⟩
def MS(o:Oper):Bool:=match o.op with
 | .move _| .assign _| .pick .. | .build .. | .load .. | .binOp .. | .unOp .. | .convert .. | .slice .. | .fieldAddr .. | .field .. | .indexAddr .. | .index .. | .lookup .. | .extract .. | .makeInterface .. =>true
 | .nilCheck _=>true
 | .call {callee:=.builtin .len,..}| .call {callee:=.builtin .cap,..}| .call {callee:=.builtin .max,..}| .call {callee:=.builtin .min,..}=>true
 |_=>false
def BG(r:Result Next):Prop:=(∃v w,r=.ok (.value v) w)\/∃h w,r=.halt h w
theorem UW{P:Program}(s:Sem Value)(w:World):BG ((do pure (Next.value (<-s)):Sem Next).run P w):=by
 rw[bu]
 cases s.run P w with
 |ok x w'=>exact Or.inl ⟨x,w',by rfl⟩
 |halt h w'=>exact Or.inr ⟨h,w',by rfl⟩
theorem rE{P:Program}(v:Value)(w:World):BG ((pure (Next.value v):Sem Next).run P w):=Or.inl ⟨v,w,by simp⟩
theorem EX{α:Type}{P:Program}(s:Sem α)(k:α->Sem Next)(w:World)(hk:∀x w,BG ((k x).run P w)):BG ((s >>= k).run P w):=by
 rw[bu]
 cases s.run P w with
 |ok x w'=>simp_all
 |halt h w'=>exact Or.inr ⟨h,w',by rfl⟩
theorem GN{P:Program}(b:Builtin)(hb:b=.len\/b=.cap\/b=.max\/b=.min)(ts:Array TypeId)(t:TypeId)(cs:Array Bool)(args:Array Value)(w:World):BG ((builtin b ts t cs args).run P w):=by
 rcases hb with rfl|rfl|rfl|rfl<;>exact UW _ _
theorem SX{P:Program}(ρ:Operand->Value)(c:Call)(b:Builtin)(hc:c.callee=.builtin b)(hb:b=.len\/b=.cap\/b=.max\/b=.min)(t:TypeId)(w:World):
  BG ((do let d<-resolve ρ c t;invoke d.target d.args:Sem Next).run P w):=by
 simp only[resolve,hc,bu,cY,Result.andThen]
 exact GN b hb _ _ _ _ _
theorem PV{P:Program}(w:World):BG ((runtimePanic .nilDeref:Sem Next).run P w):=by
 refine Or.inr ?_
 simp[runtimePanic,bu,program,goPanic,Sem.run,Result.andThen]
theorem iv{P:Program}(ρ:Operand->Value)(o:Oper)(h:MS o=true)(w:World):BG ((execOp ρ o).run P w):=by
 unfold MS at h
 unfold execOp
 cases ho:o.op with
 |call c=>
  grind[SX]
 |nilCheck x=>
  grind[PV,EX,rE]
 |move x=>grind[rE]
 |assign x=>grind[rE]
 |pick c a b=>grind[EX,rE]
 |_=>simp only[ho] at h<;>first|exact UW _ _|grind
def lR(P:Program)(l:List Oper)(S:World->Prop)(Q:Exit->Act->World->Prop):List (Nat×Nat×Option (Nat×Bool))->Act->World->Prop
 | [],a,w=>Q .normal a w
 |(i,n,none) :: rest,a,w=>wpQuiet P l.toArray S (λa'=>lR P l S Q rest a' w) ((l.drop i).take n) a
 |(i,n,some (e,true)) :: rest,a,w=>wpQuiet P l.toArray S (λa'=>wpOp P l.toArray Q e (λa'' w''=>S w''/\lR P l S Q rest a'' w'') a' w) ((l.drop i).take n) a
 |(i,n,some (e,false)) :: rest,a,w=>wpQuiet P l.toArray S (λa'=>wpOp P l.toArray Q e (λa'' w''=>lR P l S Q rest a'' w'') a' w) ((l.drop i).take n) a
def lW(l:List Oper):Nat->Nat->Nat->Bool
 |0,j,i=>match l[j]? with
  |some o=>o.after.any λe=>Region.binds .any e&&e.on==i
  |none=>false
 |n+1,j,i=>lW l 0 j i||(match l[j]? with
  |some o=>o.after.any λe=>Region.binds .any e&&lW l n e.on i
  |none=>false)
def ZU(acc:List Nat)(o:Oper):Nat:=o.after.toList.foldl (λm e=>if Region.binds .any e then m|||(1 <<< e.on)|||acc.getD e.on 0 else m) 0
def ZO:List Oper->List Nat->List Nat
 | [],acc=>acc
 |o :: l,acc=>ZO l (acc++ [ZU acc o])
def DH(l:List Oper)(j i:Nat):Bool:=((ZO l []).getD j 0).testBit i
def qH(l:List Oper)(j:Nat):Bool:=(List.range l.length).all λi=>i==j||lW l 3 j i||lW l 3 i j||DH l j i||DH l i j
theorem EU(acc:List Nat)(i:Nat):∀(es:List Edge) (m:Nat),(es.foldl (λm e=>if Region.binds .any e then m|||(1 <<< e.on)|||acc.getD e.on 0 else m) m).testBit i=true->m.testBit i=true\/∃e∈es,Region.binds .any e=true/\(e.on=i\/(acc.getD e.on 0).testBit i=true)
 | [],m,h=>Or.inl h
 |e :: es,m,h=>by
  rw[List.foldl_cons] at h;rcases EU acc i es _ h with h1|⟨e',he',hb⟩
  .by_cases hb:Region.binds .any e=true
   .rw[aX hb,Nat.testBit_or,Nat.testBit_or,bZ,bZ] at h1;rcases h1 with (h1|h1)|h1
    .exact Or.inl h1
    .refine Or.inr ⟨e,by simp,hb,Or.inl ?_⟩;rw[Nat.one_shiftLeft,Nat.testBit_two_pow] at h1;exact dc h1
    .exact Or.inr ⟨e,by simp,hb,Or.inr h1⟩
   .rw[aC hb] at h1;exact Or.inl h1
  .exact Or.inr ⟨e',by simp[he'],hb⟩
theorem BQ(l:List Oper):∀(l2:List Oper) (acc:List Nat),l.drop acc.length=l2->(∀j i,(acc.getD j 0).testBit i=true->∃n,lW l n j i=true)->∀j i,((ZO l2 acc).getD j 0).testBit i=true->∃n,lW l n j i=true
 | [],acc,_,hacc=>hacc
 |o :: l2,acc,hd,hacc=>by
  have ho:l[acc.length]? =some o:=by
   have:(l.drop acc.length)[0]? =some o:=by grind
   grind
  refine BQ l l2 (acc++ [ZU acc o]) ?_ ?_
  .have:l.drop (acc.length+1)=l2:=by rw[<-List.drop_drop,hd];rfl
   grind
  .intro j i h;by_cases hj:j<acc.length
   .simp_all[cy]
   .by_cases hj2:j=acc.length
    .subst hj2;rw[ax,dh (aw _),Nat.sub_self] at h;rcases EU acc i o.after.toList 0 h with h0|⟨e,he,hb,h1⟩
     .simp at h0
     .have he':e∈o.after:=by simpa using he
      rcases h1 with rfl|h1
      .refine⟨0,?_⟩;unfold lW;rw[ho];exact da.2 ⟨e,he',by simp[hb]⟩
      .obtain⟨n,hn⟩:=hacc _ _ h1;refine⟨n+1,?_⟩;rw[lW,ho,bZ];exact Or.inr (da.2 ⟨e,he',by simp[hb,hn]⟩)
    .rw[ax,cV (by simp;omega)] at h;simp at h
theorem uK{l:List Oper}{j i:Nat}(h:DH l j i=true):∃n,lW l n j i=true:=
 BQ l l [] rfl (λj i h=>by grind) j i h
def mA(l:List Oper)(listed:Array Bool):Prop:=∀(j:Nat) (o:Oper),l.toArray[j]? =some o->listed.getD j false=true->∀e∈o.after,Region.binds .any e=true->listed.getD e.on false=true
def sW(l:List Oper):Nat->Nat->Array Bool->Option (Array Bool)
 |0,_,listed=>some listed
 |n+1,i,listed=>
  if (Region.ready .any l.toArray listed).contains i&&Region.free .any l.toArray listed i&&((l[i]?).map MS).getD false then sW l n (i+1) (listed.setIfInBounds i true) else none
def DJ(l:List Oper):List (Nat×Nat×Option (Nat×Bool))->Array Bool->Bool
 | [],listed=>(Region.ready .any l.toArray listed).isEmpty
 |(i,n,e) :: rest,listed=>
  match sW l n i listed with
  |none=>false
  |some listed'=>
   match e with
   |none=>DJ l rest listed'
   |some (k,true)=>Region.ready .any l.toArray listed'== [k]&&DJ l rest (listed'.setIfInBounds k true)
   |some (k,false)=>Region.ready .any l.toArray listed'== [k]&&DJ l rest (listed'.setIfInBounds k true)&&qH l k&&rest.isEmpty
section
variable {P:Program} {l:List Oper} {S:World->Prop} {Q:Exit->Act->World->Prop}
theorem yN{listed:Array Bool}(hc:mA l listed):∀(n j i:Nat),listed.getD j false=true->lW l n j i=true->listed.getD i false=true:=by
 intro n
 induction n with
 |zero=>
  intro j i hj h;unfold lW at h
  split at h
  .rename_i o ho
   obtain⟨e,he,hb⟩:=da.1 h;simp only[az,de] at hb;exact hb.2▸hc j o (by grind) hj e he hb.1
  grind
 |succ n ih=>
  intro j i hj h;have h0:∀(h:lW l 0 j i=true),listed.getD i false=true:=λh=>by
   unfold lW at h
   split at h
   .rename_i o ho
    obtain⟨e,he,hb⟩:=da.1 h;simp only[az,de] at hb;exact hb.2▸hc j o (by grind) hj e he hb.1
   grind
  rw[lW,bZ] at h;rcases h with h|h
  .exact h0 h
  .split at h
   .rename_i o ho
    obtain⟨e,he,hb⟩:=da.1 h;simp only[az] at hb;exact ih _ _ (hc j o (by simpa using ho) hj e he hb.1) hb.2
   .cases h
theorem uJ{listed:Array Bool}(hc:mA l listed){n j i:Nat}(hj:j∈Region.ready .any l.toArray listed)(h:lW l n j i=true):listed.getD i false=true:=by
 obtain⟨_,o,ho,hall⟩:=dV.1 hj
 have h0:∀(h:lW l 0 j i=true),listed.getD i false=true:=λh=>by
  unfold lW at h
  grind
 cases n with
 |zero=>grind
 |succ n=>
  rw[lW,bZ] at h;rcases h with h|h
  .grind
  .grind[yN]
theorem mA.set{listed:Array Bool}(hc:mA l listed){i:Nat}(hi:i∈Region.ready .any l.toArray listed):mA l (listed.setIfInBounds i true):=by
 intro j o ho hl e he hb
 obtain⟨_,oi,hoi,hall⟩:=dV.1 hi
 by_cases hij:i=j
 .grind[getD_set_true]
 .rw[dC false hij] at hl;exact getD_set_true (hc j o ho hl e he hb)
theorem CB(n:Nat):mA l (Array.replicate n false):=by
 intro j o _ hl
 rcases Nat.lt_or_ge j n with h|h
 .simp_all
 grind
theorem yA{i j:Nat}{listed:Array Bool}(hc:mA l listed)(n:Nat)(hi:i∈Region.ready .any l.toArray listed)(hj:j∈Region.ready .any l.toArray listed):lW l n j i=false:=by
 grind[uJ,mem_ready]
theorem IW{i j:Nat}{listed:Array Bool}(hc:mA l listed)(hi:i∈Region.ready .any l.toArray listed)(hj:j∈Region.ready .any l.toArray listed):DH l j i=false:=by
 grind[uK,yA]
theorem XI{i j:Nat}{listed:Array Bool}(hc:mA l listed)(hi:i∈Region.ready .any l.toArray listed)(hj:j∈Region.ready .any l.toArray listed)(hne:i≠j):qH l j=false:=by
 cases h:qH l j with
 |false=>rfl
 |true=>
  unfold qH at h;rw[bq] at h;have hlt:i<l.length:=by
   grind[mem_ready]
  have:=h i (be.2 hlt);simp only[bZ,de,yA hc 3 hi hj,yA hc 3 hj hi,IW hc hi hj,IW hc hj hi,hne] at this
  grind
def iY(P:Program)(l:List Oper)(Q:Exit->Act->World->Prop)(S:World->Prop):Nat->Array Bool->Act->World->Prop
 |0,listed,a,w=>Region.ready .any l.toArray listed= []/\Q .normal a w
 |fuel+1,listed,a,w=>
  (Region.ready .any l.toArray listed= []->Q .normal a w)/\
  ∀i∈Region.ready .any l.toArray listed,wpOp P l.toArray Q i (λa' w'=>(qH l i=true\/S w')/\iY P l Q S fuel (listed.setIfInBounds i true) a' w') a w
theorem wO:∀(fuel:Nat) (listed:Array Bool) (a:Act) (w:World),iY P l Q S fuel listed a w->wpAny P .any l.toArray Q fuel listed a w
 |0,_,_,_,h=>h
 |fuel+1,_,_,_,h=>⟨h.1,λi hi=>wpOp_mono (λa' w' h'=>wO fuel _ a' w' h'.2) (h.2 i hi)⟩
theorem yM{i:Nat}{oi:Oper}{v:Value}(hi:l.toArray[i]? =some oi)(hs:Region.noSelect l.toArray=true)(hQ:∀c a w,¬Q (.panic c) a w):
  ∀(fuel:Nat) (listed:Array Bool) (a:Act) (w:World),mA l listed->Region.free .any l.toArray listed i=true->i∈Region.ready .any l.toArray listed->YieldsIf P l.toArray S oi v a->S w->
   iY P l Q S fuel (listed.setIfInBounds i true) (a.put oi.dst v) w->iY P l Q S (fuel+1) listed a w:=by
 have hsel:=Region.noSelect_spec hs
 have key:∀(fuel:Nat) (listed:Array Bool) (a:Act) (w:World),mA l listed->
   (∀j oj,l.toArray[j]? =some oj->j≠i->listed.getD j true=false->(∀e∈oj.after,Region.binds .any e=true->e.on≠i)->oi.apart l.toArray oj=true)->
   i∈Region.ready .any l.toArray listed->YieldsIf P l.toArray S oi v a->S w->
   iY P l Q S fuel (listed.setIfInBounds i true) (a.put oi.dst v) w->iY P l Q S (fuel+1) listed a w:=by
  intro fuel
  induction fuel with
  |zero=>
   intro listed a w _ _ hr hy hS H;refine⟨λh=>absurd (h▸hr) (by simp),λj hj=>?_⟩;by_cases hji:j=i
   .subst hji;exact hy.wpOp hi hS ⟨Or.inr hS,H⟩
   .exact absurd (H.1▸ready_mono hj hji) (by simp)
  |succ fuel ih=>
   intro listed a w hcl hfree hr hy hS H;refine⟨λh=>absurd (h▸hr) (by simp),λj hj=>?_⟩;by_cases hji:j=i
   .subst hji;exact hy.wpOp hi hS ⟨Or.inr hS,H⟩
   .have hal:=XI hcl hr hj (Ne.symm hji);have hnw:=yA hcl 0 hr hj;have h1:=H.2 j (ready_mono hj hji);obtain⟨hjun,oj,hoj,_⟩:=dV.1 hj;have hnot:∀e∈oj.after,Region.binds .any e=true->e.on≠i:=λe he hb heq=>by
     have:lW l 0 j i=true:=by
      unfold lW;have hoj':l[j]? =some oj:=by simpa using hoj
      rw[hoj'];exact da.2 ⟨e,he,by simp[hb,heq]⟩
     rw[hnw] at this;cases this
    have h2:=wpOp_putIf hoj (hfree j oj hoj hji hjun hnot) (λcs b=>hsel i oi cs b hi) (λcs b=>hsel j oj cs b hoj) (λc a w hp=>absurd hp (hQ _ _ _)) hy h1;refine wpOp_mono (λa' w' h3=>?_) h2;have hS':S w':=h3.2.1.resolve_left (by rw[hal];simp);refine⟨Or.inr hS',ih (listed.setIfInBounds j true) a' w' (hcl.set hj) (λk ok hk hki hun hno=>?_) (ready_mono hr (Ne.symm hji)) h3.1 hS' ?_⟩
    .refine hfree k ok hk hki ?_ hno;by_cases hjk:j=k
     .subst hjk;exact hjun
     .rw[dC true hjk] at hun;exact hun
    .rw[Array.setIfInBounds_comm _ _ hji];exact h3.2.2
 intro fuel listed a w hcl hf
 exact key fuel listed a w hcl (Region.free_spec hi hf)
theorem zQ{o:Oper}{a:Act}{K:Act->Prop}(hv:MS o=true)(hw:Region.wanted o (yielded l.toArray a.tmps)=true)(h:o.quiet P a S K):
  ∃v,YieldsIf P l.toArray S o v a/\K (a.put o.dst v):=by
 obtain⟨v,h1,h2⟩:=h
 refine⟨v,Or.inl ⟨hw,λw hs=>?_⟩,h2⟩
 have:=h1 w hs
 unfold Oper.quietAt at this
 rcases iv (P:=P) a.eval o hv w with ⟨x,w',e⟩|⟨x,w',e⟩
 .rw[e] at this|-;obtain⟨rfl,rfl⟩:=this;rfl
 .rw[e] at this;trivial
theorem rB(hs:Region.noSelect l.toArray=true)(hQ:∀c a w,¬Q (.panic c) a w)(fuel:Nat)(w:World)(hS:S w)(K:Act->Prop):
  ∀(n i:Nat) (listed listed':Array Bool) (a:Act),mA l listed->sW l n i listed=some listed'->(mA l listed'->∀a',K a'->iY P l Q S fuel listed' a' w)->
   wpQuiet P l.toArray S K ((l.drop i).take n) a->iY P l Q S (fuel+n) listed a w:=by
 intro n
 induction n with
 |zero=>
  intro i listed listed' a hcl hok hK h;simp only[sW,bv] at hok;subst hok;exact hK hcl a h
 |succ n ih=>
  intro i listed listed' a hcl hok hK h;simp only[sW] at hok
  split at hok
  .rename_i hc
   simp only[az] at hc;obtain⟨⟨hr,hf⟩,hv⟩:=hc;cases ho:l[i]? with
   |none=>simp[ho] at hv
   |some o=>
    simp only[ho,Option.map_some,dA] at hv;have hd:(l.drop i).take (n+1)=o :: (l.drop (i+1)).take n:=by
     grind[List.drop_eq_getElem_cons]
    rw[hd] at h;simp only[wpQuiet] at h;have hoA:l.toArray[i]? =some o:=by simpa using ho
    have hr':i∈Region.ready .any l.toArray listed:=by simpa using hr
    by_cases hw:Region.wanted o (yielded l.toArray a.tmps)=true
    .rw[aX hw] at h;obtain⟨v,hy,hk⟩:=zQ hv hw h;exact yM hoA hs hQ _ _ _ _ hcl hf hr' hy hS (ih (i+1) _ _ _ (hcl.set hr') hok hK hk)
    .rw[aC hw] at h;exact yM hoA hs hQ _ _ _ _ hcl hf hr' (Or.inr ⟨by simpa using hw,rfl⟩) hS (ih (i+1) _ _ _ (hcl.set hr') hok hK h)
  .cases hok
def CS:List (Nat×Nat×Option (Nat×Bool))->Nat
 | []=>0
 |(_,n,none) :: rest=>CS rest+n
 |(_,n,some _) :: rest=>CS rest+1+n
theorem XL(hs:Region.noSelect l.toArray=true)(hQ:∀c a w,¬Q (.panic c) a w):
  ∀(segs:List (Nat×Nat×Option (Nat×Bool))) (listed:Array Bool) (a:Act) (w:World),mA l listed->DJ l segs listed=true->(S w\/segs= [])->lR P l S Q segs a w->iY P l Q S (CS segs) listed a w:=by
 intro segs
 induction segs with
 |nil=>
  intro listed a w _ hok _ h;simp only[DJ,List.isEmpty_iff] at hok;exact⟨hok,h⟩
 |cons seg rest ih=>
  intro listed a w hcl hok hS0 h;have hS:S w:=hS0.resolve_right (by simp);obtain⟨i,n,e⟩:=seg;simp only[DJ] at hok
  split at hok
  .grind
  .rename_i listed' hr
   rcases e with _|⟨k,fl⟩
   .exact rB hs hQ _ w hS _ n i listed listed' a hcl hr (λhcl' a' ha'=>ih listed' a' w hcl' hok (Or.inl hS) ha') h
   .cases fl with
    |true=>
     refine rB hs hQ _ w hS _ n i listed listed' a hcl hr (λhcl' a' ha'=>⟨λh0=>?_,λj hj=>?_⟩) h
     .grind
     .have hcl2:=hcl'.set hj
      grind[wpOp_mono]
    |false=>
     refine rB hs hQ _ w hS _ n i listed listed' a hcl hr (λhcl' a' ha'=>⟨λh0=>?_,λj hj=>?_⟩) h
     .grind
     .have hcl2:=hcl'.set hj
      grind[wpOp_mono]
def DT(l:List Oper)(segs:List (Nat×Nat×Option (Nat×Bool))):Bool:=
 DJ l segs (Array.replicate l.length false)&&(CS segs==l.length)&&Region.noSelect l.toArray
theorem lw(segs:List (Nat×Nat×Option (Nat×Bool)))(hok:DT l segs=true)(hQ:∀c a w,¬Q (.panic c) a w){a:Act}{w:World}(hS:S w)(h:lR P l S Q segs a w):
  wpAny P .any l.toArray Q l.toArray.size (Array.replicate l.toArray.size false) a w:=by
 simp only[DT,az,de] at hok
 have:=wO _ _ _ _ (XL hok.2 hQ segs _ a w (CB _) hok.1.1 (Or.inl hS) h)
 grind
theorem gJ{id:Nat}{a:Act}{w:World}(S:World->Prop)(segs:List (Nat×Nat×Option (Nat×Bool)))(hm:P.follows .mixedOrders=true)(hok:DT l segs=true)(hS:S w.drew)
  (h:lR P l S (NoPanic Q) segs a w.drew):(Code.region id l.toArray true).wp P Q a w:=
 wp_region_noPanic (wp_region_any hm (lw segs hok (λ_ _ _ hp=>hp) hS h))
theorem eE{e:Nat}{o:Oper}{K:Act->World->Prop}{a:Act}{w:World}(ho:l[e]? =some o)(hg:o.guard=none)(h:o.wp P a w K Q):wpOp P l.toArray Q e K a w:=by
 unfold wpOp
 have:l.toArray[e]? =some o:=by grind
 simp only[this]
 rw[aX (by simp[Region.wanted,hg])]
 grind
theorem wW{o:Oper}{K:Act->World->Prop}{a:Act}(w0:World)(s x:Operand)(t e:TypeId)(ho:o.op=.call {callee:=.builtin .append,args:=#[s,x],argTypes:=#[t,t]})
  (base:Nat) (z:Value) (size bytes:Nat) (ht:P.underlying t=some (.slice e)) (hinfo:(P.info? e).map (λi=>(i.zero,i.size,i.bytes))=some (some z,size,bytes)) (hzs:z.cells.size=size) (hsz:0<size)
  (v:Value) (n:Nat) (xs news:List Value) (hs:a.eval s=v) (hown:w0.ownsRow base e size v n xs) (H:Nat) (hH:w0.heap.size=H) (hx:a.eval x=.slice (some ⟨H,0,none⟩) 1 1) (hl:news.length=size) (h1:∀u∈news,u.oneCell'=true)
  (h63:n+1<=maxLen) (hbytes:(n+1)*bytes<=140737488355328) (hbase:base<=w0.heap.size)
  (h:∀g cap w',w'.ownsRow base e size (.slice (some ⟨g,0,none⟩) (n+1) cap) (n+1) (xs++news)->w0.grownBy w' v.ownBlock->(some g=v.ownBlock\/g=H+1)->K (a.put o.dst (.slice (some ⟨g,0,none⟩) (n+1) cap)) w'):
  o.wp P a (w0.alloc (.cells news.toArray e)) K Q:=by
 subst hH
 obtain⟨i,hi,hz,hsize,hby⟩:=info_parts hinfo
 have hnews:∀j u,news[j]? =some u->(w0.alloc (.cells news.toArray e)).cell? ((⟨w0.heap.size,0,none⟩:Addr).add j)=some u:=by
  intro j u hu;have hadd:(⟨w0.heap.size,0,none⟩:Addr).add j=⟨w0.heap.size,j,none⟩:=by unfold Addr.add;grind
  simp_all
 obtain⟨v',w',hrun,h2,h3,h4,h5⟩:=run_append_own_at (P:=P) (w0.alloc (.cells news.toArray e)) base t o.type e i z size bytes ht hi hz hsize hby hzs hsz v n xs (hown.alloc _) ⟨w0.heap.size,0,none⟩ 1 1 news (by omega) hnews h1 h63 hbytes (by simp;omega)
 obtain⟨g,cap,rfl⟩:∃g cap,v'=.slice (some ⟨g,0,none⟩) (n+1) cap:=by
  rcases h2.2 with ⟨_,h0⟩|⟨g,cap,cur,hv,_⟩
  .omega
  grind
 have hg:w0.grownBy w' v.ownBlock:=by
  refine⟨h3.os,h3.tape,h3.output,bP (by simp) h3.size,λk hk hne=>?_⟩;rw[h3.block k (by simp;omega) hne]
  grind[Below.heap_alloc]
 unfold Oper.wp execOp
 simp only[ho,resolve,invoke,builtin,bu,cY,bp,List.map_toArray,cn,cW,hs,hx,hrun]
 refine h g cap w' h2 hg ?_
 rcases h5 with h5|h5
 .exact Or.inl (by trivial)
 .exact Or.inr (by simpa[Value.ownBlock] using h5)
theorem fN{ops:Array Oper}{rest:List Oper}{o:Oper}{a:Act}(hgd:o.guard=none)(w0:World)(s x:Operand)(t e:TypeId)(ho:o.op=.call {callee:=.builtin .append,args:=#[s,x],argTypes:=#[t,t]})
  (base:Nat) (z:Value) (size bytes:Nat) (ht:P.underlying t=some (.slice e)) (hinfo:(P.info? e).map (λi=>(i.zero,i.size,i.bytes))=some (some z,size,bytes)) (hzs:z.cells.size=size) (hsz:0<size)
  (v:Value) (n:Nat) (xs news:List Value) (hs:a.eval s=v) (hown:w0.ownsRow base e size v n xs) (H:Nat) (hH:w0.heap.size=H) (hx:a.eval x=.slice (some ⟨H,0,none⟩) 1 1) (hl:news.length=size) (h1:∀u∈news,u.oneCell'=true)
  (h63:n+1<=maxLen) (hbytes:(n+1)*bytes<=140737488355328) (hbase:base<=w0.heap.size)
  (h:∀g cap w',w'.ownsRow base e size (.slice (some ⟨g,0,none⟩) (n+1) cap) (n+1) (xs++news)->w0.grownBy w' v.ownBlock->(some g=v.ownBlock\/g=H+1)->wpList P ops Q rest (a.put o.dst (.slice (some ⟨g,0,none⟩) (n+1) cap)) w'):
  wpList P ops Q (o :: rest) a (w0.alloc (.cells news.toArray e)):=
 dM hgd λ_ hK=>wW w0 s x t e ho base z size bytes ht hinfo hzs hsz v n xs news hs hown H hH hx hl h1 h63 hbytes hbase λg cap w' h2 h3 h4=>hK _ _ (h g cap w' h2 h3 h4)
theorem FS(w:World)(base:Nat)(t ty e:TypeId)(z:Value)(bytes:Nat)(ht:P.underlying t=some (.slice e))(hinfo:(P.info? e).map (λi=>(i.zero,i.size,i.bytes))=some (some z,1,bytes))(hzs:z.cells.size=1)
  (v:Value) (n:Nat) (xs:List Value) (hown:w.ownsRow base e 1 v n xs) (A:Option Addr) (m c:Nat) (news:List Value) (hl:news.length=m)
  (hr:∀j u,news[j]? =some u->∃ad,A=some ad/\w.cell? (ad.add j)=some u) (h1:∀u∈news,u.oneCell'=true)
  (h63:n+m<=maxLen) (hbytes:(n+m)*bytes<=140737488355328) (hbase:base<=w.heap.size):
  ∃v' w',(Builtin.append_ #[t,t] ty #[v,.slice A m c]).run P w=.ok v' w'/\w'.ownsRow base e 1 v' (n+m) (xs++news)/\w.grownBy w' v.ownBlock/\(v'.ownBlock=v.ownBlock\/v'.ownBlock=some w.heap.size):=by
 obtain⟨i,hi,hz,hsize,hby⟩:=info_parts hinfo
 rcases A with _|ad
 .have hm:news= []:=by
   cases news with
   |nil=>rfl
   |cons u l=>obtain⟨ad,h,_⟩:=hr 0 u rfl;cases h
  subst hm;simp only[aV] at hl;subst hl;refine⟨v,w,?_,by grind,⟨rfl,rfl,rfl,aw _,λ_ _ _=>rfl⟩,Or.inl rfl⟩;rcases hown.2 with ⟨rfl,rfl⟩|⟨g,cap,cur,rfl,_,_,hnc,_⟩
  .simp[Builtin.append_,aZ ht,sizeOf,typeInfo,hi,Builtin.lenOf,Builtin.firstCells]
  .simp[Builtin.append_,aZ ht,sizeOf,typeInfo,hi,Builtin.lenOf,Builtin.firstCells,hnc,storeCells]
 .obtain⟨v',w',hrun,h2,h3,_,h5⟩:=run_append_own_at (P:=P) w base t ty e i z 1 bytes ht hi hz hsize hby hzs (by omega) v n xs hown ad m c news (by omega)
   (λj u hu=>by grind) h1 h63 hbytes hbase
  grind
theorem uW{ops:Array Oper}{rest:List Oper}{o:Oper}{a:Act}(w:World)(hgd:o.guard=none)(s x:Operand)(t e:TypeId)(ho:o.op=.call {callee:=.builtin .append,args:=#[s,x],argTypes:=#[t,t]})
  (base:Nat) (z:Value) (bytes:Nat) (ht:P.underlying t=some (.slice e)) (hinfo:(P.info? e).map (λi=>(i.zero,i.size,i.bytes))=some (some z,1,bytes)) (hzs:z.cells.size=1)
  (v:Value) (n:Nat) (xs:List Value) (hs:a.eval s=v) (hown:w.ownsRow base e 1 v n xs) (A:Option Addr) (m c:Nat) (hx:a.eval x=.slice A m c) (news:List Value) (hl:news.length=m)
  (hr:∀j u,news[j]? =some u->∃ad,A=some ad/\w.cell? (ad.add j)=some u) (h1:∀u∈news,u.oneCell'=true)
  (h63:n+m<=maxLen) (hbytes:(n+m)*bytes<=140737488355328) (hbase:base<=w.heap.size)
  (h:∀v' w',w'.ownsRow base e 1 v' (n+m) (xs++news)->w.grownBy w' v.ownBlock->(v'.ownBlock=v.ownBlock\/v'.ownBlock=some w.heap.size)->wpList P ops Q rest (a.put o.dst v') w'):
  wpList P ops Q (o :: rest) a w:=by
 refine dM hgd λK hK=>?_
 obtain⟨v',w',hrun,h2,h3,h4⟩:=FS (P:=P) w base t o.type e z bytes ht hinfo hzs v n xs hown A m c news hl hr h1 h63 hbytes hbase
 unfold Oper.wp execOp
 simp only[ho,resolve,invoke,builtin,bu,cY,bp,List.map_toArray,cn,cW,hs,hx,hrun]
 exact hK _ _ (h v' w' h2 h3 h4)
end
end
end Go.Proofs.YtchdkjenhppleaaGreat
