/-
 A range over a function,at the wide fence:one law for the caller,one word for the iterator. No program in sight.
-/
import Derived.Test.YtbknbcmppdglhaaGreatDoorA0
import Derived.RangeFuncNested
import Derived.RangeFuncRecord
import Derived.RangeFuncLeaves
import Derived.RangeFuncSeq
import Derived.RangeFuncIn
import Derived.RangeFuncOwn
import Derived.TacticsInMore
import Derived.LoopNIn
import Derived.LoopIn
import Derived.OwnWalkIn
import Derived.RangeFuncCalls
import Derived.Shelf.RegionOpen
import Derived.Test.YtbknbcmppdglhaaGreatDoorER
import Derived.Deep.Quiet
import Derived.Maps.RangeRun
import Derived.Maps.OwnSet
import Derived.Maps.RangeWalk
import Derived.Laws.Tables
import Derived.Laws.CopyOwn
import Derived.OrdersHeld
import Derived.Maps.AppendAt
import Derived.Deep.RegionHeld3
import Derived.Laws.OwnMore
import Derived.Test.YtbknbcmppdglhaaGreatDoorRows
import Derived.ChangeKeysEq
import Derived.WalkSpells
import Derived.Deep.Cut
import Derived.Deep.CutRange
import Derived.Deep.DeepCutAuto
namespace Go.Proofs.YtbknbcmppdglhaaGreatDoor
set_option linter.unusedSimpArgs false
set_option linter.unusedVariables false
set_option linter.unusedSectionVars false
set_option maxRecDepth 100000
set_option maxHeartbeats 40000000
section
open Go.RowKit
theorem iF(f:FuncId):Fence.wide.fn f=True:=rfl
theorem gH:Fence.wide.depth=none:=rfl
theorem gS(l:Nat)(f:FuncId):(Fence.wide.inRound l).fn f=True:=rfl
theorem fX(l:Nat):(Fence.wide.inRound l).depth=none:=rfl
def nH:Obj->Bool
 | .loop _=>true
 | .deferred _=>true
 |_=>false
def gC(W W':World):Prop:=∀(k:Nat) (o:Obj),W.heap[k]? =some o->nH o=true->W'.heap[k]? =some o
theorem gC.refl(W:World):gC W W:=λ_ _ h _=>h
theorem gC.trans{A B C:World}(h:gC A B)(k:gC B C):gC A C:=λi o hi ho=>k i o (h i o hi ho) ho
theorem gC.alloc(W:World)(o:Obj):gC W (W.alloc o):=λk o' hk _=>(aG W o k (au.1 hk).1).trans hk
theorem gC.drew(W:World):gC W W.drew:=λ_ _ h _=>h
theorem gC.setCell(W:World)(a:Addr)(v:Value):gC W (W.setCell a v):=λk o hk ho=>by
 by_cases e:k=a.block
 .subst e;obtain⟨hlt,hk'⟩:=au.1 hk;show(W.heap.modify a.block _)[a.block]? =some o;rw[Array.getElem?_eq_getElem (by rw[Array.size_modify];exact hlt),Array.getElem_modify_self,hk'];cases o<;>first|rfl|(simp[nH] at ho)
 .exact(aU W a v k e).trans hk
theorem gC.ext{W W':World}(h:Below W.heap.size W W'):gC W W':=λk _ hk _=>(h.block k (au.1 hk).1).trans hk
theorem gC.grown{W W':World}{row:Option Nat}(hg:W.grownBy W' row)(hrow:∀(j:Nat) (o:Obj),row=some j->W.heap[j]? =some o->nH o=false):gC W W':=
 λk o hk ho=>by
  refine(hg.block k (au.1 hk).1 ?_).trans hk;intro e;rw[hrow k o e.symm hk] at ho;cases ho
def fG(B:Nat)(J:World->Prop):Prop:=
 ∀W W' row,J W->W.grownBy W' row->(∀r,row=some r->B<=r/\∃o:Obj,W.heap[r]? =some o/\nH o=true)->J W'
theorem fG.pure(B:Nat)(p:Prop):fG B (λ_=>p):=λ_ _ _ h _ _=>h
theorem fG.and{B:Nat}{J J':World->Prop}(h:fG B J)(h':fG B J'):fG B (λW=>J W/\J' W):=
 λW W' row hj hg hr=>⟨h W W' row hj.1 hg hr,h' W W' row hj.2 hg hr⟩
theorem fG.ex{B:Nat}{α:Sort _}{J:α->World->Prop}(h:∀x,fG B (J x)):fG B (λW=>∃x,J x W):=
 λW W' row ⟨x,hj⟩ hg hr=>⟨x,h x W W' row hj hg hr⟩
theorem fG.all{B:Nat}{α:Sort _}{J:α->World->Prop}(h:∀x,fG B (J x)):fG B (λW=>∀x,J x W):=
 λW W' row hj hg hr x=>h x W W' row (hj x) hg hr
theorem fG.imp{B:Nat}{p:Prop}{J:World->Prop}(h:fG B J):fG B (λW=>p->J W):=
 λW W' row hj hg hr hp=>h W W' row (hj hp) hg hr
theorem xQ{W W':World}{row:Option Nat}{B k:Nat}{o:Obj}(hk:W.heap[k]? =some o)(ho:nH o=false)(hg:W.grownBy W' row)
  (hr:∀r,row=some r->B<=r/\∃o:Obj,W.heap[r]? =some o/\nH o=true):W'.heap[k]? =some o:=by
 refine(hg.block k (au.1 hk).1 (λe=>?_)).trans hk
 obtain⟨_,o',ho',hb⟩:=hr k e.symm
 rw[hk] at ho';cases ho';rw[ho] at hb;cases hb
theorem fG.block(B k:Nat){o:Obj}(ho:nH o=false):fG B (λW=>W.heap[k]? =some o):=λ_ _ _ h hg hr=>xQ h ho hg hr
theorem fG.cell(B:Nat)(p:Addr)(v:Value):fG B (λW=>W.cell? p=some v):=λW W' row h hg hr=>by
 have h:W.cell? p=some v:=h
 show W'.cell? p=some v
 unfold World.cell? at h|-
 cases ho:W.heap[p.block]? with
 |none=>simp[ho] at h
 |some o=>
  rw[xQ ho (by cases o<;>simp_all[nH]) hg hr];rw[ho] at h;exact h
theorem fG.below{n₀ B:Nat}{w₀:World}(hn:n₀<=w₀.heap.size)(hB:n₀<=B):fG B (λW=>Below n₀ w₀ W):=
 λ_ _ _ hs hg hr=>hs.grown hg (aT hn hs.size) (λk e=>aT hB (hr k e).1)
theorem fG.keep(B:Nat)(w₀:World)(hB:w₀.heap.size<=B):fG B (λW=>gC w₀ W):=
 λW W' row h hg hr k o hk ho=>by
  have h1:=h k o hk ho;refine(hg.block k (au.1 h1).1 (λe=>?_)).trans h1;have:=(hr k e.symm).1;have:=(au.1 hk).1;omega
theorem fG.ownsRow(B:Nat)(base:Nat)(e:TypeId)(size:Nat)(v:Value)(n:Nat)(xs:List Value):fG B (λW=>W.ownsRow base e size v n xs):=
 λW W' row h hg hr=>by
  refine⟨h.1,?_⟩;rcases h.2 with h2|⟨g,cap,cur,hv,hb,hh,r⟩
  .exact Or.inl h2
  .exact Or.inr ⟨g,cap,cur,hv,hb,xQ hh rfl hg hr,r⟩
theorem fG.ext{B:Nat}{J:World->Prop}(h:fG B J){W W':World}(hj:J W)(hb:Below W.heap.size W W'):J W':=
 h W W' none hj ⟨hb.os,hb.tape,hb.output,hb.size,λk hk _=>hb.block k hk⟩ (λr e=>by cases e)
theorem fG.put{B:Nat}{J:World->Prop}(h:fG B J){W:World}{l:Nat}{o:Obj}(o':Obj)(hj:J W)(hl:B<=l)(ho:W.heap[l]? =some o)(hb:nH o=true):J (W.putObj l o'):=
 h W _ (some l) hj (dJ W l o') (λr e=>by cases e;exact⟨hl,o,ho,hb⟩)
def iQ(JN:World->Prop)(JX:Code->World->Prop):Exit->Act->World->Prop
 | .normal,_,W=>JN W
 | .ret,_,W=>JX .ret W
 | .exit id,_,W=>JX (.exit id) W
 | .goto t,_,W=>JX (.goto t) W
 | .panic _,_,_=>False
 | .outgrown,_,_=>False
def m0{σ α:Type}(P:Program)(gf:Nat)(lb:Array Value)(enc:α->Array Value)(ok:σ->α->Prop)(nx:σ->α->σ)(s0:σ)(Fin:σ->Prop)(Inv:σ->World->Prop):Prop:=
 ∀(l:Nat) (K:σ->World->Prop) (Kx:World->Prop) (W:World),
  (∀s W W',K s W->Below W.heap.size W W'->K s W')->(∀W W',Kx W->Below W.heap.size W W'->Kx W')->(∀s W,K s W->Inv s W)->
  (∀s x W,ok s x->K s W->YieldAt Fence.wide 0 P l (enc x) W λe W'=>(e=.returned (.bool true)/\K (nx s x) W')\/(e=.returned (.bool false)/\Kx W'))->
  K s0 W->CallsIn Fence.wide 0 P gf (#[.func (.yield l) #[] #[]]++lb) W λe W'=>(∃v,e=.returned v)/\((∃s,Fin s/\K s W')\/Kx W')
theorem mK{n n':World->Prop}{x x':Code->World->Prop}(h:∀W,n W->n' W)(k:∀c W,x c W->x' c W):∀(e:Exit) (a:Act) (W:World),iQ n x e a W->iQ n' x' e a W:=by
 intro e a W hp
 cases e with
 |normal=>exact h W hp
 |ret=>exact k _ W hp
 |exit id=>exact k _ W hp
 |goto t=>exact k _ W hp
 |panic ch=>exact hp
 |outgrown=>exact hp
def JD(fn:FuncId)(a:Act)(ps:Array Tmp)(assign body:Code)(df:Nat)(st:LoopState)(pe:Option Code):Loop:={state:=st,pending:=pe,fn,tmps:=a.tmps,params:=ps,assign,body,defers:=df}
def LO(R:LoopState->Option Code->Loop)(n:Nat)(st:LoopState)(pe:Option Code)(W:World):Prop:=W.heap[n]? =some (.loop (R st pe))
def LD(R:LoopState->Option Code->Loop)(n:Nat)(st:LoopState)(pe:Option Code)(W:World):Prop:=LO R (n+1) st pe W/\W.heap[n]? =some (.deferred (some []))
section
variable {P:Program} {σ α:Type} {g:Operand} {ps:Array Tmp} {assign body:Code} {Q:Exit->Act->World->Prop} {a:Act} {w:World} {gf:Nat} {lb:Array Value}
theorem kh{W W':World}{k:Nat}{o:Obj}(hk:W.heap[k]? =some o)(hb:Below W.heap.size W W'):W'.heap[k]? =some o:=(hb.block _ (au.1 hk).1).trans hk
theorem QH{W W':World}{k m:Nat}{o:Obj}{X:Nat->Prop}{row:Option Nat}(hk:W.heap[k]? =some o)(hg:W.grownBy W' row)(hr:∀q,row=some q->m<=q/\X q)(hm:k<m):W'.heap[k]? =some o:=
 (hg.block _ (au.1 hk).1 λe=>by obtain⟨h,_⟩:=hr _ e.symm;omega).trans hk
section
variable {R:LoopState->Option Code->Loop} {n:Nat} {st st':LoopState} {pe pe':Option Code} {W W':World}
theorem LO.lt(h:LO R n st pe W):n<W.heap.size:=(au.1 h).1
theorem LO.put(h:LO R n st pe W):LO R n st' pe' (W.putObj n (.loop (R st' pe'))):=dc h.lt
theorem LD.put(h:LD R n st pe W):LD R n st' pe' (W.putObj (n+1) (.loop (R st' pe'))):=⟨LO.put h.1,(bo (by omega)).trans h.2⟩
theorem LD.ext(h:LD R n st pe W)(hb:Below W.heap.size W W'):LD R n st pe W':=⟨kh h.1 hb,kh h.2 hb⟩
theorem LD.keep(h:LD R n st pe W)(hk:gC W W'):LD R n st pe W':=⟨hk _ _ h.1 rfl,hk _ _ h.2 rfl⟩
theorem LD.grown{row:Option Nat}{X:Nat->Prop}(h:LD R n st pe W)(hg:W.grownBy W' row)(hr:∀q,row=some q->n+1+1<=q/\X q):LD R n st pe W':=⟨QH h.1 hg hr (by omega),QH h.2 hg hr (by omega)⟩
end
abbrev ZF(P:Program)(ps:Array Tmp)(assign body:Code)(a:Act)(L:Nat)(R:LoopState->Option Code->Loop):Prop:=
 ∀{W:World} {xs:Array Value} {A:Act->World->Prop} {S:Ending->World->Prop},LO R L .ready none W->xs.size=ps.size->
  assign.wpIn (Fence.wide.inRound L) 0 P (Exit.then A (λ_ _ _=>False)) {tmps:=(ps.zip xs).foldl (λt (p,v)=>t.setIfInBounds p v) a.tmps,defers:= []} W->
  (∀a1 V,A a1 V->LO R L .ready none V/\(LO R L .busy none (V.putObj L (.loop (R .busy none)))->
    body.wpIn (Fence.wide.inRound L) 0 P (iQ (λW3=>LO R L .busy none W3/\S (.returned (.bool true)) (W3.putObj L (.loop (R .ready none)))) (λc W3=>LO R L .busy none W3/\S (.returned (.bool false)) (W3.putObj L (.loop (R .done (some c)))))) a1 (V.putObj L (.loop (R .busy none)))))->
  YieldAt Fence.wide 0 P L xs W S
theorem KN{fn:FuncId}(hfn:Fence.wide.fn fn)(df L:Nat):ZF P ps assign body a L (JD fn a ps assign body df):=by
 intro W xs A S hl hps h1 h2
 have hy:=run_yield (P:=P) (args:=xs) hl hps
 refine⟨fn,_,assign,body,hy,roundIn_of_wpIn hfn (cD h1 ?_)⟩
 rintro e a1 V hp
 cases e with
 |normal=>
  obtain⟨hlV,hb⟩:=h2 a1 V hp;refine⟨_,run_beginRound hlV rfl,?_⟩;refine cD (hb (LO.put hlV)) ?_;rintro e a3 W3 hp;cases e with
  |normal=>exact⟨_,_,run_endRound (P:=P) none hp.1,hp.2⟩
  |ret=>exact⟨_,_,run_endRound (P:=P) (some .ret) hp.1,hp.2⟩
  |exit id=>exact⟨_,_,run_endRound (P:=P) (some (.exit id)) hp.1,hp.2⟩
  |goto t=>exact⟨_,_,run_endRound (P:=P) (some (.goto t)) hp.1,hp.2⟩
  |panic ch=>exact hp.elim
  |outgrown=>exact hp.elim
 |_=>exact hp.elim
theorem sD(hg:a.eval g=.func (.func gf) #[] lb)(eg:∀args w,(callFunc gf args).run P w=.ok (.enter gf args) w)
  (h:∀(R:LoopState->Option Code->Loop) (W1:World),Below w.heap.size w W1->W1.heap.size=w.heap.size+1+1->LD R w.heap.size .ready none W1->ZF P ps assign body a (w.heap.size+1) R->
    CallsIn Fence.wide 0 P gf (#[.func (.yield (w.heap.size+1)) #[] #[]]++lb) W1 λe W2=>(∃v,e=.returned v)/\
     ((LO R (w.heap.size+1) .ready none W2/\∀o,Q .normal {a with defers:={target:=.collected w.heap.size,args:=#[]} :: a.defers} (W2.putObj (w.heap.size+1) o))\/
      ∃c,LO R (w.heap.size+1) .done (some c) W2/\∀o,c.wpIn Fence.wide 0 P Q {a with defers:={target:=.collected w.heap.size,args:=#[]} :: a.defers} (W2.putObj (w.heap.size+1) o))):
  (Code.rangeFunc g ps assign body).wpIn Fence.wide 0 P Q a w:=by
 refine wpIn_rangeFunc ?_
 intro fn hfn
 let R:=JD fn a ps assign body w.heap.size
 let W1:=(w.alloc (.deferred (some []))).alloc (.loop (R .ready none))
 refine⟨w.heap.size+1,[{target:=.collected w.heap.size,args:=#[]}],W1,{target:=.fn (.func gf) lb,args:=#[.func (.yield (w.heap.size+1)) #[] #[]]},W1,gf,
  #[.func (.yield (w.heap.size+1)) #[] #[]]++lb,W1,run_enterLoop_outer _ _ _ _ _,?_,?_,?_,λh=>by simp[Fence.wide] at h,?_⟩
 .simp only[resolve,hg];simp[go_sem]
 .intro f' hf';trivial
 .simp[invoke,go_sem,eg]
 .refine(h R W1 (((ag _ w).alloc (aj _) _).alloc (by simp) _) (by simp[W1]) ⟨?_,((aG _ _ _ (by simp)).trans (dO w _))⟩ (KN hfn _ _)).mono ?_
  .have:=dO (w.alloc (.deferred (some []))) (.loop (R .ready none));rwa [dV] at this
  .rintro e W2 ⟨⟨v,rfl⟩,(⟨hl,h⟩|⟨c,hl,h⟩)⟩
   .exact⟨none,_,run_endLoop (P:=P) hl (by simp[R,JD]),h _⟩
   .exact⟨some c,_,run_endLoop (P:=P) hl (by simp[R,JD]),h _⟩
theorem GG{l0:Nat}{r0:Loop}(hl0:w.heap[l0]? =some (.loop r0))(hg:a.eval g=.func (.func gf) #[] lb)(eg:∀args w,(callFunc gf args).run P w=.ok (.enter gf args) w)
  (h:∀(R:LoopState->Option Code->Loop) (W1:World),Below w.heap.size w W1->W1.heap.size=w.heap.size+1->LO R w.heap.size .ready none W1->ZF P ps assign body a w.heap.size R->
    CallsIn Fence.wide 0 P gf (#[.func (.yield w.heap.size) #[] #[]]++lb) W1 λe W2=>(∃v,e=.returned v)/\
     ((LO R w.heap.size .ready none W2/\∀o,Q .normal a (W2.putObj w.heap.size o))\/
      ∃c,LO R w.heap.size .done (some c) W2/\∀o,c.wpIn (Fence.wide.inRound l0) 0 P Q a (W2.putObj w.heap.size o))):
  (Code.rangeFunc g ps assign body).wpIn (Fence.wide.inRound l0) 0 P Q a w:=by
 refine wpIn_rangeFunc ?_
 intro fn hfn
 let R:=JD fn a ps assign body r0.defers
 let W1:=w.alloc (.loop (R .ready none))
 refine⟨w.heap.size,[],W1,{target:=.fn (.func gf) lb,args:=#[.func (.yield w.heap.size) #[] #[]]},W1,gf,
  #[.func (.yield w.heap.size) #[] #[]]++lb,W1,run_enterLoop_inner hl0 _ _ _ _ _,?_,?_,?_,λh=>by simp[Fence.wide] at h,?_⟩
 .simp only[resolve,hg];simp[go_sem]
 .intro f' hf';trivial
 .simp[invoke,go_sem,eg]
 .refine CallsIn.mono (h R W1 ((ag _ w).alloc (aj _) _) (by simp[W1]) (dO w _) (KN hfn _ _)) ?_;rintro e W2 ⟨⟨v,rfl⟩,(⟨hl,h⟩|⟨c,hl,h⟩)⟩
  .exact⟨none,_,run_endLoop (P:=P) hl (by simp[R,JD]),h _⟩
  .exact⟨some c,_,run_endLoop (P:=P) hl (by simp[R,JD]),h _⟩
theorem xR
  (hg:a.eval g=.func (.func gf) #[] lb) (eg:∀args w,(callFunc gf args).run P w=.ok (.enter gf args) w)
  {enc:α->Array Value} {ok:σ->α->Prop} {nx:σ->α->σ} {s0:σ} {Fin:σ->Prop} {Inv:σ->World->Prop} (hit:m0 P gf lb enc ok nx s0 Fin Inv)
  (hps:∀x,(enc x).size=ps.size)
  (J:σ->World->Prop) (Jx:Code->World->Prop) (A:σ->α->Act->World->Prop)
  (hJ:∀s,fG w.heap.size (J s)) (hJx:∀c,fG w.heap.size (Jx c)) (hA:∀s x a,fG w.heap.size (A s x a)) (hInv:∀s W,J s W->Inv s W)
  (h0:J s0 w)
  (hassign:∀(l:Nat) (s:σ) (x:α) (W:World),ok s x->J s W->
    assign.wpIn (Fence.wide.inRound l) 0 P (Exit.then (λa1 W1=>gC W W1/\J s W1/\A s x a1 W1) (λ_ _ _=>False)) {tmps:=(ps.zip (enc x)).foldl (λt (p,v)=>t.setIfInBounds p v) a.tmps,defers:= []} W)
  (hbody:∀(l:Nat) (s:σ) (x:α) (a1:Act) (W:World),w.heap.size<=l->(∃r,W.heap[l]? =some (.loop r))->ok s x->J s W->A s x a1 W->
    body.wpIn (Fence.wide.inRound l) 0 P (iQ (λW'=>gC W W'/\J (nx s x) W') (λc W'=>gC W W'/\Jx c W')) a1 W)
  (hdone:∀(D:Nat) (s:σ) (W:World),w.heap.size<=D->Fin s->J s W->W.heap[D]? =some (.deferred (some []))->Q .normal {a with defers:={target:=.collected D,args:=#[]} :: a.defers} W)
  (hstop:∀(D:Nat) (c:Code) (W:World),w.heap.size<=D->Jx c W->W.heap[D]? =some (.deferred (some []))->c.wpIn Fence.wide 0 P Q {a with defers:={target:=.collected D,args:=#[]} :: a.defers} W):
  (Code.rangeFunc g ps assign body).wpIn Fence.wide 0 P Q a w:=by
 refine sD hg eg λR W1 hb1 _ h1 hy=>(hit (w.heap.size+1) (λs W=>J s W/\LD R w.heap.size .ready none W) (λW=>∃c,Jx c W/\LD R w.heap.size .done (some c) W) W1
  (λs A B h hb=>⟨(hJ s).ext h.1 hb,h.2.ext hb⟩) (λA B ⟨c,h1,h2⟩ hb=>⟨c,(hJx c).ext h1 hb,h2.ext hb⟩) (λs W h=>hInv s W h.1)
  (λs x W hok ⟨hi,hl⟩=>hy hl.1 (hps x) (hassign _ s x W hok hi) λa1 V ⟨hkp,hiV,hAV⟩=>
    have lV:LD _ _ _ _ _:=hl.keep hkp
    ⟨lV.1,λl2=>cD (hbody _ s x a1 _ (by omega) ⟨_,l2⟩ hok ((hJ s).put _ hiV (by omega) lV.1 rfl) ((hA s x a1).put _ hAV (by omega) lV.1 rfl))
     (mK (λW3 ⟨hk3,hi3⟩=>have l3:LD _ _ _ _ _:=(LD.put lV).keep hk3;⟨l3.1,.inl ⟨rfl,(hJ _).put _ hi3 (by omega) l3.1 rfl,l3.put⟩⟩)
       λc W3 ⟨hk3,hi3⟩=>have l3:LD _ _ _ _ _:=(LD.put lV).keep hk3;⟨l3.1,.inr ⟨rfl,c,(hJx c).put _ hi3 (by omega) l3.1 rfl,l3.put⟩⟩)⟩)
  ⟨(hJ s0).ext h0 hb1,h1⟩).mono ?_
 rintro e W2 ⟨hv,(⟨s,hS,hi,hl⟩|⟨c,hi,hl⟩)⟩
 .exact⟨hv,.inl ⟨hl.1,λo=>hdone _ s _ (aj _) hS ((hJ s).put _ hi (by omega) hl.1 rfl) ((bo (by omega)).trans hl.2)⟩⟩
 .exact⟨hv,.inr ⟨c,hl.1,λo=>hstop _ c _ (aj _) ((hJx c).put _ hi (by omega) hl.1 rfl) ((bo (by omega)).trans hl.2)⟩⟩
theorem XB
  (hg:a.eval g=.func (.func gf) #[] lb) (eg:∀args w,(callFunc gf args).run P w=.ok (.enter gf args) w)
  {enc:α->Array Value} {ok:σ->α->Prop} {nx:σ->α->σ} {s0:σ} {Fin:σ->Prop} {Inv:σ->World->Prop} (hit:m0 P gf lb enc ok nx s0 Fin Inv)
  (hps:∀x,(enc x).size=ps.size)
  (J:σ->World->Prop) (Jx:Code->World->Prop) (A:σ->α->Act->World->Prop)
  (hJ:∀s,fG w.heap.size (J s)) (hJx:∀c,fG w.heap.size (Jx c)) (hA:∀s x a,fG w.heap.size (A s x a)) (hInv:∀s W,J s W->Inv s W)
  (h0:J s0 w)
  (hassign:∀(l:Nat) (s:σ) (x:α) (W:World),ok s x->J s W->
    assign.wpIn (Fence.wide.inRound l) 0 P (Exit.then (λa1 W1=>gC W W1/\J s W1/\A s x a1 W1) (λ_ _ _=>False)) {tmps:=(ps.zip (enc x)).foldl (λt (p,v)=>t.setIfInBounds p v) a.tmps,defers:= []} W)
  (hbody:∀(l:Nat) (s:σ) (x:α) (a1:Act) (W:World),ok s x->J s W->A s x a1 W->
    body.wpIn (Fence.wide.inRound l) 0 P (iQ (λW'=>gC W W'/\J (nx s x) W') (λc W'=>gC W W'/\Jx c W')) a1 W)
  (hdone:∀(D:Nat) (s:σ) (W:World),w.heap.size<=D->Fin s->J s W->W.heap[D]? =some (.deferred (some []))->Q .normal {a with defers:={target:=.collected D,args:=#[]} :: a.defers} W)
  (hstop:∀(D:Nat) (c:Code) (W:World),w.heap.size<=D->Jx c W->W.heap[D]? =some (.deferred (some []))->c.wpIn Fence.wide 0 P Q {a with defers:={target:=.collected D,args:=#[]} :: a.defers} W):
  (Code.rangeFunc g ps assign body).wpIn Fence.wide 0 P Q a w:=
 xR hg eg hit hps J Jx A hJ hJx hA hInv h0 hassign (λl s x a1 W _ _=>hbody l s x a1 W) hdone hstop
end
end

section
open Go.RowKit
def rL(o:Oper):Bool:=match o.op with| .defer _=>false|_=>true
theorem OD{n:Nat}{P:Program}{row:String}{args:Array Value}{w:World}{R:Value->World->Prop}(l:Nat)(h:Rows P row args w R):RowsIn (Fence.wide.inRound l) n P row args w R:=
 λc cs _=>let ⟨v,w',r,s⟩:=h c cs;⟨v,w',r,stepsIn_wide.2 s⟩
theorem xI{P:Program}{ops:Array Oper}{Q:Exit->Act->World->Prop}(l:Nat)(hn:∀(i:Nat) (o:Oper),ops[i]? =some o->rL o=true)(hQ:¬LetsOut Q):
  ∀(order:List Nat) (a:Act) (w:World),wpOps P ops Q order a w->wpOpsIn (Fence.wide.inRound l) 0 P ops Q order a w:=by
 intro order
 induction order with
 |nil=>intro a w h;exact h
 |cons i rest ih=>
  intro a w h;simp only[wpOps,wpOpsIn] at h|-;cases ho:ops[i]? with
  |none=>simp only[ho] at h|-;exact ih a w h
  |some o=>
   simp only[ho] at h|-;by_cases hw:Region.wanted o (yielded ops a.tmps)=true
   .simp only[hw,if_true] at h|-;rcases h with h|⟨_,h⟩
    .refine⟨λ_ _=>trivial,?_⟩;have hs:Oper.semAt (Fence.wide.inRound l).round a.eval o=execOp a.eval o:=Oper.semAt_some l _ _ (λc hc=>by have:=hn i o ho;simp[rL,hc] at this);rw[hs];unfold Oper.wp at h;generalize (execOp a.eval o).run P w=r at h;cases r with
     |ok nx w'=>
      cases nx<;>simp only[Oper.upon,Oper.uponIn] at h|-<;>first
       |exact ih _ _ h
       |exact⟨λhh=>by simp[Fence.wide,Fence.inRound] at hh,(eG l (bu.2 (h.mono (λe w'' he=>by cases e<;>first|exact ih _ _ he|exact he))))⟩
       |exact⟨λhh=>by simp[Fence.wide,Fence.inRound] at hh,OD l (h.mono (λv w'' hv=>ih _ _ hv))⟩
       |exact h.elim
     |halt x w'=>cases x<;>simp only[Oper.upon,Oper.uponIn] at h|-<;>exact h
    .exact absurd h hQ
   .simp only[hw] at h|-;exact⟨λ_ _=>trivial,ih _ _ h⟩
theorem iK{K:Act->World->Prop}{Q:Exit->Act->World->Prop}(h:¬LetsOut Q):¬LetsOut (Exit.then K Q):=h
theorem hU{id:Nat}{Q:Exit->Act->World->Prop}(h:¬LetsOut Q):¬LetsOut (Exit.inBlock id Q):=h
theorem gZ{JN:World->Prop}{JX:Code->World->Prop}:¬LetsOut (iQ JN JX):=λ⟨_,_,h⟩=>h
end

section
open Go.RowKit
def okL{α:Type}(s:List α)(x:α):Prop:=s.head? =some x
def nxL{α:Type}(s:List α)(_:α):List α:=s.tail
def sf{α:Type}(s:List α):Prop:=s= []
theorem lL{α:Type}{s:List α}{x:α}(h:okL s x):s=x :: nxL s x:=by
 cases s with
 |nil=>cases h
 |cons y l=>injection h with h;subst h;rfl
def uU{α:Type}(P:Program)(gf:Nat)(lb:Array Value)(enc:α->Array Value)(l:List α)(I:World->Prop):Prop:=
 m0 P gf lb enc okL nxL l sf (λ_ W=>I W)
theorem uU.mono{α:Type}{P:Program}{gf:Nat}{lb:Array Value}{enc:α->Array Value}{l:List α}{I I':World->Prop}(h:uU P gf lb enc l I)(hi:∀W,I' W->I W):uU P gf lb enc l I':=
 λlp K Kx W hK hKx hInv hY h0=>h lp K Kx W hK hKx (λs W hs=>hi W (hInv s W hs)) hY h0
def su{α:Type}(P:Program)(gf:Nat)(lb:Array Value)(enc:α->Array Value)(l:List α)(w:World):Prop:=
 m0 P gf lb enc okL nxL l sf (λ_ W=>Below w.heap.size w W)
theorem oM{P:Program}{ops:Array Oper}{Q:Exit->Act->World->Prop}{l:Nat}(hQ:¬LetsOut Q):
  ∀(rest:List Oper) (a:Act) (w:World),rest.all rL=true->wpList P ops Q rest a w->wpListIn (Fence.wide.inRound l) 0 P ops Q rest a w:=by
 intro rest
 induction rest with
 |nil=>intro a w _ h;exact h
 |cons o rest ih=>
  intro a w hn h;rw[List.all_cons,aB] at hn;simp only[wpList,wpListIn] at h|-;by_cases hw:Region.wanted o (yielded ops a.tmps)=true
  .simp only[hw,if_true] at h|-;rcases h with h|⟨_,h⟩
   .refine⟨λ_ _=>trivial,?_⟩;have hs:Oper.semAt (Fence.wide.inRound l).round a.eval o=execOp a.eval o:=Oper.semAt_some l _ _ (λc hc=>by grind[rL]);rw[hs];unfold Oper.wp at h;generalize (execOp a.eval o).run P w=r at h;cases r with
    |ok nx w'=>
     cases nx<;>simp only[Oper.upon,Oper.uponIn] at h|-<;>first
      |exact ih _ _ hn.2 h
      |exact⟨λhh=>by trivial,(eG l (bu.2 (h.mono (λe w'' he=>by grind))))⟩
      |exact⟨λhh=>by trivial,OD l (h.mono (λv w'' hv=>ih _ _ hn.2 hv))⟩
      |exact h.elim
    |halt x w'=>cases x<;>simp only[Oper.upon,Oper.uponIn] at h|-<;>exact h
   .exact absurd h hQ
  .simp only[hw] at h|-;exact⟨λ_ _=>trivial,ih _ _ hn.2 h⟩
theorem rP{P:Program}{id:Nat}{Q:Exit->Act->World->Prop}{a:Act}{w:World}{ol:List Oper}(hm:P.follows .mixedOrders=true)(hB:Region.lexB .any ol.toArray=true)
  (h:wpQuiet P ol.toArray (λw'=>∃n,w'=w.drewN n) (λa'=>∀w',(∃n,w'=w.drewN n)->Q .normal a' w') ol a):(Code.region id ol.toArray true).wpIn Fence.wide 0 P Q a w:=
 dy.2 (wp_region_quiet_lit hm hB h)
theorem sC{P:Program}{α:Type}{g:Operand}{ps:Array Tmp}{assign body:Code}{Q:Exit->Act->World->Prop}{a:Act}{w:World}{gf:Nat}{lb:Array Value}
  (hg:a.eval g=.func (.func gf) #[] lb) (eg:∀args w,(callFunc gf args).run P w=.ok (.enter gf args) w)
  {enc:α->Array Value} {l:List α} (I:World->Prop) (hit:uU P gf lb enc l I) (hps:∀x,(enc x).size=ps.size)
  (J:List α->List α->World->Prop) (Jx:Code->World->Prop)
  (hJ:∀d r,fG w.heap.size (J d r)) (hJx:∀c,fG w.heap.size (Jx c)) (hInv:∀d r W,J d r W->I W)
  (h0:J [] l w)
  (hround:∀(lp:Nat) (d:List α) (x:α) (r:List α) (W:World),l=d++x :: r->J d (x :: r) W->
    assign.wpIn (Fence.wide.inRound lp) 0 P (Exit.then (λa1 W1=>gC W W1/\J d (x :: r) W1/\∀(lp:Nat) (W2:World),J d (x :: r) W2->
     body.wpIn (Fence.wide.inRound lp) 0 P (iQ (λW'=>gC W2 W'/\J (d++ [x]) r W') (λc W'=>gC W2 W'/\Jx c W')) a1 W2) (λ_ _ _=>False)) {tmps:=(ps.zip (enc x)).foldl (λt (p,v)=>t.setIfInBounds p v) a.tmps,defers:= []} W)
  (hdone:∀(D:Nat) (W:World),w.heap.size<=D->J l [] W->W.heap[D]? =some (.deferred (some []))->Q .normal {a with defers:={target:=.collected D,args:=#[]} :: a.defers} W)
  (hstop:∀(D:Nat) (c:Code) (W:World),w.heap.size<=D->Jx c W->W.heap[D]? =some (.deferred (some []))->c.wpIn Fence.wide 0 P Q {a with defers:={target:=.collected D,args:=#[]} :: a.defers} W):
  (Code.rangeFunc g ps assign body).wpIn Fence.wide 0 P Q a w:=by
 refine XB (enc:=enc) hg eg hit hps (λs W=>∃d,l=d++s/\J d s W) Jx
  (λs x a1 _=>∀(d:List α) (lp:Nat) (W2:World),l=d++s->J d s W2->body.wpIn (Fence.wide.inRound lp) 0 P (iQ (λW'=>gC W2 W'/\J (d++ [x]) (nxL s x) W') (λc W'=>gC W2 W'/\Jx c W')) a1 W2)
  (λs=>fG.ex λd=>(fG.pure _ _).and (hJ d s)) hJx (λ_ _ _=>fG.pure _ _) (λs W ⟨d,_,h⟩=>hInv d s W h) ⟨[],rfl,h0⟩ ?_ ?_ ?_ hstop
 .rintro lp s x W hok ⟨d,hd,hj⟩;have hs:=lL hok;generalize nxL s x=r at hs|-;subst hs;refine cD (hround lp d x r W hd hj) ?_;rintro e a1 W1 he;cases e with
  |normal=>
   obtain⟨h1,h2,h3⟩:=he;refine⟨h1,⟨d,hd,h2⟩,λd' lp' W2 hd' hj'=>?_⟩;have:d'=d:=by
    have:=hd'.symm.trans hd;exact cW this
   subst this;exact h3 lp' W2 hj'
  |_=>exact he.elim
 .rintro lp s x a1 W hok ⟨d,hd,hj⟩ hA;refine cD (hA d lp W hd hj) ?_;rintro e a3 W3 he;cases e with
  |normal=>
   refine⟨he.1,d++ [x],?_,he.2⟩;rw[hd,cd]
   congr 1
   exact lL hok
  |ret=>exact he
  |exit id=>exact he
  |goto t=>exact he
  |panic ch=>exact he.elim
  |outgrown=>exact he.elim
 .rintro D s W hD hf ⟨d,hd,hj⟩ hk;subst hf;rw[ct] at hd;subst hd;exact hdone D W hD hj hk
end

section
open Go.RowKit
def Tch(T:World->Nat->Prop)(W W':World):Prop:=
 W.heap.size<=W'.heap.size/\(∀k,k<W.heap.size->¬T W k->W'.heap[k]? =W.heap[k]?)/\∀k,T W' k->T W k\/W.heap.size<=k
theorem Tch.refl(T:World->Nat->Prop)(W:World):Tch T W W:=⟨aj _,λ_ _ _=>rfl,λ_ h=>.inl h⟩
theorem lN(W:World)(l:Nat)(o:Obj):W.grownBy (W.putObj l o) (some l):=
 ⟨rfl,rfl,rfl,by simp,λk _ hne=>bo (λe=>hne (by rw[e]))⟩
theorem wP{T:World->Nat->Prop}{D:Nat->Prop}{W V W3:World}{L:Nat}{o o':Obj}(hD:D L)(h1:Tch T W V)(h3:Tch T (V.putObj L o) W3)(t1:∀k,T (V.putObj L o) k->T V k)(t2:∀k,T (W3.putObj L o') k->T W3 k):
  Tch (λW k=>T W k\/D k) W (W3.putObj L o'):=by
 obtain⟨s1,a1,b1⟩:=h1
 obtain⟨s3,a3,b3⟩:=h3
 rw[World.putObj_size] at s3 a3 b3
 refine⟨by grind[World.putObj_size],λk hk hn=>?_,λk hk=>?_⟩
 .grind[World.putObj_heap_other]
 grind
theorem OQ{T:World->Nat->Prop}{D:Nat->Prop}{W V W3:World}{L:Nat}{o o':Obj}(hD:D L)(h1:Tch T W V)(h3:∀k,k<(V.putObj L o).heap.size->¬T (V.putObj L o) k->W3.heap[k]? =(V.putObj L o).heap[k]?)(t1:∀k,T (V.putObj L o) k->T V k):
  ∀k,k<W.heap.size->¬(T W k\/D k)->(W3.putObj L o').heap[k]? =W.heap[k]?:=λk hk hn=>by
 obtain⟨s1,a1,b1⟩:=h1
 grind[World.putObj_heap_other]
theorem xf{W W':World}(hb:Below W.heap.size W W'):W.grownBy W' none:=⟨hb.os,hb.tape,hb.output,hb.size,λk hk _=>hb.block k hk⟩
def Bk{σ α:Type}(P:Program)(gf:Nat)(lb:Array Value)(enc:α->Array Value)(ok:σ->α->Prop)(nx:σ->α->σ)(s0:σ)(Fin:σ->Prop)(Inv:σ->World->Prop):Prop:=
 ∀(l:Nat) (K:σ->World->Prop) (Kx:World->Prop) (T:World->Nat->Prop) (W:World),
  (∀s W W',K s W->Below W.heap.size W W'->K s W')->(∀W W',Kx W->Below W.heap.size W W'->Kx W')->(∀s W,K s W->Inv s W)->
  (∀s W k,K s W->T W k->k<W.heap.size)->(∀s W W' k,K s W->Below W.heap.size W W'->T W' k->T W k)->
  (∀s x W,ok s x->K s W->YieldAt Fence.wide 0 P l (enc x) W λe W'=>(e=.returned (.bool true)/\K (nx s x) W'/\Tch T W W')\/(e=.returned (.bool false)/\Kx W'))->
  K s0 W->CallsIn Fence.wide 0 P gf (#[.func (.yield l) #[] #[]]++lb) W λe W'=>(∃v,e=.returned v)/\((∃s,Fin s/\K s W')\/Kx W')
theorem SD{P:Program}{σ α:Type}{g:Operand}{ps:Array Tmp}{assign body:Code}{Q:Exit->Act->World->Prop}{a:Act}{w:World}{gf:Nat}{lb:Array Value}
  (hg:a.eval g=.func (.func gf) #[] lb) (eg:∀args w,(callFunc gf args).run P w=.ok (.enter gf args) w)
  {enc:α->Array Value} {ok:σ->α->Prop} {nx:σ->α->σ} {s0:σ} {Fin:σ->Prop} {Inv:σ->World->Prop} (hit:Bk P gf lb enc ok nx s0 Fin Inv)
  (hps:∀x,(enc x).size=ps.size)
  (J:σ->World->Prop) (Jx:Code->World->Prop) (A:σ->α->Act->World->Prop)
  (hJ:∀s,fG w.heap.size (J s)) (hJx:∀c,fG w.heap.size (Jx c)) (hA:∀s x a,fG w.heap.size (A s x a)) (hInv:∀s W,J s W->Inv s W)
  (T:World->Nat->Prop) (hT0:∀s W k,J s W->T W k->k<W.heap.size) (hTg:∀W W' row,W.grownBy W' row->(∀r,row=some r->w.heap.size<=r/\∃o:Obj,W.heap[r]? =some o/\nH o=true)->(∃s,J s W)->∀k,T W' k->T W k)
  (h0:J s0 w)
  (hassign:∀(l:Nat) (s:σ) (x:α) (W:World),ok s x->J s W->
    assign.wpIn (Fence.wide.inRound l) 0 P (Exit.then (λa1 W1=>gC W W1/\J s W1/\A s x a1 W1/\Tch T W W1) (λ_ _ _=>False)) {tmps:=(ps.zip (enc x)).foldl (λt (p,v)=>t.setIfInBounds p v) a.tmps,defers:= []} W)
  (hbody:∀(l:Nat) (s:σ) (x:α) (a1:Act) (W:World),ok s x->J s W->A s x a1 W->
    body.wpIn (Fence.wide.inRound l) 0 P (iQ (λW'=>gC W W'/\J (nx s x) W'/\Tch T W W') (λc W'=>gC W W'/\Jx c W')) a1 W)
  (hdone:∀(D:Nat) (s:σ) (W:World),w.heap.size<=D->Fin s->J s W->W.heap[D]? =some (.deferred (some []))->Q .normal {a with defers:={target:=.collected D,args:=#[]} :: a.defers} W)
  (hstop:∀(D:Nat) (c:Code) (W:World),w.heap.size<=D->Jx c W->W.heap[D]? =some (.deferred (some []))->c.wpIn Fence.wide 0 P Q {a with defers:={target:=.collected D,args:=#[]} :: a.defers} W):
  (Code.rangeFunc g ps assign body).wpIn Fence.wide 0 P Q a w:=by
 refine sD hg eg λR W1 hb1 _ h1 hy=>(hit (w.heap.size+1) (λs W=>J s W/\LD R w.heap.size .ready none W) (λW=>∃c,Jx c W/\LD R w.heap.size .done (some c) W) (λW k=>T W k\/k=w.heap.size+1\/k=w.heap.size) W1
  (λs A B h hb=>⟨(hJ s).ext h.1 hb,h.2.ext hb⟩) (λA B ⟨c,h1,h2⟩ hb=>⟨c,(hJx c).ext h1 hb,h2.ext hb⟩) (λs W h=>hInv s W h.1)
  (λs W k h ht=>ht.elim (hT0 s W k h.1) λe=>e.elim (λe=>e▸h.2.1.lt) λe=>e▸(au.1 h.2.2).1)
  (λs A B k h hb ht=>ht.imp (hTg A B none (xf hb) (λr hr=>by grind) ⟨s,h.1⟩ k) id)
  (λs x W hok ⟨hi,hl⟩=>hy hl.1 (hps x) (hassign _ s x W hok hi) λa1 V ⟨hkp,hiV,hAV,hTV⟩=>
    have lV:LD _ _ _ _ _:=hl.keep hkp;have t1:=hTg _ _ _ (lN V (w.heap.size+1) (.loop (R .busy none))) (λr hr=>by cases hr;exact⟨by omega,_,lV.1,rfl⟩) ⟨s,hiV⟩
    ⟨lV.1,λl2=>cD (hbody _ s x a1 _ hok ((hJ s).put _ hiV (by omega) lV.1 rfl) ((hA s x a1).put _ hAV (by omega) lV.1 rfl))
     (mK (λW3 ⟨hk3,hi3,hT3⟩=>have l3:LD _ _ _ _ _:=(LD.put lV).keep hk3;⟨l3.1,.inl ⟨rfl,⟨(hJ _).put _ hi3 (by omega) l3.1 rfl,l3.put⟩,wP (.inl rfl) hTV hT3 t1 (hTg _ _ _ (lN W3 _ _) (λr hr=>by cases hr;exact⟨by omega,_,l3.1,rfl⟩) ⟨_,hi3⟩)⟩⟩)
       λc W3 ⟨hk3,hi3⟩=>have l3:LD _ _ _ _ _:=(LD.put lV).keep hk3;⟨l3.1,.inr ⟨rfl,c,(hJx c).put _ hi3 (by omega) l3.1 rfl,l3.put⟩⟩)⟩)
  ⟨(hJ s0).ext h0 hb1,h1⟩).mono ?_
 rintro e W2 ⟨hv,(⟨s,hS,hi,hl⟩|⟨c,hi,hl⟩)⟩
 .exact⟨hv,.inl ⟨hl.1,λo=>hdone _ s _ (aj _) hS ((hJ s).put _ hi (by omega) hl.1 rfl) ((bo (by omega)).trans hl.2)⟩⟩
 .exact⟨hv,.inr ⟨c,hl.1,λo=>hstop _ c _ (aj _) ((hJx c).put _ hi (by omega) hl.1 rfl) ((bo (by omega)).trans hl.2)⟩⟩
def tj{α:Type}(P:Program)(gf:Nat)(lb:Array Value)(enc:α->Array Value)(l:List α)(I:World->Prop):Prop:=
 Bk P gf lb enc okL nxL l sf (λ_ W=>I W)
end

section
open Go.RowKit
theorem qF{α:Type}:∀{l l':List α},l.Nodup->(∀x∈l,x∈l')->l.length<=l'.length
 | [],l',_,_=>d9 _
 |a :: t,l',hn,hs=>by
  obtain⟨hat,ht⟩:=dC.1 hn;obtain⟨s,r,rfl⟩:=List.append_of_mem (hs a (by simp));have h1:∀x∈t,x∈s++r:=λx hx=>by
   grind
  have:=qF ht h1
  grind
theorem sI{α β:Type}{g:α->β}:∀{l:List α},(l.map g).Nodup->∀{x y:α},x∈l->y∈l->g x=g y->x=y
 | [],_,_,_,hx,_,_=>by grind
 |a :: t,hn,x,y,hx,hy,h=>by
  obtain⟨h1,h2⟩:=dC.1 hn;rcases aS.1 hx with rfl|hx'
  .grind
  .rcases aS.1 hy with rfl|hy'
   .grind
   .exact sI h2 hx' hy' h
structure mz{α:Type}(P:Program)(kt:TypeId)(enc:α->Value)(dec:Value->α):Prop where
 find:∀(x:α) (w:World) (l:List MapEntry),(∀e∈l,e.key=enc (dec e.key))->
  (x∉l.map (λe=>dec e.key)/\(Instr.findKey kt (enc x) l).run P w=.ok none w)\/
  ∃j e,l[j]? =some e/\dec e.key=x/\(Instr.findKey kt (enc x) l).run P w=.ok (some (j,e.val)) w
 check:∀(em:Bool) (x:α) (w:World),(Instr.checkKey em 10000 kt (enc x)).run P w=.ok () w
 bits:∀(x:α),Instr.sameBits 10000 (enc x) (enc x)=true
 dec:∀(x:α),dec (enc x)=x
def oB{α:Type}(enc:α->Value)(dec:Value->α)(one:Value)(w:World)(b:Nat)(L:List α):Prop:=
 ∃es clock,w.heap[b]? =some (.map es clock)/\(∀e∈es.toList,e.key=enc (dec e.key)/\e.val=one/\e.born<clock)/\L=es.toList.map (λe=>dec e.key)/\L.Nodup/\(es.toList.map (·.born)).Nodup
section
variable {α:Type} {P:Program} {t kt et:TypeId} {enc:α->Value} {dec:Value->α} {one:Value} {w w':World} {b:Nat} {L:List α}
theorem oB.lt(h:oB enc dec one w b L):b<w.heap.size:=by obtain⟨es,c,hb,_⟩:=h;grind
theorem oB.nodup(h:oB enc dec one w b L):L.Nodup:=by obtain⟨es,c,_,_,_,h,_⟩:=h;exact h
theorem oB.made(enc:α->Value)(dec:Value->α)(one:Value)(w:World):oB enc dec one (w.alloc (.map #[] 0)) w.heap.size []:=
 ⟨#[],0,dO w _,by simp,by simp,by simp,by simp⟩
theorem oB.of_block(h:oB enc dec one w b L)(hb:w'.heap[b]? =w.heap[b]?):oB enc dec one w' b L:=by
 obtain⟨es,c,h1,h2⟩:=h;exact⟨es,c,hb.trans h1,h2⟩
theorem oB.copy(h:oB enc dec one w b L):∃es clock,w.heap[b]? =some (.map es clock)/\oB enc dec one (w.alloc (.map es clock)) w.heap.size L:=by
 obtain⟨es,c,h1,h2⟩:=h;exact⟨es,c,h1,es,c,dO w _,h2⟩
theorem oB.setCell(h:oB enc dec one w b L)(p:Addr)(v:Value):oB enc dec one (w.setCell p v) b L:=by
 obtain⟨es,c,h1,h2⟩:=h
 refine⟨es,c,?_,h2⟩
 by_cases e:b=p.block
 .subst e;show(w.heap.modify p.block _)[p.block]? =_
  grind
 grind[Below.heap_setCell]
theorem fG.setM(B b:Nat)(L:List α):fG B (λW=>oB enc dec one W b L):=λW W' row h hg hr=>by
 obtain⟨es,c,h1,h2⟩:=h
 exact⟨es,c,xQ h1 rfl hg hr,h2⟩
theorem oB.nocell(h:oB enc dec one w b L){p:Addr}{v:Value}(hc:w.cell? p=some v):p.block≠b:=λe=>by
 obtain⟨es,c,h1,_⟩:=h
 unfold World.cell? at hc
 rw[e,h1] at hc
 cases hc
theorem RZ(x:α)(K:mz P kt enc dec)(w:World):(Instr.keyThatStays (enc x) (enc x)).run P w=.ok (enc x) w:=by
 simp[Instr.keyThatStays,K.bits]
theorem oB.look [DecidableEq α](h:oB enc dec one w b L)(K:mz P kt enc dec)(ht:P.underlying t=some (.map kt et)){z:Value}(hz:(zeroValue et).run P w=.ok z w)(x:α):
  (Instr.lookup t (.map (some b)) (enc x) false).run P w=.ok (if x∈L then one else z) w:=by
 obtain⟨es,c,hb,hi,rfl,_⟩:=h
 have hgo:(getObj b).run P w=.ok (.map es c) w:=by simp[getObj,Sem.run,hb]
 rcases K.find x w es.toList (λe he=>(hi e he).1) with ⟨h1,h2⟩|⟨j,e,h1,h2,h3⟩
 .simp[Instr.lookup,bT ht,b7,hgo,K.check,h2,hz,Result.andThen]
  grind
 .have hm:=aK h1;have hx:x∈es.toList.map (λe=>dec e.key):=a8.2 ⟨e,hm,h2⟩;rw[aM hx,<-(hi e hm).2.1];simp[Instr.lookup,bT ht,b7,hgo,K.check,h3,Result.andThen]
theorem oB.put(h:oB enc dec one w b L)(K:mz P kt enc dec)(ht:P.underlying t=some (.map kt et))(x:α):
  ∃o L',(Instr.mapUpdate t (.map (some b)) (enc x) one).run P w=.ok () (w.putObj b o)/\oB enc dec one (w.putObj b o) b L'/\∀y,y∈L'↔y∈L\/y=x:=by
 have hlt:=h.lt
 obtain⟨es,c,hb,hi,rfl,hn,hbn⟩:=h
 have hgo:(getObj b).run P w=.ok (.map es c) w:=by simp[getObj,Sem.run,hb]
 have hso:∀o,(setObj b o).run P w=.ok () (w.putObj b o):=λo=>by simp[setObj,Sem.run,hb,World.putObj]
 rcases K.find x w es.toList (λe he=>(hi e he).1) with ⟨h1,h2⟩|⟨j,e,h1,h2,h3⟩
 .refine⟨.map (es.push {key:=enc x,val:=one,born:=c}) (c+1),es.toList.map (λe=>dec e.key)++ [x],?_,⟨_,_,dc hlt,?_,?_,?_,?_⟩,λy=>by simp⟩
  .simp[Instr.mapUpdate,bT ht,b7,hgo,K.check,h2,hso,Result.andThen]
  .intro e he;simp only[Array.toList_push,ax,bz] at he;rcases he with he|rfl
   .grind
   .exact⟨by rw[K.dec],rfl,by simp⟩
  .simp[K.dec]
  .grind
  grind
 .have hm:=aK h1;have hes:es[j]? =some e:=by simpa using h1
  have hsame:es.modify j (λe'=>{e' with key:=enc x,val:=one})=es:=by
   apply de;intro i;rw[Array.getElem?_modify]
   split
   .rename_i hij
    subst hij;rw[hes];obtain⟨a1,a2,_⟩:=hi e hm;simp only[Option.map_some];rw[<-h2,<-a1,<-a2]
   .rfl
  refine⟨.map es c,es.toList.map (λe=>dec e.key),?_,⟨_,_,dc hlt,hi,rfl,hn,hbn⟩,λy=>⟨.inl,λhy=>?_⟩⟩
  .have hk:e.key=enc x:=by rw[(hi e hm).1,h2]
   simp[Instr.mapUpdate,bT ht,b7,hgo,K.check,h3,Result.andThen,hes,hk,RZ x K,hso,hsame]
  .rcases hy with hy|rfl
   .exact hy
   .exact a8.2 ⟨e,hm,h2⟩
def pS(enc:α->Value)(dec:Value->α)(one:Value)(w:World)(b r:Nat)(L R:List α):Prop:=
 ∃es clock since seen c0,w.heap[b]? =some (.map es clock)/\(∀e∈es.toList,e.key=enc (dec e.key)/\e.val=one/\e.born<clock)/\L=es.toList.map (λe=>dec e.key)/\L.Nodup/\(es.toList.map (·.born)).Nodup/\
  w.heap[r]? =some (.mapIter (some b) since seen c0)/\(∀x∈es.toList,x.born<since)/\since<=c0/\since<=clock/\R=(leftOf es seen).toList.map (λe=>dec e.key)
theorem pS.set{r:Nat}{R:List α}(h:pS enc dec one w b r L R):oB enc dec one w b L:=by
 obtain⟨es,clock,since,seen,c0,h1,h2,h3,h4,h5,_⟩:=h
 exact⟨es,clock,h1,h2,h3,h4,h5⟩
theorem pS.of_blocks{r:Nat}{R:List α}(h:pS enc dec one w b r L R)(hb:w'.heap[b]? =w.heap[b]?)(hr:w'.heap[r]? =w.heap[r]?):pS enc dec one w' b r L R:=by
 obtain⟨es,clock,since,seen,c0,h1,h2,h3,h4,h5,h6,h7⟩:=h
 exact⟨es,clock,since,seen,c0,hb.trans h1,h2,h3,h4,h5,hr.trans h6,h7⟩
theorem pS.lt{r:Nat}{R:List α}(h:pS enc dec one w b r L R):b<w.heap.size/\r<w.heap.size/\r≠b:=by
 obtain⟨es,clock,since,seen,c0,h1,h2,h3,h4,h5,h6,h7⟩:=h
 grind
theorem pS.sub{r:Nat}{R:List α}(h:pS enc dec one w b r L R):R.Nodup/\∀x∈R,x∈L:=by
 obtain⟨es,clock,since,seen,c0,h1,h2,rfl,h4,h5,h6,h7,h8,h8b,rfl⟩:=h
 have hs:((leftOf es seen).toList.map (λe=>dec e.key)).Sublist (es.toList.map (λe=>dec e.key)):=by
  unfold leftOf
  grind[List.filter_sublist]
 grind
theorem oB.range(h:oB enc dec one w b L)(ht:P.underlying t=some (.map kt et)):
  ∃o,nH o=false/\(Instr.range t (.map (some b))).run P w=.ok (.pointer (some ⟨w.heap.size,0,none⟩)) (w.alloc o)/\pS enc dec one (w.alloc o) b w.heap.size L L:=by
 obtain⟨es,c,hb,hi,hL,hn,hbn⟩:=h
 refine⟨_,?_,run_range_map w t kt et b es c ht hb,es,c,c,#[],c,?_,hi,hL,hn,hbn,dO w _,λx hx=>(hi x hx).2.2,aj _,aj _,?_⟩
 .rfl
 .grind[Below.heap_alloc]
 .unfold leftOf
  grind[List.filter_eq_self]
theorem pS.next{r:Nat}{R:List α}(h:pS enc dec one w b r L R)(ty:TypeId):
  (R= []/\(Instr.next (.pointer (some ⟨r,0,none⟩)) false ty).run P w=.ok (.tuple #[.bool false]) w)\/
  ∃x R' w',x∈R/\(∀y,y∈R'↔y∈R/\y≠x)/\R'.length<R.length/\(Instr.next (.pointer (some ⟨r,0,none⟩)) false ty).run P w=.ok (.tuple #[.bool true,enc x,one]) w'/\pS enc dec one w' b r L R'/\
   w.grownBy w' (some r)/\w'.heap.size=w.heap.size/\(Instr.entry (.pointer (some ⟨r,0,none⟩))).run P w'=.ok (.tuple #[enc x,one]) w':=by
 have hlt:=h.lt
 have hsub:=h.sub
 obtain⟨es,clock,since,seen,c0,h1,h2,rfl,h4,h5,h6,h7,h8,h8b,rfl⟩:=h
 rcases run_next_at (P:=P) w ty r b since c0 seen es clock h6 h1 h7 h8 with ⟨h0,hrun⟩|⟨e,he,w1,hal,hrun⟩
 .grind
 .have hle:e∈es.toList/\e.born∉seen.toList:=by
   unfold leftOf at he
   grind
  obtain⟨k1,k2,k3⟩:=h2 e hle.1;have hmem:∀y,y∈(leftOf es (seen.push e.born)).toList.map (λe=>dec e.key)↔y∈(leftOf es seen).toList.map (λe=>dec e.key)/\y≠dec e.key:=λy=>by
   unfold leftOf;rw[eU,eU,a8,a8];constructor
   .rintro⟨e',he',rfl⟩;rw[bI] at he';simp only[Array.contains_push,Bool.not_or,aB] at he';refine⟨⟨e',bI.2 ⟨he'.1,?_⟩,rfl⟩,λc=>?_⟩
    .first|exact he'.2.1|exact he'.2.2
    .have:=sI h4 he'.1 hle.1 c;subst this;simp at he'
   .rintro⟨⟨e',he',rfl⟩,hne⟩;rw[bI] at he';refine⟨e',bI.2 ⟨he'.1,?_⟩,rfl⟩;have hb:e'.born≠e.born:=λc=>hne (by rw[sI h5 he'.1 hle.1 c]);have h9:=he'.2;simp at h9;simp[h9,hb]
  have hw1:w1.heap=w.heap:=by rcases hal with rfl|rfl<;>rfl
  have hg1:w.grownBy w1 (some r):=by rcases hal with rfl|rfl<;>exact⟨rfl,rfl,rfl,aj _,λ_ _ _=>rfl⟩
  have hrl:r<w1.heap.size:=by rw[hw1];exact hlt.2.1
  have hSI:pS enc dec one (w1.putObj r (.mapIter (some b) since (seen.push e.born) clock)) b r (es.toList.map (λe=>dec e.key)) ((leftOf es (seen.push e.born)).toList.map (λe=>dec e.key)):=by
   refine⟨es,clock,since,seen.push e.born,clock,?_,h2,rfl,h4,h5,dc hrl,h7,h8b,h8b,rfl⟩
   .have:=(lN w1 r (.mapIter (some b) since (seen.push e.born) clock)).block b (by rw[hw1];exact hlt.1) (by simpa using λc:b=r=>hlt.2.2 c.symm);rw[this,hw1];exact h1
  refine .inr ⟨dec e.key,(leftOf es (seen.push e.born)).toList.map (λe=>dec e.key),w1.putObj r (.mapIter (some b) since (seen.push e.born) clock),a8.2 ⟨e,he,rfl⟩,hmem,?_,?_,hSI,?_,?_,?_⟩
  .have hn':(dec e.key :: (leftOf es (seen.push e.born)).toList.map (λe=>dec e.key)).Nodup:=dC.2 ⟨λc=>((hmem _).1 c).2 rfl,hSI.sub.1⟩
   have:=qF hn' (l':=(leftOf es seen).toList.map (λe=>dec e.key)) (λx hx=>by
    rcases aS.1 hx with rfl|hx
    .exact a8.2 ⟨e,he,rfl⟩
    .exact((hmem x).1 hx).1)
   simp only[bk] at this;omega
  .rw[hrun,<-k1,k2];rfl
  .exact hg1.andThen (lN w1 r _) (λj hj=>.inr hj)
  .simp[World.putObj,hw1]
  .rw[run_entry_at (P:=P) _ r b since seen es clock e (dc hrl) ?_ hle.1 h5,<-k1,k2];have:=(lN w1 r (.mapIter (some b) since (seen.push e.born) clock)).block b (by rw[hw1];exact hlt.1) (by simpa using λc:b=r=>hlt.2.2 c.symm);rw[this,hw1];exact h1
variable {ops:Array Oper} {rest:List Oper} {o:Oper} {a:Act} {Q:Exit->Act->World->Prop}
theorem ue(w:World)(b:Nat)(o:Obj):(w.putObj b o).heap.size=w.heap.size:=by simp
theorem WL(hg:o.guard=none)(m x v:Operand)(hop:o.op=Op.mapUpdate t m x v)(K:mz P kt enc dec)(ht:P.underlying t=some (.map kt et))(h:oB enc dec one w b L)
  (hm:a.eval m=.map (some b)) (y:α) (hx:a.eval x=enc y) (hv:a.eval v=one)
  (hK:∀w' L',oB enc dec one w' b L'->(∀z,z∈L'↔z∈L\/z=y)->w.grownBy w' (some b)->w'.heap.size=w.heap.size->wpList P ops Q rest (a.put o.dst undef) w'):wpList P ops Q (o :: rest) a w:=by
 refine ee hg λK' hK'=>?_
 obtain⟨o',L',hrun,r1,r2⟩:=h.put K ht y
 unfold Oper.wp
 simp[execOp,hop,hm,hx,hv,hrun,Result.andThen]
 exact hK' _ _ (hK _ L' r1 r2 (lN w b o') (ue _ _ _))
theorem NC(hg:o.guard=none)(m:Operand)(hop:o.op=Op.range t m)(ht:P.underlying t=some (.map kt et))(h:oB enc dec one w b L)(hm:a.eval m=.map (some b))
  (hK:∀w',pS enc dec one w' b w.heap.size L L->Below w.heap.size w w'->w'.heap.size=w.heap.size+1->wpList P ops Q rest (a.put o.dst (.pointer (some ⟨w.heap.size,0,none⟩))) w'):wpList P ops Q (o :: rest) a w:=by
 refine ee hg λK' hK'=>?_
 obtain⟨o',_,hrun,r1⟩:=h.range ht
 unfold Oper.wp
 simp[execOp,hop,hm,hrun,Result.andThen]
 exact hK' _ _ (hK _ r1 ((ag _ w).alloc (aj _) _) (by simp))
theorem RL{r:Nat}{R:List α}(hg:o.guard=none)(it:Operand)(hop:o.op=Op.next it false)(hit:a.eval it=.pointer (some ⟨r,0,none⟩))(h:pS enc dec one w b r L R)
  (hDone:R= []->wpList P ops Q rest (a.put o.dst (.tuple #[.bool false])) w)
  (hMore:∀x R' w',x∈R->(∀y,y∈R'↔y∈R/\y≠x)->R'.length<R.length->pS enc dec one w' b r L R'->w.grownBy w' (some r)->w'.heap.size=w.heap.size->
    (Instr.entry (.pointer (some ⟨r,0,none⟩))).run P w'=.ok (.tuple #[enc x,one]) w'->wpList P ops Q rest (a.put o.dst (.tuple #[.bool true,enc x,one])) w'):wpList P ops Q (o :: rest) a w:=by
 refine ee hg λK' hK'=>?_
 unfold Oper.wp
 rcases h.next (P:=P) o.type with ⟨h0,hrun⟩|⟨x,R',w',hx,hR',hlt,hrun,hSI,hgr,hsz,hen⟩
 .simp[execOp,hop,hit,hrun,Result.andThen];exact hK' _ _ (hDone h0)
 .simp[execOp,hop,hit,hrun,Result.andThen];exact hK' _ _ (hMore x R' w' hx hR' hlt hSI hgr hsz hen)
end
end

section
open Go.RowKit
section
variable {P:Program} {Q:Exit->Act->World->Prop}
end
theorem lH{w w2:World}(h:Below w.drew.heap.size w.drew w2):Below w.heap.size w w2:=⟨h.os,h.tape,h.output,h.size,h.block⟩
theorem rK{w:World}{base:Nat}{e:TypeId}{size:Nat}{v:Value}{n:Nat}{xs:List Value}(h:w.ownsRow base e size v n xs)(hn:0<n):∃g c,v=.slice (some ⟨g,0,none⟩) n c:=by
 rcases h.2 with ⟨_,h0⟩|⟨g,cap,cur,hv,_⟩
 .omega
 grind
theorem Ae{w:World}{base:Nat}{e:TypeId}{g n c:Nat}{xs:List Int}(h:w.ownsRow base e 1 (.slice (some ⟨g,0,none⟩) n c) n (xs.map (Value.int .i64)))(hx:∀x∈xs,I64 x)(hn:n<=17592186044416):iJ w (some ⟨g,0,none⟩) n xs:=by
 have hl:xs.length=n:=by have:=h.1;grind
 refine⟨hl,hn,λk hk=>⟨g,0,rfl,?_,?_⟩⟩
 .rw[bQ,dH h k (by omega)]
  grind
 grind
theorem iJ.mem{w:World}{a:Option Addr}{n:Nat}{xs:List Int}(h:iJ w a n xs):∀x∈xs,I64 x:=by
 intro x hx
 obtain⟨k,hk,e⟩:=bj.1 hx
 obtain⟨_,_,_,_,hi⟩:=h.2.2 k (by rw[<-h.1];omega)
 grind
theorem fB{w w':World}(h:Below w.heap.size w w'){k:Nat}{o:Obj}(hk:w.heap[k]? =some o):w'.heap[k]? =some o:=(h.block k (au.1 hk).1).trans hk
end

section
open Go.RowKit
structure fL(w:World) where
 val:World
 ext:Below w.heap.size w val
instance(w:World):Nonempty (fL w):=⟨⟨w,ag _ _⟩⟩
theorem fL.cell{w:World}{p:Addr}{v:Value}(h:w.cell? p=some v)(n:fL w):n.val.cell? p=some v:=fZ n.ext h
theorem oL{P:Program}{f:FuncId}{args:Array Value}{w:World}{n:fL w}{v:Value}
  (h:Calls P f args n.val λe w'=>e=.returned v/\Below n.val.heap.size n.val w'):Calls P f args n.val λe w''=>e=.returned v/\∃m:fL w,w''=m.val:=
 h.mono λ_ w' ⟨he,hb⟩=>⟨he,⟨w',fC n.ext hb⟩,rfl⟩
theorem MM{P:Program}{f:FuncId}{args:Array Value}{w:World}{n:fL w}{v:Value}
  (h:Calls P f args n.val λe w'=>e=.returned v/\n.val=w'):Calls P f args n.val λe w''=>e=.returned v/\∃m:fL w,w''=m.val:=
 h.mono λ_ _ ⟨he,hb⟩=>⟨he,n,hb.symm⟩
theorem jH{P:Program}{id:Nat}{Q:Exit->Act->World->Prop}{a:Act}{w:World}{ol:List Oper}(hm:P.follows .mixedOrders=true)(hB:Region.lexB .any ol.toArray=true)
  (h:wpQuiet P ol.toArray (λw'=>∃n:fL w,w'=n.val) (λa'=>∀w',(∃n:fL w,w'=n.val)->Q .normal a' w') ol a):(Code.region id ol.toArray true).wp P Q a w:=
 wp_region_quiet (C:=λw'=>∃n:fL w,w'=n.val) hm hB ⟨⟨_,gB (ag _ _) 1⟩,rfl⟩ (by simpa using h)
theorem WX{P:Program}{id:Nat}{Q:Exit->Act->World->Prop}{a:Act}{w:World}{ol:List Oper}{l:Nat}{C:World->Prop}(hm:P.follows .mixedOrders=true)(hB:Region.lexB .any ol.toArray=true)
  (hn:ol.all rL=true) (hQ:¬LetsOut Q) (hC:C {w with drawn:=w.drawn+1})
  (h:wpQuiet P ol.toArray C (λa'=>∀w',C w'->Q .normal a' w') ol a):(Code.region id ol.toArray true).wpIn (Fence.wide.inRound l) 0 P Q a w:=by
 refine wpIn_region_draw λt=>?_
 refine xI l (λi o ho=>?_) hQ _ _ _ ?_
 .grind
 .simp only[Region.schedule,hm,Bool.true_or,if_true];simp only[Region.lexB,aB] at hB;refine wpAny_sound _ t _ a _ ?_;refine wpAny_of_quiet (C:=C) (Q:=λa'=>∀w',C w'->Q .normal a' w') (λ_ w' hw' h=>h w' hw') _ _ _ _ hC ?_;have:=wpAnyQ_lex (C:=C) (md:=.any) hB.1 ol 0 (Array.replicate ol.toArray.size false) a (by simp) (by grind) h;omega
theorem EQ{P:Program}{id:Nat}{Q:Exit->Act->World->Prop}{a:Act}{w:World}{ol:List Oper}{l:Nat}(hm:P.follows .mixedOrders=true)(hB:Region.lexB .any ol.toArray=true)
  (hn:ol.all rL=true) (hQ:¬LetsOut Q)
  (h:wpQuiet P ol.toArray (λw'=>∃n:fL w,w'=n.val) (λa'=>∀w',(∃n:fL w,w'=n.val)->Q .normal a' w') ol a):(Code.region id ol.toArray true).wpIn (Fence.wide.inRound l) 0 P Q a w:=
 WX hm hB hn hQ ⟨⟨_,gB (ag _ _) 1⟩,rfl⟩ h
structure mL(F:World->Prop) where
 val:World
 prop:F val
theorem kX{F:World->Prop}{w:World}(h:F w):∃n:mL F,w=n.val:=⟨⟨w,h⟩,rfl⟩
theorem wZ{F:World->Prop}{w:World}(h:F w):Nonempty (mL F):=⟨⟨w,h⟩⟩
def TU(o:Oper):Bool:=match o.op with
 | .move _| .assign _| .pick .. | .build .. | .load .. | .binOp .. | .unOp .. | .convert .. | .slice .. | .fieldAddr .. | .field .. | .indexAddr .. | .index .. | .lookup .. | .extract .. | .makeInterface .. =>true
 | .nilCheck _=>true
 | .call {callee:=.builtin .len,..}| .call {callee:=.builtin .cap,..}| .call {callee:=.builtin .max,..}| .call {callee:=.builtin .min,..}=>true
 |_=>false
def FZ(r:Result Next):Prop:=(∃v w,r=.ok (.value v) w)\/∃h w,r=.halt h w
theorem lz{P:Program}(s:Sem Value)(w:World):FZ ((do pure (Next.value (<-s)):Sem Next).run P w):=by
 rw[b7]
 cases s.run P w with
 |ok x w'=>exact Or.inl ⟨x,w',by rfl⟩
 |halt h w'=>exact Or.inr ⟨h,w',by rfl⟩
theorem vG{P:Program}(v:Value)(w:World):FZ ((pure (Next.value v):Sem Next).run P w):=Or.inl ⟨v,w,by simp⟩
theorem LK{α:Type}{P:Program}(s:Sem α)(k:α->Sem Next)(w:World)(hk:∀x w,FZ ((k x).run P w)):FZ ((s >>= k).run P w):=by
 rw[b7]
 cases s.run P w with
 |ok x w'=>simp_all
 |halt h w'=>exact Or.inr ⟨h,w',by rfl⟩
theorem NI{P:Program}(b:Builtin)(hb:b=.len\/b=.cap\/b=.max\/b=.min)(ts:Array TypeId)(t:TypeId)(cs:Array Bool)(args:Array Value)(w:World):FZ ((builtin b ts t cs args).run P w):=by
 rcases hb with rfl|rfl|rfl|rfl<;>exact lz _ _
theorem ij{P:Program}(ρ:Operand->Value)(c:Call)(b:Builtin)(hc:c.callee=.builtin b)(hb:b=.len\/b=.cap\/b=.max\/b=.min)(t:TypeId)(w:World):
  FZ ((do let d<-resolve ρ c t;invoke d.target d.args:Sem Next).run P w):=by
 simp only[resolve,hc,b7,dw,Result.andThen]
 exact NI b hb _ _ _ _ _
theorem XQ{P:Program}(w:World):FZ ((runtimePanic .nilDeref:Sem Next).run P w):=by
 refine Or.inr ?_
 simp[runtimePanic,b7,program,goPanic,Sem.run,Result.andThen]
theorem wl{P:Program}(ρ:Operand->Value)(o:Oper)(h:TU o=true)(w:World):FZ ((execOp ρ o).run P w):=by
 unfold TU at h
 unfold execOp
 cases ho:o.op with
 |call c=>
  grind[ij]
 |nilCheck x=>
  grind[XQ,LK,vG]
 |move x=>grind[vG]
 |assign x=>grind[vG]
 |pick c a b=>grind[LK,vG]
 |_=>simp only[ho] at h<;>first|exact lz _ _|grind
def lS(P:Program)(l:List Oper)(S:World->Prop)(Q:Exit->Act->World->Prop):List (Nat×Nat×Option (Nat×Bool))->Act->World->Prop
 | [],a,w=>Q .normal a w
 |(i,n,none) :: rest,a,w=>wpQuiet P l.toArray S (λa'=>lS P l S Q rest a' w) ((l.drop i).take n) a
 |(i,n,some (e,true)) :: rest,a,w=>wpQuiet P l.toArray S (λa'=>wpOp P l.toArray Q e (λa'' w''=>S w''/\lS P l S Q rest a'' w'') a' w) ((l.drop i).take n) a
 |(i,n,some (e,false)) :: rest,a,w=>wpQuiet P l.toArray S (λa'=>wpOp P l.toArray Q e (λa'' w''=>lS P l S Q rest a'' w'') a' w) ((l.drop i).take n) a
def oU(l:List Oper):Nat->Nat->Nat->Bool
 |0,j,i=>match l[j]? with
  |some o=>o.after.any λe=>Region.binds .any e&&e.on==i
  |none=>false
 |n+1,j,i=>oU l 0 j i||(match l[j]? with
  |some o=>o.after.any λe=>Region.binds .any e&&oU l n e.on i
  |none=>false)
def td(acc:List Nat)(o:Oper):Nat:=o.after.toList.foldl (λm e=>if Region.binds .any e then m|||(1 <<< e.on)|||acc.getD e.on 0 else m) 0
def sq:List Oper->List Nat->List Nat
 | [],acc=>acc
 |o :: l,acc=>sq l (acc++ [td acc o])
def reach(l:List Oper)(j i:Nat):Bool:=((sq l []).getD j 0).testBit i
def yN(l:List Oper)(j:Nat):Bool:=(List.range l.length).all λi=>i==j||oU l 3 j i||oU l 3 i j||reach l j i||reach l i j
theorem LI(acc:List Nat)(i:Nat):∀(es:List Edge) (m:Nat),(es.foldl (λm e=>if Region.binds .any e then m|||(1 <<< e.on)|||acc.getD e.on 0 else m) m).testBit i=true->m.testBit i=true\/∃e∈es,Region.binds .any e=true/\(e.on=i\/(acc.getD e.on 0).testBit i=true)
 | [],m,h=>Or.inl h
 |e :: es,m,h=>by
  rw[ed] at h;rcases LI acc i es _ h with h1|⟨e',he',hb⟩
  .by_cases hb:Region.binds .any e=true
   .rw[aM hb,Nat.testBit_or,Nat.testBit_or,bW,bW] at h1;rcases h1 with (h1|h1)|h1
    .exact Or.inl h1
    .refine Or.inr ⟨e,by simp,hb,Or.inl ?_⟩;rw[Nat.one_shiftLeft,Nat.testBit_two_pow] at h1;exact fs h1
    .exact Or.inr ⟨e,by simp,hb,Or.inr h1⟩
   .rw[az hb] at h1;exact Or.inl h1
  .exact Or.inr ⟨e',by simp[he'],hb⟩
theorem GK(l:List Oper):∀(l2:List Oper) (acc:List Nat),l.drop acc.length=l2->(∀j i,(acc.getD j 0).testBit i=true->∃n,oU l n j i=true)->∀j i,((sq l2 acc).getD j 0).testBit i=true->∃n,oU l n j i=true
 | [],acc,_,hacc=>hacc
 |o :: l2,acc,hd,hacc=>by
  have ho:l[acc.length]? =some o:=by
   have:(l.drop acc.length)[0]? =some o:=by grind
   grind
  refine GK l l2 (acc++ [td acc o]) ?_ ?_
  .have:l.drop (acc.length+1)=l2:=by rw[<-List.drop_drop,hd];rfl
   grind
  .intro j i h;by_cases hj:j<acc.length
   .simp_all[cG]
   .by_cases hj2:j=acc.length
    .subst hj2;rw[ak,du (aj _),Nat.sub_self] at h;rcases LI acc i o.after.toList 0 h with h0|⟨e,he,hb,h1⟩
     .simp at h0
     .have he':e∈o.after:=by simpa using he
      rcases h1 with rfl|h1
      .refine⟨0,?_⟩;unfold oU;rw[ho];exact dM.2 ⟨e,he',by simp[hb]⟩
      .obtain⟨n,hn⟩:=hacc _ _ h1;refine⟨n+1,?_⟩;rw[oU,ho,bW];exact Or.inr (dM.2 ⟨e,he',by simp[hb,hn]⟩)
    .rw[ak,di (by simp;omega)] at h;simp at h
theorem zP{l:List Oper}{j i:Nat}(h:reach l j i=true):∃n,oU l n j i=true:=
 GK l l [] rfl (λj i h=>by grind) j i h
def oW(l:List Oper)(listed:Array Bool):Prop:=∀(j:Nat) (o:Oper),l.toArray[j]? =some o->listed.getD j false=true->∀e∈o.after,Region.binds .any e=true->listed.getD e.on false=true
def xD(l:List Oper):Nat->Nat->Array Bool->Option (Array Bool)
 |0,_,listed=>some listed
 |n+1,i,listed=>
  if (Region.ready .any l.toArray listed).contains i&&Region.free .any l.toArray listed i&&((l[i]?).map TU).getD false then xD l n (i+1) (listed.setIfInBounds i true) else none
def JF(l:List Oper):List (Nat×Nat×Option (Nat×Bool))->Array Bool->Bool
 | [],listed=>(Region.ready .any l.toArray listed).isEmpty
 |(i,n,e) :: rest,listed=>
  match xD l n i listed with
  |none=>false
  |some listed'=>
   match e with
   |none=>JF l rest listed'
   |some (k,true)=>Region.ready .any l.toArray listed'== [k]&&JF l rest (listed'.setIfInBounds k true)
   |some (k,false)=>Region.ready .any l.toArray listed'== [k]&&JF l rest (listed'.setIfInBounds k true)&&yN l k&&rest.isEmpty
section
variable {P:Program} {l:List Oper} {S:World->Prop} {Q:Exit->Act->World->Prop}
theorem DR{listed:Array Bool}(hc:oW l listed):∀(n j i:Nat),listed.getD j false=true->oU l n j i=true->listed.getD i false=true:=by
 intro n
 induction n with
 |zero=>
  intro j i hj h;unfold oU at h
  split at h
  .rename_i o ho
   obtain⟨e,he,hb⟩:=dM.1 h;simp only[aB,db] at hb;exact hb.2▸hc j o (by grind) hj e he hb.1
  grind
 |succ n ih=>
  intro j i hj h;have h0:∀(h:oU l 0 j i=true),listed.getD i false=true:=λh=>by
   unfold oU at h
   split at h
   .rename_i o ho
    obtain⟨e,he,hb⟩:=dM.1 h;simp only[aB,db] at hb;exact hb.2▸hc j o (by grind) hj e he hb.1
   grind
  rw[oU,bW] at h;rcases h with h|h
  .exact h0 h
  .split at h
   .rename_i o ho
    obtain⟨e,he,hb⟩:=dM.1 h;simp only[aB] at hb;exact ih _ _ (hc j o (by simpa using ho) hj e he hb.1) hb.2
   .cases h
theorem zM{listed:Array Bool}(hc:oW l listed){n j i:Nat}(hj:j∈Region.ready .any l.toArray listed)(h:oU l n j i=true):listed.getD i false=true:=by
 obtain⟨_,o,ho,hall⟩:=ff.1 hj
 have h0:∀(h:oU l 0 j i=true),listed.getD i false=true:=λh=>by
  unfold oU at h
  grind
 cases n with
 |zero=>grind
 |succ n=>
  rw[oU,bW] at h;rcases h with h|h
  .grind
  .grind[DR]
theorem oW.set{listed:Array Bool}(hc:oW l listed){i:Nat}(hi:i∈Region.ready .any l.toArray listed):oW l (listed.setIfInBounds i true):=by
 intro j o ho hl e he hb
 obtain⟨_,oi,hoi,hall⟩:=ff.1 hi
 by_cases hij:i=j
 .grind[getD_set_true]
 .rw[eD false hij] at hl;exact getD_set_true (hc j o ho hl e he hb)
theorem GU(n:Nat):oW l (Array.replicate n false):=by
 intro j o _ hl
 rcases Nat.lt_or_ge j n with h|h
 .simp_all
 grind
theorem DF{i j:Nat}{listed:Array Bool}(hc:oW l listed)(n:Nat)(hi:i∈Region.ready .any l.toArray listed)(hj:j∈Region.ready .any l.toArray listed):oU l n j i=false:=by
 grind[zM,mem_ready]
theorem OR{i j:Nat}{listed:Array Bool}(hc:oW l listed)(hi:i∈Region.ready .any l.toArray listed)(hj:j∈Region.ready .any l.toArray listed):reach l j i=false:=by
 grind[zP,DF]
theorem po{i j:Nat}{listed:Array Bool}(hc:oW l listed)(hi:i∈Region.ready .any l.toArray listed)(hj:j∈Region.ready .any l.toArray listed)(hne:i≠j):yN l j=false:=by
 cases h:yN l j with
 |false=>rfl
 |true=>
  unfold yN at h;rw[aV] at h;have hlt:i<l.length:=by
   grind[mem_ready]
  have:=h i (aQ.2 hlt);simp only[bW,db,DF hc 3 hi hj,DF hc 3 hj hi,OR hc hi hj,OR hc hj hi,hne] at this
  grind
def mW(P:Program)(l:List Oper)(Q:Exit->Act->World->Prop)(S:World->Prop):Nat->Array Bool->Act->World->Prop
 |0,listed,a,w=>Region.ready .any l.toArray listed= []/\Q .normal a w
 |fuel+1,listed,a,w=>
  (Region.ready .any l.toArray listed= []->Q .normal a w)/\
  ∀i∈Region.ready .any l.toArray listed,wpOp P l.toArray Q i (λa' w'=>(yN l i=true\/S w')/\mW P l Q S fuel (listed.setIfInBounds i true) a' w') a w
theorem BS:∀(fuel:Nat) (listed:Array Bool) (a:Act) (w:World),mW P l Q S fuel listed a w->wpAny P .any l.toArray Q fuel listed a w
 |0,_,_,_,h=>h
 |fuel+1,_,_,_,h=>⟨h.1,λi hi=>wpOp_mono (λa' w' h'=>BS fuel _ a' w' h'.2) (h.2 i hi)⟩
theorem DQ{i:Nat}{oi:Oper}{v:Value}(hi:l.toArray[i]? =some oi)(hs:Region.noSelect l.toArray=true)(hQ:∀c a w,¬Q (.panic c) a w):
  ∀(fuel:Nat) (listed:Array Bool) (a:Act) (w:World),oW l listed->Region.free .any l.toArray listed i=true->i∈Region.ready .any l.toArray listed->YieldsIf P l.toArray S oi v a->S w->
   mW P l Q S fuel (listed.setIfInBounds i true) (a.put oi.dst v) w->mW P l Q S (fuel+1) listed a w:=by
 have hsel:=Region.noSelect_spec hs
 have key:∀(fuel:Nat) (listed:Array Bool) (a:Act) (w:World),oW l listed->
   (∀j oj,l.toArray[j]? =some oj->j≠i->listed.getD j true=false->(∀e∈oj.after,Region.binds .any e=true->e.on≠i)->oi.apart l.toArray oj=true)->
   i∈Region.ready .any l.toArray listed->YieldsIf P l.toArray S oi v a->S w->
   mW P l Q S fuel (listed.setIfInBounds i true) (a.put oi.dst v) w->mW P l Q S (fuel+1) listed a w:=by
  intro fuel
  induction fuel with
  |zero=>
   intro listed a w _ _ hr hy hS H;refine⟨λh=>absurd (h▸hr) (by simp),λj hj=>?_⟩;by_cases hji:j=i
   .subst hji;exact hy.wpOp hi hS ⟨Or.inr hS,H⟩
   .exact absurd (H.1▸ready_mono hj hji) (by simp)
  |succ fuel ih=>
   intro listed a w hcl hfree hr hy hS H;refine⟨λh=>absurd (h▸hr) (by simp),λj hj=>?_⟩;by_cases hji:j=i
   .subst hji;exact hy.wpOp hi hS ⟨Or.inr hS,H⟩
   .have hal:=po hcl hr hj (Ne.symm hji);have hnw:=DF hcl 0 hr hj;have h1:=H.2 j (ready_mono hj hji);obtain⟨hjun,oj,hoj,_⟩:=ff.1 hj;have hnot:∀e∈oj.after,Region.binds .any e=true->e.on≠i:=λe he hb heq=>by
     have:oU l 0 j i=true:=by
      unfold oU;have hoj':l[j]? =some oj:=by simpa using hoj
      rw[hoj'];exact dM.2 ⟨e,he,by simp[hb,heq]⟩
     rw[hnw] at this;cases this
    have h2:=wpOp_putIf hoj (hfree j oj hoj hji hjun hnot) (λcs b=>hsel i oi cs b hi) (λcs b=>hsel j oj cs b hoj) (λc a w hp=>absurd hp (hQ _ _ _)) hy h1;refine wpOp_mono (λa' w' h3=>?_) h2;have hS':S w':=h3.2.1.resolve_left (by rw[hal];simp);refine⟨Or.inr hS',ih (listed.setIfInBounds j true) a' w' (hcl.set hj) (λk ok hk hki hun hno=>?_) (ready_mono hr (Ne.symm hji)) h3.1 hS' ?_⟩
    .refine hfree k ok hk hki ?_ hno;by_cases hjk:j=k
     .subst hjk;exact hjun
     .rw[eD true hjk] at hun;exact hun
    .rw[Array.setIfInBounds_comm _ _ hji];exact h3.2.2
 intro fuel listed a w hcl hf
 exact key fuel listed a w hcl (Region.free_spec hi hf)
theorem DZ{o:Oper}{a:Act}{K:Act->Prop}(hv:TU o=true)(hw:Region.wanted o (yielded l.toArray a.tmps)=true)(h:o.quiet P a S K):
  ∃v,YieldsIf P l.toArray S o v a/\K (a.put o.dst v):=by
 obtain⟨v,h1,h2⟩:=h
 refine⟨v,Or.inl ⟨hw,λw hs=>?_⟩,h2⟩
 have:=h1 w hs
 unfold Oper.quietAt at this
 rcases wl (P:=P) a.eval o hv w with ⟨x,w',e⟩|⟨x,w',e⟩
 .rw[e] at this|-;obtain⟨rfl,rfl⟩:=this;rfl
 .rw[e] at this;trivial
theorem vE(hs:Region.noSelect l.toArray=true)(hQ:∀c a w,¬Q (.panic c) a w)(fuel:Nat)(w:World)(hS:S w)(K:Act->Prop):
  ∀(n i:Nat) (listed listed':Array Bool) (a:Act),oW l listed->xD l n i listed=some listed'->(oW l listed'->∀a',K a'->mW P l Q S fuel listed' a' w)->
   wpQuiet P l.toArray S K ((l.drop i).take n) a->mW P l Q S (fuel+n) listed a w:=by
 intro n
 induction n with
 |zero=>
  intro i listed listed' a hcl hok hK h;simp only[xD,aW] at hok;subst hok;exact hK hcl a h
 |succ n ih=>
  intro i listed listed' a hcl hok hK h;simp only[xD] at hok
  split at hok
  .rename_i hc
   simp only[aB] at hc;obtain⟨⟨hr,hf⟩,hv⟩:=hc;cases ho:l[i]? with
   |none=>simp[ho] at hv
   |some o=>
    simp only[ho,Option.map_some,eB] at hv;have hd:(l.drop i).take (n+1)=o :: (l.drop (i+1)).take n:=by
     grind[List.drop_eq_getElem_cons]
    rw[hd] at h;simp only[wpQuiet] at h;have hoA:l.toArray[i]? =some o:=by simpa using ho
    have hr':i∈Region.ready .any l.toArray listed:=by simpa using hr
    by_cases hw:Region.wanted o (yielded l.toArray a.tmps)=true
    .rw[aM hw] at h;obtain⟨v,hy,hk⟩:=DZ hv hw h;exact DQ hoA hs hQ _ _ _ _ hcl hf hr' hy hS (ih (i+1) _ _ _ (hcl.set hr') hok hK hk)
    .rw[az hw] at h;exact DQ hoA hs hQ _ _ _ _ hcl hf hr' (Or.inr ⟨by simpa using hw,rfl⟩) hS (ih (i+1) _ _ _ (hcl.set hr') hok hK h)
  .cases hok
def IM:List (Nat×Nat×Option (Nat×Bool))->Nat
 | []=>0
 |(_,n,none) :: rest=>IM rest+n
 |(_,n,some _) :: rest=>IM rest+1+n
theorem pt(hs:Region.noSelect l.toArray=true)(hQ:∀c a w,¬Q (.panic c) a w):
  ∀(segs:List (Nat×Nat×Option (Nat×Bool))) (listed:Array Bool) (a:Act) (w:World),oW l listed->JF l segs listed=true->(S w\/segs= [])->lS P l S Q segs a w->mW P l Q S (IM segs) listed a w:=by
 intro segs
 induction segs with
 |nil=>
  intro listed a w _ hok _ h;simp only[JF,List.isEmpty_iff] at hok;exact⟨hok,h⟩
 |cons seg rest ih=>
  intro listed a w hcl hok hS0 h;have hS:S w:=hS0.resolve_right (by simp);obtain⟨i,n,e⟩:=seg;simp only[JF] at hok
  split at hok
  .grind
  .rename_i listed' hr
   rcases e with _|⟨k,fl⟩
   .exact vE hs hQ _ w hS _ n i listed listed' a hcl hr (λhcl' a' ha'=>ih listed' a' w hcl' hok (Or.inl hS) ha') h
   .cases fl with
    |true=>
     refine vE hs hQ _ w hS _ n i listed listed' a hcl hr (λhcl' a' ha'=>⟨λh0=>?_,λj hj=>?_⟩) h
     .grind
     .have hcl2:=hcl'.set hj
      grind[wpOp_mono]
    |false=>
     refine vE hs hQ _ w hS _ n i listed listed' a hcl hr (λhcl' a' ha'=>⟨λh0=>?_,λj hj=>?_⟩) h
     .grind
     .have hcl2:=hcl'.set hj
      grind[wpOp_mono]
def DB(l:List Oper)(segs:List (Nat×Nat×Option (Nat×Bool))):Bool:=
 JF l segs (Array.replicate l.length false)&&(IM segs==l.length)&&Region.noSelect l.toArray
theorem lr(segs:List (Nat×Nat×Option (Nat×Bool)))(hok:DB l segs=true)(hQ:∀c a w,¬Q (.panic c) a w){a:Act}{w:World}(hS:S w)(h:lS P l S Q segs a w):
  wpAny P .any l.toArray Q l.toArray.size (Array.replicate l.toArray.size false) a w:=by
 simp only[DB,aB,db] at hok
 have:=BS _ _ _ _ (pt hok.2 hQ segs _ a w (GU _) hok.1.1 (Or.inl hS) h)
 grind
theorem jC{id:Nat}{a:Act}{w:World}(S:World->Prop)(segs:List (Nat×Nat×Option (Nat×Bool)))(hm:P.follows .mixedOrders=true)(hok:DB l segs=true)(hS:S w.drew)
  (h:lS P l S (NoPanic Q) segs a w.drew):(Code.region id l.toArray true).wp P Q a w:=
 wp_region_noPanic (wp_region_any hm (lr segs hok (λ_ _ _ hp=>hp) hS h))
theorem rY{id:Nat}{a:Act}{w:World}{r:Nat}(S:World->Prop)(segs:List (Nat×Nat×Option (Nat×Bool)))(hm:P.follows .mixedOrders=true)(hok:DB l segs=true)(hn:l.all rL=true)(hQ:¬LetsOut Q)(hS:S w.drew)
  (h:lS P l S (NoPanic Q) segs a w.drew):(Code.region id l.toArray true).wpIn (Fence.wide.inRound r) 0 P Q a w:=by
 refine cD (Q:=NoPanic Q) ?_ NoPanic.imp
 refine wpIn_region_draw λt=>?_
 refine xI (Q:=NoPanic Q) r (λi o ho=>?_) hQ _ _ _ ?_
 .grind
 .simp only[Region.schedule,hm,Bool.true_or,if_true];exact wpAny_sound _ t _ a _ (lr segs hok (λ_ _ _ hp=>hp) hS h)
theorem fR{e:Nat}{o:Oper}{K:Act->World->Prop}{a:Act}{w:World}(ho:l[e]? =some o)(hg:o.guard=none)(h:o.wp P a w K Q):wpOp P l.toArray Q e K a w:=by
 unfold wpOp
 have:l.toArray[e]? =some o:=by grind
 simp only[this]
 rw[aM (by simp[Region.wanted,hg])]
 grind
theorem pC{o:Oper}{K:Act->World->Prop}{a:Act}(w0:World)(s x:Operand)(t e:TypeId)(ho:o.op=.call {callee:=.builtin .append,args:=#[s,x],argTypes:=#[t,t]})
  (base:Nat) (z:Value) (size bytes:Nat) (ht:P.underlying t=some (.slice e)) (hinfo:(P.info? e).map (λi=>(i.zero,i.size,i.bytes))=some (some z,size,bytes)) (hzs:z.cells.size=size) (hsz:0<size)
  (v:Value) (n:Nat) (xs news:List Value) (hs:a.eval s=v) (hown:w0.ownsRow base e size v n xs) (H:Nat) (hH:w0.heap.size=H) (hx:a.eval x=.slice (some ⟨H,0,none⟩) 1 1) (hl:news.length=size) (h1:∀u∈news,u.oneCell'=true)
  (h63:n+1<=maxLen) (hbytes:(n+1)*bytes<=140737488355328) (hbase:base<=w0.heap.size)
  (h:∀g cap w',w'.ownsRow base e size (.slice (some ⟨g,0,none⟩) (n+1) cap) (n+1) (xs++news)->w0.grownBy w' v.ownBlock->(some g=v.ownBlock\/g=H+1)->K (a.put o.dst (.slice (some ⟨g,0,none⟩) (n+1) cap)) w'):
  o.wp P a (w0.alloc (.cells news.toArray e)) K Q:=by
 subst hH
 obtain⟨i,hi,hz,hsize,hby⟩:=info_parts hinfo
 have hnews:∀j u,news[j]? =some u->(w0.alloc (.cells news.toArray e)).cell? ((⟨w0.heap.size,0,none⟩:Addr).add j)=some u:=by
  intro j u hu;have hadd:(⟨w0.heap.size,0,none⟩:Addr).add j=⟨w0.heap.size,j,none⟩:=by unfold Addr.add;grind
  simp_all
 obtain⟨v',w',hrun,h2,h3,h4,h5⟩:=run_append_own_at (P:=P) (w0.alloc (.cells news.toArray e)) base t o.type e i z size bytes ht hi hz hsize hby hzs hsz v n xs (hown.alloc _) ⟨w0.heap.size,0,none⟩ 1 1 news (by omega) hnews h1 h63 hbytes (by simp;omega)
 obtain⟨g,cap,rfl⟩:∃g cap,v'=.slice (some ⟨g,0,none⟩) (n+1) cap:=by
  rcases h2.2 with ⟨_,h0⟩|⟨g,cap,cur,hv,_⟩
  .omega
  grind
 have hg:w0.grownBy w' v.ownBlock:=by
  refine⟨h3.os,h3.tape,h3.output,aT (by simp) h3.size,λk hk hne=>?_⟩;rw[h3.block k (by simp;omega) hne]
  grind[Below.heap_alloc]
 unfold Oper.wp execOp
 simp only[ho,resolve,invoke,builtin,b7,dw,b8,dS,cE,dB,hs,hx,hrun]
 refine h g cap w' h2 hg ?_
 rcases h5 with h5|h5
 .exact Or.inl (by trivial)
 .exact Or.inr (by simpa[Value.ownBlock] using h5)
theorem jI{ops:Array Oper}{rest:List Oper}{o:Oper}{a:Act}(hgd:o.guard=none)(w0:World)(s x:Operand)(t e:TypeId)(ho:o.op=.call {callee:=.builtin .append,args:=#[s,x],argTypes:=#[t,t]})
  (base:Nat) (z:Value) (size bytes:Nat) (ht:P.underlying t=some (.slice e)) (hinfo:(P.info? e).map (λi=>(i.zero,i.size,i.bytes))=some (some z,size,bytes)) (hzs:z.cells.size=size) (hsz:0<size)
  (v:Value) (n:Nat) (xs news:List Value) (hs:a.eval s=v) (hown:w0.ownsRow base e size v n xs) (H:Nat) (hH:w0.heap.size=H) (hx:a.eval x=.slice (some ⟨H,0,none⟩) 1 1) (hl:news.length=size) (h1:∀u∈news,u.oneCell'=true)
  (h63:n+1<=maxLen) (hbytes:(n+1)*bytes<=140737488355328) (hbase:base<=w0.heap.size)
  (h:∀g cap w',w'.ownsRow base e size (.slice (some ⟨g,0,none⟩) (n+1) cap) (n+1) (xs++news)->w0.grownBy w' v.ownBlock->(some g=v.ownBlock\/g=H+1)->wpList P ops Q rest (a.put o.dst (.slice (some ⟨g,0,none⟩) (n+1) cap)) w'):
  wpList P ops Q (o :: rest) a (w0.alloc (.cells news.toArray e)):=
 ee hgd λ_ hK=>pC w0 s x t e ho base z size bytes ht hinfo hzs hsz v n xs news hs hown H hH hx hl h1 h63 hbytes hbase λg cap w' h2 h3 h4=>hK _ _ (h g cap w' h2 h3 h4)
theorem ML(w:World)(base:Nat)(t ty e:TypeId)(z:Value)(bytes:Nat)(ht:P.underlying t=some (.slice e))(hinfo:(P.info? e).map (λi=>(i.zero,i.size,i.bytes))=some (some z,1,bytes))(hzs:z.cells.size=1)
  (v:Value) (n:Nat) (xs:List Value) (hown:w.ownsRow base e 1 v n xs) (A:Option Addr) (m c:Nat) (news:List Value) (hl:news.length=m)
  (hr:∀j u,news[j]? =some u->∃ad,A=some ad/\w.cell? (ad.add j)=some u) (h1:∀u∈news,u.oneCell'=true)
  (h63:n+m<=maxLen) (hbytes:(n+m)*bytes<=140737488355328) (hbase:base<=w.heap.size):
  ∃v' w',(Builtin.append_ #[t,t] ty #[v,.slice A m c]).run P w=.ok v' w'/\w'.ownsRow base e 1 v' (n+m) (xs++news)/\w.grownBy w' v.ownBlock/\(v'.ownBlock=v.ownBlock\/v'.ownBlock=some w.heap.size):=by
 obtain⟨i,hi,hz,hsize,hby⟩:=info_parts hinfo
 rcases A with _|ad
 .have hm:news= []:=by
   cases news with
   |nil=>rfl
   |cons u l=>obtain⟨ad,h,_⟩:=hr 0 u rfl;cases h
  subst hm;simp only[bx] at hl;subst hl;refine⟨v,w,?_,by grind,⟨rfl,rfl,rfl,aj _,λ_ _ _=>rfl⟩,Or.inl rfl⟩;rcases hown.2 with ⟨rfl,rfl⟩|⟨g,cap,cur,rfl,_,_,hnc,_⟩
  .simp[Builtin.append_,bT ht,sizeOf,typeInfo,hi,Builtin.lenOf,Builtin.firstCells]
  .simp[Builtin.append_,bT ht,sizeOf,typeInfo,hi,Builtin.lenOf,Builtin.firstCells,hnc,storeCells]
 .obtain⟨v',w',hrun,h2,h3,_,h5⟩:=run_append_own_at (P:=P) w base t ty e i z 1 bytes ht hi hz hsize hby hzs (by omega) v n xs hown ad m c news (by omega)
   (λj u hu=>by grind) h1 h63 hbytes hbase
  grind
theorem MC{ops:Array Oper}{rest:List Oper}{o:Oper}{a:Act}(w:World)(hgd:o.guard=none)(s x:Operand)(t e:TypeId)(ho:o.op=.call {callee:=.builtin .append,args:=#[s,x],argTypes:=#[t,t]})
  (base:Nat) (z:Value) (bytes:Nat) (ht:P.underlying t=some (.slice e)) (hinfo:(P.info? e).map (λi=>(i.zero,i.size,i.bytes))=some (some z,1,bytes)) (hzs:z.cells.size=1)
  (v:Value) (n:Nat) (xs:List Value) (hs:a.eval s=v) (hown:w.ownsRow base e 1 v n xs) (A:Option Addr) (m c:Nat) (hx:a.eval x=.slice A m c) (news:List Value) (hl:news.length=m)
  (hr:∀j u,news[j]? =some u->∃ad,A=some ad/\w.cell? (ad.add j)=some u) (h1:∀u∈news,u.oneCell'=true)
  (h63:n+m<=maxLen) (hbytes:(n+m)*bytes<=140737488355328) (hbase:base<=w.heap.size)
  (h:∀v' w',w'.ownsRow base e 1 v' (n+m) (xs++news)->w.grownBy w' v.ownBlock->(v'.ownBlock=v.ownBlock\/v'.ownBlock=some w.heap.size)->wpList P ops Q rest (a.put o.dst v') w'):
  wpList P ops Q (o :: rest) a w:=by
 refine ee hgd λK hK=>?_
 obtain⟨v',w',hrun,h2,h3,h4⟩:=ML (P:=P) w base t o.type e z bytes ht hinfo hzs v n xs hown A m c news hl hr h1 h63 hbytes hbase
 unfold Oper.wp execOp
 simp only[ho,resolve,invoke,builtin,b7,dw,b8,dS,cE,dB,hs,hx,hrun]
 exact hK _ _ (h v' w' h2 h3 h4)
end
end

section
open Go.RowKit
theorem LN{α:Type}(cs:α->List Value)(size:Nat)(hs:∀x,(cs x).length=size)(l:List α)(k j:Nat)(hj:j<size)(x:α)(hx:l[k]? =some x):(l.flatMap cs)[k*size+j]? =(cs x)[j]?:=by
 induction l generalizing k with
 |nil=>grind
 |cons y l ih=>
  cases k with
  |zero=>
   grind
  |succ k=>
   grind
theorem vL{α:Type}(cs:α->List Value)(size:Nat)(hs:∀x,(cs x).length=size)(l:List α):(l.flatMap cs).length=l.length*size:=by
 induction l with
 |nil=>simp
 |cons y l ih=>grind
theorem NS{α:Type}(l:List α)(k:Nat)(d:α)(h:k<l.length):l.take (k+1)=l.take k++ [l.getD k d]:=by
 simp_all
def tI{α:Type}(size:Nat)(cs:α->List Value)(w:World)(a:Option Addr)(n:Nat)(ls:List α):Prop:=
 ls.length=n/\n<=17592186044416/\∀k x,ls[k]? =some x->∃b o,a=some ⟨b,o,none⟩/\∀j,j<size->w.cell? ⟨b,o+k*size+j,none⟩=(cs x)[j]?
section
variable {α:Type} {size:Nat} {cs:α->List Value} {w w':World} {a:Option Addr} {n:Nat} {ls:List α}
theorem tI.ext(h:tI size cs w a n ls)(hs:∀x,(cs x).length=size)(hb:Below w.heap.size w w'):tI size cs w' a n ls:=
 ⟨h.1,h.2.1,λk x hx=>by
  obtain⟨b,o,e,hc⟩:=h.2.2 k x hx
  grind[fZ]⟩
theorem tI.nil(size:Nat)(cs:α->List Value)(w:World):tI size cs w none 0 []:=⟨rfl,by omega,λk x hx=>by grind⟩
theorem tI.at_(h:tI size cs w a n ls){k:Nat}(hk:k<n)(d:α):∃b o,a=some ⟨b,o,none⟩/\∀j,j<size->w.cell? ⟨b,o+k*size+j,none⟩=(cs (ls.getD k d))[j]?:=by
 have hk':k<ls.length:=by rw[h.1];omega
 obtain⟨b,o,e,hc⟩:=h.2.2 k (ls.getD k d) (by grind)
 grind
theorem WZ{base:Nat}{e:TypeId}{v:Value}(hs:∀x,(cs x).length=size)(h:w.ownsRow base e size v ls.length (ls.flatMap cs))(hl:ls.length<=17592186044416):∃a c,v=.slice a ls.length c/\tI size cs w a ls.length ls/\∀g o s,a=some ⟨g,o,s⟩->base<=g:=by
 rcases h.2 with ⟨rfl,h0⟩|⟨g,cap,cur,rfl,hb,_⟩
 .have:ls= []:=da h0;subst this;exact⟨none,0,rfl,⟨rfl,hl,λk x hx=>by grind⟩,λg o s e=>by cases e⟩
 .refine⟨some ⟨g,0,none⟩,cap,rfl,⟨rfl,hl,λk x hx=>⟨g,0,rfl,λj hj=>?_⟩⟩,λg' o s e=>?_⟩
  .have hk:=(aE.1 hx).1;have hlt:k*size+j<ls.length*size:=by
    have:(k+1)*size<=ls.length*size:=ef _ hk
    grind
   rw[bQ,dH h (k*size+j) hlt,LN cs size hs ls k j hj x hx]
  grind
end
end

section
open Go.RowKit
theorem rN(b o m:Nat):(⟨b,o,none⟩:Addr).add m=⟨b,o+m,none⟩:=by
 unfold Addr.add
 simp
section
variable {P:Program} {Q:Exit->Act->World->Prop}
theorem yD(w:World)(base:Nat)(t ty e:TypeId)(z:Value)(size bytes:Nat)(ht:P.underlying t=some (.slice e))(hinfo:(P.info? e).map (λi=>(i.zero,i.size,i.bytes))=some (some z,size,bytes))(hzs:z.cells.size=size)(hsz:0<size)
  (v:Value) (n:Nat) (xs:List Value) (hown:w.ownsRow base e size v n xs) (A:Option Addr) (m c:Nat) (news:List Value) (hl:news.length=m*size)
  (hr:∀j u,news[j]? =some u->∃ad,A=some ad/\w.cell? (ad.add j)=some u) (h1:∀u∈news,u.oneCell'=true)
  (h63:n+m<=maxLen) (hbytes:(n+m)*bytes<=140737488355328) (hbase:base<=w.heap.size):
  ∃v' w',(Builtin.append_ #[t,t] ty #[v,.slice A m c]).run P w=.ok v' w'/\w'.ownsRow base e size v' (n+m) (xs++news)/\w.grownBy w' v.ownBlock/\(v'.ownBlock=v.ownBlock\/v'.ownBlock=some w.heap.size):=by
 obtain⟨i,hi,hz,hsize,hby⟩:=info_parts hinfo
 rcases A with _|ad
 .have hm:news= []:=by
   cases news with
   |nil=>rfl
   |cons u l=>obtain⟨ad,h,_⟩:=hr 0 u rfl;cases h
  subst hm;obtain rfl:m=0:=by
   grind[Nat.mul_eq_zero]
  refine⟨v,w,?_,by grind,⟨rfl,rfl,rfl,aj _,λ_ _ _=>rfl⟩,Or.inl rfl⟩;rcases hown.2 with ⟨rfl,rfl⟩|⟨g,cap,cur,rfl,_,_,hnc,_⟩
  .simp[Builtin.append_,bT ht,sizeOf,typeInfo,hi,Builtin.lenOf,Builtin.firstCells]
  .simp[Builtin.append_,bT ht,sizeOf,typeInfo,hi,Builtin.lenOf,Builtin.firstCells,hnc,storeCells]
 .obtain⟨v',w',hrun,h2,h3,_,h5⟩:=run_append_own_at (P:=P) w base t ty e i z size bytes ht hi hz hsize hby hzs hsz v n xs hown ad m c news hl
   (λj u hu=>by grind) h1 h63 hbytes hbase
  grind
theorem rO{ops:Array Oper}{rest:List Oper}{o:Oper}{a:Act}(w:World)(hgd:o.guard=none)(s x:Operand)(t e:TypeId)(ho:o.op=.call {callee:=.builtin .append,args:=#[s,x],argTypes:=#[t,t]})
  (base:Nat) (z:Value) (size bytes:Nat) (ht:P.underlying t=some (.slice e)) (hinfo:(P.info? e).map (λi=>(i.zero,i.size,i.bytes))=some (some z,size,bytes)) (hzs:z.cells.size=size) (hsz:0<size)
  (v:Value) (n:Nat) (xs:List Value) (hs:a.eval s=v) (hown:w.ownsRow base e size v n xs) (A:Option Addr) (m c:Nat) (hx:a.eval x=.slice A m c) (news:List Value) (hl:news.length=m*size)
  (hr:∀j u,news[j]? =some u->∃ad,A=some ad/\w.cell? (ad.add j)=some u) (h1:∀u∈news,u.oneCell'=true)
  (h63:n+m<=maxLen) (hbytes:(n+m)*bytes<=140737488355328) (hbase:base<=w.heap.size)
  (h:∀v' w',w'.ownsRow base e size v' (n+m) (xs++news)->w.grownBy w' v.ownBlock->(v'.ownBlock=v.ownBlock\/v'.ownBlock=some w.heap.size)->wpList P ops Q rest (a.put o.dst v') w'):
  wpList P ops Q (o :: rest) a w:=by
 refine ee hgd λK hK=>?_
 obtain⟨v',w',hrun,h2,h3,h4⟩:=yD (P:=P) w base t o.type e z size bytes ht hinfo hzs hsz v n xs hown A m c news hl hr h1 h63 hbytes hbase
 unfold Oper.wp execOp
 simp only[ho,resolve,invoke,builtin,b7,dw,b8,dS,cE,dB,hs,hx,hrun]
 exact hK _ _ (h v' w' h2 h3 h4)
end
theorem iJ.news{w:World}{a:Option Addr}{n:Nat}{xs:List Int}(h:iJ w a n xs):∀j u,(xs.map (Value.int .i64))[j]? =some u->∃ad,a=some ad/\w.cell? (ad.add j)=some u:=by
 intro j u hu
 rw[dt,fq] at hu
 obtain⟨x,hx,rfl⟩:=hu
 have hlt:=(aE.1 hx).1
 obtain⟨b,o,e,hc,_⟩:=h.2.2 j (by rw[<-h.1];omega)
 grind[rN]
theorem tI.news{α:Type}{size:Nat}{cs:α->List Value}{w:World}{a:Option Addr}{n:Nat}{ls:List α}(h:tI size cs w a n ls)(hs:∀x,(cs x).length=size)(hpos:0<size):∀j u,(ls.flatMap cs)[j]? =some u->∃ad,a=some ad/\w.cell? (ad.add j)=some u:=by
 intro j u hu
 have hlt:=(aE.1 hu).1
 rw[vL cs size hs] at hlt
 have hk:j/size<ls.length:=Nat.div_lt_of_lt_mul (by grind)
 have hj:j%size<size:=Nat.mod_lt _ hpos
 have em:j=j/size*size+j%size:=by simp[Nat.mul_comm,Nat.div_add_mod]
 obtain⟨b,o,e,hc⟩:=h.2.2 (j/size) ls[j/size] (ah hk)
 refine⟨_,e,?_⟩
 rw[rN,show o+j=o+j/size*size+j%size by omega,hc _ hj,<-LN cs size hs ls _ _ hj _ (ah hk),<-em]
 omega
end

section
open Go.RowKit
theorem pY:(Tryz.prog.info? 3).map (λi=>(i.zero,i.size,i.bytes))=some (some (.int .i64 0),1,8):=by kernel_rfl
def fP(xs:List Int):List Value:=xs.map (Value.int .i64)
theorem GL(xs:List Int):(fP xs).length=xs.length:=by simp[fP]
theorem zR(xs:List Int):∀u∈fP xs,u.oneCell'=true:=by
 intro u hu
 simp only[fP,a8] at hu
 obtain⟨x,_,rfl⟩:=hu
 rfl
def gD(w:World)(base:Nat)(v:Value)(xs:List Int):Prop:=w.ownsRow base 3 1 v xs.length (fP xs)/\(∀x∈xs,I64 x)/\xs.length<=17592186044416
theorem gD.nil(w:World)(base:Nat):gD w base (.slice none 0 0) []:=⟨ft _ _ _ _,by simp,by simp⟩
theorem gD.mono{w:World}{base base':Nat}{v:Value}{xs:List Int}(h:gD w base v xs)(hb:base'<=base):gD w base' v xs:=by
 refine⟨⟨h.1.1,?_⟩,h.2⟩
 rcases h.1.2 with h0|⟨g,cap,cur,hv,h1,r⟩
 .exact .inl h0
 .exact .inr ⟨g,cap,cur,hv,aT hb h1,r⟩
theorem gD.kept{w w':World}{base:Nat}{v:Value}{xs:List Int}{row:Option Nat}(h:gD w base v xs)(hg:w.grownBy w' row)(hne:v.ownBlock=none\/v.ownBlock≠row):gD w' base v xs:=⟨h.1.kept hg hne,h.2⟩
theorem gD.ext{w w':World}{base:Nat}{v:Value}{xs:List Int}(h:gD w base v xs)(hb:Below w.heap.size w w'):gD w' base v xs:=by
 refine⟨h.1.kept (row:=none) ⟨hb.os,hb.tape,hb.output,hb.size,λk hk _=>hb.block k hk⟩ ?_,h.2⟩
 cases h1:v.ownBlock with
 |none=>exact .inl rfl
 |some k=>exact .inr (by simp)
theorem gD.form{w:World}{base:Nat}{v:Value}{xs:List Int}(h:gD w base v xs):∃a c,v=.slice a xs.length c:=by
 rcases h.1.2 with ⟨rfl,h0⟩|⟨g,cap,cur,hv,_⟩
 .have h0:xs.length=0:=h0;rw[h0];exact⟨none,0,rfl⟩
 .exact⟨_,_,hv⟩
theorem gD.ints{w:World}{base:Nat}{a:Option Addr}{n c:Nat}{xs:List Int}(h:gD w base (.slice a n c) xs):iJ w a n xs:=by
 rcases h.1.2 with ⟨hv,h0⟩|⟨g,cap,cur,hv,_⟩
 .injection hv with e1 e2 e3;subst e1 e2;have h0:xs.length=0:=h0;exact⟨h0,by omega,λk hk=>by omega⟩
 .injection hv with e1 e2 e3;subst e1 e2 e3;exact Ae h.1 h.2.1 h.2.2
theorem gD.cap{w:World}{base:Nat}{a:Option Addr}{n c:Nat}{xs:List Int}(h:gD w base (.slice a n c) xs):n<=c/\c<=9223372036854775807/\n=xs.length:=by
 rcases h.1.2 with ⟨hv,h0⟩|⟨g,cap,cur,hv,_,_,h1,h2,_⟩
 .injection hv with e1 e2 e3;subst e1 e2 e3;exact⟨by omega,by omega,by rw[show xs.length=0 from h0]⟩
 .injection hv with e1 e2 e3;subst e1 e2 e3;unfold maxLen at h2;exact⟨h1,by omega,rfl⟩
def mT(w:World)(xs:List Int)(e:Ending)(w':World):Prop:=∃v,e=.returned v/\gD w' w.heap.size v xs/\Below w.heap.size w w'
theorem JY{W:World}{g:Nat}{xs:List Int}(hg:W.heap.size=g)(base:Nat)(hb:base<=g)(hx:∀x∈xs,I64 x)(hn:xs.length<=1000):gD (W.alloc (.cells (fP xs).toArray 3)) base (.slice (some ⟨g,0,none⟩) xs.length xs.length) xs:=by
 subst hg
 refine⟨?_,hx,by omega⟩
 have:=World.ownsRow_lit (base:=base) (e:=3) (size:=1) W (fP xs).toArray xs.length hb (by unfold maxLen;omega) (by simp[fP])
 simpa using this
theorem vV(a:Option Addr)(n c:Nat)(xs:List Int)(w:World)(h:iJ w a n xs):
  Calls Tryz.prog 164 #[.slice a n c] w (mT w xs):=by
 have HL:=ac h.1
 have hn:=h.2.1
 have HM:=ac h.mem
 have H:=ac h
 clear h
 cases a with
 |none=>
  have hq:=λw n c n' c'=>dX (P:=Tryz.prog) w 22 3 none n c n' c' be
  go_enter Tryz.func164,Tryz.ntmps164
  go_wp2
  go_ret
  have h0:xs= []:=by
   cases xs with
   |nil=>rfl
   |cons r l=>obtain⟨b,o,e,_⟩:=H.out.2.2 0 (by rw[<-HL.out];simp);cases e
  subst h0;exact⟨_,rfl,gD.nil _ _,ag _ _⟩
 |some ad=>
  have hq:=λw n c n' c'=>dX (P:=Tryz.prog) w 22 3 (some ad) n c n' c' be
  go_enter Tryz.func164,Tryz.ntmps164
  go_wp2_with (at_builtin;go_loud (refine rO (w.alloc (.cells #[] 3)) rfl (.tmp 5) (.tmp 6) 22 3 rfl w.heap.size _ 1 8 be pY rfl (by omega) (.slice (some ⟨w.heap.size,0,none⟩) 0 0) 0 [] rfl (World.ownsRow_lit w #[] 0 (by omega) (by unfold maxLen;omega) rfl) (some ad) n c rfl (fP xs) (by rw[GL,HL.out,fm]) ((H.out.ext ((ag _ w).alloc (aj _) _)).news) (zR xs) (by unfold maxLen;omega) (by omega) (by simp) ?_);intro v' w1 ho1 hg1 hv1;have HO1:=ac ho1;have HG1:=ac hg1;clear ho1 hg1 hv1)
  go_ret
  have ho:=HO1.out;rw[bQ,bD,<-HL.out] at ho;exact⟨_,rfl,⟨ho,HM.out,by rw[HL.out];exact hn⟩,((ag _ w).alloc (aj _) _).grown HG1.out (by simp) (λk hk=>by simp[Value.ownBlock] at hk;omega)⟩
end

section
open Go.RowKit
attribute [local go_sem] Oper.semAt_some
abbrev wT(x:Int):Value:=.int .i64 x
def YW(v:Value):Int:=match v with| .int _ x=>x|_=>0
abbrev Cs:Value:=.int .i64 1
theorem GP(x:Int):∀(l:List MapEntry) (i:Nat),(∀e∈l,e.key=wT (YW e.key))->
  (x∉l.map (λe=>YW e.key)/\Instr.findNow (.int .i64) (wT x) l i=some none)\/
  ∃j e,l[j]? =some e/\YW e.key=x/\Instr.findNow (.int .i64) (wT x) l i=some (some (i+j,e.val))
 | [],i,_=>.inl ⟨by simp,rfl⟩
 |e :: l,i,h=>by
  have he:=h e (by simp);generalize hj:YW e.key=j at he;have he:e.key=.int .i64 j:=he;by_cases hx:x=j
  .subst hx;exact .inr ⟨0,e,rfl,hj,by simp[Instr.findNow,Instr.sameNow,wT,he]⟩
  .have hb:(x==j)=false:=by simpa using hx
   rcases GP x l (i+1) (λe' he'=>h e' (by simp[he'])) with ⟨h1,h2⟩|⟨m,e',h0,h1,h2⟩
   .refine .inl ⟨by simp only[cE,aS,not_or];exact⟨by rw[hj];exact hx,h1⟩,?_⟩;unfold wT at h2;simp[Instr.findNow,Instr.sameNow,wT,he,hb,h2]
   .refine .inr ⟨m+1,e',by simpa using h0,h1,?_⟩;unfold wT at h2;simp[Instr.findNow,Instr.sameNow,wT,he,hb,h2];omega
theorem TD(em:Bool)(n:Nat)(x:Int)(w:World):(Instr.checkKey em (n+1) 3 (wT x)).run Tryz.prog w=.ok () w:=by
 simp[Instr.checkKey,bT bP,wT]
theorem Bp:mz Tryz.prog 3 wT YW where
 find x w l h:=by
  rcases GP x l 0 h with ⟨h1,h2⟩|⟨j,e,h0,h1,h2⟩
  .exact .inl ⟨h1,by simp[Instr.findKey,bT bP,h2]⟩
  .exact .inr ⟨j,e,h0,h1,by simp[Instr.findKey,bT bP,h2]⟩
 check em x w:=TD em _ x w
 bits x:=by
  have h:∀n,Instr.sameBits n (wT x) (wT x)=true:=λn=>by cases n<;>simp[Instr.sameBits,wT]
  exact h _
 dec x:=rfl
theorem JH:Tryz.prog.underlying 77=some (.map 3 3):=Tryz.underlying77
abbrev Cy(w:World)(b:Nat)(L:List Int):Prop:=oB wT YW Cs w b L
abbrev Bh(w:World)(b r:Nat)(L R:List Int):Prop:=pS wT YW Cs w b r L R
def jU(w:World)(b:Nat)(p:Int->Prop):Prop:=∃L,Cy w b L/\∀y,y∈L↔p y
theorem jU.kept{w w':World}{b:Nat}{p:Int->Prop}(h:jU w b p)(hb:w'.heap[b]? =w.heap[b]?):jU w' b p:=let ⟨L,h1,h2⟩:=h;⟨L,h1.of_block hb,h2⟩
theorem jU.lt{w:World}{b:Nat}{p:Int->Prop}(h:jU w b p):b<w.heap.size:=let ⟨_,h1,_⟩:=h;h1.lt
theorem jU.congr{w:World}{b:Nat}{p q:Int->Prop}(h:jU w b p)(e:∀y,p y↔q y):jU w b q:=let ⟨L,h1,h2⟩:=h;⟨L,h1,λy=>(h2 y).trans (e y)⟩
def Bb(w:World)(b:Nat)(q:Int->Prop)(e:Ending)(w':World):Prop:=e=.returned (.tuple #[])/\jU w' b q/\w.grownBy w' (some b)
theorem oI(b:Nat)(p:Int->Prop)(a:Option Addr)(n c:Nat)(xs:List Int)(w:World)(h:jU w b p)(hx:iJ w a n xs):
  Calls Tryz.prog 37 #[.map (some b),.slice a n c] w (Bb w b λy=>p y\/y∈xs):=by
 have HV:=ac h
 have HX:=ac hx
 have hn:=hx.2.1
 clear h hx
 go_enter Tryz.func37,Tryz.ntmps37
 go_wp2
 go_loopw [5,8] (λ_ i wr=>∃k:Nat,i=.int .i64 k/\k<=n/\Hid (jU wr b λy=>p y\/y∈xs.take k)/\Hid (w.grownBy wr (some b))) (λ_ i _=>n-(intOf i).toNat)
 case atStart=>exact⟨0,rfl,by omega,HV.out.congr λy=>by simp,⟨rfl,rfl,rfl,aj _,λ_ _ _=>rfl⟩⟩
 case round=>
  obtain⟨k,rfl,hk,HR,HG⟩:=hrel;by_cases hlt:k<n
  .obtain⟨g,o,rfl,hcell,hw1,hw2⟩:=HX.out.2.2 k hlt;have hy:xs[k]? =some (xs.getD k 0):=by rw[ak,ah (by rw[HX.out.1];exact hlt)];rfl
   have HT:Hid (∀y,y∈xs.take (k+1)↔y∈xs.take k\/y=xs.getD k 0):=λy=>by rw[bL,hy];simp
   have hne:g≠b:=by
    obtain⟨L,h1,_⟩:=HV.out;exact oB.nocell h1 hcell
   have hc2:wr.cell? ⟨g,o+k,none⟩=some (.int .i64 (xs.getD k 0)):=by
    have:=HG.out.block g (bA _ _ hcell) (by simpa using hne);rw[<-hcell];unfold World.cell?;simp only[this]
   clear hcell hy;generalize xs.getD k 0=y at *;obtain⟨L,hL,hm⟩:=HR.out;have HL:=ac hL;have HM:=ac hm;clear hL hm
   go_wp2_with ((with_reducible show wpList _ _ _ (⟨none,.mapUpdate _ _ _ _,_,_,_,_⟩ :: _) _ _);refine WL rfl _ _ _ rfl Bp JH HL.out rfl y rfl rfl ?_;intro w2 L2 hs2 hm2 hg2 hz2)
   have HS2:=ac hs2;have HM2:=ac hm2;have HG2:=ac (HG.out.andThen hg2 λj hj=>.inr hj);clear hs2 hm2 hg2 hz2 hc2
   go_roundw
   case rel=>exact⟨k+1,by go_num,by omega,⟨L2,HS2.out,λz=>by show z∈L2↔p z\/z∈xs.take (k+1);rw[HM2.out z,HM.out z,HT.out z,eO]⟩,HG2⟩
   case measure=>simp[intOf];omega
  .obtain rfl:k=n:=by omega
   go_wp2
   go_end0
   exact⟨rfl,HR.out.congr λy=>by rw[bC (by rw[HX.out.1];exact aj _)],HG.out⟩
end

section
open Go.RowKit
def iP{α:Type}(e:TypeId)(size:Nat)(cs:α->List Value)(w:World)(base:Nat)(v:Value)(ls:List α):Prop:=w.ownsRow base e size v ls.length (ls.flatMap cs)/\ls.length<=17592186044416
section
variable {α:Type} {e:TypeId} {size:Nat} {cs:α->List Value} {w w':World} {base base':Nat} {v:Value} {ls:List α}
theorem iP.nil(e:TypeId)(size:Nat)(cs:α->List Value)(w:World)(base:Nat):iP e size cs w base (.slice none 0 0) []:=⟨ft _ _ _ _,by simp⟩
theorem iP.mono(h:iP e size cs w base v ls)(hb:base'<=base):iP e size cs w base' v ls:=by
 refine⟨⟨h.1.1,?_⟩,h.2⟩
 rcases h.1.2 with h0|⟨g,cap,cur,hv,h1,r⟩
 .grind
 .exact .inr ⟨g,cap,cur,hv,aT hb h1,r⟩
theorem iP.kept{row:Option Nat}(h:iP e size cs w base v ls)(hg:w.grownBy w' row)(hne:v.ownBlock=none\/v.ownBlock≠row):iP e size cs w' base v ls:=⟨h.1.kept hg hne,h.2⟩
theorem iP.ext(h:iP e size cs w base v ls)(hb:Below w.heap.size w w'):iP e size cs w' base v ls:=by
 refine⟨h.1.kept (row:=none) ⟨hb.os,hb.tape,hb.output,hb.size,λk hk _=>hb.block k hk⟩ ?_,h.2⟩
 grind
theorem iP.form(h:iP e size cs w base v ls):∃a c,v=.slice a ls.length c:=by
 rcases h.1.2 with ⟨rfl,h0⟩|⟨g,cap,cur,hv,_⟩
 .grind
 grind
theorem iP.recs{a:Option Addr}{n c:Nat}(hs:∀x,(cs x).length=size)(h:iP e size cs w base (.slice a n c) ls):tI size cs w a n ls:=by
 obtain⟨a',c',e1,e2,_⟩:=WZ hs h.1 h.2
 grind
theorem iP.low{k:Nat}(h:iP e size cs w base v ls)(hk:v.ownBlock=some k):base<=k/\k<w.heap.size:=⟨(h.1.lt k hk).1,(h.1.lt k hk).2⟩
theorem fG.ownR(D base:Nat)(v:Value)(ls:List α):fG D (λW=>iP e size cs W base v ls):=(fG.ownsRow _ _ _ _ _ _ _).and (fG.pure _ _)
end
def TV(B:Nat)(ty:TypeId)(W:World)(k:Nat):Prop:=k=B\/∃v,W.heap[B]? =some (.cells #[v] ty (0,0))/\v.ownBlock=some k
theorem TV.ext{B:Nat}{ty:TypeId}{W W':World}(h:W'.heap[B]? =W.heap[B]?){k:Nat}(ht:TV B ty W' k):TV B ty W k:=by
 rcases ht with ht|⟨v,hv,hk⟩
 .exact .inl ht
 .exact .inr ⟨v,h▸hv,hk⟩
theorem kx{W W':World}{B:Nat}{ty:TypeId}{v v':Value}(hB:W.heap[B]? =some (.cells #[v] ty (0,0)))(hB':W'.heap[B]? =some (.cells #[v'] ty (0,0)))(hs:W.heap.size<=W'.heap.size)
  (hk:∀k,k<W.heap.size->k≠B->v.ownBlock≠some k->W'.heap[k]? =W.heap[k]?) (ho:∀k,v'.ownBlock=some k->v.ownBlock=some k\/W.heap.size<=k):Tch (TV B ty) W W':=by
 refine⟨hs,λk h1 h2=>hk k h1 (λe=>h2 (.inl e)) (λe=>h2 (.inr ⟨v,hB,e⟩)),λk ht=>?_⟩
 rcases ht with ht|⟨u,hu,huk⟩
 .exact .inl (.inl ht)
 .rw[hB'] at hu;obtain⟨rfl,_⟩:=hu;rcases ho k huk with h|h
  .exact .inl (.inr ⟨v,hB,h⟩)
  omega
theorem EP{W W':World}{B:Nat}{ty:TypeId}(hB:B<W.heap.size)(hb:Below W.heap.size W W'):Tch (TV B ty) W W':=
 ⟨hb.size,λk hk _=>hb.block k hk,λ_ ht=>.inl (ht.ext (hb.block B hB))⟩
section
variable {P:Program}
theorem SI{α:Type}{g:Operand}{ps:Array Tmp}{assign body:Code}{Q:Exit->Act->World->Prop}{a:Act}{w:World}{gf:Nat}{lb:Array Value}
  (hg:a.eval g=.func (.func gf) #[] lb) (eg:∀args w,(callFunc gf args).run P w=.ok (.enter gf args) w)
  {enc:α->Array Value} {l:List α} (I:World->Prop) (hit:tj P gf lb enc l I) (hps:∀x,(enc x).size=ps.size)
  (J:List α->List α->World->Prop) (Jx:Code->World->Prop)
  (hJ:∀d r,fG w.heap.size (J d r)) (hJx:∀c,fG w.heap.size (Jx c)) (hInv:∀d r W,J d r W->I W)
  (T:World->Nat->Prop) (hT0:∀d r W k,J d r W->T W k->k<W.heap.size) (hTg:∀W W' row,W.grownBy W' row->(∀q,row=some q->w.heap.size<=q/\∃o:Obj,W.heap[q]? =some o/\nH o=true)->(∃d r,J d r W)->∀k,T W' k->T W k)
  (h0:J [] l w)
  (hround:∀(lp:Nat) (d:List α) (x:α) (r:List α) (W:World),l=d++x :: r->J d (x :: r) W->
    assign.wpIn (Fence.wide.inRound lp) 0 P (Exit.then (λa1 W1=>gC W W1/\J d (x :: r) W1/\Tch T W W1/\∃G:World->Prop,fG w.heap.size G/\G W1/\∀(lp:Nat) (W2:World),J d (x :: r) W2->G W2->
     body.wpIn (Fence.wide.inRound lp) 0 P (iQ (λW'=>gC W2 W'/\J (d++ [x]) r W'/\Tch T W2 W') (λc W'=>gC W2 W'/\Jx c W')) a1 W2) (λ_ _ _=>False)) {tmps:=(ps.zip (enc x)).foldl (λt (p,v)=>t.setIfInBounds p v) a.tmps,defers:= []} W)
  (hdone:∀(D:Nat) (W:World),w.heap.size<=D->J l [] W->W.heap[D]? =some (.deferred (some []))->Q .normal {a with defers:={target:=.collected D,args:=#[]} :: a.defers} W)
  (hstop:∀(D:Nat) (c:Code) (W:World),w.heap.size<=D->Jx c W->W.heap[D]? =some (.deferred (some []))->c.wpIn Fence.wide 0 P Q {a with defers:={target:=.collected D,args:=#[]} :: a.defers} W):
  (Code.rangeFunc g ps assign body).wpIn Fence.wide 0 P Q a w:=by
 refine SD (enc:=enc) hg eg hit hps (λs W=>∃d,l=d++s/\J d s W) Jx
  (λs x a1 W=>∃G:World->Prop,fG w.heap.size G/\G W/\∀(d:List α) (lp:Nat) (W2:World),l=d++s->J d s W2->G W2->body.wpIn (Fence.wide.inRound lp) 0 P (iQ (λW'=>gC W2 W'/\J (d++ [x]) (nxL s x) W'/\Tch T W2 W') (λc W'=>gC W2 W'/\Jx c W')) a1 W2)
  (λs=>fG.ex λd=>(fG.pure _ _).and (hJ d s)) hJx (λ_ _ _=>λW W' row h hg hr=>let ⟨G,h1,h2,h3⟩:=h;⟨G,h1,h1 W W' row h2 hg hr,h3⟩) (λs W ⟨d,_,h⟩=>hInv d s W h) T (λs W k ⟨d,_,h⟩ ht=>hT0 d s W k h ht) (λW W' row hg hr ⟨s,d,_,h⟩=>hTg W W' row hg hr ⟨d,s,h⟩) ⟨[],rfl,h0⟩ ?_ ?_ ?_ hstop
 .rintro lp s x W hok ⟨d,hd,hj⟩;have hs:=lL hok;generalize nxL s x=r at hs|-;subst hs;refine cD (hround lp d x r W hd hj) ?_;rintro e a1 W1 he;cases e with
  |normal=>
   obtain⟨h1,h2,hT1,G,h4,h5,h3⟩:=he;refine⟨h1,⟨d,hd,h2⟩,⟨G,h4,h5,λd' lp' W2 hd' hj' hG'=>?_⟩,hT1⟩;have:d'=d:=by
    have:=hd'.symm.trans hd;exact cW this
   subst this;exact h3 lp' W2 hj' hG'
  |_=>exact he.elim
 .rintro lp s x a1 W hok ⟨d,hd,hj⟩ ⟨G,_,hG,hA⟩;refine cD (hA d lp W hd hj hG) ?_;rintro e a3 W3 he;cases e with
  |normal=>
   refine⟨he.1,⟨d++ [x],?_,he.2.1⟩,he.2.2⟩;rw[hd,cd]
   congr 1
   exact lL hok
  |ret=>exact he
  |exit id=>exact he
  |goto t=>exact he
  |panic ch=>exact he.elim
  |outgrown=>exact he.elim
 .rintro D s W hD hf ⟨d,hd,hj⟩ hk;subst hf;rw[ct] at hd;subst hd;exact hdone D W hD hj hk
end
end
end Go.Proofs.YtbknbcmppdglhaaGreatDoor
