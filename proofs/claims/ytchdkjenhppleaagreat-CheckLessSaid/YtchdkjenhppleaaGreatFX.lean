/-
 Ranges over functions whose iterator goes over a map:it turns an iterator of its own. No program in sight. (Printed by gen_rangem.py out of XRange,XRangeT.)
-/
import Derived.Test.YtchdkjenhppleaaGreatA0
import Derived.Test.YtchdkjenhppleaaGreatKD
import Derived.Test.YtchdkjenhppleaaGreatKQ
import Derived.OwnWalkIn
import Derived.Shelf.SlSortCmp.WholeK
import Derived.Test.YtchdkjenhppleaaGreatFP
import Derived.Deep.LoopGhost
namespace Go.Proofs.YtchdkjenhppleaaGreat
set_option linter.unusedSimpArgs false
set_option linter.unusedVariables false
set_option linter.unusedSectionVars false
set_option maxRecDepth 100000
set_option maxHeartbeats 40000000
section
open Go.RowKit
def VP:Obj->Bool
 | .mapIter _ _ _ _=>true
 |_=>false
def MJ(o:Obj):Bool:=nR o||VP o
def fI(B:Nat)(J:World->Prop):Prop:=
 ∀W W' row,J W->W.grownBy W' row->(∀r,row=some r->B<=r/\∃o:Obj,W.heap[r]? =some o/\MJ o=true)->J W'
theorem fI.pure(B:Nat)(p:Prop):fI B (λ_=>p):=λ_ _ _ h _ _=>h
theorem fI.and{B:Nat}{J J':World->Prop}(h:fI B J)(h':fI B J'):fI B (λW=>J W/\J' W):=
 λW W' row hj hg hr=>⟨h W W' row hj.1 hg hr,h' W W' row hj.2 hg hr⟩
theorem fI.ex{B:Nat}{α:Sort _}{J:α->World->Prop}(h:∀x,fI B (J x)):fI B (λW=>∃x,J x W):=
 λW W' row ⟨x,hj⟩ hg hr=>⟨x,h x W W' row hj hg hr⟩
theorem CE{W W':World}{row:Option Nat}{B k:Nat}{o:Obj}(hk:W.heap[k]? =some o)(ho:MJ o=false)(hg:W.grownBy W' row)
  (hr:∀r,row=some r->B<=r/\∃o:Obj,W.heap[r]? =some o/\MJ o=true):W'.heap[k]? =some o:=by
 refine(hg.block k (am.1 hk).1 (λe=>?_)).trans hk
 grind
theorem fI.block(B k:Nat){o:Obj}(ho:MJ o=false):fI B (λW=>W.heap[k]? =some o):=λ_ _ _ h hg hr=>CE h ho hg hr
theorem fI.below{n₀ B:Nat}{w₀:World}(hn:n₀<=w₀.heap.size)(hB:n₀<=B):fI B (λW=>Below n₀ w₀ W):=
 λ_ _ _ hs hg hr=>hs.grown hg (bP hn hs.size) (λk e=>bP hB (hr k e).1)
theorem fI.ownsRow(B:Nat)(base:Nat)(e:TypeId)(size:Nat)(v:Value)(n:Nat)(xs:List Value):fI B (λW=>W.ownsRow base e size v n xs):=
 λW W' row h hg hr=>by
  refine⟨h.1,?_⟩;rcases h.2 with h2|⟨g,cap,cur,hv,hb,hh,r⟩
  .grind
  .exact Or.inr ⟨g,cap,cur,hv,hb,CE hh rfl hg hr,r⟩
theorem fI.ext{B:Nat}{J:World->Prop}(h:fI B J){W W':World}(hj:J W)(hb:Below W.heap.size W W'):J W':=
 h W W' none hj ⟨hb.os,hb.tape,hb.output,hb.size,λk hk _=>hb.block k hk⟩ (λr e=>by cases e)
theorem fI.put{B:Nat}{J:World->Prop}(h:fI B J){W:World}{l:Nat}{o:Obj}(o':Obj)(hj:J W)(hl:B<=l)(ho:W.heap[l]? =some o)(hb:MJ o=true):J (W.putObj l o'):=
 h W _ (some l) hj (cG W l o') (λr e=>by grind)
theorem fI.size(B n:Nat):fI B (λW=>n<W.heap.size):=λ_ _ _ h hg _=>cZ h hg.size
theorem fI.ownR{α:Type}{e:TypeId}{size:Nat}{cs:α->List Value}(D base:Nat)(v:Value)(ls:List α):fI D (λW=>jE e size cs W base v ls):=(fI.ownsRow _ _ _ _ _ _ _).and (fI.pure _ _)
def ng{σ α:Type}(P:Program)(gf:Nat)(lb:Array Value)(enc:α->Array Value)(ok:σ->α->Prop)(nx:σ->α->σ)(s0:σ)(Fin:σ->Prop)(Inv:σ->World->Prop):Prop:=
 ∀(l:Nat) (K:σ->World->Prop) (Kx:World->Prop) (T:World->Nat->Prop) (W0:World),
  (∀s W W' row,K s W->W.grownBy W' row->(∀q,row=some q->W0.heap.size<=q/\∃o:Obj,W.heap[q]? =some o/\VP o=true)->K s W')->(∀W W',Kx W->Below W.heap.size W W'->Kx W')->(∀s W,K s W->Inv s W)->
  (∀s W k,K s W->T W k->k<W.heap.size)->(∀s W W' row k,K s W->W.grownBy W' row->(∀q,row=some q->W0.heap.size<=q/\∃o:Obj,W.heap[q]? =some o/\VP o=true)->T W' k->T W k)->
  (∀s x W,ok s x->K s W->YieldAt Fence.wide 0 P l (enc x) W λe W'=>(e=.returned (.bool true)/\K (nx s x) W'/\Tch T W W')\/(e=.returned (.bool false)/\Kx W'))->
  K s0 W0->CallsIn Fence.wide 0 P gf (#[.func (.yield l) #[] #[]]++lb) W0 λe W'=>(∃v,e=.returned v)/\((∃s,Fin s/\K s W')\/Kx W')
theorem LQ{P:Program}{σ α:Type}{g:Operand}{ps:Array Tmp}{assign body:Code}{Q:Exit->Act->World->Prop}{a:Act}{w:World}{gf:Nat}{lb:Array Value}
  (hg:a.eval g=.func (.func gf) #[] lb) (eg:∀args w,(callFunc gf args).run P w=.ok (.enter gf args) w)
  {enc:α->Array Value} {ok:σ->α->Prop} {nx:σ->α->σ} {s0:σ} {Fin:σ->Prop} {Inv:σ->World->Prop} (hit:ng P gf lb enc ok nx s0 Fin Inv)
  (hps:∀x,(enc x).size=ps.size)
  (J:σ->World->Prop) (Jx:Code->World->Prop) (A:σ->α->Act->World->Prop)
  (hJ:∀s,fI w.heap.size (J s)) (hJx:∀c,fI w.heap.size (Jx c)) (hA:∀s x a,fI w.heap.size (A s x a)) (hInv:∀s W,J s W->Inv s W)
  (T:World->Nat->Prop) (hT0:∀s W k,J s W->T W k->k<W.heap.size) (hTg:∀W W' row,W.grownBy W' row->(∀r,row=some r->w.heap.size<=r/\∃o:Obj,W.heap[r]? =some o/\MJ o=true)->(∃s,J s W)->∀k,T W' k->T W k)
  (h0:J s0 w)
  (hassign:∀(l:Nat) (s:σ) (x:α) (W:World),ok s x->J s W->
    assign.wpIn (Fence.wide.inRound l) 0 P (Exit.then (λa1 W1=>gO W W1/\J s W1/\A s x a1 W1/\Tch T W W1) (λ_ _ _=>False)) {tmps:=(ps.zip (enc x)).foldl (λt (p,v)=>t.setIfInBounds p v) a.tmps,defers:= []} W)
  (hbody:∀(l:Nat) (s:σ) (x:α) (a1:Act) (W:World),ok s x->J s W->A s x a1 W->
    body.wpIn (Fence.wide.inRound l) 0 P (jH (λW'=>gO W W'/\J (nx s x) W'/\Tch T W W') (λc W'=>gO W W'/\Jx c W')) a1 W)
  (hdone:∀(D:Nat) (s:σ) (W:World),w.heap.size<=D->Fin s->J s W->W.heap[D]? =some (.deferred (some []))->Q .normal {a with defers:={target:=.collected D,args:=#[]} :: a.defers} W)
  (hstop:∀(D:Nat) (c:Code) (W:World),w.heap.size<=D->Jx c W->W.heap[D]? =some (.deferred (some []))->c.wpIn Fence.wide 0 P Q {a with defers:={target:=.collected D,args:=#[]} :: a.defers} W):
  (Code.rangeFunc g ps assign body).wpIn Fence.wide 0 P Q a w:=by
 have hb:∀{X:World} {q:Nat},(∃o:Obj,X.heap[q]? =some o/\VP o=true)->∃o:Obj,X.heap[q]? =some o/\MJ o=true:=λ⟨o,a,b⟩=>⟨o,a,by simp_all[MJ]⟩
 refine sZ hg eg λR W1 hb1 hz h1 hy=>(hit (w.heap.size+1) (λs W=>J s W/\LD R w.heap.size .ready none W) (λW=>∃c,Jx c W/\LD R w.heap.size .done (some c) W) (λW k=>T W k\/k=w.heap.size+1\/k=w.heap.size) W1
  (λs A B row h hg hr=>by rw[hz] at hr;exact⟨hJ s A B row h.1 hg λr e=>⟨by grind,hb (hr r e).2⟩,h.2.grown hg hr⟩)
  (λA B ⟨c,h1,h2⟩ hb=>⟨c,(hJx c).ext h1 hb,h2.ext hb⟩) (λs W h=>hInv s W h.1)
  (λs W k h ht=>ht.elim (hT0 s W k h.1) λe=>e.elim (λe=>e▸h.2.1.lt) λe=>e▸(am.1 h.2.2).1)
  (λs A B row k h hg hr ht=>ht.imp (hTg A B row hg (λr e=>⟨by grind,hb (hr r e).2⟩) ⟨s,h.1⟩ k) id)
  (λs x W hok ⟨hi,hl⟩=>hy hl.1 (hps x) (hassign _ s x W hok hi) λa1 V ⟨hkp,hiV,hAV,hTV⟩=>
    have lV:LD _ _ _ _ _:=hl.keep hkp;have t1:=hTg _ _ _ (lO V (w.heap.size+1) (.loop (R .busy none))) (λr hr=>by cases hr;exact⟨by omega,_,lV.1,rfl⟩) ⟨s,hiV⟩
    ⟨lV.1,λl2=>dU (hbody _ s x a1 _ hok ((hJ s).put _ hiV (by omega) lV.1 rfl) ((hA s x a1).put _ hAV (by omega) lV.1 rfl))
     (oS (λW3 ⟨hk3,hi3,hT3⟩=>have l3:LD _ _ _ _ _:=(LD.put lV).keep hk3;⟨l3.1,.inl ⟨rfl,⟨(hJ _).put _ hi3 (by omega) l3.1 rfl,l3.put⟩,IK (.inl rfl) hTV hT3 t1 (hTg _ _ _ (lO W3 _ _) (λr hr=>by cases hr;exact⟨by omega,_,l3.1,rfl⟩) ⟨_,hi3⟩)⟩⟩)
       λc W3 ⟨hk3,hi3⟩=>have l3:LD _ _ _ _ _:=(LD.put lV).keep hk3;⟨l3.1,.inr ⟨rfl,c,(hJx c).put _ hi3 (by omega) l3.1 rfl,l3.put⟩⟩)⟩)
  ⟨(hJ s0).ext h0 hb1,h1⟩).mono ?_
 rintro e W2 ⟨hv,(⟨s,hS,hi,hl⟩|⟨c,hi,hl⟩)⟩
 .exact⟨hv,.inl ⟨hl.1,λo=>hdone _ s _ (aw _) hS ((hJ s).put _ hi (by omega) hl.1 rfl) ((bk (by omega)).trans hl.2)⟩⟩
 .exact⟨hv,.inr ⟨c,hl.1,λo=>hstop _ c _ (aw _) ((hJx c).put _ hi (by omega) hl.1 rfl) ((bk (by omega)).trans hl.2)⟩⟩
end

section
open Go.RowKit Go.Shelf
attribute [local go_sem] Oper.semAt_some iB fS gP fH
section
variable {α:Type} {F:Fence} {n:Nat} {P:Program} {t kt et:TypeId} {enc:α->Value} {dec:Value->α} {one:Value} {w:World} {b:Nat} {L:List α} {ops:Array Oper} {rest:List Oper} {o:Oper} {a:Act} {Q:Exit->Act->World->Prop}
theorem CK(hg:o.guard=none)(m:Operand)(hop:o.op=Op.range t m)(ht:P.underlying t=some (.map kt et))(h:iM enc dec one w b L)(hm:a.eval m=.map (some b))
  (hK:∀w',lH enc dec one w' b w.heap.size L L->Below w.heap.size w w'->w'.heap.size=w.heap.size+1->wpListIn F n P ops Q rest (a.put o.dst (.pointer (some ⟨w.heap.size,0,none⟩))) w'):wpListIn F n P ops Q (o :: rest) a w:=by
 refine wpListIn_plain hg λK' hK'=>?_
 obtain⟨o',_,hrun,r1⟩:=h.range ht
 unfold Oper.wpIn
 refine⟨by simp[Oper.about,hop],?_⟩
 rw[Oper.semAt_plain F _ _ (by rw[hop];intro c hc';cases hc')]
 simp[execOp,hop,hm,hrun,Result.andThen]
 exact hK' _ _ (hK _ r1 ((ao _ w).alloc (aw _) _) (by simp))
theorem FQ{r:Nat}{R:List α}(hg:o.guard=none)(it:Operand)(hop:o.op=Op.next it false)(hit:a.eval it=.pointer (some ⟨r,0,none⟩))(h:lH enc dec one w b r L R)
  (hDone:R= []->wpListIn F n P ops Q rest (a.put o.dst (.tuple #[.bool false])) w)
  (hMore:∀x R' w',x∈R->(∀y,y∈R'↔y∈R/\y≠x)->R'.length<R.length->lH enc dec one w' b r L R'->w.grownBy w' (some r)->w'.heap.size=w.heap.size->
    (Instr.entry (.pointer (some ⟨r,0,none⟩))).run P w'=.ok (.tuple #[enc x,one]) w'->wpListIn F n P ops Q rest (a.put o.dst (.tuple #[.bool true,enc x,one])) w'):wpListIn F n P ops Q (o :: rest) a w:=by
 refine wpListIn_plain hg λK' hK'=>?_
 unfold Oper.wpIn
 refine⟨by simp[Oper.about,hop],?_⟩
 rw[Oper.semAt_plain F _ _ (by rw[hop];intro c hc';cases hc')]
 rcases h.next (P:=P) o.type with ⟨h0,hrun⟩|⟨x,R',w',hx,hR',hlt,hrun,hSI,hgr,hsz,hen⟩
 .simp[execOp,hop,hit,hrun,Result.andThen];exact hK' _ _ (hDone h0)
 .simp[execOp,hop,hit,hrun,Result.andThen];exact hK' _ _ (hMore x R' w' hx hR' hlt hSI hgr hsz hen)
end
def kw(x:Fct):Array Value:=#[sN x]
def okK(L:List Fct)(d:List Fct)(x:Fct):Prop:=x∈L/\x∉d
def nxK(d:List Fct)(x:Fct):List Fct:=d++ [x]
def pf(L:List Fct)(d:List Fct):Prop:=∀y∈L,y∈d
def BF(P:Program)(gf:Nat)(lb:Array Value)(L:List Fct)(I:World->Prop):Prop:=ng P gf lb kw (okK L) nxK [] (pf L) (λ_ W=>I W)
theorem BF.mono{P:Program}{gf:Nat}{lb:Array Value}{L:List Fct}{I I':World->Prop}(h:BF P gf lb L I)(hi:∀W,I' W->I W):BF P gf lb L I':=
 λlp K Kx T W hK hKx hInv h1 h2 hY h0=>h lp K Kx T W hK hKx (λs W hs=>hi W (hInv s W hs)) h1 h2 hY h0
theorem lH.iter{α:Type}{enc:α->Value}{dec:Value->α}{one:Value}{w:World}{b r:Nat}{L R:List α}(h:lH enc dec one w b r L R):∃o:Obj,w.heap[r]? =some o/\VP o=true:=by
 obtain⟨es,clock,since,seen,c0,_,_,_,_,_,h6,_⟩:=h
 exact⟨_,h6,rfl⟩
theorem tE{W W':World}(h:Below W.heap.size W W'):W.grownBy W' none:=⟨h.os,h.tape,h.output,h.size,λk hk _=>h.block k hk⟩
theorem iM.obj{α:Type}{enc:α->Value}{dec:Value->α}{one:Value}{w:World}{b:Nat}{L:List α}(h:iM enc dec one w b L):∃o,w.heap[b]? =some o/\∀W,W.heap[b]? =some o->iM enc dec one W b L:=by
 obtain⟨es,c,hb,h2⟩:=h
 exact⟨_,hb,λW hW=>⟨es,c,hW,h2⟩⟩
theorem XR(b G:Nat)(L:List Fct)(o:Obj)(hS:∀W:World,W.heap[b]? =some o->mJ W b L):BF Tryz.prog 71 #[.pointer (some ⟨G,0,none⟩)] L (λW=>W.heap[G]? =some (.cells #[.map (some b)] 68)/\W.heap[b]? =some o):=by
 intro l K Kx T W hK hKx hInv hT0 hTg hY h0
 refine callsIn_of_wp Tryz.func71 rfl trivial ?_ rfl
 simp only[Tryz.ntmps71,bL,aN,aV,Nat.reduceAdd,Nat.reduceSub,bC,bD,bM,bG,bH,bJ]
 have HY:=ac hY
 have HI:=ac hInv
 have HK0:=ac hK
 have HT0:=ac hT0
 have HTG:=ac hTg
 have H0:=ac h0
 have HSS:=ac hS
 have hg0:W.cell? ⟨G,0,none⟩=some (.map (some b)):=cR (hInv _ _ h0).1 rfl
 have hb0:W.heap[b]? =some o:=(hInv _ _ h0).2
 have HB0:=ac hb0
 clear hY hInv hK hKx h0 hT0 hTg hS hb0
 gi_wp2_with (
  (refine CK rfl _ rfl zU (HSS.out W HB0.out) rfl ?_
   intro w1 hi hb hz;have HSI:=ac hi;have HK1:=ac (HK0.out _ _ _ none H0.out (tE hb) (λq e=>by cases e))
   have HNT:Hid (¬T w1 W.heap.size):=(λht=>by
    have h1:=HT0.out _ _ _ H0.out (HTG.out _ _ _ none _ H0.out (tE hb) (λq e=>by cases e) ht)
    omega)
   clear hi hb hz hg0))
 obtain⟨r,hr⟩:∃r,r=W.heap.size:=⟨_,rfl⟩
 rw[<-hr] at HSI HNT|-
 have HWE:Hid (W.heap.size<=r):=by rw[Hid,hr];exact aw _
 clear hr
 gi_loopw [3] (λ_ wr=>∃d R,Hid (ni wr b r L R)/\Hid (K d wr)/\Hid (∀y,y∈R↔y∈L/\y∉d)/\Hid (¬T wr r)) (λ_ wr=>wr.rangeLeft b r)
 case atStart=>exact⟨[],L,HSI,HK1,λy=>by simp,HNT⟩
 case round=>
  obtain⟨d,R,HIr,HK,HM,HNTr⟩:=hrel;have HLT:=ac (lH.left HIr.out);obtain⟨io,hio,hit⟩:=HIr.out.iter;have HIO:=ac hio;have HIT:=ac hit;clear hio hit
  gi_wp2_with (
   (refine FQ rfl _ rfl rfl HIr.out (λh0=>?_) (λx R' w2 hx hR' hR hi hg hz hen=>?_)))
  .subst h0;have HF:Hid (pf L d):=λy hy=>by
    have:=(HM.out y)
    simp only[a7,false_iff,not_and,Classical.not_not] at this;exact this hy
   clear HM HLT HIr
   gi_wp2
   go_end0
   exact⟨⟨_,rfl⟩,Or.inl ⟨d,HF.out,HK.out⟩⟩
  .have hrow:∀q,some r=some q->W.heap.size<=q/\∃o:Obj,wr.heap[q]? =some o/\VP o=true:=λq e=>by injection e with e;subst e;exact⟨HWE.out,io,HIO.out,HIT.out⟩
   have hk2:K d w2:=HK0.out _ _ _ _ HK.out hg hrow;have hn2:¬T w2 r:=λht=>HNTr.out (HTG.out _ _ _ _ _ HK.out hg hrow ht);have HR2:=ac hR;have HX2:=ac hx;have HMR:=ac hR';have HI2:=ac hi;clear hi hg hz hR hrow HK HIr HIO HIT HNTr hR' hx;obtain⟨v,s,n⟩:=x;have hb3:Below w2.heap.size w2 (w2.alloc (nC v s n)):=eC _ _;have hk3:K d (w2.alloc (nC v s n)):=HK0.out _ _ _ none hk2 (tE hb3) (λq e=>by cases e);have hn3:¬T (w2.alloc (nC v s n)) r:=λht=>hn2 (HTG.out _ _ _ none _ hk2 (tE hb3) (λq e=>by cases e) ht);have HI3:=ac (HI2.out.ext hb3);have hmm:=(HM.out (v,s,n)).1 HX2.out;obtain⟨fn,tmps,assign,body,hy,hR⟩:=HY.out d (v,s,n) _ hmm hk3;unfold kw at hy;have HY3:=ac hR;have HN3:=ac hn3;have HKK3:=ac hk3;clear hR hk2 hn2 hb3 hk3 hn3 HI2 hmm
   gi_wp2
   refine HY3.out.mono ?_;rintro e W' (⟨rfl,hJ',hT'⟩|⟨rfl,hX'⟩)
   .have HKn:=ac hJ';have hrb:W'.heap[r]? =(w2.alloc (nC v s n)).heap[r]?:=hT'.2.1 r HI3.out.lt.2.1 HN3.out;have hbb:W'.heap[b]? =(w2.alloc (nC v s n)).heap[b]?:=by rw[(HI.out _ _ hJ').2,(HI.out _ _ HKK3.out).2]
    have HIn:=ac (HI3.out.of_blocks hbb hrb);have HNn:Hid (¬T W' r):=λht=>by
     rcases hT'.2.2 r ht with h|h
     .exact HN3.out h
     .have:=HI3.out.lt.2.1;omega
    have HMn:Hid (∀y,y∈R'↔y∈L/\y∉nxK d (v,s,n)):=λy=>by
     rw[HMR.out,HM.out];simp[nxK,and_assoc]
    clear hJ' hT' hy HY3 HN3 HKK3 hrb hbb HI3 HM HMR
    gi_wp2
    go_roundw
    case rel=>exact⟨_,R',HIn,HKn,HMn,HNn⟩
    case measure=>rw[lH.left HIn.out,HLT.out];exact HR2.out
   .have HX:=ac hX';clear hX' hy HY3
    gi_wp2
    exact aD (v:=.tuple #[]) (by simp[results,Tryz.results71,go_sem]) rfl ⟨⟨_,rfl⟩,Or.inr HX.out⟩
theorem XS(b:Nat)(w:World):Calls Tryz.prog 39 #[.map (some b)] w λe w'=>e=.returned (.func (.func 71) #[] #[.pointer (some ⟨w.heap.size,0,none⟩)])/\w'=w.alloc (.cells #[.map (some b)] 68):=by
 go_enter Tryz.func39,Tryz.ntmps39
 go_wp2
 go_ret
 exact⟨rfl,rfl⟩
theorem TL(args:Array Value)(w:World):(callFunc 71 args).run Tryz.prog w=.ok (.enter 71 args) w:=cQ Tryz.func71 (by kernel_rfl) rfl args w
theorem PL{w:World}{base:Nat}{e:TypeId}{size:Nat}{v:Value}{n:Nat}{xs:List Value}(h:w.ownsRow base e size v n xs):∀(j:Nat) (o:Obj),v.ownBlock=some j->w.heap[j]? =some o->nR o=false:=by
 intro j o hj ho
 rcases h.2 with ⟨rfl,_⟩|⟨g,cap,cur,rfl,_,hh,_⟩
 .cases hj
 .simp only[Value.ownBlock,bv] at hj;subst hj;rw[hh] at ho;cases ho;rfl
theorem YE{w w':World}{row:Option Nat}(hg:w.grownBy w' row){k:Nat}{o:Obj}(hk:w.heap[k]? =some o)(hne:row≠some k):w'.heap[k]? =some o:=
 (hg.block k (am.1 hk).1 (λe=>hne e.symm)).trans hk
theorem GQ(w:World)(b o:Nat)(u:Value):w.grownBy (w.setCell ⟨b,o,none⟩ u) (some b):=
 ⟨rfl,rfl,rfl,by simp,λk _ hne=>bf _ _ _ _ (λe=>hne (by rw[e]))⟩
def OV(w:World)(L:List Fct)(e:Ending)(w':World):Prop:=∃v d,e=.returned v/\qA w' w.heap.size v d/\d.Nodup/\(∀y,y∈d↔y∈L)/\Below w.heap.size w w'
def AJF(w:World)(B base:Nat)(xs:List Fct)(W:World):Prop:=
 ∃v,W.heap[B]? =some (.cells #[v] 32 (0,0))/\qA W base v xs/\v.ownBlock≠some B/\Below w.heap.size w W/\w.heap.size<W.heap.size
theorem AJF.steady{w:World}{B base:Nat}{xs:List Fct}{D:Nat}(hD:w.heap.size<=D):fI D (AJF w B base xs):=by
 unfold AJF
 exact fI.ex λv=>(fI.block _ _ rfl).and ((fI.ownR _ _ _ _).and ((fI.pure _ _).and ((fI.below (aw _) hD).and (fI.size _ _))))
theorem GB(gf:Nat)(lb:Array Value)(L:List Fct)(w:World)(eg:∀args w,(callFunc gf args).run Tryz.prog w=.ok (.enter gf args) w)(hit:BF Tryz.prog gf lb L (λW=>Below w.heap.size w W))(hl:L.length<=1000000000000):
  Calls Tryz.prog 102 #[.slice none 0 0,.func (.func gf) #[] lb] w (OV w L):=by
 refine(br (n:=0)).1 ?_
 refine cA Tryz.func102 rfl trivial ?_
 simp only[Tryz.ntmps102,bL,aN,aV,Nat.reduceAdd,Nat.reduceSub,bC,bD,bM,bG,bH,bJ]
 have HIT:=ac hit
 clear hit
 gi_wp2
 refine LQ (ps:=#[7]) (gf:=gf) (lb:=lb) (enc:=kw) rfl eg HIT.out (λ_=>rfl)
  (λd W=>Hid (AJF w w.heap.size w.heap.size d W/\d.Nodup/\∀y∈d,y∈L))
  (λ_ _=>False)
  (λd x a1 W=>∃g,a1={tmps:=#[.slice none 0 0,.func (.func gf) #[] lb,.pointer (some ⟨w.heap.size,0,none⟩),undef,.slice none 0 0,.pointer (some ⟨g,0,none⟩),.func (.func gf) #[] lb,sN x,undef,undef,undef,undef,undef],defers:= []}/\W.heap[g]? =some (nC x.1 x.2.1 x.2.2))
  (λd=>(AJF.steady (by simp)).and ((fI.pure _ _).and (fI.pure _ _))) (λc=>fI.pure _ _) (λd x a1=>fI.ex λg=>(fI.pure _ _).and (fI.block _ _ rfl)) (λd W h=>by obtain⟨⟨v,_,_,_,hb,_⟩,_⟩:=h.out;exact hb)
  (TV w.heap.size 32) ?t0 ?tg ?start ?assign ?body ?done ?stop
 case t0=>
  intro d W k h ht;obtain⟨⟨v,hv,ho,_,_,h1⟩,_⟩:=h.out;rcases ht with rfl|⟨u,hu,hk⟩
  .exact h1
  .rw[hv] at hu;simp only[bv,Obj.cells.injEq,Array.mk.injEq,dr,and_true] at hu;subst hu;exact(ho.low hk).2
 case tg=>
  rintro W W' row hg hr ⟨d,h⟩ k ht;obtain⟨⟨v,hv,_⟩,_⟩:=h.out;refine ht.ext (hg.block _ (am.1 hv).1 λe=>?_);obtain⟨_,o,ho,hb⟩:=hr _ e.symm;rw[hv] at ho;cases ho;cases hb
 case start=>exact⟨⟨_,ai _ _,jE.nil _ _ _ _ _,by simp[Value.ownBlock],(ao _ w).alloc (aw _) _,by simp⟩,List.nodup_nil,by simp⟩
 case assign=>
  rintro lp d ⟨xv,xs,xn⟩ W hok hJ;unfold kw
  gi_wp2
  obtain⟨⟨v1,hv1,ho1,hne1,hb1,hlt1⟩,h2⟩:=hJ.out;have hbW:Below W.heap.size W (W.alloc (nC xv xs xn)):=eC _ _;exact⟨gO.ext hbW,⟨(AJF.steady (aw _)).ext hJ.out.1 hbW,h2⟩,⟨W.heap.size,rfl,ai _ _⟩,sF hlt1 hbW⟩
 case body=>
  rintro lp d ⟨xv,xs,xn⟩ a1 W2 hok hJ ⟨g,rfl,hG⟩;obtain⟨⟨v,hv,ho,hne,hb,hlt0⟩,hnd,hsub⟩:=hJ.out;obtain⟨av,cv,rfl⟩:=ho.form;obtain⟨hc0,hf0⟩:=cz 0 hv rfl;obtain⟨hg0,hg1,hg2⟩:=tY hG rfl;have HO:=ac ho;have HV:=ac hv;have HB:=ac hb;have HNE:=ac hne;have HOK:=ac hok;have hlen:d.length<=1000000000000:=bP (iU hnd hsub) hl;have HND:=ac hnd;have HSUB:=ac hsub;clear hv ho hb hJ hne hG hok hnd hsub
  gi_wp2_with (
   (gi_at_builtin
    refine vL (by repeat (first|exact jX|refine lF ?_|refine jY ?_)) _ _ _ rfl ?_;refine fN rfl W2 (.tmp 8) (.tmp 10) 32 44 rfl w.heap.size _ 3 24 cP MV rfl (by omega) (.slice av d.length cv) d.length _ (csF (xv,xs,xn)) rfl HO.out.1 W2.heap.size rfl rfl rfl (by simp[csF,Value.oneCell']) (by simp only[maxLen];omega) (by omega) (by omega) ?_;intro g2 cap w2 hown2 hgr2 hat2;have HO2:=ac hown2;have HG2:=ac hgr2;have HA2:=ac hat2;have hv2:=YE hgr2 HV.out HNE.out;obtain⟨hc2,hf2⟩:=cz 0 hv2 rfl;have hlt2:w.heap.size<w2.heap.size:=(am.1 hv2).1;have HV2:=ac hv2
    clear hown2 hgr2 hat2 hv2 hc0 hf0))
  go_wp2;have hb2:Below w.heap.size w w2:=HB.out.grown HG2.out HB.out.size (λk e=>(HO.out.low e).1);have hgne:g2≠w.heap.size:=by
   rcases HA2.out with h|h
   .exact λe=>HNE.out (by rw[<-h,e])
   .omega
  have hB2:=aO w2 w.heap.size 0 _ _ (.slice (some ⟨g2,0,none⟩) (d.length+1) cap) HV2.out;simp only[ae,ag] at hB2;refine⟨(gO.grown HG2.out (PL HO.out.1)).trans (gO.setCell _ _ _),⟨⟨_,hB2,?_,by simpa[Value.ownBlock] using hgne,?_⟩,?_,?_⟩,?_⟩
  .refine jE.kept (row:=some w.heap.size) (w:=w2) ⟨?_,by simp[nxK];omega⟩ (GQ w2 w.heap.size 0 _) (.inr (by simp[Value.ownBlock];omega));have:=HO2.out;simpa[nxK,cB] using this
  .exact⟨hb2.setCell (aw _) _,by simpa using hlt2⟩
  .exact ed.2 ⟨HND.out,by simp,λc hc c' hc' e=>by
    simp only[bm] at hc';subst hc' e
    exact HOK.out.2 hc⟩
  .intro y hy;rcases bh.1 hy with hy|hy
   .exact HSUB.out y hy
   .rw[bm] at hy;subst hy;exact HOK.out.1
  .refine KO HV.out hB2 (by simpa using HG2.out.size) (λk hk hkB hkv=>?_) (λk hk=>?_)
   .rw[bf _ _ _ _ (λe=>hkB e),HG2.out.block k hk (λe=>hkv e.symm)]
   .simp only[Value.ownBlock,bv] at hk;subst hk;rcases HA2.out with h|h
    .exact .inl h.symm
    .exact .inr (by omega)
 case done=>
  rintro D d W hD hfin hJ hK;obtain⟨⟨v,hv,ho,hne,hb,hlt0⟩,hnd,hsub⟩:=hJ.out;obtain⟨av,cv,rfl⟩:=ho.form;have hc0:=cK 0 hv rfl;have HO:=ac ho;have HB:=ac hb;have HJ:=hJ;have HFIN:=ac hfin;have HND:=ac hnd;have HSUB:=ac hsub;clear hv ho hb hJ hne hfin hnd hsub
  gi_wp2
  obtain⟨v2,hv2,ho2,_,hb2,_⟩:=(AJF.steady (w:=w) (B:=w.heap.size) (base:=w.heap.size) (xs:=d) (D:=w.heap.size) (aw _)).put (.deferred none) (l:=D) HJ.out.1 (by simp at hD;omega) hK rfl;refine⟨by simp,.inl ⟨_,_,rfl,cI hK,?_⟩⟩;have ho3:qA (W.putObj D (.deferred none)) w.heap.size (.slice av d.length cv) d:=(fI.ownR w.heap.size w.heap.size (.slice av d.length cv) d).put (.deferred none) (l:=D) HO.out (by simp at hD;omega) hK rfl;exact⟨.slice av d.length cv,by simp[results,Tryz.results102,go_sem],_,d,rfl,ho3,HND.out,λy=>⟨HSUB.out y,HFIN.out y⟩,hb2⟩
 case stop=>rintro D c W hD h;exact h.elim
theorem MG(gf:Nat)(lb:Array Value)(L:List Fct)(w:World)(eg:∀args w,(callFunc gf args).run Tryz.prog w=.ok (.enter gf args) w)(hit:BF Tryz.prog gf lb L (λW=>Below w.heap.size w W))(hl:L.length<=1000000000000):
  Calls Tryz.prog 69 #[.func (.func gf) #[] lb] w (OV w L):=by
 have HIT:=ac hit
 have EG:=ac eg
 clear hit eg
 go_enter Tryz.func69,Tryz.ntmps69
 go_wp2_with (go_at_call 102;refine(GB gf lb L w EG.out HIT.out hl).mono ?_;rintro e w' ⟨v,d,rfl,ho,hn,hm,hb⟩;have HO:=ac ho;have HB:=ac hb;have HN:=ac hn;have HM:=ac hm;clear ho hb hn hm)
 go_ret
 exact⟨_,d,rfl,HO.out,HN.out,HM.out,HB.out⟩
end

section
open Go.Shelf Go.RowKit
def NT:Go.Shelf.Ren:=⟨λ|6=>70|14=>103|15=>104|20=>136|21=>137|22=>138|23=>139|24=>140|25=>141|26=>142|27=>143|28=>144|29=>145|46=>157|47=>158|48=>159|49=>160|50=>161|57=>169|n=>n,λ|24=>44|0=>0|3=>3|4=>4|5=>5|9=>9|22=>32|25=>97|39=>145|45=>212|46=>213|50=>142|53=>219|55=>221|66=>230|70=>234|76=>243|77=>244|n=>n,λ|n=>n⟩
theorem pb:Go.Proofs.SlLaysF0.n6 Tryz.prog NT:={
 mixed:=by kernel_rfl
 f6:=⟨Tryz.f70.name,by decide,Tryz.func70.trans (aL some (by kernel_rfl))⟩
 f14:=⟨Tryz.f103.name,by decide,Tryz.func103.trans (aL some (by kernel_rfl))⟩
 f15:=Tryz.func104.trans (aL some (by kernel_rfl))
 f20:=⟨Tryz.f136.name,by decide,Tryz.func136.trans (aL some (by kernel_rfl))⟩
 f21:=⟨Tryz.f137.name,by decide,Tryz.func137.trans (aL some (by kernel_rfl))⟩
 f22:=⟨Tryz.f138.name,by decide,Tryz.func138.trans (aL some (by kernel_rfl))⟩
 f23:=⟨Tryz.f139.name,by decide,Tryz.func139.trans (aL some (by kernel_rfl))⟩
 f24:=⟨Tryz.f140.name,by decide,Tryz.func140.trans (aL some (by kernel_rfl))⟩
 f25:=⟨Tryz.f141.name,by decide,Tryz.func141.trans (aL some (by kernel_rfl))⟩
 f26:=⟨Tryz.f142.name,by decide,Tryz.func142.trans (aL some (by kernel_rfl))⟩
 f27:=⟨Tryz.f143.name,by decide,Tryz.func143.trans (aL some (by kernel_rfl))⟩
 f28:=Tryz.func144.trans (aL some (by kernel_rfl))
 f29:=Tryz.func145.trans (aL some (by kernel_rfl))
 f46:=⟨Tryz.f157.name,by decide,Tryz.func157.trans (aL some (by kernel_rfl))⟩
 f47:=Tryz.func158.trans (aL some (by kernel_rfl))
 f48:=Tryz.func159.trans (aL some (by kernel_rfl))
 f49:=⟨Tryz.f160.name,by decide,Tryz.func160.trans (aL some (by kernel_rfl))⟩
 f50:=⟨Tryz.f161.name,by decide,Tryz.func161.trans (aL some (by kernel_rfl))⟩
 f57:=⟨Tryz.f169.name,by decide,Tryz.func169.trans (aL some (by kernel_rfl))⟩
 t0:=Tryz.underlying0
 a0:=Tryz.isAgg0
 z0:=Tryz.sizeOf0
 v0:=Tryz.zeroValue0
 t3:=aP
 a3:=Tryz.isAgg3
 z3:=Tryz.sizeOf3
 v3:=Tryz.zeroValue3
 t4:=ce
 a4:=Tryz.isAgg4
 z4:=Tryz.sizeOf4
 v4:=Tryz.zeroValue4
 t5:=Tryz.underlying5
 a5:=Tryz.isAgg5
 z5:=Tryz.sizeOf5
 v5:=Tryz.zeroValue5
 t9:=Tryz.underlying9
 a9:=Tryz.isAgg9
 z9:=Tryz.sizeOf9
 v9:=Tryz.zeroValue9
 t22:=cP
 a22:=Tryz.isAgg32
 z22:=Tryz.sizeOf32
 v22:=Tryz.zeroValue32
 t25:=Tryz.underlying97
 a25:=Tryz.isAgg97
 z25:=Tryz.sizeOf97
 v25:=Tryz.zeroValue97
 t39:=Tryz.underlying145
 a39:=Tryz.isAgg145
 z39:=Tryz.sizeOf145
 v39:=Tryz.zeroValue145
 t45:=Tryz.underlying212
 a45:=Tryz.isAgg212
 z45:=Tryz.sizeOf212
 v45:=Tryz.zeroValue212
 t46:=Tryz.underlying213
 a46:=Tryz.isAgg213
 z46:=Tryz.sizeOf213
 v46:=Tryz.zeroValue213
 t50:=Tryz.underlying142
 a50:=Tryz.isAgg142
 z50:=Tryz.sizeOf142
 v50:=Tryz.zeroValue142
 t53:=Tryz.underlying219
 a53:=Tryz.isAgg219
 z53:=Tryz.sizeOf219
 v53:=Tryz.zeroValue219
 t55:=Tryz.underlying221
 a55:=Tryz.isAgg221
 z55:=Tryz.sizeOf221
 v55:=Tryz.zeroValue221
 t66:=Tryz.underlying230
 a66:=Tryz.isAgg230
 z66:=Tryz.sizeOf230
 v66:=Tryz.zeroValue230
 t70:=Tryz.underlying234
 a70:=Tryz.isAgg234
 z70:=Tryz.sizeOf234
 v70:=Tryz.zeroValue234
 t76:=Tryz.underlying243
 a76:=Tryz.isAgg243
 z76:=Tryz.sizeOf243
 v76:=Tryz.zeroValue243
 t77:=Tryz.underlying244
 a77:=Tryz.isAgg244
 z77:=Tryz.sizeOf244
 v77:=Tryz.zeroValue244}
end

section
open Go.RowKit Go.Shelf Go.Sort
theorem JO(l:List Fct):flatK csF 3 l.toArray=(l.flatMap csF).toArray:=by
 have hl:(l.flatMap csF).length=l.length*3:=gU csF 3 fO l
 refine ext_get! (by simp[hl]) λt ht=>?_
 have ht':t<l.length*3:=by simpa using ht
 rw[get_flatK _ _ _ t (by simpa using ht')]
 have h3:t/3<l.length:=by omega
 have h4:=kD csF 3 fO l (t/3) (t%3) (by omega) l[t/3] (by simp[h3])
 rw[show t/3*3+t%3=t by omega] at h4
 have e1:(l.toArray)[t/3]! =l[t/3]:=by simp[h3]
 rw[e1,List.getElem!_eq_getElem?_getD,<-h4]
 simp[hl,ht']
theorem oz:SWO (ltOf ckO):=by
 have e:ltOf ckO=ltF:=by funext x y;exact CX x y
 rw[e]
 refine⟨SN,λx y z=>AL,λx y z h1 h2=>?_⟩
 cases h3:ltF x z with
 |false=>rfl
 |true=>
  exfalso;cases h4:ltF y x with
  |true=>
   have:=AL h4 h3;rw[h2] at this;cases this
  |false=>
   have:=JB h1 h4;subst this;rw[h2] at h3;cases h3
theorem SH{w:World}{base g n c:Nat}{xs:List Fct}(h:qA w base (.slice (some ⟨g,0,none⟩) n c) xs):HoldsK csF 3 w g 0 xs.toArray:=by
 rcases id h.1.2 with ⟨hv,_⟩|⟨g',cap,cur,hv,hb,hh,h1,h2,h3,h4⟩
 .cases hv
 .injection hv with e1 e2 e3;injection e1 with e1;injection e1 with e1 _ _;subst e1 e2 e3;unfold HoldsK;rw[JO];intro j hj;have hj':j<xs.length*3:=by simpa[gU csF 3 fO] using hj
  refine⟨?_,dg _ _ _ _ _ hh⟩;rw[bd _ _ _ _ _ _ hh,<-h4];have hjc:j<cur.size:=by omega
  have hm:min (xs.length*3) cur.size=xs.length*3:=by omega
  simp[hj',hjc,hm,List.getElem_take]
theorem vA(w:World)(g k:Nat)(f:Array Value->Array Value):(mapBlock w g f).heap[k]? =if g=k then (w.heap[k]?).map (onCells f) else w.heap[k]?:=by
 show(w.heap.modify g (onCells f))[k]? =_
 rw[Array.getElem?_modify]
theorem GR(w:World)(g q:Nat)(ys:Array Fct):w.grownBy (putRowK csF 3 (Sort.ahead w q) g 0 ys) (some g):=by
 refine⟨rfl,rfl,rfl,by simp[putRowK,Sort.ahead],λk _ hne=>?_⟩
 unfold putRowK putRow
 rw[vA,aC (λe=>hne (by rw[e]))]
 rfl
theorem QA{w w':World}{row:Option Nat}(h:w.grownBy w' row)(os:Array Obj):w.grownBy (grow w' os) row:=by
 refine⟨h.os,h.tape,h.output,?_,λk hk hne=>?_⟩
 .have:=h.size;simp[grow];omega
 .rw[heap_grow_old w' os (cZ hk h.size)];exact h.block k hk hne
theorem PM{w:World}{base g n c:Nat}{xs:List Fct}(h:qA w base (.slice (some ⟨g,0,none⟩) n c) xs)(q:Nat)(ys:List Fct)(hl:ys.length=xs.length):
  qA (putRowK csF 3 (Sort.ahead w q) g 0 ys.toArray) base (.slice (some ⟨g,0,none⟩) n c) ys:=by
 refine⟨⟨gU csF 3 fO ys,?_⟩,by have:=h.2;omega⟩
 rcases h.1.2 with ⟨hv,_⟩|⟨g',cap,cur,hv,hb,hh,h1,h2,h3,h4⟩
 .cases hv
 .injection hv with e1 e2 e3;injection e1 with e1;injection e1 with e1 _ _;subst e1 e3;have hlen:=gU csF 3 fO ys;refine .inr ⟨g,c,putCells id 0 (flatK csF 3 ys.toArray) cur,by rw[e2,hl],hb,?_,by omega,h2,by simp[putCells,h3],?_⟩
  .unfold putRowK putRow;rw[vA,aX rfl];show(w.heap[g]?).map _=_;rw[hh];rfl
  .rw[JO];apply cD;intro k;rw[dD];by_cases hk:k<ys.length*3
   .have hkc:k<cur.size:=by omega
    rw[aX hk];simp[putCells,hlen,hk,hkc]
   .rw[aC hk,cV (by omega)]
theorem l8(p:Option Addr)(cap:Nat)(fv:Value)(w:World):
  Calls Tryz.prog 136 #[.slice p 0 cap,.int .i64 0,.int .i64 0,fv] w λe w'=>e=.returned (.tuple #[])/\w'=w:=by
 go_enter Tryz.func136,Tryz.ntmps136
 go_wp2
 refine cL 1 ?_
 rw[cM]
 go_wp2
 go_end0
 exact⟨rfl,rfl⟩
theorem lh(p:Option Addr)(cap:Nat)(lim:Int)(fv:Value)(w:World):
  Calls Tryz.prog 103 #[.slice p 0 cap,.int .i64 0,.int .i64 0,.int .i64 lim,fv] w λe w'=>e=.returned (.tuple #[])/\w'=w:=by
 go_enter Tryz.func103,Tryz.ntmps103
 go_wp2
 refine cL 1 ?_
 rw[cM]
 go_wp2_with (go_at_call 136;refine(l8 _ _ _ _).mono ?_;rintro e w' ⟨rfl,rfl⟩)
 (try simp only[Exit.inBlock,Exit.then]);refine aD (results_none rfl _ _ _) rfl ?_
 exact⟨rfl,rfl⟩
theorem fy(p:Option Addr)(cap:Nat)(fv:Value)(w:World):
  Calls Tryz.prog 70 #[.slice p 0 cap,fv] w λe w'=>e=.returned (.tuple #[])/\w'=w:=by
 have hl:∀W,Calls Tryz.prog 104 #[.int .u64 0] W λe w'=>e=.returned (.int .i64 (Lib.bitLen 0:Nat))/\w'=W:=λW=>by
  have h:=Any.bits_Len (SlLaysF0.n15.bits (P:=Tryz.prog) (ρ:=NT) {pb with}) 0 W (by omega) (by omega);exact h
 go_enter Tryz.func70,Tryz.ntmps70
 go_wp2_with (first|(go_at_call 104;refine(hl _).mono ?_;rintro e w' ⟨rfl,rfl⟩)|(go_at_call 103;refine(lh _ _ _ _ _).mono ?_;rintro e w' ⟨rfl,rfl⟩))
 go_end0
 exact⟨rfl,rfl⟩
def qT(xs:List Fct):List Fct:=xs.mergeSort λx y=> !ltF y x
theorem wR(xs:List Fct):(qT xs).Perm xs:=List.mergeSort_perm _ _
theorem QF(args:Array Value)(w:World):(callFunc 40 args).run Tryz.prog w=.ok (.enter 40 args) w:=cQ Tryz.func40 (by kernel_rfl) rfl args w
def kj(w:World)(base:Nat)(v:Value)(ys:List Fct)(e:Ending)(w':World):Prop:=e=.returned (.tuple #[])/\qA w' base v ys/\w.grownBy w' v.ownBlock
theorem WF(base:Nat)(v:Value)(xs:List Fct)(w:World)(h:qA w base v xs):
  Calls Tryz.prog 70 #[v,.func (.func 40) #[] #[]] w (kj w base v (qT xs)):=by
 rcases id h.1.2 with ⟨rfl,h0⟩|⟨g,cap,cur,rfl,hb,hh,_⟩
 .have h0:xs= []:=bB h0;subst h0;refine(fy none 0 _ w).mono ?_;rintro e w' ⟨rfl,rfl⟩;exact⟨rfl,by simpa[qT] using h,rfl,rfl,rfl,aw _,λ_ _ _=>rfl⟩
 .have hc:CmpLays Tryz.prog 40 #[] csF 3 ckO g 0 xs.toArray.size w:=λm os dk _ x y=>by
   refine(QO x y _).mono ?_;rintro e w' ⟨rfl,q,os',rfl⟩;exact⟨rfl,q,os',rfl⟩
  have h9:=AnyQ.slices_SortFunc (α:=Fct) pb 3 Tryz.isAgg44 Tryz.sizeOf44 csF fO (λx u hu=>LC [x] u (by simpa using hu)) ckO oz 40 #[] g 0 cap xs.toArray w QF hc (SH h) (am.1 hh).1 (by have:=h.2;simp;omega);simp only[bL] at h9;refine h9.mono ?_;rintro e w' ⟨rfl,d',n,os,hp,hs,rfl⟩;have hu:=sorted_unique_holds oz (λx y h1 h2=>JB (by rw[<-CX];exact h1) (by rw[<-CX];exact h2)) xs.toArray d' (by simpa using hp) (by simpa using hs);have he:d'=(qT xs).toArray:=by
   apply Array.toList_inj.1;rw[hu];unfold qT
   congr 2
   funext x y
   rw[show ltOf ckO y x=ltF y x from CX y x]
  subst he;have ho:=PM h n (qT xs) (wR xs).length_eq;refine⟨rfl,?_,QA (GR w g n _) os⟩;exact ho.ext ⟨rfl,rfl,rfl,by simp[sortWorldK,grow],λk hk=>heap_grow_old _ os hk⟩
theorem PE(gf:Nat)(lb:Array Value)(L:List Fct)(w:World)(eg:∀args w,(callFunc gf args).run Tryz.prog w=.ok (.enter gf args) w)(hit:BF Tryz.prog gf lb L (λW=>Below w.heap.size w W))(hl:L.length<=1000000000000):
  Calls Tryz.prog 38 #[.func (.func gf) #[] lb,.func (.func 40) #[] #[]] w (λe w'=>∃v d,e=.returned v/\qA w' w.heap.size v (qT d)/\d.Nodup/\(∀y,y∈d↔y∈L)/\Below w.heap.size w w'):=by
 have HIT:=ac hit
 have EG:=ac eg
 clear hit eg
 go_enter Tryz.func38,Tryz.ntmps38
 go_wp2_with (first
  |(go_at_call 69;refine(MG gf lb L w EG.out HIT.out hl).mono ?_;rintro e w1 ⟨v,d,rfl,ho,hn,hm,hb⟩;have HO:=ac ho;have HB:=ac hb;have HN:=ac hn;have HM:=ac hm;clear ho hb hn hm)
  |(go_at_call 70;refine(WF _ _ _ _ HO.out).mono ?_;rintro e w2 ⟨rfl,ho,hg⟩;have HO2:=ac ho;have HG:=ac hg;clear ho hg))
 go_ret
 exact⟨_,d,rfl,HO2.out,HN.out,HM.out,HB.out.grown HG.out HB.out.size (λk e=>(HO.out.low e).1)⟩
def ZG(w:World)(L:List Fct)(e:Ending)(w':World):Prop:=∃v d,e=.returned v/\qA w' w.heap.size v (qT d)/\d.Nodup/\(∀y,y∈d↔y∈L)/\Below w.heap.size w w'
theorem NR(b:Nat)(L:List Fct)(w:World)(hS:mJ w b L)(hl:L.length<=1000000000000):
  Calls Tryz.prog 16 #[.map (some b)] w (ZG w L):=by
 obtain⟨o,ho,hW⟩:=hS.obj
 have hb:b<w.heap.size:=(am.1 ho).1
 have h1:=PE 71 #[.pointer (some ⟨w.heap.size,0,none⟩)] L (w.alloc (.cells #[.map (some b)] 68)) TL
  (BF.mono (XR b w.heap.size L o hW) λW hb'=>⟨eB hb' (ai _ _),eB hb' (eB (eC _ _) ho)⟩) hl
 have HS:=ac h1
 clear h1 hS ho hW
 go_enter Tryz.func16,Tryz.ntmps16
 go_wp2_with (first
  |(go_at_call 39;refine(XS b w).mono ?_;rintro e w1 ⟨rfl,rfl⟩)
  |(go_at_call 38;refine HS.out.mono ?_;rintro e w2 ⟨v,d,rfl,ho,hn,hm,hb2⟩;have HO2:=ac ho;have HN:=ac hn;have HM:=ac hm;have HB:=ac hb2;clear ho hn hm hb2))
 go_ret
 have hsz:(w.alloc (Obj.cells #[.map (some b)] 68)).heap.size=w.heap.size+1:=by simp
 refine⟨_,d,rfl,HO2.out.mono (by rw[hsz];omega),HN.out,HM.out,?_⟩
 exact((ao _ w).alloc (aw _) _).trans (HB.out.mono (by rw[hsz];omega))
end

section
open Go.RowKit
structure VR where
 d:mP
 ia:Option Addr
 n:Nat
 c:Nat
def pg(b:VR):List Value:= [.slice b.ia b.n b.c,.int .i64 b.d.kind,.int .i64 b.d.a,.int .i64 b.d.to0,.int .i64 b.d.to1]
theorem OR(b:VR):(pg b).length=5:=rfl
def np(w:World)(a:Option Addr)(n:Nat)(bs:List VR):Prop:=mO 5 pg w a n bs/\∀b∈bs,vP w b.ia b.n b.d.ins
end
end Go.Proofs.YtchdkjenhppleaaGreat
