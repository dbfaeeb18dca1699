/-
 Ranges over functions whose iterator ranges over a function itself and turns a set of its own. (Printed by gen_rangeo.py out of XRangeB.)
-/
import Derived.Test.YtbknbcmppdglhaaGreatDoorA0
import Derived.Test.YtbknbcmppdglhaaGreatDoorRangeB
import Derived.Test.YtbknbcmppdglhaaGreatDoorUF
import Derived.Test.YtbknbcmppdglhaaGreatDoorUD
import Derived.Test.YtbknbcmppdglhaaGreatDoorTH
import Derived.Test.YtbknbcmppdglhaaGreatDoorFreeL
import Derived.Test.YtbknbcmppdglhaaGreatDoorMarks
import Derived.Sort.LoopGhostIn
import Derived.Test.YtbknbcmppdglhaaGreatDoorER
namespace Go.Proofs.YtbknbcmppdglhaaGreatDoor
set_option linter.unusedSimpArgs false
set_option linter.unusedVariables false
set_option linter.unusedSectionVars false
set_option maxRecDepth 100000
set_option maxHeartbeats 40000000
section
open Go.RowKit
def Cu:Obj->Bool
 | .cells _ t _=>t==124
 |_=>false
def vQ(o:Obj):Bool:=AY o||Cu o
def YY(T:World->Nat->Prop)(W W':World):Prop:=∀k,k<W.heap.size->¬T W k->W'.heap[k]? =W.heap[k]?
def iC(B:Nat)(J:World->Prop):Prop:=
 ∀W W' row,J W->W.grownBy W' row->(∀r,row=some r->B<=r/\∃o:Obj,W.heap[r]? =some o/\vQ o=true)->J W'
theorem iC.pure(B:Nat)(p:Prop):iC B (λ_=>p):=λ_ _ _ h _ _=>h
theorem iC.and{B:Nat}{J J':World->Prop}(h:iC B J)(h':iC B J'):iC B (λW=>J W/\J' W):=
 λW W' row hj hg hr=>⟨h W W' row hj.1 hg hr,h' W W' row hj.2 hg hr⟩
theorem iC.ex{B:Nat}{α:Sort _}{J:α->World->Prop}(h:∀x,iC B (J x)):iC B (λW=>∃x,J x W):=
 λW W' row ⟨x,hj⟩ hg hr=>⟨x,h x W W' row hj hg hr⟩
theorem GW{W W':World}{row:Option Nat}{B k:Nat}{o:Obj}(hk:W.heap[k]? =some o)(ho:vQ o=false)(hg:W.grownBy W' row)
  (hr:∀r,row=some r->B<=r/\∃o:Obj,W.heap[r]? =some o/\vQ o=true):W'.heap[k]? =some o:=by
 refine(hg.block k (au.1 hk).1 (λe=>?_)).trans hk
 grind
theorem iC.low{B k:Nat}(hk:k<B)(o:Obj):iC B (λW=>W.heap[k]? =some o):=λW W' row h hg hr=>by
 exact(hg.block k (au.1 h).1 (λe=>by grind)).trans h
theorem iC.below{n₀ B:Nat}{w₀:World}(hn:n₀<=w₀.heap.size)(hB:n₀<=B):iC B (λW=>Below n₀ w₀ W):=
 λ_ _ _ hs hg hr=>hs.grown hg (aT hn hs.size) (λk e=>aT hB (hr k e).1)
theorem iC.ext{B:Nat}{J:World->Prop}(h:iC B J){W W':World}(hj:J W)(hb:Below W.heap.size W W'):J W':=
 h W W' none hj ⟨hb.os,hb.tape,hb.output,hb.size,λk hk _=>hb.block k hk⟩ (λr e=>by cases e)
theorem iC.put{B:Nat}{J:World->Prop}(h:iC B J){W:World}{l:Nat}{o:Obj}(o':Obj)(hj:J W)(hl:B<=l)(ho:W.heap[l]? =some o)(hb:vQ o=true):J (W.putObj l o'):=
 h W _ (some l) hj (dJ W l o') (λr e=>by grind)
def ss{σ α:Type}(P:Program)(gf:Nat)(lb:Array Value)(enc:α->Array Value)(ok:σ->α->Prop)(nx:σ->α->σ)(s0:σ)(Fin:σ->Prop)(Inv:σ->World->Prop):Prop:=
 ∀(l:Nat) (K:σ->World->Prop) (Kx:World->Prop) (T:World->Nat->Prop) (W0:World),
  (∀s W W' row,K s W->W.grownBy W' row->(∀q,row=some q->W0.heap.size<=q/\∃o:Obj,W.heap[q]? =some o/\vQ o=true)->K s W')->(∀W W' row,Kx W->W.grownBy W' row->(∀q,row=some q->W0.heap.size<=q/\∃o:Obj,W.heap[q]? =some o/\vQ o=true)->Kx W')->(∀s W,K s W->Inv s W)->
  (∀s W k,K s W->T W k->k<W.heap.size)->(∀s W W' row k,K s W->W.grownBy W' row->(∀q,row=some q->W0.heap.size<=q/\∃o:Obj,W.heap[q]? =some o/\vQ o=true)->T W' k->T W k)->
  (∀s x W,ok s x->K s W->YieldAt Fence.wide 0 P l (enc x) W λe W'=>(e=.returned (.bool true)/\K (nx s x) W'/\Tch T W W')\/(e=.returned (.bool false)/\Kx W'/\YY T W W'))->
  K s0 W0->CallsIn Fence.wide 0 P gf (#[.func (.yield l) #[] #[]]++lb) W0 λe W'=>(∃v,e=.returned v)/\((∃s,Fin s/\K s W')\/Kx W')
theorem SE{P:Program}{σ α:Type}{g:Operand}{ps:Array Tmp}{assign body:Code}{Q:Exit->Act->World->Prop}{a:Act}{w:World}{gf:Nat}{lb:Array Value}
  (hg:a.eval g=.func (.func gf) #[] lb) (eg:∀args w,(callFunc gf args).run P w=.ok (.enter gf args) w)
  {enc:α->Array Value} {ok:σ->α->Prop} {nx:σ->α->σ} {s0:σ} {Fin:σ->Prop} {Inv:σ->World->Prop} (hit:ss P gf lb enc ok nx s0 Fin Inv)
  (hps:∀x,(enc x).size=ps.size)
  (J:σ->World->Prop) (Jx:Code->World->Prop) (A:σ->α->Act->World->Prop)
  (hJ:∀s,iC w.heap.size (J s)) (hJx:∀c,iC w.heap.size (Jx c)) (hA:∀s x a,fG w.heap.size (A s x a)) (hInv:∀s W,J s W->Inv s W)
  (T:World->Nat->Prop) (hT0:∀s W k,J s W->T W k->k<W.heap.size) (hTg:∀W W' row,W.grownBy W' row->(∀r,row=some r->w.heap.size<=r/\∃o:Obj,W.heap[r]? =some o/\vQ o=true)->(∃s,J s W)->∀k,T W' k->T W k)
  (h0:J s0 w)
  (hassign:∀(l:Nat) (s:σ) (x:α) (W:World),ok s x->J s W->
    assign.wpIn (Fence.wide.inRound l) 0 P (Exit.then (λa1 W1=>gC W W1/\J s W1/\A s x a1 W1/\Tch T W W1) (λ_ _ _=>False)) {tmps:=(ps.zip (enc x)).foldl (λt (p,v)=>t.setIfInBounds p v) a.tmps,defers:= []} W)
  (hbody:∀(l:Nat) (s:σ) (x:α) (a1:Act) (W:World),ok s x->J s W->A s x a1 W->
    body.wpIn (Fence.wide.inRound l) 0 P (iQ (λW'=>gC W W'/\J (nx s x) W'/\Tch T W W') (λc W'=>gC W W'/\Jx c W'/\YY T W W')) a1 W)
  (hdone:∀(D:Nat) (s:σ) (W:World),w.heap.size<=D->Fin s->J s W->W.heap[D]? =some (.deferred (some []))->Q .normal {a with defers:={target:=.collected D,args:=#[]} :: a.defers} W)
  (hstop:∀(D:Nat) (c:Code) (W:World),w.heap.size<=D->Jx c W->W.heap[D]? =some (.deferred (some []))->c.wpIn Fence.wide 0 P Q {a with defers:={target:=.collected D,args:=#[]} :: a.defers} W):
  (Code.rangeFunc g ps assign body).wpIn Fence.wide 0 P Q a w:=by
 refine sD hg eg λR W1 hb1 hz h1 hy=>(hit (w.heap.size+1) (λs W=>J s W/\LD R w.heap.size .ready none W) (λW=>∃c,Jx c W/\LD R w.heap.size .done (some c) W) (λW k=>T W k\/k=w.heap.size+1\/k=w.heap.size) W1
  (λs A B row h hg hr=>by rw[hz] at hr;exact⟨hJ s A B row h.1 hg λr e=>⟨by grind,(hr r e).2⟩,h.2.grown hg hr⟩)
  (λA B row ⟨c,h1,h2⟩ hg hr=>by rw[hz] at hr;exact⟨c,hJx c A B row h1 hg λr e=>⟨by grind,(hr r e).2⟩,h2.grown hg hr⟩) (λs W h=>hInv s W h.1)
  (λs W k h ht=>ht.elim (hT0 s W k h.1) λe=>e.elim (λe=>e▸h.2.1.lt) λe=>e▸(au.1 h.2.2).1)
  (λs A B row k h hg hr ht=>ht.imp (hTg A B row hg (λr e=>⟨by grind,(hr r e).2⟩) ⟨s,h.1⟩ k) id)
  (λs x W hok ⟨hi,hl⟩=>hy hl.1 (hps x) (hassign _ s x W hok hi) λa1 V ⟨hkp,hiV,hAV,hTV⟩=>
    have lV:LD _ _ _ _ _:=hl.keep hkp;have t1:=hTg _ _ _ (lN V (w.heap.size+1) (.loop (R .busy none))) (λr hr=>by cases hr;exact⟨by omega,_,lV.1,rfl⟩) ⟨s,hiV⟩
    ⟨lV.1,λl2=>cD (hbody _ s x a1 _ hok ((hJ s).put _ hiV (by omega) lV.1 rfl) ((hA s x a1).put _ hAV (by omega) lV.1 rfl))
     (mK (λW3 ⟨hk3,hi3,hT3⟩=>have l3:LD _ _ _ _ _:=(LD.put lV).keep hk3;⟨l3.1,.inl ⟨rfl,⟨(hJ _).put _ hi3 (by omega) l3.1 rfl,l3.put⟩,wP (.inl rfl) hTV hT3 t1 (hTg _ _ _ (lN W3 _ _) (λr hr=>by cases hr;exact⟨by omega,_,l3.1,rfl⟩) ⟨_,hi3⟩)⟩⟩)
       λc W3 ⟨hk3,hi3,hT3⟩=>have l3:LD _ _ _ _ _:=(LD.put lV).keep hk3;⟨l3.1,.inr ⟨rfl,⟨c,(hJx c).put _ hi3 (by omega) l3.1 rfl,l3.put⟩,OQ (.inl rfl) hTV hT3 t1⟩⟩)⟩)
  ⟨(hJ s0).ext h0 hb1,h1⟩).mono ?_
 rintro e W2 ⟨hv,(⟨s,hS,hi,hl⟩|⟨c,hi,hl⟩)⟩
 .exact⟨hv,.inl ⟨hl.1,λo=>hdone _ s _ (aj _) hS ((hJ s).put _ hi (by omega) hl.1 rfl) ((bo (by omega)).trans hl.2)⟩⟩
 .exact⟨hv,.inr ⟨c,hl.1,λo=>hstop _ c _ (aj _) ((hJx c).put _ hi (by omega) hl.1 rfl) ((bo (by omega)).trans hl.2)⟩⟩
def ZI{α:Type}(P:Program)(gf:Nat)(lb:Array Value)(enc:α->Array Value)(l:List α)(I:World->Prop):Prop:=
 ss P gf lb enc okL nxL l sf (λ_ W=>I W)
section
variable {P:Program}
theorem XC{α:Type}{g:Operand}{ps:Array Tmp}{assign body:Code}{Q:Exit->Act->World->Prop}{a:Act}{w:World}{gf:Nat}{lb:Array Value}
  (hg:a.eval g=.func (.func gf) #[] lb) (eg:∀args w,(callFunc gf args).run P w=.ok (.enter gf args) w)
  {enc:α->Array Value} {l:List α} (I:World->Prop) (hit:ZI P gf lb enc l I) (hps:∀x,(enc x).size=ps.size)
  (J:List α->List α->World->Prop) (Jx:Code->World->Prop)
  (hJ:∀d r,iC w.heap.size (J d r)) (hJx:∀c,iC w.heap.size (Jx c)) (hInv:∀d r W,J d r W->I W)
  (T:World->Nat->Prop) (hT0:∀d r W k,J d r W->T W k->k<W.heap.size) (hTg:∀W W' row,W.grownBy W' row->(∀q,row=some q->w.heap.size<=q/\∃o:Obj,W.heap[q]? =some o/\vQ o=true)->(∃d r,J d r W)->∀k,T W' k->T W k)
  (h0:J [] l w)
  (hround:∀(lp:Nat) (d:List α) (x:α) (r:List α) (W:World),l=d++x :: r->J d (x :: r) W->
    assign.wpIn (Fence.wide.inRound lp) 0 P (Exit.then (λa1 W1=>gC W W1/\J d (x :: r) W1/\Tch T W W1/\∃G:World->Prop,fG w.heap.size G/\G W1/\∀(lp:Nat) (W2:World),J d (x :: r) W2->G W2->
     body.wpIn (Fence.wide.inRound lp) 0 P (iQ (λW'=>gC W2 W'/\J (d++ [x]) r W'/\Tch T W2 W') (λc W'=>gC W2 W'/\Jx c W'/\YY T W2 W')) a1 W2) (λ_ _ _=>False)) {tmps:=(ps.zip (enc x)).foldl (λt (p,v)=>t.setIfInBounds p v) a.tmps,defers:= []} W)
  (hdone:∀(D:Nat) (W:World),w.heap.size<=D->J l [] W->W.heap[D]? =some (.deferred (some []))->Q .normal {a with defers:={target:=.collected D,args:=#[]} :: a.defers} W)
  (hstop:∀(D:Nat) (c:Code) (W:World),w.heap.size<=D->Jx c W->W.heap[D]? =some (.deferred (some []))->c.wpIn Fence.wide 0 P Q {a with defers:={target:=.collected D,args:=#[]} :: a.defers} W):
  (Code.rangeFunc g ps assign body).wpIn Fence.wide 0 P Q a w:=by
 refine SE (enc:=enc) hg eg hit hps (λs W=>∃d,l=d++s/\J d s W) Jx
  (λs x a1 W=>∃G:World->Prop,fG w.heap.size G/\G W/\∀(d:List α) (lp:Nat) (W2:World),l=d++s->J d s W2->G W2->body.wpIn (Fence.wide.inRound lp) 0 P (iQ (λW'=>gC W2 W'/\J (d++ [x]) (nxL s x) W'/\Tch T W2 W') (λc W'=>gC W2 W'/\Jx c W'/\YY T W2 W')) a1 W2)
  (λs=>iC.ex λd=>(iC.pure _ _).and (hJ d s)) hJx (λ_ _ _=>λW W' row h hg hr=>let ⟨G,h1,h2,h3⟩:=h;⟨G,h1,h1 W W' row h2 hg hr,h3⟩) (λs W ⟨d,_,h⟩=>hInv d s W h) T (λs W k ⟨d,_,h⟩ ht=>hT0 d s W k h ht) (λW W' row hg hr ⟨s,d,_,h⟩=>hTg W W' row hg hr ⟨d,s,h⟩) ⟨[],rfl,h0⟩ ?_ ?_ ?_ hstop
 .rintro lp s x W hok ⟨d,hd,hj⟩;have hs:=lL hok;generalize nxL s x=r at hs|-;subst hs;refine cD (hround lp d x r W hd hj) ?_;rintro e a1 W1 he;cases e with
  |normal=>
   obtain⟨h1,h2,hT1,G,h4,h5,h3⟩:=he;refine⟨h1,⟨d,hd,h2⟩,⟨G,h4,h5,λd' lp' W2 hd' hj' hG'=>?_⟩,hT1⟩;have:d'=d:=by
    have:=hd'.symm.trans hd;exact cW this
   subst this;exact h3 lp' W2 hj' hG'
  |_=>exact he.elim
 .rintro lp s x a1 W hok ⟨d,hd,hj⟩ ⟨G,_,hG,hA⟩;refine cD (hA d lp W hd hj hG) ?_;rintro e a3 W3 he;cases e with
  |normal=>
   refine⟨he.1,⟨d++ [x],?_,he.2.1⟩,he.2.2⟩;rw[hd,cd]
   congr 1
   exact lL hok
  |ret=>exact he
  |exit id=>exact he
  |goto t=>exact he
  |panic ch=>exact he.elim
  |outgrown=>exact he.elim
 .rintro D s W hD hf ⟨d,hd,hj⟩ hk;subst hf;rw[ct] at hd;subst hd;exact hdone D W hD hj hk
end
theorem SK{P:Program}{σ α:Type}{g:Operand}{ps:Array Tmp}{assign body:Code}{Q:Exit->Act->World->Prop}{a:Act}{w:World}{l0:Nat}{r0:Loop}(hl0:w.heap[l0]? =some (.loop r0)){gf:Nat}{lb:Array Value}
  (hg:a.eval g=.func (.func gf) #[] lb) (eg:∀args w,(callFunc gf args).run P w=.ok (.enter gf args) w)
  {enc:α->Array Value} {ok:σ->α->Prop} {nx:σ->α->σ} {s0:σ} {Fin:σ->Prop} {Inv:σ->World->Prop} (hit:ss P gf lb enc ok nx s0 Fin Inv)
  (hps:∀x,(enc x).size=ps.size)
  (J:σ->World->Prop) (Jx:Code->World->Prop) (A:σ->α->Act->World->Prop)
  (hJ:∀s,iC w.heap.size (J s)) (hJx:∀c,iC w.heap.size (Jx c)) (hA:∀s x a,fG w.heap.size (A s x a)) (hInv:∀s W,J s W->Inv s W)
  (T:World->Nat->Prop) (hT0:∀s W k,J s W->T W k->k<W.heap.size) (hTg:∀W W' row,W.grownBy W' row->(∀r,row=some r->w.heap.size<=r/\∃o:Obj,W.heap[r]? =some o/\vQ o=true)->(∃s,J s W)->∀k,T W' k->T W k)
  (h0:J s0 w)
  (hassign:∀(l:Nat) (s:σ) (x:α) (W:World),ok s x->J s W->
    assign.wpIn (Fence.wide.inRound l) 0 P (Exit.then (λa1 W1=>gC W W1/\J s W1/\A s x a1 W1/\Tch T W W1) (λ_ _ _=>False)) {tmps:=(ps.zip (enc x)).foldl (λt (p,v)=>t.setIfInBounds p v) a.tmps,defers:= []} W)
  (hbody:∀(l:Nat) (s:σ) (x:α) (a1:Act) (W:World),w.heap.size<=l->(∃r,W.heap[l]? =some (.loop r))->ok s x->J s W->A s x a1 W->
    body.wpIn (Fence.wide.inRound l) 0 P (iQ (λW'=>gC W W'/\J (nx s x) W'/\Tch T W W') (λc W'=>gC W W'/\Jx c W'/\YY T W W')) a1 W)
  (hdone:∀(s:σ) (W:World),Fin s->J s W->Q .normal a W)
  (hstop:∀(c:Code) (W:World),Jx c W->c.wpIn (Fence.wide.inRound l0) 0 P Q a W):
  (Code.rangeFunc g ps assign body).wpIn (Fence.wide.inRound l0) 0 P Q a w:=by
 refine GG hl0 hg eg λR W1 hb1 hz h1 hy=>CallsIn.mono (hit w.heap.size (λs W=>J s W/\LO R w.heap.size .ready none W) (λW=>∃c,Jx c W/\LO R w.heap.size .done (some c) W) (λW k=>T W k\/k=w.heap.size) W1
  (λs A B row h hg hr=>by exact⟨hJ s A B row h.1 hg λr e=>⟨by grind,(hr r e).2⟩,QH h.2 hg hr (by omega)⟩)
  (λA B row ⟨c,h1,h2⟩ hg hr=>by exact⟨c,hJx c A B row h1 hg λr e=>⟨by grind,(hr r e).2⟩,QH h2 hg hr (by omega)⟩) (λs W h=>hInv s W h.1)
  (λs W k h ht=>ht.elim (hT0 s W k h.1) λe=>e▸LO.lt h.2)
  (λs A B row k h hg hr ht=>ht.imp (hTg A B row hg (λr e=>⟨by grind,(hr r e).2⟩) ⟨s,h.1⟩ k) id)
  (λs x W hok ⟨hi,hl⟩=>hy hl (hps x) (hassign _ s x W hok hi) λa1 V ⟨hkp,hiV,hAV,hTV⟩=>
    have lV:LO _ _ _ _ _:=hkp _ _ hl rfl;have t1:=hTg _ _ _ (lN V w.heap.size (.loop (R .busy none))) (λr hr=>by cases hr;exact⟨aj _,_,lV,rfl⟩) ⟨s,hiV⟩
    ⟨lV,λl2=>cD (hbody _ s x a1 _ (aj _) ⟨_,l2⟩ hok ((hJ s).put _ hiV (aj _) lV rfl) ((hA s x a1).put _ hAV (aj _) lV rfl))
     (mK (λW3 ⟨hk3,hi3,hT3⟩=>have l3:LO _ _ _ _ _:=hk3 _ _ l2 rfl;⟨l3,.inl ⟨rfl,⟨(hJ _).put _ hi3 (aj _) l3 rfl,l3.put⟩,wP rfl hTV hT3 t1 (hTg _ _ _ (lN W3 _ _) (λr hr=>by cases hr;exact⟨aj _,_,l3,rfl⟩) ⟨_,hi3⟩)⟩⟩)
       λc W3 ⟨hk3,hi3,hT3⟩=>have l3:LO _ _ _ _ _:=hk3 _ _ l2 rfl;⟨l3,.inr ⟨rfl,⟨c,(hJx c).put _ hi3 (aj _) l3 rfl,l3.put⟩,OQ rfl hTV hT3 t1⟩⟩)⟩)
  ⟨(hJ s0).ext h0 hb1,h1⟩) ?_
 rintro e W2 ⟨hv,(⟨s,hS,hi,hl⟩|⟨c,hi,hl⟩)⟩
 .exact⟨hv,.inl ⟨hl,λo=>hdone s _ hS ((hJ s).put _ hi (aj _) hl rfl)⟩⟩
 .exact⟨hv,.inr ⟨c,hl,λo=>hstop c _ ((hJx c).put _ hi (aj _) hl rfl)⟩⟩
end

section
open Go.RowKit Go.Shelf
attribute [local go_sem] Oper.semAt_some iF gH gS fX
def yF(t:fS)(S:Nat)(rs:List lP):Nat->List (Nat×Nat)
 |0=> []
 |k+1=>(k,qJ t S (rs.drop k)) :: yF t S rs k
def YV(x:Nat×Nat):Array Value:=#[.int .i64 (x.1:Int),.agg (iW x.2)]
abbrev zg(x:iA)(S S0 B0:Nat)(W:World):Prop:=W.heap[S0]? =some (bsO S)/\W.heap[B0]? =some (oA x.h)/\xA W x
theorem LE(h:nA)(S:Nat)(w:World):Calls Tryz.prog 53 #[IE h,.agg (iW S)] w λe w'=>e=.returned (.func (.func 144) #[] #[.pointer (some ⟨w.heap.size+1,0,none⟩),.pointer (some ⟨w.heap.size,0,none⟩)])/\w'=(w.alloc (oA h)).alloc (bsO S):=by
 go_enter Tryz.func53,Tryz.ntmps53
 go_wp2
 go_ret
 exact⟨rfl,rfl⟩
theorem DX(args:Array Value)(w:World):(callFunc 144 args).run Tryz.prog w=.ok (.enter 144 args) w:=dK Tryz.func144 (by kernel_rfl) rfl args w
def PtJ(x:iA)(S:Nat)(K:List (Nat×Nat)->World->Prop)(T:World->Nat->Prop)(l A1 P4 G:Nat)(r:List (Nat×lP))(W:World):Prop:=
 ∃k,r=mN x.rs k/\k<=x.h.n/\K (yF x.h.t S x.rs k) W/\W.cell? ⟨A1,0,none⟩=some (.func (.yield l) #[] #[])/\W.heap[P4]? =some (bsO (qJ x.h.t S (x.rs.drop k)))/\W.cell? ⟨G,0,none⟩=some (.slice x.h.ia x.h.n x.h.c)/\∀j,(j=A1\/j=P4\/j=G\/j=G+1\/j=G+2)->¬T W j
theorem PtJ.steady{x:iA}{S:Nat}{K:List (Nat×Nat)->World->Prop}{T:World->Nat->Prop}{l A1 P4 G B:Nat}{W0:World}{r:List (Nat×lP)}
  (hK:∀s W W' row,K s W->W.grownBy W' row->(∀q,row=some q->W0.heap.size<=q/\∃o:Obj,W.heap[q]? =some o/\vQ o=true)->K s W')
  (hT:∀s W W' row k,K s W->W.grownBy W' row->(∀q,row=some q->W0.heap.size<=q/\∃o:Obj,W.heap[q]? =some o/\vQ o=true)->T W' k->T W k)
  (ha:W0.heap.size=A1) (hB:A1<=B):gL B (λW=>Hid (PtJ x S K T l A1 P4 G r W)):=by
 intro W V row h hg hr
 obtain⟨k,h1,h2,h3,h4,h5,h6,h7⟩:=h.out
 have hr2:∀q,row=some q->W0.heap.size<=q/\∃o:Obj,W.heap[q]? =some o/\vQ o=true:=λq e=>by
  obtain⟨g1,o,g2,g3⟩:=hr q e;exact⟨by omega,o,g2,by unfold vQ;rw[g3];rfl⟩
 exact⟨k,h1,h2,hK _ _ _ row h3 hg hr2,gL.cell B _ _ W V row h4 hg hr,vN h5 rfl hg hr,gL.cell B _ _ W V row h6 hg hr,λj hj ht=>h7 j hj (hT _ _ _ row j h3 hg hr2 ht)⟩
theorem GH(x:iA)(S S0 B0:Nat)(hna:∀r∈x.rs,r.na<=1000000)(hn:x.h.n<=17592186044416):ZI Tryz.prog 144 #[.pointer (some ⟨S0,0,none⟩),.pointer (some ⟨B0,0,none⟩)] YV (yF x.h.t S x.rs (x.h.n+1)) (zg x S S0 B0):=by
 intro l K Kx T W0 hK hKx hInv hT0 hTs hY h0
 refine cu Tryz.func144 rfl trivial ?_
 simp only[Tryz.ntmps144,bd,bk,bx,Nat.reduceAdd,Nat.reduceSub,bF,bG,bV,bN,bD,bU]
 have HKE:Hid (∀s W W',K s W->Below W.heap.size W W'->K s W'):=λs W W' h hb=>hK s W W' none h ⟨hb.os,hb.tape,hb.output,hb.size,λk hk _=>hb.block k hk⟩ (λr e=>by cases e)
 have HTE:Hid (∀s W W' k,K s W->Below W.heap.size W W'->T W' k->T W k):=λs W W' k h hb=>hTs s W W' none k h ⟨hb.os,hb.tape,hb.output,hb.size,λk hk _=>hb.block k hk⟩ (λr e=>by cases e)
 have HK:=ac hK
 have HKX:=ac hKx
 have HT0:=ac hT0
 have HTS:=ac hTs
 have HY:=ac hY
 have HI:=ac hInv
 have HNA:=ac hna
 have H0:=ac h0
 clear hK hKx hInv hT0 hTs hY h0 hna
 gi_wp2
 generalize hW1:W0.alloc _=W1
 have HB1:Hid (Below W0.heap.size W0 W1):=by rw[<-hW1];exact fD _ _
 have HA1:Hid (W1.cell? ⟨W0.heap.size,0,none⟩=some (.func (.yield l) #[] #[])):=by
  rw[Hid,<-hW1,aZ _ _ _ _ _ _ (ae W0 _)];rfl
 have HS1:Hid (W1.heap.size=W0.heap.size+1):=by rw[Hid,<-hW1];simp
 have H1:=ac (HKE.out _ _ _ H0.out HB1.out)
 have HS:=ac (HI.out _ _ H1.out).1
 have HB:=ac (HI.out _ _ H1.out).2.1
 have HOK:=ac (HI.out _ _ H1.out).2.2
 clear hW1
 refine dy.2 ?_
 refine lF 6 [some 7,some 8,some 9,some 10,some 11,some 4] (by kernel_rfl) (by kernel_rfl) (jZ [.val (.agg (iW S)),.val (.pointer (some ⟨B0,1,none⟩)),.val (tF x.h.t),(.any λv lo hi W=>∃a n c,v=.slice a n c/\iJ W a n (jV x.h.t)),.val (.agg (iW (nJ S (jV x.h.t)))),.new (bsO 0)]) (jX ?_) ?_ ?_
 .intro k hk;simp only[aS,bO,cX] at hk;rcases hk with rfl|rfl|rfl|rfl|rfl|rfl<;>try exact trivial
  .rintro v lo hi w w' hb ⟨a,n,c,h1,h2⟩;exact⟨a,n,c,h1,h2.ext hb⟩
 .intro i hi ν lo hi' w1 K hB hD hK;have hcase:i=0\/i=1\/i=2\/i=3\/i=4\/i=5:=by omega
  clear hi;rcases hcase with rfl|rfl|rfl|rfl|rfl|rfl
  .clear hD;refine fF rfl rfl ?_;simp only[zA,zB,zC,zD,zE,zF,zJ,zK,zG,zH,zI] at hK|-;refine cy 124 _ rfl S0 rfl 124 _ (0,0) _ (fB hB HS.out) bK rfl (by rw[iE];exact iX) ?_;exact hK _ _ (ag _ _) rfl
  .clear hD;refine fF rfl rfl ?_;simp only[zA,zB,zC,zD,zE,zF,zJ,zK,zG,zH,zI] at hK|-;have hbl:=fE (fB hB HB.out);go_simp;exact hK _ _ (ag _ _) rfl
  .have e1:ν 1=(.pointer (some ⟨B0,1,none⟩)):=hD 1 (by kernel_rfl);clear hD;refine fF rfl rfl ?_;simp only[zA,zB,zC,zD,zE,zF,zJ,zK,zG,zH,zI,e1] at hK|-;have hb:=fB hB HB.out;obtain⟨-,j0,j1,j2,j3⟩:=YX hb rfl;go_simp;exact hK _ _ (ag _ _) rfl
  .have e2:ν 2=(tF x.h.t):=hD 2 (by kernel_rfl);clear hD;refine fF rfl rfl ?_;simp only[zA,zB,zC,zD,zE,zF,zJ,zK,zG,zH,zI,e2] at hK|-;go_simp;refine(xM x.h.t w1 HOK.out.1).mono ?_;rintro e w2 ⟨rv,rfl,ho,hb2⟩;obtain⟨ra,rc,rfl⟩:=ho.form;exact hK _ _ hb2 ⟨ra,_,rc,rfl,ho.ints⟩
  .have e0:ν 0=(.agg (iW S)):=hD 0 (by kernel_rfl);have e3:=hD 3 (by kernel_rfl);unfold jZ at e3;simp only[br,bq,nC] at e3;clear hD;refine fF rfl rfl ?_;simp only[zA,zB,zC,zD,zE,zF,zJ,zK,zG,zH,zI,e0] at hK|-;obtain⟨na,nn,nc,e3,hN⟩:=e3;simp only[e3] at hK|-;go_simp;refine(PQ S na nn nc (jV x.h.t) w1 hN).mono ?_;rintro e w2 ⟨rfl,hb2⟩;exact hK _ _ hb2 rfl
  .clear hD;refine fF rfl rfl ?_;simp only[zA,zB,zC,zD,zE,zF,zJ,zK,zG,zH,zI] at hK|-;go_simp;refine hK _ _ (fD _ _) ⟨rfl,by simp,?_⟩;rw[ae,wK]
 .intro ν lo hi w1 hB hS hI hD;have e0:ν 0=(.agg (iW S)):=hS 0 (by omega);have e1:ν 1=(.pointer (some ⟨B0,1,none⟩)):=hS 1 (by omega);have e2:ν 2=(tF x.h.t):=hS 2 (by omega);have e3:=hS 3 (by omega);unfold jZ at e3;simp only[br,bq,nC] at e3;have e4:ν 4=(.agg (iW (nJ S (jV x.h.t)))):=hS 4 (by omega);obtain⟨e5,l5,h5⟩:=hS 5 (by omega);clear hS;simp only[am,aw,zA,zB,zC,zD,zE,zF,zJ,zK,zG,zH,zI,e0,e1,e2,e4,e5];have i5:=hI 5 (by omega);have hls0:=fE HS.out;have hlb0:=fE HB.out;have hb1:=hB;generalize lo 5=P4 at *;have HP4:Hid (W1.heap.size<=P4):=i5.1;have HZ:=ac h5;have HBB:=ac hB;clear hI hD hB e0 e1 e2 e3 e4 e5 i5 l5 h5 hb1 hls0 hlb0
  go_wp2_with ((with_reducible show wpList _ _ _ (⟨none,.store 124 _ _,_,_,_,_⟩ :: _) _ _);refine aP rfl 124 _ _ rfl P4 (iW (nJ S (jV x.h.t))) rfl rfl 124 _ HZ.out (by rw[iE];exact iX) (by rw[iE,iE]) (oY _) ?_)
  obtain⟨w3,hw3⟩:∃w3,w3=w1.setRow P4 (iW (nJ S (jV x.h.t))):=⟨_,rfl⟩
  rw[<-hw3];have HZ3:Hid (w3.heap[P4]? =some (bsO (nJ S (jV x.h.t)))):=by rw[hw3];exact bt _ _ _ _ _ _ HZ.out
  have HB3:Hid (Below W1.heap.size W1 w3):=by rw[hw3];exact aX HBB.out HP4.out _
  clear hw3;have HK3:=ac (HKE.out _ _ _ H1.out HB3.out);have HN4:Hid (¬T w3 P4):=λh=>by have:=HT0.out _ _ _ H1.out (HTE.out _ _ _ _ H1.out HB3.out h);have:=HP4.out;omega
  have HN1:Hid (¬T w3 W0.heap.size):=λh=>by have:=HT0.out _ _ _ H0.out (HTE.out _ _ _ _ H0.out HB1.out (HTE.out _ _ _ _ H1.out HB3.out h));omega
  have HA3:Hid (w3.cell? ⟨W0.heap.size,0,none⟩=some (.func (.yield l) #[] #[])):=fZ HB3.out HA1.out;have HL3:Hid (P4<w3.heap.size):=fE HZ3.out;have HRL:Hid (x.rs.length=x.h.n):=HOK.out.2.1.1;have hbl3:=(HI.out _ _ HK3.out).2.1;have c0:=cK 0 hbl3 rfl;have hbl:=fE hbl3;have ha3:=HA3.out;have hp0:qJ x.h.t S (x.rs.drop x.h.n)=nJ S (jV x.h.t):=by rw[dx (by rw[HRL.out];omega)];rfl
  obtain⟨fn,tmps,assign,body,hy,hR⟩:=HY.out (yF x.h.t S x.rs (x.h.n+1)) (x.h.n,nJ S (jV x.h.t)) w3 (by rw[yF,hp0];rfl) HK3.out;unfold YV at hy;have hT:nxL (yF x.h.t S x.rs (x.h.n+1)) (x.h.n,nJ S (jV x.h.t))=yF x.h.t S x.rs x.h.n:=rfl;rw[hT] at hR;have HR2:=ac hR;clear hbl3 hT hR hp0 H0 H1 HK3 HA1 HS HB HZ HBB HOK
  gi_wp2_with (first
   |((with_reducible show wpListIn _ _ _ _ _ (⟨some 16,.load _ _,_,_,_,_⟩ :: _) _ _);refine iS rfl 124 _ rfl P4 rfl 124 _ (0,0) _ HZ3.out bK rfl (by rw[iE];exact iX) ?_))
  refine HR2.out.mono ?_;rintro e W' (⟨rfl,hK',hTch⟩|⟨rfl,hX',_⟩)
  .have HK5:=ac hK';have HA5:Hid (W'.cell? ⟨W0.heap.size,0,none⟩=some (.func (.yield l) #[] #[])):=by
    have e:=hTch.2.1 W0.heap.size (by have:=HB3.out.size;have:=HS1.out;omega) HN1.out;rw[Hid,<-HA3.out];unfold World.cell?;simp only[e]
   have HZ5:Hid (W'.heap[P4]? =some (bsO (nJ S (jV x.h.t)))):=(hTch.2.1 P4 HL3.out HN4.out).trans HZ3.out;have HN5:Hid (¬T W' P4):=λh=>(hTch.2.2 P4 h).elim HN4.out (by have:=HL3.out;omega);have HN6:Hid (¬T W' W0.heap.size):=λh=>(hTch.2.2 _ h).elim HN1.out (by have:=HB3.out.size;have:=HS1.out;omega);have HS5:Hid (W0.heap.size<P4/\P4<W'.heap.size):=⟨by have:=HP4.out;have:=HS1.out;omega,by have:=HL3.out;have:=hTch.1;omega⟩
   have hbl3:=(HI.out _ _ HK5.out).2.1;have c0:=cK 0 hbl3 rfl;have hbl:=fE hbl3;clear hK' hTch hy HR2 ha3 HA3 HN1 HN4 HL3 HZ3 hbl3
   gi_wp2_with (
    (gi_at_call 146
     refine(bu.2 (YN x.h.ia x.h.n x.h.c W')).mono ?_;rintro e w4 ⟨rfl,hw4⟩;have HW4:=ac hw4
     clear hw4))
   have HB4:Hid (Below W'.heap.size W' w4):=by rw[HW4.out];exact fD _ _
   have HG4:Hid (w4.cell? ⟨W'.heap.size,0,none⟩=some (.slice x.h.ia x.h.n x.h.c)):=by rw[Hid,HW4.out,aZ _ _ _ _ _ _ (ae W' _)];rfl
   have HZ4:Hid (w4.heap.size=W'.heap.size+1):=by rw[Hid,HW4.out];simp
   have HK4:=ac (HKE.out _ _ _ HK5.out HB4.out);have HA4:Hid (w4.cell? ⟨W0.heap.size,0,none⟩=some (.func (.yield l) #[] #[])):=fZ HB4.out HA5.out;have HP5:Hid (w4.heap[P4]? =some (bsO (nJ S (jV x.h.t)))):=fB HB4.out HZ5.out;obtain⟨G,hG⟩:∃G,W'.heap.size=G:=⟨_,rfl⟩
   obtain⟨A1,hA1⟩:∃A1,W0.heap.size=A1:=⟨_,rfl⟩
   have HN4:Hid (∀j,(j=A1\/j=P4\/j=G\/j=G+1\/j=G+2)->¬T w4 j):=λj hj ht=>by
    have h4:=HT0.out _ _ _ HK4.out ht;have h5:=HTE.out _ _ _ _ HK5.out HB4.out ht;have h6:=HT0.out _ _ _ HK5.out h5;have hs:=HS5.out;have hz:=HZ4.out;rcases hj with rfl|rfl|rfl|rfl|rfl
    .rw[<-hA1] at h5;exact HN6.out h5
    .exact HN5.out h5
    .omega
    .omega
    .omega
   have HAG:Hid (A1<P4/\P4<G):=by rw[<-hG,<-hA1];exact HS5.out
   rw[hG] at HG4 HZ4|-;rw[hA1] at HA4|-;have HWA:=ac hA1;have HRI:Hid (∀W,zg x S S0 B0 W->tC W x.h.ia x.h.n x.rs):=λW h=>h.2.2.2;clear hG hA1 HW4 HK5 HA5 HZ5 HN5 HN6 HS5 HB4 c0 hbl
   refine XD (ps:=#[22,23]) (gf:=221) (lb:=#[.pointer (some ⟨G,0,none⟩)]) (enc:=uZ) (l:=mN x.rs x.h.n) rfl NJ _ (NN G x.h.ia x.h.n x.h.c x.rs hn) (λ_=>rfl)
    (λ_ r W=>Hid (PtJ x S K T l A1 P4 G r W))
    (λc W=>Hid (c=.ret/\Kx W)) ?hJ ?hJx ?hInv ?start ?round ?done ?stop
   case hJ=>exact λd r=>PtJ.steady HK.out HTS.out HWA.out (by have:=HZ4.out;have:=HAG.out;omega)
   case hJx=>exact λc W V row h hg hr=>⟨h.out.1,HKX.out _ _ row h.out.2 hg λq e=>by
    obtain⟨h1,o,h2,h3⟩:=hr q e
    exact⟨by have:=HZ4.out;have:=HAG.out;have:=HWA.out;omega,o,h2,by unfold vQ;rw[h3];rfl⟩⟩
   case hInv=>
    rintro d r W h;obtain⟨k,_,_,hK,_,_,hG,_⟩:=h.out;exact⟨hG,HRI.out _ (HI.out _ _ hK)⟩
   case start=>exact⟨x.h.n,rfl,aj _,HK4.out,HA4.out,by rw[dx (by rw[HRL.out];omega)];exact HP5.out,HG4.out,HN4.out⟩
   case round=>
    rintro lp d x' r W hz hd hJ;obtain⟨k,hk,hkn,hK,hA,hP,hG,hN⟩:=hJ.out;cases k with
    |zero=>cases hk
    |succ k=>
     obtain⟨ri,hri⟩:∃ri,x.rs[k]? =some ri:=⟨x.rs[k]'(by rw[HRL.out];omega),ah (by rw[HRL.out];omega)⟩
     rw[sH hri] at hk;obtain⟨rfl,rfl⟩:=List.cons.inj hk;have HRI2:=ac hri;have HKK:=ac hK;have HAA:=ac hA;have HPP:=ac hP;have HGG:=ac hG;have HNN:=ac hN;have HJJ:=ac hJ.out;have HZZ:Hid (G+2<W.heap.size):=by have:=HZ4.out;have:=hz;show G+2<_;omega
     have HZ4':Hid (w4.heap.size=G+1):=HZ4.out;unfold uZ;clear hk hri hK hA hP hG hN hJ hz hd
     gi_wp2
     refine⟨λj hj=>(fD W _).block j (by have:=HZZ.out;have:=HZ4'.out;omega),(PtJ.steady HK.out HTS.out HWA.out (B:=w4.heap.size) (by have:=HZ4.out;have:=HAG.out;omega)).ext HJJ (fD W _),λV=>Hid (V.heap[W.heap.size]? =some (vR ri.d ri.aa ri.na ri.ca)),gL.block _ _ rfl,ae _ _,?_⟩;obtain⟨N,hN⟩:∃N,W.heap.size=N:=⟨_,rfl⟩
     rw[hN];clear HKK HAA HPP HGG HNN HJJ HZZ hN lp W;rintro lp W2 hz2 hJ2 hG2;obtain⟨k2,hk2,hkn2,hK2,hA2,hP2,hG3,hN2⟩:=hJ2.out;obtain rfl:k2=k+1:=by
      cases k2 with
      |zero=>cases hk2
      |succ j=>
       rw[sH (ah (show j<x.rs.length by rw[HRL.out];omega))] at hk2;have:=(Prod.mk.inj (List.cons.inj hk2).1).1;omega
     have hmem:ri∈x.rs:=aK HRI2.out;have HIO:Hid (rD W2 ri):=(HRI.out _ (HI.out _ _ hK2)).2 ri hmem;have HRA:Hid (ri.na<=1000000):=HNA.out ri hmem;have HPN:Hid (pT (qJ x.h.t S (x.rs.drop (k+1))) ri.d=qJ x.h.t S (x.rs.drop k)):=by
      have hl:k<x.rs.length:=(aE.1 HRI2.out).1;have he:x.rs[k]=ri:=(aE.1 HRI2.out).2;rw[Hid,cn hl,he];rfl
     generalize qJ x.h.t S (x.rs.drop (k+1))=P1 at *;obtain⟨P2,hP2'⟩:∃P2,qJ x.h.t S (x.rs.drop k)=P2:=⟨_,rfl⟩
     have HPE:=ac hP2';rw[hP2'] at HPN;clear hP2';have HK2:=ac hK2;have HA2:=ac hA2;have HP2:=ac hP2;have HG3:=ac hG3;have HN2:=ac hN2;have HG2:=ac hG2.out;have HZ2:Hid (G+2<W2.heap.size):=by have:=HZ4'.out;show G+2<_;omega
     have hpl:=fE hP2;clear hk2 hkn2 hK2 hA2 hP2 hG3 hN2 hG2 hJ2 hz2 hmem
     gi_upto_region 7 with (first
      |((with_reducible show wpListIn _ _ _ _ _ (⟨some 24,.load _ _,_,_,_,_⟩ :: _) _ _);refine iS rfl 161 _ rfl N rfl 161 _ (0,0) _ HG2.out cF rfl mY ?_)
      |((with_reducible show wpListIn _ _ _ _ _ (⟨some 25,.load _ _,_,_,_,_⟩ :: _) _ _);refine iS rfl 124 _ rfl P4 rfl 124 _ (0,0) _ HP2.out bK rfl (by rw[iE];exact iX) ?_)
      |(gi_at_call 147
        refine(eG _ (bu.2 (ig ri P1 W2 HIO.out HRA.out))).mono ?_;rw[HPN.out];rintro e w5 ⟨rfl,hb5⟩;have HB5:=ac hb5;have HP5:=ac (fB hb5 HP2.out)
        clear hb5)
      |((with_reducible show wpListIn _ _ _ _ _ (⟨none,.store 124 _ _,_,_,_,_⟩ :: _) _ _)
        refine oM (by repeat (first|exact gZ|refine iK ?_|refine hU ?_)) _ _ _ rfl ?_
        refine aP rfl 124 _ _ rfl P4 (iW P2) rfl rfl 124 _ HP5.out (by rw[iE];exact iX) (by rw[iE,iE]) (oY _) ?_))
     obtain⟨w6,hw6⟩:∃w6,w6=w5.setRow P4 (iW P2):=⟨_,rfl⟩
     rw[<-hw6];have HP6:Hid (w6.heap[P4]? =some (bsO P2)):=by rw[hw6];exact bt _ _ _ _ _ _ HP5.out
     have hg6:w5.grownBy w6 (some P4):=by rw[hw6];exact⟨rfl,rfl,rfl,by simp[World.setRow],λj _ hne=>cC w5 P4 j _ (λe=>hne (by rw[e]))⟩
     have hq6:∀q,some P4=some q->W0.heap.size<=q/\∃o:Obj,w5.heap[q]? =some o/\vQ o=true:=λq e=>by cases e;exact⟨by have:=HAG.out;have:=HWA.out;omega,_,HP5.out,rfl⟩
     have hk5:=HKE.out _ _ _ HK2.out HB5.out;have HK6:=ac (HK.out _ _ _ (some P4) hk5 hg6 hq6);have HN6:Hid (∀j,(j=A1\/j=P4\/j=G\/j=G+1\/j=G+2)->¬T w6 j):=λj hj ht=>HN2.out j hj (HTE.out _ _ _ _ HK2.out HB5.out (HTS.out _ _ _ (some P4) j hk5 hg6 hq6 ht));have hof:∀j,j<W2.heap.size->j≠P4->w6.heap[j]? =W2.heap[j]?:=λj hj hne=>by rw[hw6,cC _ _ _ _ hne,HB5.out.block j hj]
     have hz2:=HZ2.out;have hag:=HAG.out;have HA6:Hid (w6.cell? ⟨A1,0,none⟩=some (.func (.yield l) #[] #[])):=by rw[Hid,<-HA2.out];unfold World.cell?;simp only[hof A1 (by omega) (by omega)]
     have HG6:Hid (w6.cell? ⟨G,0,none⟩=some (.slice x.h.ia x.h.n x.h.c)):=by rw[Hid,<-HG3.out];unfold World.cell?;simp only[hof G (by omega) (by omega)]
     have HO6:Hid (∀j,j=G+1\/j=G+2->w6.heap[j]? =W2.heap[j]?):=λj hj=>hof j (by omega) (by omega);have HZ6:Hid (G+2<w6.heap.size):=by have:=hg6.size;have:=HB5.out.size;show G+2<_;omega
     obtain⟨fn,tmps,assign,body,hy,hR⟩:=HY.out (yF x.h.t S x.rs (k+1)) (k,P2) w6 (by rw[yF,HPE.out];rfl) HK6.out;unfold YV at hy;have hT:nxL (yF x.h.t S x.rs (k+1)) (k,P2)=yF x.h.t S x.rs k:=rfl;rw[hT] at hR;have HR6:=ac hR;have ha6:=HA6.out;clear hT hR hof hz2 hag hk5 hq6 hg6 hw6 hpl HK2 HA2 HP2 HG3 HG2 HB5 HP5 HZ2 HIO HRA HPN HK6;go_wp2
     gi_wp2_with (first
      |((with_reducible show wpListIn _ _ _ _ _ (⟨some 29,.load _ _,_,_,_,_⟩ :: _) _ _);refine iS rfl 124 _ rfl P4 rfl 124 _ (0,0) _ HP6.out bK rfl (by rw[iE];exact iX) ?_))
     refine RoundIn.mono (show RoundIn (Fence.wide.inRound lp) 0 _ _ _ _ _ _ _ _ from HR6.out) ?_;rintro e W7 (⟨rfl,hK7,hTch⟩|⟨rfl,hX7,hOff⟩)
     .have HK7:=ac hK7;have HTch:=ac hTch;clear hK7 hTch hy HR6 ha6
      gi_wp2
      have hz6:=HZ6.out;have hag:=HAG.out;have hpl:=fE HP6.out;refine⟨λj hj=>(HTch.out.2.1 j (by have:=HZ4'.out;omega) (HN6.out j (by have:=HZ4'.out;omega))).trans (HO6.out j (by have:=HZ4'.out;omega)),k,rfl,by omega,HK7.out,?_,?_,?_,?_⟩
      .rw[<-HA6.out];unfold World.cell?;simp only[HTch.out.2.1 A1 (by omega) (HN6.out A1 (by simp))]
      .rw[HPE.out];exact(HTch.out.2.1 P4 hpl (HN6.out P4 (by simp))).trans HP6.out
      .rw[<-HG6.out];unfold World.cell?;simp only[HTch.out.2.1 G (by omega) (HN6.out G (by simp))]
      .exact λj hj ht=>(HTch.out.2.2 j ht).elim (HN6.out j hj) (by omega)
     .have HX7:=ac hX7;clear hX7 hy HR6 ha6;have HOF:=ac hOff;clear hOff
      gi_wp2
      have hz6:=HZ6.out;have hzz:=HZ4'.out;exact⟨λj hj=>(HOF.out j (by omega) (HN6.out j (by omega))).trans (HO6.out j (by omega)),rfl,HX7.out⟩
   case done=>
    rintro D W hD hJ hdf;obtain⟨k,hk,hkn,hK,_⟩:=hJ.out;have hDK:k=0:=by
     cases k with
     |zero=>rfl
     |succ j=>
      rw[sH (ah (by rw[HRL.out];omega))] at hk;cases hk
    subst hDK;have HDF:=ac hdf;have hKf:=HK.out _ _ _ (some D) hK (dJ W D (.deferred none)) (λq e=>by cases e;exact⟨by have:=HZ4.out;have:=HAG.out;have:=HWA.out;omega,_,HDF.out,rfl⟩);have HKF:=ac hKf;clear hdf hKf hK hk hJ
    gi_wp2
    refine⟨by simp,.inl ⟨_,_,rfl,cM HDF.out,?_⟩⟩;exact⟨.tuple #[],by simp[results,Tryz.results144,go_sem],⟨_,rfl⟩,Or.inl ⟨_,rfl,HKF.out⟩⟩
   case stop=>
    rintro D c W hD hc hdf;obtain⟨rfl,hx⟩:=hc.out;have HDF:=ac hdf;have hXf:=HKX.out _ _ (some D) hx (dJ W D (.deferred none)) (λq e=>by cases e;exact⟨by have:=HZ4.out;have:=HAG.out;have:=HWA.out;omega,_,HDF.out,rfl⟩);have HXF:=ac hXf;clear hdf hXf hx hc
    gi_wp2
    refine⟨by simp,.inl ⟨_,_,rfl,cM HDF.out,?_⟩⟩;exact⟨.tuple #[],by simp[results,Tryz.results144,go_sem],⟨_,rfl⟩,Or.inr HXF.out⟩
  .have HX:=ac hX';clear hX' hy HR2
   gi_wp2
   exact⟨.tuple #[],by simp[results,Tryz.results144,go_sem],⟨_,rfl⟩,Or.inr HX.out⟩
end

section
open Go.RowKit
def uY(a:Act)(slots:List Nat)(u:Nat->Value)(ds:List Deferred):Act:={tmps:=slots.foldl (λt s=>t.setIfInBounds s (u s)) a.tmps,defers:=ds}
theorem ql(a:Act):∀(slots:List Nat),uY a slots (λs=>a.tmps.getD s undef) a.defers=a:=by
 intro slots
 have key:slots.foldl (λt s=>t.setIfInBounds s (a.tmps.getD s undef)) a.tmps=a.tmps:=by
  induction slots with
  |nil=>rfl
  |cons s l ih=>rw[ed,UL];exact ih
 rw[uY,key]
theorem uK{F:Fence}{rm:Nat}{P:Program}{Q:Exit->Act->World->Prop}{a:Act}{w:World}{c:Code}(slots:List Nat)(R:Nat->(Nat->Value)->List Deferred->World->Prop)(n0:Nat)
  (h0:R n0 (λs=>a.tmps.getD s undef) a.defers w)
  (round:∀m u ds w',R m u ds w'->c.wpIn F rm P (Exit.then (λa' w''=>∃m',m'<m/\∃u' ds',a'=uY a slots u' ds'/\R m' u' ds' w'') Q) (uY a slots u ds) w'):(Code.loop c).wpIn F rm P Q a w:=by
 refine wpIn_loop_ghost (λm a' w'=>∃u ds,a'=uY a slots u ds/\R m u ds w') n0 ⟨_,_,(ql a slots).symm,h0⟩ ?_
 rintro m a' w' ⟨u,ds,rfl,h⟩
 exact round m u ds w' h
end

section
open Go.RowKit
theorem SJ{P:Program}{α:Type}{g:Operand}{ps:Array Tmp}{assign body:Code}{Q:Exit->Act->World->Prop}{a:Act}{w:World}{l0:Nat}{r0:Loop}(hl0:w.heap[l0]? =some (.loop r0)){gf:Nat}{lb:Array Value}
  (hg:a.eval g=.func (.func gf) #[] lb) (eg:∀args w,(callFunc gf args).run P w=.ok (.enter gf args) w)
  {enc:α->Array Value} {l:List α} (I:World->Prop) (hit:ZI P gf lb enc l I) (hps:∀x,(enc x).size=ps.size)
  (J:List α->List α->World->Prop) (Jx:Code->World->Prop)
  (hJ:∀d r,iC w.heap.size (J d r)) (hJx:∀c,iC w.heap.size (Jx c)) (hInv:∀d r W,J d r W->I W)
  (T:World->Nat->Prop) (hT0:∀d r W k,J d r W->T W k->k<W.heap.size) (hTg:∀W W' row,W.grownBy W' row->(∀q,row=some q->w.heap.size<=q/\∃o:Obj,W.heap[q]? =some o/\vQ o=true)->(∃d r,J d r W)->∀k,T W' k->T W k)
  (h0:J [] l w)
  (hround:∀(lp:Nat) (d:List α) (x:α) (r:List α) (W:World),l=d++x :: r->J d (x :: r) W->
    assign.wpIn (Fence.wide.inRound lp) 0 P (Exit.then (λa1 W1=>gC W W1/\J d (x :: r) W1/\Tch T W W1/\∃G:World->Prop,fG w.heap.size G/\G W1/\∀(lp:Nat) (W2:World),w.heap.size<=lp->(∃rc,W2.heap[lp]? =some (.loop rc))->J d (x :: r) W2->G W2->
     body.wpIn (Fence.wide.inRound lp) 0 P (iQ (λW'=>gC W2 W'/\J (d++ [x]) r W'/\Tch T W2 W') (λc W'=>gC W2 W'/\Jx c W'/\YY T W2 W')) a1 W2) (λ_ _ _=>False)) {tmps:=(ps.zip (enc x)).foldl (λt (p,v)=>t.setIfInBounds p v) a.tmps,defers:= []} W)
  (hdone:∀(W:World),J l [] W->Q .normal a W)
  (hstop:∀(c:Code) (W:World),Jx c W->c.wpIn (Fence.wide.inRound l0) 0 P Q a W):
  (Code.rangeFunc g ps assign body).wpIn (Fence.wide.inRound l0) 0 P Q a w:=by
 refine SK (enc:=enc) hl0 hg eg hit hps (λs W=>∃d,l=d++s/\J d s W) Jx
  (λs x a1 W=>∃G:World->Prop,fG w.heap.size G/\G W/\∀(d:List α) (lp:Nat) (W2:World),w.heap.size<=lp->(∃rc,W2.heap[lp]? =some (.loop rc))->l=d++s->J d s W2->G W2->body.wpIn (Fence.wide.inRound lp) 0 P (iQ (λW'=>gC W2 W'/\J (d++ [x]) (nxL s x) W'/\Tch T W2 W') (λc W'=>gC W2 W'/\Jx c W'/\YY T W2 W')) a1 W2)
  (λs=>iC.ex λd=>(iC.pure _ _).and (hJ d s)) hJx (λ_ _ _=>λW W' row h hg hr=>let ⟨G,h1,h2,h3⟩:=h;⟨G,h1,h1 W W' row h2 hg hr,h3⟩) (λs W ⟨d,_,h⟩=>hInv d s W h) T (λs W k ⟨d,_,h⟩ ht=>hT0 d s W k h ht) (λW W' row hg hr ⟨s,d,_,h⟩=>hTg W W' row hg hr ⟨d,s,h⟩) ⟨[],rfl,h0⟩ ?_ ?_ ?_ hstop
 .rintro lp s x W hok ⟨d,hd,hj⟩;have hs:=lL hok;generalize nxL s x=r at hs|-;subst hs;refine cD (hround lp d x r W hd hj) ?_;rintro e a1 W1 he;cases e with
  |normal=>
   obtain⟨h1,h2,hT1,G,h4,h5,h3⟩:=he;refine⟨h1,⟨d,hd,h2⟩,⟨G,h4,h5,λd' lp' W2 hz' hr' hd' hj' hG'=>?_⟩,hT1⟩;have:d'=d:=by
    have:=hd'.symm.trans hd;exact cW this
   subst this;exact h3 lp' W2 hz' hr' hj' hG'
  |_=>exact he.elim
 .rintro lp s x a1 W hlp hr0 hok ⟨d,hd,hj⟩ ⟨G,_,hG,hA⟩;refine cD (hA d lp W hlp hr0 hd hj hG) ?_;rintro e a3 W3 he;cases e with
  |normal=>
   refine⟨he.1,⟨d++ [x],?_,he.2.1⟩,he.2.2⟩;rw[hd,cd]
   congr 1
   exact lL hok
  |ret=>exact he
  |exit id=>exact he
  |goto t=>exact he
  |panic ch=>exact he.elim
  |outgrown=>exact he.elim
 .rintro s W hf ⟨d,hd,hj⟩;subst hf;rw[ct] at hd;subst hd;exact hdone W hj
end

section
open Go.RowKit Go.Shelf
attribute [local go_sem] Oper.semAt_some iF gH gS fX
abbrev BF(n g h:Nat):Obj:=.cells #[.slice (some ⟨g,0,none⟩) n n,.slice (some ⟨h,0,none⟩) n n] 113 (0,0)
abbrev UA:Obj:=.cells #[.slice none 0 0,.slice none 0 0] 113 (0,0)
abbrev sk(n:Nat):Obj:=.cells (madeCells (iW 0) (n*16)) 124 (0,0)
def ZH(bs:List BkL)(inn out:Nat->Nat):Prop:=
 (∀b,b<bs.length->∀j:Nat,j<1024->(inn b).testBit j=nI (iB bs b).ops (iB bs b).nd (wU (out b)) (j:Int))/\
 ∀b,b<bs.length->∀c∈(iB bs b).to,∀j:Nat,j<1024->(inn c).testBit j=true->(out b).testBit j=true
def j8(bs:List iA)(bn:Nat)(w:World)(e:Ending)(w':World):Prop:=
 ∃(g o:Nat) (inn out:Nat->Nat),e=.returned (.agg #[.slice (some ⟨g,0,none⟩) bn bn,.slice (some ⟨o,0,none⟩) bn bn])/\uO w' w.heap.size (.slice (some ⟨g,0,none⟩) bn bn) bn inn/\uO w' w.heap.size (.slice (some ⟨o,0,none⟩) bn bn) bn out/\qR (gN bs) inn out/\ZH (gN bs) inn out/\Below w.heap.size w w'
theorem sv{n base g:Nat}(hn:n<=1000000){w:World}(hb:base<=g)(hg:w.heap[g]? =some (sk n)):uO w base (.slice (some ⟨g,0,none⟩) n n) n (λ_=>0):=by
 have h:w.ownsRow base 124 16 (.slice (some ⟨g,0,none⟩) n n) n (madeCells (iW 0) (n*16)).toList:=
  ⟨by simp[size_madeCells],.inr ⟨g,n,madeCells (iW 0) (n*16),rfl,hb,hg,aj _,by unfold maxLen;omega,size_madeCells _ _,bC (by simp[size_madeCells])⟩⟩
 have e:(madeCells (iW 0) (n*16)).toList=(pV n λ_=>0).flatMap bsC:=by
  have:=EW (z:=iW 0) (by trivial) n;rw[iE] at this;rw[this,pV,List.flatMap_map];rfl
 exact⟨by grind[iR],by grind[iR]⟩
structure FlJ(w:World)(fo:Obj)(n R0 R1 PF:Nat)(inn out:Nat->Nat)(W:World):Prop where
 fn:W.heap[w.heap.size]? =some fo
 rs:W.heap[w.heap.size+1]? =some UA
 fl:W.heap[PF]? =some (BF n R0 R1)
 inn:uO W (w.heap.size+2) (.slice (some ⟨R0,0,none⟩) n n) n inn
 out:uO W (w.heap.size+2) (.slice (some ⟨R1,0,none⟩) n n) n out
 b:Below w.heap.size w W
theorem FlJ.ext{w:World}{fo:Obj}{n R0 R1 PF:Nat}{inn out:Nat->Nat}{W W':World}(h:FlJ w fo n R0 R1 PF inn out W)(hb:Below W.heap.size W W'):FlJ w fo n R0 R1 PF inn out W':=
 ⟨fB hb h.fn,fB hb h.rs,fB hb h.fl,iP.ext h.inn hb,iP.ext h.out hb,fC h.b hb⟩
theorem FlJ.steady{w:World}{fo:Obj}{n R0 R1 PF:Nat}{inn out:Nat->Nat}{B:Nat}(hf:nH fo=false)(hB:w.heap.size<=B):fG B (FlJ w fo n R0 R1 PF inn out):=λW V row h hg hr=>
 ⟨fG.block B _ hf W V row h.fn hg hr,fG.block B _ rfl W V row h.rs hg hr,fG.block B _ rfl W V row h.fl hg hr,fG.ownR _ _ _ _ W V row h.inn hg hr,fG.ownR _ _ _ _ W V row h.out hg hr,fG.below (aj _) hB W V row h.b hg hr⟩
def IT(bs:List BkL)(inn out:Nat->Nat)(b:Nat):Prop:=
 (∀j:Nat,j<1024->(inn b).testBit j=nI (iB bs b).ops (iB bs b).nd (wU (out b)) (j:Int))/\
 ∀c∈(iB bs b).to,∀j:Nat,j<1024->(inn c).testBit j=true->(out b).testBit j=true
theorem PP{α:Type}{l:List α}:∀{n k:Nat} {r:α},k<n->l[k]? =some r->(k,r)∈mN l n
 |0,_,_,h,_=>absurd h (by omega)
 |n+1,k,r,h,hk=>by
  by_cases e:k=n
  .grind[sH]
  .have ih:=PP (n:=n) (show k<n by omega) hk
   grind[mN]
theorem AV{α:Type}{l:List α}:∀{n k:Nat} {r:α},(k,r)∈mN l n->k<n/\l[k]? =some r
 |0,_,_,h=>by cases h
 |n+1,k,r,h=>by
  have h:(k,r)∈(match l[n]? with|some r=>(n,r) :: mN l n|none=>mN l n):=h
  split at h
  .rcases aS.1 h with e|h
   .grind
   .have:=AV h
    grind
  .have:=AV h
   grind
def RdJ(w:World)(fo:Obj)(n R0 R1 PF p4 G:Nat)(ba:Option Addr)(bc:Nat)(bs:List iA)(inn0:Nat->Nat)(ds:List Deferred)(hi:Nat)(d:List (Nat×iA))(W:World):Prop:=
 ∃(ch:Bool) (inn out:Nat->Nat),W.heap[p4]? =some (.cells #[.bool ch] 4 (0,0))/\FlJ w fo n R0 R1 PF inn out W/\qR (gN bs) inn out/\(ch=false->inn=inn0/\∀x∈d,IT (gN bs) inn out x.1)/\(ch=true->yG n inn<yG n inn0)/\W.cell? ⟨G,0,none⟩=some (.slice ba n bc)/\lU (w.heap.size+2) hi ds W
theorem RdJ.steady{w:World}{fo:Obj}{n R0 R1 PF p4 G:Nat}{ba:Option Addr}{bc:Nat}{bs:List iA}{inn0:Nat->Nat}{ds:List Deferred}{hi:Nat}{d:List (Nat×iA)}{B:Nat}(hf:nH fo=false)(hB:w.heap.size<=B)(hh:hi<=B):fG B (RdJ w fo n R0 R1 PF p4 G ba bc bs inn0 ds hi d):=λW V row h hg hr=>by
 obtain⟨ch,inn,out,h1,h2,h3,h4,h5,h6,h7⟩:=h
 exact⟨ch,inn,out,fG.block B _ rfl W V row h1 hg hr,FlJ.steady hf hB W V row h2 hg hr,h3,h4,h5,fG.cell B _ _ W V row h6 hg hr,fG.marks hh ds W V row h7 hg hr⟩
theorem vB(S:Nat):(bsC S).toArray=iW S:=by rfl
theorem qV{S:Nat}:(Tryz.prog.info? 124).map (·.size)=some (bsC S).length:=yi S
theorem KH{W W':World}{g:Nat}{o:Obj}(hg:W.heap[g]? =some o)(ho:nH o=false)(hc:Chg (λj=>j=g) W W'):gC W W':=λk o' hk hb=>
 (hc.block k (fE hk) λe=>by grind).trans hk
theorem QU{w:World}{base:Nat}{e:TypeId}{size g m c n:Nat}{xs:List Value}(h:w.ownsRow base e size (.slice (some ⟨g,0,none⟩) m c) n xs):∃o,w.heap[g]? =some o/\nH o=false:=by
 rcases h.2 with ⟨h,_⟩|⟨g',cap,cur,h,_,hh,_⟩
 .cases h
 .injection h with h1;injection h1 with h1;injection h1 with h1;subst h1;exact⟨_,hh,rfl⟩
section
variable {w:World} {fo:Obj} {n R0 R1 PF:Nat} {inn out:Nat->Nat} {W W':World}
theorem FM{g:Nat}(h:Below w.heap.size w W)(hc:Chg (λj=>j=g) W W')(hg:w.heap.size<=g):Below w.heap.size w W':=
 ⟨hc.os.trans h.os,hc.tape.trans h.tape,hc.output.trans h.output,aT h.size hc.size,λk hk=>(hc.block k (bw hk h.size) (by omega)).trans (h.block k hk)⟩
theorem FlJ.chg{g:Nat}(h:FlJ w fo n R0 R1 PF inn out W)(hc:Chg (λj=>j=g) W W')(hg:w.heap.size+2<=g/\g≠R0/\g≠R1/\g≠PF):FlJ w fo n R0 R1 PF inn out W':=
 ⟨(hc.block _ (fE h.fn) (by omega)).trans h.fn,(hc.block _ (fE h.rs) (by omega)).trans h.rs,(hc.block _ (fE h.fl) (by omega)).trans h.fl,⟨iL h.inn.1 hc (λq e=>by simp[Value.ownBlock] at e;omega),h.inn.2⟩,⟨iL h.out.1 hc (λq e=>by simp[Value.ownBlock] at e;omega),h.out.2⟩,FM h.b hc (by omega)⟩
theorem FlJ.putOut(h:FlJ w fo n R0 R1 PF inn out W)(hn:w.heap.size+2<=R1/\R0≠R1/\R1≠PF){k:Nat}(hk:k<n)(S:Nat):FlJ w fo n R0 R1 PF inn (lI out k S) (W.setCells R1 (k*16) (iW S).toList)/\gC W (W.setCells R1 (k*16) (iW S).toList):=by
 have hc:=pM W R1 (k*16) (iW S).toList
 obtain⟨o,h1,h2⟩:=QU h.out.1
 exact⟨⟨(hc.block _ (fE h.fn) (by omega)).trans h.fn,(hc.block _ (fE h.rs) (by omega)).trans h.rs,(hc.block _ (fE h.fl) (by omega)).trans h.fl,⟨iL h.inn.1 hc (λg e=>by simp[Value.ownBlock] at e;omega),h.inn.2⟩,UT h.out hk S,FM h.b hc (by omega)⟩,KH h1 h2 hc⟩
theorem FlJ.putIn(h:FlJ w fo n R0 R1 PF inn out W)(hn:w.heap.size+2<=R0/\R0≠R1/\R0≠PF){k:Nat}(hk:k<n)(S:Nat):FlJ w fo n R0 R1 PF (lI inn k S) out (W.setCells R0 (k*16) (iW S).toList)/\gC W (W.setCells R0 (k*16) (iW S).toList):=by
 have hc:=pM W R0 (k*16) (iW S).toList
 obtain⟨o,h1,h2⟩:=QU h.inn.1
 exact⟨⟨(hc.block _ (fE h.fn) (by omega)).trans h.fn,(hc.block _ (fE h.rs) (by omega)).trans h.rs,(hc.block _ (fE h.fl) (by omega)).trans h.fl,UT h.inn hk S,⟨iL h.out.1 hc (λg e=>by simp[Value.ownBlock] at e;omega),h.out.2⟩,FM h.b hc (by omega)⟩,KH h1 h2 hc⟩
end
theorem rx{α:Type}{l:List α}:∀{n k:Nat} {r:α},(k,r)∈mN l n->k<n
 |_,_,_,h=>(AV h).1
theorem zY{α:Type}{l:List α}:∀{n:Nat} {d:List (Nat×α)} {x:Nat×α} {r:List (Nat×α)},mN l n=d++x :: r->x.1∉d.map (·.1)
 |0,d,x,r,h=>by
  have h: []=d++x :: r:=h
  simp_all
 |n+1,[],x,r,_=>by simp
 |n+1,y :: d,x,r,h=>by
  have h:(match l[n]? with|some r=>(n,r) :: mN l n|none=>mN l n)=y :: (d++x :: r):=h
  split at h
  .obtain⟨h1,h2⟩:=List.cons.inj h;have hx:x∈mN l n:=by rw[h2];simp
   have:=rx (k:=x.1) (r:=x.2) hx;simp only[cE,aS,not_or];exact⟨by rw[<-h1];exact λe=>by omega,zY h2⟩
  .exact zY (d:=y :: d) h
structure TR(w:World)(fo:Obj)(n R0 R1 PF:Nat)(bs:List BkL)(inn out:Nat->Nat)(k:Nat)(tos:List Int)(w5:World)(q:Nat)(out':Nat->Nat)(wr:World):Prop where
 f:FlJ w fo n R0 R1 PF inn out' wr
 l:qR bs inn out'
 kp:gC w5 wr
 c:Chg (λj=>j=R1) w5 wr
 e:∀b,b≠k->out' b=out b
 d:∀(j:Nat) (c:Int),j<q->tos[j]? =some c->∀i:Nat,i<1024->(inn c.toNat).testBit i=true->(out' k).testBit i=true
section
variable {w:World} {fo:Obj} {n R0 R1 PF:Nat} {bs:List BkL} {inn out out':Nat->Nat} {k q:Nat} {tos:List Int} {w5 wr wr':World}
theorem TR.ext(h:TR w fo n R0 R1 PF bs inn out k tos w5 q out' wr)(hb:Below wr.heap.size wr wr'):TR w fo n R0 R1 PF bs inn out k tos w5 q out' wr':=
 ⟨h.f.ext hb,h.l,h.kp.trans (gC.ext hb),h.c.of_ext hb,h.e,h.d⟩
theorem TR.put(h:TR w fo n R0 R1 PF bs inn out k tos w5 q out' wr)(hl:bs.length=n)(hn:w.heap.size+2<=R1/\R0≠R1/\R1≠PF)(hto:IY bs)(hk:k<n){c:Nat}(hc:tos[q]? =some (c:Int))(hm:c∈(iB bs k).to):
  TR w fo n R0 R1 PF bs inn out k tos w5 (q+1) (lI out' k (out' k|||inn c)) (wr.setCells R1 (k*16) (iW (out' k|||inn c)).toList):=by
 obtain⟨h1,h2⟩:=h.f.putOut hn hk (out' k|||inn c)
 refine⟨h1,h.l.or (by omega) hto hm,h.kp.trans h2,h.c.trans (pM wr R1 (k*16) _),λb hb=>?_,λj c' hj hj2 i hi ht=>?_⟩
 .unfold lI;rw[az hb];exact h.e b hb
 .have e:lI out' k (out' k|||inn c) k=out' k|||inn c:=by simp[lI]
  rw[e,Nat.testBit_or,bW];by_cases ej:j=q
  .grind
  .exact .inl (h.d j c' (by omega) hj2 i hi ht)
end
theorem zh{bs:List iA}(hin:qZ bs=true){k:Nat}{x:iA}(hx:bs[k]? =some x){q:Nat}(hq:q<(toD x.h.t).length):
  ∃c:Nat,(toD x.h.t).getD q 0=(c:Int)/\c<bs.length/\(toD x.h.t)[q]? =some (c:Int)/\c∈(iB (gN bs) k).to:=by
 have h1:=aV.1 hin x (aK hx)
 have h2:=aV.1 h1 (toD x.h.t)[q] (bJ hq)
 simp only[aN] at h2
 refine⟨(toD x.h.t)[q].toNat,?_,by omega,?_,?_⟩
 .grind
 .grind
 .rw[qD hx];exact a8.2 ⟨_,bJ hq,rfl⟩
theorem uf:(Tryz.prog.info? 121).map (·.size)=some 5:=by kernel_rfl
theorem ZJ{bs:List BkL}{inn0 inn out out2:Nat->Nat}{k P:Nat}{ch eq:Bool}{d:List Nat}(hk:k<bs.length)(hl:qR bs inn out2)(hP:P<2^1024)
  (hb:∀j:Nat,j<1024->P.testBit j=nI (iB bs k).ops (iB bs k).nd (wU (out2 k)) (j:Int)) (he:∀b,b≠k->out2 b=out b)
  (hd:∀c∈(iB bs k).to,∀i:Nat,i<1024->(inn c).testBit i=true->(out2 k).testBit i=true) (hno:ch=false->inn=inn0/\∀x∈d,IT bs inn out x) (hyes:ch=true->yG bs.length inn<yG bs.length inn0)
  (hdk:k∉d) (heq:eq=true↔P=inn k):
  qR bs (lI inn k P) out2/\((ch|| !eq)=false->lI inn k P=inn0/\∀x∈d++ [k],IT bs (lI inn k P) out2 x)/\((ch|| !eq)=true->yG bs.length (lI inn k P)<yG bs.length inn0):=by
 have hdn:=hl.down hk hP hb
 refine⟨hl.point hk hP hb,λh=>?_,λh=>?_⟩
 .simp only[cV,Bool.not_eq_false'] at h;obtain⟨h1,h2⟩:=h;obtain⟨e0,h3⟩:=hno h1;have eP:=heq.1 h2;have e1:lI inn k P=inn:=by
   funext j
   unfold lI
   split
   .rename_i e;rw[e,eP]
   .rfl
  rw[e1];refine⟨e0,λx hx=>?_⟩;rcases ax.1 hx with hx|hx
  .have hxk:x≠k:=λe=>hdk (e▸hx);obtain⟨h4,h5⟩:=h3 x hx;refine⟨?_,?_⟩
   .rw[he x hxk];exact h4
   .rw[he x hxk];exact h5
  .simp only[bz] at hx;subst hx;exact⟨by rw[<-eP];exact hb,hd⟩
 .cases ch with
  |true=>exact Nat.lt_of_le_of_lt hdn.1 (hyes rfl)
  |false=>
   simp only[Bool.false_or,dm] at h;rw[<-(hno rfl).1];exact hdn.2 λe=>by rw[heq.2 e] at h;cases h
theorem ES{t:fS}{S:Nat}{rs:List lP}{m:Nat}{x:Nat×Nat}{s:List (Nat×Nat)}(h:yF t S rs m=x :: s):∃j,m=j+1/\x=(j,qJ t S (rs.drop j))/\s=yF t S rs j:=by
 cases m with
 |zero=>cases h
 |succ j=>
  obtain⟨h1,h2⟩:=List.cons.inj h;exact⟨j,rfl,h1.symm,h2.symm⟩
theorem uy{t:fS}{S:Nat}{rs:List lP}{m:Nat}(h:yF t S rs m= []):m=0:=by
 cases m with
 |zero=>rfl
 |succ j=>cases h
theorem FlJ.steadyO{w:World}{fo:Obj}{n R0 R1 PF:Nat}{inn out:Nat->Nat}{B:Nat}(hB:w.heap.size+2<=B)(h0:R0<B)(h1:R1<B)(hp:PF<B):iC B (FlJ w fo n R0 R1 PF inn out):=λW V row h hg hr=>by
 have ne:∀j,j<B->some j≠row:=λj hj e=>by grind
 exact⟨(hg.block _ (fE h.fn) (ne _ (by omega))).trans h.fn,(hg.block _ (fE h.rs) (ne _ (by omega))).trans h.rs,(hg.block _ (fE h.fl) (ne _ (by omega))).trans h.fl,iP.kept h.inn hg (.inr (ne R0 h0)),iP.kept h.out hg (.inr (ne R1 h1)),iC.below (aj _) (by omega) W V row h.b hg hr⟩
theorem ox(I:Nat->Nat)(b:Nat):lI I b (I b)=I:=by
 grind[lI]
theorem ux(I:Nat->Nat)(b S T:Nat):lI (lI I b S) b T=lI I b T:=by
 grind[lI]
structure sh(w:World)(fo:Obj)(n R0 R1 PF:Nat)(x:iA)(inn out:Nat->Nat)(k:Nat)(w1:World)(s:List (Nat×Nat))(m P:Nat)(W:World):Prop where
 e:s=yF x.h.t (out k) x.rs m
 l:m<=x.h.n+1
 z:m=0->P=qJ x.h.t (out k) x.rs
 f:FlJ w fo n R0 R1 PF (lI inn k P) out W
 c:Chg (λj=>j=R0) w1 W
theorem sh.steadyO{w:World}{fo:Obj}{n R0 R1 PF:Nat}{x:iA}{inn out:Nat->Nat}{k:Nat}{w1:World}{s:List (Nat×Nat)}{m P:Nat}{B:Nat}(hB:w.heap.size+2<=B)(h0:R0<B)(h1:R1<B)(hp:PF<B)(hw:w1.heap.size<=B):iC B (sh w fo n R0 R1 PF x inn out k w1 s m P):=λW V row h hg hr=>
 ⟨h.e,h.l,h.z,FlJ.steadyO hB h0 h1 hp W V row h.f hg hr,h.c.grown hg λq e=>.inr (aT hw (hr q e).1)⟩
end
end Go.Proofs.YtbknbcmppdglhaaGreatDoor
