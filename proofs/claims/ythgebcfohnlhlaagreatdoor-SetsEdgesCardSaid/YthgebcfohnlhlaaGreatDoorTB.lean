/-
 Slices of records of the call's own;a variable that holds one,across rounds. No program in sight.
-/
import Derived.Test.YthgebcfohnlhlaaGreatDoorPA
import Derived.Test.YthgebcfohnlhlaaGreatDoorRows2
import Derived.Test.YthgebcfohnlhlaaGreatDoorNR
namespace Go.Proofs.YthgebcfohnlhlaaGreatDoor
set_option linter.unusedSimpArgs false
set_option linter.unusedVariables false
set_option linter.unusedSectionVars false
set_option maxRecDepth 100000
set_option maxHeartbeats 40000000
section
open Go.RowKit
def OwnR{α:Type}(e:TypeId)(size:Nat)(cs:α→List Value)(w:World)(base:Nat)(v:Value)(ls:List α):Prop:=w.ownsRow base e size v ls.length (ls.flatMap cs)∧ls.length≤17592186044416
section
variable {α:Type} {e:TypeId} {size:Nat} {cs:α→List Value} {w w':World} {base base':Nat} {v:Value} {ls:List α}
theorem OwnR.nil(e:TypeId)(size:Nat)(cs:α→List Value)(w:World)(base:Nat):OwnR e size cs w base (.slice none 0 0) []:=⟨World.ownsRow_nil _ _ _ _,by simp⟩
theorem OwnR.mono(h:OwnR e size cs w base v ls)(hb:base'≤base):OwnR e size cs w base' v ls:=by
 refine⟨⟨h.1.1,?_⟩,h.2⟩
 rcases h.1.2 with h0|⟨g,cap,cur,hv,h1,r⟩
 ·exact .inl h0
 ·exact .inr ⟨g,cap,cur,hv,Nat.le_trans hb h1,r⟩
theorem OwnR.kept{row:Option Nat}(h:OwnR e size cs w base v ls)(hg:w.grownBy w' row)(hne:v.ownBlock=none∨v.ownBlock≠row):OwnR e size cs w' base v ls:=⟨h.1.kept hg hne,h.2⟩
theorem OwnR.ext(h:OwnR e size cs w base v ls)(hb:Below w.heap.size w w'):OwnR e size cs w' base v ls:=by
 refine⟨h.1.kept (row:=none) ⟨hb.os,hb.tape,hb.output,hb.size,fun k hk _=>hb.block k hk⟩ ?_,h.2⟩
 cases h1:v.ownBlock with
 |none=>exact .inl rfl
 |some k=>exact .inr (by simp)
theorem OwnR.form(h:OwnR e size cs w base v ls):∃a c,v=.slice a ls.length c:=by
 rcases h.1.2 with ⟨rfl,h0⟩|⟨g,cap,cur,hv,_⟩
 ·have h0:ls.length=0:=h0;rw[h0];exact⟨none,0,rfl⟩
 ·exact⟨_,_,hv⟩
theorem OwnR.recs{a:Option Addr}{n c:Nat}(hs:∀x,(cs x).length=size)(h:OwnR e size cs w base (.slice a n c) ls):Recs size cs w a n ls:=by
 obtain⟨a',c',e1,e2,_⟩:=recs_of_own hs h.1 h.2
 injection e1 with h1 h2 h3
 subst h1 h2 h3
 exact e2
theorem OwnR.low{k:Nat}(h:OwnR e size cs w base v ls)(hk:v.ownBlock=some k):base≤k∧k<w.heap.size:=⟨(h.1.lt k hk).1,(h.1.lt k hk).2⟩
theorem Steady.ownR(D base:Nat)(v:Value)(ls:List α):Steady D (fun W=>OwnR e size cs W base v ls):=(Steady.ownsRow _ _ _ _ _ _ _).and (Steady.pure _ _)
end
def TV(B:Nat)(ty:TypeId)(W:World)(k:Nat):Prop:=k=B∨∃v,W.heap[B]? =some (.cells #[v] ty (0,0))∧v.ownBlock=some k
theorem TV.ext{B:Nat}{ty:TypeId}{W W':World}(h:W'.heap[B]? =W.heap[B]?){k:Nat}(ht:TV B ty W' k):TV B ty W k:=by
 rcases ht with ht|⟨v,hv,hk⟩
 ·exact .inl ht
 ·exact .inr ⟨v,h▸hv,hk⟩
theorem tch_var{W W':World}{B:Nat}{ty:TypeId}{v v':Value}(hB:W.heap[B]? =some (.cells #[v] ty (0,0)))(hB':W'.heap[B]? =some (.cells #[v'] ty (0,0)))(hs:W.heap.size≤W'.heap.size)
  (hk:∀k,k<W.heap.size→k≠B→v.ownBlock≠some k→W'.heap[k]? =W.heap[k]?) (ho:∀k,v'.ownBlock=some k→v.ownBlock=some k∨W.heap.size≤k):Tch (TV B ty) W W':=by
 refine⟨hs,fun k h1 h2=>hk k h1 (fun e=>h2 (.inl e)) (fun e=>h2 (.inr ⟨v,hB,e⟩)),fun k ht=>?_⟩
 rcases ht with ht|⟨u,hu,huk⟩
 ·exact .inl (.inl ht)
 ·rw[hB'] at hu;simp only[Option.some.injEq,Obj.cells.injEq,Array.mk.injEq,List.cons.injEq,and_true] at hu;obtain⟨rfl,_⟩:=hu;rcases ho k huk with h|h
  ·exact .inl (.inr ⟨v,hB,h⟩)
  ·exact .inr h
theorem tch_below{W W':World}{B:Nat}{ty:TypeId}(hB:B<W.heap.size)(hb:Below W.heap.size W W'):Tch (TV B ty) W W':=
 ⟨hb.size,fun k hk _=>hb.block k hk,fun _ ht=>.inl (ht.ext (hb.block B hB))⟩
section
variable {P:Program}
theorem range_listTB{α:Type}{g:Operand}{ps:Array Tmp}{assign body:Code}{Q:Exit→Act→World→Prop}{a:Act}{w:World}{gf:Nat}{lb:Array Value}
  (hg:a.eval g=.func (.func gf) #[] lb) (eg:∀args w,(callFunc gf args).run P w=.ok (.enter gf args) w)
  {enc:α→Array Value} {l:List α} (I:World→Prop) (hit:IterTI P gf lb enc l I) (hps:∀x,(enc x).size=ps.size)
  (J:List α→List α→World→Prop) (Jx:Code→World→Prop)
  (hJ:∀d r,Steady w.heap.size (J d r)) (hJx:∀c,Steady w.heap.size (Jx c)) (hInv:∀d r W,J d r W→I W)
  (T:World→Nat→Prop) (hT0:∀d r W k,J d r W→T W k→k<W.heap.size) (hTg:∀W W' row,W.grownBy W' row→(∀q,row=some q→w.heap.size≤q∧∃o:Obj,W.heap[q]? =some o∧isBook o=true)→(∃d r,J d r W)→∀k,T W' k→T W k)
  (h0:J [] l w)
  (hround:∀(lp:Nat) (d:List α) (x:α) (r:List α) (W:World),l=d++x :: r→J d (x :: r) W→
    assign.wpIn (Fence.wide.inRound lp) 0 P (Exit.then (fun a1 W1=>Keep W W1∧J d (x :: r) W1∧Tch T W W1∧∃G:World→Prop,Steady w.heap.size G∧G W1∧∀(lp:Nat) (W2:World),J d (x :: r) W2→G W2→
     body.wpIn (Fence.wide.inRound lp) 0 P (roundEnd (fun W'=>Keep W2 W'∧J (d++ [x]) r W'∧Tch T W2 W') (fun c W'=>Keep W2 W'∧Jx c W')) a1 W2) (fun _ _ _=>False)) {tmps:=(ps.zip (enc x)).foldl (fun t (p,v)=>t.setIfInBounds p v) a.tmps,defers:= []} W)
  (hdone:∀(D:Nat) (W:World),w.heap.size≤D→J l [] W→W.heap[D]? =some (.deferred (some []))→Q .normal {a with defers:={target:=.collected D,args:=#[]} :: a.defers} W)
  (hstop:∀(D:Nat) (c:Code) (W:World),w.heap.size≤D→Jx c W→W.heap[D]? =some (.deferred (some []))→c.wpIn Fence.wide 0 P Q {a with defers:={target:=.collected D,args:=#[]} :: a.defers} W):
  (Code.rangeFunc g ps assign body).wpIn Fence.wide 0 P Q a w:=by
 refine range_outerT (enc:=enc) hg eg hit hps (fun s W=>∃d,l=d++s∧J d s W) Jx
  (fun s x a1 W=>∃G:World→Prop,Steady w.heap.size G∧G W∧∀(d:List α) (lp:Nat) (W2:World),l=d++s→J d s W2→G W2→body.wpIn (Fence.wide.inRound lp) 0 P (roundEnd (fun W'=>Keep W2 W'∧J (d++ [x]) (nxL s x) W'∧Tch T W2 W') (fun c W'=>Keep W2 W'∧Jx c W')) a1 W2)
  (fun s=>Steady.ex fun d=>(Steady.pure _ _).and (hJ d s)) hJx (fun _ _ _=>fun W W' row h hg hr=>let ⟨G,h1,h2,h3⟩:=h;⟨G,h1,h1 W W' row h2 hg hr,h3⟩) (fun s W ⟨d,_,h⟩=>hInv d s W h) T (fun s W k ⟨d,_,h⟩ ht=>hT0 d s W k h ht) (fun W W' row hg hr ⟨s,d,_,h⟩=>hTg W W' row hg hr ⟨d,s,h⟩) ⟨[],rfl,h0⟩ ?_ ?_ ?_ hstop
 ·rintro lp s x W hok ⟨d,hd,hj⟩;have hs:=okL_cons hok;generalize nxL s x=r at hs⊢;subst hs;refine wpIn_mono (hround lp d x r W hd hj) ?_;rintro e a1 W1 he;cases e with
  |normal=>
   obtain⟨h1,h2,hT1,G,h4,h5,h3⟩:=he;refine⟨h1,⟨d,hd,h2⟩,⟨G,h4,h5,fun d' lp' W2 hd' hj' hG'=>?_⟩,hT1⟩;have:d'=d:=by
    have:=hd'.symm.trans hd;exact List.append_cancel_right this
   subst this;exact h3 lp' W2 hj' hG'
  |_=>exact he.elim
 ·rintro lp s x a1 W hok ⟨d,hd,hj⟩ ⟨G,_,hG,hA⟩;refine wpIn_mono (hA d lp W hd hj hG) ?_;rintro e a3 W3 he;cases e with
  |normal=>
   refine⟨he.1,⟨d++ [x],?_,he.2.1⟩,he.2.2⟩;rw[hd,List.append_assoc]
   congr 1
   exact okL_cons hok
  |ret=>exact he
  |exit id=>exact he
  |goto t=>exact he
  |panic ch=>exact he.elim
  |outgrown=>exact he.elim
 ·rintro D s W hD hf ⟨d,hd,hj⟩ hk;have hf:s= []:=hf;subst hf;rw[List.append_nil] at hd;subst hd;exact hdone D W hD hj hk
end
end

section
open Go.RowKit
def isIt:Obj→Bool
 | .mapIter _ _ _ _=>true
 |_=>false
def isBk(o:Obj):Bool:=isBook o||isIt o
def SteadyM(B:Nat)(J:World→Prop):Prop:=
 ∀W W' row,J W→W.grownBy W' row→(∀r,row=some r→B≤r∧∃o:Obj,W.heap[r]? =some o∧isBk o=true)→J W'
theorem SteadyM.pure(B:Nat)(p:Prop):SteadyM B (fun _=>p):=fun _ _ _ h _ _=>h
theorem SteadyM.and{B:Nat}{J J':World→Prop}(h:SteadyM B J)(h':SteadyM B J'):SteadyM B (fun W=>J W∧J' W):=
 fun W W' row hj hg hr=>⟨h W W' row hj.1 hg hr,h' W W' row hj.2 hg hr⟩
theorem SteadyM.ex{B:Nat}{α:Sort _}{J:α→World→Prop}(h:∀x,SteadyM B (J x)):SteadyM B (fun W=>∃x,J x W):=
 fun W W' row ⟨x,hj⟩ hg hr=>⟨x,h x W W' row hj hg hr⟩
theorem block_keepM{W W':World}{row:Option Nat}{B k:Nat}{o:Obj}(hk:W.heap[k]? =some o)(ho:isBk o=false)(hg:W.grownBy W' row)
  (hr:∀r,row=some r→B≤r∧∃o:Obj,W.heap[r]? =some o∧isBk o=true):W'.heap[k]? =some o:=by
 refine(hg.block k (Array.getElem?_eq_some_iff.1 hk).1 (fun e=>?_)).trans hk
 obtain⟨_,o',ho',hb⟩:=hr k e.symm
 rw[hk] at ho';cases ho';rw[ho] at hb;cases hb
theorem SteadyM.block(B k:Nat){o:Obj}(ho:isBk o=false):SteadyM B (fun W=>W.heap[k]? =some o):=fun _ _ _ h hg hr=>block_keepM h ho hg hr
theorem SteadyM.cell(B:Nat)(p:Addr)(v:Value):SteadyM B (fun W=>W.cell? p=some v):=fun W W' row h hg hr=>by
 have h:W.cell? p=some v:=h
 show W'.cell? p=some v
 unfold World.cell? at h⊢
 cases ho:W.heap[p.block]? with
 |none=>simp[ho] at h
 |some o=>
  rw[block_keepM ho (by cases o<;>simp_all[isBk,isBook,isIt]) hg hr];rw[ho] at h;exact h
theorem SteadyM.below{n₀ B:Nat}{w₀:World}(hn:n₀≤w₀.heap.size)(hB:n₀≤B):SteadyM B (fun W=>Below n₀ w₀ W):=
 fun _ _ _ hs hg hr=>hs.grown hg (Nat.le_trans hn hs.size) (fun k e=>Nat.le_trans hB (hr k e).1)
theorem SteadyM.ownsRow(B:Nat)(base:Nat)(e:TypeId)(size:Nat)(v:Value)(n:Nat)(xs:List Value):SteadyM B (fun W=>W.ownsRow base e size v n xs):=
 fun W W' row h hg hr=>by
  refine⟨h.1,?_⟩;rcases h.2 with h2|⟨g,cap,cur,hv,hb,hh,r⟩
  ·exact Or.inl h2
  ·exact Or.inr ⟨g,cap,cur,hv,hb,block_keepM hh rfl hg hr,r⟩
theorem SteadyM.ext{B:Nat}{J:World→Prop}(h:SteadyM B J){W W':World}(hj:J W)(hb:Below W.heap.size W W'):J W':=
 h W W' none hj ⟨hb.os,hb.tape,hb.output,hb.size,fun k hk _=>hb.block k hk⟩ (fun r e=>by cases e)
theorem SteadyM.put{B:Nat}{J:World→Prop}(h:SteadyM B J){W:World}{l:Nat}{o:Obj}(o':Obj)(hj:J W)(hl:B≤l)(ho:W.heap[l]? =some o)(hb:isBk o=true):J (W.putObj l o'):=
 h W _ (some l) hj (grownBy_putObj' W l o') (fun r e=>by cases e;exact⟨hl,o,ho,hb⟩)
theorem SteadyM.size(B n:Nat):SteadyM B (fun W=>n<W.heap.size):=fun _ _ _ h hg _=>Nat.lt_of_lt_of_le h hg.size
def IterM{σ α:Type}(P:Program)(gf:Nat)(lb:Array Value)(enc:α→Array Value)(ok:σ→α→Prop)(nx:σ→α→σ)(s0:σ)(Fin:σ→Prop)(Inv:σ→World→Prop):Prop:=
 ∀(l:Nat) (K:σ→World→Prop) (Kx:World→Prop) (T:World→Nat→Prop) (W0:World),
  (∀s W W' row,K s W→W.grownBy W' row→(∀q,row=some q→W0.heap.size≤q∧∃o:Obj,W.heap[q]? =some o∧isIt o=true)→K s W')→(∀W W',Kx W→Below W.heap.size W W'→Kx W')→(∀s W,K s W→Inv s W)→
  (∀s W k,K s W→T W k→k<W.heap.size)→(∀s W W' row k,K s W→W.grownBy W' row→(∀q,row=some q→W0.heap.size≤q∧∃o:Obj,W.heap[q]? =some o∧isIt o=true)→T W' k→T W k)→
  (∀s x W,ok s x→K s W→YieldAt Fence.wide 0 P l (enc x) W fun e W'=>(e=.returned (.bool true)∧K (nx s x) W'∧Tch T W W')∨(e=.returned (.bool false)∧Kx W'))→
  K s0 W0→CallsIn Fence.wide 0 P gf (#[.func (.yield l) #[] #[]]++lb) W0 fun e W'=>(∃v,e=.returned v)∧((∃s,Fin s∧K s W')∨Kx W')
theorem range_outerM{P:Program}{σ α:Type}{g:Operand}{ps:Array Tmp}{assign body:Code}{Q:Exit→Act→World→Prop}{a:Act}{w:World}{gf:Nat}{lb:Array Value}
  (hg:a.eval g=.func (.func gf) #[] lb) (eg:∀args w,(callFunc gf args).run P w=.ok (.enter gf args) w)
  {enc:α→Array Value} {ok:σ→α→Prop} {nx:σ→α→σ} {s0:σ} {Fin:σ→Prop} {Inv:σ→World→Prop} (hit:IterM P gf lb enc ok nx s0 Fin Inv)
  (hps:∀x,(enc x).size=ps.size)
  (J:σ→World→Prop) (Jx:Code→World→Prop) (A:σ→α→Act→World→Prop)
  (hJ:∀s,SteadyM w.heap.size (J s)) (hJx:∀c,SteadyM w.heap.size (Jx c)) (hA:∀s x a,SteadyM w.heap.size (A s x a)) (hInv:∀s W,J s W→Inv s W)
  (T:World→Nat→Prop) (hT0:∀s W k,J s W→T W k→k<W.heap.size) (hTg:∀W W' row,W.grownBy W' row→(∀r,row=some r→w.heap.size≤r∧∃o:Obj,W.heap[r]? =some o∧isBk o=true)→(∃s,J s W)→∀k,T W' k→T W k)
  (h0:J s0 w)
  (hassign:∀(l:Nat) (s:σ) (x:α) (W:World),ok s x→J s W→
    assign.wpIn (Fence.wide.inRound l) 0 P (Exit.then (fun a1 W1=>Keep W W1∧J s W1∧A s x a1 W1∧Tch T W W1) (fun _ _ _=>False)) {tmps:=(ps.zip (enc x)).foldl (fun t (p,v)=>t.setIfInBounds p v) a.tmps,defers:= []} W)
  (hbody:∀(l:Nat) (s:σ) (x:α) (a1:Act) (W:World),ok s x→J s W→A s x a1 W→
    body.wpIn (Fence.wide.inRound l) 0 P (roundEnd (fun W'=>Keep W W'∧J (nx s x) W'∧Tch T W W') (fun c W'=>Keep W W'∧Jx c W')) a1 W)
  (hdone:∀(D:Nat) (s:σ) (W:World),w.heap.size≤D→Fin s→J s W→W.heap[D]? =some (.deferred (some []))→Q .normal {a with defers:={target:=.collected D,args:=#[]} :: a.defers} W)
  (hstop:∀(D:Nat) (c:Code) (W:World),w.heap.size≤D→Jx c W→W.heap[D]? =some (.deferred (some []))→c.wpIn Fence.wide 0 P Q {a with defers:={target:=.collected D,args:=#[]} :: a.defers} W):
  (Code.rangeFunc g ps assign body).wpIn Fence.wide 0 P Q a w:=by
 refine wpIn_rangeFunc ?_
 intro fn hfn
 obtain⟨rec,hrec⟩:∃rec:LoopState→Option Code→Loop,rec=fun st pe=>{state:=st,pending:=pe,fn,tmps:=a.tmps,params:=ps,assign,body,defers:=w.heap.size}:=⟨_,rfl⟩
 obtain⟨W1,hW1⟩:∃W1,(w.alloc (.deferred (some []))).alloc (.loop (rec .ready none))=W1:=⟨_,rfl⟩
 have hL1:W1.heap[w.heap.size+1]? =some (.loop (rec .ready none)):=by
  rw[←hW1];have:=World.alloc_heap_new (w.alloc (.deferred (some []))) (.loop (rec .ready none));rwa [World.size_alloc] at this
 have hK1:W1.heap[w.heap.size]? =some (.deferred (some [])):=by
  rw[←hW1];exact(Below.heap_alloc _ _ _ (by simp)).trans (World.alloc_heap_new w _)
 have hb1:Below w.heap.size w W1:=by
  rw[←hW1];exact((Below.refl _ w).alloc (Nat.le_refl _) _).alloc (by simp) _
 have hI1:J s0 W1:=(hJ s0).ext h0 hb1
 have keepE:∀{W W':World} {k:Nat} {o:Obj},W.heap[k]? =some o→Below W.heap.size W W'→W'.heap[k]? =some o:=
  fun hk hb=>(hb.block _ (Array.getElem?_eq_some_iff.1 hk).1).trans hk
 refine⟨w.heap.size+1,[{target:=.collected w.heap.size,args:=#[]}],W1,{target:=.fn (.func gf) lb,args:=#[.func (.yield (w.heap.size+1)) #[] #[]]},W1,gf,
  #[.func (.yield (w.heap.size+1)) #[] #[]]++lb,W1,?_,?_,?_,?_,fun h=>by simp[Fence.wide] at h,?_⟩
 ·rw[←hW1,hrec];exact run_enterLoop_outer _ _ _ _ _
 ·simp only[resolve,hg];simp[go_sem]
 ·intro f' hf';trivial
 ·simp[invoke,go_sem,eg]
 ·refine(hit (w.heap.size+1)
   (fun s W=>J s W∧W.heap[w.heap.size+1]? =some (.loop (rec .ready none))∧W.heap[w.heap.size]? =some (.deferred (some [])))
   (fun W=>∃c,Jx c W∧W.heap[w.heap.size+1]? =some (.loop (rec .done (some c)))∧W.heap[w.heap.size]? =some (.deferred (some [])))
   (fun W k=>T W k∨k=w.heap.size+1∨k=w.heap.size)
   W1 (fun s A B row h hg hr=>by
    have hz:W1.heap.size=w.heap.size+1+1:=by rw[←hW1];simp
    refine⟨hJ s A B row h.1 hg (fun r e=>?_),(hg.block _ (Array.getElem?_eq_some_iff.1 h.2.1).1 (fun e=>?_)).trans h.2.1,(hg.block _ (Array.getElem?_eq_some_iff.1 h.2.2).1 (fun e=>?_)).trans h.2.2⟩
    ·obtain⟨h1,o,h2,h3⟩:=hr r e;exact⟨by omega,o,h2,by unfold isBk;rw[h3];simp⟩
    ·obtain⟨h1,_⟩:=hr _ e.symm;omega
    ·obtain⟨h1,_⟩:=hr _ e.symm
     omega)
   (fun A B h hb=>by obtain⟨c,h1,h2,h3⟩:=h;exact⟨c,(hJx c).ext h1 hb,keepE h2 hb,keepE h3 hb⟩)
   (fun s W h=>hInv s W h.1)
   (fun s W k h ht=>by
     rcases ht with ht|rfl|rfl
     ·exact hT0 s W k h.1 ht
     ·exact(Array.getElem?_eq_some_iff.1 h.2.1).1
     ·exact(Array.getElem?_eq_some_iff.1 h.2.2).1)
   (fun s A B row k h hg hr ht=>by
     have hz:W1.heap.size=w.heap.size+1+1:=by rw[←hW1];simp
     rcases ht with ht|ht
     ·exact .inl (hTg A B row hg (fun r e=>by
       obtain⟨h1,o,h2,h3⟩:=hr r e
       exact⟨by omega,o,h2,by unfold isBk;rw[h3];simp⟩) ⟨s,h.1⟩ k ht)
     ·exact .inr ht)
   ?_ ⟨hI1,hL1,hK1⟩).mono ?_
  ·rintro s x W hok ⟨hi,hl,hk⟩;have hy:=run_yield (P:=P) (args:=enc x) hl (by rw[hrec];exact hps x);rw[hrec] at hy;refine⟨fn,_,assign,body,hy,roundIn_of_wpIn hfn (wpIn_mono (hassign _ s x W hok hi) ?_)⟩;rintro e a1 V hp;cases e with
   |normal=>
    obtain⟨hkp,hiV,hAV,hTV⟩:=hp;have hlV:=hkp _ _ hl rfl;have hkV:=hkp _ _ hk rfl;have hlt:w.heap.size+1<V.heap.size:=(Array.getElem?_eq_some_iff.1 hlV).1;refine⟨_,run_beginRound hlV (by rw[hrec]),?_⟩;have hl2:(V.putObj (w.heap.size+1) (.loop {rec .ready none with state:=.busy})).heap[w.heap.size+1]? =some (.loop {rec .ready none with state:=.busy}):=World.putObj_heap_same hlt;have hk2:(V.putObj (w.heap.size+1) (.loop {rec .ready none with state:=.busy})).heap[w.heap.size]? =some (.deferred (some [])):=(World.putObj_heap_other (by omega)).trans hkV;refine wpIn_mono (hbody _ s x a1 _ hok ((hJ s).put _ hiV (by omega) hlV rfl) ((hA s x a1).put _ hAV (by omega) hlV rfl)) ?_
    have fin:∀(jump:Option Code) (W3:World),Keep (V.putObj (w.heap.size+1) (.loop {rec .ready none with state:=.busy})) W3→
      (Instr.endRound (w.heap.size+1) jump).run P W3=.ok (.bool jump.isNone) (W3.putObj (w.heap.size+1) (.loop (rec (if jump.isNone then .ready else .done) jump)))∧
      W3.heap[w.heap.size+1]? =some (.loop {rec .ready none with state:=.busy})∧
      (W3.putObj (w.heap.size+1) (.loop (rec (if jump.isNone then .ready else .done) jump))).heap[w.heap.size+1]? =some (.loop (rec (if jump.isNone then .ready else .done) jump))∧
      (W3.putObj (w.heap.size+1) (.loop (rec (if jump.isNone then .ready else .done) jump))).heap[w.heap.size]? =some (.deferred (some [])):=fun jump W3 hk3=>by
     have hl3:=hk3 _ _ hl2 rfl;have:=run_endRound (P:=P) jump hl3;rw[hrec] at this⊢;exact⟨this,by rw[hrec] at hl3;exact hl3,World.putObj_heap_same (Array.getElem?_eq_some_iff.1 hl3).1,(World.putObj_heap_other (by omega)).trans (hk3 _ _ hk2 rfl)⟩
    rintro e a3 W3 hp;cases e with
    |normal=>
     obtain⟨hk3,hi3,hT3⟩:=hp;obtain⟨hr,hl3,hl4,hk4⟩:=fin none W3 hk3;refine⟨_,_,hr,.inl ⟨rfl,⟨(hJ _).put _ hi3 (by omega) hl3 rfl,hl4,hk4⟩,?_⟩⟩;have g1:=grown_put V (w.heap.size+1) (.loop {rec .ready none with state:=.busy});have g2:=grown_put W3 (w.heap.size+1) (.loop (rec (if (none:Option Code).isNone then .ready else .done) none));have t1:∀k,T (V.putObj (w.heap.size+1) (.loop {rec .ready none with state:=.busy})) k→T V k:=hTg _ _ _ g1 (fun r hr=>by cases hr;exact⟨by omega,_,hlV,rfl⟩) ⟨s,hiV⟩;have t2:∀k,T (W3.putObj (w.heap.size+1) (.loop (rec (if (none:Option Code).isNone then .ready else .done) none))) k→T W3 k:=hTg _ _ _ g2 (fun r hr=>by cases hr;exact⟨by omega,_,hl3,rfl⟩) ⟨_,hi3⟩;have z1:(V.putObj (w.heap.size+1) (.loop {rec .ready none with state:=.busy})).heap.size=V.heap.size:=by simp
     have z2:(W3.putObj (w.heap.size+1) (.loop (rec (if (none:Option Code).isNone then .ready else .done) none))).heap.size=W3.heap.size:=by simp
     have s1:=hTV.1;have s3:=hT3.1;rw[z1] at s3;refine⟨by rw[z2];omega,fun k hk hn=>?_,fun k hk=>?_⟩
     ·have n1:k≠w.heap.size+1:=fun e=>hn (.inr (.inl e));have n0:¬T W k:=fun e=>hn (.inl e);have m1:¬T V k:=fun e=>(hTV.2.2 k e).elim n0 (by omega);have m2:=fun e=>m1 (t1 k e);rw[World.putObj_heap_other n1,hT3.2.1 k (by rw[z1];omega) m2,World.putObj_heap_other n1,hTV.2.1 k hk n0]
     ·rcases hk with hk|hk
      ·rcases hT3.2.2 k (t2 k hk) with h|h
       ·rcases hTV.2.2 k (t1 k h) with h|h
        ·exact .inl (.inl h)
        ·exact .inr h
       ·rw[z1] at h;exact .inr (by omega)
      ·exact .inl (.inr hk)
    |ret=>
     obtain⟨hk3,hi3⟩:=hp;obtain⟨hr,hl3,hl4,hk4⟩:=fin (some .ret) W3 hk3;exact⟨_,_,hr,.inr ⟨rfl,.ret,(hJx _).put _ hi3 (by omega) hl3 rfl,hl4,hk4⟩⟩
    |exit id=>
     obtain⟨hk3,hi3⟩:=hp;obtain⟨hr,hl3,hl4,hk4⟩:=fin (some (.exit id)) W3 hk3;exact⟨_,_,hr,.inr ⟨rfl,.exit id,(hJx _).put _ hi3 (by omega) hl3 rfl,hl4,hk4⟩⟩
    |goto t=>
     obtain⟨hk3,hi3⟩:=hp;obtain⟨hr,hl3,hl4,hk4⟩:=fin (some (.goto t)) W3 hk3;exact⟨_,_,hr,.inr ⟨rfl,.goto t,(hJx _).put _ hi3 (by omega) hl3 rfl,hl4,hk4⟩⟩
    |panic ch=>exact hp.elim
    |outgrown=>exact hp.elim
   |exit id=>exact hp.elim
   |goto t=>exact hp.elim
   |ret=>exact hp.elim
   |panic chain=>exact hp.elim
   |outgrown=>exact hp.elim
  ·rintro e W2 ⟨⟨v,rfl⟩,(⟨s,hS,hi,hl,hk⟩|⟨c,hi,hl,hk⟩)⟩
   ·exact⟨none,_,by have:=run_endLoop (P:=P) hl (by rw[hrec];simp);rw[hrec] at this;exact this,hdone _ s _ (Nat.le_refl _) hS ((hJ s).put _ hi (by omega) hl rfl) ((World.putObj_heap_other (by omega)).trans hk)⟩
   ·exact⟨some c,_,by have:=run_endLoop (P:=P) hl (by rw[hrec];simp);rw[hrec] at this;exact this,hstop _ c _ (Nat.le_refl _) ((hJx c).put _ hi (by omega) hl rfl) ((World.putObj_heap_other (by omega)).trans hk)⟩
end

section
open Go.RowKit
def setA(f:Nat→Bool):Array Value:=((List.range 200).map fun j=>Value.bool (f j)).toArray
theorem setA_size(f:Nat→Bool):(setA f).size=200:=by simp[setA]
theorem setA_at(f:Nat→Bool)(j:Nat)(h:j<200):(setA f)[j]? =some (.bool (f j)):=by simp[setA,h]
theorem setA_put(f:Nat→Bool)(j:Nat)(h:j<200)(b:Bool):(setA f).setIfInBounds j (.bool b)=setA (fun k=>if k=j then b else f k):=by
 apply Array.ext_getElem?
 intro k
 by_cases hk:k<200
 ·rw[Array.getElem?_setIfInBounds,setA_at f k hk,setA_at _ k hk];by_cases e:j=k
  ·subst e;simp[setA_size,h]
  ·rw[if_neg e,if_neg (fun x=>e x.symm)]
 ·rw[Array.getElem?_eq_none (by simp[setA_size];omega),Array.getElem?_eq_none (by simp[setA_size];omega)]
theorem setA_all(f:Nat→Bool):(setA f).all (·.oneCell')=true:=by
 rw[Array.all_eq_true_iff_forall_mem]
 intro v hv
 simp[setA] at hv
 obtain⟨j,_,rfl⟩:=hv
 rfl
end

section
open Go.RowKit
theorem none1_any(x:Int)(w:World):Calls Tryz.prog 267 (#[.int .i64 x]++ #[]) w fun e w'=>e=.returned (.bool (x != 0))∧Below w.heap.size w w':=by
 show Calls Tryz.prog 267 #[.int .i64 x] w _
 go_enter Tryz.func267,Tryz.ntmps267
 go_wp2
 go_ret
 exact⟨rfl,Below.refl _ _⟩
theorem call_none1(args:Array Value)(w:World):(callFunc 267 args).run Tryz.prog w=.ok (.enter 267 args) w:=by kernel_rfl
def noneB(xs:List Int):Bool:= !xs.any (fun x=>x != 0)
theorem none_any(a:Option Addr)(n c:Nat)(xs:List Int)(w:World)(h:Ints w a n xs):
  Calls Tryz.prog 236 #[.slice a n c] w fun e w'=>e=.returned (.bool (noneB xs))∧Below w.heap.size w w':=by
 have H:=Lib.hid h
 clear h
 go_enter Tryz.func236,Tryz.ntmps236
 go_wp2_with (go_at_call 241;refine(containsFunc_any _ #[] call_none1 (fun x=>x != 0) a n c xs w (fun x W _ _=>none1_any x W) H.out).mono ?_;rintro e w' ⟨rfl,hb'⟩;have HB':=Lib.hid hb';clear hb')
 go_ret
 exact⟨rfl,HB'.out⟩
theorem variable_any(n:Int)(w:World):Calls Tryz.prog 157 #[.int .i64 n] w fun e w'=>e=.returned (.bool (varB n))∧w=w':=by
 by_cases h1:1≤n
 ·have d1:decide (1≤n)=true:=by simpa using h1
  have HE:Hid (varB n=decide (n≤200)):=by rw[Hid,varB,decide_eq_decide];omega
  go_enter Tryz.func157,Tryz.ntmps157
  go_wp2
  go_ret
  exact⟨by rw[HE.out];rfl,rfl⟩
 ·have d1:decide (1≤n)=false:=by simpa using h1
  have HE:Hid (varB n=false):=by rw[Hid,varB,decide_eq_false_iff_not];omega
  go_enter Tryz.func157,Tryz.ntmps157
  go_wp2
  go_ret
  exact⟨by rw[HE.out];rfl,rfl⟩
def fitsV(b:Bool)(n:Int):Bool:=if b then varB n else decide (n=0)
theorem fits_any(b:Bool)(n:Int)(w:World):Calls Tryz.prog 237 #[.bool b,.int .i64 n] w fun e w'=>e=.returned (.bool (fitsV b n))∧w=w':=by
 cases b with
 |true=>
  go_enter Tryz.func237,Tryz.ntmps237
  go_wp2_with (go_at_call 157;refine(variable_any _ _).mono ?_;rintro e w' ⟨rfl,rfl⟩)
  go_ret
  exact⟨rfl,rfl⟩
 |false=>
  have HE:Hid (fitsV false n=(n==0)):=by
   rw[Hid,fitsV,if_neg (by simp)];by_cases h:n=0<;>simp[h]
  go_enter Tryz.func237,Tryz.ntmps237
  go_wp2
  go_ret
  exact⟨by rw[HE.out];rfl,rfl⟩
abbrev termV(t:TermD):Value:=.agg #[.int .i64 t.kind,.int .i64 t.a,.int .i64 t.t0,.int .i64 t.t1]
abbrev termO(t:TermD):Obj:=.cells #[.int .i64 t.kind,.int .i64 t.a,.int .i64 t.t0,.int .i64 t.t1] 66
def TermOK(t:TermD):Prop:=I64 t.kind∧I64 t.a∧I64 t.t0∧I64 t.t1
theorem ints_lit{W:World}{g o:Nat}{cells:Array Value}{t:TypeId}(hg:W.heap[g]? =some (.cells cells t (0,0)))(xs:List Int)(hx:∀x∈xs,I64 x)(hn:xs.length≤1000)(hc:∀k,k<xs.length→cells[o+k]? =some (.int .i64 (xs.getD k 0))):Ints W (some ⟨g,o,none⟩) xs.length xs:=
 ⟨rfl,by omega,fun k hk=>⟨g,o,rfl,by rw[cell_of_row _ _ _ _ _ _ hg];exact hc k hk,hx _ (by rw[List.getD_eq_getElem?_getD,List.getElem?_eq_getElem hk];exact List.getElem_mem _)⟩⟩
theorem heap_at(W:World)(o:Obj)(H:Nat)(hH:W.heap.size=H):(W.alloc o).heap[H]? =some o:=by subst hH;exact heap_alloc_new _ _
def TermPost(t:TermD)(w:World)(e:Ending)(w':World):Prop:=e=.returned (.bool (termB t))∧Below w.heap.size w w'
theorem isTerm_any(t:TermD)(w:World)(h:TermOK t):Calls Tryz.prog 158 #[termV t] w (TermPost t w):=by
 obtain⟨⟨h1,h2⟩,⟨h3,h4⟩,⟨h5,h6⟩,h7,h8⟩:=h
 obtain⟨k,a,x,y⟩:=t
 simp only at h1 h2 h3 h4 h5 h6 h7 h8
 have HX:=Lib.hid (show∀z∈[a,x,y],I64 z by simp[I64];omega)
 have box:∀(W:World),Below w.heap.size w W→∀W',Below W.heap.size W W'→Below w.heap.size w W':=fun W h1 W' h2=>ext_trans h1 h2
 have HBX:=Lib.hid box
 clear box
 by_cases k1:k=1
 ·subst k1;have HE:Hid (termB ⟨1,a,x,y⟩=noneB [a,y]):=by
   rw[Hid,Bool.eq_iff_iff];simp[termB,noneB]
  go_enter Tryz.func158,Tryz.ntmps158
  go_wp2_with (go_at_call 236;refine(none_any _ _ _ [a,y] _ (ints_lit (heap_at _ _ _ (by simp)) [a,y] (fun z hz=>HX.out z (by simp at hz⊢;omega)) (by simp) (fun k hk=>by match k,hk with|0,_=>rfl|1,_=>rfl))).mono ?_;rintro e w' ⟨rfl,hb'⟩;have HB':=Lib.hid hb';clear hb')
  go_ret
  exact⟨by rw[HE.out];rfl,HBX.out _ ((ext_alloc _ _).alloc (by simp) _) _ HB'.out⟩
 ·by_cases k2:k=2
  ·subst k2;have HE:Hid (termB ⟨2,a,x,y⟩=varB a):=by
    rw[Hid,Bool.eq_iff_iff];simp[termB]
   go_enter Tryz.func158,Tryz.ntmps158
   go_wp2_with (go_at_call 157;refine(variable_any _ _).mono ?_;rintro e w' ⟨rfl,rfl⟩)
   go_ret
   exact⟨by rw[HE.out];rfl,ext_alloc _ _⟩
  ·by_cases k3:k=3
   ·subst k3;by_cases hf:fitsV (a != 0) a=true
    ·have HE:Hid (termB ⟨3,a,x,y⟩=noneB [x,y]):=by
      rw[Hid,Bool.eq_iff_iff];unfold fitsV at hf;by_cases ha:a=0
      ·simp[termB,noneB,ha]
      ·simp[ha] at hf;simp[termB,noneB,hf]
     have HF:=Lib.hid hf;clear hf
     go_enter Tryz.func158,Tryz.ntmps158
     go_wp2_with (first
      |(go_at_call 236;refine(none_any _ _ _ [x,y] _ (ints_lit (heap_alloc_new _ _) [x,y] (fun z hz=>HX.out z (by simp at hz⊢;omega)) (by simp) (fun k hk=>by match k,hk with|0,_=>rfl|1,_=>rfl))).mono ?_;rintro e w' ⟨rfl,hb'⟩;have HB':=Lib.hid hb';clear hb')
      |(go_at_call 237;refine(fits_any _ _ _).mono ?_;rintro e w' ⟨rfl,rfl⟩;rw[HF.out]))
     go_ret
     exact⟨by rw[HE.out];rfl,HBX.out _ (ext_alloc _ _) _ HB'.out⟩
    ·have HE:Hid (termB ⟨3,a,x,y⟩=false):=by
      rw[Hid,Bool.eq_false_iff];unfold fitsV at hf;by_cases ha:a=0
      ·simp[ha] at hf
      ·simp[ha] at hf;simp[termB,hf,ha]
     have hf':fitsV (a != 0) a=false:=by simpa using hf
     have HF:=Lib.hid hf';clear hf hf'
     go_enter Tryz.func158,Tryz.ntmps158
     go_wp2_with (go_at_call 237;refine(fits_any _ _ _).mono ?_;rintro e w' ⟨rfl,rfl⟩;rw[HF.out])
     go_ret
     exact⟨by rw[HE.out];rfl,ext_alloc _ _⟩
   ·have b1:(k==1)=false:=by simpa using k1
    have b2:(k==2)=false:=by simpa using k2
    have b3:(k==3)=false:=by simpa using k3
    by_cases k4:k=4
    ·subst k4;have HE:Hid (termB ⟨4,a,x,y⟩=noneB [a,x,y]):=by
      rw[Hid,Bool.eq_iff_iff];simp[termB,noneB]
     clear b1 b2 b3 k1 k2 k3
     go_enter Tryz.func158,Tryz.ntmps158
     go_wp2_with (go_at_call 236;refine(none_any _ _ _ [a,x,y] _ (ints_lit (heap_at _ _ _ (by simp)) [a,x,y] (fun z hz=>HX.out z hz) (by simp) (fun k hk=>by match k,hk with|0,_=>rfl|1,_=>rfl|2,_=>rfl))).mono ?_;rintro e w' ⟨rfl,hb'⟩;have HB':=Lib.hid hb';clear hb')
     go_ret
     exact⟨by rw[HE.out];rfl,HBX.out _ ((ext_alloc _ _).alloc (by simp) _) _ HB'.out⟩
    ·have HE:Hid (termB ⟨k,a,x,y⟩=false):=by
      rw[Hid,Bool.eq_false_iff];simp[termB,k1,k2,k3,k4]
     have b4:(k==4)=false:=by simpa using k4
     clear k1 k2 k3 k4
     go_enter Tryz.func158,Tryz.ntmps158
     go_wp2
     go_ret
     exact⟨by rw[HE.out];rfl,ext_alloc _ _⟩
end

section
open Go.RowKit
theorem toD_ok(t:TermD)(h:TermOK t):∀x∈toD t,I64 x:=by
 intro x hx
 unfold toD at hx
 split at hx
 ·split at hx
  ·simp at hx;subst hx;exact h.2.2.1
  ·split at hx
   ·simp at hx;rcases hx with rfl|rfl
    ·exact h.2.2.1
    ·exact h.2.2.2
   ·cases hx
 ·cases hx
theorem below_size'{w w':World}{o:Obj}(h:Below (w.alloc o).heap.size (w.alloc o) w'):w.heap.size≤w'.heap.size:=by have:=h.size;simp at this;omega
theorem to_any(t:TermD)(w:World)(h:TermOK t):Calls Tryz.prog 81 #[termV t] w (IntsPost w (toD t)):=by
 have HT:=Lib.hid h
 have HO:=Lib.hid (toD_ok t h)
 clear h
 obtain⟨k,a,x,y⟩:=t
 by_cases ht:termB ⟨k,a,x,y⟩=true
 ·have HB:=Lib.hid ht;by_cases k1:k=1
  ·subst k1;have HE:Hid (toD ⟨1,a,x,y⟩= [x]):=by rw[Hid,toD,if_pos ht,if_pos rfl]
   clear ht
   go_enter Tryz.func81,Tryz.ntmps81
   go_wp2_with (go_at_call 158;refine(isTerm_any ⟨1,a,x,y⟩ _ HT.out).mono ?_;rintro e w' ⟨rfl,hb'⟩;rw[HB.out];obtain⟨g1,g2⟩:=bcell hb';have HB':=Lib.hid hb';clear hb')
   go_ret
   rw[HE.out];exact⟨_,rfl,(ownI_lit (xs:= [x]) rfl _ (below_size' HB'.out) (by have:=HO.out;rwa [HE.out] at this) (by simp)),(ext_trans (ext_alloc _ _) HB'.out).alloc (below_size' HB'.out) _⟩
  ·have b1:(k==1)=false:=by simpa using k1
   by_cases k2:k=2
   ·subst k2;have HE:Hid (toD ⟨2,a,x,y⟩= [x,y]):=by rw[Hid,toD,if_pos ht,if_neg (by simp),if_pos rfl]
    clear ht k1
    go_enter Tryz.func81,Tryz.ntmps81
    go_wp2_with (first
     |(go_at_call 172
       refine(cloneInts_any _ _ _ [x,y] _ (ints_lit HK.out [x,y] (by have:=HO.out;rwa [HE.out] at this) (by simp) (fun k hk=>by match k,hk with|0,_=>rfl|1,_=>rfl))).mono ?_;rintro e w2 ⟨v,rfl,ho,hb2⟩;have HO2:=Lib.hid ho;have HB2:=Lib.hid hb2
       clear ho hb2)
     |(go_at_call 158
       refine(isTerm_any ⟨2,a,x,y⟩ _ HT.out).mono ?_;rintro e w' ⟨rfl,hb'⟩;rw[HB.out];obtain⟨g1,g2⟩:=bcell hb';have HK:=Lib.hid (block_ext hb' (heap_alloc_new w (termO ⟨2,a,x,y⟩)));have HB':=Lib.hid hb'
       clear hb'))
    go_ret
    rw[HE.out];exact⟨_,rfl,HO2.out.mono (below_size' HB'.out),ext_trans (ext_trans (ext_alloc _ _) HB'.out) HB2.out⟩
   ·have b2:(k==2)=false:=by simpa using k2
    have HE:Hid (toD ⟨k,a,x,y⟩= []):=by rw[Hid,toD,if_pos ht,if_neg k1,if_neg k2]
    clear ht k1 k2
    go_enter Tryz.func81,Tryz.ntmps81
    go_wp2_with (go_at_call 158;refine(isTerm_any ⟨k,a,x,y⟩ _ HT.out).mono ?_;rintro e w' ⟨rfl,hb'⟩;rw[HB.out];obtain⟨g1,g2⟩:=bcell hb';have HB':=Lib.hid hb';clear hb')
    go_ret
    rw[HE.out];exact⟨_,rfl,OwnI.nil _ _,ext_trans (ext_alloc _ _) HB'.out⟩
 ·have HE:Hid (toD ⟨k,a,x,y⟩= []):=by rw[Hid,toD,if_neg ht]
  have ht':termB ⟨k,a,x,y⟩=false:=by simpa using ht
  have HB:=Lib.hid ht';clear ht ht'
  go_enter Tryz.func81,Tryz.ntmps81
  go_wp2_with (go_at_call 158;refine(isTerm_any ⟨k,a,x,y⟩ _ HT.out).mono ?_;rintro e w' ⟨rfl,hb'⟩;rw[HB.out];obtain⟨g1,g2⟩:=bcell hb';have HB':=Lib.hid hb';clear hb')
  go_ret
  rw[HE.out];exact⟨_,rfl,OwnI.nil _ _,ext_trans (ext_alloc _ _) HB'.out⟩
end
end Go.Proofs.YthgebcfohnlhlaaGreatDoor
