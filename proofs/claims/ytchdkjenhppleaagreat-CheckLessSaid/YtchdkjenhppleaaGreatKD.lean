/-
 cmp.Compare,cmp.Or of ints (as wip/tile XQE,for any seat).
-/
import Derived.Test.YtchdkjenhppleaaGreatA0
import Derived.Test.YtchdkjenhppleaaGreatFC
import Derived.Test.YtchdkjenhppleaaGreatMix
import Derived.Test.YtchdkjenhppleaaGreatRows
import Derived.Test.YtchdkjenhppleaaGreatFL
import Derived.Test.YtchdkjenhppleaaGreatFJ
import Derived.Test.YtchdkjenhppleaaGreatFA
import Derived.Test.YtchdkjenhppleaaGreatFM
import Derived.Deep.CutRange
import Derived.Test.YtchdkjenhppleaaGreatFP
import Derived.BigQuiet
import Derived.Sort.Grow
namespace Go.Proofs.YtchdkjenhppleaaGreat
set_option linter.unusedSimpArgs false
set_option linter.unusedVariables false
set_option linter.unusedSectionVars false
set_option maxRecDepth 100000
set_option maxHeartbeats 40000000
section
open Go.RowKit
def qQ(x y:Int):Int:=if x<y then -1 else if y<x then 1 else 0
def orV:List Int->Int
 | []=>0
 |x :: l=>if x=0 then orV l else x
theorem US:∀(l:List Int) (k:Nat),k<l.length->(∀j,j<k->l.getD j 0=0)->l.getD k 0≠0->orV l=l.getD k 0
 |x :: l,0,_,_,h=>by simp only[orV,bw] at h|-;rw[aC h]
 |x :: l,k+1,hk,h0,h=>by
  have h1:x=0:=by have:=h0 0 (by omega);simpa using this
  rw[orV,aX h1,bl];exact US l k (by simpa using hk) (λj hj=>by have:=h0 (j+1) (by omega);simpa using this) (by simpa using h)
theorem NI:∀(l:List Int),(∀j,j<l.length->l.getD j 0=0)->orV l=0
 | [],_=>rfl
 |x :: l,h=>by
  have h1:x=0:=by have:=h 0 (by simp);simpa using this
  rw[orV,aX h1];exact NI l λj hj=>by have:=h (j+1) (by simpa using hj);simpa using this
theorem AN(x:Int)(w:World):Calls Tryz.prog 131 #[.int .i64 x] w λe w'=>e=.returned (.bool false)/\w=w':=by
 go_enter Tryz.func131,Tryz.ntmps131
 go_wp2
 go_ret
 exact⟨rfl,rfl⟩
theorem uT(x y:Int)(w:World):Calls Tryz.prog 94 #[.int .i64 x,.int .i64 y] w λe w'=>e=.returned (.int .i64 (qQ x y))/\w=w':=by
 by_cases h1:x<y
 .have HE:Hid (qQ x y= -1):=by rw[Hid,qQ,aX h1]
  go_enter Tryz.func94,Tryz.ntmps94
  go_wp2_with (go_at_call 131;refine(AN _ _).mono ?_;rintro e w1 ⟨rfl,rfl⟩)
  go_ret
  exact⟨by rw[HE.out];rfl,rfl⟩
 .by_cases h2:y<x
  .have HE:Hid (qQ x y=1):=by rw[Hid,qQ,aC h1,aX h2]
   go_enter Tryz.func94,Tryz.ntmps94
   go_wp2_with (go_at_call 131;refine(AN _ _).mono ?_;rintro e w1 ⟨rfl,rfl⟩)
   go_ret
   exact⟨by rw[HE.out];rfl,rfl⟩
  .have HE:Hid (qQ x y=0):=by rw[Hid,qQ,aC h1,aC h2]
   go_enter Tryz.func94,Tryz.ntmps94
   go_wp2_with (go_at_call 131;refine(AN _ _).mono ?_;rintro e w1 ⟨rfl,rfl⟩)
   go_ret
   exact⟨by rw[HE.out];rfl,rfl⟩
theorem YU(a:Option Addr)(n c:Nat)(xs:List Int)(w:World)(h:fR w a n xs):Calls Tryz.prog 93 #[.slice a n c] w λe w'=>e=.returned (.int .i64 (orV xs))/\w=w':=by
 obtain⟨hl,hn,hc⟩:=h
 have HL:=ac hl
 have HC:=ac hc
 clear hl hc
 go_enter Tryz.func93,Tryz.ntmps93
 go_wp2
 go_loopw [5,8] (λ_ i wr=>∃(k:Nat),k<=n/\i=.int .i64 k/\wr=w/\Hid (∀j,j<k->xs.getD j 0=0)) (λ_ i _=>n-(intOf i).toNat)
 case atStart=>exact⟨0,by omega,rfl,rfl,λj hj=>absurd hj (by omega)⟩
 case round=>
  obtain⟨k,hk,rfl,rfl,HR⟩:=hrel;by_cases hlt:k<n
  .have hlt':(k:Int)<(n:Int):=by omega
   obtain⟨b,o,rfl,hcell,_⟩:=HC.out k hlt;by_cases he:xs.getD k 0=0
   .have HE:Hid (∀j,j<k+1->xs.getD j 0=0):=λj hj=>by
     by_cases hjk:j=k
     .subst hjk;exact he
     .exact HR.out j (by omega)
    rw[he] at hcell;clear he;go_wp2
    go_roundw
    case rel=>exact⟨k+1,by omega,by go_num,trivial,HE⟩
    case measure=>simp[intOf];omega
   .have HE:Hid (orV xs=xs.getD k 0):=US xs k (by rw[HL.out];exact hlt) HR.out he;have hne:(xs.getD k 0 != 0)=true:=by simpa using he
    generalize xs.getD k 0=y at *;go_wp2
    go_ret
    exact⟨by rw[HE.out];rfl,rfl⟩
  .have hlt':¬(k:Int)<(n:Int):=by omega
   have HE:Hid (orV xs=0):=NI xs λj hj=>HR.out j (by rw[HL.out] at hj;omega);go_wp2
   go_ret
   exact⟨by rw[HE.out];rfl,rfl⟩
end

section
open Go.RowKit
abbrev sN(x:Int×Bool×Int):Value:=.agg #[.int .i64 x.1,.bool x.2.1,.int .i64 x.2.2]
def bI(b:Bool):Int:=if b then 1 else 0
def VM(x y:Int×Bool×Int):Int:=orV [qQ x.1 y.1,qQ (bI x.2.1) (bI y.2.1),qQ x.2.2 y.2.2]
theorem mm(x y:Int):I64 (qQ x y):=by unfold qQ I64;split<;>(try split)<;>omega
theorem XU(w:World)(a b c:Int×Int):fR (w.alloc (.cells #[.int .i64 (qQ a.1 a.2),.int .i64 (qQ b.1 b.2),.int .i64 (qQ c.1 c.2)] 3)) (some ⟨w.heap.size,0,none⟩) 3 [qQ a.1 a.2,qQ b.1 b.2,qQ c.1 c.2]:=
 ⟨rfl,by omega,λk hk=>⟨w.heap.size,0,rfl,by
  rw[bd _ _ _ _ _ _ (ai _ _),aW];have h3:k=0\/k=1\/k=2:=by omega
  rcases h3 with rfl|rfl|rfl<;>rfl,by
  have h3:k=0\/k=1\/k=2:=by omega
  rcases h3 with rfl|rfl|rfl<;>exact mm _ _⟩⟩
end

section
open Go.RowKit
def jE{α:Type}(e:TypeId)(size:Nat)(cs:α->List Value)(w:World)(base:Nat)(v:Value)(ls:List α):Prop:=w.ownsRow base e size v ls.length (ls.flatMap cs)/\ls.length<=17592186044416
section
variable {α:Type} {e:TypeId} {size:Nat} {cs:α->List Value} {w w':World} {base base':Nat} {v:Value} {ls:List α}
theorem jE.nil(e:TypeId)(size:Nat)(cs:α->List Value)(w:World)(base:Nat):jE e size cs w base (.slice none 0 0) []:=⟨cC _ _ _ _,by simp⟩
theorem jE.mono(h:jE e size cs w base v ls)(hb:base'<=base):jE e size cs w base' v ls:=by
 refine⟨⟨h.1.1,?_⟩,h.2⟩
 rcases h.1.2 with h0|⟨g,cap,cur,hv,h1,r⟩
 .grind
 .exact .inr ⟨g,cap,cur,hv,bP hb h1,r⟩
theorem jE.kept{row:Option Nat}(h:jE e size cs w base v ls)(hg:w.grownBy w' row)(hne:v.ownBlock=none\/v.ownBlock≠row):jE e size cs w' base v ls:=⟨h.1.kept hg hne,h.2⟩
theorem jE.ext(h:jE e size cs w base v ls)(hb:Below w.heap.size w w'):jE e size cs w' base v ls:=by
 refine⟨h.1.kept (row:=none) ⟨hb.os,hb.tape,hb.output,hb.size,λk hk _=>hb.block k hk⟩ ?_,h.2⟩
 grind
theorem jE.form(h:jE e size cs w base v ls):∃a c,v=.slice a ls.length c:=by
 rcases h.1.2 with ⟨rfl,h0⟩|⟨g,cap,cur,hv,_⟩
 .grind
 grind
theorem jE.recs{a:Option Addr}{n c:Nat}(hs:∀x,(cs x).length=size)(h:jE e size cs w base (.slice a n c) ls):mO size cs w a n ls:=by
 obtain⟨a',c',e1,e2,_⟩:=pG hs h.1 h.2
 grind
theorem jE.low{k:Nat}(h:jE e size cs w base v ls)(hk:v.ownBlock=some k):base<=k/\k<w.heap.size:=⟨(h.1.lt k hk).1,(h.1.lt k hk).2⟩
theorem eI.ownR(D base:Nat)(v:Value)(ls:List α):eI D (λW=>jE e size cs W base v ls):=(eI.ownsRow _ _ _ _ _ _ _).and (eI.pure _ _)
end
def TV(B:Nat)(ty:TypeId)(W:World)(k:Nat):Prop:=k=B\/∃v,W.heap[B]? =some (.cells #[v] ty (0,0))/\v.ownBlock=some k
theorem TV.ext{B:Nat}{ty:TypeId}{W W':World}(h:W'.heap[B]? =W.heap[B]?){k:Nat}(ht:TV B ty W' k):TV B ty W k:=by
 rcases ht with ht|⟨v,hv,hk⟩
 .exact .inl ht
 .exact .inr ⟨v,h▸hv,hk⟩
theorem KO{W W':World}{B:Nat}{ty:TypeId}{v v':Value}(hB:W.heap[B]? =some (.cells #[v] ty (0,0)))(hB':W'.heap[B]? =some (.cells #[v'] ty (0,0)))(hs:W.heap.size<=W'.heap.size)
  (hk:∀k,k<W.heap.size->k≠B->v.ownBlock≠some k->W'.heap[k]? =W.heap[k]?) (ho:∀k,v'.ownBlock=some k->v.ownBlock=some k\/W.heap.size<=k):Tch (TV B ty) W W':=by
 refine⟨hs,λk h1 h2=>hk k h1 (λe=>h2 (.inl e)) (λe=>h2 (.inr ⟨v,hB,e⟩)),λk ht=>?_⟩
 rcases ht with ht|⟨u,hu,huk⟩
 .exact .inl (.inl ht)
 .rw[hB'] at hu;obtain⟨rfl,_⟩:=hu;rcases ho k huk with h|h
  .exact .inl (.inr ⟨v,hB,h⟩)
  omega
theorem sF{W W':World}{B:Nat}{ty:TypeId}(hB:B<W.heap.size)(hb:Below W.heap.size W W'):Tch (TV B ty) W W':=
 ⟨hb.size,λk hk _=>hb.block k hk,λ_ ht=>.inl (ht.ext (hb.block B hB))⟩
section
variable {P:Program}
theorem tH{α:Type}{g:Operand}{ps:Array Tmp}{assign body:Code}{Q:Exit->Act->World->Prop}{a:Act}{w:World}{gf:Nat}{lb:Array Value}
  (hg:a.eval g=.func (.func gf) #[] lb) (eg:∀args w,(callFunc gf args).run P w=.ok (.enter gf args) w)
  {enc:α->Array Value} {l:List α} (I:World->Prop) (hit:sQ P gf lb enc l I) (hps:∀x,(enc x).size=ps.size)
  (J:List α->List α->World->Prop) (Jx:Code->World->Prop)
  (hJ:∀d r,eI w.heap.size (J d r)) (hJx:∀c,eI w.heap.size (Jx c)) (hInv:∀d r W,J d r W->I W)
  (T:World->Nat->Prop) (hT0:∀d r W k,J d r W->T W k->k<W.heap.size) (hTg:∀W W' row,W.grownBy W' row->(∀q,row=some q->w.heap.size<=q/\∃o:Obj,W.heap[q]? =some o/\nR o=true)->(∃d r,J d r W)->∀k,T W' k->T W k)
  (h0:J [] l w)
  (hround:∀(lp:Nat) (d:List α) (x:α) (r:List α) (W:World),l=d++x :: r->J d (x :: r) W->
    assign.wpIn (Fence.wide.inRound lp) 0 P (Exit.then (λa1 W1=>gO W W1/\J d (x :: r) W1/\Tch T W W1/\∃G:World->Prop,eI w.heap.size G/\G W1/\∀(lp:Nat) (W2:World),J d (x :: r) W2->G W2->
     body.wpIn (Fence.wide.inRound lp) 0 P (jH (λW'=>gO W2 W'/\J (d++ [x]) r W'/\Tch T W2 W') (λc W'=>gO W2 W'/\Jx c W')) a1 W2) (λ_ _ _=>False)) {tmps:=(ps.zip (enc x)).foldl (λt (p,v)=>t.setIfInBounds p v) a.tmps,defers:= []} W)
  (hdone:∀(D:Nat) (W:World),w.heap.size<=D->J l [] W->W.heap[D]? =some (.deferred (some []))->Q .normal {a with defers:={target:=.collected D,args:=#[]} :: a.defers} W)
  (hstop:∀(D:Nat) (c:Code) (W:World),w.heap.size<=D->Jx c W->W.heap[D]? =some (.deferred (some []))->c.wpIn Fence.wide 0 P Q {a with defers:={target:=.collected D,args:=#[]} :: a.defers} W):
  (Code.rangeFunc g ps assign body).wpIn Fence.wide 0 P Q a w:=by
 refine LN (enc:=enc) hg eg hit hps (λs W=>∃d,l=d++s/\J d s W) Jx
  (λs x a1 W=>∃G:World->Prop,eI w.heap.size G/\G W/\∀(d:List α) (lp:Nat) (W2:World),l=d++s->J d s W2->G W2->body.wpIn (Fence.wide.inRound lp) 0 P (jH (λW'=>gO W2 W'/\J (d++ [x]) (nxL s x) W'/\Tch T W2 W') (λc W'=>gO W2 W'/\Jx c W')) a1 W2)
  (λs=>eI.ex λd=>(eI.pure _ _).and (hJ d s)) hJx (λ_ _ _=>λW W' row h hg hr=>let ⟨G,h1,h2,h3⟩:=h;⟨G,h1,h1 W W' row h2 hg hr,h3⟩) (λs W ⟨d,_,h⟩=>hInv d s W h) T (λs W k ⟨d,_,h⟩ ht=>hT0 d s W k h ht) (λW W' row hg hr ⟨s,d,_,h⟩=>hTg W W' row hg hr ⟨d,s,h⟩) ⟨[],rfl,h0⟩ ?_ ?_ ?_ hstop
 .rintro lp s x W hok ⟨d,hd,hj⟩;have hs:=xZ hok;generalize nxL s x=r at hs|-;subst hs;refine dU (hround lp d x r W hd hj) ?_;rintro e a1 W1 he;cases e with
  |normal=>
   obtain⟨h1,h2,hT1,G,h4,h5,h3⟩:=he;refine⟨h1,⟨d,hd,h2⟩,⟨G,h4,h5,λd' lp' W2 hd' hj' hG'=>?_⟩,hT1⟩;have:d'=d:=by
    have:=hd'.symm.trans hd;exact List.append_cancel_right this
   subst this;exact h3 lp' W2 hj' hG'
  |_=>exact he.elim
 .rintro lp s x a1 W hok ⟨d,hd,hj⟩ ⟨G,_,hG,hA⟩;refine dU (hA d lp W hd hj hG) ?_;rintro e a3 W3 he;cases e with
  |normal=>
   refine⟨he.1,⟨d++ [x],?_,he.2.1⟩,he.2.2⟩;rw[hd,ee]
   congr 1
   exact xZ hok
  |ret=>exact he
  |exit id=>exact he
  |goto t=>exact he
  |panic ch=>exact he.elim
  |outgrown=>exact he.elim
 .rintro D s W hD hf ⟨d,hd,hj⟩ hk;subst hf;rw[dR] at hd;subst hd;exact hdone D W hD hj hk
end
end

section
open Go.RowKit
abbrev Fct:=Int×Bool×Int
def kx(v:Value):Fct:=match v with
 | .agg ⟨[.int _ v,.bool s,.int _ n]⟩=>(v,s,n)
 |_=>(0,false,0)
theorem mh(x:Fct):kx (sN x)=x:=rfl
theorem LJ(x y:Fct):nY x y=true↔x=y:=by
 obtain⟨a,b,c⟩:=x
 obtain⟨a',b',c'⟩:=y
 simp[nY]
theorem zO(em:Bool)(n:Nat)(x:Int)(w:World):(Instr.checkKey em (n+1) 3 (.int .i64 x)).run Tryz.prog w=.ok () w:=by
 simp[Instr.checkKey,aZ aP]
theorem GW(em:Bool)(n:Nat)(x:Bool)(w:World):(Instr.checkKey em (n+1) 4 (.bool x)).run Tryz.prog w=.ok () w:=by
 simp[Instr.checkKey,aZ ce]
theorem zN(em:Bool)(n:Nat)(t:TypeId)(cs:Array Value)(w:World)(hu:Tryz.prog.underlying t=some (.struct (Tryz.prog.fieldsOf t)))(n0 n1:String)(t0 t1:TypeId)(o0 o1:Nat)
  (hf : (Tryz.prog.fieldsOf t).toList.map (fun f => (f.name, f.type, f.offset)) = [(n0, t0, o0), (n1, t1, o1)]) (h0 : n0 ≠ "_") (h1 : n1 ≠ "_") (x0 x1 : Value)
  (p0:(part t0 cs o0).run Tryz.prog w=.ok x0 w) (p1:(part t1 cs o1).run Tryz.prog w=.ok x1 w) (k0:(Instr.checkKey em n t0 x0).run Tryz.prog w=.ok () w) (k1:(Instr.checkKey em n t1 x1).run Tryz.prog w=.ok () w):
  (Instr.checkKey em (n+1) t (.agg cs)).run Tryz.prog w=.ok () w:=by
 generalize hF:Tryz.prog.fieldsOf t=F at hf hu
 obtain⟨L⟩:=F
 simp only at hf
 match L,hf with
 | [f,g],hf=>
   simp only[cn,cW,dr,Prod.mk.injEq,and_true] at hf;obtain⟨⟨rfl,rfl,rfl⟩,⟨rfl,rfl,rfl⟩⟩:=hf;simp[Instr.checkKey,aZ hu,h0,h1,p0,p1,k0,k1,Result.andThen]
theorem VN:zV Tryz.prog 44 sN kx where
 under:=⟨_,wP,λx e l i=>rfl⟩
 check em x w:=by
  refine zN em 9999 _ _ w wP _ _ _ _ _ _ BY (by decide) (by decide) (.int .i64 x.1) (.agg #[.bool x.2.1,.int .i64 x.2.2]) (lJ _ _ _ w rfl) (DS _ _ _ _ w rfl) (zO _ _ _ w) ?_;exact zN em 9998 _ _ w AE _ _ _ _ _ _ FG (by decide) (by decide) (.bool x.2.1) (.int .i64 x.2.2) (sI _ _ _ w rfl) (lJ _ _ _ w rfl) (GW _ _ _ w) (zO _ _ _ w)
 eql x y w:=⟨nY x y,FH w x y,LJ x y⟩
 bits x:=by
  obtain⟨a,b,c⟩:=x;have h:∀n (v:Value),(∃k a,v=.int k a)\/(∃b,v=.bool b)->Instr.sameBits n v v=true:=λn v h=>by
   rcases h with ⟨k,a,rfl⟩|⟨b,rfl⟩<;>cases n<;>simp[Instr.sameBits]
  show((3==3)&&_)=true;simp only[List.zip_cons_cons,List.zip_nil_right,List.all_cons,List.all_nil];rw[h _ _ (.inl ⟨_,_,rfl⟩),h _ _ (.inr ⟨_,rfl⟩),h _ _ (.inl ⟨_,_,rfl⟩)];rfl
 dec:=mh
theorem zU:Tryz.prog.underlying 68=some (.map 44 3):=Tryz.underlying68
abbrev o7:Value:=.int .i64 1
abbrev mJ(w:World)(b:Nat)(L:List Fct):Prop:=iM sN kx o7 w b L
abbrev ni(w:World)(b r:Nat)(L R:List Fct):Prop:=lH sN kx o7 w b r L R
def csF(x:Fct):List Value:= [.int .i64 x.1,.bool x.2.1,.int .i64 x.2.2]
theorem fO(x:Fct):(csF x).length=3:=rfl
abbrev qA(w:World)(base:Nat)(v:Value)(l:List Fct):Prop:=jE 44 3 csF w base v l
abbrev qS(w:World)(a:Option Addr)(n:Nat)(l:List Fct):Prop:=mO 3 csF w a n l
theorem MV:(Tryz.prog.info? 44).map (λi=>(i.zero,i.size,i.bytes))=some (some (.agg #[.int .i64 0,.bool false,.int .i64 0]),3,24):=by kernel_rfl
theorem LC(l:List Fct):∀u∈l.flatMap csF,u.oneCell'=true:=by
 intro u hu
 simp only[dj,csF] at hu
 obtain⟨x,_,hx⟩:=hu
 simp only[aH,a7,bW] at hx
 rcases hx with rfl|rfl|rfl<;>rfl
end

section
section
variable {P:Program} {ops:Array Oper} {rest:List Oper} {o:Oper} {a:Act}
theorem sK{w:World}{Q:Exit->Act->World->Prop}(hw:Region.wanted o (yielded ops a.tmps)=true)(ty:TypeId)(x:Operand)(ho:o.op=.load ty x)
  (g:Nat) (hx:a.eval x=.pointer (some ⟨g,0,none⟩)) (t:TypeId) (cs:Array Value) (fr:Nat×Nat) (d:TypeDesc) (hg:w.heap[g]? =some (.cells cs t fr))
  (hu:P.underlying ty=some d) (hd:(match d with| .struct _| .array _ _=>true|_=>false)=true) (hi:(P.info? ty).map (·.size)=some cs.size)
  (h:wpList P ops Q rest (a.put o.dst (.agg cs)) w):wpList P ops Q (o :: rest) a w:=
 BigFrame.wpList_want hw λ_ hK=>bX ty x ho g hx t cs fr d hg hu hd hi (hK _ _ h)
theorem eP{C:World->Prop}{Q:Act->Prop}(hw:Region.wanted o (yielded ops a.tmps)=true)(ty:TypeId)(x:Operand)(ho:o.op=.load ty x)
  (g:Nat) (hx:a.eval x=.pointer (some ⟨g,0,none⟩)) (t:TypeId) (cs:Array Value) (fr:Nat×Nat) (d:TypeDesc) (hg:∀w,C w->w.heap[g]? =some (.cells cs t fr))
  (hu:P.underlying ty=some d) (hd:(match d with| .struct _| .array _ _=>true|_=>false)=true) (hi:(P.info? ty).map (·.size)=some cs.size)
  (h:wpQuiet P ops C Q rest (a.put o.dst (.agg cs))):wpQuiet P ops C Q (o :: rest) a:=
 BigFrame.wpQuiet_want hw λ_ hK=>⟨.agg cs,λw hC=>by
  unfold Oper.quietAt execOp;simp only[ho,hx,Instr.loadAt,Instr.sureAddr,bu,cY,bp,cd w g t ty cs fr d (hg w hC) hu hd hi]
  exact⟨rfl,rfl⟩,hK _ h⟩
theorem mB{l:List Oper}{Q:Exit->Act->World->Prop}{e:Nat}{K:Act->World->Prop}{w:World}(ho:l[e]? =some o)(hw:Region.wanted o (yielded l.toArray a.tmps)=true)(h:o.wp P a w K Q):wpOp P l.toArray Q e K a w:=by
 unfold wpOp
 simp only[List.getElem?_toArray,ho]
 rw[aX hw]
 exact .inl h
end
end

section
open Go.RowKit
def jJ(w w':World):Prop:=∃q os,w'=Go.Sort.grow (w.drewN q) os
theorem jJ.refl(w:World):jJ w w:=⟨0,#[],by rw[Go.Sort.grow_empty];rfl⟩
theorem jJ.trans{a b c:World}(h:jJ a b)(k:jJ b c):jJ a c:=by
 obtain⟨q,os,rfl⟩:=h
 obtain⟨q',os',rfl⟩:=k
 exact⟨q+q',os++os',by simp[Go.Sort.grow,World.drewN,Array.append_assoc,Nat.add_assoc]⟩
theorem jJ.alloc(w:World)(o:Obj):jJ w (w.alloc o):=⟨0,#[o],by rw[Go.Sort.alloc_eq_grow];rfl⟩
theorem jJ.drewN(w:World)(q:Nat):jJ w (w.drewN q):=⟨q,#[],by rw[Go.Sort.grow_empty]⟩
theorem jJ.drew(w:World):jJ w w.drew:=jJ.drewN w 1
theorem jJ.below{w w':World}(h:jJ w w'):Below w.heap.size w w':=by
 obtain⟨q,os,rfl⟩:=h
 refine⟨rfl,rfl,rfl,by simp[Go.Sort.grow,World.drewN],λk hk=>?_⟩
 show(w.heap++os)[k]? =_
 rw[Array.getElem?_append_left hk]
theorem jJ.block{w w':World}{k:Nat}{o:Obj}(h:jJ w w')(hk:w.heap[k]? =some o):w'.heap[k]? =some o:=eB h.below hk
theorem EN(x:Fct)(w:World):Calls Tryz.prog 92 #[sN x] w λe w'=>e=.returned (.int .i64 (bI x.2.1))/\jJ w w':=by
 obtain⟨v,s,n⟩:=x
 cases s with
 |false=>
  go_enter Tryz.func92,Tryz.ntmps92
  go_wp2
  go_ret
  exact⟨rfl,jJ.alloc _ _⟩
 |true=>
  go_enter Tryz.func92,Tryz.ntmps92
  go_wp2
  go_ret
  exact⟨rfl,jJ.alloc _ _⟩
abbrev nC(v:Int)(s:Bool)(n:Int):Obj:=.cells #[.int .i64 v,.bool s,.int .i64 n] 44
theorem pC:(Tryz.prog.info? 44).map (·.size)=some 3:=by kernel_rfl
def CF(W w':World):Prop:=jJ W w'
theorem GX(x y:Fct)(w:World):Calls Tryz.prog 56 #[sN x,sN y] w λe w'=>e=.returned (.int .i64 (VM x y))/\jJ w w':=by
 obtain⟨v,s,n⟩:=x
 obtain⟨v',s',n'⟩:=y
 go_enter Tryz.func56,Tryz.ntmps56
 go_upto_region 2 with (fail)
 obtain⟨W,hW⟩:∃W,W=(w.alloc (nC v s n)).alloc (nC v' s' n'):=⟨_,rfl⟩
 have hr1:W.heap[w.heap.size]? =some (nC v s n):=by rw[hW];exact eB (eC _ _) (ai _ _)
 have hr2:W.heap[w.heap.size+1]? =some (nC v' s' n'):=by
  rw[hW];have:=ai (w.alloc (nC v s n)) (nC v' s' n');simpa using this
 have hB:jJ w W:=by rw[hW];exact(jJ.alloc _ _).trans (jJ.alloc _ _)
 rw[show(w.alloc (Obj.cells #[.int .i64 v,.bool s,.int .i64 n] 44)).alloc (Obj.cells #[.int .i64 v',.bool s',.int .i64 n'] 44)=W from hW.symm]
 have HR1:=ac hr1
 have HR2:=ac hr2
 have HB:=ac hB
 clear hW hr1 hr2 hB
 have g1:∀m:fP (CF W),m.val.cell? ⟨w.heap.size,0,none⟩=some (.int .i64 v):=λm=>cR (jJ.block m.prop HR1.out) rfl
 have g2:∀m:fP (CF W),m.val.cell? ⟨w.heap.size+1,0,none⟩=some (.int .i64 v'):=λm=>cR (jJ.block m.prop HR2.out) rfl
 have g3:∀m:fP (CF W),m.val.cell? ⟨w.heap.size,2,none⟩=some (.int .i64 n):=λm=>cR (jJ.block m.prop HR1.out) rfl
 have g4:∀m:fP (CF W),m.val.cell? ⟨w.heap.size+1,2,none⟩=some (.int .i64 n'):=λm=>cR (jJ.block m.prop HR2.out) rfl
 have q1:∀w',(∃m:fP (CF W),w'=m.val)->w'.heap[w.heap.size]? =some (nC v s n):=λw' ⟨m,e⟩=>by rw[e];exact jJ.block m.prop HR1.out
 have q2:∀w',(∃m:fP (CF W),w'=m.val)->w'.heap[w.heap.size+1]? =some (nC v' s' n'):=λw' ⟨m,e⟩=>by rw[e];exact jJ.block m.prop HR2.out
 have hne:Nonempty (fP (CF W)):=⟨⟨W,jJ.refl _⟩⟩
 refine gJ (λw'=>∃m:fP (CF W),w'=m.val) [(0,4,none),(5,2,none),(8,2,none),(12,6,some (4,true)),(7,0,some (7,true)),(10,0,some (10,true)),(11,0,some (11,true)),(18,0,some (18,true)),(19,0,some (19,true)),(20,0,some (20,true)),(21,1,none)] (by kernel_rfl) (by kernel_rfl) (mN (jJ.drew _)) ?_
 simp only[lR,ak,aq,aj,ap]
 repeat (first
  |(refine eP (o:=⟨some 12,.load 44 _,_,_,_,_⟩) (by rfl) 44 _ rfl w.heap.size rfl 44 _ (0,0) _ q1 cS rfl pC ?_;simp only[Act.put,ae,ah,ag])
  |(refine eP (o:=⟨some 15,.load 44 _,_,_,_,_⟩) (by rfl) 44 _ rfl (w.heap.size+1) rfl 44 _ (0,0) _ q2 cS rfl pC ?_;simp only[Act.put,ae,ah,ag])
  |refine ar ?_
  |go_big_quiet_step (fail))
 refine eE rfl rfl ?_
 go_simp
 refine(uT v v' _).mono ?_
 rintro e w1 ⟨rfl,rfl⟩
 refine⟨mN (jJ.drew _),?_⟩
 refine ar ?_
 refine eE rfl rfl ?_
 go_simp
 refine(EN (v,s,n) _).mono ?_
 rintro e w2 ⟨rfl,hb2⟩
 have hb2':=(jJ.drew W).trans hb2
 refine⟨mN hb2',?_⟩
 refine ar ?_
 refine eE rfl rfl ?_
 go_simp
 refine(EN (v',s',n') _).mono ?_
 rintro e w3 ⟨rfl,hb3⟩
 have hb3':=hb2'.trans hb3
 refine⟨mN hb3',?_⟩
 refine ar ?_
 refine eE rfl rfl ?_
 go_simp
 refine(uT _ _ _).mono ?_
 rintro e w4 ⟨rfl,rfl⟩
 refine⟨mN hb3',?_⟩
 refine ar ?_
 refine eE rfl rfl ?_
 go_simp
 refine(uT _ _ _).mono ?_
 rintro e w5 ⟨rfl,rfl⟩
 refine⟨mN hb3',?_⟩
 refine ar ?_
 refine eE rfl rfl ?_
 go_simp
 refine⟨mN (hb3'.trans (jJ.alloc _ _)),?_⟩
 refine ar ?_
 refine eE rfl rfl ?_
 go_simp
 refine(YU _ 3 3 [qQ v v',qQ (bI s) (bI s'),qQ n n'] _ (XU w3 (v,v') (bI s,bI s') (n,n'))).mono ?_
 rintro e w6 ⟨rfl,rfl⟩
 refine⟨mN (hb3'.trans (jJ.alloc _ _)),?_⟩
 repeat (go_big_quiet_step (fail))
 refine ar ?_
 refine bQ ?_
 go_wp2
 go_ret
 exact⟨rfl,HB.out.trans (hb3'.trans (jJ.alloc _ _))⟩
def ltF(x y:Fct):Bool:=decide (VM x y<0)
def ckO(x y:Fct):Int:=if ltF x y then -1 else if ltF y x then 1 else 0
theorem xD(x y:Fct)(w:World):Calls Tryz.prog 31 #[sN x,sN y] w λe w'=>e=.returned (.bool (ltF x y))/\jJ w w':=by
 have hc:=GX x y
 have HE:Hid (ltF x y=decide (VM x y<0)):=rfl
 obtain⟨v,s,n⟩:=x
 obtain⟨v',s',n'⟩:=y
 generalize VM (v,s,n) (v',s',n')=r at*
 have HC:=ac hc
 clear hc
 go_enter Tryz.func31,Tryz.ntmps31
 go_upto_region 1 with (fail)
 obtain⟨W,hW⟩:∃W,W=(w.alloc (nC v s n)).alloc (nC v' s' n'):=⟨_,rfl⟩
 have hr1:W.heap[w.heap.size]? =some (nC v s n):=by rw[hW];exact eB (eC _ _) (ai _ _)
 have hr2:W.heap[w.heap.size+1]? =some (nC v' s' n'):=by
  rw[hW];have:=ai (w.alloc (nC v s n)) (nC v' s' n');simpa using this
 have hB:jJ w W:=by rw[hW];exact(jJ.alloc _ _).trans (jJ.alloc _ _)
 rw[show(w.alloc (Obj.cells #[.int .i64 v,.bool s,.int .i64 n] 44)).alloc (Obj.cells #[.int .i64 v',.bool s',.int .i64 n'] 44)=W from hW.symm]
 have HR1:=ac hr1
 have HR2:=ac hr2
 have HB:=ac hB
 clear hW hr1 hr2 hB
 go_wp2_with (first
  |((with_reducible show wpList _ _ _ (⟨some 5,_,_,_,_,_⟩ :: _) _ _);refine ay (o:=⟨some 5,.load 44 _,_,_,_,_⟩) rfl 44 _ rfl w.heap.size rfl 44 _ (0,0) _ HR1.out cS rfl pC ?_)
  |((with_reducible show wpList _ _ _ (⟨some 6,_,_,_,_,_⟩ :: _) _ _);refine ay (o:=⟨some 6,.load 44 _,_,_,_,_⟩) rfl 44 _ rfl (w.heap.size+1) rfl 44 _ (0,0) _ HR2.out cS rfl pC ?_)
  |(go_at_call 56
    refine(HC.out W).mono ?_;rintro e w3 ⟨rfl,hb⟩;have HB3:=ac (HB.out.trans hb)
    clear hb))
 go_ret
 exact⟨by rw[HE.out];rfl,HB3.out⟩
theorem QO(x y:Fct)(w:World):Calls Tryz.prog 40 #[sN x,sN y] w λe w'=>e=.returned (.int .i64 (ckO x y))/\jJ w w':=by
 have hc:=xD x y
 have hc2:=xD y x
 have HE:Hid (ckO x y=if ltF x y then -1 else if ltF y x then 1 else 0):=rfl
 obtain⟨v,s,n⟩:=x
 obtain⟨v',s',n'⟩:=y
 have HC:=ac hc
 have HC2:=ac hc2
 clear hc hc2
 go_enter Tryz.func40,Tryz.ntmps40
 go_upto_region 1 with (fail)
 obtain⟨W,hW⟩:∃W,W=(w.alloc (nC v s n)).alloc (nC v' s' n'):=⟨_,rfl⟩
 have hr1:W.heap[w.heap.size]? =some (nC v s n):=by rw[hW];exact eB (eC _ _) (ai _ _)
 have hr2:W.heap[w.heap.size+1]? =some (nC v' s' n'):=by
  rw[hW];have:=ai (w.alloc (nC v s n)) (nC v' s' n');simpa using this
 have hB:jJ w W:=by rw[hW];exact(jJ.alloc _ _).trans (jJ.alloc _ _)
 rw[show(w.alloc (Obj.cells #[.int .i64 v,.bool s,.int .i64 n] 44)).alloc (Obj.cells #[.int .i64 v',.bool s',.int .i64 n'] 44)=W from hW.symm]
 have HR1:=ac hr1
 have HR2:=ac hr2
 have HB:=ac hB
 clear hW hr1 hr2 hB
 go_upto_if 5 with (first
  |((with_reducible show wpList _ _ _ (⟨some 6,_,_,_,_,_⟩ :: _) _ _);refine ay (o:=⟨some 6,.load 44 _,_,_,_,_⟩) rfl 44 _ rfl w.heap.size rfl 44 _ (0,0) _ HR1.out cS rfl pC ?_)
  |((with_reducible show wpList _ _ _ (⟨some 7,_,_,_,_,_⟩ :: _) _ _);refine ay (o:=⟨some 7,.load 44 _,_,_,_,_⟩) rfl 44 _ rfl (w.heap.size+1) rfl 44 _ (0,0) _ HR2.out cS rfl pC ?_)
  |(go_at_call 31
    refine(HC.out W).mono ?_;rintro e w3 ⟨rfl,hb⟩;have HR13:=ac (hb.block HR1.out);have HR23:=ac (hb.block HR2.out);have HB3:=ac (HB.out.trans hb)
    clear hb))
 cases h1:ltF (v,s,n) (v',s',n') with
 |true=>
  have HE2:Hid (ckO (v,s,n) (v',s',n')= -1):=by rw[Hid,HE.out,h1];rfl
  clear h1;go_wp2
  go_ret
  exact⟨by rw[HE2.out];rfl,HB3.out⟩
 |false=>
  have H1:=ac h1;clear h1
  go_upto_if 9 with (first
   |((with_reducible show wpList _ _ _ (⟨some 10,_,_,_,_,_⟩ :: _) _ _);refine ay (o:=⟨some 10,.load 44 _,_,_,_,_⟩) rfl 44 _ rfl (w.heap.size+1) rfl 44 _ (0,0) _ HR23.out cS rfl pC ?_)
   |((with_reducible show wpList _ _ _ (⟨some 11,_,_,_,_,_⟩ :: _) _ _);refine ay (o:=⟨some 11,.load 44 _,_,_,_,_⟩) rfl 44 _ rfl w.heap.size rfl 44 _ (0,0) _ HR13.out cS rfl pC ?_)
   |(go_at_call 31
     refine(HC2.out w3).mono ?_;rintro e w4 ⟨rfl,hb⟩;have HB4:=ac (HB3.out.trans hb)
     clear hb))
  cases h2:ltF (v',s',n') (v,s,n) with
  |true=>
   have HE2:Hid (ckO (v,s,n) (v',s',n')=1):=by rw[Hid,HE.out,H1.out,h2];rfl
   clear h2;go_wp2
   go_ret
   exact⟨by rw[HE2.out];rfl,HB4.out⟩
  |false=>
   have HE2:Hid (ckO (v,s,n) (v',s',n')=0):=by rw[Hid,HE.out,H1.out,h2];rfl
   clear h2;go_wp2
   go_ret
   exact⟨by rw[HE2.out];rfl,HB4.out⟩
theorem RI(x y:Fct):VM x y<0↔x.1<y.1\/x.1=y.1/\(bI x.2.1<bI y.2.1\/bI x.2.1=bI y.2.1/\x.2.2<y.2.2):=by
 simp only[VM,orV,qQ]
 repeat' split
 all_goals omega
theorem oq{a b:Bool}(h:bI a=bI b):a=b:=by cases a<;>cases b<;>simp_all[bI]
theorem SN(x:Fct):ltF x x=false:=by
 have:=RI x x
 simp only[ltF,bA]
 omega
theorem AL{x y z:Fct}(h1:ltF x y=true)(h2:ltF y z=true):ltF x z=true:=by
 simp only[ltF,aR] at*
 rw[RI] at*
 omega
theorem JB{x y:Fct}(h1:ltF x y=false)(h2:ltF y x=false):x=y:=by
 simp only[ltF,bA] at*
 rw[RI] at*
 obtain⟨a,b,c⟩:=x
 obtain⟨a',b',c'⟩:=y
 simp only at*
 have e1:a=a':=by omega
 have e2:bI b=bI b':=by omega
 have e3:c=c':=by omega
 rw[e1,oq e2,e3]
theorem CX(x y:Fct):decide (ckO x y<0)=ltF x y:=by
 unfold ckO
 cases h:ltF x y
 .cases h2:ltF y x<;>simp
 .simp
end
end Go.Proofs.YtchdkjenhppleaaGreat
