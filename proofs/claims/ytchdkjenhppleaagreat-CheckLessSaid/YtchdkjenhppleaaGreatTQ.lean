/-
 Words on memory that every text of this family uses:slices of ints that read as lists,worlds that only grow. No program in sight.
-/
import Derived.Test.YtchdkjenhppleaaGreatA0
import Derived.WalkKit
import Derived.ProofKit
import Derived.Below
import Derived.Lib.Hide
import Derived.Deep.QuietTactic
import Derived.BigQuiet
import Derived.Deep.Draws
import Derived.Laws.OwnMore
import Derived.Outline
import Derived.Test.YtchdkjenhppleaaGreatRows
namespace Go.Proofs.YtchdkjenhppleaaGreat
set_option linter.unusedSimpArgs false
set_option linter.unusedVariables false
set_option linter.unusedSectionVars false
set_option maxRecDepth 100000
set_option maxHeartbeats 40000000
section
open Go.RowKit
def I64(n:Int):Prop:=-9223372036854775808<=n/\n<=9223372036854775807
def fR(w:World)(a:Option Addr)(n:Nat)(xs:List Int):Prop:=
 xs.length=n/\n<=17592186044416/\∀k,k<n->∃b o,a=some ⟨b,o,none⟩/\w.cell? ⟨b,o+k,none⟩=some (.int .i64 (xs.getD k 0))/\I64 (xs.getD k 0)
theorem eN{w w':World}(h:Below w.heap.size w w'){p:Addr}{v:Value}(hc:w.cell? p=some v):w'.cell? p=some v:=
 (h.cell (aF w p hc)).trans hc
theorem fR.ext{w w':World}{a:Option Addr}{n:Nat}{xs:List Int}(h:fR w a n xs)(hb:Below w.heap.size w w'):fR w' a n xs:=
 ⟨h.1,h.2.1,λk hk=>let ⟨b,o,e,hc,hi⟩:=h.2.2 k hk;⟨b,o,e,eN hb hc,hi⟩⟩
theorem fR.drewN{w:World}{a:Option Addr}{n:Nat}{xs:List Int}(h:fR w a n xs)(m:Nat):fR (w.drewN m) a n xs:=h
theorem uV{B:Nat}{a w:World}(h:Below B a w)(n:Nat):Below B a (w.drewN n):=⟨h.os,h.tape,h.output,h.size,h.block⟩
theorem eS{a w:World}(h:Below a.heap.size a w)(n:Nat):Below a.heap.size a (w.drewN n):=uV h n
theorem cR{w:World}{g j:Nat}{cs:Array Value}{t:TypeId}{fr:Nat×Nat}{v:Value}(hg:w.heap[g]? =some (.cells cs t fr))(e:cs[j]? =some v):w.cell? ⟨g,j,none⟩=some v:=(bd w g j cs t fr hg).trans e
theorem cK{w:World}{g:Nat}{cs:Array Value}{t:TypeId}{fr:Nat×Nat}{v:Value}(j:Nat)(hg:w.heap[g]? =some (.cells cs t fr))(e:cs[j]? =some v):w.cell? ⟨g,j,none⟩=some v:=cR hg e
theorem fK{w:World}{g:Nat}{cs:Array Value}{t:TypeId}(j:Nat)(hg:w.heap[g]? =some (.cells cs t)):w.frozen? ⟨g,j,none⟩=false:=dg _ _ _ _ _ hg
theorem cz{w:World}{g:Nat}{cs:Array Value}{t:TypeId}{v:Value}(j:Nat)(hg:w.heap[g]? =some (.cells cs t))(e:cs[j]? =some v):w.cell? ⟨g,j,none⟩=some v/\w.frozen? ⟨g,j,none⟩=false:=⟨cR hg e,fK j hg⟩
section
variable {w:World} {g:Nat} {cs:Array Value} {t:TypeId} {fr:Nat×Nat}
theorem qR{v0 v1:Value}{l:List Value}(hg:w.heap[g]? =some (.cells cs t fr))(e:cs.toList=v0 :: v1 :: l):w.cell? ⟨g,0,none⟩=some v0/\w.cell? ⟨g,1,none⟩=some v1:=by
 have h:cs=(v0 :: v1 :: l).toArray:=by grind
 grind[cR]
theorem p6(hg:w.heap[g]? =some (.cells cs t)):w.frozen? ⟨g,0,none⟩=false/\w.frozen? ⟨g,1,none⟩=false:=⟨fK 0 hg,fK 1 hg⟩
theorem tY{v0 v1 v2:Value}{l:List Value}(hg:w.heap[g]? =some (.cells cs t fr))(e:cs.toList=v0 :: v1 :: v2 :: l):w.cell? ⟨g,0,none⟩=some v0/\w.cell? ⟨g,1,none⟩=some v1/\w.cell? ⟨g,2,none⟩=some v2:=by
 have h:cs=(v0 :: v1 :: v2 :: l).toArray:=by grind
 grind[cR]
theorem kr(hg:w.heap[g]? =some (.cells cs t)):w.frozen? ⟨g,0,none⟩=false/\w.frozen? ⟨g,1,none⟩=false/\w.frozen? ⟨g,2,none⟩=false:=⟨fK 0 hg,fK 1 hg,fK 2 hg⟩
theorem wD{v0 v1 v2 v3:Value}{l:List Value}(hg:w.heap[g]? =some (.cells cs t fr))(e:cs.toList=v0 :: v1 :: v2 :: v3 :: l):w.cell? ⟨g,0,none⟩=some v0/\w.cell? ⟨g,1,none⟩=some v1/\w.cell? ⟨g,2,none⟩=some v2/\w.cell? ⟨g,3,none⟩=some v3:=by
 have h:cs=(v0 :: v1 :: v2 :: v3 :: l).toArray:=by grind
 grind[cR]
theorem nN{v0 v1 v2 v3 v4:Value}{l:List Value}(hg:w.heap[g]? =some (.cells cs t fr))(e:cs.toList=v0 :: v1 :: v2 :: v3 :: v4 :: l):w.cell? ⟨g,0,none⟩=some v0/\w.cell? ⟨g,1,none⟩=some v1/\w.cell? ⟨g,2,none⟩=some v2/\w.cell? ⟨g,3,none⟩=some v3/\w.cell? ⟨g,4,none⟩=some v4:=by
 have h:cs=(v0 :: v1 :: v2 :: v3 :: v4 :: l).toArray:=by grind
 grind[cR]
theorem nk{v0 v1 v2 v3 v4 v5:Value}{l:List Value}(hg:w.heap[g]? =some (.cells cs t fr))(e:cs.toList=v0 :: v1 :: v2 :: v3 :: v4 :: v5 :: l):w.cell? ⟨g,0,none⟩=some v0/\w.cell? ⟨g,1,none⟩=some v1/\w.cell? ⟨g,2,none⟩=some v2/\w.cell? ⟨g,3,none⟩=some v3/\w.cell? ⟨g,4,none⟩=some v4/\w.cell? ⟨g,5,none⟩=some v5:=by
 have h:cs=(v0 :: v1 :: v2 :: v3 :: v4 :: v5 :: l).toArray:=by grind
 grind[cR]
theorem RC{v0 v1 v2 v3 v4 v5 v6 v7:Value}{l:List Value}(hg:w.heap[g]? =some (.cells cs t fr))(e:cs.toList=v0 :: v1 :: v2 :: v3 :: v4 :: v5 :: v6 :: v7 :: l):w.cell? ⟨g,0,none⟩=some v0/\w.cell? ⟨g,1,none⟩=some v1/\w.cell? ⟨g,2,none⟩=some v2/\w.cell? ⟨g,3,none⟩=some v3/\w.cell? ⟨g,4,none⟩=some v4/\w.cell? ⟨g,5,none⟩=some v5/\w.cell? ⟨g,6,none⟩=some v6/\w.cell? ⟨g,7,none⟩=some v7:=by
 have h:cs=(v0 :: v1 :: v2 :: v3 :: v4 :: v5 :: v6 :: v7 :: l).toArray:=by grind
 subst h
 exact⟨cR hg rfl,cR hg rfl,cR hg rfl,cR hg rfl,cR hg rfl,cR hg rfl,cR hg rfl,cR hg rfl⟩
end
theorem eA{a b c:World}(h:Below a.heap.size a b)(k:Below b.heap.size b c):Below a.heap.size a c:=h.trans (k.mono h.size)
theorem UK{W w1:World}(hb:Below W.heap.size W w1):(∀b o,b<W.heap.size->w1.cell? ⟨b,o,none⟩=W.cell? ⟨b,o,none⟩)/\(∀b o,b<W.heap.size->w1.frozen? ⟨b,o,none⟩=W.frozen? ⟨b,o,none⟩):=
 ⟨λb o h=>hb.cell (p:=⟨b,o,none⟩) h,λb o h=>hb.frozen (p:=⟨b,o,none⟩) h⟩
theorem xO{k:IntKind}{a b:Int}(h:a=b):Ending.returned (.int k a)=.returned (.int k b):=by rw[h]
theorem rY{a b:Bool}(h:a=b):Ending.returned (.bool a)=.returned (.bool b):=by rw[h]
def idx:List Int->Int->Int
 | [],_=>-1
 |y :: l,x=>if y=x then 0 else if idx l x<0 then -1 else idx l x+1
theorem ZW(l:List Int)(x:Int): -1<=idx l x/\idx l x<l.length:=by
 induction l with
 |nil=>simp[idx]
 |cons y l ih=>
  grind[idx]
theorem rF(l:List Int)(x:Int):idx l x<0↔x∉l:=by
 induction l with
 |nil=>simp[idx]
 |cons y l ih=>
  simp only[idx,aH,not_or]
  grind
theorem XZ(l:List Int)(x:Int)(k:Nat)(hk:k<l.length)(hx:l.getD k 0=x)(hno:∀j,j<k->l.getD j 0≠x):idx l x=k:=by
 induction l generalizing k with
 |nil=>grind
 |cons y l ih=>
  cases k with
  |zero=>grind[idx]
  |succ k=>
   have h0:=hno 0 (by omega);simp at h0;have:=ih k (by simpa using hk) (by simpa using hx) (λj hj=>by have:=hno (j+1) (by omega);simpa using this);simp only[idx,aC h0,this];omega
theorem ja(l:List Int)(x:Int)(hno:∀j,j<l.length->l.getD j 0≠x):idx l x= -1:=by
 have h:=ZW l x
 have:=(rF l x).2 (λhx=>by
  grind[List.getElem_of_mem])
 omega
end

section
open Go.RowKit
theorem RT(a:Option Addr)(n cap:Nat)(xs:List Int)(x:Int)(w:World)(h:fR w a n xs):
  Calls Tryz.prog 128 #[.slice a n cap,.int .i64 x] w λe w'=>e=.returned (.int .i64 (idx xs x))/\w=w':=by
 obtain⟨hl,hn,hc⟩:=h
 have HL:=ac hl
 have HC:=ac hc
 clear hl hc
 go_enter Tryz.func128,Tryz.ntmps128
 go_wp2
 go_loop [5,8] (λ_ i=>∃(k:Nat),k<=n/\i=.int .i64 k/\Hid (∀j,j<k->xs.getD j 0≠x)) (λ_ i=>n-(intOf i).toNat)
 case atStart=>exact⟨0,by omega,rfl,λj hj=>absurd hj (by omega)⟩
 case round=>
  obtain⟨k,hk,rfl,HR⟩:=hrel;by_cases hlt:k<n
  .obtain⟨b,o,rfl,hcell,hw1,hw2⟩:=HC.out k hlt;by_cases he:x=xs.getD k 0
   .have HE:Hid (idx xs x=k):=XZ xs x k (by rw[HL.out];exact hlt) he.symm HR.out;have hb:(x==xs.getD k 0)=true:=by simpa using he
    generalize xs.getD k 0=y at *;clear he;go_wp2
    go_ret
    exact⟨by rw[HE.out];rfl,rfl⟩
   .have HE:Hid (∀j,j<k+1->xs.getD j 0≠x):=λj hj=>by
     by_cases hjk:j=k
     .subst hjk;exact λe=>he e.symm
     .exact HR.out j (by omega)
    have hb:(x==xs.getD k 0)=false:=by simpa using he
    generalize xs.getD k 0=y at *;clear he;go_wp2
    go_round
    case rel=>exact⟨k+1,by omega,by go_num,HE⟩
    case measure=>simp[intOf];omega
  .go_wp2
   go_ret
   have:k=n:=by omega
   subst this;exact⟨by rw[ja xs x (by rw[HL.out];exact HR.out)];rfl,rfl⟩
theorem mV(a:Option Addr)(n cap:Nat)(xs:List Int)(x:Int)(w:World)(h:fR w a n xs):
  Calls Tryz.prog 87 #[.slice a n cap,.int .i64 x] w λe w'=>e=.returned (.bool (decide (0<=idx xs x)))/\w=w':=by
 have hi:=ZW xs x
 have H:=ac h
 clear h
 go_enter Tryz.func87,Tryz.ntmps87
 go_wp2_with (go_at_call 128;refine(RT a n cap xs x w H.out).mono ?_;rintro e w' ⟨rfl,rfl⟩)
 go_ret
 exact⟨rfl,rfl⟩
end

section
open Go.RowKit
def iA{α:Type}(p:α->Bool):List α->Int
 | []=>-1
 |y :: l=>if p y then 0 else if iA p l<0 then -1 else iA p l+1
theorem vM{α:Type}(p:α->Bool)(l:List α): -1<=iA p l/\iA p l<l.length:=by
 induction l with
 |nil=>simp[iA]
 |cons y l ih=>
  simp only[iA,aN]
  split
  .omega
  .split<;>omega
theorem pU{α:Type}(p:α->Bool)(l:List α)(k:Nat)(x:α)(hx:l[k]? =some x)(hp:p x=true)(hno:∀j y,j<k->l[j]? =some y->p y=false):iA p l=k:=by
 induction l generalizing k with
 |nil=>simp at hx
 |cons y l ih=>
  cases k with
  |zero=>simp at hx;subst hx;simp[iA,hp]
  |succ k=>
   have h0:=hno 0 y (by omega) rfl;have:=ih k (by simpa using hx) (λj z hj hz=>hno (j+1) z (by omega) (by simpa using hz));simp only[iA,h0,this];simp;omega
theorem rG{α:Type}(p:α->Bool)(l:List α)(hno:∀y∈l,p y=false):iA p l= -1:=by
 induction l with
 |nil=>rfl
 |cons y l ih=>simp[iA,hno y (by simp),ih (λz hz=>hno z (by simp[hz]))]
theorem TF{α:Type}(p:α->Bool)(l:List α):0<=iA p l↔l.any p=true:=by
 induction l with
 |nil=>simp[iA]
 |cons y l ih=>
  have hg:=vM p l;have e:iA p (y :: l)=(if p y then 0 else if iA p l<0 then -1 else iA p l+1):=rfl;rw[e,List.any_cons,bZ,<-ih];by_cases hp:p y=true
  .simp[hp]
  .rw[aC hp]
   split
   .constructor
    .intro h;omega
    .rintro(h|h)
     .exact absurd h hp
     .omega
   .constructor
    .intro h;exact .inr (by omega)
    .intro h;omega
theorem tD{α:Type}(p:α->Bool)(l:List α):decide (0<=iA p l)=l.any p:=by
 rw[cp,aR]
 exact TF p l
theorem eD(w:World)(o:Obj):Below w.heap.size w (w.alloc o):=(ao _ w).alloc (aw _) o
theorem CM(F:Nat)(caps:Array Value)(eF:∀args w,(callFunc F args).run Tryz.prog w=.ok (.enter F args) w)(p:Int->Bool)(a:Option Addr)(n c:Nat)(xs:List Int)(w:World)
  (hp:∀(x:Int) (W:World),x∈xs->Below w.heap.size w W->Calls Tryz.prog F (#[.int .i64 x]++caps) W λe W'=>e=.returned (.bool (p x))/\Below W.heap.size W W') (h:fR w a n xs):
  Calls Tryz.prog 150 #[.slice a n c,.func (.func F) #[] caps] w λe w'=>e=.returned (.int .i64 (iA p xs))/\Below w.heap.size w w':=by
 have HL:=ac h.1
 have hn:=h.2.1
 have H:=ac h
 have HP:=ac hp
 clear h hp
 go_enter Tryz.func150,Tryz.ntmps150
 go_wp2
 go_loopw [5,8] (λ_ i wr=>∃(k:Nat),k<=n/\i=.int .i64 k/\Hid (∀j y,j<k->xs[j]? =some y->p y=false)/\Hid (Below w.heap.size w wr)) (λ_ i _=>n-(intOf i).toNat)
 case atStart=>exact⟨0,by omega,rfl,λj y hj=>absurd hj (by omega),ao _ _⟩
 case round=>
  obtain⟨k,hk,rfl,HR,HB⟩:=hrel;by_cases hlt:k<n
  .obtain⟨b,o,rfl,hcell,hw1,hw2⟩:=(H.out.ext HB.out).2.2 k hlt;have hgk:xs[k]? =some (xs.getD k 0):=by
    have hk':k<xs.length:=by rw[HL.out];exact hlt
    simp[ax,hk']
   have HG:=ac hgk;have HM:=ac (aK hgk);clear hgk;generalize xs.getD k 0=r at *;by_cases hy:p r=true
   .have HE:Hid (iA p xs=k):=pU p xs k r HG.out hy HR.out;go_wp2;refine(HP.out r wr HM.out HB.out).mono ?_;rintro e w' ⟨rfl,hb'⟩;have HB':=ac (eA HB.out hb');clear hb';rw[hy];go_wp2
    go_ret
    exact⟨by rw[HE.out];rfl,HB'.out⟩
   .have hy':p r=false:=by simpa using hy
    have HE:Hid (∀j z,j<k+1->xs[j]? =some z->p z=false):=λj z hj hz=>by
     by_cases e:j=k
     .subst e;rw[HG.out] at hz;injection hz with hz;subst hz;exact hy'
     .exact HR.out j z (by omega) hz
    go_wp2;refine(HP.out r wr HM.out HB.out).mono ?_;rintro e w' ⟨rfl,hb'⟩;have HB':=ac (eA HB.out hb');clear hb';rw[hy'];go_wp2
    go_roundw
    case rel=>exact⟨k+1,by omega,by go_num,HE,HB'⟩
    case measure=>simp[intOf];omega
  .obtain rfl:k=n:=by omega
   have HE:Hid (iA p xs= -1):=rG p xs (λz hz=>by
    obtain⟨j,hj,e⟩:=a8.1 hz
    exact HR.out j z (by rw[HL.out] at hj;exact hj) (by rw[au hj,e]))
   go_wp2
   go_ret
   exact⟨by rw[HE.out];rfl,HB.out⟩
theorem iJ(F:Nat)(caps:Array Value)(eF:∀args w,(callFunc F args).run Tryz.prog w=.ok (.enter F args) w)(p:Int->Bool)(a:Option Addr)(n c:Nat)(xs:List Int)(w:World)
  (hp:∀(x:Int) (W:World),x∈xs->Below w.heap.size w W->Calls Tryz.prog F (#[.int .i64 x]++caps) W λe W'=>e=.returned (.bool (p x))/\Below W.heap.size W W') (h:fR w a n xs):
  Calls Tryz.prog 119 #[.slice a n c,.func (.func F) #[] caps] w λe w'=>e=.returned (.bool (xs.any p))/\Below w.heap.size w w':=by
 have HA:=ac (tD p xs)
 have hg:=vM p xs
 have HP:=ac hp
 have H:=ac h
 clear hp h
 go_enter Tryz.func119,Tryz.ntmps119
 go_wp2_with (go_at_call 150;refine(CM F caps eF p a n c xs w HP.out H.out).mono ?_;rintro e w' ⟨rfl,hb'⟩;have HB':=ac hb';clear hb')
 go_ret
 exact⟨by rw[<-HA.out];rfl,HB'.out⟩
end

section
structure fC where
 kind:Int
 a:Int
 t0:Int
 t1:Int
abbrev kI:fC:=⟨0,0,0,0⟩
def iG(n:Int):Bool:=decide (1<=n/\n<=200)
def jK(t:fC):Bool:=
 if t.kind=1 then decide (t.a=0/\t.t1=0) else if t.kind=2 then iG t.a
 else if t.kind=3 then (decide (t.a=0)||iG t.a)&&decide (t.t0=0/\t.t1=0) else decide (t.kind=4/\t.a=0/\t.t0=0/\t.t1=0)
def toD(t:fC):List Int:=if jK t then (if t.kind=1 then [t.t0] else if t.kind=2 then [t.t0,t.t1] else []) else []
theorem sS(t:fC):(toD t).length<=2:=by grind[toD]
def nx(ts:List fC)(k:Nat):List Nat:=(toD (ts.getD k kI)).map Int.toNat
def pv(ts:List fC)(y:Nat):List Nat:=(List.range ts.length).flatMap λk=>((nx ts k).filter (λx=>x==y)).map λ_=>k
theorem CV(ts:List fC)(k:Nat)(h:ts.length<=k):nx ts k= []:=by
 have:ts.getD k kI=kI:=by grind
 rw[nx,this];rfl
theorem ZT(ts:List fC)(y k:Nat):k∈pv ts y↔y∈nx ts k:=by
 simp only[pv,dj,be,bi,bO,de]
 constructor
 .simp
 .intro h;refine⟨k,?_,y,⟨h,rfl⟩,rfl⟩;apply cu;intro hk;rw[CV ts k (by omega)] at h;cases h
def qC(ts:List fC):Bool:=decide (1<=ts.length/\ts.length<=200)&&ts.all λt=>jK t&&(toD t).all λx=>decide (1<=x/\x<ts.length)
theorem jP(ts:List fC):qC ts=true↔(1<=ts.length/\ts.length<=200)/\∀t∈ts,jK t=true/\∀x∈toD t,1<=x/\x<ts.length:=by
 simp[qC]
theorem UY{ts:List fC}(h:qC ts=true){k y:Nat}(hy:y∈nx ts k):1<=y/\y<ts.length:=by
 obtain⟨_,h⟩:=(jP ts).1 h
 by_cases hk:k<ts.length
 .grind[nx]
 grind[CV]
inductive Reach (next:Nat->List Nat) (inn:Nat->Bool) (b:Nat):Nat->Prop
 |one {y:Nat}:y∈next b->inn y=true->Reach next inn b y
 |step {x y:Nat}:Reach next inn b x->y∈next x->inn y=true->Reach next inn b y
theorem Reach.inn{next:Nat->List Nat}{inn:Nat->Bool}{b y:Nat}(h:Reach next inn b y):inn y=true:=by cases h<;>assumption
structure pZ(next:Nat->List Nat)(inn:Nat->Bool)(b:Nat)(todo:List Nat)(s:Nat->Bool)(x:Option (Nat×Nat)):Prop where
 sound:∀y,s y=true->Reach next inn b y
 src:∀z∈todo,z=b\/s z=true
 cur:∀z j,x=some (z,j)->z=b\/s z=true
 closed:∀z,(z=b\/s z=true)->z∈todo\/(∃j,x=some (z,j)/\∀y∈(next z).take j,inn y=true->s y=true)\/∀y∈next z,inn y=true->s y=true
section
variable {next:Nat->List Nat} {inn:Nat->Bool} {b:Nat} {todo:List Nat} {s:Nat->Bool}
theorem pZ.start(next:Nat->List Nat)(inn:Nat->Bool)(b:Nat):pZ next inn b [b] (λ_=>false) none where
 sound:=λy h=>by cases h
 src:=λz h=>by grind
 cur:=λz j h=>by cases h
 closed:=λz h=>h.elim (λe=>.inl (by grind)) (λh=>by cases h)
theorem pZ.take(h:pZ next inn b todo s none)(x:Nat)(todo':List Nat)(hm:∀z,z∈todo↔z=x\/z∈todo'):pZ next inn b todo' s (some (x,0)) where
 sound:=h.sound
 src:=λz hz=>h.src z ((hm z).2 (.inr hz))
 cur:=λz j e=>by cases e;exact h.src x ((hm x).2 (.inl rfl))
 closed:=λz hz=>by
  rcases h.closed z hz with h1|⟨j,h1,_⟩|h1
  .rcases(hm z).1 h1 with rfl|h2
   .simp
   grind
  .grind
  grind
theorem takeN{l:List Nat}{j:Nat}(hj:j<l.length){y:Nat}(hy:y∈l.take (j+1)):y∈l.take j\/y=l.getD j 0:=by
 grind[List.take_add_one]
theorem pZ.skip{x j:Nat}(h:pZ next inn b todo s (some (x,j)))(hj:j<(next x).length)(hn:inn ((next x).getD j 0)=true->s ((next x).getD j 0)=true):pZ next inn b todo s (some (x,j+1)) where
 sound:=h.sound
 src:=h.src
 cur:=λz k e=>by cases e;exact h.cur x j rfl
 closed:=λz hz=>by
  rcases h.closed z hz with h1|⟨k,h1,h2⟩|h1
  .grind
  .grind[takeN]
  grind
theorem pZ.push{x j:Nat}(h:pZ next inn b todo s (some (x,j)))(hj:j<(next x).length)(hi:inn ((next x).getD j 0)=true)(todo':List Nat)(hm:∀z,z∈todo'↔z=(next x).getD j 0\/z∈todo)(s':Nat->Bool)(hs:∀z,s' z=true↔z=(next x).getD j 0\/s z=true):
  pZ next inn b todo' s' (some (x,j+1)) where
 sound:=λy hy=>by
  rcases(hs y).1 hy with rfl|h1
  .have hx:(next x).getD j 0∈next x:=by grind
   rcases h.cur x j rfl with rfl|h2
   .exact .one hx hi
   .exact .step (h.sound x h2) hx hi
  .exact h.sound y h1
 src:=λz hz=>by
  rcases(hm z).1 hz with rfl|h1
  .grind
  .exact(h.src z h1).imp id (λh2=>(hs z).2 (.inr h2))
 cur:=λz k e=>by cases e;exact(h.cur x j rfl).imp id (λh2=>(hs x).2 (.inr h2))
 closed:=λz hz=>by
  have hz':z=(next x).getD j 0\/(z=b\/s z=true):=by
   grind
  rcases hz' with rfl|hz'
  .grind
  .rcases h.closed z hz' with h1|⟨k,h1,h2⟩|h1
   .grind
   .grind[takeN]
   grind
theorem pZ.fin{x j:Nat}(h:pZ next inn b todo s (some (x,j)))(hj:(next x).length<=j):pZ next inn b todo s none where
 sound:=h.sound
 src:=h.src
 cur:=λz k e=>by cases e
 closed:=λz hz=>by
  rcases h.closed z hz with h1|⟨k,h1,h2⟩|h1
  .grind
  .grind[List.take_of_length_le]
  grind
theorem pZ.done(h:pZ next inn b [] s none)(y:Nat):s y=true↔Reach next inn b y:=by
 refine⟨h.sound y,λhr=>?_⟩
 have hc:∀z,(z=b\/s z=true)->∀y∈next z,inn y=true->s y=true:=λz hz=>by
  rcases h.closed z hz with h1|⟨k,h1,_⟩|h1
  .grind
  .grind
  omega
 induction hr with
 |one hy hi=>grind
 |step _ hy hi ih=>grind
end
def DI(inn:Nat->Bool)(ts:List Nat×List Nat)(y:Nat):List Nat×List Nat:=if inn y&& !ts.2.contains y then (y :: ts.1,y :: ts.2) else ts
def dfs(next:Nat->List Nat)(inn:Nat->Bool):Nat->List Nat->List Nat->List Nat
 |0,_,seen=>seen
 |_+1,[],seen=>seen
 |f+1,x :: todo,seen=>dfs next inn f ((next x).foldl (DI inn) (todo,seen)).1 ((next x).foldl (DI inn) (todo,seen)).2
def ZM(next:Nat->List Nat)(inn:Nat->Bool)(b:Nat):List Nat:=if inn b then dfs next inn 202 [b] [] else []
def gG(next:Nat->List Nat)(inn:Nat->Bool)(b:Nat):Nat->Bool:=λy=>(ZM next inn b).contains y
def nI(s:Nat->Bool):Prop:=∀y,s y=true->y<200
theorem jf{next:Nat->List Nat}{inn:Nat->Bool}{b x:Nat}(hc:nI inn):∀(m j:Nat) (todo seen:List Nat),(next x).length-j=m->pZ next inn b todo (λy=>seen.contains y) (some (x,j))->seen.Nodup->(∀y∈seen,y<200)->
  ∃todo' seen',((next x).drop j).foldl (DI inn) (todo,seen)=(todo',seen')/\pZ next inn b todo' (λy=>seen'.contains y) none/\seen'.Nodup/\(∀y∈seen',y<200)/\todo'.length+seen.length=todo.length+seen'.length:=by
 intro m
 induction m with
 |zero=>
  intro j todo seen hm h hn hl;rw[cO (by omega)];exact⟨todo,seen,rfl,h.fin (by omega),hn,hl,by omega⟩
 |succ m ih=>
  intro j todo seen hm h hn hl;have hj:j<(next x).length:=by omega
  have hg:(next x).getD j 0=(next x)[j]:=by grind
  rw[cw hj,List.foldl_cons,<-hg];by_cases hp:(inn ((next x).getD j 0)&& !seen.contains ((next x).getD j 0))=true
  .have e:DI inn (todo,seen) ((next x).getD j 0)=((next x).getD j 0 :: todo,(next x).getD j 0 :: seen):=by unfold DI;rw[aX hp]
   rw[e];simp only[az,cm] at hp;obtain⟨hi,hs⟩:=hp;have hns:(next x).getD j 0∉seen:=by simpa using hs
   obtain⟨t',s',e1,e2,e3,e4,e5⟩:=ih (j+1) ((next x).getD j 0 :: todo) ((next x).getD j 0 :: seen) (by omega)
    (h.push hj hi _ (λz=>by simp) _ (λz=>by simp)) (dG.2 ⟨hns,hn⟩) (λy hy=>(aH.1 hy).elim (λe=>e▸hc _ hi) (hl y))
   exact⟨t',s',e1,e2,e3,e4,by simp at e5;omega⟩
  .have e:DI inn (todo,seen) ((next x).getD j 0)=(todo,seen):=by unfold DI;rw[aC hp]
   rw[e]
   exact ih (j+1) todo seen (by omega) (h.skip hj (λhi=>by
    cases e2:seen.contains ((next x).getD j 0) with
    |true=>rfl
    |false=>exact absurd (by rw[hi,e2];rfl) hp)) hn hl
theorem AK:∀(N:Nat) (l:List Nat),l.Nodup->(∀y∈l,y<N)->l.length<=N:=by
 intro N
 induction N with
 |zero=>
  intro l _ h;cases l with
  |nil=>simp
  |cons x l=>have:=h x (by simp);omega
 |succ N ih=>
  intro l hn h
  have h1:=ih (l.filter λy=>y != N) (hn.filter _) (λy hy=>by
   grind)
  have h2:l.length<=(l.filter λy=>y != N).length+1:=by
   induction l with
   |nil=>simp
   |cons x l ih=>
    grind[List.filter_eq_self]
  omega
theorem mg{next:Nat->List Nat}{inn:Nat->Bool}{b:Nat}(hc:nI inn):∀(f:Nat) (todo seen:List Nat),pZ next inn b todo (λy=>seen.contains y) none->seen.Nodup->(∀y∈seen,y<200)->todo.length+200<=f+seen.length->
  ∀y,(dfs next inn f todo seen).contains y=true↔Reach next inn b y:=by
 intro f
 induction f with
 |zero=>
  intro todo seen h hn hl hf;have:=AK 200 seen hn hl;cases todo with
  |nil=>exact λy=>h.done y
  |cons x todo=>grind
 |succ f ih=>
  intro todo seen h hn hl hf;cases todo with
  |nil=>exact λy=>h.done y
  |cons x todo=>
   obtain⟨t',s',e1,e2,e3,e4,e5⟩:=jf (next:=next) (inn:=inn) (b:=b) (x:=x) hc _ 0 todo seen rfl (h.take x todo (λz=>by simp)) hn hl
   grind[dfs]
theorem AD{next:Nat->List Nat}{inn:Nat->Bool}(hc:nI inn)(b y:Nat):gG next inn b y=true↔inn b=true/\Reach next inn b y:=by
 unfold gG ZM
 by_cases hb:inn b=true
 .rw[aX hb];rw[mg hc 202 [b] [] (by simpa using pZ.start next inn b) (by simp) (by simp) (by simp)]
  grind
 grind
theorem PB{next:Nat->List Nat}{inn:Nat->Bool}(hc:nI inn)(b:Nat):nI (gG next inn b):=λy h=>hc y ((AD hc b y).1 h).2.inn
theorem fh{next:Nat->List Nat}{inn:Nat->Bool}(hc:nI inn){b:Nat}(hb:inn b=true){s:Nat->Bool}(h:pZ next inn b [] s none):s=gG next inn b:=by
 funext y
 rw[cp,h.done y,AD hc]
 grind
theorem fi{next:Nat->List Nat}{inn:Nat->Bool}{b:Nat}(hb:inn b=false):gG next inn b=λ_=>false:=by
 grind[gG,ZM]
def fV(n:Nat):Nat->Bool:=λk=>decide (k<n)
def vQ(s:Nat->Bool)(b:Nat):Nat->Bool:=λk=>k != b&&s k
def ofS(l:List Int):Nat->Bool:=λj=>decide (j<200)&&l.contains (j:Int)
def iR(s:Nat->Bool):List Nat:=(List.range 200).filter s
def eR(l:List Nat):List Int:=l.map λ(k:Nat)=>(k:Int)
theorem OY{n:Nat}(h:n<=200):nI (fV n):=λy hy=>by grind[fV]
theorem SU{s:Nat->Bool}(h:nI s)(b:Nat):nI (vQ s b):=λy hy=>by simp[vQ] at hy;exact h y hy.2
theorem NJ(l:List Int):nI (ofS l):=λy hy=>by grind[ofS]
theorem XM{s:Nat->Bool}(h:nI s)(y:Nat):y∈iR s↔s y=true:=by
 simp[iR]
 exact λh1=>h y h1
def gS(ts:List fC):Bool:=qC ts&&(List.range ts.length).all λk=>k==0||gG (nx ts) (fV ts.length) 0 k
def kK(ts:List fC)(b:Nat)(inn:Nat->Bool):Nat->Bool:=λk=>gG (nx ts) inn b k&&gG (pv ts) inn b k
def fF(ts:List fC)(s:Nat->Bool):List Nat:=(iR s).filter λb=>decide (b<ts.length)&&(pv ts b).any λx=> !s x
theorem SW{ts:List fC}{inn:Nat->Bool}(h:nI inn)(b:Nat):nI (kK ts b inn):=λy hy=>by
 simp only[kK,az] at hy
 exact PB h b y hy.1
end

section
def ML(x:Int):List Int->List Int
 | []=> [x]
 |y :: l=>if x<y then x :: y :: l else if x=y then y :: l else y :: ML x l
def DG:List Int->List Int
 | []=> []
 |x :: l=>ML x (DG l)
theorem NO(x z:Int)(l:List Int):z∈ML x l↔z=x\/z∈l:=by
 induction l with
 |nil=>simp[ML]
 |cons y l ih=>
  grind[ML]
theorem IZ(z:Int)(l:List Int):z∈DG l↔z∈l:=by
 induction l with
 |nil=>rfl
 |cons x l ih=>grind[DG,NO]
theorem PD(x:Int)(l:List Int)(h:l.Pairwise (· < ·)):(ML x l).Pairwise (· < ·):=by
 induction l with
 |nil=>simp[ML]
 |cons y l ih=>
  grind[List.pairwise_cons,ML,NO]
theorem LI(l:List Int):(DG l).Pairwise (· < ·):=by
 induction l with
 |nil=>trivial
 |cons x l ih=>exact PD x _ ih
theorem WD:∀(l l':List Int),l.Pairwise (· < ·)->l'.Pairwise (· < ·)->(∀x,x∈l↔x∈l')->l=l':=by
 intro l
 induction l with
 |nil=>
  intro l' _ _ h;cases l' with
  |nil=>rfl
  |cons y l'=>have:=(h y).2 (by simp);grind
 |cons x l ih=>
  intro l' h1 h2 h;cases l' with
  |nil=>grind
  |cons y l'=>
   rw[dX] at h1 h2;have e:x=y:=by
    rcases aH.1 ((h x).1 (by simp)) with e|hx
    .exact e
    .rcases aH.1 ((h y).2 (by simp)) with e|hy
     .omega
     grind
   grind
structure eW where
 kind:Int
 parent:Int
 blocks:List Int
abbrev nF:eW:=⟨0,0,[]⟩
abbrev nB(l:List eW)(n:Nat):Int:=(l.getD n nF).parent
abbrev lS(l:List eW)(n:Nat):List Int:=(l.getD n nF).blocks
def fX(l:List eW):Bool:=(List.range l.length).all λk=>decide (-1<=nB l k/\nB l k<k)
theorem gM(l:List eW):fX l=true↔∀k,k<l.length->-1<=nB l k/\nB l k<k:=by simp[fX]
def xM(l:List eW)(k:Nat):Nat->Nat->Bool
 |0,n=>n==k
 |f+1,n=>n==k||(decide (0<=nB l n)&&xM l k f (nB l n).toNat)
def nH(l:List eW)(k n:Nat):Bool:=xM l k n n
theorem jv{l:List eW}(hp:fX l=true)(k:Nat):∀(n f:Nat),n<l.length->n<=f->xM l k f n=xM l k n n:=by
 rw[gM] at hp
 intro n
 induction n using Nat.strongRecOn with
 |_ n ih=>
  intro f hn hf;cases f with
  |zero=>grind
  |succ f=>
   cases n with
   |zero=>
    grind[xM]
   |succ n=>
    unfold xM nB;grind
theorem yH{l:List eW}(hp:fX l=true)(k n:Nat)(hn:n<l.length):nH l k n=(n==k||(decide (0<=nB l n)&&nH l k (nB l n).toNat)):=by
 have h1:=(gM l).1 hp n hn
 unfold nH
 cases n with
 |zero=>
  unfold nB xM;grind
 |succ n=>
  simp only[xM];by_cases h2:0<=nB l (n+1)
  .rw[jv hp k (nB l (n+1)).toNat n (by omega) (by omega)]
  grind
theorem xA(l:List eW)(k:Nat):nH l k k=true:=by unfold nH xM;grind
theorem jw{l:List eW}(hp:fX l=true)(k:Nat):∀n,n<l.length->nH l k n=true->k<=n:=by
 intro n
 induction n using Nat.strongRecOn with
 |_ n ih=>
  intro hn h;have h1:=(gM l).1 hp n hn;rw[yH hp k n hn,bZ] at h
  grind
def rR(l:List eW)(k m:Nat):List Int:=lS l k++((List.range m).filter λn=>n != k&&nH l k n).flatMap (lS l)
def xH(l:List eW)(k:Int):List Int:=if 0<=k/\k<l.length/\fX l=true then DG (rR l k.toNat l.length) else []
theorem ik(l:List eW)(k:Nat)(hk:k<l.length)(x:Int):x∈rR l k l.length↔∃n,n<l.length/\nH l k n=true/\x∈lS l n:=by
 simp only[rR,bh,dj,bO,be,az,bne_iff_ne,ne_eq]
 grind[xA]
theorem il(l:List eW)(k:Nat)(hk:k<l.length)(hp:fX l=true)(x:Int):x∈xH l k↔∃n,n<l.length/\nH l k n=true/\x∈lS l n:=by
 simp_all[xH,IZ,ik]
def qU(l:List eW)(b:Nat):List Nat:=(List.range l.length).flatMap λk=>((lS l k).filter λx=>x==(b:Int)).map λ_=>k
def kO(l:List eW)(n:Nat):Bool:=(List.range n).all λb=>(qU l b).length==1
def nP(l:List eW)(b:Nat):Nat:=(qU l b).headD 0
def wA(l:List eW)(n:Nat):List Int:=(List.range n).map λ(b:Nat)=>(nP l b:Int)
def eqS(f g:Nat->Bool):Bool:=(List.range 200).all λk=>f k==g k
def wG(ts:List fC)(bs:List Int)(inn:Nat->Bool):Bool:=bs.any λb=>kK ts b.toNat inn b.toNat
def iS(ts:List fC)(s:Nat->Bool):Bool:=match iR s with
 | []=>true
 |b :: _=>eqS (kK ts b s) s
def xG(t:eW)(e:List Nat):Bool:=e.length==1&&t.blocks.contains ((e.headD 0:Nat):Int)
def iN(ts:List fC)(t:eW)(s:Nat->Bool):Bool:=
 if t.kind=3 then decide (1<(fF ts s).length)&&iS ts s
 else if t.kind=2 then xG t (fF ts s)&&iS ts s&& !wG ts t.blocks (vQ s ((fF ts s).headD 0))
 else if t.kind=4 then xG t (fF ts s)&& !wG ts t.blocks s
 else if t.kind=1 then !wG ts t.blocks s else false
def pR(n:Nat)(bs:List Int):Bool:=(List.range bs.length).all λi=>decide (0<=bs.getD i 0/\bs.getD i 0<n)&&(i==0||decide (bs.getD (i-1) 0<bs.getD i 0))
def mW(n:Nat)(l:List eW)(k:Nat):Bool:=
 let t:=l.getD k nF
 !(((k==0) != (t.kind==1))||((k==0) != (t.parent== -1))||(t.blocks.length==0)||(decide (0<k)&&((l.getD t.parent.toNat nF).kind==3)))&&pR n t.blocks
def qP(l:List eW)(k:Nat):Nat->Bool:=ofS (xH l k)
def fE(ts:List fC)(l:List eW):Bool:=
 gS ts&&decide (l.length<=200)&&fX l&&kO l ts.length&&(nP l 0==0)&&
  (List.range l.length).all λk=>mW ts.length l k&&iN ts (l.getD k nF) (qP l k)
end
end Go.Proofs.YtchdkjenhppleaaGreat
