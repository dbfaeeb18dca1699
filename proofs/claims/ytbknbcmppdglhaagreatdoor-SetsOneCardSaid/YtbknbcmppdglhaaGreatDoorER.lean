/-
 Words on memory that every text of this family uses:slices of ints that read as lists,worlds that only grow. No program in sight.
-/
import Derived.Test.YtbknbcmppdglhaaGreatDoorA0
import Derived.WalkKit
import Derived.ProofKit
import Derived.Below
import Derived.Lib.Hide
import Derived.Deep.QuietTactic
import Derived.BigQuiet
import Derived.Deep.Draws
import Derived.Laws.OwnMore
import Derived.Outline
import Derived.Test.YtbknbcmppdglhaaGreatDoorRows
namespace Go.Proofs.YtbknbcmppdglhaaGreatDoor
set_option linter.unusedSimpArgs false
set_option linter.unusedVariables false
set_option linter.unusedSectionVars false
set_option maxRecDepth 100000
set_option maxHeartbeats 40000000
section
open Go.RowKit
def I64(n:Int):Prop:=-9223372036854775808<=n/\n<=9223372036854775807
def iJ(w:World)(a:Option Addr)(n:Nat)(xs:List Int):Prop:=
 xs.length=n/\n<=17592186044416/\∀k,k<n->∃b o,a=some ⟨b,o,none⟩/\w.cell? ⟨b,o+k,none⟩=some (.int .i64 (xs.getD k 0))/\I64 (xs.getD k 0)
theorem fZ{w w':World}(h:Below w.heap.size w w'){p:Addr}{v:Value}(hc:w.cell? p=some v):w'.cell? p=some v:=
 (h.cell (bA w p hc)).trans hc
theorem iJ.ext{w w':World}{a:Option Addr}{n:Nat}{xs:List Int}(h:iJ w a n xs)(hb:Below w.heap.size w w'):iJ w' a n xs:=
 ⟨h.1,h.2.1,λk hk=>let ⟨b,o,e,hc,hi⟩:=h.2.2 k hk;⟨b,o,e,fZ hb hc,hi⟩⟩
theorem zX{B:Nat}{a w:World}(h:Below B a w)(n:Nat):Below B a (w.drewN n):=⟨h.os,h.tape,h.output,h.size,h.block⟩
theorem gB{a w:World}(h:Below a.heap.size a w)(n:Nat):Below a.heap.size a (w.drewN n):=zX h n
theorem cR{w:World}{g j:Nat}{cs:Array Value}{t:TypeId}{fr:Nat×Nat}{v:Value}(hg:w.heap[g]? =some (.cells cs t fr))(e:cs[j]? =some v):w.cell? ⟨g,j,none⟩=some v:=(aZ w g j cs t fr hg).trans e
theorem cK{w:World}{g:Nat}{cs:Array Value}{t:TypeId}{fr:Nat×Nat}{v:Value}(j:Nat)(hg:w.heap[g]? =some (.cells cs t fr))(e:cs[j]? =some v):w.cell? ⟨g,j,none⟩=some v:=cR hg e
theorem fK{w:World}{g:Nat}{cs:Array Value}{t:TypeId}(j:Nat)(hg:w.heap[g]? =some (.cells cs t)):w.frozen? ⟨g,j,none⟩=false:=cY _ _ _ _ _ hg
theorem cz{w:World}{g:Nat}{cs:Array Value}{t:TypeId}{v:Value}(j:Nat)(hg:w.heap[g]? =some (.cells cs t))(e:cs[j]? =some v):w.cell? ⟨g,j,none⟩=some v/\w.frozen? ⟨g,j,none⟩=false:=⟨cR hg e,fK j hg⟩
section
variable {w:World} {g:Nat} {cs:Array Value} {t:TypeId} {fr:Nat×Nat}
theorem TP{v0 v1:Value}{l:List Value}(hg:w.heap[g]? =some (.cells cs t fr))(e:cs.toList=v0 :: v1 :: l):w.cell? ⟨g,0,none⟩=some v0/\w.cell? ⟨g,1,none⟩=some v1:=by
 have h:cs=(v0 :: v1 :: l).toArray:=by rw[<-e]
 subst h
 exact⟨cR hg rfl,cR hg rfl⟩
theorem Bq(hg:w.heap[g]? =some (.cells cs t)):w.frozen? ⟨g,0,none⟩=false/\w.frozen? ⟨g,1,none⟩=false:=⟨fK 0 hg,fK 1 hg⟩
theorem TO{v0 v1 v2:Value}{l:List Value}(hg:w.heap[g]? =some (.cells cs t fr))(e:cs.toList=v0 :: v1 :: v2 :: l):w.cell? ⟨g,0,none⟩=some v0/\w.cell? ⟨g,1,none⟩=some v1/\w.cell? ⟨g,2,none⟩=some v2:=by
 have h:cs=(v0 :: v1 :: v2 :: l).toArray:=by rw[<-e]
 subst h
 exact⟨cR hg rfl,cR hg rfl,cR hg rfl⟩
theorem Cv(hg:w.heap[g]? =some (.cells cs t)):w.frozen? ⟨g,0,none⟩=false/\w.frozen? ⟨g,1,none⟩=false/\w.frozen? ⟨g,2,none⟩=false:=⟨fK 0 hg,fK 1 hg,fK 2 hg⟩
theorem Dg{v0 v1 v2 v3:Value}{l:List Value}(hg:w.heap[g]? =some (.cells cs t fr))(e:cs.toList=v0 :: v1 :: v2 :: v3 :: l):w.cell? ⟨g,0,none⟩=some v0/\w.cell? ⟨g,1,none⟩=some v1/\w.cell? ⟨g,2,none⟩=some v2/\w.cell? ⟨g,3,none⟩=some v3:=by
 have h:cs=(v0 :: v1 :: v2 :: v3 :: l).toArray:=by rw[<-e]
 subst h
 exact⟨cR hg rfl,cR hg rfl,cR hg rfl,cR hg rfl⟩
theorem YX{v0 v1 v2 v3 v4:Value}{l:List Value}(hg:w.heap[g]? =some (.cells cs t fr))(e:cs.toList=v0 :: v1 :: v2 :: v3 :: v4 :: l):w.cell? ⟨g,0,none⟩=some v0/\w.cell? ⟨g,1,none⟩=some v1/\w.cell? ⟨g,2,none⟩=some v2/\w.cell? ⟨g,3,none⟩=some v3/\w.cell? ⟨g,4,none⟩=some v4:=by
 have h:cs=(v0 :: v1 :: v2 :: v3 :: v4 :: l).toArray:=by rw[<-e]
 subst h
 exact⟨cR hg rfl,cR hg rfl,cR hg rfl,cR hg rfl,cR hg rfl⟩
theorem sg{v0 v1 v2 v3 v4 v5 v6:Value}{l:List Value}(hg:w.heap[g]? =some (.cells cs t fr))(e:cs.toList=v0 :: v1 :: v2 :: v3 :: v4 :: v5 :: v6 :: l):w.cell? ⟨g,0,none⟩=some v0/\w.cell? ⟨g,1,none⟩=some v1/\w.cell? ⟨g,2,none⟩=some v2/\w.cell? ⟨g,3,none⟩=some v3/\w.cell? ⟨g,4,none⟩=some v4/\w.cell? ⟨g,5,none⟩=some v5/\w.cell? ⟨g,6,none⟩=some v6:=by
 have h:cs=(v0 :: v1 :: v2 :: v3 :: v4 :: v5 :: v6 :: l).toArray:=by rw[<-e]
 subst h
 exact⟨cR hg rfl,cR hg rfl,cR hg rfl,cR hg rfl,cR hg rfl,cR hg rfl,cR hg rfl⟩
theorem zd(hg:w.heap[g]? =some (.cells cs t)):w.frozen? ⟨g,0,none⟩=false/\w.frozen? ⟨g,1,none⟩=false/\w.frozen? ⟨g,2,none⟩=false/\w.frozen? ⟨g,3,none⟩=false/\w.frozen? ⟨g,4,none⟩=false/\w.frozen? ⟨g,5,none⟩=false/\w.frozen? ⟨g,6,none⟩=false:=⟨fK 0 hg,fK 1 hg,fK 2 hg,fK 3 hg,fK 4 hg,fK 5 hg,fK 6 hg⟩
theorem Cx{v0 v1 v2 v3 v4 v5 v6 v7:Value}{l:List Value}(hg:w.heap[g]? =some (.cells cs t fr))(e:cs.toList=v0 :: v1 :: v2 :: v3 :: v4 :: v5 :: v6 :: v7 :: l):w.cell? ⟨g,0,none⟩=some v0/\w.cell? ⟨g,1,none⟩=some v1/\w.cell? ⟨g,2,none⟩=some v2/\w.cell? ⟨g,3,none⟩=some v3/\w.cell? ⟨g,4,none⟩=some v4/\w.cell? ⟨g,5,none⟩=some v5/\w.cell? ⟨g,6,none⟩=some v6/\w.cell? ⟨g,7,none⟩=some v7:=by
 have h:cs=(v0 :: v1 :: v2 :: v3 :: v4 :: v5 :: v6 :: v7 :: l).toArray:=by rw[<-e]
 subst h
 exact⟨cR hg rfl,cR hg rfl,cR hg rfl,cR hg rfl,cR hg rfl,cR hg rfl,cR hg rfl,cR hg rfl⟩
end
theorem fC{a b c:World}(h:Below a.heap.size a b)(k:Below b.heap.size b c):Below a.heap.size a c:=h.trans (k.mono h.size)
theorem kj{W w1:World}(hb:Below W.heap.size W w1):(∀b o,b<W.heap.size->w1.cell? ⟨b,o,none⟩=W.cell? ⟨b,o,none⟩)/\(∀b o,b<W.heap.size->w1.frozen? ⟨b,o,none⟩=W.frozen? ⟨b,o,none⟩):=
 ⟨λb o h=>hb.cell (p:=⟨b,o,none⟩) h,λb o h=>hb.frozen (p:=⟨b,o,none⟩) h⟩
theorem zo{k:IntKind}{a b:Int}(h:a=b):Ending.returned (.int k a)=.returned (.int k b):=by rw[h]
theorem yT{a b:Bool}(h:a=b):Ending.returned (.bool a)=.returned (.bool b):=by rw[h]
def idx:List Int->Int->Int
 | [],_=>-1
 |y :: l,x=>if y=x then 0 else if idx l x<0 then -1 else idx l x+1
theorem ZD(l:List Int)(x:Int): -1<=idx l x/\idx l x<l.length:=by
 induction l with
 |nil=>simp[idx]
 |cons y l ih=>
  simp only[idx,bk]
  split
  .omega
  .split<;>omega
theorem vJ(l:List Int)(x:Int):idx l x<0↔x∉l:=by
 induction l with
 |nil=>simp[idx]
 |cons y l ih=>
  have:=ZD l x;simp only[idx,aS,not_or];by_cases h:y=x
  .simp[h]
  .rw[az h];have h':¬x=y:=λe=>h e.symm
   split
   .simp_all
   .rename_i hn
    have:x∈l:=by
     by_cases hx:x∈l
     .exact hx
     .exact absurd (ih.2 hx) hn
    simp[this];omega
theorem qh(l:List Int)(x:Int)(k:Nat)(hk:k<l.length)(hx:l.getD k 0=x)(hno:∀j,j<k->l.getD j 0≠x):idx l x=k:=by
 induction l generalizing k with
 |nil=>simp at hk
 |cons y l ih=>
  cases k with
  |zero=>simp at hx;simp[idx,hx]
  |succ k=>
   have h0:=hno 0 (by omega);simp at h0;have:=ih k (by simpa using hk) (by simpa using hx) (λj hj=>by have:=hno (j+1) (by omega);simpa using this);simp only[idx,az h0,this];rw[az (by omega)];omega
theorem ww(l:List Int)(x:Int)(hno:∀j,j<l.length->l.getD j 0≠x):idx l x= -1:=by
 have h:=ZD l x
 have:=(vJ l x).2 (λhx=>by
  obtain⟨j,hj,e⟩:=List.getElem_of_mem hx
  exact hno j hj (by simp[List.getD,hj,e]))
 omega
end

section
open Go.RowKit
def pF{α:Type}(p:α->Bool):List α->Int
 | []=>-1
 |y :: l=>if p y then 0 else if pF p l<0 then -1 else pF p l+1
theorem CU{α:Type}(p:α->Bool)(l:List α): -1<=pF p l/\pF p l<l.length:=by
 induction l with
 |nil=>simp[pF]
 |cons y l ih=>
  simp only[pF,bk]
  split
  .omega
  .split<;>omega
theorem xO{α:Type}(p:α->Bool)(l:List α)(k:Nat)(x:α)(hx:l[k]? =some x)(hp:p x=true)(hno:∀j y,j<k->l[j]? =some y->p y=false):pF p l=k:=by
 induction l generalizing k with
 |nil=>simp at hx
 |cons y l ih=>
  cases k with
  |zero=>simp at hx;subst hx;simp[pF,hp]
  |succ k=>
   have h0:=hno 0 y (by omega) rfl;have:=ih k (by simpa using hx) (λj z hj hz=>hno (j+1) z (by omega) (by simpa using hz));simp only[pF,h0,this];simp;omega
theorem AT{α:Type}(p:α->Bool)(l:List α)(hno:∀y∈l,p y=false):pF p l= -1:=by
 induction l with
 |nil=>rfl
 |cons y l ih=>simp[pF,hno y (by simp),ih (λz hz=>hno z (by simp[hz]))]
theorem xd{α:Type}(p:α->Bool)(l:List α):0<=pF p l↔l.any p=true:=by
 induction l with
 |nil=>simp[pF]
 |cons y l ih=>
  have hg:=CU p l;have e:pF p (y :: l)=(if p y then 0 else if pF p l<0 then -1 else pF p l+1):=rfl;rw[e,List.any_cons,bW,<-ih];by_cases hp:p y=true
  .simp[hp]
  .rw[az hp]
   split
   .constructor
    .intro h;omega
    .rintro(h|h)
     .exact absurd h hp
     .omega
   .constructor
    .intro h;exact .inr (by omega)
    .intro h;omega
theorem DJ{α:Type}(p:α->Bool)(l:List α):decide (0<=pF p l)=l.any p:=by
 rw[cS,aN]
 exact xd p l
theorem fD(w:World)(o:Obj):Below w.heap.size w (w.alloc o):=(ag _ w).alloc (aj _) o
theorem vU(F:Nat)(caps:Array Value)(eF:∀args w,(callFunc F args).run Tryz.prog w=.ok (.enter F args) w)(p:Int->Bool)(a:Option Addr)(n c:Nat)(xs:List Int)(w:World)
  (hp:∀(x:Int) (W:World),x∈xs->Below w.heap.size w W->Calls Tryz.prog F (#[.int .i64 x]++caps) W λe W'=>e=.returned (.bool (p x))/\Below W.heap.size W W') (h:iJ w a n xs):
  Calls Tryz.prog 234 #[.slice a n c,.func (.func F) #[] caps] w λe w'=>e=.returned (.int .i64 (pF p xs))/\Below w.heap.size w w':=by
 have HL:=ac h.1
 have hn:=h.2.1
 have H:=ac h
 have HP:=ac hp
 clear h hp
 go_enter Tryz.func234,Tryz.ntmps234
 go_wp2
 go_loopw [5,8] (λ_ i wr=>∃(k:Nat),k<=n/\i=.int .i64 k/\Hid (∀j y,j<k->xs[j]? =some y->p y=false)/\Hid (Below w.heap.size w wr)) (λ_ i _=>n-(intOf i).toNat)
 case atStart=>exact⟨0,by omega,rfl,λj y hj=>absurd hj (by omega),ag _ _⟩
 case round=>
  obtain⟨k,hk,rfl,HR,HB⟩:=hrel;by_cases hlt:k<n
  .obtain⟨b,o,rfl,hcell,hw1,hw2⟩:=(H.out.ext HB.out).2.2 k hlt;have hgk:xs[k]? =some (xs.getD k 0):=by
    have hk':k<xs.length:=by rw[HL.out];exact hlt
    simp[ak,hk']
   have HG:=ac hgk;have HM:=ac (aK hgk);clear hgk;generalize xs.getD k 0=r at *;by_cases hy:p r=true
   .have HE:Hid (pF p xs=k):=xO p xs k r HG.out hy HR.out;go_wp2;refine(HP.out r wr HM.out HB.out).mono ?_;rintro e w' ⟨rfl,hb'⟩;have HB':=ac (fC HB.out hb');clear hb';rw[hy];go_wp2
    go_ret
    exact⟨by rw[HE.out];rfl,HB'.out⟩
   .have hy':p r=false:=by simpa using hy
    have HE:Hid (∀j z,j<k+1->xs[j]? =some z->p z=false):=λj z hj hz=>by
     by_cases e:j=k
     .subst e;rw[HG.out] at hz;injection hz with hz;subst hz;exact hy'
     .exact HR.out j z (by omega) hz
    go_wp2;refine(HP.out r wr HM.out HB.out).mono ?_;rintro e w' ⟨rfl,hb'⟩;have HB':=ac (fC HB.out hb');clear hb';rw[hy'];go_wp2
    go_roundw
    case rel=>exact⟨k+1,by omega,by go_num,HE,HB'⟩
    case measure=>simp[intOf];omega
  .obtain rfl:k=n:=by omega
   have HE:Hid (pF p xs= -1):=AT p xs (λz hz=>by
    obtain⟨j,hj,e⟩:=bj.1 hz
    exact HR.out j z (by rw[HL.out] at hj;exact hj) (by rw[ah hj,e]))
   go_wp2
   go_ret
   exact⟨by rw[HE.out];rfl,HB.out⟩
theorem nZ(F:Nat)(caps:Array Value)(eF:∀args w,(callFunc F args).run Tryz.prog w=.ok (.enter F args) w)(p:Int->Bool)(a:Option Addr)(n c:Nat)(xs:List Int)(w:World)
  (hp:∀(x:Int) (W:World),x∈xs->Below w.heap.size w W->Calls Tryz.prog F (#[.int .i64 x]++caps) W λe W'=>e=.returned (.bool (p x))/\Below W.heap.size W W') (h:iJ w a n xs):
  Calls Tryz.prog 216 #[.slice a n c,.func (.func F) #[] caps] w λe w'=>e=.returned (.bool (xs.any p))/\Below w.heap.size w w':=by
 have HA:=ac (DJ p xs)
 have hg:=CU p xs
 have HP:=ac hp
 have H:=ac h
 clear hp h
 go_enter Tryz.func216,Tryz.ntmps216
 go_wp2_with (go_at_call 234;refine(vU F caps eF p a n c xs w HP.out H.out).mono ?_;rintro e w' ⟨rfl,hb'⟩;have HB':=ac hb';clear hb')
 go_ret
 exact⟨by rw[<-HA.out];rfl,HB'.out⟩
end

section
structure fS where
 kind:Int
 a:Int
 t0:Int
 t1:Int
abbrev nB:fS:=⟨0,0,0,0⟩
def qG(n:Int):Bool:=decide (1<=n/\n<=200)
def mU(t:fS):Bool:=
 if t.kind=1 then decide (t.a=0/\t.t1=0) else if t.kind=2 then qG t.a
 else if t.kind=3 then (decide (t.a=0)||qG t.a)&&decide (t.t0=0/\t.t1=0) else decide (t.kind=4/\t.a=0/\t.t0=0/\t.t1=0)
def toD(t:fS):List Int:=if mU t then (if t.kind=1 then [t.t0] else if t.kind=2 then [t.t0,t.t1] else []) else []
theorem xC(t:fS):(toD t).length<=2:=by unfold toD;repeat (first|split|simp)
def nx(ts:List fS)(k:Nat):List Nat:=(toD (ts.getD k nB)).map Int.toNat
def pv(ts:List fS)(y:Nat):List Nat:=(List.range ts.length).flatMap λk=>((nx ts k).filter (λx=>x==y)).map λ_=>k
theorem AE(ts:List fS)(k:Nat)(h:ts.length<=k):nx ts k= []:=by
 have:ts.getD k nB=nB:=by rw[ak,di h];rfl
 rw[nx,this];rfl
theorem vS(ts:List fS)(y k:Nat):k∈pv ts y↔y∈nx ts k:=by
 simp only[pv,b5,aQ,a8,bI,db]
 constructor
 .rintro⟨j,_,x,⟨h,rfl⟩,rfl⟩;exact h
 .intro h;refine⟨k,?_,y,⟨h,rfl⟩,rfl⟩;apply bE;intro hk;rw[AE ts k (by omega)] at h;cases h
def tH(ts:List fS):Bool:=decide (1<=ts.length/\ts.length<=200)&&ts.all λt=>mU t&&(toD t).all λx=>decide (1<=x/\x<ts.length)
theorem lO(ts:List fS):tH ts=true↔(1<=ts.length/\ts.length<=200)/\∀t∈ts,mU t=true/\∀x∈toD t,1<=x/\x<ts.length:=by
 simp[tH]
theorem AF{ts:List fS}(h:tH ts=true){k y:Nat}(hy:y∈nx ts k):1<=y/\y<ts.length:=by
 obtain⟨_,h⟩:=(lO ts).1 h
 by_cases hk:k<ts.length
 .have hm:ts.getD k nB∈ts:=by rw[ak,ah hk];exact bJ _
  rw[nx,a8] at hy;obtain⟨x,hx,rfl⟩:=hy;have:=(h _ hm).2 x hx;omega
 .rw[AE ts k (by omega)] at hy;cases hy
inductive Reach (next:Nat->List Nat) (inn:Nat->Bool) (b:Nat):Nat->Prop
 |one {y:Nat}:y∈next b->inn y=true->Reach next inn b y
 |step {x y:Nat}:Reach next inn b x->y∈next x->inn y=true->Reach next inn b y
theorem Reach.inn{next:Nat->List Nat}{inn:Nat->Bool}{b y:Nat}(h:Reach next inn b y):inn y=true:=by cases h<;>assumption
theorem Reach.trans{next:Nat->List Nat}{inn:Nat->Bool}{a b c:Nat}(h:Reach next inn a b)(k:Reach next inn b c):Reach next inn a c:=by
 induction k with
 |one hy hi=>exact .step h hy hi
 |step _ hy hi ih=>exact .step ih hy hi
theorem Reach.mono{next:Nat->List Nat}{inn inn':Nat->Bool}(hs:∀y,inn y=true->inn' y=true){b y:Nat}(h:Reach next inn b y):Reach next inn' b y:=by
 induction h with
 |one hy hi=>exact .one hy (hs _ hi)
 |step _ hy hi ih=>exact .step ih hy (hs _ hi)
theorem Reach.rev{next prev:Nat->List Nat}(hp:∀x y,y∈next x->x∈prev y){inn:Nat->Bool}{b y:Nat}(hb:inn b=true)(h:Reach next inn b y):Reach prev inn y b:=by
 induction h with
 |one hy hi=>exact .one (hp _ _ hy) hb
 | @step x y hx hy hi ih=>exact(Reach.one (hp _ _ hy) hx.inn).trans ih
structure tV(next:Nat->List Nat)(inn:Nat->Bool)(b:Nat)(todo:List Nat)(s:Nat->Bool)(x:Option (Nat×Nat)):Prop where
 sound:∀y,s y=true->Reach next inn b y
 src:∀z∈todo,z=b\/s z=true
 cur:∀z j,x=some (z,j)->z=b\/s z=true
 closed:∀z,(z=b\/s z=true)->z∈todo\/(∃j,x=some (z,j)/\∀y∈(next z).take j,inn y=true->s y=true)\/∀y∈next z,inn y=true->s y=true
section
variable {next:Nat->List Nat} {inn:Nat->Bool} {b:Nat} {todo:List Nat} {s:Nat->Bool}
theorem tV.start(next:Nat->List Nat)(inn:Nat->Bool)(b:Nat):tV next inn b [b] (λ_=>false) none where
 sound:=λy h=>by cases h
 src:=λz h=>by simp at h;exact .inl h
 cur:=λz j h=>by cases h
 closed:=λz h=>h.elim (λe=>.inl (by simp[e])) (λh=>by cases h)
theorem tV.take(h:tV next inn b todo s none)(x:Nat)(todo':List Nat)(hm:∀z,z∈todo↔z=x\/z∈todo'):tV next inn b todo' s (some (x,0)) where
 sound:=h.sound
 src:=λz hz=>h.src z ((hm z).2 (.inr hz))
 cur:=λz j e=>by cases e;exact h.src x ((hm x).2 (.inl rfl))
 closed:=λz hz=>by
  rcases h.closed z hz with h1|⟨j,h1,_⟩|h1
  .rcases(hm z).1 h1 with rfl|h2
   .exact .inr (.inl ⟨0,rfl,λy hy=>by simp at hy⟩)
   .exact .inl h2
  .cases h1
  .exact .inr (.inr h1)
theorem Bc{l:List Nat}{j:Nat}(hj:j<l.length){y:Nat}(hy:y∈l.take (j+1)):y∈l.take j\/y=l.getD j 0:=by
 rw[bL,ah hj,ax] at hy
 rcases hy with h|h
 .exact .inl h
 .exact .inr (by simpa[ak,hj] using h)
theorem tV.skip{x j:Nat}(h:tV next inn b todo s (some (x,j)))(hj:j<(next x).length)(hn:inn ((next x).getD j 0)=true->s ((next x).getD j 0)=true):tV next inn b todo s (some (x,j+1)) where
 sound:=h.sound
 src:=h.src
 cur:=λz k e=>by cases e;exact h.cur x j rfl
 closed:=λz hz=>by
  rcases h.closed z hz with h1|⟨k,h1,h2⟩|h1
  .exact .inl h1
  .cases h1;refine .inr (.inl ⟨j+1,rfl,λy hy hi=>?_⟩);rcases Bc hj hy with h3|rfl
   .exact h2 y h3 hi
   .exact hn hi
  .exact .inr (.inr h1)
theorem tV.push{x j:Nat}(h:tV next inn b todo s (some (x,j)))(hj:j<(next x).length)(hi:inn ((next x).getD j 0)=true)(todo':List Nat)(hm:∀z,z∈todo'↔z=(next x).getD j 0\/z∈todo)(s':Nat->Bool)(hs:∀z,s' z=true↔z=(next x).getD j 0\/s z=true):
  tV next inn b todo' s' (some (x,j+1)) where
 sound:=λy hy=>by
  rcases(hs y).1 hy with rfl|h1
  .have hx:(next x).getD j 0∈next x:=by rw[ak,ah hj];exact bJ _
   rcases h.cur x j rfl with rfl|h2
   .exact .one hx hi
   .exact .step (h.sound x h2) hx hi
  .exact h.sound y h1
 src:=λz hz=>by
  rcases(hm z).1 hz with rfl|h1
  .exact .inr ((hs _).2 (.inl rfl))
  .exact(h.src z h1).imp id (λh2=>(hs z).2 (.inr h2))
 cur:=λz k e=>by cases e;exact(h.cur x j rfl).imp id (λh2=>(hs x).2 (.inr h2))
 closed:=λz hz=>by
  have hz':z=(next x).getD j 0\/(z=b\/s z=true):=by
   rcases hz with rfl|h1
   .exact .inr (.inl rfl)
   .exact((hs z).1 h1).imp id .inr
  rcases hz' with rfl|hz'
  .exact .inl ((hm _).2 (.inl rfl))
  .rcases h.closed z hz' with h1|⟨k,h1,h2⟩|h1
   .exact .inl ((hm z).2 (.inr h1))
   .cases h1;refine .inr (.inl ⟨j+1,rfl,λy hy hi=>?_⟩);rcases Bc hj hy with h3|rfl
    .exact(hs y).2 (.inr (h2 y h3 hi))
    .exact(hs _).2 (.inl rfl)
   .exact .inr (.inr λy hy hi=>(hs y).2 (.inr (h1 y hy hi)))
theorem tV.fin{x j:Nat}(h:tV next inn b todo s (some (x,j)))(hj:(next x).length<=j):tV next inn b todo s none where
 sound:=h.sound
 src:=h.src
 cur:=λz k e=>by cases e
 closed:=λz hz=>by
  rcases h.closed z hz with h1|⟨k,h1,h2⟩|h1
  .exact .inl h1
  .cases h1;rw[bC hj] at h2;exact .inr (.inr h2)
  .exact .inr (.inr h1)
theorem tV.done(h:tV next inn b [] s none)(y:Nat):s y=true↔Reach next inn b y:=by
 refine⟨h.sound y,λhr=>?_⟩
 have hc:∀z,(z=b\/s z=true)->∀y∈next z,inn y=true->s y=true:=λz hz=>by
  rcases h.closed z hz with h1|⟨k,h1,_⟩|h1
  .cases h1
  .cases h1
  .exact h1
 induction hr with
 |one hy hi=>exact hc b (.inl rfl) _ hy hi
 |step _ hy hi ih=>exact hc _ (.inr ih) _ hy hi
end
def JE(inn:Nat->Bool)(ts:List Nat×List Nat)(y:Nat):List Nat×List Nat:=if inn y&& !ts.2.contains y then (y :: ts.1,y :: ts.2) else ts
def dfs(next:Nat->List Nat)(inn:Nat->Bool):Nat->List Nat->List Nat->List Nat
 |0,_,seen=>seen
 |_+1,[],seen=>seen
 |f+1,x :: todo,seen=>dfs next inn f ((next x).foldl (JE inn) (todo,seen)).1 ((next x).foldl (JE inn) (todo,seen)).2
def si(next:Nat->List Nat)(inn:Nat->Bool)(b:Nat):List Nat:=if inn b then dfs next inn 202 [b] [] else []
def iZ(next:Nat->List Nat)(inn:Nat->Bool)(b:Nat):Nat->Bool:=λy=>(si next inn b).contains y
def iV(s:Nat->Bool):Prop:=∀y,s y=true->y<200
theorem xh{next:Nat->List Nat}{inn:Nat->Bool}{b x:Nat}(hc:iV inn):∀(m j:Nat) (todo seen:List Nat),(next x).length-j=m->tV next inn b todo (λy=>seen.contains y) (some (x,j))->seen.Nodup->(∀y∈seen,y<200)->
  ∃todo' seen',((next x).drop j).foldl (JE inn) (todo,seen)=(todo',seen')/\tV next inn b todo' (λy=>seen'.contains y) none/\seen'.Nodup/\(∀y∈seen',y<200)/\todo'.length+seen.length=todo.length+seen'.length:=by
 intro m
 induction m with
 |zero=>
  intro j todo seen hm h hn hl;rw[dx (by omega)];exact⟨todo,seen,rfl,h.fin (by omega),hn,hl,by omega⟩
 |succ m ih=>
  intro j todo seen hm h hn hl;have hj:j<(next x).length:=by omega
  have hg:(next x).getD j 0=(next x)[j]:=by simp[ak,hj]
  rw[cn hj,ed,<-hg];by_cases hp:(inn ((next x).getD j 0)&& !seen.contains ((next x).getD j 0))=true
  .have e:JE inn (todo,seen) ((next x).getD j 0)=((next x).getD j 0 :: todo,(next x).getD j 0 :: seen):=by unfold JE;rw[aM hp]
   rw[e];simp only[aB,dm] at hp;obtain⟨hi,hs⟩:=hp;have hns:(next x).getD j 0∉seen:=by simpa using hs
   obtain⟨t',s',e1,e2,e3,e4,e5⟩:=ih (j+1) ((next x).getD j 0 :: todo) ((next x).getD j 0 :: seen) (by omega)
    (h.push hj hi _ (λz=>by simp) _ (λz=>by simp)) (dC.2 ⟨hns,hn⟩) (λy hy=>(aS.1 hy).elim (λe=>e▸hc _ hi) (hl y))
   exact⟨t',s',e1,e2,e3,e4,by simp at e5;omega⟩
  .have e:JE inn (todo,seen) ((next x).getD j 0)=(todo,seen):=by unfold JE;rw[az hp]
   rw[e]
   exact ih (j+1) todo seen (by omega) (h.skip hj (λhi=>by
    cases e2:seen.contains ((next x).getD j 0) with
    |true=>rfl
    |false=>exact absurd (by rw[hi,e2];rfl) hp)) hn hl
theorem AN:∀(N:Nat) (l:List Nat),l.Nodup->(∀y∈l,y<N)->l.length<=N:=by
 intro N
 induction N with
 |zero=>
  intro l _ h;cases l with
  |nil=>simp
  |cons x l=>have:=h x (by simp);omega
 |succ N ih=>
  intro l hn h
  have h1:=ih (l.filter λy=>y != N) (hn.filter _) (λy hy=>by
   simp at hy;have:=h y hy.1
   omega)
  have h2:l.length<=(l.filter λy=>y != N).length+1:=by
   clear ih h h1
   induction l with
   |nil=>simp
   |cons x l ih=>
    rw[dC] at hn;by_cases e:x=N
    .subst e;have:l.filter (λy=>y != x)=l:=by
      rw[eS];intro y hy;have:y≠x:=λe=>hn.1 (e▸hy);simpa using this
     simp[this]
    .have:=ih hn.2;simp[e];omega
  omega
theorem Am{next:Nat->List Nat}{inn:Nat->Bool}{b:Nat}(hc:iV inn):∀(f:Nat) (todo seen:List Nat),tV next inn b todo (λy=>seen.contains y) none->seen.Nodup->(∀y∈seen,y<200)->todo.length+200<=f+seen.length->
  ∀y,(dfs next inn f todo seen).contains y=true↔Reach next inn b y:=by
 intro f
 induction f with
 |zero=>
  intro todo seen h hn hl hf;have:=AN 200 seen hn hl;cases todo with
  |nil=>exact λy=>h.done y
  |cons x todo=>simp at hf;omega
 |succ f ih=>
  intro todo seen h hn hl hf;cases todo with
  |nil=>exact λy=>h.done y
  |cons x todo=>
   obtain⟨t',s',e1,e2,e3,e4,e5⟩:=xh (next:=next) (inn:=inn) (b:=b) (x:=x) hc _ 0 todo seen rfl (h.take x todo (λz=>by simp)) hn hl;rw[aw] at e1;simp only[dfs,e1];exact ih t' s' e2 e3 e4 (by simp at hf;omega)
theorem pI{next:Nat->List Nat}{inn:Nat->Bool}(hc:iV inn)(b y:Nat):iZ next inn b y=true↔inn b=true/\Reach next inn b y:=by
 unfold iZ si
 by_cases hb:inn b=true
 .rw[aM hb];rw[Am hc 202 [b] [] (by simpa using tV.start next inn b) (by simp) (by simp) (by simp)];simp[hb]
 .rw[az hb];simp[hb]
theorem WM{next:Nat->List Nat}{inn:Nat->Bool}(hc:iV inn)(b:Nat):iV (iZ next inn b):=λy h=>hc y ((pI hc b y).1 h).2.inn
theorem tp{next:Nat->List Nat}{inn:Nat->Bool}(hc:iV inn){b:Nat}(hb:inn b=true){s:Nat->Bool}(h:tV next inn b [] s none):s=iZ next inn b:=by
 funext y
 rw[cS,h.done y,pI hc]
 simp[hb]
theorem tq{next:Nat->List Nat}{inn:Nat->Bool}{b:Nat}(hb:inn b=false):iZ next inn b=λ_=>false:=by
 funext y
 simp[iZ,si,hb]
def fM(n:Nat):Nat->Bool:=λk=>decide (k<n)
def iU(s:Nat->Bool)(b:Nat):Nat->Bool:=λk=>k != b&&s k
def ofS(l:List Int):Nat->Bool:=λj=>decide (j<200)&&l.contains (j:Int)
def gQ(s:Nat->Bool):List Nat:=(List.range 200).filter s
def fN(l:List Nat):List Int:=l.map λ(k:Nat)=>(k:Int)
theorem nE{n:Nat}(h:n<=200):iV (fM n):=λy hy=>by simp[fM] at hy;omega
theorem uJ{s:Nat->Bool}(h:iV s)(b:Nat):iV (iU s b):=λy hy=>by simp[iU] at hy;exact h y hy.2
theorem VA(l:List Int):iV (ofS l):=λy hy=>by simp[ofS] at hy;exact hy.1
theorem kV{s:Nat->Bool}(h:iV s)(y:Nat):y∈gQ s↔s y=true:=by
 simp[gQ]
 exact λh1=>h y h1
def jK(ts:List fS):Bool:=tH ts&&(List.range ts.length).all λk=>k==0||iZ (nx ts) (fM ts.length) 0 k
def iH(ts:List fS)(b:Nat)(inn:Nat->Bool):Nat->Bool:=λk=>iZ (nx ts) inn b k&&iZ (pv ts) inn b k
def fV(ts:List fS)(s:Nat->Bool):List Nat:=(gQ s).filter λb=>decide (b<ts.length)&&(pv ts b).any λx=> !s x
theorem xN{ts:List fS}{inn:Nat->Bool}(h:iV inn)(b:Nat):iV (iH ts b inn):=λy hy=>by
 simp only[iH,aB] at hy
 exact WM h b y hy.1
theorem WH{ts:List fS}{inn:Nat->Bool}{b y:Nat}(hb:inn b=true)(hy:inn y=true):Reach (pv ts) inn b y↔Reach (nx ts) inn y b:=
 ⟨λh=>h.rev (λx y h=>(vS ts x y).1 h) hb,λh=>h.rev (λx y h=>(vS ts y x).2 h) hy⟩
theorem mS{ts:List fS}{inn:Nat->Bool}(hc:iV inn)(b y:Nat):iH ts b inn y=true↔inn b=true/\Reach (nx ts) inn b y/\Reach (nx ts) inn y b:=by
 simp only[iH,aB,pI hc]
 constructor
 .rintro⟨⟨h1,h2⟩,_,h3⟩;exact⟨h1,h2,(WH h1 h2.inn).1 h3⟩
 .rintro⟨h1,h2,h3⟩;exact⟨⟨h1,h2⟩,h1,(WH h1 h2.inn).2 h3⟩
end

section
def TM(x:Int):List Int->List Int
 | []=> [x]
 |y :: l=>if x<y then x :: y :: l else if x=y then y :: l else y :: TM x l
def JC:List Int->List Int
 | []=> []
 |x :: l=>TM x (JC l)
theorem VD(x z:Int)(l:List Int):z∈TM x l↔z=x\/z∈l:=by
 induction l with
 |nil=>simp[TM]
 |cons y l ih=>
  grind[TM]
theorem OT(z:Int)(l:List Int):z∈JC l↔z∈l:=by
 induction l with
 |nil=>rfl
 |cons x l ih=>grind[JC,VD]
theorem WS(x:Int)(l:List Int)(h:l.Pairwise (· < ·)):(TM x l).Pairwise (· < ·):=by
 induction l with
 |nil=>simp[TM]
 |cons y l ih=>
  grind[List.pairwise_cons,TM,VD]
theorem RS(l:List Int):(JC l).Pairwise (· < ·):=by
 induction l with
 |nil=>trivial
 |cons x l ih=>exact WS x _ ih
theorem nk:∀(l l':List Int),l.Pairwise (· < ·)->l'.Pairwise (· < ·)->(∀x,x∈l↔x∈l')->l=l':=by
 intro l
 induction l with
 |nil=>
  intro l' _ _ h;cases l' with
  |nil=>rfl
  |cons y l'=>have:=(h y).2 (by simp);grind
 |cons x l ih=>
  intro l' h1 h2 h;cases l' with
  |nil=>grind
  |cons y l'=>
   rw[dW] at h1 h2;have e:x=y:=by
    rcases aS.1 ((h x).1 (by simp)) with e|hx
    .exact e
    .rcases aS.1 ((h y).2 (by simp)) with e|hy
     .omega
     grind
   grind
structure fT where
 kind:Int
 parent:Int
 blocks:List Int
abbrev oG:fT:=⟨0,0,[]⟩
abbrev oN(l:List fT)(n:Nat):Int:=(l.getD n oG).parent
abbrev nQ(l:List fT)(n:Nat):List Int:=(l.getD n oG).blocks
def jE(l:List fT):Bool:=(List.range l.length).all λk=>decide (-1<=oN l k/\oN l k<k)
theorem jQ(l:List fT):jE l=true↔∀k,k<l.length->-1<=oN l k/\oN l k<k:=by simp[jE]
def CM(l:List fT)(k:Nat):Nat->Nat->Bool
 |0,n=>n==k
 |f+1,n=>n==k||(decide (0<=oN l n)&&CM l k f (oN l n).toNat)
def pQ(l:List fT)(k n:Nat):Bool:=CM l k n n
theorem xv{l:List fT}(hp:jE l=true)(k:Nat):∀(n f:Nat),n<l.length->n<=f->CM l k f n=CM l k n n:=by
 rw[jQ] at hp
 intro n
 induction n using Nat.strongRecOn with
 |_ n ih=>
  intro f hn hf;cases f with
  |zero=>grind
  |succ f=>
   cases n with
   |zero=>
    grind[CM]
   |succ n=>
    unfold CM oN;grind
theorem wI{l:List fT}(hp:jE l=true)(k n:Nat)(hn:n<l.length):pQ l k n=(n==k||(decide (0<=oN l n)&&pQ l k (oN l n).toNat)):=by
 have h1:=(jQ l).1 hp n hn
 unfold pQ
 cases n with
 |zero=>
  unfold oN CM;grind
 |succ n=>
  simp only[CM];by_cases h2:0<=oN l (n+1)
  .rw[xv hp k (oN l (n+1)).toNat n (by omega) (by omega)]
  grind
theorem xP(l:List fT)(k:Nat):pQ l k k=true:=by unfold pQ CM;grind
theorem KK{l:List fT}(hp:jE l=true)(k:Nat):∀n,n<l.length->pQ l k n=true->k<=n:=by
 intro n
 induction n using Nat.strongRecOn with
 |_ n ih=>
  intro hn h;have h1:=(jQ l).1 hp n hn;rw[wI hp k n hn,bW] at h
  grind
def vX(l:List fT)(k m:Nat):List Int:=nQ l k++((List.range m).filter λn=>n != k&&pQ l k n).flatMap (nQ l)
def CH(l:List fT)(k:Int):List Int:=if 0<=k/\k<l.length/\jE l=true then JC (vX l k.toNat l.length) else []
theorem vr(l:List fT)(k:Nat)(hk:k<l.length)(x:Int):x∈vX l k l.length↔∃n,n<l.length/\pQ l k n=true/\x∈nQ l n:=by
 simp only[vX,ax,b5,bI,aQ,aB,bne_iff_ne,ne_eq]
 grind[xP]
theorem KE(l:List fT)(k:Nat)(hk:k<l.length)(hp:jE l=true)(x:Int):x∈CH l k↔∃n,n<l.length/\pQ l k n=true/\x∈nQ l n:=by
 simp_all[CH,OT,vr]
def tG(l:List fT)(b:Nat):List Nat:=(List.range l.length).flatMap λk=>((nQ l k).filter λx=>x==(b:Int)).map λ_=>k
def uN(l:List fT)(n:Nat):Bool:=(List.range n).all λb=>(tG l b).length==1
def oF(l:List fT)(b:Nat):Nat:=(tG l b).headD 0
def yJ(l:List fT)(n:Nat):List Int:=(List.range n).map λ(b:Nat)=>(oF l b:Int)
def eqS(f g:Nat->Bool):Bool:=(List.range 200).all λk=>f k==g k
theorem QZ{f g:Nat->Bool}(hf:iV f)(hg:iV g):eqS f g=true↔f=g:=by
 simp only[eqS,aV,aQ,db]
 constructor
 .intro h
  funext k
  by_cases hk:k<200
  .grind
  .have h1:f k=false:=by
    cases e:f k with
    |false=>rfl
    |true=>exact absurd (hf k e) hk
   have h2:g k=false:=by
    cases e:g k with
    |false=>rfl
    |true=>exact absurd (hg k e) hk
   grind
 grind
def wX(ts:List fS)(bs:List Int)(inn:Nat->Bool):Bool:=bs.any λb=>iH ts b.toNat inn b.toNat
def kU(ts:List fS)(s:Nat->Bool):Bool:=match gQ s with
 | []=>true
 |b :: _=>eqS (iH ts b s) s
def AX(t:fT)(e:List Nat):Bool:=e.length==1&&t.blocks.contains ((e.headD 0:Nat):Int)
def kQ(ts:List fS)(t:fT)(s:Nat->Bool):Bool:=
 if t.kind=3 then decide (1<(fV ts s).length)&&kU ts s
 else if t.kind=2 then AX t (fV ts s)&&kU ts s&& !wX ts t.blocks (iU s ((fV ts s).headD 0))
 else if t.kind=4 then AX t (fV ts s)&& !wX ts t.blocks s
 else if t.kind=1 then !wX ts t.blocks s else false
def qC(n:Nat)(bs:List Int):Bool:=(List.range bs.length).all λi=>decide (0<=bs.getD i 0/\bs.getD i 0<n)&&(i==0||decide (bs.getD (i-1) 0<bs.getD i 0))
def nN(n:Nat)(l:List fT)(k:Nat):Bool:=
 let t:=l.getD k oG
 !(((k==0) != (t.kind==1))||((k==0) != (t.parent== -1))||(t.blocks.length==0)||(decide (0<k)&&((l.getD t.parent.toNat oG).kind==3)))&&qC n t.blocks
def rT(l:List fT)(k:Nat):Nat->Bool:=ofS (CH l k)
def gY(ts:List fS)(l:List fT):Bool:=
 jK ts&&decide (l.length<=200)&&jE l&&uN l ts.length&&(oF l 0==0)&&
  (List.range l.length).all λk=>nN ts.length l k&&kQ ts (l.getD k oG) (rT l k)
theorem RN{ts:List fS}{s:Nat->Bool}(hs:iV s):kU ts s=true↔∀b y,s b=true->s y=true->Reach (nx ts) s b y:=by
 unfold kU
 cases h:gQ s with
 |nil=>
  simp only[true_iff];intro b y hb;have:=(kV hs b).2 hb
  grind
 |cons b l=>
  have hb:s b=true:=(kV hs b).1 (by grind);rw[QZ (xN hs b) hs];constructor
  .intro e x y hx hy;have h1:iH ts b s x=true:=by simp_all
   have h2:iH ts b s y=true:=by simp_all
   exact((mS hs b x).1 h1).2.2.trans ((mS hs b y).1 h2).2.1
  .intro h2
   funext y
   rw[cS,mS hs];constructor
   .exact λh3=>h3.2.1.inn
   grind
theorem un{ts:List fS}{s:Nat->Bool}(hs:iV s)(b:Nat):iH ts b s b=iZ (nx ts) s b b:=by
 rw[cS,mS hs,pI hs]
 simp
end

section
open Go.RowKit
theorem ZV(a:Option Addr)(n cap:Nat)(xs:List Int)(x:Int)(w:World)(h:iJ w a n xs):
  Calls Tryz.prog 228 #[.slice a n cap,.int .i64 x] w λe w'=>e=.returned (.int .i64 (idx xs x))/\w=w':=by
 obtain⟨hl,hn,hc⟩:=h
 have HL:=ac hl
 have HC:=ac hc
 clear hl hc
 go_enter Tryz.func228,Tryz.ntmps228
 go_wp2
 go_loop [5,8] (λ_ i=>∃(k:Nat),k<=n/\i=.int .i64 k/\Hid (∀j,j<k->xs.getD j 0≠x)) (λ_ i=>n-(intOf i).toNat)
 case atStart=>exact⟨0,by omega,rfl,λj hj=>absurd hj (by omega)⟩
 case round=>
  obtain⟨k,hk,rfl,HR⟩:=hrel;by_cases hlt:k<n
  .obtain⟨b,o,rfl,hcell,hw1,hw2⟩:=HC.out k hlt;by_cases he:x=xs.getD k 0
   .have HE:Hid (idx xs x=k):=qh xs x k (by rw[HL.out];exact hlt) he.symm HR.out;have hb:(x==xs.getD k 0)=true:=by simpa using he
    generalize xs.getD k 0=y at *;clear he;go_wp2
    go_ret
    exact⟨by rw[HE.out];rfl,rfl⟩
   .have HE:Hid (∀j,j<k+1->xs.getD j 0≠x):=λj hj=>by
     by_cases hjk:j=k
     .subst hjk;exact λe=>he e.symm
     .exact HR.out j (by omega)
    have hb:(x==xs.getD k 0)=false:=by simpa using he
    generalize xs.getD k 0=y at *;clear he;go_wp2
    go_round
    case rel=>exact⟨k+1,by omega,by go_num,HE⟩
    case measure=>simp[intOf];omega
  .go_wp2
   go_ret
   have:k=n:=by omega
   subst this;exact⟨by rw[ww xs x (by rw[HL.out];exact HR.out)];rfl,rfl⟩
theorem qB(a:Option Addr)(n cap:Nat)(xs:List Int)(x:Int)(w:World)(h:iJ w a n xs):
  Calls Tryz.prog 161 #[.slice a n cap,.int .i64 x] w λe w'=>e=.returned (.bool (decide (0<=idx xs x)))/\w=w':=by
 have hi:=ZD xs x
 have H:=ac h
 clear h
 go_enter Tryz.func161,Tryz.ntmps161
 go_wp2_with (go_at_call 228;refine(ZV a n cap xs x w H.out).mono ?_;rintro e w' ⟨rfl,rfl⟩)
 go_ret
 exact⟨rfl,rfl⟩
end

section
inductive uB (g:Nat->Bool) (nx:Nat->List Nat):Nat->Prop
 |here {b:Nat}:g b=true->uB g nx b
 |step {b c:Nat}:c∈nx b->uB g nx c->uB g nx b
def nK(g:Nat->Bool)(nx:Nat->List Nat):Nat->Nat->Bool
 |0,b=>g b
 |r+1,b=>nK g nx r b||(nx b).any (nK g nx r)
section
variable {g:Nat->Bool} {nx:Nat->List Nat}
theorem EX{r b:Nat}:nK g nx (r+1) b=true↔nK g nx r b=true\/∃c∈nx b,nK g nx r c=true:=by
 simp[nK]
theorem CD{r:Nat}{b:Nat}(hd:nK g nx r b=true):nK g nx (r+1) b=true:=EX.2 (.inl hd)
theorem vw{r k:Nat}(hk:r<=k){b:Nat}(hd:nK g nx r b=true):nK g nx k b=true:=by
 induction hk with
 |refl=>omega
 |step _ ih=>exact CD ih
theorem XL{r:Nat}:∀{b:Nat},nK g nx r b=true->uB g nx b:=by
 induction r with
 |zero=>exact λhd=>.here hd
 |succ r ih=>
  intro b hd;rcases EX.1 hd with hd|⟨c,h2,h3⟩
  .grind
  .exact .step h2 (ih h3)
theorem qa{b:Nat}(hl:uB g nx b):∃r,nK g nx r b=true:=by
 induction hl with
 |here hg=>exact⟨0,hg⟩
 |step h2 _ ih=>
  obtain⟨r,hr⟩:=ih;exact⟨r+1,EX.2 (.inr ⟨_,h2,hr⟩)⟩
def cnt(n:Nat)(p:Nat->Bool):Nat:=(List.range n).countP p
theorem Cl(n:Nat)(p:Nat->Bool):cnt n p<=n:=by
 grind[List.countP_le_length,cnt]
theorem DO(n:Nat)(f:Nat->Bool):cnt (n+1) f=cnt n f+if f n=true then 1 else 0:=by
 simp[cnt,cm]
theorem WC{n:Nat}{p q:Nat->Bool}(hpq:∀b,b<n->p b=true->q b=true):cnt n p<=cnt n q:=
 List.countP_mono_left λb hb=>hpq b (by grind)
theorem tf{n:Nat}{p q:Nat->Bool}(hpq:∀b,b<n->p b=true->q b=true){b:Nat}(hb:b<n)(h1:p b=false)(h2:q b=true):cnt n p<cnt n q:=by
 induction n with
 |zero=>omega
 |succ n ih=>
  rw[DO n p,DO n q];by_cases hbn:b=n
  .have:=WC (n:=b) (p:=p) (q:=q) λc hc=>hpq c (by omega)
   grind
  grind
theorem WD{n:Nat}{p:Nat->Bool}(h:n<=cnt n p):∀b,b<n->p b=true:=by
 grind[cnt,List.countP_eq_length]
theorem LJ(n:Nat)(hnx:∀b,b<n->∀c∈nx b,c<n){r:Nat}(hs:∀b,b<n->nK g nx (r+1) b=true->nK g nx r b=true):∀k b,b<n->nK g nx (r+k) b=true->nK g nx r b=true:=by
 intro k
 induction k with
 |zero=>simp
 |succ k ih=>
  grind[nK]
theorem ib(n:Nat)(hnx:∀b,b<n->∀c∈nx b,c<n):∀r,(∀b,b<n->nK g nx (r+1) b=true->nK g nx r b=true)\/cnt n g+r<=cnt n (nK g nx r):=by
 intro r
 induction r with
 |zero=>exact .inr (aj _)
 |succ r ih=>
  by_cases hs:∀b,b<n->nK g nx (r+1) b=true->nK g nx r b=true
  .grind[CD,LJ]
  .rcases ih with ih|ih
   .grind
   .simp only[Classical.not_forall] at hs;obtain⟨b,hb,h1,h2⟩:=hs;have:=tf (n:=n) (p:=nK g nx r) (q:=nK g nx (r+1)) (λc _ hc=>CD hc) hb (by grind) h1;omega
theorem yV(n r:Nat)(hr:n<=cnt n g+r)(hnx:∀b,b<n->∀c∈nx b,c<n){b:Nat}(hb:b<n):uB g nx b↔nK g nx r b=true:=by
 refine⟨λhl=>?_,XL⟩
 obtain⟨k,hk⟩:=qa hl
 by_cases hkr:k<=r
 .grind[vw]
 .rcases ib n hnx r with hs|hs
  .exact LJ n hnx hs (k-r) b hb (by rwa [show r+(k-r)=k by omega])
  .exact WD (by omega) b hb
theorem XK(n:Nat)(hnx:∀b,b<n->∀c∈nx b,c<n)(x:Nat->Bool)(hs:∀b,b<n->x b=true->uB g nx b)(hf:∀b,b<n->(g b=true\/∃c∈nx b,x c=true)->x b=true){b:Nat}(hb:b<n):x b=true↔uB g nx b:=by
 refine⟨hs b hb,λhl=>?_⟩
 induction hl with
 |here h=>grind
 |step h2 _ ih=>grind
end
end

section
structure OpL where
 rd:List Int
 df:Int
structure BkL where
 ops:List OpL
 nd:List Int
 «to» :List Nat
def iM:List OpL->List Int->Int->Nat
 | [],nd,v=>if v∈nd then 1 else 0
 |o :: l,nd,v=>if v∈o.rd then 1 else if o.df=v then 2 else iM l nd v
def nI:List OpL->List Int->(Int->Bool)->Int->Bool
 | [],nd,out,v=>decide (v∈nd)||out v
 |o :: l,nd,out,v=>decide (v∈o.rd)||(nI l nd out v&& !decide (o.df=v))
theorem nF(nd:List Int)(out:Int->Bool)(v:Int):∀ops,nI ops nd out v=(decide (iM ops nd v=1)||(decide (iM ops nd v=0)&&out v))
 | []=>by
   unfold nI iM;by_cases h:v∈nd<;>simp[h]
 |o :: l=>by
  unfold nI iM;rw[nF nd out v l];by_cases h:v∈o.rd
  .simp[h]
  .by_cases h2:o.df=v<;>simp[h,h2]
def pZ(ops:List OpL)(v:Int):Bool:=ops.any λo=>decide (o.df=v)
def iB(bs:List BkL)(b:Nat):BkL:=bs.getD b ⟨[],[],[]⟩
section
variable (bs:List BkL)
def JG(v:Int)(b:Nat):Bool:=decide (iM (iB bs b).ops (iB bs b).nd v=1)
def FR(v:Int)(b:Nat):List Nat:=if iM (iB bs b).ops (iB bs b).nd v=0 then (iB bs b).to else []
def rF(v:Int)(b:Nat):Prop:=uB (JG bs v) (FR bs v) b
def sK(v:Int)(b:Nat):Prop:=∃c∈(iB bs b).to,rF bs v c
def IY:Prop:=∀b,b<bs.length->∀c∈(iB bs b).to,c<bs.length
theorem KD{bs:List BkL}(h:IY bs)(v:Int):∀b,b<bs.length->∀c∈FR bs v b,c<bs.length:=by
 intro b hb c hc
 unfold FR at hc
 split at hc
 .exact h b hb c hc
 .cases hc
theorem CB(v:Int)(b:Nat):rF bs v b↔iM (iB bs b).ops (iB bs b).nd v=1\/(iM (iB bs b).ops (iB bs b).nd v=0/\sK bs v b):=by
 constructor
 .intro h;cases h with
  |here h=>exact .inl (by simpa[JG] using h)
  |step h1 h2=>
   unfold FR at h1
   split at h1
   .rename_i h0
    exact .inr ⟨h0,_,h1,h2⟩
   .cases h1
 .rintro(h|⟨h0,c,h1,h2⟩)
  .exact .here (by simpa[JG] using h)
  .exact .step (c:=c) (by unfold FR;rw[aM h0];exact h1) h2
theorem XH{bs:List BkL}(hto:IY bs)(inn out:Nat->Int->Bool)(v:Int)
  (h1:∀b,b<bs.length->inn b v=true->rF bs v b) (h2:∀b,b<bs.length->out b v=true->sK bs v b)
  (h3:∀b,b<bs.length->inn b v=nI (iB bs b).ops (iB bs b).nd (out b) v) (h4:∀b,b<bs.length->∀c∈(iB bs b).to,inn c v=true->out b v=true):
  (∀b,b<bs.length->(inn b v=true↔rF bs v b))/\∀b,b<bs.length->(out b v=true↔sK bs v b):=by
 have key:∀b,b<bs.length->(inn b v=true↔rF bs v b):=λb hb=>XK bs.length (KD hto v) (λb=>inn b v) h1 (λb hb h=>by
  show inn b v=true;rw[h3 b hb,nF];simp only[bW,aB,aN];rcases h with h|⟨c,hc,hx⟩
  .exact .inl (by simpa[JG] using h)
  .unfold FR at hc
   split at hc
   .rename_i h0
    exact .inr ⟨h0,h4 b hb c hc hx⟩
   .cases hc) hb
 refine⟨key,λb hb=>⟨h2 b hb,λ⟨c,hc,hn⟩=>h4 b hb c hc ((key c (hto b hb c hc)).2 hn)⟩⟩
def NU(c:Nat):List Nat:=(List.range bs.length).filter λp=>decide (c∈(iB bs p).to)
theorem tT(c p:Nat):p∈NU bs c↔p<bs.length/\c∈(iB bs p).to:=by simp[NU]
def yO(b:Nat):Prop:=uB (λb=>decide (b=0)) (NU bs) b
def kg(ps:List Int)(v:Int)(b:Nat):Bool:=decide (b=0)&& !decide (v∈ps)
def kf(v:Int)(c:Nat):List Nat:=(NU bs c).filter λp=> !pZ (iB bs p).ops v
def BR(ps:List Int)(v:Int)(b:Nat):Prop:=uB (kg ps v) (kf bs v) b
theorem JS:∀b,b<bs.length->∀c∈NU bs b,c<bs.length:=λb _ c hc=>((tT bs b c).1 hc).1
theorem VL(v:Int):∀b,b<bs.length->∀c∈kf bs v b,c<bs.length:=λb hb c hc=>JS bs b hb c (bI.1 hc).1
def Bj(ps:List Int)(v:Int):Prop:=∃b,b<bs.length/\BR bs ps v b/\iM (iB bs b).ops (iB bs b).nd v=1
end
end

section
structure vZ(bs:List BkL)(seen:Nat->Bool)(q:List Nat):Prop where
 lt:∀b∈q,b<bs.length
 ok:∀b,b<bs.length->seen b=true->yO bs b
 okq:∀b∈q,yO bs b
 first:seen 0=true\/0∈q
 closed:∀b,b<bs.length->seen b=true->∀c∈(iB bs b).to,seen c=true\/c∈q
theorem vZ.start{bs:List BkL}(h:0<bs.length):vZ bs (λ_=>false) [0]:=
 ⟨λb hb=>(by grind),λb _ h=>(by cases h),λb hb=>(by simp at hb;subst hb;exact .here rfl),.inr (by simp),λb _ h=>(by cases h)⟩
theorem vZ.skip{bs:List BkL}{seen:Nat->Bool}{b:Nat}{q:List Nat}(h:vZ bs seen (b :: q))(hs:seen b=true):vZ bs seen q:=by
 refine⟨λc hc=>h.lt c (dN _ hc),h.ok,λc hc=>h.okq c (dN _ hc),?_,λc hc hsc d hd=>?_⟩
 .rcases h.first with h1|h1
  .grind
  grind
 .rcases h.closed c hc hsc d hd with h1|h1
  .grind
  grind
theorem vZ.put{bs:List BkL}(hto:IY bs){seen:Nat->Bool}{b:Nat}{q:List Nat}(h:vZ bs seen (b :: q)):vZ bs (λk=>if k=b then true else seen k) (q++(iB bs b).to):=by
 have hb:=h.lt b (by simp)
 have hr:=h.okq b (by simp)
 refine⟨λc hc=>?_,λc hc hsc=>?_,λc hc=>?_,?_,λc hc hsc d hd=>?_⟩
 .rcases ax.1 hc with hc|hc
  .exact h.lt c (dN _ hc)
  .exact hto b hb c hc
 .by_cases e:c=b
  .grind
  .exact h.ok c hc (by grind)
 .rcases ax.1 hc with hc|hc
  .exact h.okq c (dN _ hc)
  .exact .step ((tT bs c b).2 ⟨hb,hc⟩) hr
 .by_cases e:(0:Nat)=b
  .grind
  .rcases h.first with h1|h1
   .grind
   grind
 .by_cases e:c=b
  .grind
  .rcases h.closed c hc (by grind) d hd with h1|h1
   .grind
   grind
theorem vZ.done{bs:List BkL}{seen:Nat->Bool}(h:vZ bs seen []){b:Nat}(hb:b<bs.length):seen b=true↔yO bs b:=by
 refine⟨h.ok b hb,λhr=>?_⟩
 induction hr with
 | @here c h0=>
   have h0:c=0:=by grind
   rw[h0];exact h.first.resolve_right (by simp)
 |step h1 _ ih=>
  obtain⟨h2,h3⟩:=(tT bs _ _).1 h1;exact(h.closed _ h2 (ih h2) _ h3).resolve_right (by simp)
theorem ml{n b:Nat}{seen:Nat->Bool}(hb:b<n)(hs:seen b=false):cnt n (λk=>if k=b then true else seen k)=cnt n seen+1:=by
 induction n with
 |zero=>omega
 |succ n ih=>
  rw[DO,DO];by_cases e:b=n
  .grind[cnt,List.countP_congr]
  grind
theorem od{bs:List BkL}{seen:Nat->Bool}(h:vZ bs seen []):bs.length<=cnt bs.length seen↔∀b,b<bs.length->yO bs b:=by
 constructor
 .intro hc b hb;exact(h.done hb).1 (WD hc b hb)
 .intro ha;have:=WC (n:=bs.length) (p:=λ_=>true) (q:=seen) λb hb _=>(h.done hb).2 (ha b hb)
  simp_all[cnt]
end

section
def IV(ops:List OpL)(f:Nat->Bool)(v:Nat):Bool:=f v||pZ ops (v:Int)
structure tY(ps:List Int)(bs:List BkL)(I:Nat->Nat->Bool):Prop where
 sound:∀b,b<bs.length->∀v:Nat,1<=v->v<201->I b v=false->BR bs ps (v:Int) b
 first:∀v:Nat,1<=v->v<201->(v:Int)∉ps->I 0 v=false
def rA(I:Nat->Nat->Bool)(b:Nat)(f:Nat->Bool):Nat->Nat->Bool:=λk=>if k=b then f else I k
theorem tY.put{ps:List Int}{bs:List BkL}{I:Nat->Nat->Bool}(h:tY ps bs I){b c:Nat}(hb:b<bs.length)(hc:c∈(iB bs b).to)(O:Nat->Bool)
  (hO:∀v:Nat,1<=v->v<201->O v=false->BR bs ps (v:Int) b/\pZ (iB bs b).ops (v:Int)=false):
  tY ps bs (rA I c λv=>I c v&&O v):=by
 refine⟨λk hk v h1 h2 hf=>?_,λv h1 h2 h3=>?_⟩
 .unfold rA at hf
  split at hf
  .rename_i e
   subst e;simp only[fy] at hf;rcases hf with hf|hf
   .exact h.sound k hk v h1 h2 hf
   .obtain⟨h5,h6⟩:=hO v h1 h2 hf;refine .step (c:=b) ?_ h5
    grind[kf,tT]
  .exact h.sound k hk v h1 h2 hf
 .unfold rA
  split
  .rename_i e
   subst e;simp[h.first v h1 h2 h3]
  .exact h.first v h1 h2 h3
theorem tY.out{ps:List Int}{bs:List BkL}{I:Nat->Nat->Bool}(h:tY ps bs I){b:Nat}(hb:b<bs.length):∀v:Nat,1<=v->v<201->IV (iB bs b).ops (I b) v=false->BR bs ps (v:Int) b/\pZ (iB bs b).ops (v:Int)=false:=by
 intro v h1 h2 hf
 unfold IV at hf
 simp only[cV] at hf
 exact⟨h.sound b hb v h1 h2 hf.1,hf.2⟩
theorem tY.done{ps:List Int}{bs:List BkL}{I:Nat->Nat->Bool}(h:tY ps bs I)(hn:0<bs.length)
  (hf:∀b,b<bs.length->∀c∈(iB bs b).to,∀v,v<201->I c v=true->IV (iB bs b).ops (I b) v=true) {v:Nat} (h1:1<=v) (h2:v<201) {b:Nat} (hb:b<bs.length):
  I b v=false↔BR bs ps (v:Int) b:=by
 refine⟨h.sound b hb v h1 h2,λhl=>?_⟩
 induction hl with
 |here h0=>
  simp only[kg,aB,aN,dm,cg] at h0;obtain⟨rfl,h0⟩:=h0;exact h.first v h1 h2 h0
 | @step b c hc _ ih=>
   obtain⟨hc1,hc2⟩:=bI.1 hc;obtain⟨hc3,hc4⟩:=(tT bs b c).1 hc1;cases hx:I b v with
   |false=>rfl
   |true=>
    have:=hf c hc3 b hc4 v h2 hx
    simp_all[IV]
def tot(W:Nat):Nat->(Nat->Nat->Bool)->Nat
 |0,_=>0
 |n+1,I=>tot W n I+cnt W (I n)
theorem tv{W n c:Nat}(hc:n<=c)(I:Nat->Nat->Bool)(f:Nat->Bool):tot W n (rA I c f)=tot W n I:=by
 induction n with
 |zero=>rfl
 |succ n ih=>
  simp only[tot];have:rA I c f n=I n:=by simp[rA];omega
  grind
theorem kr{W n c:Nat}(hc:c<n)(I:Nat->Nat->Bool)(f:Nat->Bool)(hle:∀v,v<W->f v=true->I c v=true)(hne:∃v,v<W/\f v≠I c v):tot W n (rA I c f)<tot W n I:=by
 induction n with
 |zero=>omega
 |succ n ih=>
  simp only[tot];by_cases e:c=n
  .subst e;rw[tv (aj _)];have:rA I c f c=f:=by simp[rA]
   rw[this];obtain⟨v,hv,hn⟩:=hne;have:=tf (n:=W) (p:=f) (q:=I c) hle hv (by grind) (by grind);omega
  .have e2:rA I c f n=I n:=by simp[rA];omega
   grind
def QG(ps:List Int)(bs:List BkL)(v:Int):Bool:=(List.range bs.length).any λb=>decide (iM (iB bs b).ops (iB bs b).nd v=1)&&nK (kg ps v) (kf bs v) bs.length b
theorem OY(ps:List Int)(bs:List BkL)(v:Int):QG ps bs v=true↔Bj bs ps v:=by
 unfold QG Bj BR
 simp only[eA,aQ,aB,aN]
 constructor
 .rintro⟨b,hb,h1,h2⟩;exact⟨b,hb,(yV bs.length bs.length (by omega) (VL bs v) hb).2 h2,h1⟩
 .rintro⟨b,hb,h1,h2⟩;exact⟨b,hb,h2,(yV bs.length bs.length (by omega) (VL bs v) hb).1 h1⟩
def rI(ps:List Int)(bs:List BkL):Bool:=(List.range' 1 200).any λv:Nat=>QG ps bs (v:Int)
def rM(bs:List BkL):Bool:=(List.range bs.length).all λb=>nK (λb=>decide (b=0)) (NU bs) bs.length b
theorem DY(bs:List BkL):rM bs=true↔∀b,b<bs.length->yO bs b:=by
 unfold rM yO
 simp only[aV,aQ]
 exact⟨λh b hb=>(yV bs.length bs.length (by omega) (JS bs) hb).2 (h b hb),λh b hb=>(yV bs.length bs.length (by omega) (JS bs) hb).1 (h b hb)⟩
def ZG(bs:List BkL):Prop:=∀b,b<bs.length->∀v,iM (iB bs b).ops (iB bs b).nd v=1->1<=v/\v<=200
theorem tY.any{ps:List Int}{bs:List BkL}{I:Nat->Nat->Bool}(h:tY ps bs I)(hn:0<bs.length)(hv:ZG bs)
  (hf:∀b,b<bs.length->∀c∈(iB bs b).to,∀v,v<201->I c v=true->IV (iB bs b).ops (I b) v=true):
  (∀b,b<bs.length->∀v,iM (iB bs b).ops (iB bs b).nd v=1->I b v.toNat=true)↔rI ps bs=false:=by
 unfold rI
 simp only[dQ,eu,Bool.not_eq_true]
 constructor
 .intro hp v ⟨h1,h2⟩;cases hx:QG ps bs (v:Int) with
  |false=>rfl
  |true=>
   obtain⟨b,hb,hl,hw⟩:=(OY ps bs (v:Int)).1 hx;have:=hp b hb (v:Int) hw;rw[show((v:Int)).toNat=v by omega] at this;rw[(h.done hn hf h1 (by omega) hb).2 hl] at this
   grind
 .intro ha b hb v hw;obtain⟨h1,h2⟩:=hv b hb v hw;obtain⟨n,rfl⟩:∃n:Nat,v=n:=⟨v.toNat,by omega⟩
  rw[show((n:Int)).toNat=n by omega];cases hx:I b n with
  |true=>rfl
  |false=>
   have hl:=(h.done hn hf (by omega) (by omega) hb).1 hx;have:=ha n (by omega);rw[(OY ps bs (n:Int)).2 ⟨b,hb,hl,hw⟩] at this
   grind
end

section
def wU(S:Nat):Int->Bool:=λv=>decide (0<=v)&&S.testBit v.toNat
theorem sX(S j:Nat):wU S (j:Int)=S.testBit j:=by simp[wU]
theorem j6{ops:List OpL}{nd:List Int}{f g:Int->Bool}{v:Int}(h:f v=true->g v=true)(ha:nI ops nd f v=true):nI ops nd g v=true:=by
 rw[nF] at ha|-
 simp only[bW,aB,aN] at ha|-
 exact ha.imp id λx=>⟨x.1,h x.2⟩
def lI(I:Nat->Nat)(b S:Nat):Nat->Nat:=λk=>if k=b then S else I k
structure qR(bs:List BkL)(inn out:Nat->Nat):Prop where
 inS:∀b,b<bs.length->∀j:Nat,j<1024->(inn b).testBit j=true->rF bs (j:Int) b
 outS:∀b,b<bs.length->∀j:Nat,j<1024->(out b).testBit j=true->sK bs (j:Int) b
 inL:∀b,inn b<2^1024
 outL:∀b,out b<2^1024
 grow:∀b,b<bs.length->∀j:Nat,j<1024->(inn b).testBit j=true->nI (iB bs b).ops (iB bs b).nd (wU (out b)) (j:Int)=true
theorem qR.start(bs:List BkL):qR bs (λ_=>0) (λ_=>0):=
 ⟨λb _ j _ h=>by simp at h,λb _ j _ h=>by simp at h,λ_=>Nat.two_pow_pos 1024,λ_=>Nat.two_pow_pos 1024,λb _ j _ h=>by simp at h⟩
theorem qR.or{bs:List BkL}{inn out:Nat->Nat}(h:qR bs inn out){b c:Nat}(hb:b<bs.length)(hto:IY bs)(hc:c∈(iB bs b).to):qR bs inn (lI out b (out b|||inn c)):=by
 refine⟨h.inS,λk hk j hj ht=>?_,h.inL,λk=>?_,λk hk j hj ht=>?_⟩
 .unfold lI at ht
  split at ht
  .rename_i e
   subst e;rw[Nat.testBit_or,bW] at ht;rcases ht with ht|ht
   .exact h.outS k hk j hj ht
   .exact⟨c,hc,h.inS c (hto k hk c hc) j hj ht⟩
  .exact h.outS k hk j hj ht
 .unfold lI
  split
  .exact Nat.or_lt_two_pow (n:=1024) (h.outL b) (h.inL c)
  .exact h.outL k
 .have h1:=h.grow k hk j hj ht;unfold lI
  split
  .rename_i e
   subst e;refine j6 (λhx=>?_) h1;rw[sX] at hx|-;rw[Nat.testBit_or,hx];rfl
  .exact h1
theorem qR.point{bs:List BkL}{inn out:Nat->Nat}(h:qR bs inn out){b P:Nat}(hb:b<bs.length)(hP:P<2^1024)(hj:∀j:Nat,j<1024->P.testBit j=nI (iB bs b).ops (iB bs b).nd (wU (out b)) (j:Int)):qR bs (lI inn b P) out:=by
 refine⟨λk hk j hl ht=>?_,h.outS,λk=>?_,h.outL,λk hk j hl ht=>?_⟩
 .unfold lI at ht
  split at ht
  .rename_i e
   subst e;rw[hj j hl,nF] at ht;simp only[bW,aB,aN] at ht;refine(CB bs (j:Int) k).2 (ht.imp id λx=>⟨x.1,h.outS k hk j hl ?_⟩);have:=x.2
   rwa [sX] at this
  .exact h.inS k hk j hl ht
 .unfold lI
  split
  .exact hP
  .exact h.inL k
 .unfold lI at ht
  split at ht
  .rename_i e
   subst e;rw[<-hj j hl];exact ht
  .exact h.grow k hk j hl ht
def yG(n:Nat)(I:Nat->Nat):Nat:=tot 1024 n λb j=> !(I b).testBit j
theorem ku{W:Nat}:∀{n:Nat} {I J:Nat->Nat->Bool},(∀b,b<n->I b=J b)->tot W n I=tot W n J
 |0,_,_,_=>rfl
 |n+1,I,J,h=>by
  simp only[tot];rw[ku (n:=n) (I:=I) (J:=J) λb hb=>h b (by omega),h n (by omega)]
theorem tw(n:Nat)(I:Nat->Nat)(b P:Nat):yG n (lI I b P)=tot 1024 n (rA (λb j=> !(I b).testBit j) b λj=> !P.testBit j):=by
 refine ku λk _=>?_
 unfold lI rA
 split<;>rfl
theorem WG{n S j:Nat}(hS:S<2^n)(hj:n<=j):S.testBit j=false:=Nat.testBit_lt_two_pow (bw hS (Nat.pow_le_pow_right (by decide) hj))
theorem A3{S T:Nat}(hS:S<2^1024)(hT:T<2^1024)(h:S≠T):∃j,j<1024/\S.testBit j≠T.testBit j:=by
 refine bE λhn=>h (dG λj=>?_)
 by_cases hj:j<1024
 .exact bE λhx=>hn ⟨j,hj,hx⟩
 .rw[WG (n:=1024) hS (by omega),WG (n:=1024) hT (by omega)]
theorem qR.down{bs:List BkL}{inn out:Nat->Nat}(h:qR bs inn out){b P:Nat}(hb:b<bs.length)(hP:P<2^1024)(hj:∀j:Nat,j<1024->P.testBit j=nI (iB bs b).ops (iB bs b).nd (wU (out b)) (j:Int)):
  yG bs.length (lI inn b P)<=yG bs.length inn/\(P≠inn b->yG bs.length (lI inn b P)<yG bs.length inn):=by
 have key:P≠inn b->yG bs.length (lI inn b P)<yG bs.length inn:=by
  intro hne;rw[tw];obtain⟨j,hl,hx⟩:=A3 hP (h.inL b) hne;refine kr hb _ _ (λv hv ht=>?_) ⟨j,hl,λe=>hx ?_⟩
  .cases hi:(inn b).testBit v with
   |false=>rfl
   |true=>
    have:=h.grow b hb v hv hi;rw[<-hj v hv] at this;rw[this] at ht;cases ht
  .exact Bool.not_inj e
 refine⟨?_,key⟩
 by_cases e:P=inn b
 .subst e;have:lI inn b (inn b)=inn:=by
   funext k
   unfold lI
   split
   .rename_i e;rw[e]
   .rfl
  rw[this];exact aj _
 .exact Nat.le_of_lt (key e)
theorem qR.done{bs:List BkL}{inn out:Nat->Nat}(h:qR bs inn out)(hto:IY bs)
  (h1:∀b,b<bs.length->∀j:Nat,j<1024->(inn b).testBit j=nI (iB bs b).ops (iB bs b).nd (wU (out b)) (j:Int))
  (h2:∀b,b<bs.length->∀c∈(iB bs b).to,∀j:Nat,j<1024->(inn c).testBit j=true->(out b).testBit j=true) {j:Nat} (hj:j<1024) {b:Nat} (hb:b<bs.length):
  ((inn b).testBit j=true↔rF bs (j:Int) b)/\((out b).testBit j=true↔sK bs (j:Int) b):=by
 have:=XH hto (λb=>wU (inn b)) (λb=>wU (out b)) (j:Int)
  (λb hb hx=>h.inS b hb j hj (by rwa [sX] at hx)) (λb hb hx=>h.outS b hb j hj (by rwa [sX] at hx))
  (λb hb=>by show wU (inn b) (j:Int)=_;rw[sX,h1 b hb j hj]) (λb hb c hc hx=>by
    have hx:wU (inn c) (j:Int)=true:=hx;show wU (out b) (j:Int)=true;rw[sX] at hx|-
    exact h2 b hb c hc j hj hx)
 have e1:=this.1 b hb
 have e2:=this.2 b hb
 rw[sX] at e1 e2
 exact⟨e1,e2⟩
def sn(bs:List BkL)(v:Int)(b:Nat):Bool:=nK (JG bs v) (FR bs v) bs.length b
theorem AP{bs:List BkL}(hto:IY bs)(v:Int){b:Nat}(hb:b<bs.length):sn bs v b=true↔rF bs v b:=
 (yV bs.length bs.length (by omega) (KD hto v) hb).symm
def TW(bs:List BkL)(v:Int)(b:Nat):Bool:=(iB bs b).to.any (sn bs v)
theorem wN{bs:List BkL}(hto:IY bs)(v:Int){b:Nat}(hb:b<bs.length):TW bs v b=true↔sK bs v b:=by
 unfold TW sK
 simp only[eA]
 exact⟨λ⟨c,hc,h⟩=>⟨c,hc,(AP hto v (hto b hb c hc)).1 h⟩,λ⟨c,hc,h⟩=>⟨c,hc,(AP hto v (hto b hb c hc)).2 h⟩⟩
theorem LG{bs:List BkL}(hv:ZG bs)(hto:IY bs){v:Int}{b:Nat}(hb:b<bs.length)(h:rF bs v b):1<=v/\v<=200:=by
 induction h with
 |here h=>exact hv _ hb v (by simpa[JG] using h)
 |step h1 _ ih=>exact ih (KD hto v _ hb _ h1)
def uQ(p:Int->Bool):List Int:=((List.range' 1 200).filter λv:Nat=>p (v:Int)).map λv:Nat=>(v:Int)
theorem wM{p:Int->Bool}{v:Int}:v∈uQ p↔1<=v/\v<=200/\p v=true:=by
 unfold uQ
 simp only[a8,bI,eu]
 constructor
 .rintro⟨a,⟨⟨h1,h2⟩,h3⟩,rfl⟩;exact⟨by omega,by omega,h3⟩
 .rintro⟨h1,h2,h3⟩;refine⟨v.toNat,⟨⟨by omega,by omega⟩,?_⟩,by omega⟩;rw[show((v.toNat:Nat):Int)=v by omega];exact h3
theorem Cq{p q:Int->Bool}(h:∀v:Nat,1<=v->v<=200->p (v:Int)=q (v:Int)):uQ p=uQ q:=by
 unfold uQ
 congr 1
 refine dI λv hv=>?_
 obtain⟨h1,h2⟩:=eu.1 hv
 exact h v h1 (by omega)
theorem m9(p:Int->Bool):(uQ p).length<=200:=by
 unfold uQ
 rw[cT]
 have:=bX (λv:Nat=>p (v:Int)) (List.range' 1 200)
 rwa [List.length_range'] at this
theorem EN{S:Nat}{p:Int->Bool}(h:∀j:Nat,j<1024->(S.testBit j=true↔1<=j/\j<=200/\p (j:Int)=true)):((List.range 1024).filter S.testBit).map (λk:Nat=>(k:Int))=uQ p:=by
 unfold uQ
 refine bh _ ?_
 have e:List.range 1024= [0]++List.range' 1 200++List.range' 201 823:=by
  rw[List.range_eq_range'];rw[show [0]=List.range' 0 1 from rfl,List.range'_append_1,List.range'_append_1]
 rw[e,bB,bB]
 have h0: [0].filter S.testBit= []:=by
  have:S.testBit 0=false:=by
   cases hx:S.testBit 0 with
   |false=>rfl
   |true=>have:=(h 0 (by omega)).1 hx;omega
  simp only[b6,List.filter_nil,this,Bool.false_eq_true,if_false]
 have h2:(List.range' 201 823).filter S.testBit= []:=List.filter_eq_nil_iff.2 λj hj hx=>by
  obtain⟨h1,h2⟩:=eu.1 hj;have:=(h j (by omega)).1 hx;omega
 rw[h0,h2,bD,ct]
 refine dI λv hv=>?_
 obtain⟨h1,h2⟩:=eu.1 hv
 rw[cS,h v (by omega)]
 exact⟨λx=>x.2.2,λx=>⟨h1,by omega,x⟩⟩
end

section
structure kD where
 fr:Int
 arm:Int
 «to» :Int
deriving DecidableEq
def uT(b:Nat):Nat->List Int->List kD
 |_,[]=> []
 |i,x :: l=>⟨b,i,x⟩ :: uT b (i+1) l
def xE(ts:List fS)(b:Nat):List kD:=uT b 0 (toD (ts.getD b nB))
def kL(ts:List fS)(b:Nat):List kD:=(List.range' b (ts.length-b)).flatMap (xE ts)
def vT(ts:List fS):List kD:=kL ts 0
theorem MP(ts:List fS)(b:Nat)(h:b<ts.length):kL ts b=xE ts b++kL ts (b+1):=by
 rw[kL,show ts.length-b=(ts.length-(b+1))+1 by omega,List.range'_succ,dq]
 rfl
theorem NL(ts:List fS)(b:Nat)(h:ts.length<=b):kL ts b= []:=by
 rw[kL,show ts.length-b=0 by omega];rfl
theorem PT(b:Nat):∀(l:List Int) (i:Nat),(uT b i l).length=l.length
 | [],i=>rfl
 |x :: l,i=>by simp[uT,PT b l (i+1)]
theorem YB(ts:List fS)(b:Nat):(xE ts b).length<=2:=by rw[xE,PT];exact xC _
theorem jk(ts:List fS):(vT ts).length<=2*ts.length:=by
 have key:∀n b,((List.range' b n).flatMap (xE ts)).length<=2*n:=by
  intro n
  induction n with
  |zero=>intro b;simp
  |succ n ih=>
   intro b;rw[List.range'_succ,dq,bf];have:=ih (b+1);have:=YB ts b;omega
 exact key _ _
end

section
def QB(ts:List fS):List kD:=if jK ts then vT ts else []
theorem PR(b:Nat):∀(l:List Int) (i:Nat) (x:kD),x∈uT b i l↔∃j,j<l.length/\x=⟨b,((i+j:Nat):Int),l.getD j 0⟩
 | [],i,x=>by simp[uT]
 |y :: l,i,x=>by
  rw[uT,aS,PR b l (i+1)];constructor
  .rintro(rfl|⟨j,hj,rfl⟩)
   .exact⟨0,by simp,by simp⟩
   .exact⟨j+1,by grind,by grind⟩
  grind
theorem LH(ts:List fS)(x:kD):x∈vT ts↔∃b j,b<ts.length/\j<(toD (ts.getD b nB)).length/\x=⟨(b:Nat),(j:Nat),(toD (ts.getD b nB)).getD j 0⟩:=by
 simp[vT,kL,xE,PR]
theorem DP{ts:List fS}{x:kD}(h:x∈QB ts):0<=x.fr/\x.fr<ts.length/\1<=x.to/\x.to<ts.length:=by
 unfold QB at h
 split at h
 case isFalse=>cases h
 case isTrue hf=>
  have hg:tH ts=true:=by simp_all[jK]
  obtain⟨b,j,hb,hj,rfl⟩:=(LH _ _).1 h;have hm:ts.getD b nB∈ts:=by grind
  have:=(((lO ts).1 hg).2 _ hm).2 ((toD (ts.getD b nB)).getD j 0) (by grind)
  grind
end

section
def yL(l:List fT):Nat->Int->List Int
 |0,_=> []
 |f+1,k=>if 0<=k then k :: yL l f (oN l k.toNat) else []
def rE(l:List fT)(k:Int):List Int:=yL l (k.toNat+1) k
theorem rg{l:List fT}(hp:jE l=true):∀(f:Nat) (k:Int),k<l.length->k<f->yL l f k=rE l k:=by
 rw[jQ] at hp
 intro f
 induction f using Nat.strongRecOn with
 |_ f ih=>
  intro k hk hf;by_cases h0:0<=k
  .cases f with
   |zero=>omega
   |succ f=>
    rw[rE,yL,yL,aM h0,aM h0]
    grind
  unfold rE yL;grind
theorem vM{l:List fT}(hp:jE l=true){k:Int}(h0:0<=k)(hk:k<l.length):rE l k=k :: rE l (oN l k.toNat):=by
 have h1:=(jQ l).1 hp k.toNat (by omega)
 rw[rE,yL,aM h0,rg hp _ _ (by omega) (by omega)]
theorem CE(l:List fT){k:Int}(h0:k<0):rE l k= []:=by
 simp_all[rE,yL]
theorem jq{l:List fT}(hp:jE l=true):∀(n:Nat) (k:Int),k<n->k<l.length->(rE l k).length<=n:=by
 intro n
 induction n with
 |zero=>grind[CE]
 |succ n ih=>
  intro k hk hl;by_cases h0:0<=k
  .have h1:=(jQ l).1 hp k.toNat (by omega);rw[vM hp h0 hl]
   grind
  grind
theorem Cp{l:List fT}(hp:jE l=true)(m:Int):∀(n:Nat),n<l.length->(m∈rE l n↔0<=m/\pQ l m.toNat n=true):=by
 intro n
 induction n using Nat.strongRecOn with
 |_ n ih=>
  intro hn;have h1:=(jQ l).1 hp n hn;rw[vM hp (by omega) (by omega),aS,wI hp _ n hn];simp only[dr,bW,aB,aN,db];by_cases h2:0<=oN l n
  .grind
  grind[CE]
def inL(l:List fT)(b:Int):List Int:=rE l (oF l b.toNat)
def QA(l:List fT)(b o:Int):List Int:=(inL l b).filter λk=> !(inL l o).contains k
structure QD where
 e:kD
 lv:List Int
 en:List Int
def BB(l:List fT)(x:kD):QD:=⟨x,QA l x.fr x.to,(QA l x.to x.fr).reverse⟩
def BH(l:List fT)(asked:kD->Bool)(x:kD):Bool:=(oF l x.fr.toNat != oF l x.to.toNat)&&asked x
def nR(ts:List fS)(l:List fT)(asked:kD->Bool):List QD:=((vT ts).filter (BH l asked)).map (BB l)
theorem QW{l:List fT}(hp:jE l=true)(b:Int)(hb:oF l b.toNat<l.length):(inL l b).length<=l.length:=jq hp _ _ (by omega) (by omega)
theorem u7{l:List fT}{n:Nat}(h:uN l n=true){b:Nat}(hb:b<n):tG l b= [oF l b]:=by
 simp only[uN,aV,aQ,db] at h
 have:=h b hb
 unfold oF
 match e:tG l b,this with
 | [x],_=>rfl
theorem pu(l:List fT)(b k:Nat):k∈tG l b↔k<l.length/\(b:Int)∈nQ l k:=by
 simp[tG]
theorem lj{l:List fT}{n:Nat}(h:uN l n=true){b:Nat}(hb:b<n)(k:Nat):(k<l.length/\(b:Int)∈nQ l k)↔oF l b=k:=by
 rw[<-pu,u7 h hb,bz]
 omega
theorem YZ{l:List fT}{n:Nat}(h:uN l n=true){b:Nat}(hb:b<n):oF l b<l.length:=((lj h hb _).2 rfl).1
end
end Go.Proofs.YtbknbcmppdglhaaGreatDoor
