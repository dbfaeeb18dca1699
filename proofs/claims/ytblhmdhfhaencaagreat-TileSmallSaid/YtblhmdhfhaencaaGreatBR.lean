/-
 Words on memory that every text of this family uses:slices of ints that read as lists,worlds that only grow. No program in sight.
-/
import Derived.WalkKit
import Derived.ProofKit
import Derived.Below
import Derived.Lib.Hide
import Derived.Deep.QuietTactic
import Derived.BigQuiet
import Derived.Deep.Draws
import Derived.Laws.OwnMore
import Derived.Outline
import Derived.Test.YtblhmdhfhaencaaGreatRows
namespace Go.Proofs.YtblhmdhfhaencaaGreat
set_option linter.unusedSimpArgs false
set_option linter.unusedVariables false
set_option linter.unusedSectionVars false
set_option maxRecDepth 100000
set_option maxHeartbeats 40000000
section
open Go.RowKit
abbrev aBO:= @Lib.hid
abbrev aBP:= @cell_of_row
abbrev aBQ:= @Below.refl
abbrev aBR:= @Below.heap_alloc
abbrev aBS:= @heap_alloc_new
abbrev aBT:= @List.getD_eq_getElem?_getD
abbrev aBU:= @List.getElem?_eq_getElem
abbrev aBV:= @Nat.le_refl
abbrev aBW:= @Array.getElem?_eq_some_iff
abbrev aBX:= @List.getElem?_eq_some_iff
abbrev aBY:= @List.mem_of_getElem?
abbrev aBZ:= @List.getElem_mem
abbrev aCA:= @List.mem_append
abbrev aCB:= @List.take_of_length_le
abbrev aCC:= @List.getElem?_append_left
abbrev aCD:= @Nat.le_trans
abbrev aCE:= @World.block_lt_of_cell?
abbrev aCF:= @Classical.byContradiction
def I64(n:Int):Prop:=-9223372036854775808≤n∧n≤9223372036854775807
def dY(w:World)(a:Option Addr)(n:Nat)(xs:List Int):Prop:=
 xs.length=n∧n≤17592186044416∧∀k,k<n→∃b o,a=some ⟨b,o,none⟩∧w.cell? ⟨b,o+k,none⟩=some (.int .i64 (xs.getD k 0))∧I64 (xs.getD k 0)
theorem aH{w w':World}(h:Below w.heap.size w w'){p:Addr}{v:Value}(hc:w.cell? p=some v):w'.cell? p=some v:=
 (h.cell (aCE w p hc)).trans hc
theorem dY.ext{w w':World}{a:Option Addr}{n:Nat}{xs:List Int}(h:dY w a n xs)(hb:Below w.heap.size w w'):dY w' a n xs:=
 ⟨h.1,h.2.1,fun k hk=>let ⟨b,o,e,hc,hi⟩:=h.2.2 k hk;⟨b,o,e,aH hb hc,hi⟩⟩
theorem rY{B:Nat}{a w:World}(h:Below B a w)(n:Nat):Below B a (w.drewN n):=⟨h.os,h.tape,h.output,h.size,h.block⟩
theorem bZ{a w:World}(h:Below a.heap.size a w)(n:Nat):Below a.heap.size a (w.drewN n):=rY h n
theorem aA{a b c:World}(h:Below a.heap.size a b)(k:Below b.heap.size b c):Below a.heap.size a c:=h.trans (k.mono h.size)
theorem xR{W w1:World}(hb:Below W.heap.size W w1):(∀b o,b<W.heap.size→w1.cell? ⟨b,o,none⟩=W.cell? ⟨b,o,none⟩)∧(∀b o,b<W.heap.size→w1.frozen? ⟨b,o,none⟩=W.frozen? ⟨b,o,none⟩):=
 ⟨fun b o h=>hb.cell (p:=⟨b,o,none⟩) h,fun b o h=>hb.frozen (p:=⟨b,o,none⟩) h⟩
theorem lM{a b:Bool}(h:a=b):Ending.returned (.bool a)=.returned (.bool b):=by rw[h]
def idx:List Int→Int→Int
 | [],_=>-1
 |y :: l,x=>if y=x then 0 else if idx l x<0 then -1 else idx l x+1
theorem NJ(l:List Int)(x:Int): -1≤idx l x∧idx l x<l.length:=by
 induction l with
 |nil=>simp[idx]
 |cons y l ih=>
  simp only[idx,List.length_cons]
  split
  ·omega
  ·split<;>omega
theorem rS(l:List Int)(x:Int):idx l x<0↔x∉l:=by
 induction l with
 |nil=>simp[idx]
 |cons y l ih=>
  have:=NJ l x;simp only[idx,List.mem_cons,not_or];by_cases h:y=x
  ·simp[h]
  ·rw[if_neg h];have h':¬x=y:=fun e=>h e.symm
   split
   ·simp_all
   ·rename_i hn
    have:x∈l:=by
     by_cases hx:x∈l
     ·exact hx
     ·exact absurd (ih.2 hx) hn
    simp[this];omega
theorem SW(l:List Int)(x:Int)(k:Nat)(hk:k<l.length)(hx:l.getD k 0=x)(hno:∀j,j<k→l.getD j 0≠x):idx l x=k:=by
 induction l generalizing k with
 |nil=>simp at hk
 |cons y l ih=>
  cases k with
  |zero=>simp at hx;simp[idx,hx]
  |succ k=>
   have h0:=hno 0 (by omega);simp at h0;have:=ih k (by simpa using hk) (by simpa using hx) (fun j hj=>by have:=hno (j+1) (by omega);simpa using this);simp only[idx,if_neg h0,this];rw[if_neg (by omega)];omega
theorem WT(l:List Int)(x:Int)(hno:∀j,j<l.length→l.getD j 0≠x):idx l x= -1:=by
 have h:=NJ l x
 have:=(rS l x).2 (fun hx=>by
  obtain⟨j,hj,e⟩:=List.getElem_of_mem hx
  exact hno j hj (by simp[List.getD,hj,e]))
 omega
end

section
open Go.RowKit
def pI{α:Type}(p:α→Bool):List α→Int
 | []=>-1
 |y :: l=>if p y then 0 else if pI p l<0 then -1 else pI p l+1
theorem QW{α:Type}(p:α→Bool)(l:List α): -1≤pI p l∧pI p l<l.length:=by
 induction l with
 |nil=>simp[pI]
 |cons y l ih=>
  simp only[pI,List.length_cons]
  split
  ·omega
  ·split<;>omega
theorem OU{α:Type}(p:α→Bool)(l:List α)(k:Nat)(x:α)(hx:l[k]? =some x)(hp:p x=true)(hno:∀j y,j<k→l[j]? =some y→p y=false):pI p l=k:=by
 induction l generalizing k with
 |nil=>simp at hx
 |cons y l ih=>
  cases k with
  |zero=>simp at hx;subst hx;simp[pI,hp]
  |succ k=>
   have h0:=hno 0 y (by omega) rfl;have:=ih k (by simpa using hx) (fun j z hj hz=>hno (j+1) z (by omega) (by simpa using hz));simp only[pI,h0,this];simp;omega
theorem SX{α:Type}(p:α→Bool)(l:List α)(hno:∀y∈l,p y=false):pI p l= -1:=by
 induction l with
 |nil=>rfl
 |cons y l ih=>simp[pI,hno y (by simp),ih (fun z hz=>hno z (by simp[hz]))]
theorem WU{α:Type}(p:α→Bool)(l:List α):0≤pI p l↔l.any p=true:=by
 induction l with
 |nil=>simp[pI]
 |cons y l ih=>
  have hg:=QW p l;have e:pI p (y :: l)=(if p y then 0 else if pI p l<0 then -1 else pI p l+1):=rfl;rw[e,List.any_cons,Bool.or_eq_true,←ih];by_cases hp:p y=true
  ·simp[hp]
  ·rw[if_neg hp]
   split
   ·constructor
    ·intro h;omega
    ·rintro(h|h)
     ·exact absurd h hp
     ·omega
   ·constructor
    ·intro h;exact .inr (by omega)
    ·intro h;omega
theorem WV{α:Type}(p:α→Bool)(l:List α):decide (0≤pI p l)=l.any p:=by
 rw[Bool.eq_iff_iff,decide_eq_true_eq]
 exact WU p l
theorem aD(w:World)(o:Obj):Below w.heap.size w (w.alloc o):=(aBQ _ w).alloc (aBV _) o
theorem DL(F:Nat)(caps:Array Value)(eF:∀args w,(callFunc F args).run Tryz.prog w=.ok (.enter F args) w)(p:Int→Bool)(a:Option Addr)(n c:Nat)(xs:List Int)(w:World)
  (hp:∀(x:Int) (W:World),x∈xs→Below w.heap.size w W→Calls Tryz.prog F (#[.int .i64 x]++caps) W fun e W'=>e=.returned (.bool (p x))∧Below W.heap.size W W') (h:dY w a n xs):
  Calls Tryz.prog 208 #[.slice a n c,.func (.func F) #[] caps] w fun e w'=>e=.returned (.int .i64 (pI p xs))∧Below w.heap.size w w':=by
 have HL:=aBO h.1
 have hn:=h.2.1
 have H:=aBO h
 have HP:=aBO hp
 clear h hp
 go_enter Tryz.func208,Tryz.ntmps208
 go_wp2
 go_loopw [5,8] (fun _ i wr=>∃(k:Nat),k≤n∧i=.int .i64 k∧Hid (∀j y,j<k→xs[j]? =some y→p y=false)∧Hid (Below w.heap.size w wr)) (fun _ i _=>n-(intOf i).toNat)
 case atStart=>exact⟨0,by omega,rfl,fun j y hj=>absurd hj (by omega),aBQ _ _⟩
 case round=>
  obtain⟨k,hk,rfl,HR,HB⟩:=hrel;by_cases hlt:k<n
  ·obtain⟨b,o,rfl,hcell,hw1,hw2⟩:=(H.out.ext HB.out).2.2 k hlt;have hgk:xs[k]? =some (xs.getD k 0):=by
    have hk':k<xs.length:=by rw[HL.out];exact hlt
    simp[aBT,hk']
   have HG:=aBO hgk;have HM:=aBO (aBY hgk);clear hgk;generalize xs.getD k 0=r at *;by_cases hy:p r=true
   ·have HE:Hid (pI p xs=k):=OU p xs k r HG.out hy HR.out;go_wp2;refine(HP.out r wr HM.out HB.out).mono ?_;rintro e w' ⟨rfl,hb'⟩;have HB':=aBO (aA HB.out hb');clear hb';rw[hy];go_wp2
    go_ret
    exact⟨by rw[HE.out];rfl,HB'.out⟩
   ·have hy':p r=false:=by simpa using hy
    have HE:Hid (∀j z,j<k+1→xs[j]? =some z→p z=false):=fun j z hj hz=>by
     by_cases e:j=k
     ·subst e;rw[HG.out] at hz;injection hz with hz;subst hz;exact hy'
     ·exact HR.out j z (by omega) hz
    go_wp2;refine(HP.out r wr HM.out HB.out).mono ?_;rintro e w' ⟨rfl,hb'⟩;have HB':=aBO (aA HB.out hb');clear hb';rw[hy'];go_wp2
    go_roundw
    case rel=>exact⟨k+1,by omega,by go_num,HE,HB'⟩
    case measure=>simp[intOf];omega
  ·obtain rfl:k=n:=by omega
   have HE:Hid (pI p xs= -1):=SX p xs (fun z hz=>by
    obtain⟨j,hj,e⟩:=List.mem_iff_getElem.1 hz
    exact HR.out j z (by rw[HL.out] at hj;exact hj) (by rw[aBU hj,e]))
   go_wp2
   go_ret
   exact⟨by rw[HE.out];rfl,HB.out⟩
theorem kJ(F:Nat)(caps:Array Value)(eF:∀args w,(callFunc F args).run Tryz.prog w=.ok (.enter F args) w)(p:Int→Bool)(a:Option Addr)(n c:Nat)(xs:List Int)(w:World)
  (hp:∀(x:Int) (W:World),x∈xs→Below w.heap.size w W→Calls Tryz.prog F (#[.int .i64 x]++caps) W fun e W'=>e=.returned (.bool (p x))∧Below W.heap.size W W') (h:dY w a n xs):
  Calls Tryz.prog 168 #[.slice a n c,.func (.func F) #[] caps] w fun e w'=>e=.returned (.bool (xs.any p))∧Below w.heap.size w w':=by
 have HA:=aBO (WV p xs)
 have hg:=QW p xs
 have HP:=aBO hp
 have H:=aBO h
 clear hp h
 go_enter Tryz.func168,Tryz.ntmps168
 go_wp2_with (go_at_call 208;refine(DL F caps eF p a n c xs w HP.out H.out).mono ?_;rintro e w' ⟨rfl,hb'⟩;have HB':=aBO hb';clear hb')
 go_ret
 exact⟨by rw[←HA.out];rfl,HB'.out⟩
end

section
structure aT where
 kind:Int
 a:Int
 t0:Int
 t1:Int
abbrev fP:aT:=⟨0,0,0,0⟩
def sZ(n:Int):Bool:=decide (1≤n∧n≤200)
def eH(t:aT):Bool:=
 if t.kind=1 then decide (t.a=0∧t.t1=0) else if t.kind=2 then sZ t.a
 else if t.kind=3 then (decide (t.a=0)||sZ t.a)&&decide (t.t0=0∧t.t1=0) else decide (t.kind=4∧t.a=0∧t.t0=0∧t.t1=0)
def toD(t:aT):List Int:=if eH t then (if t.kind=1 then [t.t0] else if t.kind=2 then [t.t0,t.t1] else []) else []
theorem sG(t:aT):(toD t).length≤2:=by unfold toD;repeat (first|split|simp)
def nx(ts:List aT)(k:Nat):List Nat:=(toD (ts.getD k fP)).map Int.toNat
def pv(ts:List aT)(y:Nat):List Nat:=(List.range ts.length).flatMap fun k=>((nx ts k).filter (fun x=>x==y)).map fun _=>k
theorem sJ(ts:List aT)(k:Nat)(h:ts.length≤k):nx ts k= []:=by
 have:ts.getD k fP=fP:=by rw[aBT,List.getElem?_eq_none h];rfl
 rw[nx,this];rfl
theorem nJ(ts:List aT)(y k:Nat):k∈pv ts y↔y∈nx ts k:=by
 simp only[pv,List.mem_flatMap,List.mem_range,List.mem_map,List.mem_filter,beq_iff_eq]
 constructor
 ·rintro⟨j,_,x,⟨h,rfl⟩,rfl⟩;exact h
 ·intro h;refine⟨k,?_,y,⟨h,rfl⟩,rfl⟩;apply aCF;intro hk;rw[sJ ts k (by omega)] at h;cases h
def fS(ts:List aT):Bool:=decide (1≤ts.length∧ts.length≤200)&&ts.all fun t=>eH t&&(toD t).all fun x=>decide (1≤x∧x<ts.length)
theorem cY(ts:List aT):fS ts=true↔(1≤ts.length∧ts.length≤200)∧∀t∈ts,eH t=true∧∀x∈toD t,1≤x∧x<ts.length:=by
 simp[fS]
theorem lJ{ts:List aT}(h:fS ts=true){k y:Nat}(hy:y∈nx ts k):1≤y∧y<ts.length:=by
 obtain⟨_,h⟩:=(cY ts).1 h
 by_cases hk:k<ts.length
 ·have hm:ts.getD k fP∈ts:=by rw[aBT,aBU hk];exact aBZ _
  rw[nx,List.mem_map] at hy;obtain⟨x,hx,rfl⟩:=hy;have:=(h _ hm).2 x hx;omega
 ·rw[sJ ts k (by omega)] at hy;cases hy
inductive Reach (next:Nat→List Nat) (inn:Nat→Bool) (b:Nat):Nat→Prop
 |one {y:Nat}:y∈next b→inn y=true→Reach next inn b y
 |step {x y:Nat}:Reach next inn b x→y∈next x→inn y=true→Reach next inn b y
theorem Reach.inn{next:Nat→List Nat}{inn:Nat→Bool}{b y:Nat}(h:Reach next inn b y):inn y=true:=by cases h<;>assumption
theorem Reach.trans{next:Nat→List Nat}{inn:Nat→Bool}{a b c:Nat}(h:Reach next inn a b)(k:Reach next inn b c):Reach next inn a c:=by
 induction k with
 |one hy hi=>exact .step h hy hi
 |step _ hy hi ih=>exact .step ih hy hi
theorem Reach.mono{next:Nat→List Nat}{inn inn':Nat→Bool}(hs:∀y,inn y=true→inn' y=true){b y:Nat}(h:Reach next inn b y):Reach next inn' b y:=by
 induction h with
 |one hy hi=>exact .one hy (hs _ hi)
 |step _ hy hi ih=>exact .step ih hy (hs _ hi)
theorem Reach.rev{next prev:Nat→List Nat}(hp:∀x y,y∈next x→x∈prev y){inn:Nat→Bool}{b y:Nat}(hb:inn b=true)(h:Reach next inn b y):Reach prev inn y b:=by
 induction h with
 |one hy hi=>exact .one (hp _ _ hy) hb
 | @step x y hx hy hi ih=>exact(Reach.one (hp _ _ hy) hx.inn).trans ih
structure nH(next:Nat→List Nat)(inn:Nat→Bool)(b:Nat)(todo:List Nat)(s:Nat→Bool)(x:Option (Nat×Nat)):Prop where
 sound:∀y,s y=true→Reach next inn b y
 src:∀z∈todo,z=b∨s z=true
 cur:∀z j,x=some (z,j)→z=b∨s z=true
 closed:∀z,(z=b∨s z=true)→z∈todo∨(∃j,x=some (z,j)∧∀y∈(next z).take j,inn y=true→s y=true)∨∀y∈next z,inn y=true→s y=true
section
variable {next:Nat→List Nat} {inn:Nat→Bool} {b:Nat} {todo:List Nat} {s:Nat→Bool}
theorem nH.start(next:Nat→List Nat)(inn:Nat→Bool)(b:Nat):nH next inn b [b] (fun _=>false) none where
 sound:=fun y h=>by cases h
 src:=fun z h=>by simp at h;exact .inl h
 cur:=fun z j h=>by cases h
 closed:=fun z h=>h.elim (fun e=>.inl (by simp[e])) (fun h=>by cases h)
theorem nH.take(h:nH next inn b todo s none)(x:Nat)(todo':List Nat)(hm:∀z,z∈todo↔z=x∨z∈todo'):nH next inn b todo' s (some (x,0)) where
 sound:=h.sound
 src:=fun z hz=>h.src z ((hm z).2 (.inr hz))
 cur:=fun z j e=>by cases e;exact h.src x ((hm x).2 (.inl rfl))
 closed:=fun z hz=>by
  rcases h.closed z hz with h1|⟨j,h1,_⟩|h1
  ·rcases(hm z).1 h1 with rfl|h2
   ·exact .inr (.inl ⟨0,rfl,fun y hy=>by simp at hy⟩)
   ·exact .inl h2
  ·cases h1
  ·exact .inr (.inr h1)
theorem takeN{l:List Nat}{j:Nat}(hj:j<l.length){y:Nat}(hy:y∈l.take (j+1)):y∈l.take j∨y=l.getD j 0:=by
 rw[List.take_add_one,aBU hj,aCA] at hy
 rcases hy with h|h
 ·exact .inl h
 ·exact .inr (by simpa[aBT,hj] using h)
theorem nH.skip{x j:Nat}(h:nH next inn b todo s (some (x,j)))(hj:j<(next x).length)(hn:inn ((next x).getD j 0)=true→s ((next x).getD j 0)=true):nH next inn b todo s (some (x,j+1)) where
 sound:=h.sound
 src:=h.src
 cur:=fun z k e=>by cases e;exact h.cur x j rfl
 closed:=fun z hz=>by
  rcases h.closed z hz with h1|⟨k,h1,h2⟩|h1
  ·exact .inl h1
  ·cases h1;refine .inr (.inl ⟨j+1,rfl,fun y hy hi=>?_⟩);rcases takeN hj hy with h3|rfl
   ·exact h2 y h3 hi
   ·exact hn hi
  ·exact .inr (.inr h1)
theorem nH.push{x j:Nat}(h:nH next inn b todo s (some (x,j)))(hj:j<(next x).length)(hi:inn ((next x).getD j 0)=true)(todo':List Nat)(hm:∀z,z∈todo'↔z=(next x).getD j 0∨z∈todo)(s':Nat→Bool)(hs:∀z,s' z=true↔z=(next x).getD j 0∨s z=true):
  nH next inn b todo' s' (some (x,j+1)) where
 sound:=fun y hy=>by
  rcases(hs y).1 hy with rfl|h1
  ·have hx:(next x).getD j 0∈next x:=by rw[aBT,aBU hj];exact aBZ _
   rcases h.cur x j rfl with rfl|h2
   ·exact .one hx hi
   ·exact .step (h.sound x h2) hx hi
  ·exact h.sound y h1
 src:=fun z hz=>by
  rcases(hm z).1 hz with rfl|h1
  ·exact .inr ((hs _).2 (.inl rfl))
  ·exact(h.src z h1).imp id (fun h2=>(hs z).2 (.inr h2))
 cur:=fun z k e=>by cases e;exact(h.cur x j rfl).imp id (fun h2=>(hs x).2 (.inr h2))
 closed:=fun z hz=>by
  have hz':z=(next x).getD j 0∨(z=b∨s z=true):=by
   rcases hz with rfl|h1
   ·exact .inr (.inl rfl)
   ·exact((hs z).1 h1).imp id .inr
  rcases hz' with rfl|hz'
  ·exact .inl ((hm _).2 (.inl rfl))
  ·rcases h.closed z hz' with h1|⟨k,h1,h2⟩|h1
   ·exact .inl ((hm z).2 (.inr h1))
   ·cases h1;refine .inr (.inl ⟨j+1,rfl,fun y hy hi=>?_⟩);rcases takeN hj hy with h3|rfl
    ·exact(hs y).2 (.inr (h2 y h3 hi))
    ·exact(hs _).2 (.inl rfl)
   ·exact .inr (.inr fun y hy hi=>(hs y).2 (.inr (h1 y hy hi)))
theorem nH.fin{x j:Nat}(h:nH next inn b todo s (some (x,j)))(hj:(next x).length≤j):nH next inn b todo s none where
 sound:=h.sound
 src:=h.src
 cur:=fun z k e=>by cases e
 closed:=fun z hz=>by
  rcases h.closed z hz with h1|⟨k,h1,h2⟩|h1
  ·exact .inl h1
  ·cases h1;rw[aCB hj] at h2;exact .inr (.inr h2)
  ·exact .inr (.inr h1)
theorem nH.done(h:nH next inn b [] s none)(y:Nat):s y=true↔Reach next inn b y:=by
 refine⟨h.sound y,fun hr=>?_⟩
 have hc:∀z,(z=b∨s z=true)→∀y∈next z,inn y=true→s y=true:=fun z hz=>by
  rcases h.closed z hz with h1|⟨k,h1,_⟩|h1
  ·cases h1
  ·cases h1
  ·exact h1
 induction hr with
 |one hy hi=>exact hc b (.inl rfl) _ hy hi
 |step _ hy hi ih=>exact hc _ (.inr ih) _ hy hi
end
def zX(inn:Nat→Bool)(ts:List Nat×List Nat)(y:Nat):List Nat×List Nat:=if inn y&& !ts.2.contains y then (y :: ts.1,y :: ts.2) else ts
def dfs(next:Nat→List Nat)(inn:Nat→Bool):Nat→List Nat→List Nat→List Nat
 |0,_,seen=>seen
 |_+1,[],seen=>seen
 |f+1,x :: todo,seen=>dfs next inn f ((next x).foldl (zX inn) (todo,seen)).1 ((next x).foldl (zX inn) (todo,seen)).2
def UH(next:Nat→List Nat)(inn:Nat→Bool)(b:Nat):List Nat:=if inn b then dfs next inn 202 [b] [] else []
def bL(next:Nat→List Nat)(inn:Nat→Bool)(b:Nat):Nat→Bool:=fun y=>(UH next inn b).contains y
def cA(s:Nat→Bool):Prop:=∀y,s y=true→y<200
theorem XB{next:Nat→List Nat}{inn:Nat→Bool}{b x:Nat}(hc:cA inn):∀(m j:Nat) (todo seen:List Nat),(next x).length-j=m→nH next inn b todo (fun y=>seen.contains y) (some (x,j))→seen.Nodup→(∀y∈seen,y<200)→
  ∃todo' seen',((next x).drop j).foldl (zX inn) (todo,seen)=(todo',seen')∧nH next inn b todo' (fun y=>seen'.contains y) none∧seen'.Nodup∧(∀y∈seen',y<200)∧todo'.length+seen.length=todo.length+seen'.length:=by
 intro m
 induction m with
 |zero=>
  intro j todo seen hm h hn hl;rw[List.drop_of_length_le (by omega)];exact⟨todo,seen,rfl,h.fin (by omega),hn,hl,by omega⟩
 |succ m ih=>
  intro j todo seen hm h hn hl;have hj:j<(next x).length:=by omega
  have hg:(next x).getD j 0=(next x)[j]:=by simp[aBT,hj]
  rw[List.drop_eq_getElem_cons hj,List.foldl_cons,←hg];by_cases hp:(inn ((next x).getD j 0)&& !seen.contains ((next x).getD j 0))=true
  ·have e:zX inn (todo,seen) ((next x).getD j 0)=((next x).getD j 0 :: todo,(next x).getD j 0 :: seen):=by unfold zX;rw[if_pos hp]
   rw[e];simp only[Bool.and_eq_true,Bool.not_eq_true'] at hp;obtain⟨hi,hs⟩:=hp;have hns:(next x).getD j 0∉seen:=by simpa using hs
   obtain⟨t',s',e1,e2,e3,e4,e5⟩:=ih (j+1) ((next x).getD j 0 :: todo) ((next x).getD j 0 :: seen) (by omega)
    (h.push hj hi _ (fun z=>by simp) _ (fun z=>by simp)) (List.nodup_cons.2 ⟨hns,hn⟩) (fun y hy=>(List.mem_cons.1 hy).elim (fun e=>e▸hc _ hi) (hl y))
   exact⟨t',s',e1,e2,e3,e4,by simp at e5;omega⟩
  ·have e:zX inn (todo,seen) ((next x).getD j 0)=(todo,seen):=by unfold zX;rw[if_neg hp]
   rw[e]
   exact ih (j+1) todo seen (by omega) (h.skip hj (fun hi=>by
    cases e2:seen.contains ((next x).getD j 0) with
    |true=>rfl
    |false=>exact absurd (by rw[hi,e2];rfl) hp)) hn hl
theorem nT:∀(N:Nat) (l:List Nat),l.Nodup→(∀y∈l,y<N)→l.length≤N:=by
 intro N
 induction N with
 |zero=>
  intro l _ h;cases l with
  |nil=>simp
  |cons x l=>have:=h x (by simp);omega
 |succ N ih=>
  intro l hn h
  have h1:=ih (l.filter fun y=>y != N) (hn.filter _) (fun y hy=>by
   simp at hy;have:=h y hy.1
   omega)
  have h2:l.length≤(l.filter fun y=>y != N).length+1:=by
   clear ih h h1
   induction l with
   |nil=>simp
   |cons x l ih=>
    rw[List.nodup_cons] at hn;by_cases e:x=N
    ·subst e;have:l.filter (fun y=>y != x)=l:=by
      rw[List.filter_eq_self];intro y hy;have:y≠x:=fun e=>hn.1 (e▸hy);simpa using this
     simp[this]
    ·have:=ih hn.2;simp[e];omega
  omega
theorem YX{next:Nat→List Nat}{inn:Nat→Bool}{b:Nat}(hc:cA inn):∀(f:Nat) (todo seen:List Nat),nH next inn b todo (fun y=>seen.contains y) none→seen.Nodup→(∀y∈seen,y<200)→todo.length+200≤f+seen.length→
  ∀y,(dfs next inn f todo seen).contains y=true↔Reach next inn b y:=by
 intro f
 induction f with
 |zero=>
  intro todo seen h hn hl hf;have:=nT 200 seen hn hl;cases todo with
  |nil=>exact fun y=>h.done y
  |cons x todo=>simp at hf;omega
 |succ f ih=>
  intro todo seen h hn hl hf;cases todo with
  |nil=>exact fun y=>h.done y
  |cons x todo=>
   obtain⟨t',s',e1,e2,e3,e4,e5⟩:=XB (next:=next) (inn:=inn) (b:=b) (x:=x) hc _ 0 todo seen rfl (h.take x todo (fun z=>by simp)) hn hl;rw[List.drop_zero] at e1;simp only[dfs,e1];exact ih t' s' e2 e3 e4 (by simp at hf;omega)
theorem fG{next:Nat→List Nat}{inn:Nat→Bool}(hc:cA inn)(b y:Nat):bL next inn b y=true↔inn b=true∧Reach next inn b y:=by
 unfold bL UH
 by_cases hb:inn b=true
 ·rw[if_pos hb];rw[YX hc 202 [b] [] (by simpa using nH.start next inn b) (by simp) (by simp) (by simp)];simp[hb]
 ·rw[if_neg hb];simp[hb]
theorem rM{next:Nat→List Nat}{inn:Nat→Bool}(hc:cA inn)(b:Nat):cA (bL next inn b):=fun y h=>hc y ((fG hc b y).1 h).2.inn
theorem IJ{next:Nat→List Nat}{inn:Nat→Bool}(hc:cA inn){b:Nat}(hb:inn b=true){s:Nat→Bool}(h:nH next inn b [] s none):s=bL next inn b:=by
 funext y
 rw[Bool.eq_iff_iff,h.done y,fG hc]
 simp[hb]
theorem IK{next:Nat→List Nat}{inn:Nat→Bool}{b:Nat}(hb:inn b=false):bL next inn b=fun _=>false:=by
 funext y
 simp[bL,UH,hb]
def aL(n:Nat):Nat→Bool:=fun k=>decide (k<n)
def bW(s:Nat→Bool)(b:Nat):Nat→Bool:=fun k=>k != b&&s k
def ofS(l:List Int):Nat→Bool:=fun j=>decide (j<200)&&l.contains (j:Int)
def aZ(s:Nat→Bool):List Nat:=(List.range 200).filter s
def aO(l:List Nat):List Int:=l.map fun(k:Nat)=>(k:Int)
theorem eJ{n:Nat}(h:n≤200):cA (aL n):=fun y hy=>by simp[aL] at hy;omega
theorem jQ{s:Nat→Bool}(h:cA s)(b:Nat):cA (bW s b):=fun y hy=>by simp[bW] at hy;exact h y hy.2
theorem AM(l:List Int):cA (ofS l):=fun y hy=>by simp[ofS] at hy;exact hy.1
theorem eG{s:Nat→Bool}(h:cA s)(y:Nat):y∈aZ s↔s y=true:=by
 simp[aZ]
 exact fun h1=>h y h1
def bU(ts:List aT):Bool:=fS ts&&(List.range ts.length).all fun k=>k==0||bL (nx ts) (aL ts.length) 0 k
def bT(ts:List aT)(b:Nat)(inn:Nat→Bool):Nat→Bool:=fun k=>bL (nx ts) inn b k&&bL (pv ts) inn b k
def aM(ts:List aT)(s:Nat→Bool):List Nat:=(aZ s).filter fun b=>decide (b<ts.length)&&(pv ts b).any fun x=> !s x
theorem oL{ts:List aT}{inn:Nat→Bool}(h:cA inn)(b:Nat):cA (bT ts b inn):=fun y hy=>by
 simp only[bT,Bool.and_eq_true] at hy
 exact rM h b y hy.1
theorem KV{ts:List aT}{inn:Nat→Bool}{b y:Nat}(hb:inn b=true)(hy:inn y=true):Reach (pv ts) inn b y↔Reach (nx ts) inn y b:=
 ⟨fun h=>h.rev (fun x y h=>(nJ ts x y).1 h) hb,fun h=>h.rev (fun x y h=>(nJ ts y x).2 h) hy⟩
theorem eY{ts:List aT}{inn:Nat→Bool}(hc:cA inn)(b y:Nat):bT ts b inn y=true↔inn b=true∧Reach (nx ts) inn b y∧Reach (nx ts) inn y b:=by
 simp only[bT,Bool.and_eq_true,fG hc]
 constructor
 ·rintro⟨⟨h1,h2⟩,_,h3⟩;exact⟨h1,h2,(KV h1 h2.inn).1 h3⟩
 ·rintro⟨h1,h2,h3⟩;exact⟨⟨h1,h2⟩,h1,(KV h1 h2.inn).2 h3⟩
end

section
def zU(x:Int):List Int→List Int
 | []=> [x]
 |y :: l=>if x<y then x :: y :: l else if x=y then y :: l else y :: zU x l
def oR:List Int→List Int
 | []=> []
 |x :: l=>zU x (oR l)
theorem JD(x z:Int)(l:List Int):z∈zU x l↔z=x∨z∈l:=by
 induction l with
 |nil=>simp[zU]
 |cons y l ih=>
  simp only[zU]
  split
  ·simp
  ·split
   ·rename_i _ e;subst e;simp
   ·simp only[List.mem_cons,ih];constructor
    ·rintro(h|h|h)<;>simp[h]
    ·rintro(h|h|h)<;>simp[h]
theorem xA(z:Int)(l:List Int):z∈oR l↔z∈l:=by
 induction l with
 |nil=>simp[oR]
 |cons x l ih=>rw[oR,JD,ih,List.mem_cons]
theorem LB(x:Int)(l:List Int)(h:l.Pairwise (· < ·)):(zU x l).Pairwise (· < ·):=by
 induction l with
 |nil=>simp[zU]
 |cons y l ih=>
  rw[List.pairwise_cons] at h;simp only[zU]
  split
  ·rename_i hx
   rw[List.pairwise_cons];refine⟨fun z hz=>?_,List.pairwise_cons.2 h⟩;rcases List.mem_cons.1 hz with rfl|hz
   ·exact hx
   ·have:=h.1 z hz;omega
  ·split
   ·exact List.pairwise_cons.2 h
   ·rw[List.pairwise_cons];refine⟨fun z hz=>?_,ih h.2⟩;rcases(JD x z l).1 hz with rfl|hz
    ·omega
    ·exact h.1 z hz
theorem wA(l:List Int):(oR l).Pairwise (· < ·):=by
 induction l with
 |nil=>simp[oR]
 |cons x l ih=>exact LB x _ ih
theorem RR:∀(l l':List Int),l.Pairwise (· < ·)→l'.Pairwise (· < ·)→(∀x,x∈l↔x∈l')→l=l':=by
 intro l
 induction l with
 |nil=>
  intro l' _ _ h;cases l' with
  |nil=>rfl
  |cons y l'=>have:=(h y).2 (by simp);cases this
 |cons x l ih=>
  intro l' h1 h2 h;cases l' with
  |nil=>have:=(h x).1 (by simp);cases this
  |cons y l'=>
   rw[List.pairwise_cons] at h1 h2;have e:x=y:=by
    rcases List.mem_cons.1 ((h x).1 (by simp)) with e|hx
    ·exact e
    ·rcases List.mem_cons.1 ((h y).2 (by simp)) with e|hy
     ·exact e.symm
     ·have:=h2.1 x hx;have:=h1.1 y hy;omega
   subst e;rw[ih l' h1.2 h2.2 (fun z=>?_)];have hz:=h z;simp only[List.mem_cons] at hz;constructor
   ·intro hm;rcases hz.1 (.inr hm) with e|h3
    ·subst e;have:=h1.1 z hm;omega
    ·exact h3
   ·intro hm;rcases hz.2 (.inr hm) with e|h3
    ·subst e;have:=h2.1 z hm;omega
    ·exact h3
theorem WO(x:Int)(l:List Int):(zU x l).length≤l.length+1:=by
 induction l with
 |nil=>simp[zU]
 |cons y l ih=>
  simp only[zU]
  split
  ·simp
  ·split
   ·simp
   ·simp only[List.length_cons];omega
theorem ST(l:List Int):(oR l).length≤l.length:=by
 induction l with
 |nil=>simp[oR]
 |cons x l ih=>have:=WO x (oR l);simp[oR];omega
structure bI where
 kind:Int
 parent:Int
 blocks:List Int
abbrev fC:bI:=⟨0,0,[]⟩
abbrev fJ(l:List bI)(n:Nat):Int:=(l.getD n fC).parent
abbrev eW(l:List bI)(n:Nat):List Int:=(l.getD n fC).blocks
def cD(l:List bI):Bool:=(List.range l.length).all fun k=>decide (-1≤fJ l k∧fJ l k<k)
theorem dH(l:List bI):cD l=true↔∀k,k<l.length→-1≤fJ l k∧fJ l k<k:=by simp[cD]
def uS(l:List bI)(k:Nat):Nat→Nat→Bool
 |0,n=>n==k
 |f+1,n=>n==k||(decide (0≤fJ l n)&&uS l k f (fJ l n).toNat)
def fX(l:List bI)(k n:Nat):Bool:=uS l k n n
theorem XI{l:List bI}(hp:cD l=true)(k:Nat):∀(n f:Nat),n<l.length→n≤f→uS l k f n=uS l k n n:=by
 rw[dH] at hp
 intro n
 induction n using Nat.strongRecOn with
 |_ n ih=>
  intro f hn hf;have h1:=hp n hn;cases f with
  |zero=>obtain rfl:n=0:=by omega
         rfl
  |succ f=>
   cases n with
   |zero=>
    have h2:¬0≤fJ l 0:=by omega
    simp[uS,h2]
   |succ n=>
    simp only[uS];by_cases h2:0≤fJ l (n+1)
    ·rw[ih (fJ l (n+1)).toNat (by omega) f (by omega) (by omega),ih (fJ l (n+1)).toNat (by omega) n (by omega) (by omega)]
    ·simp[h2]
theorem iF{l:List bI}(hp:cD l=true)(k n:Nat)(hn:n<l.length):fX l k n=(n==k||(decide (0≤fJ l n)&&fX l k (fJ l n).toNat)):=by
 have h1:=(dH l).1 hp n hn
 unfold fX
 cases n with
 |zero=>
  have h2:¬0≤fJ l 0:=by omega
  simp[uS,h2]
 |succ n=>
  simp only[uS];by_cases h2:0≤fJ l (n+1)
  ·rw[XI hp k (fJ l (n+1)).toNat n (by omega) (by omega)]
  ·simp[h2]
theorem jV(l:List bI)(k:Nat):fX l k k=true:=by unfold fX;cases k<;>simp[uS]
theorem pR{l:List bI}(hp:cD l=true)(k:Nat):∀n,n<l.length→fX l k n=true→k≤n:=by
 intro n
 induction n using Nat.strongRecOn with
 |_ n ih=>
  intro hn h;have h1:=(dH l).1 hp n hn;rw[iF hp k n hn,Bool.or_eq_true] at h;rcases h with h|h
  ·have:n=k:=by simpa using h
   omega
  ·simp only[Bool.and_eq_true,decide_eq_true_eq] at h;have:=ih _ (by omega) (by omega) h.2;omega
theorem MJ{l:List bI}(hp:cD l=true)(a b:Nat)(hab:a≤b):∀n,n<l.length→fX l a n=true→fX l b n=true→fX l a b=true:=by
 intro n
 induction n using Nat.strongRecOn with
 |_ n ih=>
  intro hn ha hb;have h1:=(dH l).1 hp n hn;have hb0:=hb;rw[iF hp b n hn,Bool.or_eq_true] at hb;rcases hb with hb|hb
  ·have:n=b:=by simpa using hb
   subst this;exact ha
  ·simp only[Bool.and_eq_true,decide_eq_true_eq] at hb;rw[iF hp a n hn,Bool.or_eq_true] at ha;rcases ha with ha|ha
   ·have e:n=a:=by simpa using ha
    have:=pR hp b n hn hb0;obtain rfl:a=b:=by omega
    exact jV l a
   ·simp only[Bool.and_eq_true,decide_eq_true_eq] at ha;exact ih _ (by omega) (by omega) ha.2 hb.2
theorem MI{l:List bI}(hp:cD l=true)(a b:Nat)(hab:fX l a b=true):∀n,n<l.length→fX l b n=true→fX l a n=true:=by
 intro n
 induction n using Nat.strongRecOn with
 |_ n ih=>
  intro hn hb;have h1:=(dH l).1 hp n hn;rw[iF hp b n hn,Bool.or_eq_true] at hb;rcases hb with hb|hb
  ·have:n=b:=by simpa using hb
   subst this;exact hab
  ·simp only[Bool.and_eq_true,decide_eq_true_eq] at hb;rw[iF hp a n hn,ih _ (by omega) (by omega) hb.2];simp[hb.1]
def nW(l:List bI)(k m:Nat):List Int:=eW l k++((List.range m).filter fun n=>n != k&&fX l k n).flatMap (eW l)
def fK(l:List bI)(k:Int):List Int:=if 0≤k∧k<l.length∧cD l=true then oR (nW l k.toNat l.length) else []
theorem JC(l:List bI)(k:Nat)(hk:k<l.length)(x:Int):x∈nW l k l.length↔∃n,n<l.length∧fX l k n=true∧x∈eW l n:=by
 simp only[nW,aCA,List.mem_flatMap,List.mem_filter,List.mem_range,Bool.and_eq_true,bne_iff_ne,ne_eq]
 constructor
 ·rintro(h|⟨n,⟨h1,_,h2⟩,h3⟩)
  ·exact⟨k,hk,jV l k,h⟩
  ·exact⟨n,h1,h2,h3⟩
 ·rintro⟨n,h1,h2,h3⟩;by_cases e:n=k
  ·subst e;exact .inl h3
  ·exact .inr ⟨n,⟨h1,e,h2⟩,h3⟩
theorem vM(l:List bI)(k:Nat)(hk:k<l.length)(hp:cD l=true)(x:Int):x∈fK l k↔∃n,n<l.length∧fX l k n=true∧x∈eW l n:=by
 rw[fK,if_pos ⟨by omega,by omega,hp⟩,xA]
 exact JC l k hk x
def iC(l:List bI)(b:Nat):List Nat:=(List.range l.length).flatMap fun k=>((eW l k).filter fun x=>x==(b:Int)).map fun _=>k
def lU(l:List bI)(n:Nat):Bool:=(List.range n).all fun b=>(iC l b).length==1
def rA(l:List bI)(b:Nat):Nat:=(iC l b).headD 0
def nL(l:List bI)(n:Nat):List Int:=(List.range n).map fun(b:Nat)=>(rA l b:Int)
def eqS(f g:Nat→Bool):Bool:=(List.range 200).all fun k=>f k==g k
theorem qG{f g:Nat→Bool}(hf:cA f)(hg:cA g):eqS f g=true↔f=g:=by
 simp only[eqS,List.all_eq_true,List.mem_range,beq_iff_eq]
 constructor
 ·intro h
  funext k
  by_cases hk:k<200
  ·exact h k hk
  ·have h1:f k=false:=by
    cases e:f k with
    |false=>rfl
    |true=>exact absurd (hf k e) hk
   have h2:g k=false:=by
    cases e:g k with
    |false=>rfl
    |true=>exact absurd (hg k e) hk
   rw[h1,h2]
 ·rintro rfl k _;rfl
def iD(ts:List aT)(bs:List Int)(inn:Nat→Bool):Bool:=bs.any fun b=>bT ts b.toNat inn b.toNat
def cU(ts:List aT)(s:Nat→Bool):Bool:=match aZ s with
 | []=>true
 |b :: _=>eqS (bT ts b s) s
def nG(t:bI)(e:List Nat):Bool:=e.length==1&&t.blocks.contains ((e.headD 0:Nat):Int)
def dC(ts:List aT)(t:bI)(s:Nat→Bool):Bool:=
 if t.kind=3 then decide (1<(aM ts s).length)&&cU ts s
 else if t.kind=2 then nG t (aM ts s)&&cU ts s&& !iD ts t.blocks (bW s ((aM ts s).headD 0))
 else if t.kind=4 then nG t (aM ts s)&& !iD ts t.blocks s
 else if t.kind=1 then !iD ts t.blocks s else false
def iN(n:Nat)(bs:List Int):Bool:=(List.range bs.length).all fun i=>decide (0≤bs.getD i 0∧bs.getD i 0<n)&&(i==0||decide (bs.getD (i-1) 0<bs.getD i 0))
def eV(n:Nat)(l:List bI)(k:Nat):Bool:=
 let t:=l.getD k fC
 !(((k==0) != (t.kind==1))||((k==0) != (t.parent== -1))||(t.blocks.length==0)||(decide (0<k)&&((l.getD t.parent.toNat fC).kind==3)))&&iN n t.blocks
def iH(l:List bI)(k:Nat):Nat→Bool:=ofS (fK l k)
def cZ(ts:List aT)(l:List bI):Bool:=
 bU ts&&decide (l.length≤200)&&cD l&&lU l ts.length&&(rA l 0==0)&&
  (List.range l.length).all fun k=>eV ts.length l k&&dC ts (l.getD k fC) (iH l k)
theorem vW{ts:List aT}{s:Nat→Bool}(hs:cA s):cU ts s=true↔∀b y,s b=true→s y=true→Reach (nx ts) s b y:=by
 unfold cU
 cases h:aZ s with
 |nil=>
  simp only[true_iff];intro b y hb;have:=(eG hs b).2 hb;rw[h] at this;cases this
 |cons b l=>
  have hb:s b=true:=(eG hs b).1 (by rw[h];simp);simp only;rw[qG (oL hs b) hs];constructor
  ·intro e x y hx hy;have h1:bT ts b s x=true:=by rw[e];exact hx
   have h2:bT ts b s y=true:=by rw[e];exact hy
   exact((eY hs b x).1 h1).2.2.trans ((eY hs b y).1 h2).2.1
  ·intro h2
   funext y
   rw[Bool.eq_iff_iff,eY hs];constructor
   ·exact fun h3=>h3.2.1.inn
   ·exact fun hy=>⟨hb,h2 b y hb hy,h2 y b hy hb⟩
theorem vY{ts:List aT}{s:Nat→Bool}(hs:cA s):cU ts s=(aZ s).all fun b=>eqS (bL (nx ts) s b) s:=by
 rw[Bool.eq_iff_iff,vW hs,List.all_eq_true]
 constructor
 ·intro h b hb;have hb:=(eG hs b).1 hb;rw[qG (rM hs b) hs]
  funext y
  rw[Bool.eq_iff_iff,fG hs];exact⟨fun h3=>h3.2.inn,fun hy=>⟨hb,h b y hb hy⟩⟩
 ·intro h b y hb hy;have:=h b ((eG hs b).2 hb);rw[qG (rM hs b) hs] at this;have h2:bL (nx ts) s b y=true:=by rw[this];exact hy
  exact((fG hs b y).1 h2).2
theorem AH{ts:List aT}{s:Nat→Bool}(hs:cA s)(b:Nat):bT ts b s b=bL (nx ts) s b b:=by
 rw[Bool.eq_iff_iff,eY hs,fG hs]
 exact⟨fun h=>⟨h.1,h.2.1⟩,fun h=>⟨h.1,h.2,h.2⟩⟩
end

section
open Go.RowKit
theorem NV(a:Option Addr)(n cap:Nat)(xs:List Int)(x:Int)(w:World)(h:dY w a n xs):
  Calls Tryz.prog 195 #[.slice a n cap,.int .i64 x] w fun e w'=>e=.returned (.int .i64 (idx xs x))∧w=w':=by
 obtain⟨hl,hn,hc⟩:=h
 have HL:=aBO hl
 have HC:=aBO hc
 clear hl hc
 go_enter Tryz.func195,Tryz.ntmps195
 go_wp2
 go_loop [5,8] (fun _ i=>∃(k:Nat),k≤n∧i=.int .i64 k∧Hid (∀j,j<k→xs.getD j 0≠x)) (fun _ i=>n-(intOf i).toNat)
 case atStart=>exact⟨0,by omega,rfl,fun j hj=>absurd hj (by omega)⟩
 case round=>
  obtain⟨k,hk,rfl,HR⟩:=hrel;by_cases hlt:k<n
  ·obtain⟨b,o,rfl,hcell,hw1,hw2⟩:=HC.out k hlt;by_cases he:x=xs.getD k 0
   ·have HE:Hid (idx xs x=k):=SW xs x k (by rw[HL.out];exact hlt) he.symm HR.out;have hb:(x==xs.getD k 0)=true:=by simpa using he
    generalize xs.getD k 0=y at *;clear he;go_wp2
    go_ret
    exact⟨by rw[HE.out];rfl,rfl⟩
   ·have HE:Hid (∀j,j<k+1→xs.getD j 0≠x):=fun j hj=>by
     by_cases hjk:j=k
     ·subst hjk;exact fun e=>he e.symm
     ·exact HR.out j (by omega)
    have hb:(x==xs.getD k 0)=false:=by simpa using he
    generalize xs.getD k 0=y at *;clear he;go_wp2
    go_round
    case rel=>exact⟨k+1,by omega,by go_num,HE⟩
    case measure=>simp[intOf];omega
  ·go_wp2
   go_ret
   have:k=n:=by omega
   subst this;exact⟨by rw[WT xs x (by rw[HL.out];exact HR.out)];rfl,rfl⟩
theorem pF(a:Option Addr)(n cap:Nat)(xs:List Int)(x:Int)(w:World)(h:dY w a n xs):
  Calls Tryz.prog 159 #[.slice a n cap,.int .i64 x] w fun e w'=>e=.returned (.bool (decide (0≤idx xs x)))∧w=w':=by
 have hi:=NJ xs x
 have H:=aBO h
 clear h
 go_enter Tryz.func159,Tryz.ntmps159
 go_wp2_with (go_at_call 195;refine(NV a n cap xs x w H.out).mono ?_;rintro e w' ⟨rfl,rfl⟩)
 go_ret
 exact⟨rfl,rfl⟩
end

section
open Go.RowKit
theorem kG(a b:Option Addr)(n m c d:Nat)(xs ys:List Int)(w:World)(h:dY w a n xs)(h':dY w b m ys):
  Calls Tryz.prog 44 #[.slice a n c,.slice b m d] w fun e w'=>e=.returned (.bool (decide (xs=ys)))∧∃q,w'=w.drewN q:=by
 obtain⟨hl,hn,hc⟩:=h
 obtain⟨hl',hn',hc'⟩:=h'
 by_cases hnm:n=m
 ·subst hnm;have HL:=aBO hl;have HC:=aBO hc;have HL':=aBO hl';have HC':=aBO hc';clear hl hc hl' hc';have hne:((n:Int) != (n:Int))=false:=by simp
  go_enter Tryz.func44,Tryz.ntmps44
  go_wp2
  go_loopw [5] (fun i wr=>∃(k q:Nat),k≤n∧i=.int .i64 k∧wr=w.drewN q∧Hid (∀j,j<k→xs.getD j 0=ys.getD j 0)) (fun i _=>n-(intOf i).toNat)
  case atStart=>exact⟨0,0,by omega,rfl,rfl,fun j hj=>absurd hj (by omega)⟩
  case round=>
   obtain⟨k,q,hk,rfl,rfl,HR⟩:=hrel;by_cases hlt:k<n
   ·obtain⟨b1,o1,rfl,hcell1,hw1,hw2⟩:=HC.out k hlt;obtain⟨b2,o2,rfl,hcell2,hw3,hw4⟩:=HC'.out k hlt;by_cases he:xs.getD k 0=ys.getD k 0
    ·have HE:Hid (∀j,j<k+1→xs.getD j 0=ys.getD j 0):=fun j hj=>by
      by_cases hjk:j=k
      ·subst hjk;exact he
      ·exact HR.out j (by omega)
     rw[←he] at hcell2;generalize xs.getD k 0=y at *;clear he;go_wp2
     go_quiet (fail)
     go_wp2
     go_roundw
     case rel=>exact⟨k+1,_,by omega,by go_num,rfl,HE⟩
     case measure=>simp[intOf];omega
    ·have HE:Hid (xs≠ys):=fun e=>he (by rw[e]);have hb:(xs.getD k 0 != ys.getD k 0)=true:=by simpa using he
     generalize xs.getD k 0=y at *;generalize ys.getD k 0=z at *;clear he;go_wp2
     go_quiet (fail)
     go_wp2
     go_ret
     exact⟨lM (by rw[decide_eq_false HE.out]),_,World.drewN_drewN _ _ _⟩
   ·have HE:Hid (xs=ys):=List.ext_getElem (by rw[HL.out,HL'.out]) (fun j h1 h2=>by
     have:=HR.out j (by rw[HL.out] at h1;omega)
     simpa[List.getD,h1,h2] using this)
    go_wp2
    go_ret
    exact⟨lM (by rw[decide_eq_true HE.out]),_,rfl⟩
 ·have HE:Hid (xs≠ys):=fun e=>hnm (by rw[←hl,←hl',e]);have hne:((n:Int) != (m:Int))=true:=by simp;omega
  clear hc hc' hl hl' hnm
  go_enter Tryz.func44,Tryz.ntmps44
  go_wp2
  go_ret
  exact⟨lM (by rw[decide_eq_false HE.out]),0,rfl⟩
end

section
open Go.RowKit
def fI(k i:Int):Int:=1000003*(k+7)+i
theorem iS(k i:Int)(w:World)(hk:0≤k∧k≤1000000000)(hi:0≤i∧i≤100000000000000):
  Calls Tryz.prog 112 #[.int .i64 k,.int .i64 i] w fun e w'=>e=.returned (.int .i64 (fI k i))∧w=w':=by
 obtain⟨_,_⟩:=hk
 obtain⟨_,_⟩:=hi
 go_enter Tryz.func112,Tryz.ntmps112
 go_wp2
 go_ret
 exact⟨rfl,rfl⟩
end

section
structure xV where
 fr:Int
 arm:Int
 to:Int
deriving DecidableEq
end

section
def UW(l:List bI):Nat→Int→List Int
 |0,_=> []
 |f+1,k=>if 0≤k then k :: UW l f (fJ l k.toNat) else []
def aAH(l:List bI)(k:Int):List Int:=UW l (k.toNat+1) k
def inL(l:List bI)(b:Int):List Int:=aAH l (rA l b.toNat)
def aAQ(l:List bI)(b o:Int):List Int:=(inL l b).filter fun k=> !(inL l o).contains k
structure ZN where
 e:xV
 lv:List Int
 en:List Int
def aAV(l:List bI)(x:xV):ZN:=⟨x,aAQ l x.fr x.to,(aAQ l x.to x.fr).reverse⟩
def aBF(l:List bI)(asked:xV→Bool)(x:xV):Bool:=(rA l x.fr.toNat != rA l x.to.toNat)&&asked x
end

section
structure aI where
 s:Nat→Bool
 kind:Int
 entry:Int
def iA(a b:Nat→Bool):Nat→Bool:=fun k=>if b k then false else a k
def cS(a b:Nat→Bool):Bool:=(aZ a).all b&& !eqS a b
def lF(ts:List aT)(rec:(Nat→Bool)→List aI)(inn:Nat→Bool)(st:(Nat→Bool)×List aI)(k:Nat):(Nat→Bool)×List aI:=
 if st.1 k&&bT ts k inn k then
  if 1<(aM ts (bT ts k inn)).length then (iA st.1 (bT ts k inn),st.2++ [⟨bT ts k inn,3,-1⟩])
  else (iA st.1 (bT ts k inn),st.2++⟨bT ts k inn,2,(((aM ts (bT ts k inn)).headD 0:Nat):Int)⟩ :: rec (bW (bT ts k inn) ((aM ts (bT ts k inn)).headD 0)))
 else st
def dZ(ts:List aT):Nat→(Nat→Bool)→List aI
 |0,_=> []
 |f+1,inn=>((aZ inn).foldl (lF ts (dZ ts f) inn) (inn,[])).2
def Tog(ts:List aT)(inn:Nat→Bool)(a b:Nat):Prop:=Reach (nx ts) inn a b∧Reach (nx ts) inn b a
theorem Tog.symm{ts:List aT}{inn:Nat→Bool}{a b:Nat}(h:Tog ts inn a b):Tog ts inn b a:=⟨h.2,h.1⟩
theorem Tog.trans{ts:List aT}{inn:Nat→Bool}{a b c:Nat}(h:Tog ts inn a b)(k:Tog ts inn b c):Tog ts inn a c:=⟨h.1.trans k.1,k.2.trans h.2⟩
theorem Tog.self{ts:List aT}{inn:Nat→Bool}{a b:Nat}(h:Tog ts inn a b):Tog ts inn a a:=h.trans h.symm
theorem WP{ts:List aT}{inn:Nat→Bool}(hc:cA inn){k a b:Nat}(ha:bT ts k inn a=true)(hb:bT ts k inn b=true):Reach (nx ts) (bT ts k inn) a b:=by
 obtain⟨hk,h1,h2⟩:=(eY hc k a).1 ha
 obtain⟨_,h3,h4⟩:=(eY hc k b).1 hb
 have key:∀y,Reach (nx ts) inn a y→Reach (nx ts) inn y k→Reach (nx ts) (bT ts k inn) a y:=by
  intro y hr
  induction hr with
  |one hy hi=>exact fun h=>.one hy ((eY hc k _).2 ⟨hk,h1.trans (.one hy hi),h⟩)
  | @step x y hx hy hi ih=>exact fun h=>.step (ih ((Reach.one hy hi).trans h)) hy ((eY hc k _).2 ⟨hk,h1.trans (.step hx hy hi),h⟩)
 exact key b (h2.trans h3) h4
theorem qL{next:Nat→List Nat}{inn:Nat→Bool}{a b:Nat}(h:Reach next inn a b):∃x,(x=a∨Reach next inn a x)∧b∈next x:=by
 cases h with
 |one hy _=>exact⟨a,.inl rfl,hy⟩
 |step hx hy _=>exact⟨_,.inr hx,hy⟩
theorem GL{next:Nat→List Nat}{inn:Nat→Bool}{a b:Nat}(h:Reach next inn a b)(s:Nat→Bool)(ha:s a=false)(hb:s b=true):∃x y,(x=a∨Reach next inn a x)∧s x=false∧y∈next x∧s y=true∧inn y=true:=by
 induction h with
 |one hy hi=>exact⟨a,_,.inl rfl,ha,hy,hb,hi⟩
 | @step x y hx hy hi ih=>
   cases hs:s x with
   |true=>exact ih hs
   |false=>exact⟨x,y,.inr hx,hs,hy,hb,hi⟩
structure AE(ts:List aT)(p:aI):Prop where
 some:∃y,p.s y=true
 low:∀y,p.s y=true→1≤y∧y<ts.length
 tog:∀a b,p.s a=true→p.s b=true→Reach (nx ts) p.s a b
 ent:(p.kind=3∧p.entry= -1∧1<(aM ts p.s).length)∨(p.kind=2∧0≤p.entry∧aM ts p.s= [p.entry.toNat])
def UL(p q:aI):Prop:=(∀y,p.s y=true→q.s y=false)∨(p.kind=2∧∀y,q.s y=true→p.s y=true∧y≠p.entry.toNat)
def UZ(ts:List aT)(ps:List aI)(p:aI):Prop:=
 p.kind=2→∀b,p.s b=true→Reach (nx ts) (bW p.s p.entry.toNat) b b→∃q∈ps,q.s b=true∧∀y,q.s y=true→p.s y=true∧y≠p.entry.toNat
structure tZ(ts:List aT)(inn:Nat→Bool)(ps:List aI):Prop where
 ring:∀b,inn b=true→Reach (nx ts) inn b b→∃p∈ps,p.s b=true
 out:∀p∈ps,∀y,p.s y=true→inn y=true∧Reach (nx ts) inn y y
 ok:∀p∈ps,AE ts p
 pw:ps.Pairwise UL
 inner:∀p∈ps,UZ ts ps p
structure rF(ts:List aT)(inn:Nat→Bool)(d:List Nat)(left:Nat→Bool)(ps:List aI):Prop where
 sub:∀y,left y=true→inn y=true
 cls:∀y z,inn y=true→left y=false→Tog ts inn y z→left z=false
 seen:∀k∈d,Reach (nx ts) inn k k→left k=false
 cov:∀y,inn y=true→left y=false→∃p∈ps,p.s y=true
 out:∀p∈ps,∀y,p.s y=true→inn y=true∧left y=false∧Reach (nx ts) inn y y
 ok:∀p∈ps,AE ts p
 pw:ps.Pairwise UL
 inner:∀p∈ps,UZ ts ps p
theorem bQ{ts:List aT}(hf:bU ts=true):fS ts=true∧(1≤ts.length∧ts.length≤200)∧∀y,1≤y→y<ts.length→Reach (nx ts) (aL ts.length) 0 y:=by
 simp only[bU,Bool.and_eq_true,List.all_eq_true,List.mem_range,Bool.or_eq_true,beq_iff_eq] at hf
 have hl:=((cY ts).1 hf.1).1
 refine⟨hf.1,hl,fun y h1 h2=>?_⟩
 rcases hf.2 y h2 with h|h
 ·omega
 ·exact((fG (eJ hl.2) 0 y).1 h).2
theorem fM{ts:List aT}{s:Nat→Bool}(hs:cA s)(b:Nat):b∈aM ts s↔s b=true∧b<ts.length∧∃x,b∈nx ts x∧s x=false:=by
 simp only[aM,List.mem_filter,eG hs,Bool.and_eq_true,decide_eq_true_eq,List.any_eq_true,Bool.not_eq_true']
 constructor
 ·rintro⟨h1,h2,x,h3,h4⟩;exact⟨h1,h2,x,(nJ ts b x).1 h3,h4⟩
 ·rintro⟨h1,h2,x,h3,h4⟩;exact⟨h1,h2,x,(nJ ts b x).2 h3,h4⟩
theorem FW{ts:List aT}(hf:bU ts=true){s:Nat→Bool}(hs:cA s){y:Nat}(hy:s y=true)(hlow:∀y,s y=true→1≤y∧y<ts.length):aM ts s≠[]:=by
 obtain⟨hg,hl,hr⟩:=bQ hf
 have h0:s 0=false:=by
  cases e:s 0 with
  |false=>rfl
  |true=>have:=hlow 0 e;omega
 obtain⟨x,z,_,h1,h2,h3,_⟩:=GL (hr y (hlow y hy).1 (hlow y hy).2) s h0 hy
 intro e
 have:z∈aM ts s:=(fM hs z).2 ⟨h3,(hlow z h3).2,x,h2,h1⟩
 rw[e] at this
 cases this
theorem rW{l:List Nat}(h0:l≠[])(h1:¬1<l.length):l= [l.headD 0]:=by
 match l,h0,h1 with
 | [x],_,_=>rfl
 |x :: y :: l,_,h=>simp at h
theorem AP{s inn:Nat→Bool}{e:Nat}(hs:∀y,s y=true→inn y=true)(hc:cA inn)(he:s e=true):(aZ (bW s e)).length<(aZ inn).length:=by
 unfold aZ
 have key:∀(l:List Nat),(l.filter (bW s e)).length≤(l.filter inn).length∧(e∈l→(l.filter (bW s e)).length<(l.filter inn).length):=by
  intro l
  induction l with
  |nil=>simp
  |cons x l ih=>
   simp only[List.filter_cons];by_cases h1:bW s e x=true
   ·have h2:x≠e∧s x=true:=by simpa[bW] using h1
    have h3:=hs x h2.2;rw[if_pos h1,if_pos h3];refine⟨by simp;exact ih.1,fun h=>?_⟩;rcases List.mem_cons.1 h with rfl|h
    ·exact absurd rfl h2.1
    ·simp;exact ih.2 h
   ·rw[if_neg h1];by_cases h3:inn x=true
    ·rw[if_pos h3];exact⟨by simp;omega,fun _=>by simp;omega⟩
    ·rw[if_neg h3];refine⟨ih.1,fun h=>?_⟩;rcases List.mem_cons.1 h with rfl|h
     ·exact absurd (hs _ he) h3
     ·exact ih.2 h
 exact(key (List.range 200)).2 (by simp;exact hc _ (hs _ he))
theorem oG{s:Nat→Bool}{e y:Nat}:bW s e y=true↔y≠e∧s y=true:=by simp[bW]
section
variable {ts:List aT} {inn:Nat→Bool} {d:List Nat} {left:Nat→Bool} {ps:List aI} {k:Nat}
theorem rF.skip(h:rF ts inn d left ps)(hc:cA inn)(hk:inn k=true)(hn:¬(left k&&bT ts k inn k)=true):rF ts inn (d++ [k]) left ps where
 sub:=h.sub
 cls:=h.cls
 seen:=fun x hx hr=>by
  rcases aCA.1 hx with hx|hx
  ·exact h.seen x hx hr
  ·have hx:x=k:=by simpa using hx
   subst hx;cases e:left x with
   |false=>rfl
   |true=>
    have:bT ts x inn x=true:=(eY hc x x).2 ⟨hk,hr,hr⟩;exact absurd (by rw[e,this];rfl) hn
 cov:=h.cov
 out:=h.out
 ok:=h.ok
 pw:=h.pw
 inner:=h.inner
theorem QT(hf:bU ts=true)(hc:cA inn)(hin:∀y,inn y=true→y<ts.length)(hk:bT ts k inn k=true)(kind entry:Int)
  (hent:(kind=3∧entry= -1∧1<(aM ts (bT ts k inn)).length)∨(kind=2∧0≤entry∧aM ts (bT ts k inn)= [entry.toNat])):AE ts ⟨bT ts k inn,kind,entry⟩ where
 some:=⟨k,hk⟩
 low:=fun y hy=>by
  have h:=((eY hc k y).1 hy).2.1;obtain⟨x,_,hx⟩:=qL h;have:=lJ (bQ hf).1 hx;exact this
 tog:=fun a b ha hb=>WP hc ha hb
 ent:=hent
theorem rF.found(h:rF ts inn d left ps)(hc:cA inn)(hk:inn k=true)(hl:left k=true)(hkk:bT ts k inn k=true)(p:aI)(hp:p.s=bT ts k inn)(hok:AE ts p)(sub:List aI)
  (hsub:(p.kind=3∧sub= [])∨(p.kind=2∧tZ ts (bW p.s p.entry.toNat) sub)):rF ts inn (d++ [k]) (iA left (bT ts k inn)) (ps++p :: sub):=by
 have hd:∀y,iA left (bT ts k inn) y=true↔left y=true∧bT ts k inn y=false:=fun y=>by
  simp only[iA]
  split
  ·simp_all
  ·simp_all
 have hdf:∀y,iA left (bT ts k inn) y=false↔left y=false∨bT ts k inn y=true:=fun y=>by
  simp only[iA]
  split
  ·simp_all
  ·simp_all
 have hkn:∀y,bT ts k inn y=true↔Tog ts inn k y:=fun y=>by rw[eY hc];exact⟨fun h=>h.2,fun h=>⟨hk,h⟩⟩
 have hin:∀q∈p :: sub,∀y,q.s y=true→bT ts k inn y=true:=by
  intro q hq y hy;rcases List.mem_cons.1 hq with rfl|hq
  ·rw[←hp];exact hy
  ·rcases hsub with ⟨_,rfl⟩|⟨_,hF⟩
   ·cases hq
   ·have:=(hF.out q hq y hy).1;rw[←hp];exact(oG.1 this).2
 have hleft:∀y,bT ts k inn y=true→left y=true:=fun y hy=>by
  cases e:left y with
  |true=>rfl
  |false=>
   have h1:=(hkn y).1 hy;have:=h.cls y k h1.1.inn e h1.symm;rw[hl] at this;cases this
 refine⟨fun y hy=>h.sub y ((hd y).1 hy).1,?_,?_,?_,?_,?_,?_,?_⟩
 ·intro y z hy hly ht;rw[hdf] at hly⊢;rcases hly with hly|hly
  ·exact .inl (h.cls y z hy hly ht)
  ·exact .inr ((hkn z).2 (((hkn y).1 hly).trans ht))
 ·intro x hx hr;rw[hdf];rcases aCA.1 hx with hx|hx
  ·exact .inl (h.seen x hx hr)
  ·have hx:x=k:=by simpa using hx
   subst hx;exact .inr hkk
 ·intro y hy hly;rcases(hdf y).1 hly with hly|hly
  ·obtain⟨q,hq,hqs⟩:=h.cov y hy hly;exact⟨q,List.mem_append_left _ hq,hqs⟩
  ·exact⟨p,List.mem_append_right _ (List.mem_cons_self ..),by rw[hp];exact hly⟩
 ·intro q hq y hy;rcases aCA.1 hq with hq|hq
  ·obtain⟨h1,h2,h3⟩:=h.out q hq y hy;exact⟨h1,(hdf y).2 (.inl h2),h3⟩
  ·have h1:=hin q hq y hy;have h2:=(hkn y).1 h1;exact⟨h2.1.inn,(hdf y).2 (.inr h1),(h2.symm.self).1⟩
 ·intro q hq;rcases aCA.1 hq with hq|hq
  ·exact h.ok q hq
  ·rcases List.mem_cons.1 hq with rfl|hq
   ·exact hok
   ·rcases hsub with ⟨_,rfl⟩|⟨_,hF⟩
    ·cases hq
    ·exact hF.ok q hq
 ·rw[List.pairwise_append];refine⟨h.pw,?_,fun a ha b hb=>.inl fun y hy=>?_⟩
  ·rw[List.pairwise_cons];rcases hsub with ⟨_,rfl⟩|⟨h2,hF⟩
   ·exact⟨fun q hq=>absurd hq (by simp),List.Pairwise.nil⟩
   ·refine⟨fun q hq=>.inr ⟨h2,fun y hy=>?_⟩,hF.pw⟩;have:=oG.1 (hF.out q hq y hy).1;exact⟨this.2,this.1⟩
  ·cases e:b.s y with
   |false=>rfl
   |true=>
    have h1:=hleft y (hin b hb y e);have h2:=(h.out a ha y hy).2.1;rw[h1] at h2;cases h2
 ·intro q hq h2 b hb hr;rcases aCA.1 hq with hq|hq
  ·obtain⟨q',h3,h4⟩:=h.inner q hq h2 b hb hr;exact⟨q',List.mem_append_left _ h3,h4⟩
  ·rcases hsub with ⟨h3,rfl⟩|⟨h3,hF⟩
   ·have:q=p:=by simpa using hq
    subst this;rw[h3] at h2;cases h2
   ·rcases List.mem_cons.1 hq with rfl|hq
    ·obtain⟨q',h4,h5⟩:=hF.ring b hr.inn hr;refine⟨q',by simp[h4],h5,fun y hy=>?_⟩;have:=oG.1 (hF.out q' h4 y hy).1;exact⟨this.2,this.1⟩
    ·obtain⟨q',h4,h5⟩:=hF.inner q hq h2 b hb hr;exact⟨q',by simp[h4],h5⟩
end
theorem xI{α β:Type}{f:β→α→β}(I:List α→β→Prop):∀(r d:List α) (b:β),I d b→(∀d x b,x∈r→I d b→I (d++ [x]) (f b x))→I (d++r) (r.foldl f b)
 | [],d,b,h,_=>by simpa using h
 |x :: r,d,b,h,hs=>by
  rw[show d++x :: r=(d++ [x])++r by simp,List.foldl_cons];exact xI I r (d++ [x]) (f b x) (hs d x b (by simp) h) (fun d y b hy=>hs d y b (by simp[hy]))
theorem xD{ts:List aT}(hf:bU ts=true):∀(f:Nat) (inn:Nat→Bool),cA inn→(∀y,inn y=true→y<ts.length)→(aZ inn).length<f→tZ ts inn (dZ ts f inn):=by
 intro f
 induction f with
 |zero=>intro inn _ _ h;omega
 |succ f ih=>
  intro inn hc hin hlen;have key:rF ts inn ([]++aZ inn) ((aZ inn).foldl (lF ts (dZ ts f) inn) (inn,[])).1 ((aZ inn).foldl (lF ts (dZ ts f) inn) (inn,[])).2:=by
   refine xI (fun d (st:(Nat→Bool)×List aI)=>rF ts inn d st.1 st.2) _ _ _ ⟨fun y h=>h,fun y z h1 h2=>(by cases h1.symm.trans h2),fun k hk=>(by cases hk),fun y h1 h2=>(by cases h1.symm.trans h2),fun p hp=>(by cases hp),fun p hp=>(by cases hp),List.Pairwise.nil,fun p hp=>(by cases hp)⟩ ?_;intro d k st hk h;have hk':=(eG hc k).1 hk;unfold lF;by_cases hkk:(st.1 k&&bT ts k inn k)=true
   ·rw[if_pos hkk];simp only[Bool.and_eq_true] at hkk;by_cases he:1<(aM ts (bT ts k inn)).length
    ·rw[if_pos he];have hok:=QT hf hc hin hkk.2 3 (-1) (.inl ⟨rfl,rfl,he⟩);exact h.found hc hk' hkk.1 hkk.2 ⟨_,3,-1⟩ rfl hok [] (.inl ⟨rfl,rfl⟩)
    ·rw[if_neg he];have hcn:cA (bT ts k inn):=oL hc k;have hlow:∀y,bT ts k inn y=true→1≤y∧y<ts.length:=fun y hy=>by
      obtain⟨x,_,hx⟩:=qL ((eY hc k y).1 hy).2.1;exact lJ (bQ hf).1 hx
     have he0:=rW (FW hf hcn hkk.2 hlow) he;generalize (aM ts (bT ts k inn)).headD 0=e at *;have hes:bT ts k inn e=true:=((fM hcn e).1 (by rw[he0];simp)).1;have hok:=QT hf hc hin hkk.2 2 (e:Int) (.inr ⟨rfl,by omega,by simpa using he0⟩);refine h.found hc hk' hkk.1 hkk.2 ⟨_,2,(e:Int)⟩ rfl hok _ (.inr ⟨rfl,?_⟩);refine ih _ (jQ hcn _) (fun y hy=>(hlow y (oG.1 hy).2).2) ?_;exact Nat.lt_of_lt_of_le (AP (s:=bT ts k inn) (inn:=inn) (e:=e) (fun y hy=>((eY hc k y).1 hy).2.1.inn) hc hes) (by omega)
   ·rw[if_neg hkk];exact h.skip hc hk' hkk
  simp only[List.nil_append] at key;rw[dZ]
  exact {
   ring:=fun b hb hr=>key.cov b hb (key.seen b ((eG hc b).2 hb) hr)
   out:=fun p hp y hy=>⟨(key.out p hp y hy).1,(key.out p hp y hy).2.2⟩
   ok:=key.ok
   pw:=key.pw
   inner:=key.inner}
end

section
def eP(n:Nat):aI:=⟨aL n,1,0⟩
def gA(k:Nat)(best p:aI):aI:=if p.s k&&cS p.s best.s then p else best
def bP(n:Nat)(ps:List aI)(k:Nat):aI:=ps.foldl (gA k) (eP n)
def fF(ts:List aT)(k:Nat)(of:Nat→Bool):Nat→Bool:=fun x=>of x&& !(x==0||bL (nx ts) (bW (aL ts.length) k) 0 x)
def eX(ts:List aT)(ps:List aI)(k:Nat):Option aI:=
 if (pv ts k).length=1∧(nx ts ((pv ts k).headD 0)).length=2∧(bP ts.length ps k).kind≠3∧(bP ts.length ps k).entry≠k∧1<(aZ (fF ts k (bP ts.length ps k).s)).length then
  some ⟨fF ts k (bP ts.length ps k).s,4,k⟩ else none
def lH(ts:List aT)(ps:List aI):List aI:=(List.range ts.length).filterMap (eX ts ps)
def dR(ts:List aT):List aI:=dZ ts 201 (aL ts.length)++lH ts (dZ ts 201 (aL ts.length))
def eK(a b:Nat→Bool):Prop:=(∀y,a y=true→b y=true)∧∃y,b y=true∧a y=false
theorem within_iff{a b:Nat→Bool}(ha:cA a)(hb:cA b):cS a b=true↔eK a b:=by
 simp only[cS,Bool.and_eq_true,List.all_eq_true,Bool.not_eq_true']
 constructor
 ·rintro⟨h1,h2⟩;have h1:∀y,a y=true→b y=true:=fun y hy=>h1 y ((eG ha y).2 hy);refine⟨h1,aCF fun hn=>?_⟩;have e:a=b:=by
   funext y
   cases e:b y with
   |false=>
    cases e2:a y with
    |false=>rfl
    |true=>rw[h1 y e2] at e;cases e
   |true=>
    cases e2:a y with
    |true=>rfl
    |false=>exact absurd ⟨y,e,e2⟩ hn
  rw[(qG ha hb).2 e] at h2;cases h2
 ·rintro⟨h1,y,h2,h3⟩;refine⟨fun y hy=>h1 y ((eG ha y).1 hy),?_⟩;cases e:eqS a b with
  |false=>rfl
  |true=>rw[(qG ha hb).1 e,h2] at h3;cases h3
def RH(a b:Nat→Bool):Prop:=∀y,a y=true→b y=false
theorem RH.symm{a b:Nat→Bool}(h:RH a b):RH b a:=fun y hy=>by
 cases e:a y with
 |false=>rfl
 |true=>rw[h y e] at hy;cases hy
def oF(p q:aI):Prop:=RH p.s q.s∨eK p.s q.s∨eK q.s p.s
theorem oF.symm{p q:aI}(h:oF p q):oF q p:=h.elim (fun h=>.inl h.symm) fun h=>.inr h.symm
theorem eK.irrefl{a:Nat→Bool}(h:eK a a):False:=by obtain⟨_,y,h1,h2⟩:=h;rw[h1] at h2;cases h2
theorem eK.trans{a b c:Nat→Bool}(h:eK a b)(k:eK b c):eK a c:=by
 obtain⟨h1,y,h2,h3⟩:=h
 exact⟨fun y hy=>k.1 y (h1 y hy),y,k.1 y h2,h3⟩
theorem eK.asymm{a b:Nat→Bool}(h:eK a b)(k:eK b a):False:=(h.trans k).irrefl
def Dom(ts:List aT)(k x:Nat):Prop:=¬Reach (nx ts) (bW (aL ts.length) k) 0 x
section
variable {ts:List aT}
theorem XH(k:Nat):Dom ts k k:=fun h=>by have:=h.inn;simp[bW] at this
theorem eS{k y:Nat}:bW (aL ts.length) k y=true↔y≠k∧y<ts.length:=by simp[bW,aL]
theorem TM{a b x:Nat}(h:Dom ts a b)(k:Dom ts b x):Dom ts a x:=by
 intro hr
 have key:∀y,Reach (nx ts) (bW (aL ts.length) a) 0 y→Reach (nx ts) (bW (aL ts.length) b) 0 y:=by
  intro y hr
  induction hr with
  | @one y hy hi=>
    by_cases e:y=b
    ·subst e;exact absurd (.one hy hi) h
    ·exact .one hy (eS.2 ⟨e,(eS.1 hi).2⟩)
  | @step x y hx hy hi ih=>
    by_cases e:y=b
    ·subst e;exact absurd (.step hx hy hi) h
    ·exact .step ih hy (eS.2 ⟨e,(eS.1 hi).2⟩)
 exact k (key x hr)
theorem KM{a b:Nat}(hr:Reach (nx ts) (aL ts.length) 0 a)(hne:a≠b)(h:Dom ts a b)(k:Dom ts b a):False:=by
 have key:∀y,Reach (nx ts) (aL ts.length) 0 y→Reach (nx ts) (bW (bW (aL ts.length) a) b) 0 y:=by
  have ex:∀y x,(x=0∨Reach (nx ts) (bW (bW (aL ts.length) a) b) 0 x)→y∈nx ts x→aL ts.length y=true→Reach (nx ts) (bW (bW (aL ts.length) a) b) 0 y:=by
   intro y x hx hy hi;have hi2:y<ts.length:=by simpa[aL] using hi
   have up:∀(c:Nat),(∀z,bW (bW (aL ts.length) a) b z=true→bW (aL ts.length) c z=true)→y≠c→Reach (nx ts) (bW (aL ts.length) c) 0 y:=fun c hc hyc=>by
    rcases hx with rfl|hx
    ·exact .one hy (eS.2 ⟨hyc,hi2⟩)
    ·exact .step (hx.mono hc) hy (eS.2 ⟨hyc,hi2⟩)
   by_cases e1:y=a
   ·subst e1;exact absurd (up b (fun z hz=>by simp[bW] at hz⊢;exact⟨hz.1,hz.2.2⟩) hne) k
   ·by_cases e2:y=b
    ·subst e2;exact absurd (up a (fun z hz=>by simp[bW] at hz⊢;exact hz.2) (fun e=>hne e.symm)) h
    ·have hin:bW (bW (aL ts.length) a) b y=true:=by simp[bW,aL,e1,e2,hi2]
     rcases hx with rfl|hx
     ·exact .one hy hin
     ·exact .step hx hy hin
  intro y hr
  induction hr with
  |one hy hi=>exact ex _ _ (.inl rfl) hy hi
  |step hx hy hi ih=>exact ex _ _ (.inr ih) hy hi
 have:=(key a hr).inn
 simp[bW] at this
theorem TN{a b x:Nat}(hr:Reach (nx ts) (aL ts.length) 0 x)(h:Dom ts a x)(k:Dom ts b x):Dom ts a b∨Dom ts b a:=by
 apply aCF
 intro hn
 rw[not_or] at hn
 have h1:=Classical.not_not.1 hn.1
 have h2:=Classical.not_not.1 hn.2
 have key:∀y,Reach (nx ts) (aL ts.length) 0 y→Reach (nx ts) (bW (aL ts.length) a) 0 y∨Reach (nx ts) (bW (aL ts.length) b) 0 y:=by
  intro y hr
  induction hr with
  | @one y hy hi=>
    have hi2:y<ts.length:=by simpa[aL] using hi
    by_cases e:y=a
    ·subst e;exact .inr h2
    ·exact .inl (.one hy (eS.2 ⟨e,hi2⟩))
  | @step x y hx hy hi ih=>
    have hi2:y<ts.length:=by simpa[aL] using hi
    by_cases e:y=a
    ·subst e;exact .inr h2
    ·by_cases e2:y=b
     ·subst e2;exact .inl h1
     ·rcases ih with ih|ih
      ·exact .inl (.step ih hy (eS.2 ⟨e,hi2⟩))
      ·exact .inr (.step ih hy (eS.2 ⟨e2,hi2⟩))
 rcases key x hr with hk|hk
 ·exact h hk
 ·exact k hk
theorem RB{s:Nat→Bool}(hs:∀y,s y=true→y<ts.length)(ht:∀a b,s a=true→s b=true→Reach (nx ts) s a b){k x:Nat}(hk:s k=false)(hx:s x=true)(hd:Dom ts k x):∀y,s y=true→Dom ts k y:=by
 intro y hy hr
 refine hd (hr.trans ((ht y x hy hx).mono fun z hz=>eS.2 ⟨fun e=>?_,hs z hz⟩))
 subst e
 rw[hk] at hz
 cases hz
theorem yE{next:Nat→List Nat}{inn:Nat→Bool}{a b:Nat}(h:Reach next inn a b)(s:Nat→Bool)(ha:s a=false)(hb:s b=true):∃x y,(x=a∨Reach next (iA inn s) a x)∧s x=false∧y∈next x∧s y=true∧inn y=true:=by
 have key:∀y,Reach next inn a y→(∃x z,(x=a∨Reach next (iA inn s) a x)∧s x=false∧z∈next x∧s z=true∧inn z=true)∨(s y=false∧Reach next (iA inn s) a y):=by
  have ex:∀x y,s x=false→(x=a∨Reach next (iA inn s) a x)→y∈next x→inn y=true→(∃x z,(x=a∨Reach next (iA inn s) a x)∧s x=false∧z∈next x∧s z=true∧inn z=true)∨(s y=false∧Reach next (iA inn s) a y):=by
   intro x y hsx hx hy hi;cases e:s y with
   |true=>exact .inl ⟨x,y,hx,hsx,hy,e,hi⟩
   |false=>
    have hd:iA inn s y=true:=by simp[iA,e,hi]
    refine .inr ⟨rfl,?_⟩;rcases hx with rfl|hx
    ·exact .one hy hd
    ·exact .step hx hy hd
  intro y hr
  induction hr with
  |one hy hi=>exact ex _ _ ha (.inl rfl) hy hi
  |step hx hy hi ih=>
   rcases ih with ih|⟨h1,h2⟩
   ·exact .inl ih
   ·exact ex _ _ h1 (.inr h2) hy hi
 rcases key b h with h1|⟨h1,_⟩
 ·exact h1
 ·rw[hb] at h1;cases h1
theorem BV{p:aI}(hf:bU ts=true)(hok:AE ts p)(h2:p.kind=2){k:Nat}(hk:p.s k=true)(hne:k≠p.entry.toNat):¬Dom ts k p.entry.toNat∧p.s p.entry.toNat=true:=by
 obtain⟨hg,hl,hr⟩:=bQ hf
 have hcan:cA p.s:=fun y hy=>by have:=hok.low y hy;omega
 have he:aM ts p.s= [p.entry.toNat]:=by
  rcases hok.ent with ⟨h,_⟩|⟨_,_,h⟩
  ·rw[h2] at h;cases h
  ·exact h
 have hes:=(fM hcan p.entry.toNat).1 (by rw[he];simp)
 refine⟨fun hd=>?_,hes.1⟩
 have h0:p.s 0=false:=by
  cases e:p.s 0 with
  |false=>rfl
  |true=>have:=hok.low 0 e;omega
 obtain⟨x,y,hx,h3,h4,h5,h6⟩:=yE (hr k (hok.low k hk).1 (hok.low k hk).2) p.s h0 hk
 have hy:y=p.entry.toNat:=by
  have:y∈aM ts p.s:=(fM hcan y).2 ⟨h5,(hok.low y h5).2,x,h4,h3⟩;rw[he] at this;simpa using this
 subst hy
 have hin:bW (aL ts.length) k p.entry.toNat=true:=eS.2 ⟨fun e=>hne e.symm,hes.2.1⟩
 rcases hx with rfl|hx
 ·exact hd (.one h4 hin)
 ·refine hd (.step (hx.mono fun z hz=>?_) h4 hin);simp only[iA] at hz
  split at hz
  ·cases hz
  ·rename_i hz2
   refine eS.2 ⟨fun e=>?_,by simpa[aL] using hz⟩;subst e;exact hz2 hk
end
end

section
structure gU(ts:List aT)(ps:List aI):Prop where
 some:∀p∈ps,∃y,p.s y=true
 low:∀p∈ps,∀y,p.s y=true→1≤y∧y<ts.length
 kind:∀p∈ps,p.kind=2∨p.kind=3∨p.kind=4
 pw:ps.Pairwise oF
 noreg:∀p∈ps,p.kind=3→∀q∈ps,¬eK q.s p.s
 ent:∀p∈ps,p.kind≠3→0≤p.entry∧aM ts p.s= [p.entry.toNat]∧p.s p.entry.toNat=true∧∀q∈ps,eK q.s p.s→q.s p.entry.toNat=false
 ent3:∀p∈ps,p.kind=3→1<(aM ts p.s).length
 tog:∀p∈ps,p.kind≠4→∀a b,p.s a=true→p.s b=true→Reach (nx ts) p.s a b
 ring2:∀p∈ps,p.kind=2→∀b,p.s b=true→(∀q∈ps,eK q.s p.s→q.s b=false)→¬Reach (nx ts) (bW p.s p.entry.toNat) b b
 ring4:∀p∈ps,p.kind=4→∀b,p.s b=true→(∀q∈ps,eK q.s p.s→q.s b=false)→¬Reach (nx ts) p.s b b
 ring1:∀b,(∀q∈ps,q.s b=false)→¬Reach (nx ts) (aL ts.length) b b
theorem QC{α:Type}{R:α→α→Prop}{l:List α}(h:l.Pairwise R){p q:α}(hp:p∈l)(hq:q∈l):p=q∨R p q∨R q p:=by
 induction l with
 |nil=>cases hp
 |cons x l ih=>
  rw[List.pairwise_cons] at h;rcases List.mem_cons.1 hp with ep|hp'
  ·rcases List.mem_cons.1 hq with eq|hq'
   ·exact .inl (ep.trans eq.symm)
   ·exact .inr (.inl (ep▸h.1 q hq'))
  ·rcases List.mem_cons.1 hq with eq|hq'
   ·exact .inr (.inr (eq▸h.1 p hp'))
   ·exact ih h.2 hp' hq'
section
variable {ts:List aT} {ps:List aI} (hf:bU ts=true) (F:tZ ts (aL ts.length) ps)
include hf F
omit hf in
theorem mY{p:aI}(hp:p∈ps)(hl:ts.length≤200):cA p.s:=fun y hy=>by have:=(F.ok p hp).low y hy;omega
omit hf in
theorem pO{p q:aI}(hp:p∈ps)(hq:q∈ps):p=q∨RH p.s q.s∨(p.kind=2∧p.s p.entry.toNat=true∧∀y,q.s y=true→p.s y=true∧y≠p.entry.toNat)∨(q.kind=2∧q.s q.entry.toNat=true∧∀y,p.s y=true→q.s y=true∧y≠q.entry.toNat):=by
 have ent:∀p∈ps,p.kind=2→(∃q∈ps,∀y,q.s y=true→p.s y=true∧y≠p.entry.toNat)→p.s p.entry.toNat=true:=by
  intro p hp h2 _;rcases(F.ok p hp).ent with ⟨h,_⟩|⟨_,_,h⟩
  ·rw[h2] at h;cases h
  ·have:p.entry.toNat∈aM ts p.s:=by rw[h];simp
   simp only[aM,List.mem_filter,aZ] at this;exact this.1.2
 rcases QC F.pw hp hq with h|(h|⟨h1,h2⟩)|(h|⟨h1,h2⟩)
 ·exact .inl h
 ·exact .inr (.inl h)
 ·exact .inr (.inr (.inl ⟨h1,ent p hp h1 ⟨q,hq,h2⟩,h2⟩))
 ·exact .inr (.inl (RH.symm h))
 ·exact .inr (.inr (.inr ⟨h1,ent q hq h1 ⟨p,hp,h2⟩,h2⟩))
theorem NU{k:Nat}(hk:k<ts.length):(bP ts.length ps k).s k=true∧(bP ts.length ps k=eP ts.length∨bP ts.length ps k∈ps)∧∀q∈ps,q.s k=true→∀y,(bP ts.length ps k).s y=true→q.s y=true:=by
 obtain⟨hg,hl,hr⟩:=bQ hf
 rw[bP]
 have key:(fun(d:List aI) (best:aI)=>best.s k=true∧(best=eP ts.length∨best∈ps)∧∀q∈d,q.s k=true→∀y,best.s y=true→q.s y=true) ([]++ps) (ps.foldl (gA k) (eP ts.length)):=by
  refine xI (fun(d:List aI) (best:aI)=>best.s k=true∧(best=eP ts.length∨best∈ps)∧∀q∈d,q.s k=true→∀y,best.s y=true→q.s y=true) _ _ _ ⟨by simp[eP,aL,hk],.inl rfl,fun q hq=>by cases hq⟩ ?_;intro d q best hq ⟨h1,h2,h3⟩;unfold gA;have cq:=mY F hq hl.2;have cb:cA best.s:=by
   rcases h2 with rfl|h2
   ·exact eJ hl.2
   ·exact mY F h2 hl.2
  by_cases hw:(q.s k&&cS q.s best.s)=true
  ·rw[if_pos hw];rw[Bool.and_eq_true,within_iff cq cb] at hw;refine⟨hw.1,.inr hq,fun q' hq' hk' y hy=>?_⟩;rcases aCA.1 hq' with hq'|hq'
   ·exact h3 q' hq' hk' y (hw.2.1 y hy)
   ·have:q'=q:=by simpa using hq'
    subst this;exact hy
  ·rw[if_neg hw];refine⟨h1,h2,fun q' hq' hk' y hy=>?_⟩;rcases aCA.1 hq' with hq'|hq'
   ·exact h3 q' hq' hk' y hy
   ·have:q'=q:=by simpa using hq'
    subst this;rw[Bool.and_eq_true,within_iff cq cb,not_and] at hw;have hw:=hw hk';rcases h2 with rfl|h2
    ·refine absurd ⟨fun z hz=>?_,0,?_,?_⟩ hw
     ·have:=(F.ok q' hq).low z hz;simp[eP,aL];omega
     ·simp[eP,aL];omega
     ·cases e:q'.s 0 with
      |false=>rfl
      |true=>have:=(F.ok q' hq).low 0 e;omega
    ·rcases pO F h2 hq with rfl|h|⟨_,h4,h5⟩|⟨_,h4,h5⟩
     ·exact hy
     ·rw[h k h1] at hk';cases hk'
     ·refine absurd ⟨fun z hz=>(h5 z hz).1,_,h4,?_⟩ hw;cases e:q'.s best.entry.toNat with
      |false=>rfl
      |true=>exact absurd rfl (h5 _ e).2
     ·exact(h5 y hy).1
 simpa using key
omit F in
theorem LM{k x:Nat}(hk:1≤k)(of:Nat→Bool):fF ts k of x=true↔of x=true∧1≤x∧Dom ts k x:=by
 obtain⟨hg,hl,hr⟩:=bQ hf
 simp only[fF,Bool.and_eq_true,Bool.not_eq_true',Bool.or_eq_false_iff,beq_eq_false_iff_ne]
 have h0:bW (aL ts.length) k 0=true:=eS.2 ⟨by omega,by omega⟩
 have:=fG (jQ (eJ hl.2) k) (next:=nx ts) 0 x
 rw[h0] at this
 simp only[true_and] at this
 constructor
 ·rintro⟨h1,h2,h3⟩;exact⟨h1,by omega,fun h=>by rw[this.2 h] at h3;cases h3⟩
 ·rintro⟨h1,h2,h3⟩;refine⟨h1,by omega,?_⟩;cases e:bL (nx ts) (bW (aL ts.length) k) 0 x with
  |false=>rfl
  |true=>exact absurd (this.1 e) h3
structure jI(ts:List aT)(ps:List aI)(c:aI)(k:Nat)(p:aI):Prop where
 low:1≤k∧k<ts.length
 from_:∃b,pv ts k= [b]
 c4:c.kind=4
 ce:c.entry=k
 small:p.s k=true∧(p=eP ts.length∨p∈ps)∧∀q∈ps,q.s k=true→∀y,p.s y=true→q.s y=true
 no3:p.kind≠3
 noe:p.entry≠k
 set:∀x,c.s x=true↔p.s x=true∧1≤x∧Dom ts k x
theorem FX{c:aI}{k:Nat}(hk:k<ts.length)(h:eX ts ps k=some c):∃p,jI ts ps c k p:=by
 unfold eX at h
 split at h
 case isFalse=>cases h
 case isTrue hc=>
  obtain⟨h1,h2,h3,h4,h5⟩:=hc;simp only[Option.some.injEq] at h;subst h;obtain⟨b,hb⟩:∃b,pv ts k= [b]:=by
   match e:pv ts k,h1 with
   | [b],_=>exact⟨b,rfl⟩
  have hk1:1≤k:=by
   have:k∈nx ts b:=(nJ ts k b).1 (by rw[hb];simp);exact(lJ (bQ hf).1 this).1
  exact⟨bP ts.length ps k,⟨hk1,hk⟩,⟨b,hb⟩,rfl,rfl,NU hf F hk,h3,h4,fun x=>LM hf hk1 _⟩
end
section
variable {ts:List aT} {ps:List aI} {c p:aI} {k:Nat} (hf:bU ts=true) (F:tZ ts (aL ts.length) ps) (C:jI ts ps c k p)
include hf F C
omit hf F in
theorem jI.self:c.s k=true:=(C.set k).2 ⟨C.small.1,C.low.1,XH k⟩
theorem jI.lows:∀y,c.s y=true→1≤y∧y<ts.length:=fun y hy=>by
 obtain⟨h1,h2,_⟩:=(C.set y).1 hy
 rcases C.small.2.1 with h|h
 ·rw[h] at h1;simp[eP,aL] at h1;exact⟨h2,h1⟩
 ·exact(F.ok p h).low y h1
omit hf in
theorem jI.kinds:p=eP ts.length∨(p∈ps∧p.kind=2):=by
 rcases C.small.2.1 with h|h
 ·exact .inl h
 ·rcases(F.ok p h).ent with ⟨h2,_⟩|⟨h2,_⟩
  ·exact absurd h2 C.no3
  ·exact .inr ⟨h,h2⟩
theorem jI.entry_out(hp:p∈ps):p.s p.entry.toNat=true∧c.s p.entry.toNat=false:=by
 have h2:p.kind=2:=by
  rcases(F.ok p hp).ent with ⟨h2,_⟩|⟨h2,_⟩
  ·exact absurd h2 C.no3
  ·exact h2
 have he0:0≤p.entry:=by
  rcases(F.ok p hp).ent with ⟨h,_⟩|⟨_,h,_⟩
  ·rw[h2] at h;cases h
  ·exact h
 have hne:k≠p.entry.toNat:=fun e=>C.noe (by omega)
 obtain⟨h3,h4⟩:=BV hf (F.ok p hp) h2 C.small.1 hne
 refine⟨h4,?_⟩
 cases e:c.s p.entry.toNat with
 |false=>rfl
 |true=>exact absurd ((C.set _).1 e).2.2 h3
theorem jI.loop_in{q:aI}(hq:q∈ps)(hk:q.s k=false){x:Nat}(hx:q.s x=true)(hc:c.s x=true):eK q.s c.s:=by
 obtain⟨h1,h2,h3⟩:=(C.set x).1 hc
 have hd:=RB (fun y hy=>((F.ok q hq).low y hy).2) (F.ok q hq).tog hk hx h3
 refine⟨fun y hy=>(C.set y).2 ⟨?_,((F.ok q hq).low y hy).1,hd y hy⟩,k,C.self,hk⟩
 rcases C.small.2.1 with h|h
 ·rw[h];simp[eP,aL];exact((F.ok q hq).low y hy).2
 ·rcases pO F h hq with rfl|h4|⟨_,_,h4⟩|⟨_,_,h4⟩
  ·exact hy
  ·rw[h4 x h1] at hx;cases hx
  ·exact(h4 y hy).1
  ·rw[(h4 k C.small.1).1] at hk;cases hk
theorem jI.in_loop{q:aI}(hq:q∈ps)(hk:q.s k=true):eK c.s q.s:=by
 have h1:=C.small.2.2 q hq hk
 rcases C.small.2.1 with h|h
 ·exfalso;have:=h1 0 (by rw[h];simp[eP,aL];have:=(bQ hf).2.1;omega);have:=(F.ok q hq).low 0 this;omega
 ·obtain⟨h2,h3⟩:=C.entry_out hf F h;exact⟨fun y hy=>h1 y ((C.set y).1 hy).1,_,h1 _ h2,h3⟩
theorem jI.loop_apart{q:aI}(hq:q∈ps):oF q c:=by
 cases hk:q.s k with
 |true=>exact .inr (.inr (C.in_loop hf F hq hk))
 |false=>
  by_cases hx:∃x,q.s x=true∧c.s x=true
  ·obtain⟨x,h1,h2⟩:=hx;exact .inr (.inl (C.loop_in hf F hq hk h1 h2))
  ·refine .inl fun y hy=>?_;cases e:c.s y with
   |false=>rfl
   |true=>exact absurd ⟨y,hy,e⟩ hx
omit F in
theorem jI.reach:Reach (nx ts) (aL ts.length) 0 k:=(bQ hf).2.2 k C.low.1 C.low.2
theorem jI.cond_in{c' p':aI}{k':Nat}(C':jI ts ps c' k' p')(hne:k≠k'){x:Nat}(h:c.s x=true)(h':c'.s x=true)(hd:Dom ts k k'):eK c'.s c.s:=by
 have hnd:¬Dom ts k' k:=fun h2=>KM (C.reach hf) hne hd h2
 have hsub:∀y,p'.s y=true→y<ts.length→p.s y=true:=by
  intro y hy hyl;rcases C.small.2.1 with h1|h1
  ·rw[h1];simp[eP,aL,hyl]
  ·cases e:p.s k' with
   |true=>exact C'.small.2.2 p h1 e y hy
   |false=>
    exact absurd (RB (fun y hy=>((F.ok p h1).low y hy).2) (F.ok p h1).tog e ((C.set x).1 h).1 ((C'.set x).1 h').2.2 k C.small.1) hnd
 refine⟨fun y hy=>?_,k,C.self,?_⟩
 ·have h1:=(C'.set y).1 hy;exact(C.set y).2 ⟨hsub y h1.1 (C'.lows hf F y hy).2,h1.2.1,TM hd h1.2.2⟩
 ·cases e:c'.s k with
  |false=>rfl
  |true=>exact absurd ((C'.set k).1 e).2.2 hnd
theorem jI.cond_apart{c' p':aI}{k':Nat}(C':jI ts ps c' k' p')(hne:k≠k'):oF c c':=by
 by_cases hx:∃x,c.s x=true∧c'.s x=true
 ·obtain⟨x,h1,h2⟩:=hx;have hl:=C.lows hf F x h1;rcases TN ((bQ hf).2.2 x hl.1 hl.2) ((C.set x).1 h1).2.2 ((C'.set x).1 h2).2.2 with hd|hd
  ·exact .inr (.inr (C.cond_in hf F C' hne h1 h2 hd))
  ·exact .inr (.inl (C'.cond_in hf F C (fun e=>hne e.symm) h2 h1 hd))
 ·refine .inl fun y hy=>?_;cases e:c'.s y with
  |false=>rfl
  |true=>exact absurd ⟨y,hy,e⟩ hx
theorem jI.entries:aM ts c.s= [k]:=by
 have hl:=(bQ hf).2.1
 have hcan:cA c.s:=fun y hy=>by have:=(C.lows hf F y hy).2;omega
 have hnd:(aM ts c.s).Nodup:=(List.nodup_range.filter _).filter _
 have hm:∀x,x∈aM ts c.s↔x=k:=by
  intro x;rw[fM hcan];constructor
  ·rintro⟨h1,h2,y,h3,h4⟩;apply aCF;intro hne;obtain⟨h5,h6,h7⟩:=(C.set x).1 h1;have hyl:y<ts.length:=by
    apply aCF;intro hn;rw[sJ ts y (by omega)] at h3;cases h3
   have hin:bW (aL ts.length) k x=true:=eS.2 ⟨hne,h2⟩;have hy0:1≤y:=by
    cases y with
    |zero=>exact absurd (.one h3 hin) h7
    |succ y=>omega
   have hyd:Dom ts k y:=fun hr=>h7 (.step hr h3 hin);have hyp:p.s y=false:=by
    cases e:p.s y with
    |false=>rfl
    |true=>rw[(C.set y).2 ⟨e,hy0,hyd⟩] at h4;cases h4
   rcases C.kinds F with h|⟨h,h2k⟩
   ·rw[h] at hyp;simp[eP,aL] at hyp;omega
   ·have hpc:=mY F h hl.2;have he:aM ts p.s= [p.entry.toNat]:=by
     rcases(F.ok p h).ent with ⟨h8,_⟩|⟨_,_,h8⟩
     ·rw[h2k] at h8;cases h8
     ·exact h8
    have:x∈aM ts p.s:=(fM hpc x).2 ⟨h5,h2,y,h3,hyp⟩;rw[he] at this;have:x=p.entry.toNat:=by simpa using this
    rw[this,(C.entry_out hf F h).2] at h1;cases h1
  ·rintro rfl;obtain⟨b,hb⟩:=C.from_;have hbk:x∈nx ts b:=(nJ ts x b).1 (by rw[hb];simp);refine⟨C.self,C.low.2,b,hbk,?_⟩;cases e:c.s b with
   |false=>rfl
   |true=>
    exfalso;obtain⟨h1,h2,h3⟩:=(C.set b).1 e;obtain⟨y,z,hy,h4,h5,h6,_⟩:=yE (C.reach hf) (fun z=>z==x) (by have:=C.low.1;simp;omega) (by simp);have hz:z=x:=by simpa using h6
    subst hz;have:y∈pv ts z:=(nJ ts z y).2 h5;rw[hb] at this;have hyb:y=b:=by simpa using this
    subst hyb;rcases hy with rfl|hy
    ·omega
    ·refine h3 (hy.mono fun u hu=>?_);simp only[iA] at hu
     split at hu
     ·cases hu
     ·rename_i hu2
      exact eS.2 ⟨by simpa using hu2,by simpa[aL] using hu⟩
 match e:aM ts c.s,hnd,hm with
 | [],_,hm=>have:=(hm k).2 rfl;cases this
 | [x],_,hm=>rw[(hm x).1 (by simp)]
 |x :: y :: l,hnd,hm=>
  have h1:=(hm x).1 (by simp);have h2:=(hm y).1 (by simp);rw[h1,h2] at hnd;simp at hnd
theorem jI.ring(b:Nat)(hb:c.s b=true)(hno:∀q∈ps,eK q.s c.s→q.s b=false):¬Reach (nx ts) c.s b b:=by
 intro hr
 have fin:∀q∈ps,q.s b=true→q.s k=true:=fun q hq hqb=>by
  cases e:q.s k with
  |true=>rfl
  |false=>rw[hno q hq (C.loop_in hf F hq e hqb hb)] at hqb;cases hqb
 rcases C.kinds F with h|⟨h,h2⟩
 ·obtain⟨q,hq,hqb⟩:=F.ring b (by simp[aL];exact(C.lows hf F b hb).2) (hr.mono fun y hy=>by simp[aL];exact(C.lows hf F y hy).2);have:=C.small.2.2 q hq (fin q hq hqb) 0 (by rw[h];simp[eP,aL];have:=(bQ hf).2.1;omega);have:=(F.ok q hq).low 0 this;omega
 ·obtain⟨h3,h4⟩:=C.entry_out hf F h;obtain⟨q,hq,hqb,h5⟩:=F.inner p h h2 b ((C.set b).1 hb).1 (hr.mono fun y hy=>oG.2 ⟨fun e=>(by subst e;rw[h4] at hy;cases hy),((C.set y).1 hy).1⟩);exact absurd rfl (h5 _ (C.small.2.2 q hq (fin q hq hqb) _ h3)).2
end
end
end Go.Proofs.YtblhmdhfhaencaaGreat
