/-
 Words on memory that every text of this family uses:slices of ints that read as lists,worlds that only grow. No program in sight.
-/
import Derived.WalkKit
import Derived.ProofKit
import Derived.Below
import Derived.Lib.Hide
import Derived.Deep.QuietTactic
import Derived.BigQuiet
import Derived.Deep.Draws
import Derived.Laws.OwnMore
import Derived.Outline
import Derived.Test.YtnmkjliioogbgaaGreatDoorRows
namespace Go.Proofs.YtnmkjliioogbgaaGreatDoor
set_option linter.unusedSimpArgs false
set_option linter.unusedVariables false
set_option linter.unusedSectionVars false
set_option maxRecDepth 100000
set_option maxHeartbeats 40000000
section
open Go.RowKit
def I64(n:Int):Prop:=-9223372036854775808≤n∧n≤9223372036854775807
def Ints(w:World)(a:Option Addr)(n:Nat)(xs:List Int):Prop:=
 xs.length=n∧n≤17592186044416∧∀k,k<n→∃b o,a=some ⟨b,o,none⟩∧w.cell? ⟨b,o+k,none⟩=some (.int .i64 (xs.getD k 0))∧I64 (xs.getD k 0)
theorem cell_ext{w w':World}(h:Below w.heap.size w w'){p:Addr}{v:Value}(hc:w.cell? p=some v):w'.cell? p=some v:=
 (h.cell (World.block_lt_of_cell? w p hc)).trans hc
theorem Ints.ext{w w':World}{a:Option Addr}{n:Nat}{xs:List Int}(h:Ints w a n xs)(hb:Below w.heap.size w w'):Ints w' a n xs:=
 ⟨h.1,h.2.1,fun k hk=>let ⟨b,o,e,hc,hi⟩:=h.2.2 k hk;⟨b,o,e,cell_ext hb hc,hi⟩⟩
theorem below_drewN{B:Nat}{a w:World}(h:Below B a w)(n:Nat):Below B a (w.drewN n):=⟨h.os,h.tape,h.output,h.size,h.block⟩
theorem ext_drewN{a w:World}(h:Below a.heap.size a w)(n:Nat):Below a.heap.size a (w.drewN n):=below_drewN h n
theorem ext_trans{a b c:World}(h:Below a.heap.size a b)(k:Below b.heap.size b c):Below a.heap.size a c:=h.trans (k.mono h.size)
theorem bcell{W w1:World}(hb:Below W.heap.size W w1):(∀b o,b<W.heap.size→w1.cell? ⟨b,o,none⟩=W.cell? ⟨b,o,none⟩)∧(∀b o,b<W.heap.size→w1.frozen? ⟨b,o,none⟩=W.frozen? ⟨b,o,none⟩):=
 ⟨fun b o h=>hb.cell (p:=⟨b,o,none⟩) h,fun b o h=>hb.frozen (p:=⟨b,o,none⟩) h⟩
theorem ret_int{k:IntKind}{a b:Int}(h:a=b):Ending.returned (.int k a)=.returned (.int k b):=by rw[h]
theorem ret_bool{a b:Bool}(h:a=b):Ending.returned (.bool a)=.returned (.bool b):=by rw[h]
def idx:List Int→Int→Int
 | [],_=>-1
 |y :: l,x=>if y=x then 0 else if idx l x<0 then -1 else idx l x+1
theorem idx_ge(l:List Int)(x:Int): -1≤idx l x∧idx l x<l.length:=by
 induction l with
 |nil=>simp[idx]
 |cons y l ih=>
  simp only[idx,List.length_cons]
  split
  ·omega
  ·split<;>omega
theorem idx_neg_iff(l:List Int)(x:Int):idx l x<0↔x∉l:=by
 induction l with
 |nil=>simp[idx]
 |cons y l ih=>
  have:=idx_ge l x;simp only[idx,List.mem_cons,not_or];by_cases h:y=x
  ·simp[h]
  ·rw[if_neg h];have h':¬x=y:=fun e=>h e.symm
   split
   ·simp_all
   ·rename_i hn
    have:x∈l:=by
     by_cases hx:x∈l
     ·exact hx
     ·exact absurd (ih.2 hx) hn
    simp[this];omega
theorem idx_found(l:List Int)(x:Int)(k:Nat)(hk:k<l.length)(hx:l.getD k 0=x)(hno:∀j,j<k→l.getD j 0≠x):idx l x=k:=by
 induction l generalizing k with
 |nil=>simp at hk
 |cons y l ih=>
  cases k with
  |zero=>simp at hx;simp[idx,hx]
  |succ k=>
   have h0:=hno 0 (by omega);simp at h0;have:=ih k (by simpa using hk) (by simpa using hx) (fun j hj=>by have:=hno (j+1) (by omega);simpa using this);simp only[idx,if_neg h0,this];rw[if_neg (by omega)];omega
theorem idx_none(l:List Int)(x:Int)(hno:∀j,j<l.length→l.getD j 0≠x):idx l x= -1:=by
 have h:=idx_ge l x
 have:=(idx_neg_iff l x).2 (fun hx=>by
  obtain⟨j,hj,e⟩:=List.getElem_of_mem hx
  exact hno j hj (by simp[List.getD,hj,e]))
 omega
end

section
open Go.RowKit
def idxF{α:Type}(p:α→Bool):List α→Int
 | []=>-1
 |y :: l=>if p y then 0 else if idxF p l<0 then -1 else idxF p l+1
theorem idxF_ge{α:Type}(p:α→Bool)(l:List α): -1≤idxF p l∧idxF p l<l.length:=by
 induction l with
 |nil=>simp[idxF]
 |cons y l ih=>
  simp only[idxF,List.length_cons]
  split
  ·omega
  ·split<;>omega
theorem idxF_found{α:Type}(p:α→Bool)(l:List α)(k:Nat)(x:α)(hx:l[k]? =some x)(hp:p x=true)(hno:∀j y,j<k→l[j]? =some y→p y=false):idxF p l=k:=by
 induction l generalizing k with
 |nil=>simp at hx
 |cons y l ih=>
  cases k with
  |zero=>simp at hx;subst hx;simp[idxF,hp]
  |succ k=>
   have h0:=hno 0 y (by omega) rfl;have:=ih k (by simpa using hx) (fun j z hj hz=>hno (j+1) z (by omega) (by simpa using hz));simp only[idxF,h0,this];simp;omega
theorem idxF_none{α:Type}(p:α→Bool)(l:List α)(hno:∀y∈l,p y=false):idxF p l= -1:=by
 induction l with
 |nil=>rfl
 |cons y l ih=>simp[idxF,hno y (by simp),ih (fun z hz=>hno z (by simp[hz]))]
theorem idxF_iff{α:Type}(p:α→Bool)(l:List α):0≤idxF p l↔l.any p=true:=by
 induction l with
 |nil=>simp[idxF]
 |cons y l ih=>
  have hg:=idxF_ge p l;have e:idxF p (y :: l)=(if p y then 0 else if idxF p l<0 then -1 else idxF p l+1):=rfl;rw[e,List.any_cons,Bool.or_eq_true,←ih];by_cases hp:p y=true
  ·simp[hp]
  ·rw[if_neg hp]
   split
   ·constructor
    ·intro h;omega
    ·rintro(h|h)
     ·exact absurd h hp
     ·omega
   ·constructor
    ·intro h;exact .inr (by omega)
    ·intro h;omega
theorem idxF_any{α:Type}(p:α→Bool)(l:List α):decide (0≤idxF p l)=l.any p:=by
 rw[Bool.eq_iff_iff,decide_eq_true_eq]
 exact idxF_iff p l
theorem ext_alloc(w:World)(o:Obj):Below w.heap.size w (w.alloc o):=(Below.refl _ w).alloc (Nat.le_refl _) o
theorem indexFunc_any(F:Nat)(caps:Array Value)(eF:∀args w,(callFunc F args).run Tryz.prog w=.ok (.enter F args) w)(p:Int→Bool)(a:Option Addr)(n c:Nat)(xs:List Int)(w:World)
  (hp:∀(x:Int) (W:World),x∈xs→Below w.heap.size w W→Calls Tryz.prog F (#[.int .i64 x]++caps) W fun e W'=>e=.returned (.bool (p x))∧Below W.heap.size W W') (h:Ints w a n xs):
  Calls Tryz.prog 31 #[.slice a n c,.func (.func F) #[] caps] w fun e w'=>e=.returned (.int .i64 (idxF p xs))∧Below w.heap.size w w':=by
 have HL:=Lib.hid h.1
 have hn:=h.2.1
 have H:=Lib.hid h
 have HP:=Lib.hid hp
 clear h hp
 go_enter Tryz.func31,Tryz.ntmps31
 go_wp2
 go_loopw [5,8] (fun _ i wr=>∃(k:Nat),k≤n∧i=.int .i64 k∧Hid (∀j y,j<k→xs[j]? =some y→p y=false)∧Hid (Below w.heap.size w wr)) (fun _ i _=>n-(intOf i).toNat)
 case atStart=>exact⟨0,by omega,rfl,fun j y hj=>absurd hj (by omega),Below.refl _ _⟩
 case round=>
  obtain⟨k,hk,rfl,HR,HB⟩:=hrel;by_cases hlt:k<n
  ·obtain⟨b,o,rfl,hcell,hw1,hw2⟩:=(H.out.ext HB.out).2.2 k hlt;have hgk:xs[k]? =some (xs.getD k 0):=by
    have hk':k<xs.length:=by rw[HL.out];exact hlt
    simp[List.getD_eq_getElem?_getD,hk']
   have HG:=Lib.hid hgk;have HM:=Lib.hid (List.mem_of_getElem? hgk);clear hgk;generalize xs.getD k 0=r at *;by_cases hy:p r=true
   ·have HE:Hid (idxF p xs=k):=idxF_found p xs k r HG.out hy HR.out;go_wp2;refine(HP.out r wr HM.out HB.out).mono ?_;rintro e w' ⟨rfl,hb'⟩;have HB':=Lib.hid (ext_trans HB.out hb');clear hb';rw[hy];go_wp2
    go_ret
    exact⟨by rw[HE.out];rfl,HB'.out⟩
   ·have hy':p r=false:=by simpa using hy
    have HE:Hid (∀j z,j<k+1→xs[j]? =some z→p z=false):=fun j z hj hz=>by
     by_cases e:j=k
     ·subst e;rw[HG.out] at hz;injection hz with hz;subst hz;exact hy'
     ·exact HR.out j z (by omega) hz
    go_wp2;refine(HP.out r wr HM.out HB.out).mono ?_;rintro e w' ⟨rfl,hb'⟩;have HB':=Lib.hid (ext_trans HB.out hb');clear hb';rw[hy'];go_wp2
    go_roundw
    case rel=>exact⟨k+1,by omega,by go_num,HE,HB'⟩
    case measure=>simp[intOf];omega
  ·obtain rfl:k=n:=by omega
   have HE:Hid (idxF p xs= -1):=idxF_none p xs (fun z hz=>by
    obtain⟨j,hj,e⟩:=List.mem_iff_getElem.1 hz
    exact HR.out j z (by rw[HL.out] at hj;exact hj) (by rw[List.getElem?_eq_getElem hj,e]))
   go_wp2
   go_ret
   exact⟨by rw[HE.out];rfl,HB.out⟩
theorem containsFunc_any(F:Nat)(caps:Array Value)(eF:∀args w,(callFunc F args).run Tryz.prog w=.ok (.enter F args) w)(p:Int→Bool)(a:Option Addr)(n c:Nat)(xs:List Int)(w:World)
  (hp:∀(x:Int) (W:World),x∈xs→Below w.heap.size w W→Calls Tryz.prog F (#[.int .i64 x]++caps) W fun e W'=>e=.returned (.bool (p x))∧Below W.heap.size W W') (h:Ints w a n xs):
  Calls Tryz.prog 20 #[.slice a n c,.func (.func F) #[] caps] w fun e w'=>e=.returned (.bool (xs.any p))∧Below w.heap.size w w':=by
 have HA:=Lib.hid (idxF_any p xs)
 have hg:=idxF_ge p xs
 have HP:=Lib.hid hp
 have H:=Lib.hid h
 clear hp h
 go_enter Tryz.func20,Tryz.ntmps20
 go_wp2_with (go_at_call 31;refine(indexFunc_any F caps eF p a n c xs w HP.out H.out).mono ?_;rintro e w' ⟨rfl,hb'⟩;have HB':=Lib.hid hb';clear hb')
 go_ret
 exact⟨by rw[←HA.out];rfl,HB'.out⟩
end

section
structure TermD where
 kind:Int
 a:Int
 t0:Int
 t1:Int
abbrev zTerm:TermD:=⟨0,0,0,0⟩
def varB(n:Int):Bool:=decide (1≤n∧n≤200)
def termB(t:TermD):Bool:=
 if t.kind=1 then decide (t.a=0∧t.t1=0) else if t.kind=2 then varB t.a
 else if t.kind=3 then (decide (t.a=0)||varB t.a)&&decide (t.t0=0∧t.t1=0) else decide (t.kind=4∧t.a=0∧t.t0=0∧t.t1=0)
def toD(t:TermD):List Int:=if termB t then (if t.kind=1 then [t.t0] else if t.kind=2 then [t.t0,t.t1] else []) else []
theorem toD_len(t:TermD):(toD t).length≤2:=by unfold toD;repeat (first|split|simp)
def nx(ts:List TermD)(k:Nat):List Nat:=(toD (ts.getD k zTerm)).map Int.toNat
def pv(ts:List TermD)(y:Nat):List Nat:=(List.range ts.length).flatMap fun k=>((nx ts k).filter (fun x=>x==y)).map fun _=>k
theorem nx_none(ts:List TermD)(k:Nat)(h:ts.length≤k):nx ts k= []:=by
 have:ts.getD k zTerm=zTerm:=by rw[List.getD_eq_getElem?_getD,List.getElem?_eq_none h];rfl
 rw[nx,this];rfl
theorem mem_pv(ts:List TermD)(y k:Nat):k∈pv ts y↔y∈nx ts k:=by
 simp only[pv,List.mem_flatMap,List.mem_range,List.mem_map,List.mem_filter,beq_iff_eq]
 constructor
 ·rintro⟨j,_,x,⟨h,rfl⟩,rfl⟩;exact h
 ·intro h;refine⟨k,?_,y,⟨h,rfl⟩,rfl⟩;apply Classical.byContradiction;intro hk;rw[nx_none ts k (by omega)] at h;cases h
def goodB(ts:List TermD):Bool:=decide (1≤ts.length∧ts.length≤200)&&ts.all fun t=>termB t&&(toD t).all fun x=>decide (1≤x∧x<ts.length)
theorem goodB_iff(ts:List TermD):goodB ts=true↔(1≤ts.length∧ts.length≤200)∧∀t∈ts,termB t=true∧∀x∈toD t,1≤x∧x<ts.length:=by
 simp[goodB]
theorem good_nx{ts:List TermD}(h:goodB ts=true){k y:Nat}(hy:y∈nx ts k):1≤y∧y<ts.length:=by
 obtain⟨_,h⟩:=(goodB_iff ts).1 h
 by_cases hk:k<ts.length
 ·have hm:ts.getD k zTerm∈ts:=by rw[List.getD_eq_getElem?_getD,List.getElem?_eq_getElem hk];exact List.getElem_mem _
  rw[nx,List.mem_map] at hy;obtain⟨x,hx,rfl⟩:=hy;have:=(h _ hm).2 x hx;omega
 ·rw[nx_none ts k (by omega)] at hy;cases hy
inductive Reach (next:Nat→List Nat) (inn:Nat→Bool) (b:Nat):Nat→Prop
 |one {y:Nat}:y∈next b→inn y=true→Reach next inn b y
 |step {x y:Nat}:Reach next inn b x→y∈next x→inn y=true→Reach next inn b y
theorem Reach.inn{next:Nat→List Nat}{inn:Nat→Bool}{b y:Nat}(h:Reach next inn b y):inn y=true:=by cases h<;>assumption
structure WInv(next:Nat→List Nat)(inn:Nat→Bool)(b:Nat)(todo:List Nat)(s:Nat→Bool)(x:Option (Nat×Nat)):Prop where
 sound:∀y,s y=true→Reach next inn b y
 src:∀z∈todo,z=b∨s z=true
 cur:∀z j,x=some (z,j)→z=b∨s z=true
 closed:∀z,(z=b∨s z=true)→z∈todo∨(∃j,x=some (z,j)∧∀y∈(next z).take j,inn y=true→s y=true)∨∀y∈next z,inn y=true→s y=true
section
variable {next:Nat→List Nat} {inn:Nat→Bool} {b:Nat} {todo:List Nat} {s:Nat→Bool}
theorem WInv.start(next:Nat→List Nat)(inn:Nat→Bool)(b:Nat):WInv next inn b [b] (fun _=>false) none where
 sound:=fun y h=>by cases h
 src:=fun z h=>by simp at h;exact .inl h
 cur:=fun z j h=>by cases h
 closed:=fun z h=>h.elim (fun e=>.inl (by simp[e])) (fun h=>by cases h)
theorem WInv.take(h:WInv next inn b todo s none)(x:Nat)(todo':List Nat)(hm:∀z,z∈todo↔z=x∨z∈todo'):WInv next inn b todo' s (some (x,0)) where
 sound:=h.sound
 src:=fun z hz=>h.src z ((hm z).2 (.inr hz))
 cur:=fun z j e=>by cases e;exact h.src x ((hm x).2 (.inl rfl))
 closed:=fun z hz=>by
  rcases h.closed z hz with h1|⟨j,h1,_⟩|h1
  ·rcases(hm z).1 h1 with rfl|h2
   ·exact .inr (.inl ⟨0,rfl,fun y hy=>by simp at hy⟩)
   ·exact .inl h2
  ·cases h1
  ·exact .inr (.inr h1)
theorem takeN{l:List Nat}{j:Nat}(hj:j<l.length){y:Nat}(hy:y∈l.take (j+1)):y∈l.take j∨y=l.getD j 0:=by
 rw[List.take_add_one,List.getElem?_eq_getElem hj,List.mem_append] at hy
 rcases hy with h|h
 ·exact .inl h
 ·exact .inr (by simpa[List.getD_eq_getElem?_getD,hj] using h)
theorem WInv.skip{x j:Nat}(h:WInv next inn b todo s (some (x,j)))(hj:j<(next x).length)(hn:inn ((next x).getD j 0)=true→s ((next x).getD j 0)=true):WInv next inn b todo s (some (x,j+1)) where
 sound:=h.sound
 src:=h.src
 cur:=fun z k e=>by cases e;exact h.cur x j rfl
 closed:=fun z hz=>by
  rcases h.closed z hz with h1|⟨k,h1,h2⟩|h1
  ·exact .inl h1
  ·cases h1;refine .inr (.inl ⟨j+1,rfl,fun y hy hi=>?_⟩);rcases takeN hj hy with h3|rfl
   ·exact h2 y h3 hi
   ·exact hn hi
  ·exact .inr (.inr h1)
theorem WInv.push{x j:Nat}(h:WInv next inn b todo s (some (x,j)))(hj:j<(next x).length)(hi:inn ((next x).getD j 0)=true)(todo':List Nat)(hm:∀z,z∈todo'↔z=(next x).getD j 0∨z∈todo)(s':Nat→Bool)(hs:∀z,s' z=true↔z=(next x).getD j 0∨s z=true):
  WInv next inn b todo' s' (some (x,j+1)) where
 sound:=fun y hy=>by
  rcases(hs y).1 hy with rfl|h1
  ·have hx:(next x).getD j 0∈next x:=by rw[List.getD_eq_getElem?_getD,List.getElem?_eq_getElem hj];exact List.getElem_mem _
   rcases h.cur x j rfl with rfl|h2
   ·exact .one hx hi
   ·exact .step (h.sound x h2) hx hi
  ·exact h.sound y h1
 src:=fun z hz=>by
  rcases(hm z).1 hz with rfl|h1
  ·exact .inr ((hs _).2 (.inl rfl))
  ·exact(h.src z h1).imp id (fun h2=>(hs z).2 (.inr h2))
 cur:=fun z k e=>by cases e;exact(h.cur x j rfl).imp id (fun h2=>(hs x).2 (.inr h2))
 closed:=fun z hz=>by
  have hz':z=(next x).getD j 0∨(z=b∨s z=true):=by
   rcases hz with rfl|h1
   ·exact .inr (.inl rfl)
   ·exact((hs z).1 h1).imp id .inr
  rcases hz' with rfl|hz'
  ·exact .inl ((hm _).2 (.inl rfl))
  ·rcases h.closed z hz' with h1|⟨k,h1,h2⟩|h1
   ·exact .inl ((hm z).2 (.inr h1))
   ·cases h1;refine .inr (.inl ⟨j+1,rfl,fun y hy hi=>?_⟩);rcases takeN hj hy with h3|rfl
    ·exact(hs y).2 (.inr (h2 y h3 hi))
    ·exact(hs _).2 (.inl rfl)
   ·exact .inr (.inr fun y hy hi=>(hs y).2 (.inr (h1 y hy hi)))
theorem WInv.fin{x j:Nat}(h:WInv next inn b todo s (some (x,j)))(hj:(next x).length≤j):WInv next inn b todo s none where
 sound:=h.sound
 src:=h.src
 cur:=fun z k e=>by cases e
 closed:=fun z hz=>by
  rcases h.closed z hz with h1|⟨k,h1,h2⟩|h1
  ·exact .inl h1
  ·cases h1;rw[List.take_of_length_le hj] at h2;exact .inr (.inr h2)
  ·exact .inr (.inr h1)
theorem WInv.done(h:WInv next inn b [] s none)(y:Nat):s y=true↔Reach next inn b y:=by
 refine⟨h.sound y,fun hr=>?_⟩
 have hc:∀z,(z=b∨s z=true)→∀y∈next z,inn y=true→s y=true:=fun z hz=>by
  rcases h.closed z hz with h1|⟨k,h1,_⟩|h1
  ·cases h1
  ·cases h1
  ·exact h1
 induction hr with
 |one hy hi=>exact hc b (.inl rfl) _ hy hi
 |step _ hy hi ih=>exact hc _ (.inr ih) _ hy hi
end
def pushL(inn:Nat→Bool)(ts:List Nat×List Nat)(y:Nat):List Nat×List Nat:=if inn y&& !ts.2.contains y then (y :: ts.1,y :: ts.2) else ts
def dfs(next:Nat→List Nat)(inn:Nat→Bool):Nat→List Nat→List Nat→List Nat
 |0,_,seen=>seen
 |_+1,[],seen=>seen
 |f+1,x :: todo,seen=>dfs next inn f ((next x).foldl (pushL inn) (todo,seen)).1 ((next x).foldl (pushL inn) (todo,seen)).2
def walkL(next:Nat→List Nat)(inn:Nat→Bool)(b:Nat):List Nat:=if inn b then dfs next inn 202 [b] [] else []
def walkF(next:Nat→List Nat)(inn:Nat→Bool)(b:Nat):Nat→Bool:=fun y=>(walkL next inn b).contains y
def Canon(s:Nat→Bool):Prop:=∀y,s y=true→y<200
theorem fold_inv{next:Nat→List Nat}{inn:Nat→Bool}{b x:Nat}(hc:Canon inn):∀(m j:Nat) (todo seen:List Nat),(next x).length-j=m→WInv next inn b todo (fun y=>seen.contains y) (some (x,j))→seen.Nodup→(∀y∈seen,y<200)→
  ∃todo' seen',((next x).drop j).foldl (pushL inn) (todo,seen)=(todo',seen')∧WInv next inn b todo' (fun y=>seen'.contains y) none∧seen'.Nodup∧(∀y∈seen',y<200)∧todo'.length+seen.length=todo.length+seen'.length:=by
 intro m
 induction m with
 |zero=>
  intro j todo seen hm h hn hl;rw[List.drop_of_length_le (by omega)];exact⟨todo,seen,rfl,h.fin (by omega),hn,hl,by omega⟩
 |succ m ih=>
  intro j todo seen hm h hn hl;have hj:j<(next x).length:=by omega
  have hg:(next x).getD j 0=(next x)[j]:=by simp[List.getD_eq_getElem?_getD,hj]
  rw[List.drop_eq_getElem_cons hj,List.foldl_cons,←hg];by_cases hp:(inn ((next x).getD j 0)&& !seen.contains ((next x).getD j 0))=true
  ·have e:pushL inn (todo,seen) ((next x).getD j 0)=((next x).getD j 0 :: todo,(next x).getD j 0 :: seen):=by unfold pushL;rw[if_pos hp]
   rw[e];simp only[Bool.and_eq_true,Bool.not_eq_true'] at hp;obtain⟨hi,hs⟩:=hp;have hns:(next x).getD j 0∉seen:=by simpa using hs
   obtain⟨t',s',e1,e2,e3,e4,e5⟩:=ih (j+1) ((next x).getD j 0 :: todo) ((next x).getD j 0 :: seen) (by omega)
    (h.push hj hi _ (fun z=>by simp) _ (fun z=>by simp)) (List.nodup_cons.2 ⟨hns,hn⟩) (fun y hy=>(List.mem_cons.1 hy).elim (fun e=>e▸hc _ hi) (hl y))
   exact⟨t',s',e1,e2,e3,e4,by simp at e5;omega⟩
  ·have e:pushL inn (todo,seen) ((next x).getD j 0)=(todo,seen):=by unfold pushL;rw[if_neg hp]
   rw[e]
   exact ih (j+1) todo seen (by omega) (h.skip hj (fun hi=>by
    cases e2:seen.contains ((next x).getD j 0) with
    |true=>rfl
    |false=>exact absurd (by rw[hi,e2];rfl) hp)) hn hl
theorem nodup_len:∀(N:Nat) (l:List Nat),l.Nodup→(∀y∈l,y<N)→l.length≤N:=by
 intro N
 induction N with
 |zero=>
  intro l _ h;cases l with
  |nil=>simp
  |cons x l=>have:=h x (by simp);omega
 |succ N ih=>
  intro l hn h
  have h1:=ih (l.filter fun y=>y != N) (hn.filter _) (fun y hy=>by
   simp at hy;have:=h y hy.1
   omega)
  have h2:l.length≤(l.filter fun y=>y != N).length+1:=by
   clear ih h h1
   induction l with
   |nil=>simp
   |cons x l ih=>
    rw[List.nodup_cons] at hn;by_cases e:x=N
    ·subst e;have:l.filter (fun y=>y != x)=l:=by
      rw[List.filter_eq_self];intro y hy;have:y≠x:=fun e=>hn.1 (e▸hy);simpa using this
     simp[this]
    ·have:=ih hn.2;simp[e];omega
  omega
theorem dfs_inv{next:Nat→List Nat}{inn:Nat→Bool}{b:Nat}(hc:Canon inn):∀(f:Nat) (todo seen:List Nat),WInv next inn b todo (fun y=>seen.contains y) none→seen.Nodup→(∀y∈seen,y<200)→todo.length+200≤f+seen.length→
  ∀y,(dfs next inn f todo seen).contains y=true↔Reach next inn b y:=by
 intro f
 induction f with
 |zero=>
  intro todo seen h hn hl hf;have:=nodup_len 200 seen hn hl;cases todo with
  |nil=>exact fun y=>h.done y
  |cons x todo=>simp at hf;omega
 |succ f ih=>
  intro todo seen h hn hl hf;cases todo with
  |nil=>exact fun y=>h.done y
  |cons x todo=>
   obtain⟨t',s',e1,e2,e3,e4,e5⟩:=fold_inv (next:=next) (inn:=inn) (b:=b) (x:=x) hc _ 0 todo seen rfl (h.take x todo (fun z=>by simp)) hn hl;rw[List.drop_zero] at e1;simp only[dfs,e1];exact ih t' s' e2 e3 e4 (by simp at hf;omega)
theorem walkF_iff{next:Nat→List Nat}{inn:Nat→Bool}(hc:Canon inn)(b y:Nat):walkF next inn b y=true↔inn b=true∧Reach next inn b y:=by
 unfold walkF walkL
 by_cases hb:inn b=true
 ·rw[if_pos hb];rw[dfs_inv hc 202 [b] [] (by simpa using WInv.start next inn b) (by simp) (by simp) (by simp)];simp[hb]
 ·rw[if_neg hb];simp[hb]
theorem walkF_canon{next:Nat→List Nat}{inn:Nat→Bool}(hc:Canon inn)(b:Nat):Canon (walkF next inn b):=fun y h=>hc y ((walkF_iff hc b y).1 h).2.inn
theorem walkF_of{next:Nat→List Nat}{inn:Nat→Bool}(hc:Canon inn){b:Nat}(hb:inn b=true){s:Nat→Bool}(h:WInv next inn b [] s none):s=walkF next inn b:=by
 funext y
 rw[Bool.eq_iff_iff,h.done y,walkF_iff hc]
 simp[hb]
theorem walkF_no{next:Nat→List Nat}{inn:Nat→Bool}{b:Nat}(hb:inn b=false):walkF next inn b=fun _=>false:=by
 funext y
 simp[walkF,walkL,hb]
def wholeS(n:Nat):Nat→Bool:=fun k=>decide (k<n)
def lessS(s:Nat→Bool)(b:Nat):Nat→Bool:=fun k=>k != b&&s k
def ofS(l:List Int):Nat→Bool:=fun j=>decide (j<200)&&l.contains (j:Int)
def listS(s:Nat→Bool):List Nat:=(List.range 200).filter s
def intsN(l:List Nat):List Int:=l.map fun(k:Nat)=>(k:Int)
theorem whole_canon{n:Nat}(h:n≤200):Canon (wholeS n):=fun y hy=>by simp[wholeS] at hy;omega
theorem less_canon{s:Nat→Bool}(h:Canon s)(b:Nat):Canon (lessS s b):=fun y hy=>by simp[lessS] at hy;exact h y hy.2
theorem of_canon(l:List Int):Canon (ofS l):=fun y hy=>by simp[ofS] at hy;exact hy.1
theorem mem_listS{s:Nat→Bool}(h:Canon s)(y:Nat):y∈listS s↔s y=true:=by
 simp[listS]
 exact fun h1=>h y h1
def fitsB(ts:List TermD):Bool:=goodB ts&&(List.range ts.length).all fun k=>k==0||walkF (nx ts) (wholeS ts.length) 0 k
def knotS(ts:List TermD)(b:Nat)(inn:Nat→Bool):Nat→Bool:=fun k=>walkF (nx ts) inn b k&&walkF (pv ts) inn b k
def entriesS(ts:List TermD)(s:Nat→Bool):List Nat:=(listS s).filter fun b=>decide (b<ts.length)&&(pv ts b).any fun x=> !s x
theorem knot_canon{ts:List TermD}{inn:Nat→Bool}(h:Canon inn)(b:Nat):Canon (knotS ts b inn):=fun y hy=>by
 simp only[knotS,Bool.and_eq_true] at hy
 exact walkF_canon h b y hy.1
end

section
def insD(x:Int):List Int→List Int
 | []=> [x]
 |y :: l=>if x<y then x :: y :: l else if x=y then y :: l else y :: insD x l
def sortD:List Int→List Int
 | []=> []
 |x :: l=>insD x (sortD l)
theorem mem_insD(x z:Int)(l:List Int):z∈insD x l↔z=x∨z∈l:=by
 induction l with
 |nil=>simp[insD]
 |cons y l ih=>
  simp only[insD]
  split
  ·simp
  ·split
   ·rename_i _ e;subst e;simp
   ·simp only[List.mem_cons,ih];constructor
    ·rintro(h|h|h)<;>simp[h]
    ·rintro(h|h|h)<;>simp[h]
theorem mem_sortD(z:Int)(l:List Int):z∈sortD l↔z∈l:=by
 induction l with
 |nil=>simp[sortD]
 |cons x l ih=>rw[sortD,mem_insD,ih,List.mem_cons]
theorem sorted_insD(x:Int)(l:List Int)(h:l.Pairwise (· < ·)):(insD x l).Pairwise (· < ·):=by
 induction l with
 |nil=>simp[insD]
 |cons y l ih=>
  rw[List.pairwise_cons] at h;simp only[insD]
  split
  ·rename_i hx
   rw[List.pairwise_cons];refine⟨fun z hz=>?_,List.pairwise_cons.2 h⟩;rcases List.mem_cons.1 hz with rfl|hz
   ·exact hx
   ·have:=h.1 z hz;omega
  ·split
   ·exact List.pairwise_cons.2 h
   ·rw[List.pairwise_cons];refine⟨fun z hz=>?_,ih h.2⟩;rcases(mem_insD x z l).1 hz with rfl|hz
    ·omega
    ·exact h.1 z hz
theorem sorted_sortD(l:List Int):(sortD l).Pairwise (· < ·):=by
 induction l with
 |nil=>simp[sortD]
 |cons x l ih=>exact sorted_insD x _ ih
theorem sorted_eq:∀(l l':List Int),l.Pairwise (· < ·)→l'.Pairwise (· < ·)→(∀x,x∈l↔x∈l')→l=l':=by
 intro l
 induction l with
 |nil=>
  intro l' _ _ h;cases l' with
  |nil=>rfl
  |cons y l'=>have:=(h y).2 (by simp);cases this
 |cons x l ih=>
  intro l' h1 h2 h;cases l' with
  |nil=>have:=(h x).1 (by simp);cases this
  |cons y l'=>
   rw[List.pairwise_cons] at h1 h2;have e:x=y:=by
    rcases List.mem_cons.1 ((h x).1 (by simp)) with e|hx
    ·exact e
    ·rcases List.mem_cons.1 ((h y).2 (by simp)) with e|hy
     ·exact e.symm
     ·have:=h2.1 x hx;have:=h1.1 y hy;omega
   subst e;rw[ih l' h1.2 h2.2 (fun z=>?_)];have hz:=h z;simp only[List.mem_cons] at hz;constructor
   ·intro hm;rcases hz.1 (.inr hm) with e|h3
    ·subst e;have:=h1.1 z hm;omega
    ·exact h3
   ·intro hm;rcases hz.2 (.inr hm) with e|h3
    ·subst e;have:=h2.1 z hm;omega
    ·exact h3
structure TileD where
 kind:Int
 parent:Int
 blocks:List Int
abbrev zTile:TileD:=⟨0,0,[]⟩
abbrev parL(l:List TileD)(n:Nat):Int:=(l.getD n zTile).parent
abbrev blkL(l:List TileD)(n:Nat):List Int:=(l.getD n zTile).blocks
def parentsB(l:List TileD):Bool:=(List.range l.length).all fun k=>decide (-1≤parL l k∧parL l k<k)
theorem parentsB_iff(l:List TileD):parentsB l=true↔∀k,k<l.length→-1≤parL l k∧parL l k<k:=by simp[parentsB]
def descF(l:List TileD)(k:Nat):Nat→Nat→Bool
 |0,n=>n==k
 |f+1,n=>n==k||(decide (0≤parL l n)&&descF l k f (parL l n).toNat)
def descB(l:List TileD)(k n:Nat):Bool:=descF l k n n
theorem descF_eq{l:List TileD}(hp:parentsB l=true)(k:Nat):∀(n f:Nat),n<l.length→n≤f→descF l k f n=descF l k n n:=by
 rw[parentsB_iff] at hp
 intro n
 induction n using Nat.strongRecOn with
 |_ n ih=>
  intro f hn hf;have h1:=hp n hn;cases f with
  |zero=>obtain rfl:n=0:=by omega
         rfl
  |succ f=>
   cases n with
   |zero=>
    have h2:¬0≤parL l 0:=by omega
    simp[descF,h2]
   |succ n=>
    simp only[descF];by_cases h2:0≤parL l (n+1)
    ·rw[ih (parL l (n+1)).toNat (by omega) f (by omega) (by omega),ih (parL l (n+1)).toNat (by omega) n (by omega) (by omega)]
    ·simp[h2]
theorem descB_eq{l:List TileD}(hp:parentsB l=true)(k n:Nat)(hn:n<l.length):descB l k n=(n==k||(decide (0≤parL l n)&&descB l k (parL l n).toNat)):=by
 have h1:=(parentsB_iff l).1 hp n hn
 unfold descB
 cases n with
 |zero=>
  have h2:¬0≤parL l 0:=by omega
  simp[descF,h2]
 |succ n=>
  simp only[descF];by_cases h2:0≤parL l (n+1)
  ·rw[descF_eq hp k (parL l (n+1)).toNat n (by omega) (by omega)]
  ·simp[h2]
theorem descB_self(l:List TileD)(k:Nat):descB l k k=true:=by unfold descB;cases k<;>simp[descF]
theorem descB_ge{l:List TileD}(hp:parentsB l=true)(k:Nat):∀n,n<l.length→descB l k n=true→k≤n:=by
 intro n
 induction n using Nat.strongRecOn with
 |_ n ih=>
  intro hn h;have h1:=(parentsB_iff l).1 hp n hn;rw[descB_eq hp k n hn,Bool.or_eq_true] at h;rcases h with h|h
  ·have:n=k:=by simpa using h
   omega
  ·simp only[Bool.and_eq_true,decide_eq_true_eq] at h;have:=ih _ (by omega) (by omega) h.2;omega
def rawL(l:List TileD)(k m:Nat):List Int:=blkL l k++((List.range m).filter fun n=>n != k&&descB l k n).flatMap (blkL l)
def allL(l:List TileD)(k:Int):List Int:=if 0≤k∧k<l.length∧parentsB l=true then sortD (rawL l k.toNat l.length) else []
theorem mem_rawL(l:List TileD)(k:Nat)(hk:k<l.length)(x:Int):x∈rawL l k l.length↔∃n,n<l.length∧descB l k n=true∧x∈blkL l n:=by
 simp only[rawL,List.mem_append,List.mem_flatMap,List.mem_filter,List.mem_range,Bool.and_eq_true,bne_iff_ne,ne_eq]
 constructor
 ·rintro(h|⟨n,⟨h1,_,h2⟩,h3⟩)
  ·exact⟨k,hk,descB_self l k,h⟩
  ·exact⟨n,h1,h2,h3⟩
 ·rintro⟨n,h1,h2,h3⟩;by_cases e:n=k
  ·subst e;exact .inl h3
  ·exact .inr ⟨n,⟨h1,e,h2⟩,h3⟩
theorem mem_allL(l:List TileD)(k:Nat)(hk:k<l.length)(hp:parentsB l=true)(x:Int):x∈allL l k↔∃n,n<l.length∧descB l k n=true∧x∈blkL l n:=by
 rw[allL,if_pos ⟨by omega,by omega,hp⟩,mem_sortD]
 exact mem_rawL l k hk x
def homes(l:List TileD)(b:Nat):List Nat:=(List.range l.length).flatMap fun k=>((blkL l k).filter fun x=>x==(b:Int)).map fun _=>k
def ownB(l:List TileD)(n:Nat):Bool:=(List.range n).all fun b=>(homes l b).length==1
def ownF(l:List TileD)(b:Nat):Nat:=(homes l b).headD 0
def ownL(l:List TileD)(n:Nat):List Int:=(List.range n).map fun(b:Nat)=>(ownF l b:Int)
def eqS(f g:Nat→Bool):Bool:=(List.range 200).all fun k=>f k==g k
def ringsB(ts:List TermD)(bs:List Int)(inn:Nat→Bool):Bool:=bs.any fun b=>knotS ts b.toNat inn b.toNat
def togetherB(ts:List TermD)(s:Nat→Bool):Bool:=match listS s with
 | []=>true
 |b :: _=>eqS (knotS ts b s) s
def oneB(t:TileD)(e:List Nat):Bool:=e.length==1&&t.blocks.contains ((e.headD 0:Nat):Int)
def holdsB(ts:List TermD)(t:TileD)(s:Nat→Bool):Bool:=
 if t.kind=3 then decide (1<(entriesS ts s).length)&&togetherB ts s
 else if t.kind=2 then oneB t (entriesS ts s)&&togetherB ts s&& !ringsB ts t.blocks (lessS s ((entriesS ts s).headD 0))
 else if t.kind=4 then oneB t (entriesS ts s)&& !ringsB ts t.blocks s
 else if t.kind=1 then !ringsB ts t.blocks s else false
def risingB(n:Nat)(bs:List Int):Bool:=(List.range bs.length).all fun i=>decide (0≤bs.getD i 0∧bs.getD i 0<n)&&(i==0||decide (bs.getD (i-1) 0<bs.getD i 0))
def standsB(n:Nat)(l:List TileD)(k:Nat):Bool:=
 let t:=l.getD k zTile
 !(((k==0) != (t.kind==1))||((k==0) != (t.parent== -1))||(t.blocks.length==0)||(decide (0<k)&&((l.getD t.parent.toNat zTile).kind==3)))&&risingB n t.blocks
def setK(l:List TileD)(k:Nat):Nat→Bool:=ofS (allL l k)
def rightB(ts:List TermD)(l:List TileD):Bool:=
 fitsB ts&&decide (l.length≤200)&&parentsB l&&ownB l ts.length&&(ownF l 0==0)&&
  (List.range l.length).all fun k=>standsB ts.length l k&&holdsB ts (l.getD k zTile) (setK l k)
end

section
open Go.RowKit
theorem sindex_any(a:Option Addr)(n cap:Nat)(xs:List Int)(x:Int)(w:World)(h:Ints w a n xs):
  Calls Tryz.prog 137 #[.slice a n cap,.int .i64 x] w fun e w'=>e=.returned (.int .i64 (idx xs x))∧w=w':=by
 obtain⟨hl,hn,hc⟩:=h
 have HL:=Lib.hid hl
 have HC:=Lib.hid hc
 clear hl hc
 go_enter Tryz.func137,Tryz.ntmps137
 go_wp2
 go_loop [5,8] (fun _ i=>∃(k:Nat),k≤n∧i=.int .i64 k∧Hid (∀j,j<k→xs.getD j 0≠x)) (fun _ i=>n-(intOf i).toNat)
 case atStart=>exact⟨0,by omega,rfl,fun j hj=>absurd hj (by omega)⟩
 case round=>
  obtain⟨k,hk,rfl,HR⟩:=hrel;by_cases hlt:k<n
  ·obtain⟨b,o,rfl,hcell,hw1,hw2⟩:=HC.out k hlt;by_cases he:x=xs.getD k 0
   ·have HE:Hid (idx xs x=k):=idx_found xs x k (by rw[HL.out];exact hlt) he.symm HR.out;have hb:(x==xs.getD k 0)=true:=by simpa using he
    generalize xs.getD k 0=y at *;clear he;go_wp2
    go_ret
    exact⟨by rw[HE.out];rfl,rfl⟩
   ·have HE:Hid (∀j,j<k+1→xs.getD j 0≠x):=fun j hj=>by
     by_cases hjk:j=k
     ·subst hjk;exact fun e=>he e.symm
     ·exact HR.out j (by omega)
    have hb:(x==xs.getD k 0)=false:=by simpa using he
    generalize xs.getD k 0=y at *;clear he;go_wp2
    go_round
    case rel=>exact⟨k+1,by omega,by go_num,HE⟩
    case measure=>simp[intOf];omega
  ·go_wp2
   go_ret
   have:k=n:=by omega
   subst this;exact⟨by rw[idx_none xs x (by rw[HL.out];exact HR.out)];rfl,rfl⟩
theorem scontains_any(a:Option Addr)(n cap:Nat)(xs:List Int)(x:Int)(w:World)(h:Ints w a n xs):
  Calls Tryz.prog 92 #[.slice a n cap,.int .i64 x] w fun e w'=>e=.returned (.bool (decide (0≤idx xs x)))∧w=w':=by
 have hi:=idx_ge xs x
 have H:=Lib.hid h
 clear h
 go_enter Tryz.func92,Tryz.ntmps92
 go_wp2_with (go_at_call 137;refine(sindex_any a n cap xs x w H.out).mono ?_;rintro e w' ⟨rfl,rfl⟩)
 go_ret
 exact⟨rfl,rfl⟩
end

section
inductive LiveAt (g:Nat→Bool) (nx:Nat→List Nat):Nat→Prop
 |here {b:Nat}:g b=true→LiveAt g nx b
 |step {b c:Nat}:c∈nx b→LiveAt g nx c→LiveAt g nx b
def liveD(g:Nat→Bool)(nx:Nat→List Nat):Nat→Nat→Bool
 |0,b=>g b
 |r+1,b=>liveD g nx r b||(nx b).any (liveD g nx r)
section
variable {g:Nat→Bool} {nx:Nat→List Nat}
theorem liveD_iff{r b:Nat}:liveD g nx (r+1) b=true↔liveD g nx r b=true∨∃c∈nx b,liveD g nx r c=true:=by
 simp only[liveD,Bool.or_eq_true,List.any_eq_true]
theorem liveD_mono{r:Nat}{b:Nat}(hd:liveD g nx r b=true):liveD g nx (r+1) b=true:=liveD_iff.2 (.inl hd)
theorem liveD_le{r k:Nat}(hk:r≤k){b:Nat}(hd:liveD g nx r b=true):liveD g nx k b=true:=by
 induction hk with
 |refl=>exact hd
 |step _ ih=>exact liveD_mono ih
theorem liveD_sound{r:Nat}:∀{b:Nat},liveD g nx r b=true→LiveAt g nx b:=by
 induction r with
 |zero=>exact fun hd=>.here hd
 |succ r ih=>
  intro b hd;rcases liveD_iff.1 hd with hd|⟨c,h2,h3⟩
  ·exact ih hd
  ·exact .step h2 (ih h3)
theorem live_some{b:Nat}(hl:LiveAt g nx b):∃r,liveD g nx r b=true:=by
 induction hl with
 |here hg=>exact⟨0,hg⟩
 |step h2 _ ih=>
  obtain⟨r,hr⟩:=ih;exact⟨r+1,liveD_iff.2 (.inr ⟨_,h2,hr⟩)⟩
def cnt(n:Nat)(p:Nat→Bool):Nat:=(List.range n).countP p
theorem cnt_le(n:Nat)(p:Nat→Bool):cnt n p≤n:=by
 have:=List.countP_le_length (p:=p) (l:=List.range n)
 simpa[cnt] using this
theorem cnt_succ(n:Nat)(f:Nat→Bool):cnt (n+1) f=cnt n f+if f n=true then 1 else 0:=by
 unfold cnt
 rw[List.range_succ,List.countP_append]
 cases hf:f n<;>simp[hf]
theorem cnt_mono{n:Nat}{p q:Nat→Bool}(hpq:∀b,b<n→p b=true→q b=true):cnt n p≤cnt n q:=
 List.countP_mono_left fun b hb=>hpq b (by simpa using hb)
theorem cnt_lt{n:Nat}{p q:Nat→Bool}(hpq:∀b,b<n→p b=true→q b=true){b:Nat}(hb:b<n)(h1:p b=false)(h2:q b=true):cnt n p<cnt n q:=by
 induction n with
 |zero=>omega
 |succ n ih=>
  rw[cnt_succ n p,cnt_succ n q];by_cases hbn:b=n
  ·subst hbn;have:=cnt_mono (n:=b) (p:=p) (q:=q) fun c hc=>hpq c (by omega);rw[if_neg (by rw[h1];simp),if_pos h2];omega
  ·have:=ih (fun c hc=>hpq c (by omega)) (by omega);have h3:=hpq n (by omega)
   split
   ·rename_i hp
    rw[if_pos (h3 hp)];omega
   ·split<;>omega
theorem cnt_full{n:Nat}{p:Nat→Bool}(h:n≤cnt n p):∀b,b<n→p b=true:=by
 have h1:=cnt_le n p
 have h3:(List.range n).countP p=(List.range n).length:=by
  rw[List.length_range];have:(List.range n).countP p=cnt n p:=rfl;omega
 rw[List.countP_eq_length] at h3
 exact fun b hb=>h3 b (List.mem_range.2 hb)
theorem liveD_stay(n:Nat)(hnx:∀b,b<n→∀c∈nx b,c<n){r:Nat}(hs:∀b,b<n→liveD g nx (r+1) b=true→liveD g nx r b=true):∀k b,b<n→liveD g nx (r+k) b=true→liveD g nx r b=true:=by
 intro k
 induction k with
 |zero=>exact fun b _ hd=>hd
 |succ k ih=>
  intro b hb hd;rcases liveD_iff.1 (show liveD g nx (r+k+1) b=true from hd) with hd|⟨c,h2,h3⟩
  ·exact ih b hb hd
  ·exact hs b hb (liveD_iff.2 (.inr ⟨c,h2,ih c (hnx b hb c h2) h3⟩))
theorem liveD_grow(n:Nat)(hnx:∀b,b<n→∀c∈nx b,c<n):∀r,(∀b,b<n→liveD g nx (r+1) b=true→liveD g nx r b=true)∨cnt n g+r≤cnt n (liveD g nx r):=by
 intro r
 induction r with
 |zero=>exact .inr (Nat.le_refl _)
 |succ r ih=>
  by_cases hs:∀b,b<n→liveD g nx (r+1) b=true→liveD g nx r b=true
  ·exact .inl fun b hb hd=>liveD_mono (liveD_stay n hnx hs 2 b hb hd)
  ·rcases ih with ih|ih
   ·exact absurd ih hs
   ·right;simp only[Classical.not_forall] at hs;obtain⟨b,hb,h1,h2⟩:=hs;have:=cnt_lt (n:=n) (p:=liveD g nx r) (q:=liveD g nx (r+1)) (fun c _ hc=>liveD_mono hc) hb (by simpa using h2) h1;omega
theorem live_iff(n r:Nat)(hr:n≤cnt n g+r)(hnx:∀b,b<n→∀c∈nx b,c<n){b:Nat}(hb:b<n):LiveAt g nx b↔liveD g nx r b=true:=by
 refine⟨fun hl=>?_,liveD_sound⟩
 obtain⟨k,hk⟩:=live_some hl
 by_cases hkr:k≤r
 ·exact liveD_le hkr hk
 ·rcases liveD_grow n hnx r with hs|hs
  ·exact liveD_stay n hnx hs (k-r) b hb (by rwa [show r+(k-r)=k by omega])
  ·exact cnt_full (by omega) b hb
theorem live_of_fix(n:Nat)(hnx:∀b,b<n→∀c∈nx b,c<n)(x:Nat→Bool)(hs:∀b,b<n→x b=true→LiveAt g nx b)(hf:∀b,b<n→(g b=true∨∃c∈nx b,x c=true)→x b=true){b:Nat}(hb:b<n):x b=true↔LiveAt g nx b:=by
 refine⟨hs b hb,fun hl=>?_⟩
 induction hl with
 |here h=>exact hf _ hb (.inl h)
 |step h2 _ ih=>exact hf _ hb (.inr ⟨_,h2,ih (hnx _ hb _ h2)⟩)
end
end

section
structure OpL where
 rd:List Int
 df:Int
structure BkL where
 ops:List OpL
 nd:List Int
 to:List Nat
def withinL:List OpL→List Int→Int→Nat
 | [],nd,v=>if v∈nd then 1 else 0
 |o :: l,nd,v=>if v∈o.rd then 1 else if o.df=v then 2 else withinL l nd v
def aheadL:List OpL→List Int→(Int→Bool)→Int→Bool
 | [],nd,out,v=>decide (v∈nd)||out v
 |o :: l,nd,out,v=>decide (v∈o.rd)||(aheadL l nd out v&& !decide (o.df=v))
theorem ahead_within(nd:List Int)(out:Int→Bool)(v:Int):∀ops,aheadL ops nd out v=(decide (withinL ops nd v=1)||(decide (withinL ops nd v=0)&&out v))
 | []=>by
   unfold aheadL withinL;by_cases h:v∈nd<;>simp[h]
 |o :: l=>by
  unfold aheadL withinL;rw[ahead_within nd out v l];by_cases h:v∈o.rd
  ·simp[h]
  ·by_cases h2:o.df=v<;>simp[h,h2]
def defsL(ops:List OpL)(v:Int):Bool:=ops.any fun o=>decide (o.df=v)
def bkOf(bs:List BkL)(b:Nat):BkL:=bs.getD b ⟨[],[],[]⟩
section
variable (bs:List BkL)
def needG(v:Int)(b:Nat):Bool:=decide (withinL (bkOf bs b).ops (bkOf bs b).nd v=1)
def needX(v:Int)(b:Nat):List Nat:=if withinL (bkOf bs b).ops (bkOf bs b).nd v=0 then (bkOf bs b).to else []
def NeedIn(v:Int)(b:Nat):Prop:=LiveAt (needG bs v) (needX bs v) b
def NeedOut(v:Int)(b:Nat):Prop:=∃c∈(bkOf bs b).to,NeedIn bs v c
def ToOK:Prop:=∀b,b<bs.length→∀c∈(bkOf bs b).to,c<bs.length
theorem needX_ok{bs:List BkL}(h:ToOK bs)(v:Int):∀b,b<bs.length→∀c∈needX bs v b,c<bs.length:=by
 intro b hb c hc
 unfold needX at hc
 split at hc
 ·exact h b hb c hc
 ·cases hc
theorem needIn_iff(v:Int)(b:Nat):NeedIn bs v b↔withinL (bkOf bs b).ops (bkOf bs b).nd v=1∨(withinL (bkOf bs b).ops (bkOf bs b).nd v=0∧NeedOut bs v b):=by
 constructor
 ·intro h;cases h with
  |here h=>exact .inl (by simpa[needG] using h)
  |step h1 h2=>
   unfold needX at h1
   split at h1
   ·rename_i h0
    exact .inr ⟨h0,_,h1,h2⟩
   ·cases h1
 ·rintro(h|⟨h0,c,h1,h2⟩)
  ·exact .here (by simpa[needG] using h)
  ·exact .step (c:=c) (by unfold needX;rw[if_pos h0];exact h1) h2
theorem need_of_fix{bs:List BkL}(hto:ToOK bs)(inn out:Nat→Int→Bool)(v:Int)
  (h1:∀b,b<bs.length→inn b v=true→NeedIn bs v b) (h2:∀b,b<bs.length→out b v=true→NeedOut bs v b)
  (h3:∀b,b<bs.length→inn b v=aheadL (bkOf bs b).ops (bkOf bs b).nd (out b) v) (h4:∀b,b<bs.length→∀c∈(bkOf bs b).to,inn c v=true→out b v=true):
  (∀b,b<bs.length→(inn b v=true↔NeedIn bs v b))∧∀b,b<bs.length→(out b v=true↔NeedOut bs v b):=by
 have key:∀b,b<bs.length→(inn b v=true↔NeedIn bs v b):=fun b hb=>live_of_fix bs.length (needX_ok hto v) (fun b=>inn b v) h1 (fun b hb h=>by
  show inn b v=true;rw[h3 b hb,ahead_within];simp only[Bool.or_eq_true,Bool.and_eq_true,decide_eq_true_eq];rcases h with h|⟨c,hc,hx⟩
  ·exact .inl (by simpa[needG] using h)
  ·unfold needX at hc
   split at hc
   ·rename_i h0
    exact .inr ⟨h0,h4 b hb c hc hx⟩
   ·cases hc) hb
 refine⟨key,fun b hb=>⟨h2 b hb,fun⟨c,hc,hn⟩=>h4 b hb c hc ((key c (hto b hb c hc)).2 hn)⟩⟩
def preds(c:Nat):List Nat:=(List.range bs.length).filter fun p=>decide (c∈(bkOf bs p).to)
theorem preds_mem(c p:Nat):p∈preds bs c↔p<bs.length∧c∈(bkOf bs p).to:=by simp[preds]
def Reach0(b:Nat):Prop:=LiveAt (fun b=>decide (b=0)) (preds bs) b
def lackG(ps:List Int)(v:Int)(b:Nat):Bool:=decide (b=0)&& !decide (v∈ps)
def lackX(v:Int)(c:Nat):List Nat:=(preds bs c).filter fun p=> !defsL (bkOf bs p).ops v
def LackIn(ps:List Int)(v:Int)(b:Nat):Prop:=LiveAt (lackG ps v) (lackX bs v) b
theorem preds_ok:∀b,b<bs.length→∀c∈preds bs b,c<bs.length:=fun b _ c hc=>((preds_mem bs b c).1 hc).1
theorem lackX_ok(v:Int):∀b,b<bs.length→∀c∈lackX bs v b,c<bs.length:=fun b hb c hc=>preds_ok bs b hb c (List.mem_filter.1 hc).1
def Lacks(ps:List Int)(v:Int):Prop:=∃b,b<bs.length∧LackIn bs ps v b∧withinL (bkOf bs b).ops (bkOf bs b).nd v=1
end
end
end Go.Proofs.YtnmkjliioogbgaaGreatDoor
