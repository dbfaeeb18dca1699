/-
 Flat:ir.Defines;slices of instructions:IndexFunc,ContainsFunc,whatever the function is that asks.
-/
import Derived.Test.YtchdkjenhppleaaGreatA0
import Derived.Test.YtchdkjenhppleaaGreatFH
import Derived.Test.YtchdkjenhppleaaGreatMix
import Derived.Deep.DeepAppendRoom
import Derived.Maps.AppendAt
import Derived.Deep.LoopGhost
import Derived.Lib.SliceRun
namespace Go.Proofs.YtchdkjenhppleaaGreat
set_option linter.unusedSimpArgs false
set_option linter.unusedVariables false
set_option linter.unusedSectionVars false
set_option maxRecDepth 100000
set_option maxHeartbeats 40000000
section
open Go.RowKit
def oB(i:mI):Int:=if rL i then i.dst else 0
theorem QJ(i:mI)(aa:Option Addr)(na ca:Nat)(w:World)(h:fR w aa na i.args)(h1:I64 i.a)(h2:I64 i.b)(h3:I64 i.imm)(h4:I64 i.callee):
  Calls Tryz.prog 67 #[wC i aa na ca] w λe w'=>e=.returned (.int .i64 (oB i))/\Below w.heap.size w w':=by
 have H:=ac h
 have H1:=ac h1
 have H2:=ac h2
 have H3:=ac h3
 have H4:=ac h4
 clear h h1 h2 h3 h4
 go_enter Tryz.func67,Tryz.ntmps67
 go_wp2_with (first
  |(go_at_call 101
    refine(JG i aa na ca _ (H.out.ext (eC _ _)) H1.out H2.out H3.out H4.out).mono ?_;rintro e w1 ⟨rfl,hb1⟩;have hx:=hb1.block w.heap.size (by simp);rw[ai w _] at hx;have c1:=cK 1 hx rfl;have HB1:=ac (eA (eC w _) hb1)
    clear hx hb1))
 all_goals
  go_ret
  exact⟨xO (by go_light;cases hq:rL i<;>simp_all[oB]),HB1.out⟩
structure fW where
 d:mI
 aa:Option Addr
 na:Nat
 ca:Nat
def rK(r:fW):List Value:= [.int .i64 r.d.op,.int .i64 r.d.dst,.int .i64 r.d.a,.int .i64 r.d.b,.int .i64 r.d.imm,.int .i64 r.d.callee,.slice r.aa r.na r.ca,.int .i64 r.d.many]
theorem lK(r:fW):(rK r).length=8:=rfl
def qF(w:World)(r:fW):Prop:=fR w r.aa r.na r.d.args/\r.na<=r.ca/\I64 r.d.op/\I64 r.d.dst/\I64 r.d.a/\I64 r.d.b/\I64 r.d.imm/\I64 r.d.callee/\I64 r.d.many
theorem qF.ext{w w':World}{r:fW}(h:qF w r)(hb:Below w.heap.size w w'):qF w' r:=⟨h.1.ext hb,h.2⟩
def vP(w:World)(a:Option Addr)(n:Nat)(rs:List fW):Prop:=mO 8 rK w a n rs/\∀r∈rs,qF w r
theorem vP.ext{w w':World}{a:Option Addr}{n:Nat}{rs:List fW}(h:vP w a n rs)(hb:Below w.heap.size w w'):vP w' a n rs:=
 ⟨h.1.ext lK hb,λr hr=>(h.2 r hr).ext hb⟩
theorem vP.cells{w:World}{a:Option Addr}{n:Nat}{rs:List fW}(h:vP w a n rs){k:Nat}(hk:k<n):∃r b o,rs[k]? =some r/\qF w r/\a=some ⟨b,o,none⟩/\
  w.cell? ⟨b,o+k*8,none⟩=some (.int .i64 r.d.op)/\w.cell? ⟨b,o+k*8+1,none⟩=some (.int .i64 r.d.dst)/\w.cell? ⟨b,o+k*8+2,none⟩=some (.int .i64 r.d.a)/\w.cell? ⟨b,o+k*8+3,none⟩=some (.int .i64 r.d.b)/\
  w.cell? ⟨b,o+k*8+4,none⟩=some (.int .i64 r.d.imm)/\w.cell? ⟨b,o+k*8+5,none⟩=some (.int .i64 r.d.callee)/\w.cell? ⟨b,o+k*8+6,none⟩=some (.slice r.aa r.na r.ca)/\w.cell? ⟨b,o+k*8+7,none⟩=some (.int .i64 r.d.many):=by
 have hk':k<rs.length:=by rw[h.1.1];exact hk
 obtain⟨r,hr⟩:∃r,rs[k]? =some r:=⟨rs[k],au hk'⟩
 obtain⟨b,o,e,hc⟩:=h.1.2.2 k r hr
 exact⟨r,b,o,hr,h.2 r (aK hr),e,hc 0 (by omega),hc 1 (by omega),hc 2 (by omega),hc 3 (by omega),hc 4 (by omega),hc 5 (by omega),hc 6 (by omega),hc 7 (by omega)⟩
abbrev qB(r:fW):Value:=wC r.d r.aa r.na r.ca
theorem tK(F:Nat)(caps:Array Value)(eF:∀args w,(callFunc F args).run Tryz.prog w=.ok (.enter F args) w)(p:fW->Bool)(a:Option Addr)(n c:Nat)(rs:List fW)(w:World)
  (hp:∀(r:fW) (W:World),r∈rs->Below w.heap.size w W->Calls Tryz.prog F (#[qB r]++caps) W λe W'=>e=.returned (.bool (p r))/\Below W.heap.size W W') (h:vP w a n rs):
  Calls Tryz.prog 53 #[.slice a n c,.func (.func F) #[] caps] w λe w'=>e=.returned (.int .i64 (nQ p rs))/\Below w.heap.size w w':=by
 have HL:=ac h.1.1
 have hn:=h.1.2.1
 have H:=ac h
 have HP:=ac hp
 clear h hp
 go_enter Tryz.func53,Tryz.ntmps53
 go_wp2
 go_loopw [5,8] (λ_ i wr=>∃(k:Nat),k<=n/\i=.int .i64 k/\Hid (∀j y,j<k->rs[j]? =some y->p y=false)/\Hid (Below w.heap.size w wr)) (λ_ i _=>n-(intOf i).toNat)
 case atStart=>exact⟨0,by omega,rfl,λj y hj=>absurd hj (by omega),ao _ _⟩
 case round=>
  obtain⟨k,hk,rfl,HR,HB⟩:=hrel;by_cases hlt:k<n
  .obtain⟨r,b,o,hr,hok,rfl,c0,c1,c2,c3,c4,c5,c6,c7⟩:=(H.out.ext HB.out).cells hlt;have HG:=ac hr;have HM:=ac (aK hr);clear hr hok;by_cases hy:p r=true
   .have HE:Hid (nQ p rs=k):=FC p rs k r HG.out hy HR.out;go_wp2;refine(HP.out r wr HM.out HB.out).mono ?_;rintro e w' ⟨rfl,hb'⟩;have HB':=ac (eA HB.out hb');clear hb';rw[hy];go_wp2
    go_ret
    exact⟨by rw[HE.out];rfl,HB'.out⟩
   .have hy':p r=false:=by simpa using hy
    have HE:Hid (∀j z,j<k+1->rs[j]? =some z->p z=false):=λj z hj hz=>by
     by_cases e:j=k
     .subst e;rw[HG.out] at hz;injection hz with hz;subst hz;exact hy'
     .exact HR.out j z (by omega) hz
    go_wp2;refine(HP.out r wr HM.out HB.out).mono ?_;rintro e w' ⟨rfl,hb'⟩;have HB':=ac (eA HB.out hb');clear hb';rw[hy'];go_wp2
    go_roundw
    case rel=>exact⟨k+1,by omega,by go_num,HE,HB'⟩
    case measure=>simp[intOf];omega
  .obtain rfl:k=n:=by omega
   have HE:Hid (nQ p rs= -1):=JK p rs (λz hz=>by
    obtain⟨j,hj,e⟩:=a8.1 hz
    exact HR.out j z (by rw[HL.out] at hj;exact hj) (by rw[au hj,e]))
   go_wp2
   go_ret
   exact⟨by rw[HE.out];rfl,HB.out⟩
theorem CN(F:Nat)(caps:Array Value)(eF:∀args w,(callFunc F args).run Tryz.prog w=.ok (.enter F args) w)(p:fW->Bool)(a:Option Addr)(n c:Nat)(rs:List fW)(w:World)
  (hp:∀(r:fW) (W:World),r∈rs->Below w.heap.size w W->Calls Tryz.prog F (#[qB r]++caps) W λe W'=>e=.returned (.bool (p r))/\Below W.heap.size W W') (h:vP w a n rs):
  Calls Tryz.prog 30 #[.slice a n c,.func (.func F) #[] caps] w λe w'=>e=.returned (.bool (rs.any p))/\Below w.heap.size w w':=by
 have HA:=ac (OA p rs)
 have hg:=KZ p rs
 have HP:=ac hp
 have H:=ac h
 clear hp h
 go_enter Tryz.func30,Tryz.ntmps30
 go_wp2_with (go_at_call 53;refine(tK F caps eF p a n c rs w HP.out H.out).mono ?_;rintro e w' ⟨rfl,hb'⟩;have HB':=ac hb';clear hb')
 go_ret
 exact⟨by rw[<-HA.out];rfl,HB'.out⟩
end

section
open Go.RowKit
structure Chg(S:Nat->Prop)(w w':World):Prop where
 os:w'.os=w.os
 tape:w'.tape=w.tape
 output:w'.output=w.output
 size:w.heap.size<=w'.heap.size
 block:∀k,k<w.heap.size->¬S k->w'.heap[k]? =w.heap[k]?
theorem Chg.refl(S:Nat->Prop)(w:World):Chg S w w:=⟨rfl,rfl,rfl,aw _,λ_ _ _=>rfl⟩
theorem Chg.trans{S:Nat->Prop}{a b c:World}(h:Chg S a b)(k:Chg S b c):Chg S a c:=
 ⟨k.os.trans h.os,k.tape.trans h.tape,k.output.trans h.output,bP h.size k.size,λi hi hn=>(k.block i (cZ hi h.size) hn).trans (h.block i hi hn)⟩
theorem Chg.grown{S:Nat->Prop}{a w w':World}{row:Option Nat}(h:Chg S a w)(hg:w.grownBy w' row)(hr:∀k,row=some k->S k\/a.heap.size<=k):Chg S a w':=
 ⟨hg.os.trans h.os,hg.tape.trans h.tape,hg.output.trans h.output,bP h.size hg.size,λk hk hn=>(hg.block k (cZ hk h.size) (λe=>by
  grind)).trans (h.block k hk hn)⟩
theorem Chg.alloc{S:Nat->Prop}{a w:World}(h:Chg S a w)(o:Obj):Chg S a (w.alloc o):=h.grown (World.grownBy_alloc w o none) (λk e=>by cases e)
theorem Chg.setCell{S:Nat->Prop}{a w:World}(h:Chg S a w){p:Addr}(hp:S p.block\/a.heap.size<=p.block)(u:Value):Chg S a (w.setCell p u):=
 ⟨h.os,h.tape,h.output,bP h.size (by simp),λk hk hn=>(bf w p u k (λe=>by
  grind)).trans (h.block k hk hn)⟩
theorem Chg.mono{S T:Nat->Prop}{a w:World}(h:Chg S a w)(hs:∀k,S k->T k):Chg T a w:=⟨h.os,h.tape,h.output,h.size,λk hk hn=>h.block k hk (λhk'=>hn (hs k hk'))⟩
theorem Chg.below{S:Nat->Prop}{a w:World}{B:Nat}(h:Chg S a w)(hB:B<=a.heap.size)(hs:∀k,S k->B<=k):Below B a w:=
 ⟨h.os,h.tape,h.output,h.size,λk hk=>h.block k (by omega) (λhk'=>by grind)⟩
theorem Chg.of_ext{S:Nat->Prop}{a b c:World}(h:Chg S a b)(hb:Below b.heap.size b c):Chg S a c:=h.trans ⟨hb.os,hb.tape,hb.output,hb.size,λk hk _=>hb.block k hk⟩
theorem jC{S:Nat->Prop}{w w':World}{base:Nat}{e:TypeId}{size:Nat}{v:Value}{n:Nat}{xs:List Value}(h:w.ownsRow base e size v n xs)(hc:Chg S w w')(hn:∀g,v.ownBlock=some g->¬S g):w'.ownsRow base e size v n xs:=by
 refine⟨h.1,?_⟩
 rcases h.2 with h2|⟨g,cap,cur,rfl,hb,hh,r⟩
 .grind
 .exact .inr ⟨g,cap,cur,rfl,hb,(hc.block g (am.1 hh).1 (hn g rfl)).trans hh,r⟩
section
variable {P:Program} {Q:Exit->Act->World->Prop}
end
def qc(v v':Value):Prop:=∀g,v.ownBlock=some g->v'.ownBlock≠some g
end

section
open Go.RowKit
section
variable {α:Type}
theorem YA(p:α->Bool)(l:List α):(nQ p l= -1/\∀y∈l,p y=false)\/∃(k:Nat) (x:α),nQ p l=k/\l[k]? =some x/\p x=true/\∀j y,j<k->l[j]? =some y->p y=false:=by
 induction l with
 |nil=>exact Or.inl ⟨rfl,by simp⟩
 |cons y l ih=>
  by_cases hy:p y=true
  .exact Or.inr ⟨0,y,by simp[nQ,hy],rfl,hy,λj z hj=>absurd hj (by omega)⟩
  .have hy':p y=false:=by simpa using hy
   rcases ih with ⟨h1,h2⟩|⟨k,x,h1,h2,h3,h4⟩
   .exact Or.inl ⟨by simp[nQ,hy',h1],by simpa[hy'] using h2⟩
   .refine Or.inr ⟨k+1,x,?_,by simpa using h2,h3,λj z hj hz=>?_⟩
    .simp only[nQ,hy',h1];rw[aC (by simp),aC (by omega)];omega
    .cases j with
     |zero=>simp at hz;rw[<-hz];exact hy'
     |succ j=>exact h4 j z (by omega) (by simpa using hz)
def pP(p:α->Bool)(rs:List α)(i j:Nat)(L:List α):Prop:=
 i<j/\j<=rs.length/\L.length=rs.length/\L.take i=(rs.take j).filter (λx=> !p x)/\∀k,j<=k->L[k]? =rs[k]?
theorem pP.start{p:α->Bool}{rs:List α}{k:Nat}{x:α}(hx:rs[k]? =some x)(hp:p x=true)(hno:∀j y,j<k->rs[j]? =some y->p y=false):pP p rs k (k+1) rs:=by
 have hk:=(aI.1 hx).1
 refine⟨by omega,by omega,rfl,?_,λ_ _=>rfl⟩
 rw[bo,hx,bE]
 have h1:(rs.take k).filter (λx=> !p x)=rs.take k:=by
  rw[dP];intro y hy;obtain⟨j,hj,e⟩:=a8.1 hy;have hj':j<k:=by rw[ck] at hj;omega
  rw[List.getElem_take] at e;simp[hno j y hj' (by rw[au (by omega),e])]
 rw[h1]
 simp[hp]
theorem pP.keep{p:α->Bool}{rs L:List α}{i j:Nat}{x:α}(h:pP p rs i j L)(hx:rs[j]? =some x)(hp:p x=false):pP p rs (i+1) (j+1) (L.set i x):=by
 obtain⟨h1,h2,h3,h4,h5⟩:=h
 have hj:=(aI.1 hx).1
 refine⟨by omega,by omega,by simpa using h3,?_,λk hk=>?_⟩
 .rw[bo,List.take_set_of_le (by omega),h4,bo (l:=rs),hx,bE,b5 (by omega)];simp[hp]
 .rw[aB (by omega)];exact h5 k (by omega)
theorem pP.skip{p:α->Bool}{rs L:List α}{i j:Nat}{x:α}(h:pP p rs i j L)(hx:rs[j]? =some x)(hp:p x=true):pP p rs i (j+1) L:=by
 obtain⟨h1,h2,h3,h4,h5⟩:=h
 have hj:=(aI.1 hx).1
 refine⟨by omega,by omega,h3,?_,λk hk=>h5 k (by omega)⟩
 rw[h4,bo (l:=rs),hx,bE]
 simp[hp]
theorem pP.done{p:α->Bool}{rs L:List α}{i:Nat}(h:pP p rs i rs.length L):L.take i=rs.filter (λx=> !p x):=by
 rw[h.2.2.2.1,cg]
theorem QD(cs:α->List Value)(size:Nat)(hs:∀x,(cs x).length=size)(l:List α)(i:Nat)(x:α)(hi:i<l.length)(ys:List Value)(hl:ys.length=l.length*size)
  (hin:∀j,j<size->ys[i*size+j]? =(cs x)[j]?) (hout:∀k j y,k≠i->l[k]? =some y->j<size->ys[k*size+j]? =(cs y)[j]?):ys=(l.set i x).flatMap cs:=by
 have hlen:=gU cs size hs (l.set i x)
 rw[List.length_set] at hlen
 refine cD λm=>?_
 by_cases hm:m<l.length*size
 .rcases Nat.eq_zero_or_pos size with h0|hpos
  .rw[h0] at hm;omega
  .have hk:m/size<l.length:=Nat.div_lt_of_lt_mul (by rw[Nat.mul_comm];exact hm);have hj:m%size<size:=Nat.mod_lt _ hpos;have em:m=m/size*size+m%size:=by rw[Nat.mul_comm];exact(Nat.div_add_mod m size).symm
   rw[em];by_cases e:m/size=i
   .rw[e,hin _ hj,kD cs size hs (l.set i x) i _ hj x (by rw[b5 hi])]
   .rw[hout _ _ l[m/size] e (au hk) hj,kD cs size hs (l.set i x) _ _ hj l[m/size] (by rw[aB (λh=>e h.symm),au hk])]
 .rw[cV (by omega),cV (by omega)]
end
theorem PK{w:World}{base:Nat}{e:TypeId}{size g n c:Nat}{xs:List Value}(h:w.ownsRow base e size (.slice (some ⟨g,0,none⟩) n c) n xs):n<=c:=by
 rcases h.2 with ⟨h0,_⟩|⟨g',cap,cur,hv,_,_,hnc,_⟩
 .cases h0
 .simp only[Value.slice.injEq] at hv;omega
theorem GL{w:World}{base:Nat}{e:TypeId}{size g n c:Nat}{xs:List Value}(h:w.ownsRow base e size (.slice (some ⟨g,0,none⟩) n c) n xs)(i:Nat)(hi:i<=n):w.ownsRow base e size (.slice (some ⟨g,0,none⟩) i c) i (xs.take (i*size)):=by
 have hm:i*size<=n*size:=dI _ hi
 refine⟨by rw[ck,h.1];omega,?_⟩
 rcases h.2 with ⟨h0,_⟩|⟨g',cap,cur,hv,hb,hg,hnc,hcm,hcs,ht⟩
 .cases h0
 .simp only[Value.slice.injEq,bv,Addr.mk.injEq,and_true,true_and] at hv;obtain⟨rfl,rfl⟩:=hv;exact Or.inr ⟨g,c,cur,rfl,hb,hg,by omega,hcm,hcs,by rw[<-ht,List.take_take,Nat.min_eq_left hm]⟩
theorem uZ{base:Nat}{e:TypeId}{size g i c:Nat}{xs:List Value}:∀(vs:List Value) (o:Nat) (w:World),w.ownsRow base e size (.slice (some ⟨g,0,none⟩) i c) i xs->i*size<=o->(w.setCells g o vs).ownsRow base e size (.slice (some ⟨g,0,none⟩) i c) i xs
 | [],_,_,h,_=>h
 |v :: r,o,w,h,ho=>by
  have h1:=(h.stored o v).1;rw[List.set_eq_of_length_le (by rw[h.1];exact ho)] at h1;exact uZ r (o+1) _ h1 (by omega)
theorem LR{w:World}{base:Nat}{e:TypeId}{size g n c:Nat}{xs:List Value}(h:w.ownsRow base e size (.slice (some ⟨g,0,none⟩) n c) n xs)(i:Nat)(hi:i<=n)(vs:List Value):(w.setCells g (i*size) vs).ownsRow base e size (.slice (some ⟨g,0,none⟩) i c) i (xs.take (i*size)):=
 uZ vs _ w (GL h i hi) (aw _)
theorem zM{S:Nat->Prop}{a:World}{g:Nat}(hs:S g):∀(vs:List Value) (o:Nat) (w:World),Chg S a w->Chg S a (w.setCells g o vs)
 | [],_,_,h=>h
 |v :: r,o,w,h=>zM hs r (o+1) _ (h.setCell (Or.inl hs) v)
theorem LY{α:Type}(cs:α->List Value)(size:Nat)(hs:∀x,(cs x).length=size)(l:List α)(i:Nat):(l.flatMap cs).take (i*size)=(l.take i).flatMap cs:=by
 induction l generalizing i with
 |nil=>simp
 |cons y l ih=>
  cases i with
  |zero=>simp
  |succ i=>
   rw[dw,ak,dw,<-ih i,Nat.add_mul,Nat.one_mul,Nat.add_comm,List.take_append,hs]
   congr 1
   .exact bF (by rw[hs];omega)
   .congr 1;omega
theorem pu(L:List fW)(i:Nat)(r:fW)(hi:i<L.length):
  ((((((((L.flatMap rK).set (i*8) (.int .i64 r.d.op)).set (i*8+1) (.int .i64 r.d.dst)).set (i*8+2) (.int .i64 r.d.a)).set (i*8+3) (.int .i64 r.d.b)).set (i*8+4) (.int .i64 r.d.imm)).set (i*8+5) (.int .i64 r.d.callee)).set (i*8+6) (.slice r.aa r.na r.ca)).set (i*8+7) (.int .i64 r.d.many)
    =(L.set i r).flatMap rK:=by
 have hl:=gU rK 8 lK L
 refine QD rK 8 lK L i r hi _ (by simpa using hl) (λj hj=>?_) (λk j y hk hy hj=>?_)
 .have h8:i*8+7<(L.flatMap rK).length:=by omega
  generalize L.flatMap rK=X at h8|-;clear hl
  match j,hj with
  |0,_=>rw[aB (by omega),aB (by omega),aB (by omega),aB (by omega),aB (by omega),aB (by omega),aB (by omega),show i*8+0=i*8 from rfl,b5 (by omega)];rfl
  |1,_=>rw[aB (by omega),aB (by omega),aB (by omega),aB (by omega),aB (by omega),aB (by omega),b5 (by simp;omega)];rfl
  |2,_=>rw[aB (by omega),aB (by omega),aB (by omega),aB (by omega),aB (by omega),b5 (by simp;omega)];rfl
  |3,_=>rw[aB (by omega),aB (by omega),aB (by omega),aB (by omega),b5 (by simp;omega)];rfl
  |4,_=>rw[aB (by omega),aB (by omega),aB (by omega),b5 (by simp;omega)];rfl
  |5,_=>rw[aB (by omega),aB (by omega),b5 (by simp;omega)];rfl
  |6,_=>rw[aB (by omega),b5 (by simp;omega)];rfl
  |7,_=>rw[b5 (by simp;omega)];rfl
 .rw[aB (by omega),aB (by omega),aB (by omega),aB (by omega),aB (by omega),aB (by omega),aB (by omega),aB (by omega)];exact kD rK 8 lK L k j hj y hy
abbrev nU(w:World)(B:Nat)(v:Value)(rs:List fW):Prop:=w.ownsRow B 62 8 v rs.length (rs.flatMap rK)
theorem yV{w:World}{B g c:Nat}{rs:List fW}(h:nU w B (.slice (some ⟨g,0,none⟩) rs.length c) rs){k:Nat}{r:fW}(hk:rs[k]? =some r):
  w.cell? ⟨g,k*8,none⟩=some (.int .i64 r.d.op)/\w.cell? ⟨g,k*8+1,none⟩=some (.int .i64 r.d.dst)/\w.cell? ⟨g,k*8+2,none⟩=some (.int .i64 r.d.a)/\w.cell? ⟨g,k*8+3,none⟩=some (.int .i64 r.d.b)/\
  w.cell? ⟨g,k*8+4,none⟩=some (.int .i64 r.d.imm)/\w.cell? ⟨g,k*8+5,none⟩=some (.int .i64 r.d.callee)/\w.cell? ⟨g,k*8+6,none⟩=some (.slice r.aa r.na r.ca)/\w.cell? ⟨g,k*8+7,none⟩=some (.int .i64 r.d.many):=by
 have hlt:=(aI.1 hk).1
 have hc:∀j,j<8->w.cell? ⟨g,k*8+j,none⟩=(rK r)[j]?:=λj hj=>by
  rw[dJ h (k*8+j) (by omega)];exact kD rK 8 lK rs k j hj r hk
 exact⟨hc 0 (by omega),hc 1 (by omega),hc 2 (by omega),hc 3 (by omega),hc 4 (by omega),hc 5 (by omega),hc 6 (by omega),hc 7 (by omega)⟩
theorem TC{w:World}{B g c:Nat}{rs:List fW}(h:nU w B (.slice (some ⟨g,0,none⟩) rs.length c) rs)(i:Nat)(r:fW)(hi:i<rs.length):
  nU ((((((((w.setCell ⟨g,i*8,none⟩ (.int .i64 r.d.op)).setCell ⟨g,i*8+1,none⟩ (.int .i64 r.d.dst)).setCell ⟨g,i*8+2,none⟩ (.int .i64 r.d.a)).setCell ⟨g,i*8+3,none⟩ (.int .i64 r.d.b)).setCell ⟨g,i*8+4,none⟩ (.int .i64 r.d.imm)).setCell ⟨g,i*8+5,none⟩ (.int .i64 r.d.callee)).setCell ⟨g,i*8+6,none⟩ (.slice r.aa r.na r.ca)).setCell ⟨g,i*8+7,none⟩ (.int .i64 r.d.many)) B (.slice (some ⟨g,0,none⟩) rs.length c) (rs.set i r):=by
 have h8:=((((((((h.stored (i*8) (.int .i64 r.d.op)).1.stored (i*8+1) (.int .i64 r.d.dst)).1.stored (i*8+2) (.int .i64 r.d.a)).1.stored (i*8+3) (.int .i64 r.d.b)).1.stored (i*8+4) (.int .i64 r.d.imm)).1.stored (i*8+5) (.int .i64 r.d.callee)).1.stored (i*8+6) (.slice r.aa r.na r.ca)).1.stored (i*8+7) (.int .i64 r.d.many)).1
 rw[pu rs i r hi] at h8
 unfold nU
 rw[List.length_set]
 exact h8
theorem ez(w:World):(zeroValue 62).run Tryz.prog w=.ok (.agg #[.int .i64 0,.int .i64 0,.int .i64 0,.int .i64 0,.int .i64 0,.int .i64 0,.slice none 0 0,.int .i64 0]) w:=by kernel_rfl
theorem FR{P:Program}(w:World)(t e ty:TypeId)(z:Value)(ht:P.underlying t=some (.slice e))(hv:∀w,(zeroValue e).run P w=.ok z w)(size:Nat)(hz:z.cells.size=size)(h1:∀u∈z.cells.toList,u.oneCell'=true)(b o n c:Nat)(hn:0<n)
  (hc:∀j,j<n*size->(w.cell? ⟨b,o+j,none⟩).isSome=true) (hf:∀j,j<n*size->w.frozen? ⟨b,o+j,none⟩=false):
  ∃vs:List Value,(Builtin.clear_ #[t] ty #[.slice (some ⟨b,o,none⟩) n c]).run P w=.ok (.tuple #[]) (w.setCells b o vs):=by
 refine⟨(Builtin.zeroCells z.cells n).toList,?_⟩
 have hl:(Builtin.zeroCells z.cells n).toList.length=n*size:=by simp[Builtin.zeroCells,hz]
 have hst:=run_storeCells_cells (P:=P) b o (Builtin.zeroCells z.cells n).toList 0 w (by simpa[hl] using hc) (by simpa[hl] using hf) (by
  intro v hv';simp only[Builtin.zeroCells,Array.toList_map,bi,Array.toList_range,be] at hv';obtain⟨q,hq,rfl⟩:=hv';have hpos:0<z.cells.size:=by
   rcases Nat.eq_zero_or_pos z.cells.size with h0|h0
   .rw[h0] at hq;omega
   .exact h0
  have hlt:=Nat.mod_lt q hpos;rw[getElem!_pos z.cells _ hlt]
  exact h1 _ (by simp))
 simp only[bz] at hst
 obtain⟨m,rfl⟩:∃m,n=m+1:=⟨n-1,by omega⟩
 simp[Builtin.clear_,aZ ht,hv,hst]
def LG(B:Nat)(rs:List fW)(p:fW->Bool)(v:Value)(w:World)(e:Ending)(w':World):Prop:=
 ∃v',e=.returned v'/\v'.ownBlock=v.ownBlock/\nU w' B v' (rs.filter λx=> !p x)/\Chg (λk=>v.ownBlock=some k) w w'
theorem FZ(B:Nat)(F:Nat)(caps:Array Value)(eF:∀args w,(callFunc F args).run Tryz.prog w=.ok (.enter F args) w)(p:fW->Bool)(g c:Nat)(rs:List fW)(w:World)
  (hown:nU w B (.slice (some ⟨g,0,none⟩) rs.length c) rs) (hn:rs.length<=1000000) (hok:∀r∈rs,qF w r) (hB:B<=w.heap.size)
  (hp:∀(r:fW) (W:World),r∈rs->Below B w W->Calls Tryz.prog F (#[qB r]++caps) W λe W'=>e=.returned (.bool (p r))/\Below W.heap.size W W'):
  Calls Tryz.prog 24 #[.slice (some ⟨g,0,none⟩) rs.length c,.func (.func F) #[] caps] w (LG B rs p (.slice (some ⟨g,0,none⟩) rs.length c) w):=by
 have hgB:B<=g/\g<w.heap.size:=hown.lt g rfl
 have hS:vP w (some ⟨g,0,none⟩) rs.length rs:=by
  obtain⟨a,c',e,hr,_⟩:=pG lK hown (by omega);simp only[Value.slice.injEq] at e;obtain⟨rfl,_,rfl⟩:=e;exact⟨hr,hok⟩
 have hI:=tK F caps eF p (some ⟨g,0,none⟩) rs.length c rs w (λr W hr hb=>hp r W hr (hb.mono hB)) hS
 have HI:=ac hI
 have HO:=ac hown
 have HP:=ac hp
 have HOK:=ac hok
 clear hI hS hown hp hok
 obtain⟨n,HN⟩:∃n,Hid (rs.length=n):=⟨_,rfl⟩
 rcases YA p rs with ⟨hx,hall⟩|⟨k,x,hx,hk,hpx,hno⟩
 .have HE:Hid (rs.filter (λx=> !p x)=rs):=by
   rw[Hid,dP];intro y hy;simp[hall y hy]
  have HX:=ac hx;clear hx hall
  go_enter Tryz.func24,Tryz.ntmps24
  go_wp2_with (go_at_call 53;refine HI.out.mono ?_;rw[HX.out];rintro e w1 ⟨rfl,hb1⟩;have HB1:=ac hb1;clear hb1)
  go_ret
  refine⟨_,rfl,rfl,?_,(Chg.refl _ _).of_ext HB1.out⟩;rw[HE.out];exact jC HO.out ((Chg.refl (λ_=>False) w).of_ext HB1.out) (λ_ _ h=>h)
 .have HX:=ac hx;have HK:=ac (pP.start hk hpx hno);have hkl:=(aI.1 hk).1;clear hx hk hpx hno;have hne1:((k:Int)== -1)=false:=beq_eq_false_iff_ne.2 (by omega);obtain⟨n,hnn⟩:∃n,rs.length=n:=⟨_,rfl⟩
  have HN:=ac hnn;have hnc:rs.length<=c:=PK HO.out;rw[hnn] at hn hkl hnc;have hI2:=HI.out;rw[hnn] at hI2;have HI:=ac hI2;rw[hnn];clear hnn hI2
  go_enter Tryz.func24,Tryz.ntmps24
  go_wp2_with (go_at_call 53;refine HI.out.mono ?_;rw[HX.out];rintro e w1 ⟨rfl,hb1⟩;have HB1:=ac hb1;clear hb1)
  go_loopg [5,6,7] n (λgg s5 s6 _ wr=>∃(i j:Nat) (L:List fW),s5=.int .i64 i/\s6=.int .i64 j/\j<=n/\i<j/\n-j<=gg/\Hid (nU wr B (.slice (some ⟨g,0,none⟩) L.length c) L)/\Hid (pP p rs i j L)/\Hid (Chg (λk=>k=g) w wr))
  case atStart=>
   refine⟨k,k+1,rs,rfl,by go_num,by omega,by omega,by omega,?_,HK,(Chg.refl _ _).of_ext HB1.out⟩;exact jC HO.out ((Chg.refl (λ_=>False) w).of_ext HB1.out) (λ_ _ h=>h)
  case round=>
   obtain⟨i,j,L,rfl,rfl,hj,hij,hgg,HR,HA,HC⟩:=hrel;have HLn:Hid (L.length=n):=HA.out.2.2.1.trans HN.out;by_cases hlt:j<n
   .have hjr:j<rs.length:=by rw[HN.out];exact hlt
    obtain⟨x,hx⟩:∃x,rs[j]? =some x:=⟨rs[j],au hjr⟩
    have hxL:L[j]? =some x:=(HA.out.2.2.2.2 j (aw _)).trans hx;obtain⟨y,hy⟩:∃y,L[i]? =some y:=⟨L[i]'(by rw[HLn.out];omega),au _⟩
    obtain⟨c0,c1,c2,c3,c4,c5,c6,c7⟩:=yV HR.out hxL;have HX:=ac hx;have HM:=ac (aK hx);have HY:=ac hy;have hwlt:w.heap.size<=wr.heap.size:=HC.out.size;clear hx hxL hy;cases hq:p x with
    |true=>
     go_wp2;refine(HP.out x _ HM.out (by exact(HC.out.alloc _).below hB (λk hk=>by rw[hk];exact hgB.1))).mono ?_;rintro e w2 ⟨rfl,hb2⟩;rw[hq];have HB2:=ac (eA (eC _ _) hb2);clear hb2;go_wp2
     go_roundg (n-(j+1))
     case measure=>omega
     case rel=>exact⟨i,j+1,L,rfl,by go_num,by omega,by omega,aw _,jC HR.out ((Chg.refl (λ_=>False) _).of_ext HB2.out) (λ_ _ h=>h),HA.out.skip HX.out hq,HC.out.of_ext HB2.out⟩
    |false=>
     go_wp2;refine(HP.out x _ HM.out (by exact(HC.out.alloc _).below hB (λk hk=>by rw[hk];exact hgB.1))).mono ?_;rintro e w2 ⟨rfl,hb2⟩;rw[hq];have hx:=hb2.block wr.heap.size (by simp);rw[ai wr _] at hx;obtain⟨d0,d1,d2,d3,d4,d5,d6,d7⟩:=RC hx rfl;have HB2:=ac (eA (eC _ _) hb2);have HR2:Hid (nU w2 B (.slice (some ⟨g,0,none⟩) L.length c) L):=jC HR.out ((Chg.refl (λ_=>False) _).of_ext HB2.out) (λ_ _ h=>h);obtain⟨e0,e1,e2,e3,e4,e5,e6,e7⟩:=yV HR2.out HY.out;have f0:=HR2.out.frozenAt (i*8);have f1:=HR2.out.frozenAt (i*8+1);have f2:=HR2.out.frozenAt (i*8+2);have f3:=HR2.out.frozenAt (i*8+3);have f4:=HR2.out.frozenAt (i*8+4);have f5:=HR2.out.frozenAt (i*8+5);have f6:=HR2.out.frozenAt (i*8+6);have f7:=HR2.out.frozenAt (i*8+7);clear hb2 hx c0 c1 c2 c3 c4 c5 c6 c7;go_wp2
     go_roundg (n-(j+1))
     case measure=>omega
     case rel=>
      have hset:=TC HR2.out i x (by rw[HLn.out];omega);refine⟨i+1,j+1,L.set i x,by go_num,by go_num,by omega,by omega,aw _,?_,HA.out.keep HX.out hq,?_⟩
      .rw[Hid,List.length_set];exact hset
      .exact(((((((((HC.out.of_ext HB2.out).setCell (Or.inl rfl) _).setCell (Or.inl rfl) _).setCell (Or.inl rfl) _).setCell (Or.inl rfl) _).setCell (Or.inl rfl) _).setCell (Or.inl rfl) _).setCell (Or.inl rfl) _).setCell (Or.inl rfl) _)
   .obtain rfl:j=n:=by omega
    obtain⟨vs,hcl⟩:=FR (P:=Tryz.prog) wr 25 62 0 _ dx ez 8 rfl (by simp[Value.cells,Value.oneCell']) g (i*8) (j-i) (c-i) (by omega) (λq hq=>by
     rw[dJ HR.out (i*8+q) (by rw[HLn.out];omega)];rw[au (by rw[gU rK 8 lK,HLn.out];omega)]
     rfl) (λq _=>HR.out.frozenAt _)
    go_wp2
    go_ret
    have ht:=LR HR.out i (by rw[HLn.out];omega) vs;have hA:=HA.out;rw[<-HN.out] at hA;have hd:=hA.done;have hli:(L.take i).length=i:=by rw[ck,HLn.out];omega
    rw[LY rK 8 lK] at ht;rw[hd] at ht;refine⟨_,rfl,rfl,?_,(zM (S:=λk=>k=g) rfl vs _ _ HC.out).mono (λk hk=>by rw[hk];rfl)⟩;rw[hd] at hli;unfold nU;rw[hli];exact ht
end
end Go.Proofs.YtchdkjenhppleaaGreat
