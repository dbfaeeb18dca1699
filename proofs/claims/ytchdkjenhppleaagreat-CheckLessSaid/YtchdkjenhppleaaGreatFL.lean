/-
 append of a whole slice of records (nil let in) onto a row of the call's own. No program in sight.
-/
import Derived.Test.YtchdkjenhppleaaGreatA0
import Derived.Test.YtchdkjenhppleaaGreatMix
import Derived.Test.YtchdkjenhppleaaGreatFC
import Derived.Test.YtchdkjenhppleaaGreatFJ
import Derived.WalkSpells
import Derived.Laws.Tables
import Derived.IntWalk
import Derived.Laws.CopyOwn
namespace Go.Proofs.YtchdkjenhppleaaGreat
set_option linter.unusedSimpArgs false
set_option linter.unusedVariables false
set_option linter.unusedSectionVars false
set_option maxRecDepth 100000
set_option maxHeartbeats 40000000
section
open Go.RowKit
theorem mT(b o m:Nat):(⟨b,o,none⟩:Addr).add m=⟨b,o+m,none⟩:=by
 unfold Addr.add
 simp
section
variable {P:Program} {Q:Exit->Act->World->Prop}
theorem tS(w:World)(base:Nat)(t ty e:TypeId)(z:Value)(size bytes:Nat)(ht:P.underlying t=some (.slice e))(hinfo:(P.info? e).map (λi=>(i.zero,i.size,i.bytes))=some (some z,size,bytes))(hzs:z.cells.size=size)(hsz:0<size)
  (v:Value) (n:Nat) (xs:List Value) (hown:w.ownsRow base e size v n xs) (A:Option Addr) (m c:Nat) (news:List Value) (hl:news.length=m*size)
  (hr:∀j u,news[j]? =some u->∃ad,A=some ad/\w.cell? (ad.add j)=some u) (h1:∀u∈news,u.oneCell'=true)
  (h63:n+m<=maxLen) (hbytes:(n+m)*bytes<=140737488355328) (hbase:base<=w.heap.size):
  ∃v' w',(Builtin.append_ #[t,t] ty #[v,.slice A m c]).run P w=.ok v' w'/\w'.ownsRow base e size v' (n+m) (xs++news)/\w.grownBy w' v.ownBlock/\(v'.ownBlock=v.ownBlock\/v'.ownBlock=some w.heap.size):=by
 obtain⟨i,hi,hz,hsize,hby⟩:=info_parts hinfo
 rcases A with _|ad
 .have hm:news= []:=by
   cases news with
   |nil=>rfl
   |cons u l=>obtain⟨ad,h,_⟩:=hr 0 u rfl;cases h
  subst hm;obtain rfl:m=0:=by
   grind[Nat.mul_eq_zero]
  refine⟨v,w,?_,by grind,⟨rfl,rfl,rfl,aw _,λ_ _ _=>rfl⟩,Or.inl rfl⟩;rcases hown.2 with ⟨rfl,rfl⟩|⟨g,cap,cur,rfl,_,_,hnc,_⟩
  .simp[Builtin.append_,aZ ht,sizeOf,typeInfo,hi,Builtin.lenOf,Builtin.firstCells]
  .simp[Builtin.append_,aZ ht,sizeOf,typeInfo,hi,Builtin.lenOf,Builtin.firstCells,hnc,storeCells]
 .obtain⟨v',w',hrun,h2,h3,_,h5⟩:=run_append_own_at (P:=P) w base t ty e i z size bytes ht hi hz hsize hby hzs hsz v n xs hown ad m c news hl
   (λj u hu=>by grind) h1 h63 hbytes hbase
  grind
theorem qN{ops:Array Oper}{rest:List Oper}{o:Oper}{a:Act}(w:World)(hgd:o.guard=none)(s x:Operand)(t e:TypeId)(ho:o.op=.call {callee:=.builtin .append,args:=#[s,x],argTypes:=#[t,t]})
  (base:Nat) (z:Value) (size bytes:Nat) (ht:P.underlying t=some (.slice e)) (hinfo:(P.info? e).map (λi=>(i.zero,i.size,i.bytes))=some (some z,size,bytes)) (hzs:z.cells.size=size) (hsz:0<size)
  (v:Value) (n:Nat) (xs:List Value) (hs:a.eval s=v) (hown:w.ownsRow base e size v n xs) (A:Option Addr) (m c:Nat) (hx:a.eval x=.slice A m c) (news:List Value) (hl:news.length=m*size)
  (hr:∀j u,news[j]? =some u->∃ad,A=some ad/\w.cell? (ad.add j)=some u) (h1:∀u∈news,u.oneCell'=true)
  (h63:n+m<=maxLen) (hbytes:(n+m)*bytes<=140737488355328) (hbase:base<=w.heap.size)
  (h:∀v' w',w'.ownsRow base e size v' (n+m) (xs++news)->w.grownBy w' v.ownBlock->(v'.ownBlock=v.ownBlock\/v'.ownBlock=some w.heap.size)->wpList P ops Q rest (a.put o.dst v') w'):
  wpList P ops Q (o :: rest) a w:=by
 refine dM hgd λK hK=>?_
 obtain⟨v',w',hrun,h2,h3,h4⟩:=tS (P:=P) w base t o.type e z size bytes ht hinfo hzs hsz v n xs hown A m c news hl hr h1 h63 hbytes hbase
 unfold Oper.wp execOp
 simp only[ho,resolve,invoke,builtin,bu,cY,bp,List.map_toArray,cn,cW,hs,hx,hrun]
 exact hK _ _ (h v' w' h2 h3 h4)
theorem qM{o:Oper}{a:Act}{K:Act->World->Prop}(w:World)(s x:Operand)(t e:TypeId)(ho:o.op=.call {callee:=.builtin .append,args:=#[s,x],argTypes:=#[t,t]})
  (base:Nat) (z:Value) (size bytes:Nat) (ht:P.underlying t=some (.slice e)) (hinfo:(P.info? e).map (λi=>(i.zero,i.size,i.bytes))=some (some z,size,bytes)) (hzs:z.cells.size=size) (hsz:0<size)
  (v:Value) (n:Nat) (xs:List Value) (hs:a.eval s=v) (hown:w.ownsRow base e size v n xs) (A:Option Addr) (m c:Nat) (hx:a.eval x=.slice A m c) (news:List Value) (hl:news.length=m*size)
  (hr:∀j u,news[j]? =some u->∃ad,A=some ad/\w.cell? (ad.add j)=some u) (h1:∀u∈news,u.oneCell'=true)
  (h63:n+m<=maxLen) (hbytes:(n+m)*bytes<=140737488355328) (hbase:base<=w.heap.size)
  (h:∀v' w',w'.ownsRow base e size v' (n+m) (xs++news)->w.grownBy w' v.ownBlock->(v'.ownBlock=v.ownBlock\/v'.ownBlock=some w.heap.size)->(∀w0,Below base w0 w->Below base w0 w')->K (a.put o.dst v') w'):
  o.wp P a w K Q:=by
 obtain⟨v',w',hrun,h2,h3,h4⟩:=tS (P:=P) w base t o.type e z size bytes ht hinfo hzs hsz v n xs hown A m c news hl hr h1 h63 hbytes hbase
 unfold Oper.wp execOp
 simp only[ho,resolve,invoke,builtin,bu,cY,bp,List.map_toArray,cn,cW,hs,hx,hrun]
 exact h v' w' h2 h3 h4 (λw0 hb=>hb.grown h3 hbase (λk hk=>(hown.lt k hk).1))
end
theorem fR.news{w:World}{a:Option Addr}{n:Nat}{xs:List Int}(h:fR w a n xs):∀j u,(xs.map (Value.int .i64))[j]? =some u->∃ad,a=some ad/\w.cell? (ad.add j)=some u:=by
 intro j u hu
 rw[dv,Option.map_eq_some_iff] at hu
 obtain⟨x,hx,rfl⟩:=hu
 have hlt:=(aI.1 hx).1
 obtain⟨b,o,e,hc,_⟩:=h.2.2 j (by rw[<-h.1];omega)
 grind[mT]
theorem mO.news{α:Type}{size:Nat}{cs:α->List Value}{w:World}{a:Option Addr}{n:Nat}{ls:List α}(h:mO size cs w a n ls)(hs:∀x,(cs x).length=size)(hpos:0<size):∀j u,(ls.flatMap cs)[j]? =some u->∃ad,a=some ad/\w.cell? (ad.add j)=some u:=by
 intro j u hu
 have hlt:=(aI.1 hu).1
 rw[gU cs size hs] at hlt
 have hk:j/size<ls.length:=Nat.div_lt_of_lt_mul (by grind)
 have hj:j%size<size:=Nat.mod_lt _ hpos
 have em:j=j/size*size+j%size:=by simp[Nat.mul_comm,Nat.div_add_mod]
 obtain⟨b,o,e,hc⟩:=h.2.2 (j/size) ls[j/size] (au hk)
 refine⟨_,e,?_⟩
 rw[mT,show o+j=o+j/size*size+j%size by omega,hc _ hj,<-kD cs size hs ls _ _ hj _ (au hk),<-em]
 omega
end

section
open Go.RowKit
theorem GU(B:Nat)(F:Nat)(caps:Array Value)(eF:∀args w,(callFunc F args).run Tryz.prog w=.ok (.enter F args) w)(p:fW->Bool)(w:World):
  Calls Tryz.prog 24 #[.slice none 0 0,.func (.func F) #[] caps] w (LG B [] p (.slice none 0 0) w):=by
 have HI:=ac (tK F caps eF p none 0 0 [] w (λr W hr hb=>by cases hr) ⟨mO.nil _ _ _,λr hr=>by cases hr⟩)
 have HX:Hid (nQ p []= -1):=rfl
 go_enter Tryz.func24,Tryz.ntmps24
 go_wp2_with (go_at_call 53;refine HI.out.mono ?_;rw[HX.out];rintro e w1 ⟨rfl,hb1⟩;have HB1:=ac hb1;clear hb1)
 go_ret
 exact⟨_,rfl,rfl,cC _ _ _ _,(Chg.refl _ _).of_ext HB1.out⟩
theorem vW(B:Nat)(F:Nat)(caps:Array Value)(eF:∀args w,(callFunc F args).run Tryz.prog w=.ok (.enter F args) w)(p:fW->Bool)(v:Value)(rs:List fW)(w:World)
  (hown:nU w B v rs) (hn:rs.length<=1000000) (hok:∀r∈rs,qF w r) (hB:B<=w.heap.size)
  (hp:∀(r:fW) (W:World),r∈rs->Below B w W->Calls Tryz.prog F (#[qB r]++caps) W λe W'=>e=.returned (.bool (p r))/\Below W.heap.size W W'):
  Calls Tryz.prog 24 #[v,.func (.func F) #[] caps] w (LG B rs p v w):=by
 rcases id hown.2 with ⟨rfl,h0⟩|⟨g,cap,cur,rfl,_⟩
 .obtain rfl:rs= []:=bB h0;exact GU B F caps eF p w
 .exact FZ B F caps eF p g cap rs w hown hn hok hB hp
theorem i8:(Tryz.prog.info? 62).map (λi=>(i.zero,i.size,i.bytes))=some (some (.agg #[.int .i64 0,.int .i64 0,.int .i64 0,.int .i64 0,.int .i64 0,.int .i64 0,.slice none 0 0,.int .i64 0]),8,80):=by kernel_rfl
theorem iz(r:fW):∀u∈rK r,u.oneCell'=true:=by
 intro u hu
 simp only[rK,aH,a7,bW] at hu
 rcases hu with rfl|rfl|rfl|rfl|rfl|rfl|rfl|rfl<;>rfl
def ZH(w:World)(rs:List fW)(e:Ending)(w':World):Prop:=∃v,e=.returned v/\nU w' w.heap.size v rs/\Below w.heap.size w w'
theorem zL(a:Option Addr)(n c:Nat)(rs:List fW)(w:World)(h:vP w a n rs)(hn:n<=1000000):
  Calls Tryz.prog 25 #[.slice a n c] w (ZH w rs):=by
 have HL:=ac h.1.1
 have H:=ac h
 clear h
 cases a with
 |none=>
  have hq:=λw n c n' c'=>cE (P:=Tryz.prog) w 25 62 none n c n' c' dx
  go_enter Tryz.func25,Tryz.ntmps25
  go_wp2
  go_ret
  have h0:rs= []:=by
   cases rs with
   |nil=>rfl
   |cons r l=>obtain⟨b,o,e,_⟩:=H.out.1.2.2 0 r rfl;cases e
  subst h0;exact⟨_,rfl,cC _ _ _ _,ao _ _⟩
 |some ad=>
  have hq:=λw n c n' c'=>cE (P:=Tryz.prog) w 25 62 (some ad) n c n' c' dx
  go_enter Tryz.func25,Tryz.ntmps25
  go_wp2_with (at_builtin;go_loud (refine qN (w.alloc (.cells #[] 62)) rfl (.tmp 5) (.tmp 6) 25 62 rfl w.heap.size _ 8 80 dx i8 rfl (by omega) (.slice (some ⟨w.heap.size,0,none⟩) 0 0) 0 [] rfl (dy w #[] 0 (by omega) (by unfold maxLen;omega) rfl) (some ad) n c rfl (rs.flatMap rK) (by rw[gU rK 8 lK,HL.out]) ((H.out.1.ext lK (eC _ _)).news lK (by omega)) (λu hu=>by obtain⟨r,_,hr⟩:=dj.1 hu;exact iz r u hr) (by unfold maxLen;omega) (by omega) (by simp) ?_);intro v' w1 ho1 hg1 hv1;have HO1:=ac ho1;have HG1:=ac hg1;clear ho1 hg1 hv1)
  go_ret
  have ho:=HO1.out;rw[aW,bH,<-HL.out] at ho;exact⟨_,rfl,ho,((ao _ w).alloc (aw _) _).grown HG1.out (by simp) (λk hk=>by simp[Value.ownBlock] at hk;omega)⟩
def tX{α:Type}(q:α->α->Bool):List α->List α->Bool
 | [],[]=>true
 |x :: l,y :: m=>q x y&&tX q l m
 |_,_=>false
theorem OK{α:Type}(q:α->α->Bool)(l m:List α)(h:l.length≠m.length):tX q l m=false:=by
 induction l generalizing m with
 |nil=>cases m with
  |nil=>exact absurd rfl h
  |cons y m=>rfl
 |cons x l ih=>cases m with
  |nil=>rfl
  |cons y m=>simp only[tX,ih m (λe=>h (by simp[e])),Bool.and_false]
theorem jt{α:Type}(q:α->α->Bool)(l m:List α)(h:l.length=m.length)(hq:∀(j:Nat) x y,l[j]? =some x->m[j]? =some y->q x y=true):tX q l m=true:=by
 induction l generalizing m with
 |nil=>cases m with
  |nil=>rfl
  |cons y m=>simp at h
 |cons x l ih=>cases m with
  |nil=>simp at h
  |cons y m=>
   simp only[tX,az];exact⟨hq 0 x y rfl rfl,ih m (by simpa using h) (λj a b ha hb=>hq (j+1) a b (by simpa using ha) (by simpa using hb))⟩
theorem jr{α:Type}(q:α->α->Bool)(l m:List α)(j:Nat)(x y:α)(hx:l[j]? =some x)(hy:m[j]? =some y)(hq:q x y=false):tX q l m=false:=by
 induction l generalizing m j with
 |nil=>simp at hx
 |cons a l ih=>cases m with
  |nil=>rfl
  |cons b m=>
   simp only[tX,dF];cases j with
   |zero=>simp at hx hy;subst hx;subst hy;exact Or.inl hq
   |succ j=>exact Or.inr (ih m j (by simpa using hx) (by simpa using hy))
abbrev pO(r s:fW):Bool:=nT r.d s.d
theorem MA(a1 a2:Option Addr)(n1 c1 n2 c2:Nat)(rs1 rs2:List fW)(w:World)(h1:vP w a1 n1 rs1)(h2:vP w a2 n2 rs2):
  Calls Tryz.prog 28 #[.slice a1 n1 c1,.slice a2 n2 c2,.func (.func 29) #[] #[]] w λe w'=>e=.returned (.bool (tX pO rs1 rs2))/\Below w.heap.size w w':=by
 have HL1:=ac h1.1.1
 have HL2:=ac h2.1.1
 have q1:=h1.1.2.1
 have q2:=h2.1.2.1
 have H1:=ac h1
 have H2:=ac h2
 clear h1 h2
 by_cases hne:n1=n2
 .subst hne;have hb:((n1:Int) != (n1:Int))=false:=by simp
  go_enter Tryz.func28,Tryz.ntmps28
  go_wp2
  go_loopw [7,8,9,17] (λ_ _ _ i wr=>∃(k:Nat),k<=n1/\i=.int .i64 k/\Hid (∀j x y,j<k->rs1[j]? =some x->rs2[j]? =some y->pO x y=true)/\Hid (Below w.heap.size w wr)) (λ_ _ _ i _=>n1-(intOf i).toNat)
  case atStart=>exact⟨0,by omega,rfl,λj x y hj=>absurd hj (by omega),ao _ _⟩
  case round=>
   obtain⟨k,hk,rfl,HR,HB⟩:=hrel;by_cases hlt:k<n1
   .obtain⟨r,b,o,hr,hok,rfl,c0,c1,c2,c3,c4,c5,c6,c7⟩:=(H1.out.ext HB.out).cells hlt;obtain⟨s,b',o',hs,hok',rfl,d0,d1,d2,d3,d4,d5,d6,d7⟩:=(H2.out.ext HB.out).cells hlt;have HG:=ac hr;have HG':=ac hs;have HOK:=ac hok;have nb:b<wr.heap.size:=aF wr _ c0;have nb':b'<wr.heap.size:=aF wr _ d0;clear hr hok hs hok';cases hq:pO r s with
    |true=>
     have HE:Hid (∀j x y,j<k+1->rs1[j]? =some x->rs2[j]? =some y->pO x y=true):=λj x y hj hx hy=>by
      by_cases e:j=k
      .subst e;rw[HG.out] at hx;rw[HG'.out] at hy;injection hx with hx;injection hy with hy;subst hx;subst hy;exact hq
      .exact HR.out j x y (by omega) hx hy
     go_wp2_with (go_at_call 29;refine(JY r.d s.d r.aa s.aa r.na r.ca s.na s.ca _ HOK.out.1.1 HOK.out.1.2.1).mono ?_;rw[show nT r.d s.d=true from hq];rintro e w' ⟨rfl,hb'⟩;have HB':=ac (eA HB.out (eA (eA (eC _ _) (eC _ _)) hb'));clear hb')
     go_roundw
     case rel=>exact⟨k+1,by omega,by go_num,HE,HB'⟩
     case measure=>simp[intOf];omega
    |false=>
     have HE:Hid (tX pO rs1 rs2=false):=jr pO rs1 rs2 k r s HG.out HG'.out hq
     go_wp2_with (go_at_call 29;refine(JY r.d s.d r.aa s.aa r.na r.ca s.na s.ca _ HOK.out.1.1 HOK.out.1.2.1).mono ?_;rw[show nT r.d s.d=false from hq];rintro e w' ⟨rfl,hb'⟩;have HB':=ac (eA HB.out (eA (eA (eC _ _) (eC _ _)) hb'));clear hb')
     go_ret
     exact⟨by rw[HE.out];rfl,HB'.out⟩
   .obtain rfl:k=n1:=by omega
    have HE:Hid (tX pO rs1 rs2=true):=jt pO rs1 rs2 (by rw[HL1.out,HL2.out]) (λj x y hx hy=>HR.out j x y (by have:=(aI.1 hx).1;rw[HL1.out] at this;exact this) hx hy);go_wp2
    go_ret
    exact⟨by rw[HE.out];rfl,HB.out⟩
 .have hb:((n1:Int) != (n2:Int))=true:=by simpa using (by omega:¬(n1:Int)=(n2:Int))
  have HE:Hid (tX pO rs1 rs2=false):=OK _ _ _ (by rw[HL1.out,HL2.out];exact hne)
  go_enter Tryz.func28,Tryz.ntmps28
  go_wp2
  go_ret
  exact⟨by rw[HE.out];rfl,ao _ _⟩
end

section
open Go.RowKit
theorem rC{P:Program}{f:FuncId}{args:Array Value}{w:World}{n:Nat}{v:Value}
  (h:Calls P f args (w.drewN n) λe w'=>e=.returned v/\w.drewN n=w'):Calls P f args (w.drewN n) λe w''=>e=.returned v/\∃m,w''=w.drewN m:=
 h.mono λ_ _ ⟨he,hm⟩=>⟨he,n,hm.symm⟩
theorem NS(x y:Int)(w:World):Calls Tryz.prog 91 #[.int .i64 x,.int .i64 y] w λe w'=>e=.returned (.bool (decide (x<y)))/\w=w':=by
 have hx:(x != x)=false:=by simp
 have hy:(y != y)=false:=by simp
 go_enter Tryz.func91,Tryz.ntmps91
 go_wp2
 go_ret
 exact⟨rfl,rfl⟩
def mX(xs:List Int):Bool:=decide (∀i:Fin xs.length,∀j:Fin xs.length,i.val+1=j.val->xs[i]<=xs[j])
theorem BK(xs:List Int):mX xs=true↔∀i,i+1<xs.length->xs.getD i 0<=xs.getD (i+1) 0:=by
 rw[mX,aR]
 constructor
 .intro h i hi;have:=h ⟨i,by omega⟩ ⟨i+1,hi⟩ rfl;simpa[ax,hi,show i<xs.length by omega] using this
 .intro h i j hij;have:=h i.val (by have:=j.isLt;omega);have hj:i.val+1<xs.length:=by have:=j.isLt;omega
  have e:j=⟨i.val+1,hj⟩:=Fin.ext hij.symm;subst e;simpa[ax,hj,show i.val<xs.length by omega] using this
theorem yU(a:Option Addr)(n c:Nat)(xs:List Int)(w:World)(h:fR w a n xs):
  Calls Tryz.prog 54 #[.slice a n c] w λe w'=>e=.returned (.bool (mX xs))/\∃q,w'=w.drewN q:=by
 have HL:=ac h.1
 have hn:=h.2.1
 have H:=ac h
 clear h
 go_enter Tryz.func54,Tryz.ntmps54
 go_wp2
 go_loopw [3] (λi wr=>∃(k:Int),-1<=k/\k<n/\i=.int .i64 k/\Hid (∀j:Nat,k<=j->j+1<n->xs.getD j 0<=xs.getD (j+1) 0)/\Hid (∃q,wr=w.drewN q)) (λi _=>(intOf i+1).toNat)
 case atStart=>exact⟨(n:Int)-1,by omega,by omega,rfl,λj h1 h2=>absurd h1 (by omega),⟨0,rfl⟩⟩
 case round=>
  obtain⟨k,hk,hkn,rfl,HR,HQ⟩:=hrel;have HI:Hid (fR wr a n xs):=by obtain⟨q,e⟩:=HQ.out;rw[e];exact H.out.drewN q
  by_cases hlt:0<k
  .obtain⟨m,rfl⟩:∃m:Nat,k=(m:Int)+1:=⟨(k-1).toNat,by omega⟩
   obtain⟨b,o,rfl,hc1,w1,w2⟩:=HI.out.2.2 (m+1) (by omega);obtain⟨b',o',e,hc0,w3,w4⟩:=HI.out.2.2 m (by omega);simp only[bv,Addr.mk.injEq,and_true] at e;obtain⟨rfl,rfl⟩:=e;have e1:((m:Int)+1).toNat=m+1:=by omega
   have e2:((m:Int)+1-1)=m:=by omega
   have e3:IntKind.i64.wrap ((m:Int)+1-1)=m:=by rw[e2];exact eh _ (by omega)
   have e3b:IntKind.i64.wrap (m:Int)=m:=eh _ (by omega);have e4:0<=(m:Int)+1:=by omega
   have e5:(m:Int)<n:=by omega
   have e6:0<=(m:Int):=by omega
   by_cases hs:xs.getD (m+1) 0<xs.getD m 0
   .have hd:decide (xs.getD (m+1) 0<xs.getD m 0)=true:=by simpa using hs
    have HE:Hid (mX xs=false):=by
     rw[Hid,bU];intro h;have:=(BK xs).1 h m (by rw[HL.out];omega);omega
    generalize xs.getD (m+1) 0=x1 at *;generalize xs.getD m 0=x0 at *;go_wp2
    go_quiet ((go_at_call 91;exact rC (NS _ _ _)))
    go_wp2
    go_ret
    obtain⟨q,e⟩:=HQ.out;exact⟨by rw[HE.out];rfl,_,by rw[e];exact World.drewN_drewN _ _ _⟩
   .have hd:decide (xs.getD (m+1) 0<xs.getD m 0)=false:=by simpa using hs
    have HE:Hid (∀j:Nat,(m:Int)<=j->j+1<n->xs.getD j 0<=xs.getD (j+1) 0):=λj h1 h2=>by
     by_cases e:j=m
     .subst e;omega
     .exact HR.out j (by omega) h2
    have hs':xs.getD m 0<=xs.getD (m+1) 0:=by omega
    clear hs;generalize hx1:xs.getD (m+1) 0=x1 at hc1 w1 w2 hd hs';generalize hx0:xs.getD m 0=x0 at hc0 w3 w4 hd hs';clear hx1 hx0;go_wp2
    go_quiet ((go_at_call 91;exact rC (NS _ _ _)))
    go_wp2
    go_roundw
    case rel=>
     obtain⟨q,e⟩:=HQ.out;exact⟨m,by omega,by omega,rfl,HE,⟨_,by rw[e];exact World.drewN_drewN _ _ _⟩⟩
    case measure=>simp[intOf];omega
  .have HE:Hid (mX xs=true):=(BK xs).2 (λi hi=>HR.out i (by omega) (by rw[<-HL.out];exact hi));go_wp2
   go_ret
   exact⟨by rw[HE.out];rfl,HQ.out⟩
def nO(f:Nat->Bool):Array Value:=((List.range 64).map λj=>Value.bool (f j)).toArray
theorem gD(f:Nat->Bool):(nO f).size=64:=by simp[nO]
theorem sV(f:Nat->Bool)(j:Nat)(h:j<64):(nO f)[j]? =some (.bool (f j)):=by simp[nO,h]
theorem gi(f:Nat->Bool)(j:Nat)(h:j<64):(nO f).setIfInBounds j (.bool true)=nO (λk=>k==j||f k):=by
 apply cH
 intro k
 by_cases hk:k<64
 .rw[Array.getElem?_setIfInBounds,sV f k hk,sV (λk=>k==j||f k) k hk];by_cases e:j=k
  .subst e;simp[gD,h]
  .have e':(k==j)=false:=by simpa using λx=>e x.symm
   rw[aC e,e'];rfl
 .rw[b6 (by simp[gD];omega),b6 (by simp[gD];omega)]
theorem pD(f:Nat->Bool):(nO f).all (·.oneCell')=true:=by
 rw[Array.all_eq_true_iff_forall_mem]
 intro v hv
 simp[nO] at hv
 obtain⟨j,_,rfl⟩:=hv
 rfl
def ofB(regs:Int)(l:List Int):Bool:=decide (∀i:Fin l.length,0<=l[i]/\l[i]<regs/\l[i]∉l.take i)
theorem CU(regs:Int)(l:List Int):ofB regs l=true↔∀k,k<l.length->0<=l.getD k 0/\l.getD k 0<regs/\l.getD k 0∉l.take k:=by
 rw[ofB,aR]
 constructor
 .intro h k hk;have:=h ⟨k,hk⟩;simpa[ax,hk] using this
 .intro h i;have:=h i.val i.isLt;simpa[ax,i.isLt] using this
def oV(l:List Int)(j:Nat):Bool:=l.contains (j:Int)
def ou(w:World)(regs:Int)(l:List Int)(e:Ending)(w':World):Prop:=∃f,e=.returned (.tuple #[.agg (nO f),.bool (ofB regs l)])/\(ofB regs l=true->f=oV l)/\Below w.heap.size w w'
theorem kR:(Tryz.prog.info? 124).map (·.size)=some 64:=by kernel_rfl
theorem vD(regs:Int)(hr:regs<=64)(a:Option Addr)(n c:Nat)(xs:List Int)(w:World)(h:fR w a n xs):
  Calls Tryz.prog 55 #[.int .i64 regs,.slice a n c] w (ou w regs xs):=by
 have HL:=ac h.1
 have hn:=h.2.1
 have H:=ac h
 clear h
 go_enter Tryz.func55,Tryz.ntmps55
 go_wp2
 go_loopw [7,10] (λ_ i wr=>∃(k:Nat),k<=n/\i=.int .i64 k/\Hid (wr.heap[w.heap.size]? =some (.cells (nO (oV (xs.take k))) 124 (0,0)))/\Hid (∀j,j<k->0<=xs.getD j 0/\xs.getD j 0<regs/\xs.getD j 0∉xs.take j)/\Hid (Below w.heap.size w wr)) (λ_ i _=>n-(intOf i).toNat)
 case atStart=>exact⟨0,by omega,rfl,ai _ _,λj hj=>absurd hj (by omega),eC _ _⟩
 case round=>
  obtain⟨k,hk,rfl,HS,HR,HB⟩:=hrel;by_cases hlt:k<n
  .obtain⟨b,o,rfl,hc,hw1,hw2⟩:=(H.out.ext HB.out).2.2 k hlt;by_cases hgood:0<=xs.getD k 0/\xs.getD k 0<regs/\xs.getD k 0∉xs.take k
   .have hx64:(xs.getD k 0).toNat<64:=by omega
    have h3:((xs.getD k 0).toNat:Int)=xs.getD k 0:=Int.toNat_of_nonneg hgood.1;have hcell:wr.cell? ⟨w.heap.size,(xs.getD k 0).toNat,none⟩=some (.bool false):=by
     rw[bd _ _ _ _ _ _ HS.out,sV _ _ hx64,oV,h3];simpa using hgood.2.2
    have hfr:wr.frozen? ⟨w.heap.size,(xs.getD k 0).toNat,none⟩=false:=dg _ _ _ _ _ HS.out;have HS2:Hid ((wr.setCell ⟨w.heap.size,(xs.getD k 0).toNat,none⟩ (.bool true)).heap[w.heap.size]? =some (.cells (nO (oV (xs.take (k+1)))) 124 (0,0))):=by
     rw[Hid,aO _ _ _ _ _ _ HS.out,gi _ _ hx64]
     congr 3
     funext j
     rw[DF xs k 0 (by rw[HL.out];exact hlt),oV,oV,List.contains_append,Bool.or_comm]
     congr 1
     generalize xs.getD k 0=x at h3|-;by_cases e:j=x.toNat
     .subst e;simp[h3]
     .have e2:¬(j:Int)=x:=by omega
      simp[e,e2]
    have HR2:Hid (∀j,j<k+1->0<=xs.getD j 0/\xs.getD j 0<regs/\xs.getD j 0∉xs.take j):=λj hj=>by
     by_cases e:j=k
     .subst e;exact hgood
     .exact HR.out j (by omega)
    obtain⟨g1,g2,-⟩:=hgood;clear h3;generalize xs.getD k 0=x at *;go_wp2
    go_roundw
    case rel=>exact⟨k+1,by omega,by go_num,HS2,HR2,HB.out.setCell (aw _) _⟩
    case measure=>simp[intOf];omega
   .have HE:Hid (ofB regs xs=false):=by
     rw[Hid,bU];intro hh;exact hgood ((CU regs xs).1 hh k (by rw[HL.out];exact hlt))
    have hcell:0<=xs.getD k 0->xs.getD k 0<regs->wr.cell? ⟨w.heap.size,(xs.getD k 0).toNat,none⟩=some (.bool true):=λh1 h2=>by
     rw[bd _ _ _ _ _ _ HS.out,sV _ _ (by omega)];have:xs.getD k 0∈xs.take k:=by
      by_cases hm:xs.getD k 0∈xs.take k
      .exact hm
      .exact absurd ⟨h1,h2,hm⟩ hgood
     have h3:((xs.getD k 0).toNat:Int)=xs.getD k 0:=Int.toNat_of_nonneg h1;rw[oV,h3];simpa using this
    clear hgood;generalize xs.getD k 0=x at*
    go_wp2_with (first
     |(refine ay rfl 124 _ rfl w.heap.size rfl 124 _ (0,0) _ HS.out dq rfl (by rw[gD];exact kR) ?_)
     |(refine aU rfl 124 _ _ rfl w.heap.size (nO (oV (xs.take k))) rfl rfl 124 _ HS.out (by rw[gD];exact kR) rfl (pD _) ?_))
    all_goals
     refine aD (v:=.tuple #[.agg (nO (oV (xs.take k))),.bool false]) ?_ rfl ⟨_,by rw[HE.out],(λh=>by rw[HE.out] at h;cases h),aA HB.out (aw _) _⟩;have hl:=cd (P:=Tryz.prog) (wr.setRow w.heap.size (nO (oV (xs.take k)))) w.heap.size 124 124 _ (0,0) _ (aG _ _ _ _ _ _ HS.out) dq rfl (by rw[gD];exact kR);simp[results,Tryz.results55,asAddr,hl]
  .obtain rfl:k=n:=by omega
   have HE:Hid (ofB regs xs=true):=(CU regs xs).2 (λj hj=>HR.out j (by rw[HL.out] at hj;exact hj));have HT:Hid (xs.take k=xs):=bF (by rw[HL.out];omega)
   go_wp2_with (first
    |(refine ay rfl 124 _ rfl w.heap.size rfl 124 _ (0,0) _ HS.out dq rfl (by rw[gD];exact kR) ?_)
    |(refine aU rfl 124 _ _ rfl w.heap.size (nO (oV (xs.take k))) rfl rfl 124 _ HS.out (by rw[gD];exact kR) rfl (pD _) ?_))
   refine aD (v:=.tuple #[.agg (nO (oV (xs.take k))),.bool true]) ?_ rfl ⟨_,by rw[HE.out],(λ_=>by rw[HT.out]),aA HB.out (aw _) _⟩;have hl:=cd (P:=Tryz.prog) (wr.setRow w.heap.size (nO (oV (xs.take k)))) w.heap.size 124 124 _ (0,0) _ (aG _ _ _ _ _ _ HS.out) dq rfl (by rw[gD];exact kR);simp[results,Tryz.results55,asAddr,hl]
end
end Go.Proofs.YtchdkjenhppleaaGreat
