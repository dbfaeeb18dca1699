/-
 Facts as a set:check.of;whether they are in order:check.ordered.
-/
import Derived.Test.YtchdkjenhppleaaGreatA0
import Derived.Test.YtchdkjenhppleaaGreatKD
import Derived.Test.YtchdkjenhppleaaGreatFJ
import Derived.Test.YtchdkjenhppleaaGreatFM
import Derived.Test.YtchdkjenhppleaaGreatFP
import Derived.RegionTactic
import Derived.Test.YtchdkjenhppleaaGreatMix
import Derived.Scope
namespace Go.Proofs.YtchdkjenhppleaaGreat
set_option linter.unusedSimpArgs false
set_option linter.unusedVariables false
set_option linter.unusedSectionVars false
set_option maxRecDepth 100000
set_option maxHeartbeats 40000000
section
open Go.RowKit
theorem lG{w:World}{a:Option Addr}{n:Nat}{ls:List Fct}(h:qS w a n ls){k:Nat}(hk:k<n):∃x b o,ls[k]? =some x/\a=some ⟨b,o,none⟩/\w.cell? ⟨b,o+k*3,none⟩=some (.int .i64 x.1)/\w.cell? ⟨b,o+k*3+1,none⟩=some (.bool x.2.1)/\w.cell? ⟨b,o+k*3+2,none⟩=some (.int .i64 x.2.2):=by
 have hk':k<ls.length:=by rw[h.1];exact hk
 obtain⟨x,hx⟩:∃x,ls[k]? =some x:=⟨ls[k],au hk'⟩
 obtain⟨b,o,e,hc⟩:=h.2.2 k x hx
 exact⟨x,b,o,hx,e,hc 0 (by omega),hc 1 (by omega),hc 2 (by omega)⟩
theorem rO{α:Type}{l:List α}{k:Nat}{x y:α}(h:l[k]? =some x):y∈l.take (k+1)↔y∈l.take k\/y=x:=by
 rw[bo,h]
 simp
theorem KW(a:Option Addr)(n c:Nat)(ls:List Fct)(w:World)(h:qS w a n ls):
  Calls Tryz.prog 15 #[.slice a n c] w λe w'=>∃b L,e=.returned (.map (some b))/\w.heap.size<=b/\mJ w' b L/\(∀y,y∈L↔y∈ls)/\Below w.heap.size w w':=by
 have H:=ac h
 have HL:=ac h.1
 have hn:=h.2.1
 clear h
 have hmm:= @run_makeMap Tryz.prog
 go_enter Tryz.func15,Tryz.ntmps15
 go_wp2
 go_loopw [5,9] (λ_ i wr=>∃k L,k<=n/\i=.int .i64 (k:Nat)/\Hid (mJ wr w.heap.size L)/\Hid (∀y,y∈L↔y∈ls.take k)/\Hid (Below w.heap.size w wr)) (λ_ i _=>n-(intOf i).toNat)
 case atStart=>exact⟨0,[],by omega,rfl,iM.made _ _ _ _,λy=>by simp,eC _ _⟩
 case round=>
  obtain⟨k,L,hk,rfl,HS,HM,HB⟩:=hrel;by_cases hlt:k<n
  .obtain⟨x,b,o,hx,rfl,c0,c1,c2⟩:=lG (H.out.ext fO HB.out) hlt;have HX:=ac hx;have hk1:(k:Int)<(n:Int):=by omega
   clear hx
   go_wp2_with (
    (at_mapUpdate
     refine OW rfl _ _ _ rfl VN zU (HS.out.alloc _) rfl x rfl rfl ?_;intro w2 L2 hs2 hm2 hg2 hz2;have HS2:=ac hs2;have HM2:Hid (∀y,y∈L2↔y∈ls.take (k+1)):=(λy=>by rw[hm2,HM.out,rO HX.out])
     have HB2:Hid (Below w.heap.size w w2):=(Below.grown (HB.out.trans (Below.mono (eC _ _) HB.out.size)) hg2 (by have:=HB.out.size;simp;omega) (λj e=>by injection e with e;omega))
     clear hs2 hm2 hg2 hz2))
   go_roundw
   case rel=>exact⟨k+1,L2,by omega,by go_num,HS2,HM2,HB2⟩
   case measure=>simp[intOf];omega
  .obtain rfl:k=n:=by omega
   have HE:Hid (∀y,y∈L↔y∈ls):=λy=>by rw[HM.out,<-HL.out,cg]
   go_wp2
   go_ret
   exact⟨_,L,rfl,aw _,HS.out,HE.out,HB.out⟩
def rS:List Fct->Bool
 |x :: y :: l=>ltF x y&&rS (y :: l)
 |_=>true
theorem KT:∀(l:List Fct),rS l=true↔∀k x y,l[k]? =some x->l[k+1]? =some y->ltF x y=true
 | []=>by simp[rS]
 | [x]=>by simp[rS]
 |x :: y :: l=>by
  rw[rS,az,KT (y :: l)];constructor
  .rintro⟨h1,h2⟩ k a b ha hb;cases k with
   |zero=>
    simp at ha hb;subst ha hb;exact h1
   |succ k=>exact h2 k a b (by simpa using ha) (by simpa using hb)
  .intro h;exact⟨h 0 x y rfl rfl,λk a b ha hb=>h (k+1) a b (by simpa using ha) (by simpa using hb)⟩
theorem BO(a:Option Addr)(n c:Nat)(ls:List Fct)(w:World)(h:qS w a n ls):
  Calls Tryz.prog 13 #[.slice a n c] w λe w'=>e=.returned (.bool (rS ls))/\Below w.heap.size w w':=by
 have H:=ac h
 have HL:=ac h.1
 have hn:=h.2.1
 clear h
 go_enter Tryz.func13,Tryz.ntmps13
 go_wp2
 go_loopw [2,3] (λ_ i wr=>∃k,1<=k/\i=.int .i64 (k:Nat)/\k<=n+1/\Hid (∀j x y,j+1<k->ls[j]? =some x->ls[j+1]? =some y->ltF x y=true)/\Hid (Below w.heap.size w wr)) (λ_ i _=>n+1-(intOf i).toNat)
 case atStart=>exact⟨1,by omega,rfl,by omega,λj x y hj=>by omega,ao _ _⟩
 case round=>
  obtain⟨k,hk0,rfl,hk,HM,HB⟩:=hrel;by_cases hlt:k<n
  .obtain⟨k',rfl⟩:∃k',k=k'+1:=⟨k-1,by omega⟩
   obtain⟨x,b,o,hx,rfl,c0,c1,c2⟩:=lG (H.out.ext fO HB.out) (show k'<n by omega);obtain⟨y,b',o',hy,e',d0,d1,d2⟩:=lG (H.out.ext fO HB.out) hlt;injection e' with e';injection e' with e1 e2 _;subst e1 e2;have HX:=ac hx;have HY:=ac hy;have hk1:((k':Int)+1)<(n:Int):=by omega
   have hk2:((k':Int)+1-1)=(k':Int):=by omega
   clear hx hy;have g0:∀m:eH wr,m.val.cell? ⟨b,o+k'*3,none⟩=some (.int .i64 x.1):=λm=>eH.cell c0 m;have g1:∀m:eH wr,m.val.cell? ⟨b,o+k'*3+1,none⟩=some (.bool x.2.1):=λm=>eH.cell c1 m;have g2:∀m:eH wr,m.val.cell? ⟨b,o+k'*3+2,none⟩=some (.int .i64 x.2.2):=λm=>eH.cell c2 m;have g3:∀m:eH wr,m.val.cell? ⟨b,o+(k'+1)*3,none⟩=some (.int .i64 y.1):=λm=>eH.cell d0 m;have g4:∀m:eH wr,m.val.cell? ⟨b,o+(k'+1)*3+1,none⟩=some (.bool y.2.1):=λm=>eH.cell d1 m;have g5:∀m:eH wr,m.val.cell? ⟨b,o+(k'+1)*3+2,none⟩=some (.int .i64 y.2.2):=λm=>eH.cell d2 m;have HA:Hid (∀m:eH wr,Calls Tryz.prog 31 #[sN x,sN y] m.val λe w''=>e=.returned (.bool (ltF x y))/\∃m':eH wr,w''=m'.val):=λm=>oM ((xD x y m.val).mono λe w' ⟨h1,h2⟩=>⟨h1,h2.below⟩);clear c0 c1 c2 d0 d1 d2;go_upto_region 4 with (fail)
   refine lE (by kernel_rfl) (by kernel_rfl) ?_
   repeat (go_big_quiet_step (first|(go_at_call 31;exact HA.out _)))
   refine ar ?_;rintro _ ⟨m,rfl⟩;have HB2:=ac (eA HB.out m.ext);clear g0 g1 g2 g3 g4 g5 HA;cases hxy:ltF x y with
   |true=>
    have HM2:Hid (∀j u v,j+1<k'+1+1->ls[j]? =some u->ls[j+1]? =some v->ltF u v=true):=λj u v hj hu hv=>by
     by_cases e:j=k'
     .subst e;rw[HX.out] at hu;rw[HY.out] at hv;cases hu;cases hv;exact hxy
     .exact HM.out j u v (by omega) hu hv
    clear hxy;go_wp2
    go_roundw
    case rel=>exact⟨k'+1+1,by omega,by go_num,by omega,HM2,HB2⟩
    case measure=>simp[intOf];omega
   |false=>
    have HE:Hid (rS ls=false):=by
     rw[Hid];cases h:rS ls with
     |false=>rfl
     |true=>rw[(KT ls).1 h k' x y HX.out HY.out] at hxy;cases hxy
    clear hxy;go_wp2
    go_ret
    exact⟨by rw[HE.out];rfl,HB2.out⟩
  .have HE:Hid (rS ls=true):=(KT ls).2 λj x y hx hy=>HM.out j x y (by have:=(aI.1 hy).1;rw[HL.out] at this;omega) hx hy;have hlt':¬(k:Int)<(n:Int):=by omega
   go_wp2
   go_ret
   exact⟨by rw[HE.out];rfl,HB.out⟩
end

section
open Go.RowKit
theorem lH.left{α:Type}{enc:α->Value}{dec:Value->α}{one:Value}{w:World}{b r:Nat}{L R:List α}(h:lH enc dec one w b r L R):w.rangeLeft b r=R.length:=by
 obtain⟨es,clock,since,seen,c0,h1,_,_,_,_,h6,_,_,_,rfl⟩:=h
 simp[World.rangeLeft,h1,h6]
theorem IT{w:World}{base:Nat}{e:TypeId}{size:Nat}{v:Value}{n:Nat}{xs:List Value}(h:w.ownsRow base e size v n xs){k:Nat}(hk:v.ownBlock=some k):∃cs t fr,w.heap[k]? =some (.cells cs t fr):=by
 rcases h.2 with ⟨rfl,_⟩|⟨g,cap,cur,rfl,_,hh,_⟩
 .cases hk
 .simp only[Value.ownBlock,bv] at hk;subst hk;exact⟨_,_,_,hh⟩
theorem iM.not_own{α:Type}{enc:α->Value}{dec:Value->α}{one:Value}{w:World}{b:Nat}{L:List α}(h:iM enc dec one w b L){base:Nat}{e:TypeId}{size:Nat}{v:Value}{n:Nat}{xs:List Value}(h':w.ownsRow base e size v n xs):some b≠v.ownBlock:=λc=>by
 obtain⟨cs,t,fr,hc⟩:=IT h' c.symm
 obtain⟨es,c,hb,_⟩:=h
 rw[hb] at hc
 cases hc
theorem lH.not_own{α:Type}{enc:α->Value}{dec:Value->α}{one:Value}{w:World}{b r:Nat}{L R:List α}(h:lH enc dec one w b r L R){base:Nat}{e:TypeId}{size:Nat}{v:Value}{n:Nat}{xs:List Value}(h':w.ownsRow base e size v n xs):some b≠v.ownBlock/\some r≠v.ownBlock:=by
 refine⟨h.set.not_own h',λc=>?_⟩
 obtain⟨cs,t,fr,hc⟩:=IT h' c.symm
 obtain⟨es,clock,since,seen,c0,h1,_,_,_,_,h6,_⟩:=h
 rw[h6] at hc
 cases hc
theorem oO{w w':World}{b o:Nat}(h:w'.heap[b]? =w.heap[b]?):w'.cell? ⟨b,o,none⟩=w.cell? ⟨b,o,none⟩:=by
 unfold World.cell?
 simp only[h]
theorem IE(b:Nat)(L:List Fct)(sf q:Nat)(so:Fct->Bool)(w:World)(hS:mJ w b L)(hlen:L.length<=1000000000000)(eF:∀args w,(callFunc sf args).run Tryz.prog w=.ok (.enter sf args) w)
  (hso:∀(x:Fct) (W:World),Below w.heap.size w W->Calls Tryz.prog sf #[sN x,.pointer (some ⟨q,0,none⟩)] W λe W'=>e=.returned (.bool (so x))/\Below W.heap.size W W'):
  Calls Tryz.prog 98 #[.map (some b),.func (.func sf) #[] #[.pointer (some ⟨q,0,none⟩)]] w λe w'=>∃v Out,e=.returned v/\qA w' w.heap.size v Out/\Out.Nodup/\(∀y,y∈Out↔y∈L/\so y=true)/\Below w.heap.size w w':=by
 have HS:=ac hS
 have HSO:=ac hso
 have hlt:=hS.lt
 clear hS hso
 go_enter Tryz.func98,Tryz.ntmps98
 go_wp2_with (
  (at_range
   refine vR rfl _ rfl zU HS.out rfl ?_;intro w0 hi hb hz;have HI:=ac hi;have HB:=ac hb
   clear hi hb hz))
 go_frame
 go_loopw [4,5] (λv _ wr=>∃R Out,Hid (ni wr b w.heap.size L R)/\Hid (qA wr w.heap.size v Out)/\Hid (Out.Nodup)/\Hid (∀y,y∈Out↔y∈L/\y∉R/\so y=true)/\Hid (Below w.heap.size w wr)) (λ_ _ wr=>wr.rangeLeft b w.heap.size)
 case atStart=>exact⟨L,[],HI.out,jE.nil _ _ _ _ _,List.nodup_nil,λy=>⟨λh=>absurd h (by simp),λh=>absurd h.1 h.2.1⟩,HB.out⟩
 case round=>
  obtain⟨R,Out,HIr,HO,HN,HM,HBr⟩:=hrel;have HLen:Hid (Out.length<=1000000000000):=bP (iU HN.out λx hx=>((HM.out x).1 hx).1) hlen;have HLT:=ac (lH.left HIr.out)
  go_upto_region 3 with (
   (at_next
    refine yL rfl _ rfl rfl HIr.out (λh0=>?_) (λx R' w1 hx hR' hR hi hg hz hen=>?_)))
  .subst h0;have HM2:Hid (∀y,y∈Out↔y∈L/\so y=true):=λy=>by rw[HM.out];simp
   clear HLT HLen HM HIr;go_wp2
   go_ret
   exact⟨_,Out,rfl,HO.out,HN.out,HM2.out,HBr.out⟩
  .have HX:=ac hx;have HXL:=ac (HIr.out.sub.2 _ hx);have HR':=ac hR';have HI1:=ac hi;have HO1:=ac (HO.out.kept hg (by right;exact λe=>(HIr.out.not_own HO.out.1).2 e.symm));have HB1:Hid (Below w.heap.size w w1):=HBr.out.grown hg HBr.out.size (λk e=>by injection e with e;omega);have HRL:=ac hR;clear hx hR' hi hg hz hR HO HIr HBr;obtain⟨v,s,n⟩:=x;go_wp2;refine(HSO.out (v,s,n) _ (HB1.out.trans (Below.mono (eC _ _) HB1.out.size))).mono ?_;rintro e w2 ⟨rfl,hb2⟩;have hb2':=eA (eC w1 _) hb2;have HI2:=ac (HI1.out.ext hb2');have HO2:=ac (HO1.out.ext hb2');have HB2:Hid (Below w.heap.size w w2):=HB1.out.trans (Below.mono hb2' HB1.out.size);have HV2:=ac (eB hb2 (ai w1 _));clear hb2 hb2' HI1 HO1 HB1;cases hxs:so (v,s,n) with
   |false=>
    have HM2:Hid (∀y,y∈Out↔y∈L/\y∉R'/\so y=true):=λy=>by
     rw[HM.out];constructor
     .rintro⟨h1,h2,h3⟩;exact⟨h1,λc=>h2 ((HR'.out y).1 c).1,h3⟩
     .rintro⟨h1,h2,h3⟩;refine⟨h1,λc=>h2 ((HR'.out y).2 ⟨c,λe=>?_⟩),h3⟩;rw[e,hxs] at h3;cases h3
    clear hxs HV2;go_wp2
    go_roundw
    case rel=>exact⟨R',Out,HI2,HO2,HN,HM2,HB2⟩
    case measure=>rw[lH.left HI2.out,HLT.out];exact HRL.out
   |true=>
    have hxL:(v,s,n)∈L:=HXL.out;have HM2:Hid (∀y,y∈Out++ [(v,s,n)]↔y∈L/\y∉R'/\so y=true):=λy=>by
     rw[bh,HM.out,bm];constructor
     .rintro(⟨h1,h2,h3⟩|rfl)
      .exact⟨h1,λc=>h2 ((HR'.out y).1 c).1,h3⟩
      .exact⟨hxL,λc=>((HR'.out _).1 c).2 rfl,hxs⟩
     .rintro⟨h1,h2,h3⟩;by_cases e:y=(v,s,n)
      .exact .inr e
      .exact .inl ⟨h1,λc=>h2 ((HR'.out y).2 ⟨c,e⟩),h3⟩
    have HN2:Hid ((Out++ [(v,s,n)]).Nodup):=ed.2 ⟨HN.out,by simp,λc hc c' hc' e=>by
     simp only[bm] at hc';subst hc' e
     exact((HM.out _).1 hc).2.1 HX.out⟩
    obtain⟨av,cv,rfl⟩:=HO2.out.form;obtain⟨c0,c1,c2⟩:=tY HV2.out rfl;have hl:=HLen.out;clear hxs hxL
    go_wp2_with (
     (at_builtin
      refine fN rfl w2 (.tmp 15) (.tmp 17) 32 44 rfl w.heap.size _ 3 24 cP MV rfl (by omega) (.slice av Out.length cv) Out.length _ (csF (v,s,n)) rfl HO2.out.1 w2.heap.size rfl rfl rfl (by simp[csF,Value.oneCell']) (by simp only[maxLen];omega) (by omega) HB2.out.size ?_;intro g2 cap w3 hown3 hgr3 hat3;have HI3:=ac (HI2.out.kept hgr3 (HI2.out.not_own HO2.out.1).1 (HI2.out.not_own HO2.out.1).2);have HB3:Hid (Below w.heap.size w w3):=(HB2.out.grown hgr3 HB2.out.size (λk e=>(HO2.out.low e).1))
      have HO3:Hid (qA w3 w.heap.size (.slice (some ⟨g2,0,none⟩) (Out.length+1) cap) (Out++ [(v,s,n)])):=(⟨by simpa[cB] using hown3,by simp;omega⟩)
      clear hown3 hgr3 hat3 c0 c1 c2))
    go_roundw
    case rel=>exact⟨R',_,HI3,HO3,HN2,HM2,HB3⟩
    case measure=>rw[lH.left HI3.out,HLT.out];exact HRL.out
def yK(w:World)(p:Fct->Prop)(e:Ending)(w':World):Prop:=∃v Out,e=.returned v/\qA w' w.heap.size v Out/\Out.Nodup/\(∀y,y∈Out↔p y)/\Below w.heap.size w w'
abbrev gW(p:Bool×Int):Obj:=.cells #[.bool p.1,.int .i64 p.2] 42
theorem ms(x:Fct)(p:Bool×Int)(q:Nat)(W:World)(hq:W.heap[q]? =some (gW p)):
  Calls Tryz.prog 99 #[sN x,.pointer (some ⟨q,0,none⟩)] W λe W'=>e=.returned (.bool (mY x.2 p))/\Below W.heap.size W W':=by
 obtain⟨v,s,n⟩:=x
 obtain⟨s',n'⟩:=p
 have hql:q<W.heap.size:=(am.1 hq).1
 obtain⟨c0,c1⟩:=qR hq rfl
 have he:=λw=>VD w s s' n n'
 clear hq
 go_enter Tryz.func99,Tryz.ntmps99
 go_wp2
 go_ret
 exact⟨rfl,eC _ _⟩
theorem lr(x:Fct)(v:Int)(q:Nat)(W:World)(hq:W.heap[q]? =some (.cells #[.int .i64 v] 3)):
  Calls Tryz.prog 100 #[sN x,.pointer (some ⟨q,0,none⟩)] W λe W'=>e=.returned (.bool (x.1==v))/\Below W.heap.size W W':=by
 obtain⟨a,s,n⟩:=x
 have hql:q<W.heap.size:=(am.1 hq).1
 have c0:=cK 0 hq rfl
 clear hq
 go_enter Tryz.func100,Tryz.ntmps100
 go_wp2
 go_ret
 exact⟨rfl,eC _ _⟩
theorem YK(args:Array Value)(w:World):(callFunc 99 args).run Tryz.prog w=.ok (.enter 99 args) w:=cQ Tryz.func99 (by kernel_rfl) rfl args w
theorem YI(args:Array Value)(w:World):(callFunc 100 args).run Tryz.prog w=.ok (.enter 100 args) w:=cQ Tryz.func100 (by kernel_rfl) rfl args w
theorem mr(b:Nat)(L:List Fct)(p:Bool×Int)(w:World)(hS:mJ w b L)(hlen:L.length<=1000000000000):
  Calls Tryz.prog 60 #[.map (some b),.agg #[.bool p.1,.int .i64 p.2]] w (yK w λy=>y∈L/\mY y.2 p=true):=by
 have HC:=ac (IE b L 99 w.heap.size (λy=>mY y.2 p) (w.alloc (gW p)) (hS.alloc _) hlen YK λx W hb=>ms x p w.heap.size W (by
  have:=ai w (gW p)
  exact eB hb this))
 clear hS
 obtain⟨s',n'⟩:=p
 go_enter Tryz.func60,Tryz.ntmps60
 go_wp2_with (
  (go_at_call 98
   refine HC.out.mono ?_;rintro e w2 ⟨v,Out,rfl,ho,hn,hm,hb⟩;have HO:=ac ho;have HN:=ac hn;have HM:=ac hm;have HB:=ac (eA (eC w _) hb)
   clear ho hn hm hb))
 go_ret
 exact⟨_,Out,rfl,HO.out.mono (by simp),HN.out,HM.out,HB.out⟩
theorem lq(b:Nat)(L:List Fct)(v:Int)(w:World)(hS:mJ w b L)(hlen:L.length<=1000000000000):
  Calls Tryz.prog 63 #[.map (some b),.int .i64 v] w (yK w λy=>y∈L/\(y.1==v)=true):=by
 have HC:=ac (IE b L 100 w.heap.size (λy=>y.1==v) (w.alloc (.cells #[.int .i64 v] 3)) (hS.alloc _) hlen YI λx W hb=>lr x v w.heap.size W (by
  have:=ai w (.cells #[.int .i64 v] 3)
  exact eB hb this))
 clear hS
 go_enter Tryz.func63,Tryz.ntmps63
 go_wp2_with (
  (go_at_call 98
   refine HC.out.mono ?_;rintro e w2 ⟨u,Out,rfl,ho,hn,hm,hb⟩;have HO:=ac ho;have HN:=ac hn;have HM:=ac hm;have HB:=ac (eA (eC w _) hb)
   clear ho hn hm hb))
 go_ret
 exact⟨_,Out,rfl,HO.out.mono (by simp),HN.out,HM.out,HB.out⟩
theorem FD(b:Nat)(L:List Fct)(a:Option Addr)(n c:Nat)(ls:List Fct)(w:World)(hS:mJ w b L)(h:qS w a n ls):
  Calls Tryz.prog 62 #[.map (some b),.slice a n c] w λe w'=>e=.returned (.tuple #[])/\∃L',mJ w' b L'/\(∀y,y∈L'↔y∈L/\y∉ls)/\Chg (λk=>k=b) w w':=by
 have HF:=ac h
 have HL:=ac h.1
 have hn:=h.2.1
 have hbl:=hS.lt
 have HS0:=ac hS
 clear h hS
 go_enter Tryz.func62,Tryz.ntmps62
 go_wp2
 go_loopw [5,8] (λ_ i wr=>∃k L',k<=n/\i=.int .i64 (k:Nat)/\Hid (mJ wr b L')/\Hid (∀y,y∈L'↔y∈L/\y∉ls.take k)/\Hid (Chg (λk=>k=b) w wr)) (λ_ i _=>n-(intOf i).toNat)
 case atStart=>exact⟨0,L,by omega,rfl,HS0.out,λy=>by simp,Chg.refl _ _⟩
 case round=>
  obtain⟨k,L1,hk,rfl,HS,HM,HC⟩:=hrel;by_cases hlt:k<n
  .have HF2:Hid (qS wr a n ls):=⟨HF.out.1,HF.out.2.1,λj x hx=>by
    obtain⟨g,o,e,hc⟩:=HF.out.2.2 j x hx;refine⟨g,o,e,λi hi=>?_⟩;have h1:=hc i hi;rw[<-h1];have h2:w.cell? ⟨g,o+j*3+i,none⟩=some ((csF x)[i]'(by rw[fO];exact hi)):=by rw[h1];exact au _
    refine oO (HC.out.block g (aF w _ h2) λe=>?_)
    exact HS0.out.nocell h2 e⟩
   obtain⟨x,g,o,hx,rfl,c0,c1,c2⟩:=lG HF2.out hlt;have HX:=ac hx;have hk1:(k:Int)<(n:Int):=by omega
   obtain⟨v,s,m⟩:=x;clear hx HF2
   go_wp2_with (
    (at_delete
     refine OX rfl _ _ rfl VN zU (HS.out.alloc _) rfl (v,s,m) rfl ?_;intro w2 L2 hs2 hm2 hg2 hz2;have HS2:=ac hs2;have HM2:Hid (∀y,y∈L2↔y∈L/\y∉ls.take (k+1)):=(λy=>by rw[hm2,HM.out,rO HX.out,not_or,and_assoc])
     have HC2:Hid (Chg (λk=>k=b) w w2):=((HC.out.alloc _).grown hg2 (λj e=>by injection e with e;exact .inl e.symm))
     clear hs2 hm2 hg2 hz2))
   go_roundw
   case rel=>exact⟨k+1,L2,by omega,by go_num,HS2,HM2,HC2⟩
   case measure=>simp[intOf];omega
  .obtain rfl:k=n:=by omega
   have HE:Hid (∀y,y∈L1↔y∈L/\y∉ls):=λy=>by rw[HM.out,<-HL.out,cg]
   go_wp2
   go_end0
   exact⟨rfl,L1,HS.out,HE.out,HC.out⟩
end

section
open Go.RowKit
abbrev wkO(b:Nat)(m:eY)(a1:Option Addr)(n1 c1:Nat)(a2:Option Addr)(n2 c2:Nat)(fe:Int):Obj:=.cells #[.map (some b),.int .i64 m.regs,.slice a1 n1 c1,.int .i64 m.ret,.slice a2 n2 c2,.int .i64 fe] 72
structure lT where
 V:List Int
 P:List (Bool×Int)
def lT.ok(U:lT):Prop:=U.V.length<=1000000/\U.P.length<=1000000
def lT.all(U:lT):List Fct:=U.V.flatMap λv=>U.P.map λp=>(v,p)
theorem lT.mem(U:lT)(x:Fct):x∈U.all↔x.1∈U.V/\x.2∈U.P:=by
 unfold lT.all
 rw[dj]
 constructor
 .rintro⟨v,hv,hx⟩;obtain⟨p,hp,rfl⟩:=bi.1 hx;exact⟨hv,hp⟩
 .rintro⟨h1,h2⟩;exact⟨x.1,h1,bi.2 ⟨x.2,h2,rfl⟩⟩
theorem lT.len(U:lT):U.all.length=U.V.length*U.P.length:=by
 obtain⟨V,P⟩:=U
 show(V.flatMap λv=>P.map λp=>(v,p)).length=V.length*P.length
 induction V with
 |nil=>simp
 |cons v V ih=>rw[dw,aT,ih,bR,aN,Nat.add_mul];omega
def KS(U:lT)(b:Nat)(K:Fct->Bool)(W:World):Prop:=∃L,mJ W b L/\(∀x,x∈L↔K x=true)/\∀x∈L,x.1∈U.V/\x.2∈U.P
theorem KS.len{U:lT}{b:Nat}{W:World}{L:List Fct}(hU:U.ok)(hS:mJ W b L)(hD:∀x∈L,x.1∈U.V/\x.2∈U.P):L.length<=1000000000000:=by
 have h:=iU hS.nodup (l':=U.all) λx hx=>(U.mem x).2 (hD x hx)
 rw[U.len] at h
 have:=Nat.mul_le_mul hU.1 hU.2
 omega
theorem KS.ext{U:lT}{b:Nat}{K:Fct->Bool}{W W':World}(h:KS U b K W)(hb:Below W.heap.size W W'):KS U b K W':=let ⟨L,h1,h2⟩:=h;⟨L,h1.ext hb,h2⟩
theorem KS.lt{U:lT}{b:Nat}{K:Fct->Bool}{W:World}(h:KS U b K W):b<W.heap.size:=let ⟨_,h1,_⟩:=h;h1.lt
def WS(m:eY)(a1:Option Addr)(n1 c1:Nat)(a2:Option Addr)(n2 c2:Nat)(U:lT)(g b:Nat)(K:Fct->Bool)(fe:Int)(W:World):Prop:=
 W.heap[g]? =some (wkO b m a1 n1 c1 a2 n2 c2 fe)/\KS U b K W
def WT(g b:Nat)(k:Nat):Prop:=k=g\/k=b
section
variable {m:eY} {a1:Option Addr} {n1 c1:Nat} {a2:Option Addr} {n2 c2:Nat} {U:lT} {g b:Nat} {K:Fct->Bool} {fe:Int} {W W':World}
theorem WS.ext(h:WS m a1 n1 c1 a2 n2 c2 U g b K fe W)(hb:Below W.heap.size W W'):WS m a1 n1 c1 a2 n2 c2 U g b K fe W':=⟨eB hb h.1,h.2.ext hb⟩
theorem WS.lt(h:WS m a1 n1 c1 a2 n2 c2 U g b K fe W):g<W.heap.size/\b<W.heap.size/\b≠g:=by
 refine⟨(am.1 h.1).1,h.2.lt,λe=>?_⟩
 obtain⟨h1,L,⟨es,c,hb,_⟩,_⟩:=h
 rw[e,h1] at hb
 cases hb
theorem WS.cells(h:WS m a1 n1 c1 a2 n2 c2 U g b K fe W):W.cell? ⟨g,0,none⟩=some (.map (some b))/\W.cell? ⟨g,1,none⟩=some (.int .i64 m.regs)/\W.cell? ⟨g,2,none⟩=some (.slice a1 n1 c1)/\W.cell? ⟨g,3,none⟩=some (.int .i64 m.ret)/\W.cell? ⟨g,4,none⟩=some (.slice a2 n2 c2)/\W.cell? ⟨g,5,none⟩=some (.int .i64 fe):=by
 refine⟨?_,?_,?_,?_,?_,?_⟩<;>(rw[bd _ _ _ _ _ _ h.1];rfl)
end
def rU(fe e:Int):Int:=if fe=0 then e else fe
theorem JP(m:eY)(a1 a2:Option Addr)(n1 c1 n2 c2:Nat)(U:lT)(g b:Nat)(K:Fct->Bool)(fe x:Int)(W:World)(h:WS m a1 n1 c1 a2 n2 c2 U g b K fe W):
  Calls Tryz.prog 61 #[.pointer (some ⟨g,0,none⟩),.int .i64 x] W λe W'=>e=.returned (.tuple #[])/\WS m a1 n1 c1 a2 n2 c2 U g b K (rU fe x) W'/\Chg (WT g b) W W':=by
 obtain⟨c0,_,_,_,_,c5⟩:=h.cells
 have hf5:=fK 5 h.1
 have hgl:=h.lt.1
 have HW:=ac h
 clear h
 by_cases h0:fe=0
 .have HE:Hid (rU fe x=x):=by rw[Hid,rU,aX h0]
  subst h0
  go_enter Tryz.func61,Tryz.ntmps61
  go_wp2
  go_end0
  have hB2:=aO W g 5 _ _ (.int .i64 x) HW.out.1;refine⟨rfl,⟨?_,?_⟩,(Chg.refl _ _).setCell (.inl (.inl rfl)) _⟩
  .rw[HE.out];exact hB2
  .obtain⟨L,h1,h2⟩:=HW.out.2;exact⟨L,h1.setCell _ _,h2⟩
 .have HE:Hid (rU fe x=fe):=by rw[Hid,rU,aC h0]
  have h1:(fe==0)=false:=by simpa using h0
  go_enter Tryz.func61,Tryz.ntmps61
  go_wp2
  go_end0
  exact⟨rfl,by rw[HE.out];exact HW.out,Chg.refl _ _⟩
def oX(K:Fct->Bool)(x:Fct)(fe e:Int):Int:=if K x=true then fe else rU fe e
theorem yB(m:eY)(a1 a2:Option Addr)(n1 c1 n2 c2:Nat)(U:lT)(g b:Nat)(K:Fct->Bool)(fe x:Int)(v:Int)(p:Bool×Int)(W:World)(h:WS m a1 n1 c1 a2 n2 c2 U g b K fe W):
  Calls Tryz.prog 65 #[.pointer (some ⟨g,0,none⟩),.int .i64 v,.agg #[.bool p.1,.int .i64 p.2],.int .i64 x] W λe W'=>e=.returned (.tuple #[])/\WS m a1 n1 c1 a2 n2 c2 U g b K (oX K (v,p) fe x) W'/\Chg (WT g b) W W':=by
 obtain⟨s,n⟩:=p
 have h1:WS m a1 n1 c1 a2 n2 c2 U g b K fe (W.alloc (gW (s,n))):=h.ext (eC _ _)
 obtain⟨c0,_,_,_,_,_⟩:=h1.cells
 have hgl:=h.lt.1
 have hbl:=h.lt.2.1
 have hlk:∀q,(Instr.lookup 68 (.map (some b)) (sN (v,s,n)) false).run Tryz.prog ((W.alloc (gW (s,n))).drewN q)=.ok (.int .i64 (if K (v,s,n)=true then 1 else 0)) ((W.alloc (gW (s,n))).drewN q):=λq=>by
  obtain⟨L,hS,hm,_⟩:=h1.2;have:=iM.look (w:=(W.alloc (gW (s,n))).drewN q) hS VN zU (Tryz.zeroValue3 _) (v,s,n);rw[this];by_cases hk:K (v,s,n)=true
  .rw[aX hk,aX ((hm _).2 hk)]
  .rw[aC hk,aC (λc=>hk ((hm _).1 c))]
 have HW:=ac h1
 clear h h1
 by_cases hk:K (v,s,n)=true
 .have HE:Hid (oX K (v,s,n) fe x=fe):=by rw[Hid,oX,aX hk]
  rw[aX hk] at hlk;clear hk
  go_enter Tryz.func65,Tryz.ntmps65
  go_wp2
  go_quiet (fail)
  go_wp2
  go_end0
  exact⟨rfl,by rw[HE.out];exact HW.out,(Chg.refl _ _).of_ext (eS (eC _ _) _)⟩
 .have HE:Hid (oX K (v,s,n) fe x=rU fe x):=by rw[Hid,oX,aC hk]
  rw[aC hk] at hlk;clear hk
  go_enter Tryz.func65,Tryz.ntmps65
  go_wp2
  go_quiet (fail)
  go_wp2_with (
   (go_at_call 61
    refine(JP m a1 a2 n1 c1 n2 c2 U g b K fe x ((W.alloc (gW (s,n))).drewN nq) HW.out).mono ?_;rintro e w2 ⟨rfl,hs,hc⟩;have HS2:=ac hs;have HC2:=ac hc
    clear hs hc))
  go_end0
  exact⟨rfl,by rw[HE.out];exact HS2.out,((Chg.refl _ _).of_ext (eS (eC _ _) _)).trans HC2.out⟩
end

section
open Go.RowKit
inductive EvD where
 |copied (dst a:Int)
 |inserted (f t:Bool×Int)
 |done (s t:fW) (lost:Bool)
 |ended
end

section
def qd(r:Int×(Int×Bool×Int))(K:Int×Bool×Int->Bool):Bool:=if r.1=3 then K r.2 else decide (r.1=1)
end

section
open Go.RowKit
theorem KS.congr{U:lT}{b:Nat}{K K':Fct->Bool}{W:World}(h:KS U b K W)(e:∀x,K' x=K x):KS U b K' W:=let ⟨L,h1,h2,h3⟩:=h;⟨L,h1,λx=>by rw[e];exact h2 x,h3⟩
theorem WS.congr{m:eY}{a1:Option Addr}{n1 c1:Nat}{a2:Option Addr}{n2 c2:Nat}{U:lT}{g b:Nat}{K K':Fct->Bool}{fe:Int}{W:World}(h:WS m a1 n1 c1 a2 n2 c2 U g b K fe W)(e:∀x,K' x=K x):WS m a1 n1 c1 a2 n2 c2 U g b K' fe W:=⟨h.1,h.2.congr e⟩
def sO(K:Fct->Bool)(l:List Fct):Fct->Bool:=λy=>K y&& !decide (y∈l)
def DE(K:Fct->Bool)(l:List Fct)(h:Fct->Fct):Fct->Bool:=λy=>K y||l.any λf=>decide (y=h f)
theorem OT(K:Fct->Bool)(h:Fct->Fct):DE K [] h=K:=by funext y;simp[DE]
theorem JZ(K:Fct->Bool)(l:List Fct)(h:Fct->Fct)(x:Fct)(y:Fct):DE K (l++ [x]) h y=true↔DE K l h y=true\/y=h x:=by
 simp[DE,or_assoc]
section
variable {m:eY} {a1:Option Addr} {n1 c1:Nat} {a2:Option Addr} {n2 c2:Nat} {U:lT} {g b:Nat} {K:Fct->Bool} {fe:Int} {W W':World}
theorem WS.put(h:WS m a1 n1 c1 a2 n2 c2 U g b K fe W){L L':List Fct}{K':Fct->Bool}{x:Fct}(hm:∀y,y∈L↔K y=true)(hd:∀y∈L,y.1∈U.V/\y.2∈U.P)(hs:mJ W' b L')(hm':∀y,y∈L'↔y∈L\/y=x)(hx:x.1∈U.V/\x.2∈U.P)(hg:W.grownBy W' (some b))(hK:∀y,K' y=true↔K y=true\/y=x):WS m a1 n1 c1 a2 n2 c2 U g b K' fe W':=by
 have hl:=h.lt
 refine⟨(hg.block g hl.1 (λe=>by injection e with e;exact hl.2.2 e.symm)).trans h.1,L',hs,λy=>by rw[hm',hm,hK],λy hy=>?_⟩
 rcases(hm' y).1 hy with h1|rfl
 .exact hd y h1
 .exact hx
theorem rZ{S:Nat->Prop}{w w':World}{a:Option Addr}{n:Nat}{ls:List Fct}(h:qS w a n ls)(hc:Chg S w w')(hn:∀g o,a=some ⟨g,o,none⟩->¬S g):qS w' a n ls:=
 ⟨h.1,h.2.1,λj x hx=>by
  obtain⟨g,o,e,hcell⟩:=h.2.2 j x hx;refine⟨g,o,e,λi hi=>?_⟩;have h1:=hcell i hi;rw[<-h1];have h2:w.cell? ⟨g,o+j*3+i,none⟩=some ((csF x)[i]'(by rw[fO];exact hi)):=by rw[h1];exact au _
  exact oO (hc.block g (aF w _ h2) (hn g o e))⟩
end
theorem CY(m:eY)(a1 a2:Option Addr)(n1 c1 n2 c2:Nat)(U:lT)(hU:U.ok)(g b:Nat)(K:Fct->Bool)(fe:Int)(p:Bool×Int)(W:World)(h:WS m a1 n1 c1 a2 n2 c2 U g b K fe W):
  Calls Tryz.prog 60 #[.map (some b),.agg #[.bool p.1,.int .i64 p.2]] W (yK W λy=>K y=true/\mY y.2 p=true):=by
 obtain⟨h1,L,hS,hm,hD⟩:=h
 refine(mr b L p W hS (KS.len hU hS hD)).mono ?_
 rintro e w' ⟨v,Out,h1,h2,h3,h4,h5⟩
 exact⟨v,Out,h1,h2,h3,λy=>(h4 y).trans (and_congr_left λ_=>hm y),h5⟩
theorem KV(m:eY)(a1 a2:Option Addr)(n1 c1 n2 c2:Nat)(U:lT)(hU:U.ok)(g b:Nat)(K:Fct->Bool)(fe:Int)(v:Int)(W:World)(h:WS m a1 n1 c1 a2 n2 c2 U g b K fe W):
  Calls Tryz.prog 63 #[.map (some b),.int .i64 v] W (yK W λy=>K y=true/\(y.1==v)=true):=by
 obtain⟨h1,L,hS,hm,hD⟩:=h
 refine(lq b L v W hS (KS.len hU hS hD)).mono ?_
 rintro e w' ⟨v,Out,h1,h2,h3,h4,h5⟩
 exact⟨v,Out,h1,h2,h3,λy=>(h4 y).trans (and_congr_left λ_=>hm y),h5⟩
theorem pI(m:eY)(a1 a2:Option Addr)(n1 c1 n2 c2:Nat)(U:lT)(g b:Nat)(K:Fct->Bool)(fe:Int)(a:Option Addr)(n c:Nat)(ls:List Fct)(W:World)(h:WS m a1 n1 c1 a2 n2 c2 U g b K fe W)(hl:qS W a n ls):
  Calls Tryz.prog 62 #[.map (some b),.slice a n c] W λe W'=>e=.returned (.tuple #[])/\WS m a1 n1 c1 a2 n2 c2 U g b (sO K ls) fe W'/\Chg (λk=>k=b) W W':=by
 have hlt:=h.lt
 obtain⟨h1,L,hS,hm,hD⟩:=h
 refine(FD b L a n c ls W hS hl).mono ?_
 rintro e w' ⟨h2,L',h3,h4,h5⟩
 refine⟨h2,⟨(h5.block g hlt.1 (λe=>hlt.2.2 e.symm)).trans h1,L',h3,λx=>?_,λx hx=>hD x ((h4 x).1 hx).1⟩,h5⟩
 rw[h4,hm]
 simp[sO]
theorem AR{W:World}{q:Nat}{r:fW}(h:W.heap[q]? =some (kY r.d r.aa r.na r.ca)):W.cell? ⟨q,0,none⟩=some (.int .i64 r.d.op)/\W.cell? ⟨q,1,none⟩=some (.int .i64 r.d.dst)/\W.cell? ⟨q,2,none⟩=some (.int .i64 r.d.a):=by
 refine⟨?_,?_,?_⟩<;>(rw[bd _ _ _ _ _ _ h];rfl)
def wE(dst a:Int)(K:Fct->Bool):Fct->Bool:=λx=>if x.1=dst then K (a,x.2) else K x
theorem TN(m:eY)(a1 a2:Option Addr)(n1 c1 n2 c2:Nat)(U:lT)(hU:U.ok)(g b:Nat)(K:Fct->Bool)(fe:Int)(r:fW)(w:World)(hw:WS m a1 n1 c1 a2 n2 c2 U g b K fe w)(hV:r.d.dst∈U.V):
  Calls Tryz.prog 35 #[.pointer (some ⟨g,0,none⟩),qB r] w λe w'=>e=.returned (.tuple #[])/\WS m a1 n1 c1 a2 n2 c2 U g b (wE r.d.dst r.d.a K) fe w'/\Chg (WT g b) w w':=by
 obtain⟨⟨op,dst,a,bb,imm,callee,args,many⟩,aa,na,ca⟩:=r
 have hlt:=hw.lt
 go_enter Tryz.func35,Tryz.ntmps35
 go_upto_region 1 with (fail)
 obtain⟨W,hW⟩:∃W,W=w.alloc (kY ⟨op,dst,a,bb,imm,callee,args,many⟩ aa na ca):=⟨_,rfl⟩
 have hr1:W.heap[w.heap.size]? =some (kY ⟨op,dst,a,bb,imm,callee,args,many⟩ aa na ca):=by rw[hW];exact ai _ _
 have hB:Below w.heap.size w W:=by rw[hW];exact eC _ _
 have hsz:W.heap.size=w.heap.size+1:=by rw[hW];simp
 rw[show w.alloc (Obj.cells #[.int .i64 op,.int .i64 dst,.int .i64 a,.int .i64 bb,.int .i64 imm,.int .i64 callee,.slice aa na ca,.int .i64 many] 62)=W from hW.symm]
 have HI:=ac hr1
 have HB:=ac hB
 have HSZ:=ac hsz
 have HW:=ac (hw.ext hB)
 clear hW hr1 hB hsz hw
 obtain⟨i0,i1,i2⟩:=AR (r:=⟨⟨op,dst,a,bb,imm,callee,args,many⟩,aa,na,ca⟩) HI.out
 simp only at i0 i1 i2 hV|-
 have hil:w.heap.size<W.heap.size:=by rw[HSZ.out];omega
 by_cases hda:dst=a
 .subst hda;go_wp2;refine aD (results_none rfl _ _ _) rfl ?_;refine⟨rfl,HW.out.congr λx=>?_,(Chg.refl _ _).of_ext HB.out⟩;unfold wE
  split
  .rename_i h;rw[<-h]
  .rfl
 .have hda':(dst==a)=false:=by simpa using hda
  have HDA:=ac hda;clear hda;go_upto_region 2 with (fail)
  have hne:Nonempty (eH W):=⟨⟨W,ao _ _⟩⟩
  have g0:∀n:eH W,n.val.cell? ⟨g,0,none⟩=some (.map (some b)):=λn=>eH.cell HW.out.cells.1 n;have g1:∀n:eH W,n.val.cell? ⟨w.heap.size,1,none⟩=some (.int .i64 dst):=λn=>eH.cell i1 n;have g2:∀n:eH W,n.val.cell? ⟨w.heap.size,2,none⟩=some (.int .i64 a):=λn=>eH.cell i2 n;clear i0 i1 i2;refine gJ (λw'=>∃n':eH W,w'=n'.val) [(0,6,some (6,true)),(7,1,none)] (by kernel_rfl) (by kernel_rfl) ⟨⟨_,eS (ao _ _) 1⟩,rfl⟩ ?_;simp only[lR,ak,aq,aj,ap]
  repeat (go_big_quiet_step (fail))
  refine ar ?_;refine eE rfl rfl ?_;go_simp;refine(KV m a1 a2 n1 c1 n2 c2 U hU g b K fe a W.drew HW.out).mono ?_;rintro e w2 ⟨vl,Out,rfl,ho,hn,hm,hb2⟩;have hb2:Below W.heap.size W w2:=jV hb2;refine⟨⟨⟨w2,hb2⟩,rfl⟩,?_⟩;obtain⟨av,cv,rfl⟩:=ho.form;have HO:=ac (show qA w2 W.heap.size (.slice av Out.length cv) Out from ho);have HM:=ac hm;have HW2:=ac (HW.out.ext hb2);have HB2:=ac hb2;have HLen:Hid (Out.length<=1000000000000):=by
   obtain⟨L,hS,hm',hD⟩:=HW.out.2;exact bP (iU hn λx hx=>(hm' x).2 ((hm x).1 hx).1) (KS.len hU hS hD)
  clear ho hm hn hb2
  try simp only[Act.put,ae,ah,ag]
  repeat (go_big_quiet_step (fail))
  refine ar ?_;refine bQ ?_;clear g0 g1 g2 hne;go_upto_region 3 with (fail)
  have hne:Nonempty (eH w2):=⟨⟨w2,ao _ _⟩⟩
  obtain⟨i0,i1,i2⟩:=AR (r:=⟨⟨op,dst,a,bb,imm,callee,args,many⟩,aa,na,ca⟩) (eB HB2.out HI.out);simp only at i0 i1 i2;have g0:∀n:eH w2,n.val.cell? ⟨g,0,none⟩=some (.map (some b)):=λn=>eH.cell HW2.out.cells.1 n;have g1:∀n:eH w2,n.val.cell? ⟨w.heap.size,1,none⟩=some (.int .i64 dst):=λn=>eH.cell i1 n;clear i0 i1 i2;refine gJ (λw'=>∃n':eH w2,w'=n'.val) [(0,10,some (10,true)),(11,0,some (11,false))] (by kernel_rfl) (by kernel_rfl) ⟨⟨_,eS (ao _ _) 1⟩,rfl⟩ ?_;simp only[lR,ak,aq,aj,ap]
  repeat (go_big_quiet_step (fail))
  refine ar ?_;refine eE rfl rfl ?_;go_simp;refine(KV m a1 a2 n1 c1 n2 c2 U hU g b K fe dst w2.drew HW2.out).mono ?_;rintro e w3 ⟨vl3,Out3,rfl,ho3,hn3,hm3,hb3⟩;have hb3:Below w2.heap.size w2 w3:=jV hb3;refine⟨⟨⟨w3,hb3⟩,rfl⟩,?_⟩;obtain⟨av3,cv3,rfl⟩:=ho3.form;refine ar ?_;refine eE rfl rfl ?_;go_simp;refine(pI m a1 a2 n1 c1 n2 c2 U g b K fe av3 _ cv3 Out3 w3 (HW2.out.ext hb3) (ho3.recs fO)).mono ?_;rintro e w4 ⟨rfl,hs4,hc4⟩;have HK4:Hid (WS m a1 n1 c1 a2 n2 c2 U g b (sO K Out3) fe w4):=hs4;have HC4:Hid (Chg (λk=>k=b) w3 w4):=hc4;have HM3:=ac hm3;have HB3:=ac hb3;have hi4:w4.heap[w.heap.size]? =some (kY ⟨op,dst,a,bb,imm,callee,args,many⟩ aa na ca):=by
   have h3:=eB hb3 (eB HB2.out HI.out);exact(hc4.block _ (am.1 h3).1 (by omega)).trans h3
  have HI4:=ac hi4;have hf4:qS w4 av Out.length Out:=rZ ((HO.out.recs fO).ext fO hb3) hc4 λq o e=>by
   have h1:=(HO.out.low (k:=q) (by rw[e];rfl)).1;have h2:=HW.out.lt.2.1;omega
  have HF4:=ac hf4;have HOB:Hid (∀q o,av=some ⟨q,o,none⟩->q≠b):=λq o e=>by
   have h1:=(HO.out.low (k:=q) (by rw[e];rfl)).1;have h2:=HW.out.lt.2.1;omega
  have HCw:Hid (Chg (WT g b) w w4):=((Chg.refl (WT g b) w).of_ext (eA (eA HB.out HB2.out) hb3)).trans (hc4.mono λk hk=>.inr hk);have hk4:=HK4.out.lt;have hfr:∀y:Fct,y∈Out3↔K y=true/\(y.1==dst)=true:=hm3;clear ho3 hn3 hm3 hb3 hs4 hc4 hi4 hf4 g0 g1 hne;refine bQ ?_;have hn:=HLen.out;have HFR:=ac hfr;clear hfr;go_wp2
  go_loopw [6,33] (λ_ i wr=>∃k,k<=Out.length/\i=.int .i64 (k:Nat)/\Hid (WS m a1 n1 c1 a2 n2 c2 U g b (DE (sO K Out3) (Out.take k) λf=>(dst,f.2)) fe wr)/\Hid (Chg (WT g b) w4 wr)) (λ_ i _=>Out.length-(intOf i).toNat)
  case atStart=>exact⟨0,by omega,rfl,by rw[Hid,aq,OT];exact HK4.out,Chg.refl _ _⟩
  case round=>
   obtain⟨k,hk,rfl,HKr,HCr⟩:=hrel;have HNG:Hid (∀q o,av=some ⟨q,o,none⟩->¬WT g b q):=λq o e h=>by
    rcases h with h|h
    .obtain⟨r',hr'⟩:∃r',r'=q:=⟨_,rfl⟩
     have h1:=(HO.out.low (k:=q) (by rw[e];rfl)).1;have h2:=HW.out.lt.1;omega
    .exact HOB.out q o e h
   by_cases hkl:k<Out.length
   .obtain⟨x,q,o,hx,rfl,c0,c1,c2⟩:=lG (rZ HF4.out HCr.out HNG.out) hkl;have HX:=ac hx;have hk1:(k:Int)<(Out.length:Int):=by omega
    have hxm:K x=true:=((HM.out x).1 (aK hx)).1;have HXM:=ac hxm;have hir:=(HCr.out.block w.heap.size (am.1 HI4.out).1 (λh=>by rcases h with h|h<;>omega)).trans HI4.out;have HIR:=ac hir;clear hx hxm hir;obtain⟨xv,xs,xn⟩:=x;go_upto_region 7 with (fail)
    obtain⟨w5,hw5⟩:∃w5,w5=wr.alloc (nC xv xs xn):=⟨_,rfl⟩
    rw[show wr.alloc (Obj.cells #[.int .i64 xv,.bool xs,.int .i64 xn] 44)=w5 from hw5.symm];have hb5:Below wr.heap.size wr w5:=by rw[hw5];exact eC _ _
    have hx5:w5.heap[wr.heap.size]? =some (nC xv xs xn):=by rw[hw5];exact ai _ _
    clear hw5 c0 c1 c2;have HK5:=ac (HKr.out.ext hb5);have HC5:=ac (HCr.out.of_ext hb5);have hi5:=eB hb5 HIR.out;obtain⟨i0,i1,i2⟩:=AR (r:=⟨⟨op,dst,a,bb,imm,callee,args,many⟩,aa,na,ca⟩) hi5;simp only at i0 i1 i2;obtain⟨-,x1,x2⟩:=tY hx5 rfl;have hne:Nonempty (eH w5):=⟨⟨w5,ao _ _⟩⟩
    have g0:∀n:eH w5,n.val.cell? ⟨g,0,none⟩=some (.map (some b)):=λn=>eH.cell HK5.out.cells.1 n;have g1:∀n:eH w5,n.val.cell? ⟨w.heap.size,1,none⟩=some (.int .i64 dst):=λn=>eH.cell i1 n;have g2:∀n:eH w5,n.val.cell? ⟨wr.heap.size,1,none⟩=some (.bool xs):=λn=>eH.cell x1 n;have g3:∀n:eH w5,n.val.cell? ⟨wr.heap.size,2,none⟩=some (.int .i64 xn):=λn=>eH.cell x2 n;clear i0 i1 i2 x1 x2 hx5 hb5 hi5;refine gJ (λw'=>∃n':eH w5,w'=n'.val) [(0,9,some (9,false))] (by kernel_rfl) (by kernel_rfl) ⟨⟨_,eS (ao _ _) 1⟩,rfl⟩ ?_;simp only[lR,ak,aq,aj,ap]
    repeat (go_big_quiet_step (fail))
    refine ar ?_;refine eE rfl rfl ?_;obtain⟨_,L,hS,hm,hD⟩:=HK5.out;refine KU _ _ _ rfl VN zU (show mJ w5.drew b L from hS) rfl (dst,xs,xn) rfl rfl ?_;intro w6 L6 hs6 hm6 hg6 hz6;have hg6:w5.grownBy w6 (some b):=⟨hg6.os,hg6.tape,hg6.output,hg6.size,hg6.block⟩
    have HK6:Hid (WS m a1 n1 c1 a2 n2 c2 U g b (DE (sO K Out3) (Out.take (k+1)) λf=>(dst,f.2)) fe w6):=by
     have hxU:(xs,xn)∈U.P:=by
      obtain⟨_,L0,_,hm0,hD0⟩:=HW.out;exact(hD0 _ ((hm0 _).2 HXM.out)).2
     refine HK5.out.put hm hD hs6 hm6 ⟨hV,hxU⟩ hg6 λy=>?_;have e:Out.take (k+1)=Out.take k++ [(xv,xs,xn)]:=by rw[bo,HX.out];rfl
     rw[e,JZ]
    have HC6:Hid (Chg (WT g b) w4 w6):=HC5.out.grown hg6 λj e=>by injection e with e;exact .inl (.inr e.symm)
    clear hS hm hD hs6 hm6 hg6 hz6 g0 g1 g2 g3
    try simp only[Act.put,ae,ah,ag]
    refine bQ ?_;go_wp2
    go_roundw
    case rel=>exact⟨k+1,by omega,by go_num,HK6,HC6⟩
    case measure=>simp[intOf];omega
   .obtain rfl:k=Out.length:=by omega
    go_wp2
    go_end0
    refine⟨rfl,HKr.out.congr λy=>?_,HCw.out.trans ⟨HCr.out.os,HCr.out.tape,HCr.out.output,HCr.out.size,HCr.out.block⟩⟩;rw[cg,cp];unfold wE DE sO;simp only[bZ,az,cm,bA,List.any_eq_true,aR];constructor
    .intro h;by_cases hy:y.1=dst
     .rw[aX hy] at h;refine .inr ⟨(a,y.2),(HM.out _).2 ⟨h,by simp⟩,?_⟩;rw[<-hy]
     .rw[aC hy] at h;refine .inl ⟨h,λc=>hy ?_⟩;simpa using ((HFR.out y).1 c).2
    .rintro(⟨h1,h2⟩|⟨f,hf,rfl⟩)
     .by_cases hy:y.1=dst
      .exact absurd ((HFR.out y).2 ⟨h1,by simpa using hy⟩) h2
      .rw[aC hy];exact h1
     .have h1:=(HM.out f).1 hf;have h2:f.1=a:=by simpa using h1.2
      rw[aX rfl,<-h2];exact h1.1
end
end Go.Proofs.YtchdkjenhppleaaGreat
