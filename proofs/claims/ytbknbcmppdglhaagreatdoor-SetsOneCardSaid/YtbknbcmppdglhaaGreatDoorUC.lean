/-
 Slices of slices of ints that a call makes:what lies where while they grow.
-/
import Derived.Test.YtbknbcmppdglhaaGreatDoorA0
import Derived.Test.YtbknbcmppdglhaaGreatDoorUD
import Derived.Test.YtbknbcmppdglhaaGreatDoorSC
import Derived.Test.YtbknbcmppdglhaaGreatDoorUH
import Derived.Test.YtbknbcmppdglhaaGreatDoorQT
import Derived.Test.YtbknbcmppdglhaaGreatDoorOwnR
import Derived.Test.YtbknbcmppdglhaaGreatDoorTH
import Derived.Test.YtbknbcmppdglhaaGreatDoorER
import Derived.Deep.Onto
import Derived.Test.YtbknbcmppdglhaaGreatDoorSA
import Derived.Test.YtbknbcmppdglhaaGreatDoorEE
import Derived.Test.YtbknbcmppdglhaaGreatDoorSortI
import Derived.Outline
import Derived.Deep.Light
import Derived.Test.YtbknbcmppdglhaaGreatDoorPB
import Derived.Deep.DeepCutAuto
import Derived.Deep.CutBlock
import Derived.BigQuiet
import Derived.Test.YtbknbcmppdglhaaGreatDoorTK
namespace Go.Proofs.YtbknbcmppdglhaaGreatDoor
set_option linter.unusedSimpArgs false
set_option linter.unusedVariables false
set_option linter.unusedSectionVars false
set_option maxRecDepth 100000
set_option maxHeartbeats 40000000
section
open Go.RowKit
def gW(W:World)(e:TypeId)(q:Nat):Prop:=∀cs f,W.heap[q]?≠some (.cells cs e f)
theorem gW.of{W:World}{e t:TypeId}{q:Nat}{cs:Array Value}{f:Nat×Nat}(h:W.heap[q]? =some (.cells cs t f))(hne:t≠e):gW W e q:=λcs' f' hx=>by
 rw[h] at hx
 cases hx
 exact hne rfl
theorem qT{w:World}{base:Nat}{e:TypeId}{size:Nat}{v:Value}{n q:Nat}{xs:List Value}(h:w.ownsRow base e size v n xs)(hq:gW w e q):v.ownBlock≠some q:=by
 intro hv
 rcases h.2 with ⟨rfl,_⟩|⟨g,cap,cur,rfl,_,hg,_⟩
 .cases hv
 .simp only[Value.ownBlock,aW] at hv;subst hv;exact hq _ _ hg
theorem GJ{W W':World}{base:Nat}{e:TypeId}{size:Nat}{v:Value}{n:Nat}{xs:List Value}{row:Option Nat}(h:W.ownsRow base e size v n xs)(hg:W.grownBy W' row)(hr:∀q,row=some q->gW W e q):W'.ownsRow base e size v n xs:=by
 refine h.kept hg ?_
 cases hv:v.ownBlock with
 |none=>exact .inl rfl
 |some q=>exact .inr λe=>qT h (hr q e.symm) hv
theorem gD.keptT{W W':World}{base:Nat}{v:Value}{xs:List Int}{row:Option Nat}(h:gD W base v xs)(hg:W.grownBy W' row)(hr:∀q,row=some q->gW W 3 q):gD W' base v xs:=⟨GJ h.1 hg hr,h.2⟩
theorem EH{W:World}{base:Nat}{e:TypeId}{size:Nat}{v:Value}{n q:Nat}{xs:List Value}(h:W.ownsRow base e size v n xs)(hv:v.ownBlock=some q):∃cs f,W.heap[q]? =some (.cells cs e f):=by
 rcases h.2 with ⟨rfl,_⟩|⟨g,cap,cur,rfl,_,hg,_⟩
 .cases hv
 .simp only[Value.ownBlock,aW] at hv;subst hv;exact⟨_,_,hg⟩
def kZ(W:World)(B:Nat)(v:Value)(xs:List (List Int)):Prop:=
 ∃us:List Value,us.length=xs.length/\W.ownsRow B 22 1 v us.length us/\(∀u∈us,u.oneCell'=true)/\∀(j:Nat) (u:Value) (x:List Int),us[j]? =some u->xs[j]? =some x->gD W B u x
section
variable {W W':World} {B:Nat} {v:Value} {xs:List (List Int)} {row:Option Nat}
theorem kZ.nil(W:World)(B:Nat):kZ W B (.slice none 0 0) []:=⟨[],rfl,ft _ _ _ _,λu h=>(by cases h),λj u x h=>by simp at h⟩
theorem kZ.kept(h:kZ W B v xs)(hg:W.grownBy W' row)(hne:v.ownBlock=none\/v.ownBlock≠row)(hr:∀q,row=some q->gW W 3 q):kZ W' B v xs:=
 let ⟨us,h1,h2,h3,h4⟩:=h
 ⟨us,h1,h2.kept hg hne,h3,λj u x hu hx=>(h4 j u x hu hx).keptT hg hr⟩
theorem gD.chgT{S:Nat->Prop}{u:Value}{ys:List Int}(h:gD W B u ys)(hc:Chg S W W')(ht:∀q,S q->gW W 3 q):gD W' B u ys:=⟨iL h.1 hc λq e hS=>qT h.1 (ht q hS) e,h.2⟩
theorem kZ.chg{S:Nat->Prop}(h:kZ W B v xs)(hc:Chg S W W')(hv:∀q,v.ownBlock=some q->¬S q)(ht:∀q,S q->gW W 3 q):kZ W' B v xs:=
 let ⟨us,h1,h2,h3,h4⟩:=h
 ⟨us,h1,iL h2 hc hv,h3,λj u x hu hx=>(h4 j u x hu hx).chgT hc ht⟩
theorem kZ.lt(h:kZ W B v xs){q:Nat}(hq:v.ownBlock=some q):B<=q/\q<W.heap.size/\∃cs f,W.heap[q]? =some (.cells cs 22 f):=
 let ⟨us,_,h2,_⟩:=h
 ⟨(h2.lt q hq).1,(h2.lt q hq).2,EH h2 hq⟩
theorem kZ.form(h:kZ W B v xs):∃a c,v=.slice a xs.length c:=by
 obtain⟨us,h1,h2,_⟩:=h
 rcases h2.2 with ⟨rfl,h0⟩|⟨g,cap,cur,rfl,_⟩
 .exact⟨none,0,by rw[<-h1,h0]⟩
 .exact⟨_,cap,by rw[h1]⟩
theorem kZ.own(h:kZ W B v xs):∃us:List Value,us.length=xs.length/\W.ownsRow B 22 1 v xs.length us/\(∀q,v.ownBlock=some q->gW W 3 q)/\
  ∀(W':World) (g cap:Nat) (u:Value) (x:List Int),W'.ownsRow B 22 1 (.slice (some ⟨g,0,none⟩) (xs.length+1) cap) (xs.length+1) (us++ [u])->W.grownBy W' v.ownBlock->u.oneCell'=true->gD W' B u x->kZ W' B (.slice (some ⟨g,0,none⟩) (xs.length+1) cap) (xs++ [x]):=by
 obtain⟨us,h1,h2,h3,h4⟩:=h
 have ht:∀q,v.ownBlock=some q->gW W 3 q:=λq hq=>let ⟨cs,f,e⟩:=EH h2 hq;gW.of e (by decide)
 refine⟨us,h1,by rw[<-h1];exact h2,ht,λW' g cap u x hw hg hu hx=>⟨us++ [u],by simp[h1],?_,?_,λj u' x' hju hjx=>?_⟩⟩
 .rw[bf,h1];exact hw
 .intro u' hu';rcases ax.1 hu' with h|h
  .exact h3 u' h
  .rw[bz] at h;rw[h];exact hu
 .by_cases hj:j<us.length
  .rw[cG hj] at hju;rw[cG (by omega)] at hjx;exact(h4 j u' x' hju hjx).keptT hg ht
  .have hl:=(aE.1 hju).1;rw[bf] at hl;have e:j=us.length:=by simp at hl;omega
   subst e;rw[du (aj _),Nat.sub_self] at hju;rw[h1,du (aj _),Nat.sub_self] at hjx;simp at hju hjx;rw[<-hju,<-hjx];exact hx
theorem kZ.at_{a:Option Addr}{n c:Nat}(h:kZ W B (.slice a n c) xs){f:Nat->List Int}(hf:∀k,k<xs.length->xs[k]? =some (f k)):oR W a xs.length f:=λk hk=>by
 obtain⟨us,h1,h2,h3,h4⟩:=h
 obtain⟨u,hu⟩:∃u,us[k]? =some u:=⟨_,ah (by omega)⟩
 have ho:=h4 k u (f k) hu (hf k hk)
 obtain⟨a2,c2,e2⟩:=ho.form
 rcases h2.2 with ⟨e,h0⟩|⟨g,cap,cur,e,_⟩
 .omega
 .injection e with e0 e1 e2';subst e0;refine⟨g,0,a2,c2,rfl,?_,by rw[e2] at ho;exact ho.ints⟩;subst e1 e2';have:=dH h2 k (by omega);rw[bQ,this,hu,e2]
end
def wV(W:World)(B g m lo:Nat)(f:Nat->List Int):Prop:=
 ∃us:Nat->Value,W.heap[g]? =some (.cells (rB m us) 22 (0,0))/\∀i,lo<=i->i<m->gD W B (us i) (f i)
section
variable {W W':World} {B g m lo:Nat} {f:Nat->List Int} {row:Option Nat}
theorem wV.kept(h:wV W B g m lo f)(hg:W.grownBy W' row)(hne:row≠some g)(hr:∀q,row=some q->gW W 3 q):wV W' B g m lo f:=
 let ⟨us,h1,h2⟩:=h
 ⟨us,(hg.block g (au.1 h1).1 λe=>hne e.symm).trans h1,λi hi hm=>(h2 i hi hm).keptT hg hr⟩
theorem wV.chg{S:Nat->Prop}(h:wV W B g m lo f)(hc:Chg S W W')(hg:¬S g)(ht:∀q,S q->gW W 3 q):wV W' B g m lo f:=
 let ⟨us,h1,h2⟩:=h
 ⟨us,(hc.block g (au.1 h1).1 hg).trans h1,λi hi hm=>(h2 i hi hm).chgT hc ht⟩
theorem wV.ext(h:wV W B g m lo f)(hb:Below W.heap.size W W'):wV W' B g m lo f:=
 h.kept (row:=none) ⟨hb.os,hb.tape,hb.output,hb.size,λk hk _=>hb.block k hk⟩ (by simp) (λq e=>by cases e)
theorem wV.put(h:wV W B g m (lo+1) f)(hl:lo<m){u:Value}(hu:gD W B u (f lo)):wV (W.setCell ⟨g,lo,none⟩ u) B g m lo f/\W.frozen? ⟨g,lo,none⟩=false/\(∃z,W.cell? ⟨g,lo,none⟩=some z):=by
 obtain⟨us,h1,h2⟩:=h
 have hg:W.grownBy (W.setCell ⟨g,lo,none⟩ u) (some g):=⟨rfl,rfl,rfl,by simp,λk _ hne=>aU _ _ _ _ (by simpa using λe=>hne (by rw[e]))⟩
 have ho:∀q,some g=some q->gW W 3 q:=λq e=>by cases e;exact gW.of h1 (by decide)
 refine⟨⟨λj=>if j=lo then u else us j,?_,λi hi hm=>?_⟩,cY _ _ _ _ _ h1,⟨us lo,by rw[aZ _ _ _ _ _ _ h1,yM _ _ _ hl]⟩⟩
 .rw[aC _ _ _ _ _ _ h1];refine bh some (bh (λx=>Obj.cells x _ _) (AH (by simp) λj _ hj=>by simp[hj]))
 .show gD _ B (if i=lo then u else us i) (f i);by_cases e:i=lo
  .subst e;rw[aM rfl];exact hu.keptT hg ho
  .rw[az e];exact(h2 i (by omega) hm).keptT hg ho
theorem wV.at_(h:wV W B g m 0 f):oR W (some ⟨g,0,none⟩) m f:=λk hk=>by
 obtain⟨us,h1,h2⟩:=h
 have ho:=h2 k (d9 _) hk
 obtain⟨a,c,e⟩:=ho.form
 refine⟨g,0,a,c,rfl,?_,by rw[e] at ho;exact ho.ints⟩
 rw[bQ,aZ _ _ _ _ _ _ h1,yM _ _ _ hk,e]
end
end

section
open Go.RowKit
theorem qn{tm:Array Value}{ds:List Deferred}{m:Nat}{G:(Nat->Value)->List Deferred->Act}{R:Nat->(Nat->Value)->List Deferred->Prop}(h:(⟨tm,ds⟩:Act)=G (λs=>tm.getD s undef) ds)(m':Nat)(hm:m'<m)(hR:R m' (λs=>tm.getD s undef) ds):∃m',m'<m/\∃u' ds',(⟨tm,ds⟩:Act)=G u' ds'/\R m' u' ds':=⟨m',hm,_,_,h,hR⟩
abbrev BE(a b c:Value):Obj:=.cells #[a,b,c] 58 (0,0)
def sd(gs:Nat->Nat)(bs:List BkL)(j:Nat):Value:=.slice (some ⟨gs j,0,none⟩) (atN bs j) (atN bs j)
structure LfJ(w:World)(fo:Obj)(bs:List BkL)(n R0 R1 PF:Nat)(inn out:Nat->Nat)(vI vO vA:Value)(gs:Nat->Nat)(kI kO kA:Nat)(W:World):Prop where
 fn:W.heap[w.heap.size]? =some fo
 lv:W.heap[w.heap.size+1]? =some (BE vI vO vA)
 fl:W.heap[PF]? =some (BF n R0 R1)
 inn:uO W (w.heap.size+2) (.slice (some ⟨R0,0,none⟩) n n) n inn
 out:uO W (w.heap.size+2) (.slice (some ⟨R1,0,none⟩) n n) n out
 gI:kZ W (w.heap.size+2) vI (pV kI (vP bs))
 gO:kZ W (w.heap.size+2) vO (pV kO (tX bs))
 gA:W.ownsRow (w.heap.size+2) 49 1 vA kA (pV kA (sd gs bs))
 tb:∀j,j<kA->wV W (w.heap.size+2) (gs j) (atN bs j) 0 (atL bs j)
 apI:∀j,j<kA->vI.ownBlock≠some (gs j)
 apO:∀j,j<kA->vO.ownBlock≠some (gs j)
 apIO:∀q,vI.ownBlock=some q->vO.ownBlock≠some q
 b:Below w.heap.size w W
section
variable {w:World} {fo:Obj} {bs:List BkL} {n R0 R1 PF:Nat} {inn out:Nat->Nat} {vI vO vA:Value} {gs:Nat->Nat} {kI kO kA:Nat} {W W':World} {row:Option Nat}
theorem EI{v:Value}{row:Option Nat}(h:∀q,row=some q->v.ownBlock≠some q):v.ownBlock=none\/v.ownBlock≠row:=by
 cases hv:v.ownBlock with
 |none=>exact .inl rfl
 |some q=>exact .inr λe=>h q e.symm hv
theorem LfJ.keep(h:LfJ w fo bs n R0 R1 PF inn out vI vO vA gs kI kO kA W)(hg:W.grownBy W' row)
  (hr:∀q,row=some q->w.heap.size+2<=q/\q≠PF/\gW W 3 q/\gW W 49 q/\R0≠q/\R1≠q/\vI.ownBlock≠some q/\vO.ownBlock≠some q/\∀j,j<kA->gs j≠q):LfJ w fo bs n R0 R1 PF inn out vI vO vA gs kI kO kA W':=by
 have ht:∀q,row=some q->gW W 3 q:=λq e=>(hr q e).2.2.1
 refine⟨(hg.block _ (fE h.fn) λe=>by have:=(hr _ e.symm).1;omega).trans h.fn,(hg.block _ (fE h.lv) λe=>by have:=(hr _ e.symm).1;omega).trans h.lv,(hg.block _ (fE h.fl) λe=>(hr _ e.symm).2.1 rfl).trans h.fl,
  iP.kept h.inn hg (EI λq e he=>by simp only[Value.ownBlock,aW] at he;exact(hr q e).2.2.2.2.1 he),iP.kept h.out hg (EI λq e he=>by simp only[Value.ownBlock,aW] at he;exact(hr q e).2.2.2.2.2.1 he),
  h.gI.kept hg (EI λq e=>(hr q e).2.2.2.2.2.2.1) ht,h.gO.kept hg (EI λq e=>(hr q e).2.2.2.2.2.2.2.1) ht,GJ h.gA hg λq e=>(hr q e).2.2.2.1,λj hj=>(h.tb j hj).kept hg (λe=>(hr _ e).2.2.2.2.2.2.2.2 j hj rfl) ht,h.apI,h.apO,h.apIO,h.b.grown hg h.b.size λq e=>by have:=(hr q e).1;omega⟩
theorem LfJ.ext(h:LfJ w fo bs n R0 R1 PF inn out vI vO vA gs kI kO kA W)(hb:Below W.heap.size W W'):LfJ w fo bs n R0 R1 PF inn out vI vO vA gs kI kO kA W':=
 h.keep (row:=none) ⟨hb.os,hb.tape,hb.output,hb.size,λk hk _=>hb.block k hk⟩ (λq e=>by cases e)
theorem l8{W:World}{q:Nat}{o:Obj}(hq:W.heap[q]? =some o)(ho:vQ o=true):gW W 3 q/\gW W 22 q/\gW W 49 q:=by
 refine⟨λcs f e=>?_,λcs f e=>?_,λcs f e=>?_⟩<;>(rw[hq] at e;cases e;simp[vQ,AY,nH,TL,Cu] at ho)
theorem LfJ.steadyO{B:Nat}(hf:vQ fo=false)(hB:w.heap.size+2<=B)(h0:R0<B)(h1:R1<B)(hp:PF<B):iC B (LfJ w fo bs n R0 R1 PF inn out vI vO vA gs kI kO kA):=λW V row h hg hr=>
 h.keep hg λq e=>by
  obtain⟨h2,o,h3,h4⟩:=hr q e;obtain⟨t1,t2,t3⟩:=l8 h3 h4;refine⟨by omega,by omega,t1,t3,by omega,by omega,λe2=>?_,λe2=>?_,λj hj e2=>?_⟩
  .obtain⟨us,_,h5,_⟩:=h.gI;exact qT h5 t2 e2
  .obtain⟨us,_,h5,_⟩:=h.gO;exact qT h5 t2 e2
  .obtain⟨us,h5,_⟩:=h.tb j hj;rw[e2] at h5;exact t2 _ _ h5
theorem LfJ.chg{S:Nat->Prop}(h:LfJ w fo bs n R0 R1 PF inn out vI vO vA gs kI kO kA W)(hc:Chg S W W')(hs:∀q,S q->w.heap.size+1<=q/\q≠PF/\gW W 3 q/\R0≠q/\R1≠q/\∀j,j<kA->gs j≠q):
  W'.heap[w.heap.size]? =some fo/\W'.heap[PF]? =some (BF n R0 R1)/\uO W' (w.heap.size+2) (.slice (some ⟨R0,0,none⟩) n n) n inn/\uO W' (w.heap.size+2) (.slice (some ⟨R1,0,none⟩) n n) n out/\(∀j,j<kA->wV W' (w.heap.size+2) (gs j) (atN bs j) 0 (atL bs j))/\Below w.heap.size w W':=by
 have ht:∀q,S q->gW W 3 q:=λq e=>(hs q e).2.2.1
 refine⟨(hc.block _ (fE h.fn) λe=>by have:=(hs _ e).1;omega).trans h.fn,(hc.block _ (fE h.fl) λe=>(hs _ e).2.1 rfl).trans h.fl,⟨iL h.inn.1 hc λq e hS=>?_,h.inn.2⟩,⟨iL h.out.1 hc λq e hS=>?_,h.out.2⟩,λj hj=>(h.tb j hj).chg hc (λe=>(hs _ e).2.2.2.2.2 j hj rfl) ht,?_⟩
 .simp only[Value.ownBlock,aW] at e;exact(hs q hS).2.2.2.1 e
 .simp only[Value.ownBlock,aW] at e;exact(hs q hS).2.2.2.2.1 e
 .exact⟨hc.os.trans h.b.os,hc.tape.trans h.b.tape,hc.output.trans h.b.output,aT h.b.size hc.size,λk hk=>(hc.block k (bw hk h.b.size) λe=>by have:=(hs k e).1;omega).trans (h.b.block k hk)⟩
theorem C3{W:World}{a b:Nat}{o o':Obj}(h1:W.heap[a]? =some o)(h2:W.heap[b]? =some o')(h:o≠o'):a≠b:=λe=>by
 rw[e,h2] at h1
 cases h1
 exact h rfl
theorem IP{B R:Nat}{I:Nat->Nat}(h:uO W B (.slice (some ⟨R,0,none⟩) n n) n I):∃cs f,W.heap[R]? =some (.cells cs 124 f):=EH h.1 rfl
theorem LfJ.sets(h:LfJ w fo bs n R0 R1 PF inn out vI vO vA gs kI kO kA W):(PF≠w.heap.size+1/\R0≠w.heap.size+1/\R1≠w.heap.size+1/\gW W 3 (w.heap.size+1)/\∀j,j<kA->gs j≠w.heap.size+1)/\
  ∀q cs t f,W.heap[q]? =some (.cells cs t f)->(t=22\/t=49)->q≠PF/\gW W 3 q/\R0≠q/\R1≠q/\q≠w.heap.size+1:=by
 have key:∀{a b:Nat} {cs cs':Array Value} {t t':TypeId} {f f':Nat×Nat},W.heap[a]? =some (.cells cs t f)->W.heap[b]? =some (.cells cs' t' f')->t≠t'->a≠b:=λh1 h2 hne=>C3 h1 h2 λe=>by cases e;exact hne rfl
 obtain⟨c0,f0,h0⟩:=IP h.inn
 obtain⟨c1,f1,h1⟩:=IP h.out
 refine⟨⟨key h.fl h.lv (by decide),key h0 h.lv (by decide),key h1 h.lv (by decide),gW.of h.lv (by decide),λj hj=>?_⟩,λq cs t f hq ht=>?_⟩
 .obtain⟨us,h5,_⟩:=h.tb j hj;exact key h5 h.lv (by decide)
 .rcases ht with rfl|rfl
  .exact⟨key hq h.fl (by decide),gW.of hq (by decide),key h0 hq (by decide),key h1 hq (by decide),key hq h.lv (by decide)⟩
  .exact⟨key hq h.fl (by decide),gW.of hq (by decide),key h0 hq (by decide),key h1 hq (by decide),key hq h.lv (by decide)⟩
theorem tU(W:World)(b o:Nat)(u:Value):Chg (λj=>j=b) W (W.setCell ⟨b,o,none⟩ u):=(Chg.refl (λj=>j=b) W).setCell (p:=⟨b,o,none⟩) (.inl rfl) u
theorem LfJ.pushI{W1:World}{v':Value}(h:LfJ w fo bs n R0 R1 PF inn out vI vO vA gs kI kO kA W)(hg:W.grownBy W1 vI.ownBlock)(hl:kZ W1 (w.heap.size+2) v' (pV (kI+1) (vP bs)))(hb:∀q,v'.ownBlock=some q->vI.ownBlock=some q\/W.heap.size<=q):
  LfJ w fo bs n R0 R1 PF inn out v' vO vA gs (kI+1) kO kA (W1.setCell ⟨w.heap.size+1,0,none⟩ v')/\W1.heap[w.heap.size+1]? =some (BE vI vO vA):=by
 obtain⟨⟨s1,s2,s3,s4,s5⟩,s6⟩:=h.sets
 have hI:∀q,vI.ownBlock=some q->w.heap.size+2<=q/\q≠PF/\gW W 3 q/\R0≠q/\R1≠q/\gW W 49 q:=λq e=>by
  obtain⟨h1,h2,cs,f,h3⟩:=h.gI.lt e;obtain⟨a1,a2,a3,a4,_⟩:=s6 q cs _ f h3 (.inl rfl);exact⟨h1,a1,a2,a3,a4,gW.of h3 (by decide)⟩
 have hc1:Chg (λj=>j=w.heap.size+1\/vI.ownBlock=some j) W W1:=(Chg.refl _ W).grown hg λk e=>.inl (.inr e)
 have hc:Chg (λj=>j=w.heap.size+1\/vI.ownBlock=some j) W (W1.setCell ⟨w.heap.size+1,0,none⟩ v'):=hc1.trans ((tU W1 _ 0 v').mono λk e=>.inl e)
 have hlv:W1.heap[w.heap.size+1]? =some (BE vI vO vA):=(hg.block _ (fE h.lv) λe=>by have:=(hI _ e.symm).1;omega).trans h.lv
 obtain⟨p1,p2,p3,p4,p5,p6⟩:=h.chg hc λq e=>by
  rcases e with e|e
  .subst e;exact⟨aj _,s1.symm,s4,s2,s3,s5⟩
  .obtain⟨a1,a2,a3,a4,a5,_⟩:=hI q e;exact⟨by omega,a2,a3,a4,a5,λj hj e2=>h.apI j hj (by rw[e,e2])⟩
 refine⟨⟨p1,?_,p2,p3,p4,?_,h.gO.chg hc (λq e hS=>?_) (λq hS=>?_),iL h.gA hc (λq e hS=>?_),p5,λj hj e=>?_,h.apO,λq e e2=>?_,p6⟩,hlv⟩
 .rw[aC _ _ _ _ _ _ hlv];rfl
 .refine hl.chg (tU W1 _ 0 v') (λq e hS=>?_) λq hS=>?_
  .have:=(hl.lt e).1;omega
  .subst hS;exact gW.of hlv (by decide)
 .rcases hS with hS|hS
  .have:=(h.gO.lt e).1;omega
  .exact h.apIO q hS e
 .rcases hS with hS|hS
  .subst hS;exact s4
  .exact(hI q hS).2.2.1
 .rcases hS with hS|hS
  .have:=(h.gA.lt q e).1;omega
  .exact qT h.gA (hI q hS).2.2.2.2.2 e
 .rcases hb _ e with h1|h1
  .exact h.apI j hj h1
  .obtain⟨us,h5,_⟩:=h.tb j hj;have:=fE h5;omega
 .rcases hb q e with h1|h1
  .exact h.apIO q h1 e2
  .have:=(h.gO.lt e2).2.1;omega
theorem LfJ.pushO{W1:World}{v':Value}(h:LfJ w fo bs n R0 R1 PF inn out vI vO vA gs kI kO kA W)(hg:W.grownBy W1 vO.ownBlock)(hl:kZ W1 (w.heap.size+2) v' (pV (kO+1) (tX bs)))(hb:∀q,v'.ownBlock=some q->vO.ownBlock=some q\/W.heap.size<=q):
  LfJ w fo bs n R0 R1 PF inn out vI v' vA gs kI (kO+1) kA (W1.setCell ⟨w.heap.size+1,1,none⟩ v')/\W1.heap[w.heap.size+1]? =some (BE vI vO vA):=by
 obtain⟨⟨s1,s2,s3,s4,s5⟩,s6⟩:=h.sets
 have hI:∀q,vO.ownBlock=some q->w.heap.size+2<=q/\q≠PF/\gW W 3 q/\R0≠q/\R1≠q/\gW W 49 q:=λq e=>by
  obtain⟨h1,h2,cs,f,h3⟩:=h.gO.lt e;obtain⟨a1,a2,a3,a4,_⟩:=s6 q cs _ f h3 (.inl rfl);exact⟨h1,a1,a2,a3,a4,gW.of h3 (by decide)⟩
 have hc1:Chg (λj=>j=w.heap.size+1\/vO.ownBlock=some j) W W1:=(Chg.refl _ W).grown hg λk e=>.inl (.inr e)
 have hc:Chg (λj=>j=w.heap.size+1\/vO.ownBlock=some j) W (W1.setCell ⟨w.heap.size+1,1,none⟩ v'):=hc1.trans ((tU W1 _ 1 v').mono λk e=>.inl e)
 have hlv:W1.heap[w.heap.size+1]? =some (BE vI vO vA):=(hg.block _ (fE h.lv) λe=>by have:=(hI _ e.symm).1;omega).trans h.lv
 obtain⟨p1,p2,p3,p4,p5,p6⟩:=h.chg hc λq e=>by
  rcases e with e|e
  .subst e;exact⟨aj _,s1.symm,s4,s2,s3,s5⟩
  .obtain⟨a1,a2,a3,a4,a5,_⟩:=hI q e;exact⟨by omega,a2,a3,a4,a5,λj hj e2=>h.apO j hj (by rw[e,e2])⟩
 refine⟨⟨p1,?_,p2,p3,p4,h.gI.chg hc (λq e hS=>?_) (λq hS=>?_),?_,iL h.gA hc (λq e hS=>?_),p5,h.apI,λj hj e=>?_,λq e e2=>?_,p6⟩,hlv⟩
 .rw[aC _ _ _ _ _ _ hlv];rfl
 .rcases hS with hS|hS
  .have:=(h.gI.lt e).1;omega
  .exact h.apIO q e hS
 .rcases hS with hS|hS
  .subst hS;exact s4
  .exact(hI q hS).2.2.1
 .refine hl.chg (tU W1 _ 1 v') (λq e hS=>?_) λq hS=>?_
  .have:=(hl.lt e).1;omega
  .subst hS;exact gW.of hlv (by decide)
 .rcases hS with hS|hS
  .have:=(h.gA.lt q e).1;omega
  .exact qT h.gA (hI q hS).2.2.2.2.2 e
 .rcases hb _ e with h1|h1
  .exact h.apO j hj h1
  .obtain⟨us,h5,_⟩:=h.tb j hj;have:=fE h5;omega
 .rcases hb q e2 with h1|h1
  .exact h.apIO q e h1
  .have:=(h.gI.lt e).2.1;omega
theorem LfJ.pushA{W1:World}{v':Value}{g:Nat}(h:LfJ w fo bs n R0 R1 PF inn out vI vO vA gs kI kO kA W)(hg:W.grownBy W1 vA.ownBlock)(hl:W1.ownsRow (w.heap.size+2) 49 1 v' (kA+1) (pV (kA+1) (sd (λj=>if j=kA then g else gs j) bs)))
  (ht:wV W (w.heap.size+2) g (atN bs kA) 0 (atL bs kA)) (hI:vI.ownBlock≠some g) (hO:vO.ownBlock≠some g) (hg2:w.heap.size+2<=g):
  LfJ w fo bs n R0 R1 PF inn out vI vO v' (λj=>if j=kA then g else gs j) kI kO (kA+1) (W1.setCell ⟨w.heap.size+1,2,none⟩ v')/\W1.heap[w.heap.size+1]? =some (BE vI vO vA):=by
 obtain⟨⟨s1,s2,s3,s4,s5⟩,s6⟩:=h.sets
 have hA:∀q,vA.ownBlock=some q->w.heap.size+2<=q/\q≠PF/\gW W 3 q/\R0≠q/\R1≠q/\gW W 22 q:=λq e=>by
  obtain⟨cs,f,h3⟩:=EH h.gA e;obtain⟨a1,a2,a3,a4,_⟩:=s6 q cs _ f h3 (.inr rfl);exact⟨(h.gA.lt q e).1,a1,a2,a3,a4,gW.of h3 (by decide)⟩
 have hc1:Chg (λj=>j=w.heap.size+1\/vA.ownBlock=some j) W W1:=(Chg.refl _ W).grown hg λk e=>.inl (.inr e)
 have hc:Chg (λj=>j=w.heap.size+1\/vA.ownBlock=some j) W (W1.setCell ⟨w.heap.size+1,2,none⟩ v'):=hc1.trans ((tU W1 _ 2 v').mono λk e=>.inl e)
 have hlv:W1.heap[w.heap.size+1]? =some (BE vI vO vA):=(hg.block _ (fE h.lv) λe=>by have:=(hA _ e.symm).1;omega).trans h.lv
 have tabs:∀j,j<kA+1->wV W (w.heap.size+2) (if j=kA then g else gs j) (atN bs j) 0 (atL bs j):=λj hj=>by
  by_cases e:j=kA
  .subst e;rw[aM rfl];exact ht
  .rw[az e];exact h.tb j (by omega)
 have tt:∀q,(q=w.heap.size+1\/vA.ownBlock=some q)->gW W 3 q:=λq hS=>by
  rcases hS with hS|hS
  .subst hS;exact s4
  .exact(hA q hS).2.2.1
 obtain⟨p1,p2,p3,p4,_,p6⟩:=h.chg hc λq e=>by
  rcases e with e|e
  .subst e;exact⟨aj _,s1.symm,s4,s2,s3,s5⟩
  .obtain⟨a1,a2,a3,a4,a5,a6⟩:=hA q e;refine⟨by omega,a2,a3,a4,a5,λj hj e2=>?_⟩;obtain⟨us,h5,_⟩:=h.tb j hj;rw[e2] at h5;exact a6 _ _ h5
 refine⟨⟨p1,?_,p2,p3,p4,h.gI.chg hc (λq e hS=>?_) tt,h.gO.chg hc (λq e hS=>?_) tt,iL hl (tU W1 _ 2 v') (λq e hS=>?_),λj hj=>(tabs j hj).chg hc (λhS=>?_) tt,λj hj e=>?_,λj hj e=>?_,h.apIO,p6⟩,hlv⟩
 .rw[aC _ _ _ _ _ _ hlv];rfl
 .rcases hS with hS|hS
  .have:=(h.gI.lt e).1;omega
  .obtain⟨_,_,cs,f,h3⟩:=h.gI.lt e;exact(hA q hS).2.2.2.2.2 _ _ h3
 .rcases hS with hS|hS
  .have:=(h.gO.lt e).1;omega
  .obtain⟨_,_,cs,f,h3⟩:=h.gO.lt e;exact(hA q hS).2.2.2.2.2 _ _ h3
 .have:=(hl.lt q e).1;omega
 .obtain⟨us,h5,_⟩:=tabs j hj;rcases hS with hS|hS
  .by_cases e:j=kA
   .rw[aM e] at hS;omega
   .rw[az e] at hS;exact s5 j (by omega) hS
  .exact(hA _ hS).2.2.2.2.2 _ _ h5
 .by_cases e2:j=kA
  .rw[aM e2] at e;exact hI e
  .rw[az e2] at e;exact h.apI j (by omega) e
 .by_cases e2:j=kA
  .rw[aM e2] at e;exact hO e
  .rw[az e2] at e;exact h.apO j (by omega) e
theorem LfJ.fill{g o:Nat}{u:Value}(h:LfJ w fo bs n R0 R1 PF inn out vI vO vA gs kI kO kA W)(hg:∃cs f,W.heap[g]? =some (.cells cs 22 f))(hg2:w.heap.size+2<=g)(hI:vI.ownBlock≠some g)(hO:vO.ownBlock≠some g)(hgs:∀j,j<kA->gs j≠g):LfJ w fo bs n R0 R1 PF inn out vI vO vA gs kI kO kA (W.setCell ⟨g,o,none⟩ u):=by
 obtain⟨cs,f,hg⟩:=hg
 obtain⟨a1,a2,a3,a4,_⟩:=h.sets.2 g cs _ f hg (.inl rfl)
 refine h.keep (row:=some g) ⟨rfl,rfl,rfl,by simp,λk _ hne=>aU _ _ _ _ (by simpa using λe=>hne (by rw[e]))⟩ λq e=>?_
 cases e
 exact⟨hg2,a1,a2,gW.of hg (by decide),a3,a4,hI,hO,hgs⟩
end
end

section
open Go.RowKit
def marks:List Int:=(List.range 12).map λ(i:Nat)=>C4 1 (i:Int)
end

section
open Go.RowKit
def ka(bs:List BkL)(v:Int):Bool:=bs.any λb=>decide (v∈b.nd)||b.ops.any λo=>decide (v∈o.rd)
theorem GB{nd:List Int}{v:Int}:∀{ops:List OpL},iM ops nd v=1->v∈nd\/∃o∈ops,v∈o.rd
 | [],h=>by
   unfold iM at h
   split at h
   .exact .inl ‹_›
   .cases h
 |o :: l,h=>by
  unfold iM at h
  split at h
  .exact .inr ⟨o,by simp,‹_›⟩
  .split at h
   .cases h
   .rcases GB h with h|⟨x,hx,h⟩
    .exact .inl h
    .exact .inr ⟨x,dN _ hx,h⟩
theorem ur{bs:List BkL}{v:Int}(h:ka bs v=false){b:Nat}(hb:b<bs.length):iM (iB bs b).ops (iB bs b).nd v≠1:=by
 intro hw
 have hm:iB bs b∈bs:=by
  unfold iB;rw[ak,ah hb];exact bJ hb
 have h1:=dQ.1 h (iB bs b) hm
 simp only[bW,aN,eA,not_or,not_exists,not_and] at h1
 rcases GB hw with h|⟨o,ho,h⟩
 .exact h1.1 h
 .exact h1.2 o ho h
end
end Go.Proofs.YtbknbcmppdglhaaGreatDoor
