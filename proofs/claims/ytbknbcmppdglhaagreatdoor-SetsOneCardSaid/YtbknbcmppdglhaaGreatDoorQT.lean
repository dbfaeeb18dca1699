/-
 SameInts.
-/
import Derived.Test.YtbknbcmppdglhaaGreatDoorA0
import Derived.Test.YtbknbcmppdglhaaGreatDoorRows
import Derived.Test.YtbknbcmppdglhaaGreatDoorER
namespace Go.Proofs.YtbknbcmppdglhaaGreatDoor
set_option linter.unusedSimpArgs false
set_option linter.unusedVariables false
set_option linter.unusedSectionVars false
set_option maxRecDepth 100000
set_option maxHeartbeats 40000000
section
open Go.RowKit
theorem oE(a b:Option Addr)(n m c d:Nat)(xs ys:List Int)(w:World)(h:iJ w a n xs)(h':iJ w b m ys):
  Calls Tryz.prog 16 #[.slice a n c,.slice b m d] w λe w'=>e=.returned (.bool (decide (xs=ys)))/\∃q,w'=w.drewN q:=by
 obtain⟨hl,hn,hc⟩:=h
 obtain⟨hl',hn',hc'⟩:=h'
 by_cases hnm:n=m
 .subst hnm;have HL:=ac hl;have HC:=ac hc;have HL':=ac hl';have HC':=ac hc';clear hl hc hl' hc';have hne:((n:Int) != (n:Int))=false:=by simp
  go_enter Tryz.func16,Tryz.ntmps16
  go_wp2
  go_loopw [5] (λi wr=>∃(k q:Nat),k<=n/\i=.int .i64 k/\wr=w.drewN q/\Hid (∀j,j<k->xs.getD j 0=ys.getD j 0)) (λi _=>n-(intOf i).toNat)
  case atStart=>exact⟨0,0,by omega,rfl,rfl,λj hj=>absurd hj (by omega)⟩
  case round=>
   obtain⟨k,q,hk,rfl,rfl,HR⟩:=hrel;by_cases hlt:k<n
   .obtain⟨b1,o1,rfl,hcell1,hw1,hw2⟩:=HC.out k hlt;obtain⟨b2,o2,rfl,hcell2,hw3,hw4⟩:=HC'.out k hlt;by_cases he:xs.getD k 0=ys.getD k 0
    .have HE:Hid (∀j,j<k+1->xs.getD j 0=ys.getD j 0):=λj hj=>by
      by_cases hjk:j=k
      .subst hjk;exact he
      .exact HR.out j (by omega)
     rw[<-he] at hcell2;generalize xs.getD k 0=y at *;clear he;go_wp2
     go_quiet (fail)
     go_wp2
     go_roundw
     case rel=>exact⟨k+1,_,by omega,by go_num,rfl,HE⟩
     case measure=>simp[intOf];omega
    .have HE:Hid (xs≠ys):=λe=>he (by rw[e]);have hb:(xs.getD k 0 != ys.getD k 0)=true:=by simpa using he
     generalize xs.getD k 0=y at *;generalize ys.getD k 0=z at *;clear he;go_wp2
     go_quiet (fail)
     go_wp2
     go_ret
     exact⟨yT (by rw[dE HE.out]),_,World.drewN_drewN _ _ _⟩
   .have HE:Hid (xs=ys):=List.ext_getElem (by rw[HL.out,HL'.out]) (λj h1 h2=>by
     have:=HR.out j (by rw[HL.out] at h1;omega)
     simpa[List.getD,h1,h2] using this)
    go_wp2
    go_ret
    exact⟨yT (by rw[bS HE.out]),_,rfl⟩
 .have HE:Hid (xs≠ys):=λe=>hnm (by rw[<-hl,<-hl',e]);have hne:((n:Int) != (m:Int))=true:=by simp;omega
  clear hc hc' hl hl' hnm
  go_enter Tryz.func16,Tryz.ntmps16
  go_wp2
  go_ret
  exact⟨yT (by rw[dE HE.out]),0,rfl⟩
end

section
open Go.RowKit
def C4(k i:Int):Int:=1000003*(k+7)+i
end

section
structure fJ where
 s:Nat->Bool
 kind:Int
 entry:Int
def oS(a b:Nat->Bool):Nat->Bool:=λk=>if b k then false else a k
def lQ(a b:Nat->Bool):Bool:=(gQ a).all b&& !eqS a b
def xY(ts:List fS)(rec:(Nat->Bool)->List fJ)(inn:Nat->Bool)(st:(Nat->Bool)×List fJ)(k:Nat):(Nat->Bool)×List fJ:=
 if st.1 k&&iH ts k inn k then
  if 1<(fV ts (iH ts k inn)).length then (oS st.1 (iH ts k inn),st.2++ [⟨iH ts k inn,3,-1⟩])
  else (oS st.1 (iH ts k inn),st.2++⟨iH ts k inn,2,(((fV ts (iH ts k inn)).headD 0:Nat):Int)⟩ :: rec (iU (iH ts k inn) ((fV ts (iH ts k inn)).headD 0)))
 else st
def nG(ts:List fS):Nat->(Nat->Bool)->List fJ
 |0,_=> []
 |f+1,inn=>((gQ inn).foldl (xY ts (nG ts f) inn) (inn,[])).2
def Tog(ts:List fS)(inn:Nat->Bool)(a b:Nat):Prop:=Reach (nx ts) inn a b/\Reach (nx ts) inn b a
theorem Tog.symm{ts:List fS}{inn:Nat->Bool}{a b:Nat}(h:Tog ts inn a b):Tog ts inn b a:=⟨h.2,h.1⟩
theorem Tog.trans{ts:List fS}{inn:Nat->Bool}{a b c:Nat}(h:Tog ts inn a b)(k:Tog ts inn b c):Tog ts inn a c:=⟨h.1.trans k.1,k.2.trans h.2⟩
theorem Tog.self{ts:List fS}{inn:Nat->Bool}{a b:Nat}(h:Tog ts inn a b):Tog ts inn a a:=h.trans h.symm
theorem wh{ts:List fS}{inn:Nat->Bool}(hc:iV inn){k a b:Nat}(ha:iH ts k inn a=true)(hb:iH ts k inn b=true):Reach (nx ts) (iH ts k inn) a b:=by
 obtain⟨hk,h1,h2⟩:=(mS hc k a).1 ha
 obtain⟨_,h3,h4⟩:=(mS hc k b).1 hb
 have key:∀y,Reach (nx ts) inn a y->Reach (nx ts) inn y k->Reach (nx ts) (iH ts k inn) a y:=by
  intro y hr
  induction hr with
  |one hy hi=>exact λh=>.one hy ((mS hc k _).2 ⟨hk,h1.trans (.one hy hi),h⟩)
  | @step x y hx hy hi ih=>exact λh=>.step (ih ((Reach.one hy hi).trans h)) hy ((mS hc k _).2 ⟨hk,h1.trans (.step hx hy hi),h⟩)
 exact key b (h2.trans h3) h4
theorem BV{next:Nat->List Nat}{inn:Nat->Bool}{a b:Nat}(h:Reach next inn a b):∃x,(x=a\/Reach next inn a x)/\b∈next x:=by
 cases h with
 |one hy _=>exact⟨a,.inl rfl,hy⟩
 |step hx hy _=>exact⟨_,.inr hx,hy⟩
theorem SC{next:Nat->List Nat}{inn:Nat->Bool}{a b:Nat}(h:Reach next inn a b)(s:Nat->Bool)(ha:s a=false)(hb:s b=true):∃x y,(x=a\/Reach next inn a x)/\s x=false/\y∈next x/\s y=true/\inn y=true:=by
 induction h with
 |one hy hi=>exact⟨a,_,.inl rfl,ha,hy,hb,hi⟩
 | @step x y hx hy hi ih=>
   cases hs:s x with
   |true=>exact ih hs
   |false=>exact⟨x,y,.inr hx,hs,hy,hb,hi⟩
structure JM(ts:List fS)(p:fJ):Prop where
 some:∃y,p.s y=true
 low:∀y,p.s y=true->1<=y/\y<ts.length
 tog:∀a b,p.s a=true->p.s b=true->Reach (nx ts) p.s a b
 ent:(p.kind=3/\p.entry= -1/\1<(fV ts p.s).length)\/(p.kind=2/\0<=p.entry/\fV ts p.s= [p.entry.toNat])
def Bi(p q:fJ):Prop:=(∀y,p.s y=true->q.s y=false)\/(p.kind=2/\∀y,q.s y=true->p.s y=true/\y≠p.entry.toNat)
def tk(ts:List fS)(ps:List fJ)(p:fJ):Prop:=
 p.kind=2->∀b,p.s b=true->Reach (nx ts) (iU p.s p.entry.toNat) b b->∃q∈ps,q.s b=true/\∀y,q.s y=true->p.s y=true/\y≠p.entry.toNat
structure QK(ts:List fS)(inn:Nat->Bool)(ps:List fJ):Prop where
 ring:∀b,inn b=true->Reach (nx ts) inn b b->∃p∈ps,p.s b=true
 out:∀p∈ps,∀y,p.s y=true->inn y=true/\Reach (nx ts) inn y y
 ok:∀p∈ps,JM ts p
 pw:ps.Pairwise Bi
 inner:∀p∈ps,tk ts ps p
structure yP(ts:List fS)(inn:Nat->Bool)(d:List Nat)(left:Nat->Bool)(ps:List fJ):Prop where
 sub:∀y,left y=true->inn y=true
 cls:∀y z,inn y=true->left y=false->Tog ts inn y z->left z=false
 seen:∀k∈d,Reach (nx ts) inn k k->left k=false
 cov:∀y,inn y=true->left y=false->∃p∈ps,p.s y=true
 out:∀p∈ps,∀y,p.s y=true->inn y=true/\left y=false/\Reach (nx ts) inn y y
 ok:∀p∈ps,JM ts p
 pw:ps.Pairwise Bi
 inner:∀p∈ps,tk ts ps p
theorem gT{ts:List fS}(hf:jK ts=true):tH ts=true/\(1<=ts.length/\ts.length<=200)/\∀y,1<=y->y<ts.length->Reach (nx ts) (fM ts.length) 0 y:=by
 simp only[jK,aB,aV,aQ,bW,db] at hf
 have hl:=((lO ts).1 hf.1).1
 refine⟨hf.1,hl,λy h1 h2=>?_⟩
 rcases hf.2 y h2 with h|h
 .omega
 .exact((pI (nE hl.2) 0 y).1 h).2
theorem mI{ts:List fS}{s:Nat->Bool}(hs:iV s)(b:Nat):b∈fV ts s↔s b=true/\b<ts.length/\∃x,b∈nx ts x/\s x=false:=by
 simp only[fV,bI,kV hs,aB,aN,eA,dm]
 constructor
 .rintro⟨h1,h2,x,h3,h4⟩;exact⟨h1,h2,x,(vS ts b x).1 h3,h4⟩
 .rintro⟨h1,h2,x,h3,h4⟩;exact⟨h1,h2,x,(vS ts b x).2 h3,h4⟩
theorem mh{ts:List fS}(hf:jK ts=true){s:Nat->Bool}(hs:iV s){y:Nat}(hy:s y=true)(hlow:∀y,s y=true->1<=y/\y<ts.length):fV ts s≠[]:=by
 obtain⟨hg,hl,hr⟩:=gT hf
 have h0:s 0=false:=by
  cases e:s 0 with
  |false=>rfl
  |true=>have:=hlow 0 e;omega
 obtain⟨x,z,_,h1,h2,h3,_⟩:=SC (hr y (hlow y hy).1 (hlow y hy).2) s h0 hy
 intro e
 have:z∈fV ts s:=(mI hs z).2 ⟨h3,(hlow z h3).2,x,h2,h1⟩
 rw[e] at this
 cases this
theorem GR{l:List Nat}(h0:l≠[])(h1:¬1<l.length):l= [l.headD 0]:=by
 match l,h0,h1 with
 | [x],_,_=>rfl
 |x :: y :: l,_,h=>simp at h
theorem VK{s inn:Nat->Bool}{e:Nat}(hs:∀y,s y=true->inn y=true)(hc:iV inn)(he:s e=true):(gQ (iU s e)).length<(gQ inn).length:=by
 unfold gQ
 have key:∀(l:List Nat),(l.filter (iU s e)).length<=(l.filter inn).length/\(e∈l->(l.filter (iU s e)).length<(l.filter inn).length):=by
  intro l
  induction l with
  |nil=>simp
  |cons x l ih=>
   simp only[b6];by_cases h1:iU s e x=true
   .have h2:x≠e/\s x=true:=by simpa[iU] using h1
    have h3:=hs x h2.2;rw[aM h1,aM h3];refine⟨by simp;exact ih.1,λh=>?_⟩;rcases aS.1 h with rfl|h
    .exact absurd rfl h2.1
    .simp;exact ih.2 h
   .rw[az h1];by_cases h3:inn x=true
    .rw[aM h3];exact⟨by simp;omega,λ_=>by simp;omega⟩
    .rw[az h3];refine⟨ih.1,λh=>?_⟩;rcases aS.1 h with rfl|h
     .exact absurd (hs _ he) h3
     .exact ih.2 h
 exact(key (List.range 200)).2 (by simp;exact hc _ (hs _ he))
theorem wE{s:Nat->Bool}{e y:Nat}:iU s e y=true↔y≠e/\s y=true:=by simp[iU]
section
variable {ts:List fS} {inn:Nat->Bool} {d:List Nat} {left:Nat->Bool} {ps:List fJ} {k:Nat}
theorem yP.skip(h:yP ts inn d left ps)(hc:iV inn)(hk:inn k=true)(hn:¬(left k&&iH ts k inn k)=true):yP ts inn (d++ [k]) left ps where
 sub:=h.sub
 cls:=h.cls
 seen:=λx hx hr=>by
  rcases ax.1 hx with hx|hx
  .exact h.seen x hx hr
  .have hx:x=k:=by simpa using hx
   subst hx;cases e:left x with
   |false=>rfl
   |true=>
    have:iH ts x inn x=true:=(mS hc x x).2 ⟨hk,hr,hr⟩;exact absurd (by rw[e,this];rfl) hn
 cov:=h.cov
 out:=h.out
 ok:=h.ok
 pw:=h.pw
 inner:=h.inner
theorem ly(hf:jK ts=true)(hc:iV inn)(hin:∀y,inn y=true->y<ts.length)(hk:iH ts k inn k=true)(kind entry:Int)
  (hent:(kind=3/\entry= -1/\1<(fV ts (iH ts k inn)).length)\/(kind=2/\0<=entry/\fV ts (iH ts k inn)= [entry.toNat])):JM ts ⟨iH ts k inn,kind,entry⟩ where
 some:=⟨k,hk⟩
 low:=λy hy=>by
  have h:=((mS hc k y).1 hy).2.1;obtain⟨x,_,hx⟩:=BV h;have:=AF (gT hf).1 hx;exact this
 tog:=λa b ha hb=>wh hc ha hb
 ent:=hent
theorem yP.found(h:yP ts inn d left ps)(hc:iV inn)(hk:inn k=true)(hl:left k=true)(hkk:iH ts k inn k=true)(p:fJ)(hp:p.s=iH ts k inn)(hok:JM ts p)(sub:List fJ)
  (hsub:(p.kind=3/\sub= [])\/(p.kind=2/\QK ts (iU p.s p.entry.toNat) sub)):yP ts inn (d++ [k]) (oS left (iH ts k inn)) (ps++p :: sub):=by
 have hd:∀y,oS left (iH ts k inn) y=true↔left y=true/\iH ts k inn y=false:=λy=>by
  simp only[oS]
  split
  .simp_all
  .simp_all
 have hdf:∀y,oS left (iH ts k inn) y=false↔left y=false\/iH ts k inn y=true:=λy=>by
  simp only[oS]
  split
  .simp_all
  .simp_all
 have hkn:∀y,iH ts k inn y=true↔Tog ts inn k y:=λy=>by rw[mS hc];exact⟨λh=>h.2,λh=>⟨hk,h⟩⟩
 have hin:∀q∈p :: sub,∀y,q.s y=true->iH ts k inn y=true:=by
  intro q hq y hy;rcases aS.1 hq with rfl|hq
  .rw[<-hp];exact hy
  .rcases hsub with ⟨_,rfl⟩|⟨_,hF⟩
   .cases hq
   .have:=(hF.out q hq y hy).1;rw[<-hp];exact(wE.1 this).2
 have hleft:∀y,iH ts k inn y=true->left y=true:=λy hy=>by
  cases e:left y with
  |true=>rfl
  |false=>
   have h1:=(hkn y).1 hy;have:=h.cls y k h1.1.inn e h1.symm;rw[hl] at this;cases this
 refine⟨λy hy=>h.sub y ((hd y).1 hy).1,?_,?_,?_,?_,?_,?_,?_⟩
 .intro y z hy hly ht;rw[hdf] at hly|-;rcases hly with hly|hly
  .exact .inl (h.cls y z hy hly ht)
  .exact .inr ((hkn z).2 (((hkn y).1 hly).trans ht))
 .intro x hx hr;rw[hdf];rcases ax.1 hx with hx|hx
  .exact .inl (h.seen x hx hr)
  .have hx:x=k:=by simpa using hx
   subst hx;exact .inr hkk
 .intro y hy hly;rcases(hdf y).1 hly with hly|hly
  .obtain⟨q,hq,hqs⟩:=h.cov y hy hly;exact⟨q,el _ hq,hqs⟩
  .exact⟨p,List.mem_append_right _ (List.mem_cons_self ..),by rw[hp];exact hly⟩
 .intro q hq y hy;rcases ax.1 hq with hq|hq
  .obtain⟨h1,h2,h3⟩:=h.out q hq y hy;exact⟨h1,(hdf y).2 (.inl h2),h3⟩
  .have h1:=hin q hq y hy;have h2:=(hkn y).1 h1;exact⟨h2.1.inn,(hdf y).2 (.inr h1),(h2.symm.self).1⟩
 .intro q hq;rcases ax.1 hq with hq|hq
  .exact h.ok q hq
  .rcases aS.1 hq with rfl|hq
   .exact hok
   .rcases hsub with ⟨_,rfl⟩|⟨_,hF⟩
    .cases hq
    .exact hF.ok q hq
 .rw[dP];refine⟨h.pw,?_,λa ha b hb=>.inl λy hy=>?_⟩
  .rw[dW];rcases hsub with ⟨_,rfl⟩|⟨h2,hF⟩
   .exact⟨λq hq=>absurd hq (by simp),List.Pairwise.nil⟩
   .refine⟨λq hq=>.inr ⟨h2,λy hy=>?_⟩,hF.pw⟩;have:=wE.1 (hF.out q hq y hy).1;exact⟨this.2,this.1⟩
  .cases e:b.s y with
   |false=>rfl
   |true=>
    have h1:=hleft y (hin b hb y e);have h2:=(h.out a ha y hy).2.1;rw[h1] at h2;cases h2
 .intro q hq h2 b hb hr;rcases ax.1 hq with hq|hq
  .obtain⟨q',h3,h4⟩:=h.inner q hq h2 b hb hr;exact⟨q',el _ h3,h4⟩
  .rcases hsub with ⟨h3,rfl⟩|⟨h3,hF⟩
   .have:q=p:=by simpa using hq
    subst this;rw[h3] at h2;cases h2
   .rcases aS.1 hq with rfl|hq
    .obtain⟨q',h4,h5⟩:=hF.ring b hr.inn hr;refine⟨q',by simp[h4],h5,λy hy=>?_⟩;have:=wE.1 (hF.out q' h4 y hy).1;exact⟨this.2,this.1⟩
    .obtain⟨q',h4,h5⟩:=hF.inner q hq h2 b hb hr;exact⟨q',by simp[h4],h5⟩
end
theorem FH{α β:Type}{f:β->α->β}(I:List α->β->Prop):∀(r d:List α) (b:β),I d b->(∀d x b,x∈r->I d b->I (d++ [x]) (f b x))->I (d++r) (r.foldl f b)
 | [],d,b,h,_=>by simpa using h
 |x :: r,d,b,h,hs=>by
  rw[show d++x :: r=(d++ [x])++r by simp,ed];exact FH I r (d++ [x]) (f b x) (hs d x b (by simp) h) (λd y b hy=>hs d y b (by simp[hy]))
theorem OU{ts:List fS}(hf:jK ts=true):∀(f:Nat) (inn:Nat->Bool),iV inn->(∀y,inn y=true->y<ts.length)->(gQ inn).length<f->QK ts inn (nG ts f inn):=by
 intro f
 induction f with
 |zero=>intro inn _ _ h;omega
 |succ f ih=>
  intro inn hc hin hlen;have key:yP ts inn ([]++gQ inn) ((gQ inn).foldl (xY ts (nG ts f) inn) (inn,[])).1 ((gQ inn).foldl (xY ts (nG ts f) inn) (inn,[])).2:=by
   refine FH (λd (st:(Nat->Bool)×List fJ)=>yP ts inn d st.1 st.2) _ _ _ ⟨λy h=>h,λy z h1 h2=>(by cases h1.symm.trans h2),λk hk=>(by cases hk),λy h1 h2=>(by cases h1.symm.trans h2),λp hp=>(by cases hp),λp hp=>(by cases hp),List.Pairwise.nil,λp hp=>(by cases hp)⟩ ?_;intro d k st hk h;have hk':=(kV hc k).1 hk;unfold xY;by_cases hkk:(st.1 k&&iH ts k inn k)=true
   .rw[aM hkk];simp only[aB] at hkk;by_cases he:1<(fV ts (iH ts k inn)).length
    .rw[aM he];have hok:=ly hf hc hin hkk.2 3 (-1) (.inl ⟨rfl,rfl,he⟩);exact h.found hc hk' hkk.1 hkk.2 ⟨_,3,-1⟩ rfl hok [] (.inl ⟨rfl,rfl⟩)
    .rw[az he];have hcn:iV (iH ts k inn):=xN hc k;have hlow:∀y,iH ts k inn y=true->1<=y/\y<ts.length:=λy hy=>by
      obtain⟨x,_,hx⟩:=BV ((mS hc k y).1 hy).2.1;exact AF (gT hf).1 hx
     have he0:=GR (mh hf hcn hkk.2 hlow) he;generalize (fV ts (iH ts k inn)).headD 0=e at *;have hes:iH ts k inn e=true:=((mI hcn e).1 (by rw[he0];simp)).1;have hok:=ly hf hc hin hkk.2 2 (e:Int) (.inr ⟨rfl,by omega,by simpa using he0⟩);refine h.found hc hk' hkk.1 hkk.2 ⟨_,2,(e:Int)⟩ rfl hok _ (.inr ⟨rfl,?_⟩);refine ih _ (uJ hcn _) (λy hy=>(hlow y (wE.1 hy).2).2) ?_;exact bw (VK (s:=iH ts k inn) (inn:=inn) (e:=e) (λy hy=>((mS hc k y).1 hy).2.1.inn) hc hes) (by omega)
   .rw[az hkk];exact h.skip hc hk' hkk
  simp only[bD] at key;rw[nG]
  exact {
   ring:=λb hb hr=>key.cov b hb (key.seen b ((kV hc b).2 hb) hr)
   out:=λp hp y hy=>⟨(key.out p hp y hy).1,(key.out p hp y hy).2.2⟩
   ok:=key.ok
   pw:=key.pw
   inner:=key.inner}
end

section
def mO(n:Nat):fJ:=⟨fM n,1,0⟩
def pJ(k:Nat)(best p:fJ):fJ:=if p.s k&&lQ p.s best.s then p else best
def iD(n:Nat)(ps:List fJ)(k:Nat):fJ:=ps.foldl (pJ k) (mO n)
def oJ(ts:List fS)(k:Nat)(of:Nat->Bool):Nat->Bool:=λx=>of x&& !(x==0||iZ (nx ts) (iU (fM ts.length) k) 0 x)
def mV(ts:List fS)(ps:List fJ)(k:Nat):Option fJ:=
 if (pv ts k).length=1/\(nx ts ((pv ts k).headD 0)).length=2/\(iD ts.length ps k).kind≠3/\(iD ts.length ps k).entry≠k/\1<(gQ (oJ ts k (iD ts.length ps k).s)).length then
  some ⟨oJ ts k (iD ts.length ps k).s,4,k⟩ else none
def wY(ts:List fS)(ps:List fJ):List fJ:=(List.range ts.length).filterMap (mV ts ps)
def lM(ts:List fS):List fJ:=nG ts 201 (fM ts.length)++wY ts (nG ts 201 (fM ts.length))
def kY(a b:Nat->Bool):Prop:=(∀y,a y=true->b y=true)/\∃y,b y=true/\a y=false
theorem within_iff{a b:Nat->Bool}(ha:iV a)(hb:iV b):lQ a b=true↔kY a b:=by
 simp only[lQ,aB,aV,dm]
 constructor
 .rintro⟨h1,h2⟩;have h1:∀y,a y=true->b y=true:=λy hy=>h1 y ((kV ha y).2 hy);refine⟨h1,bE λhn=>?_⟩;have e:a=b:=by
   funext y
   cases e:b y with
   |false=>
    cases e2:a y with
    |false=>rfl
    |true=>rw[h1 y e2] at e;cases e
   |true=>
    cases e2:a y with
    |true=>rfl
    |false=>exact absurd ⟨y,e,e2⟩ hn
  rw[(QZ ha hb).2 e] at h2;cases h2
 .rintro⟨h1,y,h2,h3⟩;refine⟨λy hy=>h1 y ((kV ha y).1 hy),?_⟩;cases e:eqS a b with
  |false=>rfl
  |true=>rw[(QZ ha hb).1 e,h2] at h3;cases h3
def m5(a b:Nat->Bool):Prop:=∀y,a y=true->b y=false
theorem m5.symm{a b:Nat->Bool}(h:m5 a b):m5 b a:=λy hy=>by
 cases e:a y with
 |false=>rfl
 |true=>rw[h y e] at hy;cases hy
def yQ(p q:fJ):Prop:=m5 p.s q.s\/kY p.s q.s\/kY q.s p.s
theorem yQ.symm{p q:fJ}(h:yQ p q):yQ q p:=h.elim (λh=>.inl h.symm) λh=>.inr h.symm
theorem kY.irrefl{a:Nat->Bool}(h:kY a a):False:=by obtain⟨_,y,h1,h2⟩:=h;rw[h1] at h2;cases h2
theorem kY.trans{a b c:Nat->Bool}(h:kY a b)(k:kY b c):kY a c:=by
 obtain⟨h1,y,h2,h3⟩:=h
 exact⟨λy hy=>k.1 y (h1 y hy),y,k.1 y h2,h3⟩
theorem kY.asymm{a b:Nat->Bool}(h:kY a b)(k:kY b a):False:=(h.trans k).irrefl
def Dom(ts:List fS)(k x:Nat):Prop:=¬Reach (nx ts) (iU (fM ts.length) k) 0 x
section
variable {ts:List fS}
theorem xu(k:Nat):Dom ts k k:=λh=>by have:=h.inn;simp[iU] at this
theorem kR{k y:Nat}:iU (fM ts.length) k y=true↔y≠k/\y<ts.length:=by simp[iU,fM]
theorem qt{a b x:Nat}(h:Dom ts a b)(k:Dom ts b x):Dom ts a x:=by
 intro hr
 have key:∀y,Reach (nx ts) (iU (fM ts.length) a) 0 y->Reach (nx ts) (iU (fM ts.length) b) 0 y:=by
  intro y hr
  induction hr with
  | @one y hy hi=>
    by_cases e:y=b
    .subst e;exact absurd (.one hy hi) h
    .exact .one hy (kR.2 ⟨e,(kR.1 hi).2⟩)
  | @step x y hx hy hi ih=>
    by_cases e:y=b
    .subst e;exact absurd (.step hx hy hi) h
    .exact .step ih hy (kR.2 ⟨e,(kR.1 hi).2⟩)
 exact k (key x hr)
theorem WB{a b:Nat}(hr:Reach (nx ts) (fM ts.length) 0 a)(hne:a≠b)(h:Dom ts a b)(k:Dom ts b a):False:=by
 have key:∀y,Reach (nx ts) (fM ts.length) 0 y->Reach (nx ts) (iU (iU (fM ts.length) a) b) 0 y:=by
  have ex:∀y x,(x=0\/Reach (nx ts) (iU (iU (fM ts.length) a) b) 0 x)->y∈nx ts x->fM ts.length y=true->Reach (nx ts) (iU (iU (fM ts.length) a) b) 0 y:=by
   intro y x hx hy hi;have hi2:y<ts.length:=by simpa[fM] using hi
   have up:∀(c:Nat),(∀z,iU (iU (fM ts.length) a) b z=true->iU (fM ts.length) c z=true)->y≠c->Reach (nx ts) (iU (fM ts.length) c) 0 y:=λc hc hyc=>by
    rcases hx with rfl|hx
    .exact .one hy (kR.2 ⟨hyc,hi2⟩)
    .exact .step (hx.mono hc) hy (kR.2 ⟨hyc,hi2⟩)
   by_cases e1:y=a
   .subst e1;exact absurd (up b (λz hz=>by simp[iU] at hz|-;exact⟨hz.1,hz.2.2⟩) hne) k
   .by_cases e2:y=b
    .subst e2;exact absurd (up a (λz hz=>by simp[iU] at hz|-;exact hz.2) (λe=>hne e.symm)) h
    .have hin:iU (iU (fM ts.length) a) b y=true:=by simp[iU,fM,e1,e2,hi2]
     rcases hx with rfl|hx
     .exact .one hy hin
     .exact .step hx hy hin
  intro y hr
  induction hr with
  |one hy hi=>exact ex _ _ (.inl rfl) hy hi
  |step hx hy hi ih=>exact ex _ _ (.inr ih) hy hi
 have:=(key a hr).inn
 simp[iU] at this
theorem qu{a b x:Nat}(hr:Reach (nx ts) (fM ts.length) 0 x)(h:Dom ts a x)(k:Dom ts b x):Dom ts a b\/Dom ts b a:=by
 apply bE
 intro hn
 rw[not_or] at hn
 have h1:=Classical.not_not.1 hn.1
 have h2:=Classical.not_not.1 hn.2
 have key:∀y,Reach (nx ts) (fM ts.length) 0 y->Reach (nx ts) (iU (fM ts.length) a) 0 y\/Reach (nx ts) (iU (fM ts.length) b) 0 y:=by
  intro y hr
  induction hr with
  | @one y hy hi=>
    have hi2:y<ts.length:=by simpa[fM] using hi
    by_cases e:y=a
    .subst e;exact .inr h2
    .exact .inl (.one hy (kR.2 ⟨e,hi2⟩))
  | @step x y hx hy hi ih=>
    have hi2:y<ts.length:=by simpa[fM] using hi
    by_cases e:y=a
    .subst e;exact .inr h2
    .by_cases e2:y=b
     .subst e2;exact .inl h1
     .rcases ih with ih|ih
      .exact .inl (.step ih hy (kR.2 ⟨e,hi2⟩))
      .exact .inr (.step ih hy (kR.2 ⟨e2,hi2⟩))
 rcases key x hr with hk|hk
 .exact h hk
 .exact k hk
theorem mi{s:Nat->Bool}(hs:∀y,s y=true->y<ts.length)(ht:∀a b,s a=true->s b=true->Reach (nx ts) s a b){k x:Nat}(hk:s k=false)(hx:s x=true)(hd:Dom ts k x):∀y,s y=true->Dom ts k y:=by
 intro y hy hr
 refine hd (hr.trans ((ht y x hy hx).mono λz hz=>kR.2 ⟨λe=>?_,hs z hz⟩))
 subst e
 rw[hk] at hz
 cases hz
theorem GE{next:Nat->List Nat}{inn:Nat->Bool}{a b:Nat}(h:Reach next inn a b)(s:Nat->Bool)(ha:s a=false)(hb:s b=true):∃x y,(x=a\/Reach next (oS inn s) a x)/\s x=false/\y∈next x/\s y=true/\inn y=true:=by
 have key:∀y,Reach next inn a y->(∃x z,(x=a\/Reach next (oS inn s) a x)/\s x=false/\z∈next x/\s z=true/\inn z=true)\/(s y=false/\Reach next (oS inn s) a y):=by
  have ex:∀x y,s x=false->(x=a\/Reach next (oS inn s) a x)->y∈next x->inn y=true->(∃x z,(x=a\/Reach next (oS inn s) a x)/\s x=false/\z∈next x/\s z=true/\inn z=true)\/(s y=false/\Reach next (oS inn s) a y):=by
   intro x y hsx hx hy hi;cases e:s y with
   |true=>exact .inl ⟨x,y,hx,hsx,hy,e,hi⟩
   |false=>
    have hd:oS inn s y=true:=by simp[oS,e,hi]
    refine .inr ⟨rfl,?_⟩;rcases hx with rfl|hx
    .exact .one hy hd
    .exact .step hx hy hd
  intro y hr
  induction hr with
  |one hy hi=>exact ex _ _ ha (.inl rfl) hy hi
  |step hx hy hi ih=>
   rcases ih with ih|⟨h1,h2⟩
   .exact .inl ih
   .exact ex _ _ h1 (.inr h2) hy hi
 rcases key b h with h1|⟨h1,_⟩
 .exact h1
 .rw[hb] at h1;cases h1
theorem LQ{p:fJ}(hf:jK ts=true)(hok:JM ts p)(h2:p.kind=2){k:Nat}(hk:p.s k=true)(hne:k≠p.entry.toNat):¬Dom ts k p.entry.toNat/\p.s p.entry.toNat=true:=by
 obtain⟨hg,hl,hr⟩:=gT hf
 have hcan:iV p.s:=λy hy=>by have:=hok.low y hy;omega
 have he:fV ts p.s= [p.entry.toNat]:=by
  rcases hok.ent with ⟨h,_⟩|⟨_,_,h⟩
  .rw[h2] at h;cases h
  .exact h
 have hes:=(mI hcan p.entry.toNat).1 (by rw[he];simp)
 refine⟨λhd=>?_,hes.1⟩
 have h0:p.s 0=false:=by
  cases e:p.s 0 with
  |false=>rfl
  |true=>have:=hok.low 0 e;omega
 obtain⟨x,y,hx,h3,h4,h5,h6⟩:=GE (hr k (hok.low k hk).1 (hok.low k hk).2) p.s h0 hk
 have hy:y=p.entry.toNat:=by
  have:y∈fV ts p.s:=(mI hcan y).2 ⟨h5,(hok.low y h5).2,x,h4,h3⟩;rw[he] at this;simpa using this
 subst hy
 have hin:iU (fM ts.length) k p.entry.toNat=true:=kR.2 ⟨λe=>hne e.symm,hes.2.1⟩
 rcases hx with rfl|hx
 .exact hd (.one h4 hin)
 .refine hd (.step (hx.mono λz hz=>?_) h4 hin);simp only[oS] at hz
  split at hz
  .cases hz
  .rename_i hz2
   refine kR.2 ⟨λe=>?_,by simpa[fM] using hz⟩;subst e;exact hz2 hk
end
end

section
structure tM(ts:List fS)(ps:List fJ):Prop where
 some:∀p∈ps,∃y,p.s y=true
 low:∀p∈ps,∀y,p.s y=true->1<=y/\y<ts.length
 kind:∀p∈ps,p.kind=2\/p.kind=3\/p.kind=4
 pw:ps.Pairwise yQ
 noreg:∀p∈ps,p.kind=3->∀q∈ps,¬kY q.s p.s
 ent:∀p∈ps,p.kind≠3->0<=p.entry/\fV ts p.s= [p.entry.toNat]/\p.s p.entry.toNat=true/\∀q∈ps,kY q.s p.s->q.s p.entry.toNat=false
 ent3:∀p∈ps,p.kind=3->1<(fV ts p.s).length
 tog:∀p∈ps,p.kind≠4->∀a b,p.s a=true->p.s b=true->Reach (nx ts) p.s a b
 ring2:∀p∈ps,p.kind=2->∀b,p.s b=true->(∀q∈ps,kY q.s p.s->q.s b=false)->¬Reach (nx ts) (iU p.s p.entry.toNat) b b
 ring4:∀p∈ps,p.kind=4->∀b,p.s b=true->(∀q∈ps,kY q.s p.s->q.s b=false)->¬Reach (nx ts) p.s b b
 ring1:∀b,(∀q∈ps,q.s b=false)->¬Reach (nx ts) (fM ts.length) b b
theorem zt{α:Type}{R:α->α->Prop}{l:List α}(h:l.Pairwise R){p q:α}(hp:p∈l)(hq:q∈l):p=q\/R p q\/R q p:=by
 induction l with
 |nil=>cases hp
 |cons x l ih=>
  rw[dW] at h;rcases aS.1 hp with ep|hp'
  .rcases aS.1 hq with eq|hq'
   .exact .inl (ep.trans eq.symm)
   .exact .inr (.inl (ep▸h.1 q hq'))
  .rcases aS.1 hq with eq|hq'
   .exact .inr (.inr (eq▸h.1 p hp'))
   .exact ih h.2 hp' hq'
section
variable {ts:List fS} {ps:List fJ} (hf:jK ts=true) (F:QK ts (fM ts.length) ps)
include hf F
omit hf in
theorem wG{p:fJ}(hp:p∈ps)(hl:ts.length<=200):iV p.s:=λy hy=>by have:=(F.ok p hp).low y hy;omega
omit hf in
theorem wF{p q:fJ}(hp:p∈ps)(hq:q∈ps):p=q\/m5 p.s q.s\/(p.kind=2/\p.s p.entry.toNat=true/\∀y,q.s y=true->p.s y=true/\y≠p.entry.toNat)\/(q.kind=2/\q.s q.entry.toNat=true/\∀y,p.s y=true->q.s y=true/\y≠q.entry.toNat):=by
 have ent:∀p∈ps,p.kind=2->(∃q∈ps,∀y,q.s y=true->p.s y=true/\y≠p.entry.toNat)->p.s p.entry.toNat=true:=by
  intro p hp h2 _;rcases(F.ok p hp).ent with ⟨h,_⟩|⟨_,_,h⟩
  .rw[h2] at h;cases h
  .have:p.entry.toNat∈fV ts p.s:=by rw[h];simp
   simp only[fV,bI,gQ] at this;exact this.1.2
 rcases zt F.pw hp hq with h|(h|⟨h1,h2⟩)|(h|⟨h1,h2⟩)
 .exact .inl h
 .exact .inr (.inl h)
 .exact .inr (.inr (.inl ⟨h1,ent p hp h1 ⟨q,hq,h2⟩,h2⟩))
 .exact .inr (.inl (m5.symm h))
 .exact .inr (.inr (.inr ⟨h1,ent q hq h1 ⟨p,hp,h2⟩,h2⟩))
theorem ZT{k:Nat}(hk:k<ts.length):(iD ts.length ps k).s k=true/\(iD ts.length ps k=mO ts.length\/iD ts.length ps k∈ps)/\∀q∈ps,q.s k=true->∀y,(iD ts.length ps k).s y=true->q.s y=true:=by
 obtain⟨hg,hl,hr⟩:=gT hf
 rw[iD]
 have key:(λ(d:List fJ) (best:fJ)=>best.s k=true/\(best=mO ts.length\/best∈ps)/\∀q∈d,q.s k=true->∀y,best.s y=true->q.s y=true) ([]++ps) (ps.foldl (pJ k) (mO ts.length)):=by
  refine FH (λ(d:List fJ) (best:fJ)=>best.s k=true/\(best=mO ts.length\/best∈ps)/\∀q∈d,q.s k=true->∀y,best.s y=true->q.s y=true) _ _ _ ⟨by simp[mO,fM,hk],.inl rfl,λq hq=>by cases hq⟩ ?_;intro d q best hq ⟨h1,h2,h3⟩;unfold pJ;have cq:=wG F hq hl.2;have cb:iV best.s:=by
   rcases h2 with rfl|h2
   .exact nE hl.2
   .exact wG F h2 hl.2
  by_cases hw:(q.s k&&lQ q.s best.s)=true
  .rw[aM hw];rw[aB,within_iff cq cb] at hw;refine⟨hw.1,.inr hq,λq' hq' hk' y hy=>?_⟩;rcases ax.1 hq' with hq'|hq'
   .exact h3 q' hq' hk' y (hw.2.1 y hy)
   .have:q'=q:=by simpa using hq'
    subst this;exact hy
  .rw[az hw];refine⟨h1,h2,λq' hq' hk' y hy=>?_⟩;rcases ax.1 hq' with hq'|hq'
   .exact h3 q' hq' hk' y hy
   .have:q'=q:=by simpa using hq'
    subst this;rw[aB,within_iff cq cb,not_and] at hw;have hw:=hw hk';rcases h2 with rfl|h2
    .refine absurd ⟨λz hz=>?_,0,?_,?_⟩ hw
     .have:=(F.ok q' hq).low z hz;simp[mO,fM];omega
     .simp[mO,fM];omega
     .cases e:q'.s 0 with
      |false=>rfl
      |true=>have:=(F.ok q' hq).low 0 e;omega
    .rcases wF F h2 hq with rfl|h|⟨_,h4,h5⟩|⟨_,h4,h5⟩
     .exact hy
     .rw[h k h1] at hk';cases hk'
     .refine absurd ⟨λz hz=>(h5 z hz).1,_,h4,?_⟩ hw;cases e:q'.s best.entry.toNat with
      |false=>rfl
      |true=>exact absurd rfl (h5 _ e).2
     .exact(h5 y hy).1
 simpa using key
omit F in
theorem XI{k x:Nat}(hk:1<=k)(of:Nat->Bool):oJ ts k of x=true↔of x=true/\1<=x/\Dom ts k x:=by
 obtain⟨hg,hl,hr⟩:=gT hf
 simp only[oJ,aB,dm,cV,eT]
 have h0:iU (fM ts.length) k 0=true:=kR.2 ⟨by omega,by omega⟩
 have:=pI (uJ (nE hl.2) k) (next:=nx ts) 0 x
 rw[h0] at this
 simp only[true_and] at this
 constructor
 .rintro⟨h1,h2,h3⟩;exact⟨h1,by omega,λh=>by rw[this.2 h] at h3;cases h3⟩
 .rintro⟨h1,h2,h3⟩;refine⟨h1,by omega,?_⟩;cases e:iZ (nx ts) (iU (fM ts.length) k) 0 x with
  |false=>rfl
  |true=>exact absurd (this.1 e) h3
structure oV(ts:List fS)(ps:List fJ)(c:fJ)(k:Nat)(p:fJ):Prop where
 low:1<=k/\k<ts.length
 from_:∃b,pv ts k= [b]
 c4:c.kind=4
 ce:c.entry=k
 small:p.s k=true/\(p=mO ts.length\/p∈ps)/\∀q∈ps,q.s k=true->∀y,p.s y=true->q.s y=true
 no3:p.kind≠3
 noe:p.entry≠k
 set:∀x,c.s x=true↔p.s x=true/\1<=x/\Dom ts k x
theorem RC{c:fJ}{k:Nat}(hk:k<ts.length)(h:mV ts ps k=some c):∃p,oV ts ps c k p:=by
 unfold mV at h
 split at h
 case isFalse=>cases h
 case isTrue hc=>
  obtain⟨h1,h2,h3,h4,h5⟩:=hc;simp only[aW] at h;subst h;obtain⟨b,hb⟩:∃b,pv ts k= [b]:=by
   match e:pv ts k,h1 with
   | [b],_=>exact⟨b,rfl⟩
  have hk1:1<=k:=by
   have:k∈nx ts b:=(vS ts k b).1 (by rw[hb];simp);exact(AF (gT hf).1 this).1
  exact⟨iD ts.length ps k,⟨hk1,hk⟩,⟨b,hb⟩,rfl,rfl,ZT hf F hk,h3,h4,λx=>XI hf hk1 _⟩
end
section
variable {ts:List fS} {ps:List fJ} {c p:fJ} {k:Nat} (hf:jK ts=true) (F:QK ts (fM ts.length) ps) (C:oV ts ps c k p)
include hf F C
omit hf F in
theorem oV.self:c.s k=true:=(C.set k).2 ⟨C.small.1,C.low.1,xu k⟩
theorem oV.lows:∀y,c.s y=true->1<=y/\y<ts.length:=λy hy=>by
 obtain⟨h1,h2,_⟩:=(C.set y).1 hy
 rcases C.small.2.1 with h|h
 .rw[h] at h1;simp[mO,fM] at h1;exact⟨h2,h1⟩
 .exact(F.ok p h).low y h1
omit hf in
theorem oV.kinds:p=mO ts.length\/(p∈ps/\p.kind=2):=by
 rcases C.small.2.1 with h|h
 .exact .inl h
 .rcases(F.ok p h).ent with ⟨h2,_⟩|⟨h2,_⟩
  .exact absurd h2 C.no3
  .exact .inr ⟨h,h2⟩
theorem oV.entry_out(hp:p∈ps):p.s p.entry.toNat=true/\c.s p.entry.toNat=false:=by
 have h2:p.kind=2:=by
  rcases(F.ok p hp).ent with ⟨h2,_⟩|⟨h2,_⟩
  .exact absurd h2 C.no3
  .exact h2
 have he0:0<=p.entry:=by
  rcases(F.ok p hp).ent with ⟨h,_⟩|⟨_,h,_⟩
  .rw[h2] at h;cases h
  .exact h
 have hne:k≠p.entry.toNat:=λe=>C.noe (by omega)
 obtain⟨h3,h4⟩:=LQ hf (F.ok p hp) h2 C.small.1 hne
 refine⟨h4,?_⟩
 cases e:c.s p.entry.toNat with
 |false=>rfl
 |true=>exact absurd ((C.set _).1 e).2.2 h3
theorem oV.loop_in{q:fJ}(hq:q∈ps)(hk:q.s k=false){x:Nat}(hx:q.s x=true)(hc:c.s x=true):kY q.s c.s:=by
 obtain⟨h1,h2,h3⟩:=(C.set x).1 hc
 have hd:=mi (λy hy=>((F.ok q hq).low y hy).2) (F.ok q hq).tog hk hx h3
 refine⟨λy hy=>(C.set y).2 ⟨?_,((F.ok q hq).low y hy).1,hd y hy⟩,k,C.self,hk⟩
 rcases C.small.2.1 with h|h
 .rw[h];simp[mO,fM];exact((F.ok q hq).low y hy).2
 .rcases wF F h hq with rfl|h4|⟨_,_,h4⟩|⟨_,_,h4⟩
  .exact hy
  .rw[h4 x h1] at hx;cases hx
  .exact(h4 y hy).1
  .rw[(h4 k C.small.1).1] at hk;cases hk
theorem oV.in_loop{q:fJ}(hq:q∈ps)(hk:q.s k=true):kY c.s q.s:=by
 have h1:=C.small.2.2 q hq hk
 rcases C.small.2.1 with h|h
 .exfalso;have:=h1 0 (by rw[h];simp[mO,fM];have:=(gT hf).2.1;omega);have:=(F.ok q hq).low 0 this;omega
 .obtain⟨h2,h3⟩:=C.entry_out hf F h;exact⟨λy hy=>h1 y ((C.set y).1 hy).1,_,h1 _ h2,h3⟩
theorem oV.loop_apart{q:fJ}(hq:q∈ps):yQ q c:=by
 cases hk:q.s k with
 |true=>exact .inr (.inr (C.in_loop hf F hq hk))
 |false=>
  by_cases hx:∃x,q.s x=true/\c.s x=true
  .obtain⟨x,h1,h2⟩:=hx;exact .inr (.inl (C.loop_in hf F hq hk h1 h2))
  .refine .inl λy hy=>?_;cases e:c.s y with
   |false=>rfl
   |true=>exact absurd ⟨y,hy,e⟩ hx
omit F in
theorem oV.reach:Reach (nx ts) (fM ts.length) 0 k:=(gT hf).2.2 k C.low.1 C.low.2
theorem oV.cond_in{c' p':fJ}{k':Nat}(C':oV ts ps c' k' p')(hne:k≠k'){x:Nat}(h:c.s x=true)(h':c'.s x=true)(hd:Dom ts k k'):kY c'.s c.s:=by
 have hnd:¬Dom ts k' k:=λh2=>WB (C.reach hf) hne hd h2
 have hsub:∀y,p'.s y=true->y<ts.length->p.s y=true:=by
  intro y hy hyl;rcases C.small.2.1 with h1|h1
  .rw[h1];simp[mO,fM,hyl]
  .cases e:p.s k' with
   |true=>exact C'.small.2.2 p h1 e y hy
   |false=>
    exact absurd (mi (λy hy=>((F.ok p h1).low y hy).2) (F.ok p h1).tog e ((C.set x).1 h).1 ((C'.set x).1 h').2.2 k C.small.1) hnd
 refine⟨λy hy=>?_,k,C.self,?_⟩
 .have h1:=(C'.set y).1 hy;exact(C.set y).2 ⟨hsub y h1.1 (C'.lows hf F y hy).2,h1.2.1,qt hd h1.2.2⟩
 .cases e:c'.s k with
  |false=>rfl
  |true=>exact absurd ((C'.set k).1 e).2.2 hnd
theorem oV.cond_apart{c' p':fJ}{k':Nat}(C':oV ts ps c' k' p')(hne:k≠k'):yQ c c':=by
 by_cases hx:∃x,c.s x=true/\c'.s x=true
 .obtain⟨x,h1,h2⟩:=hx;have hl:=C.lows hf F x h1;rcases qu ((gT hf).2.2 x hl.1 hl.2) ((C.set x).1 h1).2.2 ((C'.set x).1 h2).2.2 with hd|hd
  .exact .inr (.inr (C.cond_in hf F C' hne h1 h2 hd))
  .exact .inr (.inl (C'.cond_in hf F C (λe=>hne e.symm) h2 h1 hd))
 .refine .inl λy hy=>?_;cases e:c'.s y with
  |false=>rfl
  |true=>exact absurd ⟨y,hy,e⟩ hx
theorem oV.entries:fV ts c.s= [k]:=by
 have hl:=(gT hf).2.1
 have hcan:iV c.s:=λy hy=>by have:=(C.lows hf F y hy).2;omega
 have hnd:(fV ts c.s).Nodup:=(List.nodup_range.filter _).filter _
 have hm:∀x,x∈fV ts c.s↔x=k:=by
  intro x;rw[mI hcan];constructor
  .rintro⟨h1,h2,y,h3,h4⟩;apply bE;intro hne;obtain⟨h5,h6,h7⟩:=(C.set x).1 h1;have hyl:y<ts.length:=by
    apply bE;intro hn;rw[AE ts y (by omega)] at h3;cases h3
   have hin:iU (fM ts.length) k x=true:=kR.2 ⟨hne,h2⟩;have hy0:1<=y:=by
    cases y with
    |zero=>exact absurd (.one h3 hin) h7
    |succ y=>omega
   have hyd:Dom ts k y:=λhr=>h7 (.step hr h3 hin);have hyp:p.s y=false:=by
    cases e:p.s y with
    |false=>rfl
    |true=>rw[(C.set y).2 ⟨e,hy0,hyd⟩] at h4;cases h4
   rcases C.kinds F with h|⟨h,h2k⟩
   .rw[h] at hyp;simp[mO,fM] at hyp;omega
   .have hpc:=wG F h hl.2;have he:fV ts p.s= [p.entry.toNat]:=by
     rcases(F.ok p h).ent with ⟨h8,_⟩|⟨_,_,h8⟩
     .rw[h2k] at h8;cases h8
     .exact h8
    have:x∈fV ts p.s:=(mI hpc x).2 ⟨h5,h2,y,h3,hyp⟩;rw[he] at this;have:x=p.entry.toNat:=by simpa using this
    rw[this,(C.entry_out hf F h).2] at h1;cases h1
  .rintro rfl;obtain⟨b,hb⟩:=C.from_;have hbk:x∈nx ts b:=(vS ts x b).1 (by rw[hb];simp);refine⟨C.self,C.low.2,b,hbk,?_⟩;cases e:c.s b with
   |false=>rfl
   |true=>
    exfalso;obtain⟨h1,h2,h3⟩:=(C.set b).1 e;obtain⟨y,z,hy,h4,h5,h6,_⟩:=GE (C.reach hf) (λz=>z==x) (by have:=C.low.1;simp;omega) (by simp);have hz:z=x:=by simpa using h6
    subst hz;have:y∈pv ts z:=(vS ts z y).2 h5;rw[hb] at this;have hyb:y=b:=by simpa using this
    subst hyb;rcases hy with rfl|hy
    .omega
    .refine h3 (hy.mono λu hu=>?_);simp only[oS] at hu
     split at hu
     .cases hu
     .rename_i hu2
      exact kR.2 ⟨by simpa using hu2,by simpa[fM] using hu⟩
 match e:fV ts c.s,hnd,hm with
 | [],_,hm=>have:=(hm k).2 rfl;cases this
 | [x],_,hm=>rw[(hm x).1 (by simp)]
 |x :: y :: l,hnd,hm=>
  have h1:=(hm x).1 (by simp);have h2:=(hm y).1 (by simp);rw[h1,h2] at hnd;simp at hnd
theorem oV.ring(b:Nat)(hb:c.s b=true)(hno:∀q∈ps,kY q.s c.s->q.s b=false):¬Reach (nx ts) c.s b b:=by
 intro hr
 have fin:∀q∈ps,q.s b=true->q.s k=true:=λq hq hqb=>by
  cases e:q.s k with
  |true=>rfl
  |false=>rw[hno q hq (C.loop_in hf F hq e hqb hb)] at hqb;cases hqb
 rcases C.kinds F with h|⟨h,h2⟩
 .obtain⟨q,hq,hqb⟩:=F.ring b (by simp[fM];exact(C.lows hf F b hb).2) (hr.mono λy hy=>by simp[fM];exact(C.lows hf F y hy).2);have:=C.small.2.2 q hq (fin q hq hqb) 0 (by rw[h];simp[mO,fM];have:=(gT hf).2.1;omega);have:=(F.ok q hq).low 0 this;omega
 .obtain⟨h3,h4⟩:=C.entry_out hf F h;obtain⟨q,hq,hqb,h5⟩:=F.inner p h h2 b ((C.set b).1 hb).1 (hr.mono λy hy=>wE.2 ⟨λe=>(by subst e;rw[h4] at hy;cases hy),((C.set y).1 hy).1⟩);exact absurd rfl (h5 _ (C.small.2.2 q hq (fin q hq hqb) _ h3)).2
end
end

section
theorem wD{ts:List fS}(hf:jK ts=true):tM ts (lM ts):=by
 obtain⟨hg,hl,hr⟩:=gT hf
 have hcw:=nE (n:=ts.length) hl.2
 have F:=OU hf 201 (fM ts.length) hcw (λy hy=>by simpa[fM] using hy) (by
  have:(gQ (fM ts.length)).length<=200:=by
   have:=bX (fM ts.length) (List.range 200);simpa[gQ] using this
  omega)
 unfold lM
 generalize nG ts 201 (fM ts.length)=ps at F|-
 have HC:∀c∈wY ts ps,∃k p,oV ts ps c k p:=by
  intro c hc;simp only[wY,List.mem_filterMap,aQ] at hc;obtain⟨k,hk,hc⟩:=hc;obtain⟨p,C⟩:=RC hf F hk hc;exact⟨k,p,C⟩
 have pwc:(wY ts ps).Pairwise yQ:=by
  unfold wY;rw[List.pairwise_filterMap];refine List.pairwise_lt_range.imp_of_mem ?_;intro k k' hk hk' hlt c hc c' hc';obtain⟨p,C⟩:=RC hf F (aQ.1 hk) hc;obtain⟨p',C'⟩:=RC hf F (aQ.1 hk') hc';exact C.cond_apart hf F C' (by omega)
 have pwl:ps.Pairwise yQ:=by
  refine F.pw.imp_of_mem ?_;intro p q hp hq h;rcases h with h|⟨h2,h⟩
  .exact .inl h
  .refine .inr (.inr ⟨λy hy=>(h y hy).1,p.entry.toNat,?_,?_⟩)
   .rcases(F.ok p hp).ent with ⟨h3,_⟩|⟨_,_,h3⟩
    .rw[h2] at h3;cases h3
    .have:p.entry.toNat∈fV ts p.s:=by rw[h3];simp
     exact((mI (wG F hp hl.2) _).1 this).1
   .cases e:q.s p.entry.toNat with
    |false=>rfl
    |true=>exact absurd rfl (h _ e).2
 refine⟨?_,?_,?_,?_,?_,?_,?_,?_,?_,?_,?_⟩
 .intro p hp;rcases ax.1 hp with hp|hp
  .exact(F.ok p hp).some
  .obtain⟨k,_,C⟩:=HC p hp;exact⟨k,C.self⟩
 .intro p hp;rcases ax.1 hp with hp|hp
  .exact(F.ok p hp).low
  .obtain⟨k,_,C⟩:=HC p hp;exact C.lows hf F
 .intro p hp;rcases ax.1 hp with hp|hp
  .rcases(F.ok p hp).ent with ⟨h,_⟩|⟨h,_⟩
   .exact .inr (.inl h)
   .exact .inl h
  .obtain⟨k,_,C⟩:=HC p hp;exact .inr (.inr C.c4)
 .rw[dP];refine⟨pwl,pwc,λq hq c hc=>?_⟩;obtain⟨k,p,C⟩:=HC c hc;exact C.loop_apart hf F hq
 .intro p hp h3 q hq hs;rcases ax.1 hp with hp|hp
  .rcases ax.1 hq with hq|hq
   .obtain⟨y,hy⟩:=(F.ok q hq).some;rcases wF F hp hq with rfl|h|⟨h,_,_⟩|⟨_,_,h⟩
    .exact hs.irrefl
    .have:=h y (hs.1 y hy);rw[hy] at this;cases this
    .rw[h3] at h;cases h
    .exact hs.asymm ⟨λz hz=>(h z hz).1,by
      rename_i hqe
      exact⟨_,hqe,by
       cases e:p.s q.entry.toNat with
       |false=>rfl
       |true=>exact absurd rfl (h _ e).2⟩⟩
   .obtain⟨k,p',C⟩:=HC q hq;cases hk:p.s k with
    |true=>
     rcases C.kinds F with h|⟨h,h2⟩
     .have:=C.small.2.2 p hp hk 0 (by rw[h];simp[mO,fM];omega);have:=(F.ok p hp).low 0 this;omega
     .rcases wF F h hp with rfl|h4|⟨_,h5,h4⟩|⟨h4,_,_⟩
      .rw[h3] at h2;cases h2
      .rw[h4 k C.small.1] at hk;cases hk
      .exact absurd rfl (h4 _ (C.small.2.2 p hp hk _ h5)).2
      .rw[h3] at h4;cases h4
    |false=>
     exact hs.asymm (C.loop_in hf F hp hk (hs.1 _ C.self) C.self)
  .obtain⟨k,_,C⟩:=HC p hp;rw[C.c4] at h3;cases h3
 .intro p hp h3;rcases ax.1 hp with hp|hp
  .rcases(F.ok p hp).ent with ⟨h,_⟩|⟨h2,h0,h⟩
   .exact absurd h h3
   .have hcan:=wG F hp hl.2;have he:p.s p.entry.toNat=true:=((mI hcan _).1 (by rw[h];simp)).1;refine⟨h0,h,he,λq hq hs=>?_⟩;rcases ax.1 hq with hq|hq
    .obtain⟨y,hy⟩:=(F.ok q hq).some;rcases wF F hp hq with rfl|h4|⟨_,_,h4⟩|⟨_,h5,h4⟩
     .exact hs.irrefl.elim
     .exact h4 _ he
     .cases e:q.s p.entry.toNat with
      |false=>rfl
      |true=>exact absurd rfl (h4 _ e).2
     .exact absurd rfl (h4 _ (hs.1 _ h5)).2
    .obtain⟨k,p',C⟩:=HC q hq;cases e:q.s p.entry.toNat with
     |false=>rfl
     |true=>
      exfalso;cases hk:p.s k with
      |false=>exact hs.asymm (C.loop_in hf F hp hk he e)
      |true=>
       by_cases hke:k=p.entry.toNat
       .rcases C.small.2.1 with h4|h4
        .have:=C.small.2.2 p hp hk 0 (by rw[h4];simp[mO,fM];omega);have:=(F.ok p hp).low 0 this;omega
        .rcases wF F h4 hp with rfl|h5|⟨_,h6,h5⟩|⟨_,_,h5⟩
         .exact C.noe (by omega)
         .rw[h5 k C.small.1] at hk;cases hk
         .exact absurd rfl (h5 _ (C.small.2.2 p hp hk _ h6)).2
         .exact(h5 k C.small.1).2 hke
       .exact(LQ hf (F.ok p hp) h2 hk hke).1 ((C.set _).1 e).2.2
  .obtain⟨k,p',C⟩:=HC p hp;have he:p.entry.toNat=k:=by rw[C.ce];omega
   rw[he];refine⟨by rw[C.ce];omega,C.entries hf F,C.self,λq hq hs=>?_⟩;cases e:q.s k with
   |false=>rfl
   |true=>
    exfalso;rcases ax.1 hq with hq|hq
    .exact hs.asymm (C.in_loop hf F hq e)
    .obtain⟨k2,p2,C2⟩:=HC q hq;by_cases hkk:k=k2
     .subst hkk;have h1:=hs.2;obtain⟨y,h2,h3⟩:=h1;have hsub:∀z,p'.s z=true->p2.s z=true:=by
       intro z hz;rcases C2.small.2.1 with h4|h4
       .rw[h4];simp[mO,fM];rcases C.small.2.1 with h5|h5
        .rw[h5] at hz;simpa[mO,fM] using hz
        .exact((F.ok p' h5).low z hz).2
       .exact C.small.2.2 p2 h4 C2.small.1 z hz
      obtain⟨h4,h5,h6⟩:=(C.set y).1 h2;rw[(C2.set y).2 ⟨hsub y h4,h5,h6⟩] at h3;cases h3
     .exact WB (C.reach hf) hkk ((C.set k2).1 (hs.1 _ C2.self)).2.2 ((C2.set k).1 e).2.2
 .intro p hp h3;rcases ax.1 hp with hp|hp
  .rcases(F.ok p hp).ent with ⟨_,_,h⟩|⟨h2,_⟩
   .exact h
   .rw[h3] at h2;cases h2
  .obtain⟨k,_,C⟩:=HC p hp;rw[C.c4] at h3;cases h3
 .intro p hp h4;rcases ax.1 hp with hp|hp
  .exact(F.ok p hp).tog
  .obtain⟨k,_,C⟩:=HC p hp;exact absurd C.c4 h4
 .intro p hp h2 b hb hno hrr;rcases ax.1 hp with hp|hp
  .have he:p.s p.entry.toNat=true:=by
    rcases(F.ok p hp).ent with ⟨h3,_⟩|⟨_,_,h3⟩
    .rw[h2] at h3;cases h3
    .have:p.entry.toNat∈fV ts p.s:=by rw[h3];simp
     exact((mI (wG F hp hl.2) _).1 this).1
   obtain⟨q,hq,hqb,hin⟩:=F.inner p hp h2 b hb hrr
   have:kY q.s p.s:=⟨λy hy=>(hin y hy).1,_,he,by
    cases e:q.s p.entry.toNat with
    |false=>rfl
    |true=>exact absurd rfl (hin _ e).2⟩
   rw[hno q (el _ hq) this] at hqb;cases hqb
  .obtain⟨k,_,C⟩:=HC p hp;rw[C.c4] at h2;cases h2
 .intro p hp h4 b hb hno;rcases ax.1 hp with hp|hp
  .rcases(F.ok p hp).ent with ⟨h,_⟩|⟨h,_⟩
   .rw[h4] at h;cases h
   .rw[h4] at h;cases h
  .obtain⟨k,_,C⟩:=HC p hp;exact C.ring hf F b hb λq hq hs=>hno q (el _ hq) hs
 .intro b hno hrr;obtain⟨q,hq,hqb⟩:=F.ring b hrr.inn hrr;rw[hno q (el _ hq)] at hqb;cases hqb
theorem tM.perm{ts:List fS}{ps qs:List fJ}(h:tM ts ps)(hp:ps.Perm qs):tM ts qs:=by
 have m:∀p,p∈qs->p∈ps:=λp hq=>hp.mem_iff.2 hq
 have m2:∀p,p∈ps->p∈qs:=λp hq=>hp.mem_iff.1 hq
 exact {
  some:=λp hq=>h.some p (m p hq)
  low:=λp hq=>h.low p (m p hq)
  kind:=λp hq=>h.kind p (m p hq)
  pw:=hp.pairwise h.pw λh=>h.symm
  noreg:=λp hq h3 q hqq=>h.noreg p (m p hq) h3 q (m q hqq)
  ent:=λp hq h3=>let ⟨h1,h2,h4,h5⟩:=h.ent p (m p hq) h3;⟨h1,h2,h4,λq hqq=>h5 q (m q hqq)⟩
  ent3:=λp hq=>h.ent3 p (m p hq)
  tog:=λp hq=>h.tog p (m p hq)
  ring2:=λp hq h2 b hb hno=>h.ring2 p (m p hq) h2 b hb λq hqq=>hno q (m2 q hqq)
  ring4:=λp hq h2 b hb hno=>h.ring4 p (m p hq) h2 b hb λq hqq=>hno q (m2 q hqq)
  ring1:=λb hno=>h.ring1 b λq hqq=>hno q (m2 q hqq)}
end

section
def fH:fJ:=⟨λ_=>false,0,0⟩
def kG(qs:List fJ)(x:Nat):Nat->Nat
 |0=>0
 |k+1=>if (qs.getD k fH).s x then k+1 else kG qs x k
def lW(p:fJ):Nat:=(gQ p.s).headD 0
def mH(n:Nat)(qs:List fJ)(j:Nat):List Int:=fN ((List.range n).filter λx=>kG qs x qs.length==j)
def uR(n:Nat)(qs:List fJ)(k:Nat):fT:=⟨(qs.getD k fH).kind,(kG qs (lW (qs.getD k fH)) k:Nat),mH n qs (k+1)⟩
def kH(n:Nat)(qs:List fJ):List fT:=⟨1,-1,mH n qs 0⟩ :: (List.range qs.length).map (uR n qs)
theorem oZ(qs:List fJ)(x:Nat):∀k,kG qs x k<=k
 |0=>by simp[kG]
 |k+1=>by
  have:=oZ qs x k;simp only[kG]
  split<;>omega
theorem qU(qs:List fJ)(x:Nat):∀k j,kG qs x k=j+1->(qs.getD j fH).s x=true/\j<k
 |0,j,h=>by simp[kG] at h
 |k+1,j,h=>by
  simp only[kG] at h
  split at h
  .rename_i hx
   obtain rfl:k=j:=by omega
   exact⟨hx,by omega⟩
  .have:=qU qs x k j h;exact⟨this.1,by omega⟩
theorem rZ(qs:List fJ)(x:Nat):∀k i,i<k->(qs.getD i fH).s x=true->i+1<=kG qs x k
 |0,i,h,_=>by omega
 |k+1,i,h,hx=>by
  simp only[kG]
  split
  .omega
  .rename_i hn
   have:i≠k:=λe=>by subst e;exact hn hx
   exact rZ qs x k i (by omega) hx
section
variable {ts:List fS} {qs:List fJ} (hf:jK ts=true) (P:tM ts qs) (hord:∀i j,i<j->j<qs.length->¬kY (qs.getD i fH).s (qs.getD j fH).s)
theorem mM{i:Nat}(h:i<qs.length):qs.getD i fH∈qs:=by
 rw[ak,ah h];exact bJ _
include P hord
theorem IN{i j x:Nat}(hij:i<j)(hj:j<qs.length)(hi:(qs.getD i fH).s x=true)(hx:(qs.getD j fH).s x=true):kY (qs.getD j fH).s (qs.getD i fH).s:=by
 have hpw:=cH.1 P.pw i j (by omega) hj hij
 have e1:qs.getD i fH=qs[i]:=by simp[ak,show i<qs.length by omega]
 have e2:qs.getD j fH=qs[j]:=by simp[ak,hj]
 rw[e1] at hi|-
 rw[e2] at hx|-
 have ho:=hord i j hij hj
 rw[e1,e2] at ho
 rcases hpw with h|h|h
 .rw[h x hi] at hx;cases hx
 .exact absurd h ho
 .exact h
theorem ZA{i j x:Nat}(ho:kG qs x qs.length=j+1)(hi:i<qs.length)(hx:(qs.getD i fH).s x=true):i=j\/kY (qs.getD j fH).s (qs.getD i fH).s:=by
 obtain⟨h1,h2⟩:=qU qs x _ j ho
 have h3:=rZ qs x _ i hi hx
 by_cases e:i=j
 .exact .inl e
 .exact .inr (IN P hord (by omega) h2 hx h1)
include hf
omit hord in
theorem VX{j:Nat}(hj:j<qs.length):(qs.getD j fH).s (lW (qs.getD j fH))=true:=by
 have hl:=(gT hf).2.1
 have hm:=mM hj
 have hc:iV (qs.getD j fH).s:=λy hy=>by have:=P.low _ hm y hy;omega
 obtain⟨y,hy⟩:=P.some _ hm
 have h1:=(kV hc y).2 hy
 unfold lW
 cases e:gQ (qs.getD j fH).s with
 |nil=>rw[e] at h1;cases h1
 |cons b r=>
  simp only[List.headD_cons];exact(kV hc b).1 (by rw[e];simp)
omit P hord hf in
theorem lB(n:Nat):(kH n qs).length=qs.length+1:=by simp[kH]
omit P hord hf in
theorem vC(n:Nat):(kH n qs).getD 0 oG=⟨1,-1,mH n qs 0⟩:=rfl
omit P hord hf in
theorem rX(n:Nat){j:Nat}(hj:j<qs.length):(kH n qs).getD (j+1) oG=uR n qs j:=by
 simp[kH,ak,hj]
omit P hord hf in
theorem sB(n:Nat):jE (kH n qs)=true:=by
 rw[jQ]
 intro k hk
 rw[lB] at hk
 cases k with
 |zero=>rw[oN,vC];simp
 |succ k=>
  rw[oN,rX n (by omega)];simp only[uR];have:=oZ qs (lW (qs.getD k fH)) k;omega
theorem mj(n:Nat)(j:Nat)(hj:j<qs.length):∀i,i<qs.length->(pQ (kH n qs) (j+1) (i+1)=true↔i=j\/kY (qs.getD i fH).s (qs.getD j fH).s):=by
 have hp:=sB (qs:=qs) n
 intro i
 induction i using Nat.strongRecOn with
 |_ i ih=>
  intro hi;have hfi:=VX hf P hi;obtain⟨v,e⟩:∃v,v=kG qs (lW (qs.getD i fH)) i:=⟨_,rfl⟩
  have hv:oN (kH n qs) (i+1)=(v:Int):=by rw[oN,rX n hi,e];rfl
  rw[wI hp _ _ (by rw[lB];omega),hv];have hd0:(0:Int)<=(v:Int):=by omega
  simp only[hd0,decide_true,dg,bW,db,dr]
  replace e:=e.symm
  cases v with
  |zero=>
   constructor
   .rintro(h|h)
    .left;omega
    .have:=KK hp (j+1) 0 (by rw[lB];omega) h;omega
   .rintro(h|h)
    .left;omega
    .exfalso;have hji:j<i:=by
      apply bE;intro hn;by_cases e2:i=j
      .subst e2;exact h.irrefl
      .exact hord i j (by omega) hj h
     have:=rZ qs _ i j hji (h.1 _ hfi);omega
  |succ i'=>
   obtain⟨h1,h2⟩:=qU qs _ i i' e;have h3:=IN P hord h2 hi h1 hfi;rw[ih i' h2 (by omega)];constructor
   .rintro(h|h|h)
    .left;omega
    .subst h;exact .inr h3
    .exact .inr (h3.trans h)
   .rintro(h|h)
    .left;omega
    .refine .inr ?_;have hji:j<i:=by
      apply bE;intro hn;by_cases e2:i=j
      .subst e2;exact h.irrefl
      .exact hord i j (by omega) hj h
     have hjf:=h.1 _ hfi;have:=rZ qs _ i j hji hjf;by_cases e2:i'=j
     .exact .inl e2
     .exact .inr (IN P hord (by omega) (by omega) hjf h1)
end
end

section
section
variable {α:Type} (z:α) (key:α->Nat)
def mA(L:List α)(i j:Nat):List α:=(L.set i (L.getD j z)).set j (L.getD i z)
theorem VU(L:List α)(i:Nat)(x:α)(k:Nat)(hi:i<L.length):(L.set i x).getD k z=if k=i then x else L.getD k z:=by
 rw[ak,dR,ak]
 by_cases e:i=k
 .subst e;simp[hi]
 .rw[az e,az (λh=>e h.symm)]
theorem nj(L:List α)(i j:Nat):(mA z L i j).length=L.length:=by simp[mA]
theorem wC(L:List α){i j:Nat}(hi:i<L.length)(hj:j<L.length)(k:Nat):(mA z L i j).getD k z=if k=j then L.getD i z else if k=i then L.getD j z else L.getD k z:=by
 rw[mA,VU z _ j _ k (by simpa using hj),VU z _ i _ k hi]
theorem KU(A B C:List α)(x y:α):(A++y :: (B++x :: C)).Perm (A++x :: (B++y :: C)):=by
 refine List.Perm.append_left A ?_
 have h1:(y :: (B++x :: C)).Perm (x :: (y :: (B++C))):=((List.perm_middle (a:=x) (l₁:=B) (l₂:=C)).cons y).trans (List.Perm.swap x y _)
 exact h1.trans ((List.perm_middle (a:=y) (l₁:=B) (l₂:=C)).symm.cons x)
theorem BJ(L:List α){i j:Nat}(hij:i<j)(hj:j<L.length):(mA z L i j).Perm L/\(mA z L j i).Perm L:=by
 obtain⟨A,x,L1,rfl,hA⟩:∃A x L1,L=A++x :: L1/\A.length=i:=⟨L.take i,L[i]'(by omega),L.drop (i+1),by rw[<-cn,eI],by simp;omega⟩
 obtain⟨B,y,C,rfl,hB⟩:∃B y C,L1=B++y :: C/\B.length=j-i-1:=by
  have hl:j-i-1<L1.length:=by simp at hj;omega
  exact⟨L1.take (j-i-1),L1[j-i-1]'hl,L1.drop (j-i-1+1),by rw[<-cn,eI],by simp;omega⟩
 have ei:(A++x :: (B++y :: C)).getD i z=x:=by rw[<-hA];simp[ak]
 have ej:(A++x :: (B++y :: C)).getD j z=y:=by
  have:j=A.length+(B.length+1):=by omega
  rw[this];simp[ak]
 have e1:mA z (A++x :: (B++y :: C)) i j=A++y :: (B++x :: C):=by
  rw[mA,ei,ej];have h1:(A++x :: (B++y :: C)).set i y=A++y :: (B++y :: C):=by rw[<-hA];simp
  have h2:j=A.length+(B.length+1):=by omega
  rw[h1,h2];simp
 have e2:mA z (A++x :: (B++y :: C)) j i=A++y :: (B++x :: C):=by
  rw[mA,ei,ej];have h2:j=A.length+(B.length+1):=by omega
  have h1:(A++x :: (B++y :: C)).set j x=A++x :: (B++x :: C):=by rw[h2];simp
  rw[h1,<-hA];simp
 rw[e1,e2]
 exact⟨KU A B C x y,KU A B C x y⟩
theorem qK(L:List α){i j:Nat}(hi:i<L.length)(hj:j<L.length):(mA z L i j).Perm L:=by
 rcases Nat.lt_trichotomy i j with h|h|h
 .exact(BJ z L h hj).1
 .subst h;have:mA z L i i=L:=by
   rw[mA,List.set_set];apply cZ;intro k;rw[dR];by_cases e:i=k
   .subst e;simp[ak,hi]
   .rw[az e]
  rw[this]
 .exact(BJ z L h hi).2
structure Sh(L L':List α)(a b:Nat):Prop where
 len:L'.length=L.length
 perm:L'.Perm L
 out:∀k,k<a\/b<=k->L'.getD k z=L.getD k z
 inn:∀k,a<=k->k<b->∃k',a<=k'/\k'<b/\L'.getD k z=L.getD k' z
variable {z}
theorem Sh.refl(L:List α)(a b:Nat):Sh z L L a b:=⟨rfl,List.Perm.refl _,λ_ _=>rfl,λk h1 h2=>⟨k,h1,h2,rfl⟩⟩
theorem Sh.trans{L1 L2 L3:List α}{a b:Nat}(h:Sh z L1 L2 a b)(k:Sh z L2 L3 a b):Sh z L1 L3 a b where
 len:=k.len.trans h.len
 perm:=k.perm.trans h.perm
 out:=λj hj=>(k.out j hj).trans (h.out j hj)
 inn:=λj h1 h2=>by
  obtain⟨j',h3,h4,e⟩:=k.inn j h1 h2;obtain⟨j'',h5,h6,e2⟩:=h.inn j' h3 h4;exact⟨j'',h5,h6,e.trans e2⟩
theorem Sh.mono{L L':List α}{a b a' b':Nat}(h:Sh z L L' a b)(ha:a'<=a)(hb:b<=b'):Sh z L L' a' b' where
 len:=h.len
 perm:=h.perm
 out:=λk hk=>h.out k (by omega)
 inn:=λk h1 h2=>by
  by_cases hk:a<=k/\k<b
  .obtain⟨k',h3,h4,e⟩:=h.inn k hk.1 hk.2;exact⟨k',by omega,by omega,e⟩
  .exact⟨k,h1,h2,h.out k (by omega)⟩
theorem Sh.swap(L:List α){i j a b:Nat}(hi:a<=i/\i<b)(hj:a<=j/\j<b)(hb:b<=L.length):Sh z L (mA z L i j) a b where
 len:=nj z L i j
 perm:=qK z L (by omega) (by omega)
 out:=λk hk=>by rw[wC z L (by omega) (by omega),az (by omega),az (by omega)]
 inn:=λk h1 h2=>by
  rw[wC z L (by omega) (by omega)];by_cases e:k=j
  .exact⟨i,hi.1,hi.2,by rw[aM e]⟩
  .by_cases e2:k=i
   .exact⟨j,hj.1,hj.2,by rw[az e,aM e2]⟩
   .exact⟨k,h1,h2,by rw[az e,az e2]⟩
abbrev kAt(z:α)(key:α->Nat)(L:List α)(k:Nat):Nat:=key (L.getD k z)
def Srt(z:α)(key:α->Nat)(L:List α)(a b:Nat):Prop:=∀i j,a<=i->i<j->j<b->kAt z key L i<=kAt z key L j
theorem Srt.le{L:List α}{a b:Nat}(h:Srt z key L a b){i j:Nat}(ha:a<=i)(hij:i<=j)(hb:j<b):kAt z key L i<=kAt z key L j:=by
 rcases Nat.lt_or_eq_of_le hij with h1|h1
 .exact h i j ha h1 hb
 .subst h1;exact aj _
theorem Srt.one(L:List α){a b:Nat}(h:b<=a+1):Srt z key L a b:=λi j _ _ _=>by omega
theorem Srt.out{L L':List α}{a b c d:Nat}(h:Srt z key L c d)(hs:Sh z L L' a b)(hd:d<=a\/b<=c):Srt z key L' c d:=λi j h1 h2 h3=>by
 rw[kAt,kAt,hs.out i (by omega),hs.out j (by omega)]
 exact h i j h1 h2 h3
structure NB(z:α)(key:α->Nat)(L:List α)(a i j:Nat):Prop where
 low:a<=j/\j<=i
 rest:∀x y,a<=x->x<y->y<=i->x≠j->y≠j->kAt z key L x<=kAt z key L y
 up:∀y,j<y->y<=i->kAt z key L j<=kAt z key L y
theorem NB.start{L:List α}{a i:Nat}(h:Srt z key L a i)(ha:a<=i):NB z key L a i i:=⟨⟨ha,aj _⟩,λx y h1 h2 h3 _ h5=>h x y h1 h2 (by omega),λy h1 h2=>by omega⟩
theorem NB.step{L:List α}{a i j:Nat}(h:NB z key L a i j)(hj:a<j)(hi:i<L.length)(hc:kAt z key L j<=kAt z key L (j-1)):NB z key (mA z L j (j-1)) a i (j-1):=by
 obtain⟨⟨h1,h2⟩,h3,h4⟩:=h
 have hat:=wC z L (i:=j) (j:=j-1) (by omega) (by omega)
 refine⟨⟨by omega,by omega⟩,λx y hx hxy hy hxj hyj=>?_,λy hy1 hy2=>?_⟩
 .simp only[kAt,hat];rw[az hxj,az hyj];by_cases ex:x=j
  .rw[aM ex,az (by omega)];exact h3 (j-1) y (by omega) (by omega) hy (by omega) (by omega)
  .rw[az ex];by_cases ey:y=j
   .rw[aM ey];exact h3 x (j-1) hx (by omega) (by omega) ex (by omega)
   .rw[az ey];exact h3 x y hx hxy hy ex ey
 .simp only[kAt,hat];rw[aM True.intro,az (by omega)];by_cases ey:y=j
  .rw[aM ey];exact hc
  .rw[az ey];exact h4 y (by omega) hy2
theorem NB.fin{L:List α}{a i j:Nat}(h:NB z key L a i j)(hc:j=a\/kAt z key L (j-1)<=kAt z key L j):Srt z key L a (i+1):=by
 obtain⟨⟨h1,h2⟩,h3,h4⟩:=h
 intro x y hx hxy hy
 by_cases ex:x=j
 .subst ex;exact h4 y hxy (by omega)
 .by_cases ey:y=j
  .subst ey;have hc2:=hc.resolve_left (by omega);by_cases e:x=y-1
   .subst e;exact hc2
   .exact aT (h3 x (y-1) hx (by omega) (by omega) ex (by omega)) hc2
  .exact h3 x y hx hxy (by omega) ex ey
end
section
variable {β:Type}
def sQ(f:Nat->β)(a b n:Nat)(k:Nat):β:=if a<=k/\k<a+n then f (k+(b-a)) else if b<=k/\k<b+n then f (k-(b-a)) else f k
def mE(f:Nat->β)(a m b:Nat)(k:Nat):β:=if a<=k/\k<a+(b-m) then f (k+(m-a)) else if a+(b-m)<=k/\k<b then f (k-(b-m)) else f k
theorem ny(f:Nat->β){m i j:Nat}(hi:i<=m)(hij:j<i):mE (sQ f (m-i) m j) (m-(i-j)) m (m+j)=mE f (m-i) m (m+j):=by
 obtain⟨p,rfl⟩:∃p,m=p+i:=⟨m-i,by omega⟩
 obtain⟨d,rfl⟩:∃d,i=j+d:=⟨i-j,by omega⟩
 have e1:p+(j+d)-(j+d)=p:=by omega
 have e2:p+(j+d)-(j+d-j)=p+j:=by omega
 have e3:p+(j+d)+j-(p+(j+d))=j:=by omega
 have e4:p+(j+d)-p=j+d:=by omega
 have e5:p+(j+d)-(p+j)=d:=by omega
 funext k
 simp only[mE,sQ,e1,e2,e3,e4,e5]
 repeat' split
 all_goals first
  |omega
  |rfl
  |(congr 1<;>omega)
theorem nw(f:Nat->β){m i j:Nat}(hi:i<=m)(hij:i<j):mE (sQ f (m-i) (m+j-i) i) (m-i) m (m+(j-i))=mE f (m-i) m (m+j):=by
 obtain⟨p,rfl⟩:∃p,m=p+i:=⟨m-i,by omega⟩
 obtain⟨d,rfl⟩:∃d,j=i+d:=⟨j-i,by omega⟩
 have e1:p+i-i=p:=by omega
 have e2:p+i+(i+d)-i=p+i+d:=by omega
 have e3:p+i+(i+d-i)=p+i+d:=by omega
 have e4:p+i+d-(p+i)=d:=by omega
 have e5:p+i-p=i:=by omega
 have e6:p+i+(i+d)-(p+i)=i+d:=by omega
 have e7:p+i+d-p=i+d:=by omega
 funext k
 simp only[mE,sQ,e1,e2,e3,e4,e5,e6,e7]
 repeat' split
 all_goals first
  |omega
  |rfl
  |(congr 1<;>omega)
theorem um(f:Nat->β){m i:Nat}(hi:i<=m):sQ f (m-i) m i=mE f (m-i) m (m+i):=by
 obtain⟨p,rfl⟩:∃p,m=p+i:=⟨m-i,by omega⟩
 have e1:p+i-i=p:=by omega
 have e2:p+i+i-(p+i)=i:=by omega
 have e3:p+i-p=i:=by omega
 funext k
 simp only[mE,sQ,e1,e2,e3]
 repeat' split
 all_goals first
  |omega
  |rfl
  |(congr 1<;>omega)
theorem ZO(f:Nat->β)(a b n:Nat)(hab:a+n<b)(k:Nat):(if k=b+n then sQ f a b n (a+n) else if k=a+n then sQ f a b n (b+n) else sQ f a b n k)=sQ f a b (n+1) k:=by
 simp only[sQ]
 repeat' split
 all_goals first
  |omega
  |rfl
  |(congr 1<;>omega)
theorem ZN(f:Nat->β)(a b:Nat)(k:Nat):sQ f a b 0 k=f k:=by
 simp only[sQ]
 repeat' split
 all_goals first
  |omega
  |rfl
  |(congr 1<;>omega)
end
section
variable {α:Type} {z:α} {key:α->Nat}
structure Found(z:α)(key:α->Nat)(L:List α)(a m b st:Nat):Prop where
 low:a<=st/\st<=m/\st<=(a+b)/2
 high:m<=(a+b)/2+m-st/\(a+b)/2+m-st<=b
 one:∀x y,a<=x->x<st->(a+b)/2+m-st<=y->y<b->kAt z key L x<=kAt z key L y
 two:∀x y,m<=x->x<(a+b)/2+m-st->st<=y->y<m->kAt z key L x<=kAt z key L y
def s0(a m b:Nat):Nat:=if (a+b)/2<m then (a+b)/2+m-b else a
def r0(a m b:Nat):Nat:=if (a+b)/2<m then (a+b)/2 else m
theorem DV{a m b:Nat}(ham:a<m)(hmb:m<b):a<=s0 a m b/\s0 a m b<=r0 a m b/\r0 a m b<=m/\(∀c,s0 a m b<=c->c<r0 a m b->m<=(a+b)/2+m-1-c/\(a+b)/2+m-1-c<b/\c<m):=by
 unfold s0 r0
 split
 all_goals refine⟨by omega,by omega,by omega,λc h1 h2=>⟨by omega,by omega,by omega⟩⟩
theorem xg{L:List α}{a m b st:Nat}(ham:a<m)(hmb:m<b)(h1:Srt z key L a m)(h2:Srt z key L m b)(hlo:s0 a m b<=st)(hhi:st<=r0 a m b)
  (hl:st=s0 a m b\/kAt z key L (st-1)<=kAt z key L ((a+b)/2+m-1-(st-1))) (hr:st=r0 a m b\/kAt z key L ((a+b)/2+m-1-st)<=kAt z key L st):Found z key L a m b st:=by
 have hb:=DV ham hmb
 obtain⟨b1,b2,b3,b4⟩:=hb
 have hs:a<=st/\st<=m/\st<=(a+b)/2:=by
  unfold s0 at hlo;unfold r0 at hhi
  split at hlo<;>(first|(rw[aM (by assumption)] at hhi)|(rw[az (by assumption)] at hhi))<;>omega
 have hs2:m<=(a+b)/2+m-st/\(a+b)/2+m-st<=b:=by
  unfold s0 at hlo;unfold r0 at hhi
  split at hlo<;>(first|(rw[aM (by assumption)] at hhi)|(rw[az (by assumption)] at hhi))<;>omega
 refine⟨hs,hs2,λx y hx1 hx2 hy1 hy2=>?_,λx y hx1 hx2 hy1 hy2=>?_⟩
 .rcases hl with hl|hl
  .exfalso;rw[hl] at hx2 hy1;unfold s0 at hx2 hy1
   split at hx2<;>(first|(rw[aM (by assumption)] at hy1)|(rw[az (by assumption)] at hy1))<;>omega
  .have e:(a+b)/2+m-1-(st-1)=(a+b)/2+m-st:=by omega
   rw[e] at hl;exact aT (h1.le key hx1 (by omega) (by omega)) (aT hl (h2.le key (by omega) hy1 hy2))
 .rcases hr with hr|hr
  .exfalso;rw[hr] at hx2 hy1;unfold r0 at hx2 hy1
   split at hx2<;>(first|(rw[aM (by assumption)] at hy1)|(rw[az (by assumption)] at hy1))<;>omega
  .have e:(a+b)/2+m-1-st=(a+b)/2+m-st-1:=by omega
   rw[e] at hr;exact aT (h2.le key hx1 (by omega) (by omega)) (aT hr (h1.le key (by omega) hy1 hy2))
structure Bt(z:α)(key:α->Nat)(L:List α)(a st mid en b:Nat):Prop where
 s1:Srt z key L a st
 s2:Srt z key L st mid
 s3:Srt z key L mid en
 s4:Srt z key L en b
 cross:∀x y,a<=x->x<mid->mid<=y->y<b->kAt z key L x<=kAt z key L y
theorem Cc{L L':List α}{a m b st:Nat}(h1:Srt z key L a m)(h2:Srt z key L m b)(hf:Found z key L a m b st)(hr:∀k,L'.getD k z=mE (λk=>L.getD k z) st m ((a+b)/2+m-st) k):
  Bt z key L' a st ((a+b)/2) ((a+b)/2+m-st) b:=by
 obtain⟨⟨f1,f2,f5⟩,⟨f3,f4⟩,g1,g2⟩:=hf
 generalize hmid:(a+b)/2=mid at*
 have e1:∀k,k<st->L'.getD k z=L.getD k z:=λk hk=>by rw[hr];unfold mE;rw[az (by omega),az (by omega)]
 have e2:∀k,st<=k->k<mid->L'.getD k z=L.getD (k+(m-st)) z:=λk hk hk2=>by rw[hr];unfold mE;rw[aM (by omega)]
 have e3:∀k,mid<=k->k<mid+m-st->L'.getD k z=L.getD (k-(mid-st)) z:=λk hk hk2=>by
  rw[hr];unfold mE;rw[az (by omega),aM (by omega)]
  congr 1;omega
 have e4:∀k,mid+m-st<=k->L'.getD k z=L.getD k z:=λk hk=>by rw[hr];unfold mE;rw[az (by omega),az (by omega)]
 refine⟨λi j hi hij hj=>?_,λi j hi hij hj=>?_,λi j hi hij hj=>?_,λi j hi hij hj=>?_,λx y hx1 hx2 hy1 hy2=>?_⟩
 .rw[kAt,kAt,e1 i (by omega),e1 j hj];exact h1 i j hi hij (by omega)
 .rw[kAt,kAt,e2 i hi (by omega),e2 j (by omega) hj];exact h2 _ _ (by omega) (by omega) (by omega)
 .rw[kAt,kAt,e3 i hi (by omega),e3 j (by omega) hj];exact h1 _ _ (by omega) (by omega) (by omega)
 .rw[kAt,kAt,e4 i hi,e4 j (by omega)];exact h2 i j (by omega) hij hj
 .by_cases hx:x<st
  .by_cases hy:y<mid+m-st
   .rw[kAt,kAt,e1 x hx,e3 y hy1 hy];exact h1 _ _ hx1 (by omega) (by omega)
   .rw[kAt,kAt,e1 x hx,e4 y (by omega)];exact g1 x y hx1 hx (by omega) hy2
  .by_cases hy:y<mid+m-st
   .rw[kAt,kAt,e2 x (by omega) hx2,e3 y hy1 hy];exact g2 _ _ (by omega) (by omega) (by omega) (by omega)
   .rw[kAt,kAt,e2 x (by omega) hx2,e4 y (by omega)];exact h2 _ _ (by omega) (by omega) hy2
theorem Srt.join{L L1 L2:List α}{a mid b:Nat}(hc:∀x y,a<=x->x<mid->mid<=y->y<b->kAt z key L x<=kAt z key L y)(hs1:Sh z L L1 a mid)(hs2:Sh z L1 L2 mid b)(h1:Srt z key L1 a mid)(h2:Srt z key L2 mid b):Srt z key L2 a b:=by
 intro i j hi hij hj
 by_cases hj2:j<mid
 .rw[kAt,kAt,hs2.out i (by omega),hs2.out j (by omega)];exact h1 i j hi hij hj2
 .by_cases hi2:mid<=i
  .exact h2 i j hi2 hij hj
  .obtain⟨j',h3,h4,e⟩:=hs2.inn j (by omega) hj;obtain⟨i',h5,h6,e2⟩:=hs1.inn i hi (by omega);rw[kAt,kAt,hs2.out i (by omega),e,e2,hs1.out j' (by omega)];exact hc i' j' h5 h6 h3 h4
end
section
variable {β:Type}
theorem yg(f:Nat->β)(a k:Nat):mE f a (a+1) (a+1) k=f k:=by
 simp only[mE]
 repeat' split
 all_goals first
  |omega
  |rfl
  |(congr 1<;>omega)
theorem Cm(f:Nat->β){a k:Nat}(h:a<=k)(x:Nat):(if x=k+1 then mE f a (a+1) (k+1) k else if x=k then mE f a (a+1) (k+1) (k+1) else mE f a (a+1) (k+1) x)=mE f a (a+1) (k+1+1) x:=by
 simp only[mE]
 repeat' split
 all_goals first
  |omega
  |rfl
  |(congr 1<;>omega)
theorem rr(f:Nat->β)(m k:Nat):mE f m m (m+1) k=f k:=by
 simp only[mE]
 repeat' split
 all_goals first
  |omega
  |rfl
  |(congr 1<;>omega)
theorem yh(f:Nat->β){m k:Nat}(h:k+1<=m)(x:Nat):(if x=k then mE f (k+1) m (m+1) (k+1) else if x=k+1 then mE f (k+1) m (m+1) k else mE f (k+1) m (m+1) x)=mE f k m (m+1) x:=by
 simp only[mE]
 repeat' split
 all_goals first
  |omega
  |rfl
  |(congr 1<;>omega)
end
section
variable {α:Type} {z:α} {key:α->Nat}
theorem uw{L L':List α}{a b i:Nat}(h2:Srt z key L (a+1) b)(hi:a+1<=i)(hib:i<=b)(hl:i=a+1\/kAt z key L (i-1)<=kAt z key L a)(hr:i=b\/kAt z key L a<=kAt z key L i)
  (he:∀k,L'.getD k z=mE (λk=>L.getD k z) a (a+1) i k):Srt z key L' a b:=by
 have e1:∀k,a<=k->k<i-1->L'.getD k z=L.getD (k+1) z:=λk h1 h2=>by
  rw[he];unfold mE;rw[aM (by omega)];congr 1;omega
 have e2:L'.getD (i-1) z=L.getD a z:=by
  rw[he];unfold mE;rw[az (by omega),aM (by omega)];congr 1;omega
 have e3:∀k,i<=k->L'.getD k z=L.getD k z:=λk h1=>by
  rw[he];unfold mE;rw[az (by omega),az (by omega)]
 intro x y hx hxy hy
 by_cases hy1:y<i-1
 .rw[kAt,kAt,e1 x hx (by omega),e1 y (by omega) hy1];exact h2 _ _ (by omega) (by omega) (by omega)
 .by_cases hy2:y=i-1
  .rw[kAt,kAt,hy2,e2,e1 x hx (by omega)];exact aT (h2.le key (by omega) (show x+1<=i-1 by omega) (by omega)) (hl.resolve_left (by omega))
  .rw[kAt,kAt,e3 y (by omega)];by_cases hx1:x<i-1
   .rw[e1 x hx hx1];exact h2.le key (by omega) (by omega) hy
   .by_cases hx2:x=i-1
    .rw[hx2,e2];exact aT (hr.resolve_left (by omega)) (h2.le key hi (by omega) hy)
    .rw[e3 x (by omega)];exact h2 x y (by omega) hxy hy
theorem ow{L L':List α}{a m i:Nat}(h1:Srt z key L a m)(hi:a<=i)(him:i<=m)(hl:i=a\/kAt z key L (i-1)<=kAt z key L m)(hr:i=m\/kAt z key L m<=kAt z key L i)
  (he:∀k,L'.getD k z=mE (λk=>L.getD k z) i m (m+1) k):Srt z key L' a (m+1):=by
 have e1:∀k,k<i->L'.getD k z=L.getD k z:=λk h1=>by
  rw[he];unfold mE;rw[az (by omega),az (by omega)]
 have e2:L'.getD i z=L.getD m z:=by
  rw[he];unfold mE;rw[aM (by omega)];congr 1;omega
 have e3:∀k,i<k->k<m+1->L'.getD k z=L.getD (k-1) z:=λk h1 h2=>by
  rw[he];unfold mE;rw[az (by omega),aM (by omega)];congr 1;omega
 intro x y hx hxy hy
 by_cases hx1:x<i
 .rw[kAt,kAt,e1 x hx1];by_cases hy1:y<i
  .rw[e1 y hy1];exact h1 x y hx hxy (by omega)
  .by_cases hy2:y=i
   .rw[hy2,e2];exact aT (h1.le key hx (show x<=i-1 by omega) (by omega)) (hl.resolve_left (by omega))
   .rw[e3 y (by omega) hy];exact h1.le key hx (by omega) (by omega)
 .by_cases hx2:x=i
  .rw[kAt,kAt,hx2,e2,e3 y (by omega) hy];exact aT (hr.resolve_left (by omega)) (h1.le key hi (by omega) (by omega))
  .rw[kAt,kAt,e3 x (by omega) (by omega),e3 y (by omega) hy];exact h1.le key (by omega) (by omega) (by omega)
end
end

section
theorem nX{n:Nat}{qs:List fJ}{j:Nat}{x:Nat}:(x:Int)∈mH n qs j↔x<n/\kG qs x qs.length=j:=by
 simp only[mH,fN,a8,bI,aQ,db]
 constructor
 .rintro⟨y,⟨h1,h2⟩,h3⟩;obtain rfl:y=x:=by omega
  exact⟨h1,h2⟩
 .intro h;exact⟨x,h,rfl⟩
theorem AQ{n:Nat}{qs:List fJ}{j:Nat}{z:Int}(h:z∈mH n qs j):∃x:Nat,z=x:=by
 simp only[mH,fN,a8] at h
 obtain⟨y,_,h3⟩:=h
 exact⟨y,h3.symm⟩
theorem JL(n:Nat){qs:List fJ}{k:Nat}(hk:k<=qs.length):nQ (kH n qs) k=mH n qs k:=by
 cases k with
 |zero=>rfl
 |succ k=>rw[nQ,rX n (by omega)];rfl
theorem VW(v:Nat):∀m,(List.range m).flatMap (λk=>if k=v then [k] else [])=if v<m then [v] else []
 |0=>by simp
 |m+1=>by
  rw[cm,cw,VW v m];by_cases h:m=v
  .subst h;simp
  .by_cases h2:v<m
   .simp[h,h2,show v<m+1 by omega]
   .simp[h,h2,show¬v<m+1 by omega]
theorem je(p:Nat->Bool)(b:Nat)(n:Nat):((fN ((List.range n).filter p)).filter λx=>x==(b:Int))=if b<n/\p b=true then [(b:Int)] else []:=by
 induction n with
 |zero=>simp[fN]
 |succ n ih=>
  unfold fN at ih|-;rw[cm,bB,cU,bB,ih];by_cases hp:p n=true
  .by_cases hb:n=b
   .subst hb;simp[hp]
   .have h1:¬((n:Int)=(b:Int)):=by omega
    have h2:(b<n+1)=(b<n):=by apply propext;omega
    simp[hp,h1,h2]
  .by_cases hb:n=b
   .subst hb;simp[hp]
   .have h2:(b<n+1)=(b<n):=by apply propext;omega
    simp[hp,h2]
theorem VS(n:Nat){qs:List fJ}{b:Nat}(hb:b<n):tG (kH n qs) b= [kG qs b qs.length]:=by
 unfold tG
 rw[lB]
 have hl:=oZ qs b qs.length
 have h:∀k∈List.range (qs.length+1),((nQ (kH n qs) k).filter λx=>x==(b:Int)).map (λ_=>k)=if k=kG qs b qs.length then [k] else []:=by
  intro k hk;rw[aQ] at hk;rw[JL n (by omega),mH,je];by_cases e:k=kG qs b qs.length
  .subst e;simp[hb]
  .have e':¬kG qs b qs.length=k:=λh=>e h.symm;simp[e,e']
 have h2:∀(l:List Nat) (f g:Nat->List Nat),(∀k∈l,f k=g k)->l.flatMap f=l.flatMap g:=by
  intro l
  induction l with
  |nil=>intros;rfl
  |cons a l ih=>intro f g hfg;rw[dq,dq,hfg a (by simp),ih f g (λk hk=>hfg k (by simp[hk]))]
 rw[h2 _ _ _ h,VW,aM (by omega)]
theorem qv(n:Nat)(qs:List fJ):∀i,i<qs.length+1->pQ (kH n qs) 0 i=true:=by
 have hp:=sB (qs:=qs) n
 intro i
 induction i using Nat.strongRecOn with
 |_ i ih=>
  intro hi;cases i with
  |zero=>exact xP _ _
  |succ i=>
   rw[wI hp _ _ (by rw[lB];omega)];have hv:oN (kH n qs) (i+1)=(kG qs (lW (qs.getD i fH)) i:Nat):=by rw[oN,rX n (by omega)];rfl
   have:=oZ qs (lW (qs.getD i fH)) i;rw[hv];simp only[dr];rw[ih _ (by omega) (by omega)];simp
theorem nr{n:Nat}(hn:n<=200)(qs:List fJ):rT (kH n qs) 0=fM n:=by
 funext x
 rw[cS]
 simp only[rT,ofS,fM,aB,aN,fz]
 have h:=KE (kH n qs) 0 (by rw[lB];omega) (sB n) (x:Int)
 rw[show((0:Nat):Int)=0 from rfl] at h
 constructor
 .rintro⟨_,h2⟩;obtain⟨i,h3,_,h4⟩:=h.1 h2;rw[lB] at h3;rw[JL n (by omega)] at h4;exact(nX.1 h4).1
 .intro hx;refine⟨by omega,h.2 ⟨kG qs x qs.length,?_,?_,?_⟩⟩
  .rw[lB];have:=oZ qs x qs.length;omega
  .exact qv n qs _ (by have:=oZ qs x qs.length;omega)
  .rw[JL n (oZ _ _ _)];exact nX.2 ⟨hx,rfl⟩
section
variable {ts:List fS} {qs:List fJ} (hf:jK ts=true) (P:tM ts qs) (hord:∀i j,i<j->j<qs.length->¬kY (qs.getD i fH).s (qs.getD j fH).s)
include hf P hord
theorem zl{j:Nat}(hj:j<qs.length):rT (kH ts.length qs) (j+1)=(qs.getD j fH).s:=by
 have hl:=(gT hf).2.1
 funext x
 rw[cS]
 simp only[rT,ofS,aB,aN,fz]
 have h:=KE (kH ts.length qs) (j+1) (by rw[lB];omega) (sB _) (x:Int)
 constructor
 .rintro⟨_,h2⟩;obtain⟨i,h3,hd,h4⟩:=h.1 (by simpa using h2);rw[lB] at h3;rw[JL _ (by omega)] at h4;cases i with
  |zero=>have:=KK (sB _) (j+1) 0 (by rw[lB];omega) hd;omega
  |succ i=>
   obtain⟨h5,h6⟩:=nX.1 h4;have h7:=qU qs x _ i h6;rcases(mj hf P hord _ j hj i (by omega)).1 hd with e|e
   .subst e;exact h7.1
   .exact e.1 x h7.1
 .intro hx;have hlow:=P.low _ (mM hj) x hx;refine⟨by omega,?_⟩;have hm:=rZ qs x qs.length j hj hx;have hle:=oZ qs x qs.length;obtain⟨i,hi⟩:∃i,kG qs x qs.length=i+1:=⟨kG qs x qs.length-1,by omega⟩
  have h2:=ZA P hord hi hj hx;have:=h.2 ⟨i+1,by rw[lB];omega,(mj hf P hord _ j hj i (by omega)).2 (h2.imp (λe=>e.symm) id),by rw[JL _ (by omega)];exact nX.2 ⟨by omega,hi⟩⟩;simpa using this
omit hf in
theorem CQ{j x:Nat}(hj:j<qs.length):(x:Int)∈mH ts.length qs (j+1)↔(qs.getD j fH).s x=true/\∀q∈qs,kY q.s (qs.getD j fH).s->q.s x=false:=by
 rw[nX]
 constructor
 .rintro⟨_,h⟩;obtain⟨h1,h2⟩:=qU qs x _ j h;refine⟨h1,λq hq hs=>?_⟩;cases e:q.s x with
  |false=>rfl
  |true=>
   exfalso;obtain⟨i,hi,rfl⟩:=bj.1 hq;have e1:qs.getD i fH=qs[i]:=by simp[ak,hi]
   rw[<-e1] at e hs;rcases ZA P hord h hi e with h3|h3
   .subst h3;exact hs.irrefl
   .exact hs.asymm h3
 .rintro⟨h1,h2⟩;have hlow:=P.low _ (mM hj) x h1;refine⟨by omega,?_⟩;have hm:=rZ qs x qs.length j hj h1;obtain⟨i,hi⟩:∃i,kG qs x qs.length=i+1:=⟨kG qs x qs.length-1,by omega⟩
  rcases ZA P hord hi hj h1 with h3|h3
  .omega
  .have h4:=qU qs x _ i hi;have:=h2 _ (mM h4.2) h3;rw[h4.1] at this;cases this
omit hf P hord in
theorem km{x:Nat}:(x:Int)∈mH ts.length qs 0↔x<ts.length/\∀q∈qs,q.s x=false:=by
 rw[nX]
 refine and_congr_right λ_=>⟨λh q hq=>?_,λh=>?_⟩
 .cases e:q.s x with
  |false=>rfl
  |true=>
   obtain⟨i,hi,rfl⟩:=bj.1 hq;have e1:qs.getD i fH=qs[i]:=by simp[ak,hi]
   rw[<-e1] at e;have:=rZ qs x qs.length i hi e;omega
 .apply bE;intro hn;obtain⟨i,hi⟩:∃i,kG qs x qs.length=i+1:=⟨kG qs x qs.length-1,by omega⟩
  have h4:=qU qs x _ i hi;rw[h _ (mM h4.2)] at h4;cases h4.1
omit hf in
theorem US{j:Nat}(hj:j<qs.length):∃x:Nat,(x:Int)∈mH ts.length qs (j+1):=by
 have hm:=mM hj
 by_cases h3:(qs.getD j fH).kind=3
 .obtain⟨y,hy⟩:=P.some _ hm;exact⟨y,(CQ P hord hj).2 ⟨hy,λq hq hs=>absurd hs (P.noreg _ hm h3 q hq)⟩⟩
 .obtain⟨_,_,h1,h2⟩:=P.ent _ hm h3;exact⟨_,(CQ P hord hj).2 ⟨h1,h2⟩⟩
end
end

section
theorem KZ(n:Nat)(qs:List fJ)(j:Nat):qC n (mH n qs j)=true:=by
 have hpw:(mH n qs j).Pairwise (· < ·):=by
  unfold mH fN;rw[List.pairwise_map];exact(List.pairwise_lt_range.filter _).imp (λh=>by omega)
 simp only[qC,aV,aQ,aB,bW,db,aN]
 intro i hi
 have e:(mH n qs j).getD i 0=(mH n qs j)[i]:=by rw[ak,ah hi];rfl
 have hm:(mH n qs j)[i]∈mH n qs j:=bJ _
 obtain⟨x,hx⟩:=AQ hm
 rw[hx] at hm
 have hb:=(nX.1 hm).1
 rw[e]
 refine⟨by omega,?_⟩
 by_cases h0:i=0
 .exact .inl h0
 .refine .inr ?_;have e2:(mH n qs j).getD (i-1) 0=(mH n qs j)[i-1]:=by rw[ak,ah (by omega)];rfl
  rw[e2];exact cH.1 hpw (i-1) i (by omega) hi (by omega)
theorem zO{ts:List fS}{bs:List Int}{inn:Nat->Bool}(hc:iV inn)(h:∀z∈bs,¬Reach (nx ts) inn z.toNat z.toNat):wX ts bs inn=false:=by
 rw[wX,dQ]
 intro z hz e
 rw[un hc,pI hc] at e
 exact h z hz e.2
section
variable {ts:List fS} {qs:List fJ} (hf:jK ts=true) (P:tM ts qs) (hord:∀i j,i<j->j<qs.length->¬kY (qs.getD i fH).s (qs.getD j fH).s)
include hf P hord
omit hord in
theorem QM:(0:Int)∈mH ts.length qs 0:=by
 have hl:=(gT hf).2.1
 have:=(km (ts:=ts) (qs:=qs) (x:=0)).2 ⟨by omega,λq hq=>by
  cases e:q.s 0 with
  |false=>rfl
  |true=>have:=P.low q hq 0 e;omega⟩
 exact this
theorem OV:qs.length+1<=ts.length:=by
 have hl:=(gT hf).2.1
 have h:∀j,j<qs.length+1->∃x:Nat,(x:Int)∈mH ts.length qs j:=by
  intro j hj;cases j with
  |zero=>exact⟨0,QM hf P⟩
  |succ j=>exact US P hord (by omega)
 have hc:∀j,∃x:Nat,j<qs.length+1->(x:Int)∈mH ts.length qs j:=by
  intro j;by_cases hj:j<qs.length+1
  .obtain⟨x,hx⟩:=h j hj;exact⟨x,λ_=>hx⟩
  .exact⟨0,λe=>absurd e hj⟩
 obtain⟨f,hfn⟩:=Classical.axiomOfChoice hc
 have hn:((List.range (qs.length+1)).map f).Nodup:=by
  rw[List.Nodup,List.pairwise_map];refine List.Pairwise.imp_of_mem ?_ List.pairwise_lt_range;intro a b ha hb hab e;rw[aQ] at ha hb;have h1:=nX.1 (hfn a ha);have h2:=nX.1 (hfn b hb);rw[e] at h1;omega
 have:=AN ts.length _ hn (by
  intro y hy;obtain⟨j,hj,rfl⟩:=a8.1 hy;rw[aQ] at hj
  exact(nX.1 (hfn j hj)).1)
 simpa using this
theorem RQ{k:Nat}(hk:k<qs.length+1):nN ts.length (kH ts.length qs) k=true:=by
 have hne:∀j,j<qs.length+1->(mH ts.length qs j).length≠0:=by
  intro j hj e;have e':=List.length_eq_zero_iff.1 e;cases j with
  |zero=>have:=QM hf P;rw[e'] at this;cases this
  |succ j=>obtain⟨x,hx⟩:=US P hord (j:=j) (by omega);rw[e'] at hx;cases hx
 cases k with
 |zero=>
  have h0:=hne 0 (by omega);simp only[nN,vC,KZ];simp[h0]
 |succ j=>
  have hj:j<qs.length:=by omega
  have h0:=hne (j+1) (by omega);have hkd:=P.kind _ (mM hj);have hk1:((uR ts.length qs j).kind==1)=false:=by
   simp only[uR,eT,ne_eq];omega
  have hp1:((uR ts.length qs j).parent== -1)=false:=by
   simp only[uR,eT,ne_eq];omega
  have hb:(uR ts.length qs j).blocks=mH ts.length qs (j+1):=rfl;have hk3:(((kH ts.length qs).getD (uR ts.length qs j).parent.toNat oG).kind==3)=false:=by
   simp only[eT,ne_eq];have hpe:(uR ts.length qs j).parent.toNat=kG qs (lW (qs.getD j fH)) j:=by simp[uR]
   rw[hpe];cases e:kG qs (lW (qs.getD j fH)) j with
   |zero=>rw[vC];simp
   |succ i=>
    obtain⟨h1,h2⟩:=qU qs _ j i e;rw[rX _ (by omega)];intro h3;exact P.noreg _ (mM (show i<qs.length by omega)) h3 _ (mM hj) (IN P hord h2 hj h1 (VX hf P hj))
  simp only[nN,rX _ hj,hk1,hp1,hb,hk3,KZ];simp[h0]
theorem XT{k:Nat}(hk:k<qs.length+1):kQ ts ((kH ts.length qs).getD k oG) (rT (kH ts.length qs) k)=true:=by
 have hl:=(gT hf).2.1
 cases k with
 |zero=>
  rw[nr hl.2,vC]
  have hr:=zO (ts:=ts) (bs:=mH ts.length qs 0) (nE hl.2) (by
   intro z hz;obtain⟨x,rfl⟩:=AQ hz
   exact P.ring1 x (km.1 hz).2)
  simp[kQ,hr]
 |succ j=>
  have hj:j<qs.length:=by omega
  have hm:=mM hj;rw[zl hf P hord hj,rX _ hj];have hc:iV (qs.getD j fH).s:=λy hy=>by have:=P.low _ hm y hy;omega
  have hk:(uR ts.length qs j).kind=(qs.getD j fH).kind:=rfl;have hb:(uR ts.length qs j).blocks=mH ts.length qs (j+1):=rfl;have hone:(qs.getD j fH).kind≠3->AX (uR ts.length qs j) (fV ts (qs.getD j fH).s)=true/\(fV ts (qs.getD j fH).s).headD 0=(qs.getD j fH).entry.toNat:=by
   intro h3;obtain⟨_,h4,h5,h6⟩:=P.ent _ hm h3;have h7:=(CQ P hord hj).2 ⟨h5,h6⟩;rw[h4];refine⟨?_,rfl⟩;simp only[AX,hb,List.length_singleton,List.headD_cons,aB,fz];exact⟨rfl,h7⟩
  have htog:(qs.getD j fH).kind≠4->kU ts (qs.getD j fH).s=true:=λh4=>(RN hc).2 (P.tog _ hm h4);rcases P.kind _ hm with h|h|h
  .obtain⟨h1,h2⟩:=hone (by omega)
   have hr:=zO (ts:=ts) (bs:=mH ts.length qs (j+1)) (uJ hc (qs.getD j fH).entry.toNat) (by
    intro z hz;obtain⟨x,rfl⟩:=AQ hz;have h5:=(CQ P hord hj).1 hz
    exact P.ring2 _ hm h x h5.1 h5.2)
   simp only[kQ,hk,h,hb,h1,h2,htog (by omega),hr];rfl
  .have h1:=P.ent3 _ hm h;simp only[kQ,hk,h,htog (by omega),h1];rfl
  .obtain⟨h1,h2⟩:=hone (by omega)
   have hr:=zO (ts:=ts) (bs:=mH ts.length qs (j+1)) hc (by
    intro z hz;obtain⟨x,rfl⟩:=AQ hz;have h5:=(CQ P hord hj).1 hz
    exact P.ring4 _ hm h x h5.1 h5.2)
   simp only[kQ,hk,h,hb,h1,hr];rfl
theorem WY:gY ts (kH ts.length qs)=true:=by
 have hl:=(gT hf).2.1
 have hlen:=OV hf P hord
 have hz:=nX.1 (QM hf P:((0:Nat):Int)∈_)
 have hown:uN (kH ts.length qs) ts.length=true:=by
  simp only[uN,aV,aQ];intro b hb;rw[VS _ hb];rfl
 have h0:(oF (kH ts.length qs) 0==0)=true:=by
  rw[oF,VS _ (by omega),hz.2];rfl
 simp only[gY,hf,sB,hown,h0,aB,aN,aV,aQ,dg,Bool.and_true]
 rw[lB]
 exact⟨by omega,λk hk=>⟨RQ hf P hord hk,XT hf P hord hk⟩⟩
end
end

section
def jL(ps:List fJ)(p:fJ):Nat:=(ps.filter λx=>lQ p.s x.s).length
theorem tA{ps qs:List fJ}(h:ps.Perm qs)(p:fJ):jL ps p=jL qs p:=(h.filter _).length_eq
theorem LP{α:Type}{f g:α->Bool}:∀(l:List α),(∀x∈l,f x=true->g x=true)->(l.filter f).length<=(l.filter g).length
 | [],_=>by simp
 |a :: l,h=>by
  have ih:=LP l (λx hx=>h x (by simp[hx]));have ha:=h a (by simp);cases e:f a with
  |true=>simp[b6,e,ha e,ih]
  |false=>
   cases e2:g a with
   |true=>simp[b6,e,e2];omega
   |false=>simp[b6,e,e2,ih]
theorem filter_lt{α:Type}{f g:α->Bool}:∀(l:List α),(∀x∈l,f x=true->g x=true)->(∃x∈l,g x=true/\f x=false)->(l.filter f).length<(l.filter g).length
 | [],_,h=>by obtain⟨x,hx,_⟩:=h;cases hx
 |a :: l,h,hw=>by
  have hs:=LP l (λx hx=>h x (by simp[hx]));have ha:=h a (by simp);obtain⟨x,hx,h1,h2⟩:=hw;rcases aS.1 hx with rfl|hx
  .simp[b6,h1,h2];omega
  .have ih:=filter_lt l (λx hx=>h x (by simp[hx])) ⟨x,hx,h1,h2⟩;cases e:f a with
   |true=>simp[b6,e,ha e,ih]
   |false=>
    cases e2:g a with
    |true=>simp[b6,e,e2];omega
    |false=>simp[b6,e,e2,ih]
def RH(qs:List fJ):Prop:=∀i j,i<j->j<qs.length->jL qs (qs.getD i fH)<=jL qs (qs.getD j fH)
theorem UX{ts:List fS}{qs:List fJ}(hl:ts.length<=200)(P:tM ts qs)(ho:RH qs):∀i j,i<j->j<qs.length->¬kY (qs.getD i fH).s (qs.getD j fH).s:=by
 intro i j hij hj hs
 have hcan:∀p∈qs,iV p.s:=λp hp y hy=>by have:=P.low p hp y hy;omega
 have hi:i<qs.length:=by omega
 have h1:=ho i j hij hj
 have h2:jL qs (qs.getD j fH)<jL qs (qs.getD i fH):=by
  have cj:=hcan _ (mM hj);have ci:=hcan _ (mM hi);refine filter_lt qs ?_ ⟨qs.getD j fH,mM hj,(within_iff ci cj).2 hs,?_⟩
  .intro x hx h;exact(within_iff ci (hcan x hx)).2 (hs.trans ((within_iff cj (hcan x hx)).1 h))
  .cases e:lQ (qs.getD j fH).s (qs.getD j fH).s with
   |false=>rfl
   |true=>exact((within_iff cj cj).1 e).irrefl.elim
 omega
theorem YK{ts:List fS}(hf:jK ts=true){qs:List fJ}(hp:(lM ts).Perm qs)(ho:RH qs):gY ts (kH ts.length qs)=true:=by
 have P:=(wD hf).perm hp
 exact WY hf P (UX (gT hf).2.1.2 P ho)
end

section
theorem MO{α:Type}(f:Nat->α)(n k:Nat)(z:α)(h:k<n):((List.range n).map f).getD k z=f k:=by
 simp[ak,h]
theorem ET{ts:List fS}(hf:jK ts=true):(lM ts).length+1<=ts.length:=by
 have hP:=wD hf
 have hl:=(gT hf).2.1.2
 obtain⟨ms,hp,ho⟩:∃ms:List fJ,ms.Perm (lM ts)/\RH ms:=by
  refine⟨(lM ts).mergeSort (λp q=>decide (jL (lM ts) p<=jL (lM ts) q)),eV _ _,?_⟩;have hs:((lM ts).mergeSort (λp q=>decide (jL (lM ts) p<=jL (lM ts) q))).Pairwise (λa b=>decide (jL (lM ts) a<=jL (lM ts) b)=true):=by
   refine List.pairwise_mergeSort ?_ ?_ _
   .intro a b c h1 h2;simp only[aN] at *;omega
   .intro a b;simp only[bW,aN];omega
  have hp:=eV (lM ts) (λp q=>decide (jL (lM ts) p<=jL (lM ts) q));generalize (lM ts).mergeSort (λp q=>decide (jL (lM ts) p<=jL (lM ts) q))=ms at *;intro i j hij hj;have hi:i<ms.length:=by omega
  have h1:=(cH.1 hs) i j hi hj hij;simp only[aN] at h1;rw[tA hp,tA hp,ak,ak,ah hi,ah hj];exact h1
 have hP2:=hP.perm hp.symm
 have:=OV hf hP2 (UX hl hP2 ho)
 rw[hp.length_eq] at this
 exact this
theorem VH{ts:List fS}(hf:jK ts=true):(nG ts 201 (fM ts.length)).length<=200:=by
 have h1:=ET hf
 have h2:=(gT hf).2.1.2
 rw[lM,bf] at h1
 omega
theorem XJ{ts:List fS}(hf:jK ts=true):∀p∈nG ts 201 (fM ts.length),iV p.s:=by
 have hl:=(gT hf).2.1.2
 have F:=OU hf 201 (fM ts.length) (nE hl) (λy hy=>by simpa[fM] using hy) (by
  have:(gQ (fM ts.length)).length<=200:=by
   have:=bX (fM ts.length) (List.range 200);simpa[gQ] using this
  omega)
 exact λp hp y hy=>by have:=(F.ok p hp).low y hy;omega
theorem GI{ts:List fS}{qs:List fJ}(hl:ts.length<=200)(P:tM ts qs):∀p∈qs,gQ p.s≠[]/\lW p<200/\p.s (lW p)=true/\lW p<ts.length/\iV p.s:=by
 intro p hp
 have hc:iV p.s:=λy hy=>by have:=P.low p hp y hy;omega
 obtain⟨y,hy⟩:=P.some p hp
 have h1:=(kV hc y).2 hy
 have h2:gQ p.s≠[]:=λe=>by rw[e] at h1;cases h1
 have h3:lW p∈gQ p.s:=by
  unfold lW;cases e:gQ p.s with
  |nil=>exact absurd e h2
  |cons b r=>simp
 have h4:=(kV hc _).1 h3
 have h5:=P.low p hp _ h4
 exact⟨h2,by omega,h4,h5.2,hc⟩
def IC(n:Nat)(qs:List fJ)(k:Nat):List Int:=(List.range n).map λx=>((kG qs x k:Nat):Int)
def yA(n:Nat)(qs:List fJ)(k:Nat)(dn:List Nat):List Int:=(List.range n).map λx=>if dn.contains x then ((k+1:Nat):Int) else ((kG qs x k:Nat):Int)
theorem ph(n:Nat)(qs:List fJ):IC n qs 0=List.replicate n 0:=by
 apply cZ
 intro i
 simp only[IC,kG,dt,List.getElem?_range',List.getElem?_replicate]
 by_cases h:i<n
 .simp[h]
 .simp[h,Nat.not_lt.1 h]
theorem ll(n:Nat)(qs:List fJ)(k x:Nat)(h:x<n):(IC n qs k).getD x 0=(kG qs x k:Int):=MO _ _ _ _ h
theorem pd(n:Nat)(qs:List fJ)(k:Nat):yA n qs k []=IC n qs k:=by simp[yA,IC]
theorem gn(n:Nat)(qs:List fJ)(k:Nat)(dn:List Nat)(x:Nat)(h:x<n):(yA n qs k dn).set x ((k+1:Nat):Int)=yA n qs k (dn++ [x]):=by
 apply cZ
 intro i
 by_cases hi:i<n
 .rw[dR];by_cases e:x=i
  .subst e;simp[yA,h]
  .have e':¬i=x:=λh=>e h.symm;simp[yA,hi,e,e']
 .simp[yA,hi,Nat.not_lt.1 hi]
theorem pf(n:Nat)(qs:List fJ)(k:Nat)(hc:iV (qs.getD k fH).s):yA n qs k (gQ (qs.getD k fH).s)=IC n qs (k+1):=by
 unfold yA IC
 apply dA
 intro x _
 simp only[eM,kV hc,kG]
 cases (qs.getD k fH).s x<;>simp
def TX(qs:List fJ)(k:Nat)(bs:List Int):fT:=⟨(qs.getD k fH).kind,(kG qs (lW (qs.getD k fH)) k:Nat),bs⟩
def yK(qs:List fJ)(k:Nat):List fT:=⟨1,-1,[]⟩ :: (List.range k).map λi=>TX qs i []
theorem KS(qs:List fJ)(k:Nat):(yK qs k).length=k+1:=by simp[yK]
theorem WN(qs:List fJ)(k:Nat):yK qs (k+1)=yK qs k++ [TX qs k []]:=by
 simp[yK,cm]
def obJ(qs:List fJ)(j m:Nat):List Int:=fN ((List.range j).filter λx=>kG qs x qs.length==m)
def oP(qs:List fJ)(j:Nat):List fT:=⟨1,-1,obJ qs j 0⟩ :: (List.range qs.length).map λi=>TX qs i (obJ qs j (i+1))
theorem WO(qs:List fJ):oP qs 0=yK qs qs.length:=rfl
theorem ZL(n:Nat)(qs:List fJ):oP qs n=kH n qs:=rfl
theorem xK(qs:List fJ)(j:Nat):(oP qs j).length=qs.length+1:=by simp[oP]
theorem DE(qs:List fJ)(j m:Nat):obJ qs (j+1) m=obJ qs j m++if kG qs j qs.length=m then [(j:Int)] else []:=by
 unfold obJ fN
 rw[cm,bB,cU]
 congr 1
 by_cases h:kG qs j qs.length=m<;>simp[h]
theorem wO(qs:List fJ)(j k:Nat)(hk:k<=qs.length):(oP qs j)[k]? =some (if k=0 then ⟨1,-1,obJ qs j 0⟩ else TX qs (k-1) (obJ qs j k)):=by
 cases k with
 |zero=>rfl
 |succ k=>
  have:k<qs.length:=by omega
  simp[oP,this]
theorem WP(qs:List fJ)(j:Nat)(t:fT)(h:(oP qs j)[kG qs j qs.length]? =some t):(oP qs j).set (kG qs j qs.length) ⟨t.kind,t.parent,t.blocks++ [(j:Int)]⟩=oP qs (j+1):=by
 have hle:=oZ qs j qs.length
 apply cZ
 intro i
 rw[dR]
 by_cases hi:i<=qs.length
 .by_cases e:kG qs j qs.length=i
  .subst e;rw[aM rfl,aM (by rw[xK];omega)];rw[wO _ _ _ hle] at h;rw[wO _ _ _ hle];injection h with h;subst h
   congr 1
   by_cases h0:kG qs j qs.length=0
   .rw[aM h0,aM h0,DE,aM h0]
   .rw[az h0,az h0,DE,aM rfl];rfl
  .rw[az e,wO _ _ _ hi,wO _ _ _ hi]
   congr 1
   by_cases h0:i=0
   .subst h0;rw[aM rfl,aM rfl,DE,az e,ct]
   .rw[az h0,az h0,DE,az e,ct]
 .have h1:(oP qs j)[i]? =none:=di (by rw[xK];omega);have h2:(oP qs (j+1))[i]? =none:=di (by rw[xK];omega);rw[h1,h2];rw[az (by omega)]
theorem ND(qs:List fJ)(j k:Nat)(t:fT)(h:(oP qs j)[k]? =some t):t.blocks.length<=j:=by
 have hl:∀m,(obJ qs j m).length<=j:=λm=>by
  have:=bX (λx=>kG qs x qs.length==m) (List.range j);rw[List.length_range] at this;simpa[obJ,fN] using this
 have hk:k<=qs.length:=by have:=(aE.1 h).1;rw[xK] at this;omega
 rw[wO _ _ _ hk] at h
 injection h with h
 subst h
 by_cases h0:k=0
 .rw[aM h0];exact hl 0
 .rw[az h0];exact hl k
end
end Go.Proofs.YtbknbcmppdglhaaGreatDoor
