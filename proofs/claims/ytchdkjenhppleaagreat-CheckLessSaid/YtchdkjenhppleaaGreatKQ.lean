/-
 Regions that draw their order:a law for each operation by itself,whatever has been done ahead of it;what each yields is said of its value,of how great the heap was ahead of it and behind it,and holds in all later worlds. No program in sight.
-/
import Derived.Test.YtchdkjenhppleaaGreatA0
import Derived.Test.YtchdkjenhppleaaGreatFM
import Derived.Test.YtchdkjenhppleaaGreatKI
import Derived.Test.YtchdkjenhppleaaGreatKP
namespace Go.Proofs.YtchdkjenhppleaaGreat
set_option linter.unusedSimpArgs false
set_option linter.unusedVariables false
set_option linter.unusedSectionVars false
set_option maxRecDepth 100000
set_option maxHeartbeats 40000000
section
open Go.RowKit
def gR:Act->List (Option Nat)->Nat->(Nat->Value)->Act
 |a,[],_,_=>a
 |a,none :: ds,k,ν=>gR a ds (k+1) ν
 |a,some d :: ds,k,ν=>gR {tmps:=a.tmps.setIfInBounds d (ν k),defers:=a.defers} ds (k+1) ν
def iI(a:Act)(ds:List (Option Nat))(ν:Nat->Value):Act:=gR a ds 0 ν
def iX{α:Type}(ν:Nat->α)(i:Nat)(v:α):Nat->α:=λj=>if j=i then v else ν j
theorem NE(a:Act)(d:Nat)(v:Value):a.put (some d) v={tmps:=a.tmps.setIfInBounds d v,defers:=a.defers}:=rfl
theorem pr(a:Act)(v:Value):a.put none v=a:=rfl
theorem oU:∀(ds:List (Option Nat)) (a:Act) (k:Nat) (ν ν':Nat->Value),(∀j,k<=j->ν j=ν' j)->gR a ds k ν=gR a ds k ν'
 | [],_,_,_,_,_=>rfl
 |none :: ds,a,k,ν,ν',h=>oU ds a (k+1) ν ν' (λj hj=>h j (by omega))
 |some d :: ds,a,k,ν,ν',h=>by
  simp only[gR];rw[h k (aw _)];exact oU ds _ (k+1) ν ν' (λj hj=>h j (by omega))
theorem uQ:∀(ds:List (Option Nat)) (a:Act) (k:Nat) (ν:Nat->Value) (d:Nat) (v:Value),some d∉ds->(gR a ds k ν).put (some d) v=gR (a.put (some d) v) ds k ν
 | [],_,_,_,_,_,_=>rfl
 |none :: ds,a,k,ν,d,v,h=>uQ ds a (k+1) ν d v (λhm=>h (by grind))
 |some d' :: ds,a,k,ν,d,v,h=>by
  simp only[gR];rw[uQ ds _ (k+1) ν d v (λhm=>h (by grind))]
  grind[NE,Array.setIfInBounds_comm]
theorem uP:∀(ds:List (Option Nat)) (a:Act) (k:Nat) (ν:Nat->Value) (i d:Nat) (v:Value),(ds.filterMap id).Nodup->ds[i]? =some (some d)->(gR a ds k ν).put (some d) v=gR a ds k (iX ν (k+i) v)
 | [],_,_,_,i,_,_,_,h=>by grind
 |none :: ds,a,k,ν,i,d,v,hn,h=>by
  cases i with
  |zero=>grind
  |succ i=>
   have:=uP ds a (k+1) ν i d v hn (by grind)
   grind[gR]
 |some d' :: ds,a,k,ν,i,d,v,hn,h=>by
  simp only[List.filterMap_cons,id_eq,dG] at hn;have hmem:∀x,some x∈ds->x∈ds.filterMap id:=λx hx=>List.mem_filterMap.2 ⟨some x,hx,rfl⟩;cases i with
  |zero=>
   simp only[List.getElem?_cons_zero,bv] at h;subst h;simp only[gR];rw[uQ ds _ (k+1) ν d' v (λhm=>hn.1 (hmem _ hm))];simp only[NE,Array.setIfInBounds_setIfInBounds];have e:iX ν (k+0) v k=v:=by simp[iX]
   rw[e];exact oU ds _ (k+1) ν _ (λj hj=>by simp[iX];omega)
  |succ i=>
   simp only[gR];rw[uP ds _ (k+1) ν i d v hn.2 (by grind),show k+1+i=k+(i+1) by omega];simp[iX]
theorem YF(a:Act)(ds:List (Option Nat))(ν:Nat->Value)(i:Nat)(v:Value)(hn:(ds.filterMap id).Nodup)(hi:i<ds.length):(iI a ds ν).put (ds.getD i none) v=iI a ds (iX ν i v):=by
 have hg:ds[i]? =some (ds.getD i none):=by grind
 cases hd:ds.getD i none with
 |some d=>
  rw[hd] at hg;have:=uP ds a 0 ν i d v hn hg;rw[aW] at this;trivial
 |none=>
  show iI a ds ν=_;unfold iI;have key:∀(ds:List (Option Nat)) (a:Act) (k i:Nat),ds[i]? =some none->gR a ds k ν=gR a ds k (iX ν (k+i) v):=by
   intro ds
   induction ds with
   |nil=>simp
   |cons x ds ih=>
    intro a k i h;cases i with
    |zero=>
     simp only[List.getElem?_cons_zero,bv] at h;subst h;exact oU ds a (k+1) ν _ (λj hj=>by simp[iX];omega)
    |succ i=>
     cases x with
     |none=>grind[gR]
     |some d'=>
      simp only[gR];have e:iX ν (k+(i+1)) v k=ν k:=by simp[iX]
      grind
  grind
def RK(a:Act)(ds:List (Option Nat)):Nat->Value:=λk=>match ds.getD k none with
 |some d=>a.tmps.getD d undef
 |none=>undef
theorem gd(t:Array Value)(d:Nat):t.setIfInBounds d (t.getD d undef)=t:=by
 apply cH
 intro k
 by_cases e:d=k
 .by_cases h:d<t.size
  .simp_all
  grind
 grind
theorem QC(a:Act)(ds:List (Option Nat)):iI a ds (RK a ds)=a:=by
 have key:∀(ds:List (Option Nat)) (k:Nat) (ν:Nat->Value),(∀j d,ds[j]? =some (some d)->ν (k+j)=a.tmps.getD d undef)->gR a ds k ν=a:=by
  intro ds
  induction ds with
  |nil=>intro k ν _;rfl
  |cons x ds ih=>
   intro k ν h;have h':∀j d,ds[j]? =some (some d)->ν (k+1+j)=a.tmps.getD d undef:=λj d hj=>by
    have:=h (j+1) d (by grind)
    grind
   cases x with
   |none=>exact ih (k+1) ν h'
   |some d=>
    have h0:=h 0 d (by simp);rw[bz] at h0;simp only[gR];rw[h0,gd]
    simp_all
 refine key ds 0 _ (λj d hj=>?_)
 simp_all[RK]
theorem BW(L:Array Bool)(i:Nat)(h:i<L.size):(L.setIfInBounds i true).getD i false=true:=by
 simp_all
theorem jg(p p':Nat->Bool)(i:Nat)(hp:p i=true)(he:∀j,p' j=(j != i&&p j)):∀(L:List Nat),L.Nodup->i∈L->(L.filter p').length+1=(L.filter p).length:=by
 intro L
 induction L with
 |nil=>simp
 |cons x L ih=>
  intro hn hm;rw[dG] at hn;by_cases e:x=i
  .have h1:L.filter p'=L.filter p:=List.filter_congr λj hj=>by
    have:j≠x:=λe=>hn.1 (e▸hj)
    grind
   grind
  grind
theorem VA(m:Nat):∀n,((List.range n).filter λj=> !decide (j<m)).length=n-m:=by
 intro n
 induction n with
 |zero=>simp
 |succ n ih=>
  grind[List.range_succ]
def DC(l:List Oper)(i j:Nat):Bool:=((l[i]?).map λo=>o.after.any λe=>Region.binds .any e&&e.on==j).getD false
def zZ(l:List Oper)(m:Nat)(ds:List (Option Nat)):Bool:=
 decide (ds.length=m/\m<=l.length/\(ds.filterMap id).Nodup)&&((List.range m).all λi=>((l[i]?).map λo=>o.dst==ds.getD i none&&o.after.all λe=> !Region.binds .any e||decide (e.on<i)).getD false)&&
  ((List.range l.length).all λj=>(decide (j<m)||(List.range j).all λi=>DH l j i)&&((l[j]?).map λo=>o.after.all λe=> !Region.binds .any e||decide (e.on<j)).getD false)
inductive UL where
 |val (c:Value)
 |new (o:Obj)
 |any (p:Value->Nat->Nat->World->Prop)
abbrev Spec:=Nat->Value->Nat->Nat->World->Prop
def oE:UL->Value->Nat->Nat->World->Prop
 | .val c,v,_,_,_=>v=c
 | .new o,v,lo,hi,w=>v=.pointer (some ⟨lo,0,none⟩)/\lo<hi/\w.heap[lo]? =some o
 | .any p,v,lo,hi,w=>p v lo hi w
def jL(ks:List UL):Spec:=λi v lo hi w=>oE (ks.getD i (.any λ_ _ _ _=>True)) v lo hi w
def m6:UL->Prop
 | .any p=>∀v lo hi w w',Below w.heap.size w w'->p v lo hi w->p v lo hi w'
 |_=>True
theorem kC{ks:List UL}(h:∀k∈ks,m6 k):∀i v lo hi w w',Below w.heap.size w w'->jL ks i v lo hi w->jL ks i v lo hi w':=by
 intro i v lo hi w w' hb hs
 unfold jL at*
 have hk:m6 (ks.getD i (.any λ_ _ _ _=>True)):=by
  rw[ax];cases e:ks[i]? with
  |none=>exact λ_ _ _ _ _ _ h=>h
  |some k=>grind
 generalize ks.getD i (.any λ_ _ _ _=>True)=k at*
 cases k with
 |val c=>exact hs
 |new o=>exact⟨hs.1,hs.2.1,eB hb hs.2.2⟩
 |any p=>exact hk v lo hi w w' hb hs
section
variable {P:Program} {l:List Oper} {Q:Exit->Act->World->Prop}
theorem JL(m:Nat)(hok:∀j,m<=j->j<l.length->∀i,i<j->DH l j i=true)(hup:∀j o,l[j]? =some o->∀e∈o.after,Region.binds .any e=true->e.on<j):
  ∀(k j:Nat) (listed:Array Bool) (a:Act) (w:World),l.length-j=k->m<=j->j<=l.length->listed.size=l.length->(∀i,i<l.length->listed.getD i false=decide (i<j))->mA l listed->wpList P l.toArray Q (l.drop j) a w->wpAny P .any l.toArray Q k listed a w:=by
 intro k
 induction k with
 |zero=>
  intro j listed a w hk hm hj hs hL hc h;have hr:Region.ready .any l.toArray listed= []:=by
   cases hr:Region.ready .any l.toArray listed with
   |nil=>rfl
   |cons i r=>
    have hi:i∈Region.ready .any l.toArray listed:=by grind
    grind[mem_ready]
  rw[cO (by omega)] at h;trivial
 |succ k ih=>
  intro j listed a w hk hm hj hs hL hc h;have hjl:j<l.length:=by omega
  have hj0:l[j]? =some l[j]:=au hjl;have only:∀i∈Region.ready .any l.toArray listed,i=j:=λi hi=>by
   obtain⟨h1,o,ho,_⟩:=dV.1 hi;have hlt:i<l.length:=by grind
   have h2:=hL i hlt;have e:listed.getD i true=listed.getD i false:=by simp[hs,hlt]
   rw[e,h2] at h1;simp at h1;by_cases hij:i=j
   .exact hij
   .obtain⟨n,hn⟩:=uK (hok i (by omega) hlt j (by omega));have h3:=uJ hc hi hn;rw[hL j hjl] at h3;simp at h3
  have hrj:j∈Region.ready .any l.toArray listed:=by
   refine dV.2 ⟨?_,l[j],by simp[hjl],λe he hb=>?_⟩
   .have e:listed.getD j true=listed.getD j false:=by simp[hs,hjl]
    rw[e,hL j hjl];simp
   .have hon:=hup j l[j] hj0 e he hb;rw[hL e.on (by omega)];simpa using hon
  refine⟨λh0=>absurd hrj (by rw[h0];simp),λi hi=>?_⟩;obtain rfl:=only i hi;rw[cw hjl] at h;have hget:l.toArray[i]? =some l[i]:=by simp[hjl]
  unfold wpOp;simp only[hget];have hnext:∀a' w',wpList P l.toArray Q (l.drop (i+1)) a' w'->wpAny P .any l.toArray Q k (listed.setIfInBounds i true) a' w':=λa' w' h'=>by
   refine ih (i+1) _ a' w' (by omega) (by omega) (by omega) (by simpa using hs) (λq hq=>?_) (hc.set hrj) h';by_cases e:i=q
   .subst e;rw[BW _ _ (by rw[hs];exact hjl)];simp
   .rw[dC false e,hL q hq];rw[di];omega
  rw[wpList] at h
  split
  .rename_i hw
   rw[aX hw] at h;exact h.imp (λh=>Oper.wp_mono hnext h) id
  .rename_i hw
   rw[aC hw] at h;exact hnext _ _ h
theorem TM{l:List Oper}{j k:Nat}(h:DC l j k=true):lW l 0 j k=true:=by
 grind[DC,lW]
theorem JM{P:Program}{l:List Oper}{Q:Exit->Act->World->Prop}(m:Nat)(ds:List (Option Nat))(hok:zZ l m ds=true)(S:Spec)(Lk:Nat->Value->(Nat->Value)->Prop)(hcong:∀i v ν ν',(∀j,DC l i j=true->ν j=ν' j)->Lk i v ν->Lk i v ν')(a0:Act)(w0:World)
  (hmono:∀i v lo hi w w',Below w.heap.size w w'->S i v lo hi w->S i v lo hi w')
  (hops:∀i,i<m->∀(ν:Nat->Value) (lo hi:Nat->Nat) (w:World) (K:Act->World->Prop),Below w0.heap.size w0 w->(∀j,DC l i j=true->S j (ν j) (lo j) (hi j) w)->
    (∀v w',Below w.heap.size w w'->S i v w.heap.size w'.heap.size w'->Lk i v ν->K ((iI a0 ds ν).put (ds.getD i none) v) w')->wpOp P l.toArray Q i K (iI a0 ds ν) w)
  (hend:∀(ν:Nat->Value) (lo hi:Nat->Nat) (w:World),Below w0.heap.size w0 w->(∀i,i<m->S i (ν i) (lo i) (hi i) w)->(∀i,i<m->w0.heap.size<=lo i/\lo i<=hi i/\hi i<=w.heap.size)->
    (∀i j,i<m->j<m->i≠j->hi i<=lo j\/hi j<=lo i)->(∀i,i<m->Lk i (ν i) ν)->wpList P l.toArray Q (l.drop m) (iI a0 ds ν) w):
  wpAny P .any l.toArray Q l.length (Array.replicate l.length false) a0 w0:=by
 simp only[zZ,az,aR,bq,be] at hok
 obtain⟨⟨⟨hds,hml,hnd⟩,h1⟩,h2⟩:=hok
 have hup:∀j o,l[j]? =some o->∀e∈o.after,Region.binds .any e=true->e.on<j:=λj o hj e he hb=>by
  grind[Array.all_eq_true']
 have htail:∀j,m<=j->j<l.length->∀i,i<j->DH l j i=true:=λj hj hlt i hi=>by
  grind
 have key:∀(fuel:Nat) (listed:Array Bool) (ν:Nat->Value) (lo hi:Nat->Nat) (w:World),((List.range l.length).filter λj=> !listed.getD j true).length=fuel->listed.size=l.length->mA l listed->
   (∀j,m<=j->listed.getD j false=false)->Below w0.heap.size w0 w->(∀i,i<m->listed.getD i false=true->S i (ν i) (lo i) (hi i) w/\w0.heap.size<=lo i/\lo i<=hi i/\hi i<=w.heap.size)->
   (∀i j,i<m->j<m->i≠j->listed.getD i false=true->listed.getD j false=true->hi i<=lo j\/hi j<=lo i)->(∀i,i<m->listed.getD i false=true->Lk i (ν i) ν)->wpAny P .any l.toArray Q fuel listed (iI a0 ds ν) w:=by
  intro fuel
  induction fuel with
  |zero=>
   intro listed ν lo hi w hf hs hc htl hB hS hD hL0;by_cases hall:∀i,i<m->listed.getD i false=true
   .have hL:∀i,i<l.length->listed.getD i false=decide (i<m):=λi _=>by
     grind
    have hcnt:l.length-m=0:=by
     rw[<-hf,<-VA m l.length]
     congr 1
     refine List.filter_congr λj hj=>?_;have hj:=be.1 hj;have e:listed.getD j true=listed.getD j false:=by simp[hs,hj]
     rw[e,hL j hj]
    exact JL m htail hup 0 m listed _ w hcnt (aw _) hml hs hL hc (hend ν lo hi w hB (λi h=>(hS i h (hall i h)).1) (λi h=>(hS i h (hall i h)).2) (λi j h h' hne=>hD i j h h' hne (hall i h) (hall j h')) (λi h=>hL0 i h (hall i h)))
   .exfalso;have⟨i,hi⟩:=Classical.not_forall.1 hall;have⟨him,hin⟩:=Classical.not_imp.1 hi;have hlt:i<l.length:=by omega
    have hmem:i∈(List.range l.length).filter λj=> !listed.getD j true:=by
     rw[bO,be];refine⟨hlt,?_⟩;have e:listed.getD i true=listed.getD i false:=by simp[hs,hlt]
     rw[e];simpa using hin
    rw[bB hf] at hmem;cases hmem
  |succ fuel ih=>
   intro listed ν lo hi w hf hs hc htl hB hS hD hL0;by_cases hall:∀i,i<m->listed.getD i false=true
   .have hL:∀i,i<l.length->listed.getD i false=decide (i<m):=λi _=>by
     by_cases h:i<m
     .rw[hall i h];simp[h]
     .rw[htl i (by omega)];simp[h]
    have hcnt:l.length-m=fuel+1:=by
     rw[<-hf,<-VA m l.length]
     congr 1
     refine List.filter_congr λj hj=>?_;have hj:=be.1 hj;have e:listed.getD j true=listed.getD j false:=by simp[hs,hj]
     rw[e,hL j hj]
    exact JL m htail hup (fuel+1) m listed _ w hcnt (aw _) hml hs hL hc (hend ν lo hi w hB (λi h=>(hS i h (hall i h)).1) (λi h=>(hS i h (hall i h)).2) (λi j h h' hne=>hD i j h h' hne (hall i h) (hall j h')) (λi h=>hL0 i h (hall i h)))
   · -- the least that is to come
     have hex:∀k,(∃i,i<m/\i<=k/\listed.getD i false=false)->∃i,i<m/\listed.getD i false=false/\∀j,j<i->listed.getD j false=true:=by
      intro k
      induction k with
      |zero=>
       rintro⟨i,h1,h2,h3⟩;exact⟨i,h1,h3,λj hj=>by omega⟩
      |succ k ihk=>
       rintro⟨i,h1,h2,h3⟩;by_cases h:∃i,i<m/\i<=k/\listed.getD i false=false
       .exact ihk h
       .refine⟨i,h1,h3,λj hj=>?_⟩;cases e:listed.getD j false with
        |true=>rfl
        |false=>exact absurd ⟨j,by omega,by omega,e⟩ h
     have⟨i1,hi1⟩:=Classical.not_forall.1 hall;have⟨him1,hin1⟩:=Classical.not_imp.1 hi1;obtain⟨i0,h0m,h0f,h0all⟩:=hex i1 ⟨i1,him1,aw _,by simpa using hin1⟩;have h0l:i0<l.length:=by omega
     have hr0:i0∈Region.ready .any l.toArray listed:=by
      refine dV.2 ⟨?_,l[i0],by simp[h0l],λe he hb=>h0all e.on (hup i0 l[i0] (au h0l) e he hb)⟩;have e:listed.getD i0 true=listed.getD i0 false:=by simp[hs,h0l]
      rw[e,h0f]
     refine⟨λh=>absurd hr0 (by rw[h];simp),λi hir=>?_⟩;obtain⟨hi1',o,ho,hdep⟩:=dV.1 hir;have hil:i<l.length:=by have:=(am.1 ho).1;simpa using this
     have hif:listed.getD i false=false:=by
      have e:listed.getD i true=listed.getD i false:=by simp[hs,hil]
      rw[<-e];exact hi1'
     have him:i<m:=by
      apply cu;intro hge;obtain⟨n,hn⟩:=uK (htail i (by omega) hil i0 (by omega));have h9:=uJ hc hir hn;rw[h0f] at h9;cases h9
     refine hops i him ν lo hi w _ hB (λj hj=>?_) (λv w' hb hsp hlk0=>?_)
     .have ho':l[i]? =some o:=by simpa using ho
      simp only[DC,ho',Option.map_some,dA] at hj;obtain⟨e,he,hbe⟩:=da.1 hj;simp only[az,de] at hbe;have hlj:listed.getD j false=true:=hbe.2▸hdep e he hbe.1;have hji:j<i:=hbe.2▸hup i o ho' e he hbe.1;exact(hS j (by omega) hlj).1
     .rw[YF a0 ds ν i v hnd (by omega)];have hsz:=hb.size;refine ih (listed.setIfInBounds i true) (iX ν i v) (iX lo i w.heap.size) (iX hi i w'.heap.size) w' ?_ (by simpa using hs) (hc.set hir) (λj hj=>?_) (hB.trans (hb.mono hB.size)) (λj hj hlj=>?_) (λj k hj hk hne hlj hlk=>?_) (λj hj hlj=>?_)
      .have:=jg (λj=> !listed.getD j true) (λj=> !(listed.setIfInBounds i true).getD j true) i (by simp[hi1']) (λj=>by
        by_cases e:i=j
        .subst e;have:(listed.setIfInBounds i true).getD i true=true:=by
          have h1:=BW listed i (by rw[hs];exact hil);rw[Array.getD_eq_getD_getElem?] at h1|-;cases h2:(listed.setIfInBounds i true)[i]? with
          |none=>rfl
          |some b=>rw[h2] at h1;exact h1
         simp[this]
        .have e':(j != i)=true:=by simpa using λh=>e h.symm
         rw[dC true e,e',cJ]) (List.range l.length) List.nodup_range (be.2 hil)
       omega
      .rw[dC false (by omega)];exact htl j hj
      .by_cases e:i=j
       .subst e;simp only[iX,aX rfl];exact⟨hsp,hB.size,hsz,aw _⟩
       .have e':¬j=i:=λh=>e h.symm;rw[dC false e] at hlj;simp only[iX,aC e'];obtain⟨s1,s2,s3,s4⟩:=hS j hj hlj;exact⟨hmono j _ _ _ w w' hb s1,s2,s3,by omega⟩
      .by_cases ej:i=j
       .subst ej;have e':¬k=i:=λh=>hne h.symm;rw[dC false hne] at hlk;obtain⟨_,s2,s3,s4⟩:=hS k hk hlk;simp only[iX,aX rfl,aC e'];exact .inr s4
       .have ej':¬j=i:=λh=>ej h.symm;rw[dC false ej] at hlj;obtain⟨_,s2,s3,s4⟩:=hS j hj hlj;by_cases ek:i=k
        .subst ek;simp only[iX,aX rfl,aC ej'];exact .inl s4
        .have ek':¬k=i:=λh=>ek h.symm;rw[dC false ek] at hlk;simp only[iX,aC ej',aC ek'];exact hD j k hj hk hne hlj hlk
      .by_cases e:i=j
       .subst e;have e1:iX ν i v i=v:=by simp[iX]
        rw[e1];refine hcong i v ν _ (λk hk=>?_) hlk0;have hki:k<i:=by
         have ho':l[i]? =some o:=by simpa using ho
         simp only[DC,ho',Option.map_some,dA] at hk;obtain⟨e,he,hbe⟩:=da.1 hk;simp only[az,de] at hbe;exact hbe.2▸hup i o ho' e he hbe.1
        simp only[iX];rw[aC (by omega)]
       .have e':¬j=i:=λh=>e h.symm;rw[dC false e] at hlj;have e1:iX ν i v j=ν j:=by simp[iX,e']
        rw[e1];refine hcong j (ν j) ν _ (λk hk=>?_) (hL0 j hj hlj);have hlk:listed.getD k false=true:=yN hc 0 j k hlj (TM hk);have hne:k≠i:=λh=>by subst h;rw[hif] at hlk;cases hlk
        simp only[iX];rw[aC hne]
 have h3:=key l.length (Array.replicate l.length false) (RK a0 ds) (λ_=>0) (λ_=>0) w0 (by
  have:(List.range l.length).filter (λj=> !(Array.replicate l.length false).getD j true)=List.range l.length:=by
   rw[dP];intro j hj;have:=be.1 hj;simp[this]
  rw[this];simp) (by simp) (CB _) (λj hj=>by
  by_cases h:j<l.length<;>simp[h]) (ao _ _) (λi hi h=>by
  by_cases h':i<l.length
  .simp[h'] at h
  .omega) (λi j hi hj _ h=>by
  by_cases h':i<l.length
  .simp[h'] at h
  .omega) (λi hi h=>by
  by_cases h':i<l.length
  .simp[h'] at h
  .omega)
 rwa [QC] at h3
theorem OD{P:Program}{l:List Oper}{Q:Exit->Act->World->Prop}(m:Nat)(ds:List (Option Nat))(hok:zZ l m ds=true)(S:Spec)(a0:Act)(w0:World)
  (hmono:∀i v lo hi w w',Below w.heap.size w w'->S i v lo hi w->S i v lo hi w')
  (hops:∀i,i<m->∀(ν:Nat->Value) (lo hi:Nat->Nat) (w:World) (K:Act->World->Prop),Below w0.heap.size w0 w->(∀j,DC l i j=true->S j (ν j) (lo j) (hi j) w)->
    (∀v w',Below w.heap.size w w'->S i v w.heap.size w'.heap.size w'->K ((iI a0 ds ν).put (ds.getD i none) v) w')->wpOp P l.toArray Q i K (iI a0 ds ν) w)
  (hend:∀(ν:Nat->Value) (lo hi:Nat->Nat) (w:World),Below w0.heap.size w0 w->(∀i,i<m->S i (ν i) (lo i) (hi i) w)->(∀i,i<m->w0.heap.size<=lo i/\lo i<=hi i/\hi i<=w.heap.size)->
    (∀i j,i<m->j<m->i≠j->hi i<=lo j\/hi j<=lo i)->wpList P l.toArray Q (l.drop m) (iI a0 ds ν) w):
  wpAny P .any l.toArray Q l.length (Array.replicate l.length false) a0 w0:=
 JM m ds hok S (λ_ _ _=>True) (λ_ _ _ _ _ _=>trivial) a0 w0 hmono (λi hi ν lo hi' w K hB hD hK=>hops i hi ν lo hi' w K hB hD λv w' h1 h2=>hK v w' h1 h2 trivial) (λν lo hi w hB hS hI hD _=>hend ν lo hi w hB hS hI hD)
theorem kZ{id:Nat}{a:Act}{w:World}(m:Nat)(ds:List (Option Nat))(hm:P.follows .mixedOrders=true)(hok:zZ l m ds=true)(S:Spec)
  (hmono:∀i v lo hi w w',Below w.heap.size w w'->S i v lo hi w->S i v lo hi w')
  (hops:∀i,i<m->∀(ν:Nat->Value) (lo hi:Nat->Nat) (w':World) (K:Act->World->Prop),Below w.heap.size w w'->(∀j,DC l i j=true->S j (ν j) (lo j) (hi j) w')->
    (∀v w'',Below w'.heap.size w' w''->S i v w'.heap.size w''.heap.size w''->K ((iI a ds ν).put (ds.getD i none) v) w'')->wpOp P l.toArray Q i K (iI a ds ν) w')
  (hend:∀(ν:Nat->Value) (lo hi:Nat->Nat) (w':World),Below w.heap.size w w'->(∀i,i<m->S i (ν i) (lo i) (hi i) w')->(∀i,i<m->w.heap.size<=lo i/\lo i<=hi i/\hi i<=w'.heap.size)->
    (∀i j,i<m->j<m->i≠j->hi i<=lo j\/hi j<=lo i)->wpList P l.toArray Q (l.drop m) (iI a ds ν) w'):
  (Code.region id l.toArray true).wp P Q a w:=by
 refine wp_region_any hm ?_
 have:=OD (P:=P) (l:=l) (Q:=Q) m ds hok S a w.drew hmono (λi hi ν lo hi' w' K hB=>hops i hi ν lo hi' w' K (jV hB)) (λν lo hi w' hB=>hend ν lo hi w' (jV hB))
 trivial
theorem RV{id:Nat}{a:Act}{w:World}{lp:Nat}(m:Nat)(ds:List (Option Nat))(hm:P.follows .mixedOrders=true)(hn:l.all pE=true)(hQ:¬LetsOut Q)(hok:zZ l m ds=true)(S:Spec)
  (hmono:∀i v lo hi w w',Below w.heap.size w w'->S i v lo hi w->S i v lo hi w')
  (hops:∀i,i<m->∀(ν:Nat->Value) (lo hi:Nat->Nat) (w':World) (K:Act->World->Prop),Below w.heap.size w w'->(∀j,DC l i j=true->S j (ν j) (lo j) (hi j) w')->
    (∀v w'',Below w'.heap.size w' w''->S i v w'.heap.size w''.heap.size w''->K ((iI a ds ν).put (ds.getD i none) v) w'')->wpOp P l.toArray Q i K (iI a ds ν) w')
  (hend:∀(ν:Nat->Value) (lo hi:Nat->Nat) (w':World),Below w.heap.size w w'->(∀i,i<m->S i (ν i) (lo i) (hi i) w')->(∀i,i<m->w.heap.size<=lo i/\lo i<=hi i/\hi i<=w'.heap.size)->
    (∀i j,i<m->j<m->i≠j->hi i<=lo j\/hi j<=lo i)->wpList P l.toArray Q (l.drop m) (iI a ds ν) w'):
  (Code.region id l.toArray true).wpIn (Fence.wide.inRound lp) 0 P Q a w:=by
 refine wpIn_region_draw λt=>?_
 refine wN lp (λi o ho=>?_) hQ _ _ _ ?_
 .grind
 .simp only[Region.schedule,hm,Bool.true_or,if_true];refine wpAny_sound _ t _ a _ ?_;have:=OD (P:=P) (l:=l) (Q:=Q) m ds hok S a w.drew hmono (λi hi ν lo hi' w' K hB=>hops i hi ν lo hi' w' K (jV hB)) (λν lo hi w' hB=>hend ν lo hi w' (jV hB));trivial
theorem eJ{e:Nat}{o:Oper}{K:Act->World->Prop}{a:Act}{w:World}(ho:l[e]? =some o)(hg:o.guard=none)(h:o.wp P a w K Q):wpOp P l.toArray Q e K a w:=eE ho hg h
end
theorem zA(a:Act)(ds:List (Option Nat))(v:Nat->Value):iI a ds v=gR a ds 0 v:=rfl
theorem zB(a:Act)(k:Nat)(v:Nat->Value):gR a [] k v=a:=rfl
theorem zC(a:Act)(ds:List (Option Nat))(k:Nat)(v:Nat->Value):gR a (none :: ds) k v=gR a ds (k+1) v:=rfl
theorem zD(a:Act)(d:Nat)(ds:List (Option Nat))(k:Nat)(v:Nat->Value):gR a (some d :: ds) k v=gR {tmps:=a.tmps.setIfInBounds d (v k),defers:=a.defers} ds (k+1) v:=rfl
theorem zE{α:Type}(x d:α)(l:List α):(x :: l).getD 0 d=x:=rfl
theorem zF{α:Type}(x d:α)(l:List α)(n:Nat):(x :: l).getD (n+1) d=l.getD n d:=rfl
theorem zG{α:Type}(l:List α)(i:Nat)(x:α):l.toArray.setIfInBounds i x=(l.set i x).toArray:=ae l i x
theorem zH{α:Type}(a:α)(l:List α)(n:Nat)(b:α):(a :: l).set (n+1) b=a :: l.set n b:=rfl
theorem zJ(a:Act)(d:Nat)(v:Value):a.put (some d) v={tmps:=a.tmps.setIfInBounds d v,defers:=a.defers}:=rfl
theorem zK(a:Act)(v:Value):a.put none v=a:=rfl
theorem zI{α:Type}(a:α)(l:List α)(b:α):(a :: l).set 0 b=b :: l:=rfl
end

section
open Go.RowKit
theorem MC{α:Type}(p:α->Bool)(l:List α):l.dropWhile p=l.drop (l.takeWhile p).length:=by
 induction l with
 |nil=>rfl
 |cons x l ih=>
  cases h:p x with
  |true=>simp[List.dropWhile_cons,List.takeWhile_cons,h,ih]
  |false=>simp[List.dropWhile_cons,List.takeWhile_cons,h]
theorem sL{α:Type}(p:α->Bool)(l:List α):(l.dropWhile p).filter (λx=> !p x)=l.filter (λx=> !p x):=by
 induction l with
 |nil=>rfl
 |cons x l ih=>
  cases h:p x with
  |true=>simp[List.dropWhile_cons,bK,h,ih]
  |false=>simp[List.dropWhile_cons,h]
def GK(sl tl:List fW):Prop:=(sl.filter λx=> !lZ x).length=(tl.filter λx=> !eQ x).length
theorem GK.copy{i:fW}{sl tl:List fW}(h:GK (i :: sl) tl)(hc:lZ i=true):GK sl tl:=by
 unfold GK at h|-
 simpa[bK,hc] using h
theorem GK.next{i:fW}{sl tl:List fW}(h:GK (i :: sl) tl)(hc:lZ i=false):∃u tl',tl.dropWhile eQ=u :: tl'/\GK sl tl':=by
 unfold GK at h|-
 rw[<-sL eQ tl] at h
 cases hd:tl.dropWhile eQ with
 |nil=>rw[hd] at h;simp[bK,hc] at h
 |cons u tl'=>
  have hu:eQ u=false:=by
   have:=List.head?_dropWhile_not eQ tl;rw[hd] at this;simpa using this
  rw[hd] at h;refine⟨u,tl',rfl,?_⟩;simp[bK,hc,hu] at h;exact h
end

section
open Go.RowKit
noncomputable def wJ (i:fW) (x:KF):KF:=(wE i.d.dst i.d.a x.1,x.2)
noncomputable def wI (m:eY) (i u:fW) (x:KF):KF:=(BC m i.d u.d x.1,KJ m i.d u.d x.1 x.2)
noncomputable def kL (m:eY):List fW->List fW->KF->KF
 | [],tl,x=>pL m (tl.takeWhile eQ) x
 |i :: sl,tl,x=>if lZ i then kL m sl tl (wJ i x) else match tl.dropWhile eQ with| []=>pL m (tl.takeWhile eQ) x|u :: tl'=>kL m sl tl' (wI m i u (pL m (tl.takeWhile eQ) x))
theorem EH(m:eY)(tl:List fW)(x:KF):kL m [] tl x=pL m (tl.takeWhile eQ) x:=rfl
theorem PA(m:eY)(i:fW)(sl tl:List fW)(x:KF)(h:lZ i=true):kL m (i :: sl) tl x=kL m sl tl (wJ i x):=by rw[kL,aX h]
theorem OZ(m:eY)(i u:fW)(sl tl tl':List fW)(x:KF)(h:lZ i=false)(hd:tl.dropWhile eQ=u :: tl'):kL m (i :: sl) tl x=kL m sl tl' (wI m i u (pL m (tl.takeWhile eQ) x)):=by
 rw[kL,aC (by rw[h];simp),hd]
def KG(m:eY)(sl tl:List fW):Prop:=GK sl tl/\∀p∈(sl.filter λx=> !lZ x).zip (tl.filter λx=> !eQ x),(lA p.1.d).length<=(gN m p.2.d).length
theorem KG.copy{m:eY}{i:fW}{sl tl:List fW}(h:KG m (i :: sl) tl)(hc:lZ i=true):KG m sl tl:=
 ⟨h.1.copy hc,by have:=h.2;simpa[bK,hc] using this⟩
theorem KG.next{m:eY}{i:fW}{sl tl:List fW}(h:KG m (i :: sl) tl)(hc:lZ i=false):∃u tl',tl.dropWhile eQ=u :: tl'/\KG m sl tl'/\(lA i.d).length<=(gN m u.d).length:=by
 obtain⟨u,tl',hd,he⟩:=h.1.next hc
 have h2:=h.2
 rw[<-sL eQ tl,hd] at h2
 have hu:eQ u=false:=by
  have:=List.head?_dropWhile_not eQ tl;rw[hd] at this;simpa using this
 have e1:((i :: sl).filter λx=> !lZ x)=i :: sl.filter λx=> !lZ x:=by simp[bK,hc]
 have e2:((u :: tl').filter λx=> !eQ x)=u :: tl'.filter λx=> !eQ x:=by simp[bK,hu]
 rw[e1,e2,List.zip_cons_cons] at h2
 exact⟨u,tl',hd,⟨he,λp hp=>h2 p (db _ hp)⟩,h2 _ (aM ..)⟩
abbrev GY(s:mP):ZK:=⟨s.kind,s.a,s.to0,s.to1⟩
noncomputable def kA (m:eY) (s t:mP) (x:KF):KF:=((kL m s.ins t.ins x).1,tQ m (kL m s.ins t.ins x).1 (GY s) (GY t) (kL m s.ins t.ins x).2)
theorem pX:(Tryz.prog.info? 24).map (·.size)=some 4:=by kernel_rfl
theorem IG(m:eY)(a1 a2:Option Addr)(n1 c1 n2 c2:Nat)(U:lT)(hU:U.ok)(s t:mP)(sa ta:Option Addr)(ns cs nt ct b0:Nat)(K:Fct->Bool)(w:World)(hm:lB w m a1 n1 c1 a2 n2 c2)(hs:oH w s sa ns cs)(ht:oH w t ta nt ct)
  (hna:∀r∈s.ins,r.na<=1000000) (hft:KG m s.ins t.ins) (hV:∀r∈s.ins,r.d.dst∈U.V) (hP:∀r∈t.ins,∀p∈fU m r.d,p∈U.P) (hK:KS U b0 K w):
  Calls Tryz.prog 14 #[nG m a1 n1 c1 a2 n2 c2,KC s sa ns cs,KC t ta nt ct,.map (some b0)] w λe w'=>∃g b,e=.returned (.pointer (some ⟨g,0,none⟩))/\WS m a1 n1 c1 a2 n2 c2 U g b (kA m s t (K,0)).1 (kA m s t (K,0)).2 w'/\Below w.heap.size w w':=by
 have HM:=ac hm
 have HS:=ac hs
 have HT:=ac ht
 have HNA:=ac hna
 have HFT:=ac hft
 have HVV:=ac hV
 have HPP:=ac hP
 have q2:=hs.2.1
 have q3:=ht.2.1
 have HLs:=ac hs.1.1.1
 have HLt:=ac ht.1.1.1
 obtain⟨L0,hS0,hM0,hD0⟩:=hK
 have HM0:=ac hM0
 have HD0:=ac hD0
 have hbl:=hS0.lt
 obtain⟨y,hy⟩:∃y,y=kA m s t (K,0):=⟨_,rfl⟩
 rw[<-hy]
 have HY:=ac hy
 clear hm hs ht hna hft hV hP hM0 hD0 hy
 go_enter Tryz.func14,Tryz.ntmps14
 go_upto_region 1 with (fail)
 obtain⟨W,hW⟩:∃W,W=((w.alloc (iK m a1 n1 c1 a2 n2 c2)).alloc (pK s sa ns cs)).alloc (pK t ta nt ct):=⟨_,rfl⟩
 have hr0:W.heap[w.heap.size]? =some (iK m a1 n1 c1 a2 n2 c2):=by rw[hW,aJ _ _ _ (by simp;omega),aJ _ _ _ (by simp)];exact ai _ _
 have hr1:W.heap[w.heap.size+1]? =some (pK s sa ns cs):=by
  rw[hW,aJ _ _ _ (by simp)];have:=ai (w.alloc (iK m a1 n1 c1 a2 n2 c2)) (pK s sa ns cs);simpa using this
 have hr2:W.heap[w.heap.size+1+1]? =some (pK t ta nt ct):=by
  rw[hW];have:=ai ((w.alloc (iK m a1 n1 c1 a2 n2 c2)).alloc (pK s sa ns cs)) (pK t ta nt ct);simpa using this
 have hB:Below w.heap.size w W:=by rw[hW];exact eA (eA (eC _ _) (eC _ _)) (eC _ _)
 have hsz:W.heap.size=w.heap.size+3:=by rw[hW];simp
 rw[<-hW]
 have HR0:=ac hr0
 have HR1:=ac hr1
 have HR2:=ac hr2
 have HB:=ac hB
 have HSZ:=ac hsz
 have HS0:=ac (hS0.ext hB)
 clear hW hr0 hr1 hr2 hB hsz hS0
 go_cut [9] (λs9 wx=>∃p9 g b,s9=.pointer (some ⟨p9,0,none⟩)/\W.heap.size<=p9/\W.heap.size<=g/\W.heap.size<=b/\wx.heap[p9]? =some (o5 g)/\WS m a1 n1 c1 a2 n2 c2 U g b K 0 wx/\Below W.heap.size W wx)
 case first=>
  refine kZ 6 [some 14,some 15,some 16,some 17,some 18,some 9] (by kernel_rfl) (by kernel_rfl) (jL [.val (.map (some b0)),(.any λv lo _ W'=>v=.map (some lo)/\W.heap.size<=lo/\mJ W' lo L0),.val (nG m a1 n1 c1 a2 n2 c2),(.any λv _ _ W'=>∃q,W.heap.size<=q/\v=.agg #[.map (some q),.int .i64 m.regs,.slice a1 n1 c1,.int .i64 m.ret,.slice a2 n2 c2,.int .i64 0]/\mJ W' q L0),(.any λv lo hi W'=>v=.pointer (some ⟨lo,0,none⟩)/\lo<hi/\∃q,W.heap.size<=q/\W'.heap[lo]? =some (wkO q m a1 n1 c1 a2 n2 c2 0)/\mJ W' q L0),.new (.cells #[.pointer none] 65)]) (kC ?_) ?_ ?_
  .intro k hk;simp only[aH,a7,bW] at hk;rcases hk with rfl|rfl|rfl|rfl|rfl|rfl<;>try exact trivial
   .rintro v lo hi w1 w2 hb ⟨e,f,h⟩;exact⟨e,f,h.ext hb⟩
   .rintro v lo hi w1 w2 hb ⟨q,f,e,h⟩;exact⟨q,f,e,h.ext hb⟩
   .rintro v lo hi w1 w2 hb ⟨e,f,q,f2,h1,h2⟩;exact⟨e,f,q,f2,eB hb h1,h2.ext hb⟩
  .intro i hi ν lo hi' w1 K hB hD hK;have hcase:i=0\/i=1\/i=2\/i=3\/i=4\/i=5:=by omega
   clear hi;rcases hcase with rfl|rfl|rfl|rfl|rfl|rfl
   .clear hD;refine eJ rfl rfl ?_;simp only[zA,zB,zC,zD,zE,zF,zJ,zK,zG,zH,zI] at hK|-;go_simp;exact hK _ _ (ao _ _) rfl
   .have e0:ν 0=(.map (some b0)):=hD 0 (by kernel_rfl);clear hD;refine eJ rfl rfl ?_;simp only[zA,zB,zC,zD,zE,zF,zJ,zK,zG,zH,zI,e0] at hK|-;go_simp;refine(FO b0 L0 w1 (HS0.out.ext hB)).mono ?_;rintro e w2 ⟨rfl,hs,hb⟩;exact hK _ _ hb ⟨rfl,hB.size,hs⟩
   .clear hD;refine eJ rfl rfl ?_;simp only[zA,zB,zC,zD,zE,zF,zJ,zK,zG,zH,zI] at hK|-;refine bX 24 _ rfl w.heap.size rfl 24 _ (0,0) _ (eB hB HR0.out) cT rfl pX ?_;exact hK _ _ (ao _ _) rfl
   .have e1:=hD 1 (by kernel_rfl);unfold jL at e1;simp only[bw,bl,oE] at e1;have e2:ν 2=(nG m a1 n1 c1 a2 n2 c2):=hD 2 (by kernel_rfl);clear hD;refine eJ rfl rfl ?_;simp only[zA,zB,zC,zD,zE,zF,zJ,zK,zG,zH,zI,e2] at hK|-;obtain⟨e1,f1,h1⟩:=e1;simp only[aW,Nat.reduceAdd,e1] at hK|-;go_simp;exact hK _ _ (ao _ _) ⟨lo 1,f1,rfl,h1⟩
   .have e3:=hD 3 (by kernel_rfl);unfold jL at e3;simp only[bw,bl,oE] at e3;clear hD;refine eJ rfl rfl ?_;simp only[zA,zB,zC,zD,zE,zF,zJ,zK,zG,zH,zI] at hK|-;obtain⟨q,f1,e1,h1⟩:=e3;simp only[aW,Nat.reduceAdd,e1] at hK|-;go_simp;exact hK _ _ (eC _ _) ⟨rfl,by simp,q,f1,ai _ _,h1.alloc _⟩
   .clear hD;refine eJ rfl rfl ?_;simp only[zA,zB,zC,zD,zE,zF,zJ,zK,zG,zH,zI] at hK|-;go_simp;refine hK _ _ (eC _ _) ⟨rfl,by simp,?_⟩;exact ai _ _
  .intro ν lo hi w1 hB hS hI hD;have e0:ν 0=(.map (some b0)):=hS 0 (by omega);have e1:=hS 1 (by omega);unfold jL at e1;simp only[bw,bl,oE] at e1;have e2:ν 2=(nG m a1 n1 c1 a2 n2 c2):=hS 2 (by omega);have e3:=hS 3 (by omega);unfold jL at e3;simp only[bw,bl,oE] at e3;have e4:=hS 4 (by omega);unfold jL at e4;simp only[bw,bl,oE] at e4;obtain⟨e5,l5,h5⟩:=hS 5 (by omega);clear hS;simp only[aj,ap,zA,zB,zC,zD,zE,zF,zJ,zK,zG,zH,zI,e0,e2,e5];have i4:=hI 4 (by omega);have i5:=hI 5 (by omega);have hne:lo 5≠lo 4:=by
    obtain⟨_,f4,_⟩:=e4;have:=hD 4 5 (by omega) (by omega) (by omega);omega
   obtain⟨e4,f4,b,fb,hg4,hs4⟩:=e4;rw[e4];have HBw:Hid (Below W.heap.size W w1):=hB;generalize lo 4=g at *;generalize lo 5=p9 at *;have HG4:=ac hg4;have HS4:=ac hs4;have H5:=ac h5;have HI4:=i4.1;have HI5:=i5.1;clear hI hD hB e0 e1 e2 e3 e4 e5 hg4 hs4 h5 i4 i5;obtain⟨c9,f9⟩:=cz 0 H5.out rfl;have l9:=(am.1 H5.out).1;go_wp2
   go_meet
   have hB2:=aO w1 p9 0 _ _ (.pointer (some ⟨g,0,none⟩)) H5.out;exact⟨p9,g,b,rfl,HI5,HI4,fb,hB2,⟨(dE _ _ _ _ (Ne.symm hne)).trans HG4.out,L0,HS4.out.setCell _ _,HM0.out,HD0.out⟩,HBw.out.setCell (by omega) _⟩
 case rest=>
  obtain⟨p9,g,b,rfl,hp9,hg,hb,h9,hw9,hbb⟩:=hcut;obtain⟨w1,rfl⟩:∃w1,w1=wc:=⟨_,rfl⟩
  have hl1:=hbb.size;go_upto_region 4 with (fail)
  obtain⟨w2,hw2⟩:∃w2,w2=w1.alloc (nj 0):=⟨_,rfl⟩
  have hb2:Below w1.heap.size w1 w2:=by rw[hw2];exact eC _ _
  have h10:w2.heap[w1.heap.size]? =some (nj 0):=by rw[hw2];exact ai _ _
  have hl2:w1.heap.size<w2.heap.size:=by rw[hw2];simp
  have hw2':w1.alloc (Obj.cells #[.int .i64 0] 3)=w2:=hw2.symm;have HB2:=ac (eA hbb hb2);obtain⟨p10,hp10⟩:∃p,p=w1.heap.size:=⟨_,rfl⟩
  have HWE:Hid (p10=w1.heap.size):=hp10;have HR12:=ac (eB HB2.out HR1.out);have HJ:Hid (WJ m a1 n1 c1 a2 n2 c2 U g b t ta nt ct (w.heap.size+1+1) p9 p10 0 (K,0) w2):=⟨eB HB2.out HR2.out,eB hb2 h9,by rw[hp10];exact h10,hw9.ext hb2⟩
  have hgW:W.heap.size<=p10:=by omega
  have HGW:=ac hgW;have HGL:Hid (∀W',Chg (WU g b p10) w2 W'->Below W.heap.size W W'):=λW' hc=>HB2.out.trans (hc.below HB2.out.size (λk hk=>by rcases hk with rfl|rfl|rfl<;>assumption));have HL2:=ac hl2;have hsz:=HSZ.out;have HNB:Hid (¬WU g b p10 (w.heap.size+1)):=λh=>by rcases h with h|h|h<;>omega
  have HMW:=ac (HM.out.ext HB.out);have HTW:Hid (oH W t ta nt ct):=⟨HT.out.1.ext HB.out,HT.out.2⟩
  have HSW:Hid (oH W s sa ns cs):=⟨HS.out.1.ext HB.out,HS.out.2⟩
  have HPI:Hid (∀r∈t.ins,eQ r=true->MW (fU m r.d)∈U.P):=λr hr hi=>by
   obtain⟨p,hp⟩:=EZ m r hi;rw[hp];exact HPP.out r hr p (by rw[hp];simp)
  clear hbb hb2 h10 hl2 hw2 h9 hw9 hl1 hgW HR0 HR1 HR2 HS0 HM0 HD0 HM HS HT hsz;obtain⟨y0,hy0⟩:∃y0,kL m s.ins t.ins (K,0)=y0:=⟨_,rfl⟩
  have HY2:Hid (y=(y0.1,tQ m y0.1 (GY s) (GY t) y0.2)):=by rw[Hid,HY.out,kA,hy0]
  have HY0:=ac hy0;clear hy0 HY;have sx0:=cK 0 HR12.out rfl;have hl2:=HL2.out;have hsl2:=(am.1 HR12.out).1;rw[hw2',<-hp10];clear hw2';rw[<-hp10] at hl2;clear hp10;go_wp2;have HCI:Hid (True):=trivial
  go_loopg [13,23] ns (λgg _ s23 wr=>∃(i k:Nat) (x:KF),s23=.int .i64 i/\i<=ns/\ns-i<=gg/\k<=nt/\Hid (WJ m a1 n1 c1 a2 n2 c2 U g b t ta nt ct (w.heap.size+1+1) p9 p10 k x wr)/\Hid (kL m (s.ins.drop i) (t.ins.drop k) x=y0)/\Hid (KG m (s.ins.drop i) (t.ins.drop k))/\Hid (Chg (WU g b p10) w2 wr))
  case atStart=>exact⟨0,0,(K,0),rfl,by omega,by omega,by omega,HJ,by rw[Hid,ap,ap];exact HY0.out,by rw[Hid,ap,ap];exact HFT.out,Chg.refl _ _⟩
  case round=>
   obtain⟨i,k,x,rfl,hi,hgg,hk,HE,HGo,HFi,HC⟩:=hrel;clear sx0;have HB7:=ac (HGL.out _ HC.out);by_cases hlt:i<ns
   .obtain⟨r,q,o,hr,hok,rfl,g0,g1,g2,g3,g4,g5,g6,g7⟩:=((HSW.out.1.ext HB7.out)).cells hlt;have hdr:=vN hr;have hgo:=HGo.out;have hfi:=HFi.out;rw[hdr] at hgo hfi;have HOK:=ac hok;have hrm:=aK hr;have HRM:=ac hrm;clear hok hdr hr HGo HFi;have HE1:Hid (WJ m a1 n1 c1 a2 n2 c2 U g b t ta nt ct (w.heap.size+1+1) p9 p10 k x (wr.alloc (kY r.d r.aa r.na r.ca))):=HE.out.ext (eC _ _);have HC1:Hid (Chg (WU g b p10) w2 (wr.alloc (kY r.d r.aa r.na r.ca))):=HC.out.of_ext (eC _ _);have HBX:Hid ((wr.alloc (kY r.d r.aa r.na r.ca)).heap[wr.heap.size]? =some (kY r.d r.aa r.na r.ca)):=ai _ _;have HLTS:Hid (g<wr.heap.size/\b<wr.heap.size/\p10<wr.heap.size):=⟨HE.out.2.2.2.lt.1,HE.out.2.2.2.lt.2.1,(am.1 HE.out.2.2.1).1⟩
    clear hrm;cases hq:lZ r with
    |true=>
     have hop:(r.d.op==14)=true:=hq;rw[PA m r _ _ _ hq] at hgo;have HGo:=ac hgo;have HFi:=ac (hfi.copy hq);have d9:=cK 0 HE1.out.2.1 rfl;have hl9:p9<wr.heap.size:=(am.1 HE.out.2.1).1;have e9:=cK 0 HE.out.2.1 rfl;clear hgo hfi hq
     go_wp2_with (first
      |((with_reducible show wpList _ _ _ (⟨some 31,_,_,_,_,_⟩ :: _) _ _);refine ay (o:=⟨some 31,.load 62 _,_,_,_,_⟩) rfl 62 _ rfl wr.heap.size rfl 62 _ (0,0) _ HBX.out bT rfl pB ?_)
      |(go_at_call 35
        refine(TN m a1 a2 n1 c1 n2 c2 U hU g b x.1 x.2 r (wr.alloc (kY r.d r.aa r.na r.ca)) HE1.out.2.2.2 (HVV.out r HRM.out)).mono ?_;rintro e w3 ⟨rfl,hs3,hc3⟩;have HE3:Hid (WJ m a1 n1 c1 a2 n2 c2 U g b t ta nt ct (w.heap.size+1+1) p9 p10 k (wJ r x) w3):=(HE1.out.step (x':=wJ r x) hs3 hc3)
        have HC3:Hid (Chg (WU g b p10) w2 w3):=(HC1.out.trans (hc3.mono λk hk=>.inr hk))
        clear hs3 hc3))
     go_roundg (ns-(i+1))
     case measure=>omega
     case rel=>exact⟨i+1,k,wJ r x,by go_num,by omega,aw _,hk,HE3,HGo,HFi,HC3⟩
    |false=>
     have hop:(r.d.op==14)=false:=hq;obtain⟨u,tl',hdw,hf2,hlen⟩:=hfi.next hq
     rw[OZ m r u _ _ _ _ hq hdw] at hgo;rw[MC,List.drop_drop] at hdw;obtain⟨k',hk'⟩:∃k',k+((t.ins.drop k).takeWhile eQ).length=k':=⟨_,rfl⟩
     rw[hk'] at hdw;have hu:t.ins[k']? =some u:=by
      have:(t.ins.drop k')[0]? =some u:=by rw[hdw];rfl
      rwa [dW,bz] at this
     have hkn:k'<nt:=by have:=(aI.1 hu).1;rw[HLt.out] at this;exact this
     have htl2:tl'=t.ins.drop (k'+1):=by
      have:=vN hu;rw[hdw] at this;simpa using this
     subst htl2;have hkk:k<=k':=by omega
     have HK':=ac hk';have HF2:=ac hf2;have HU2:=ac hu;have HLEN:=ac hlen;obtain⟨x2,hx2⟩:∃x2,pL m ((t.ins.drop k).takeWhile eQ) x=x2:=⟨_,rfl⟩
     rw[hx2] at hgo;have HX2:=ac hx2;have HGo:=ac hgo;clear hgo hfi hdw hk' hu hf2 hx2 hlen hq
     go_upto_region 10 with (first
      |(go_at_call 33
        refine(IL m a1 a2 n1 c1 n2 c2 U hU g b t ta nt ct (w.heap.size+1+1) p9 p10 k x W (wr.alloc (kY r.d r.aa r.na r.ca)) HMW.out HTW.out (HGL.out _ HC1.out) hg hb HGW.out hk HE1.out HPI.out).mono ?_;rw[HK'.out,HX2.out];rintro e w3 ⟨rfl,hE3,hC3⟩;have HE3:=ac hE3;have HC3:=ac (HC1.out.trans hC3);have hbox:w3.heap[wr.heap.size]? =some (kY r.d r.aa r.na r.ca):=(hC3.block _ (by simp) (λh=>by have:=HLTS.out;rcases h with h|h|h<;>omega)).trans HBX.out;have HBox:=ac hbox
        clear hE3 hC3 hbox))
     obtain⟨b1,b2,b3,b4⟩:=HE3.out;have HB3:=ac (HGL.out _ HC3.out);obtain⟨u',tb,to_,hu',hok',rfl,h0,h1,h2,h3,h4,h5,h6,h7⟩:=((HTW.out.1.ext HB3.out)).cells hkn;obtain rfl:u=u':=by have:=HU2.out;rw[hu'] at this;exact(Option.some.inj this).symm
     have kp9:∀n:eH w3,n.val.cell? ⟨p9,0,none⟩=some (.pointer (some ⟨g,0,none⟩)):=λn=>cR (eB n.ext b2) rfl;have kt0:∀n:eH w3,n.val.cell? ⟨w.heap.size+1+1,0,none⟩=some (.slice (some ⟨tb,to_,none⟩) nt ct):=λn=>cR (eB n.ext b1) rfl;have kx0:∀n:eH w3,n.val.cell? ⟨p10,0,none⟩=some (.int .i64 (k':Int)):=λn=>cR (eB n.ext b3) rfl;have kbx:∀w',(∃n:eH w3,w'=n.val)->w'.heap[wr.heap.size]? =some (kY r.d r.aa r.na r.ca):=λw' ⟨n,e⟩=>by rw[e];exact eB n.ext HBox.out
     have ku0:∀n:eH w3,n.val.cell? ⟨tb,to_+k'*8,none⟩=some (.int .i64 u.d.op):=λn=>eN n.ext h0;have ku1:∀n:eH w3,n.val.cell? ⟨tb,to_+k'*8+1,none⟩=some (.int .i64 u.d.dst):=λn=>eN n.ext h1;have ku2:∀n:eH w3,n.val.cell? ⟨tb,to_+k'*8+2,none⟩=some (.int .i64 u.d.a):=λn=>eN n.ext h2;have ku3:∀n:eH w3,n.val.cell? ⟨tb,to_+k'*8+3,none⟩=some (.int .i64 u.d.b):=λn=>eN n.ext h3;have ku4:∀n:eH w3,n.val.cell? ⟨tb,to_+k'*8+4,none⟩=some (.int .i64 u.d.imm):=λn=>eN n.ext h4;have ku5:∀n:eH w3,n.val.cell? ⟨tb,to_+k'*8+5,none⟩=some (.int .i64 u.d.callee):=λn=>eN n.ext h5;have ku6:∀n:eH w3,n.val.cell? ⟨tb,to_+k'*8+6,none⟩=some (.slice u.aa u.na u.ca):=λn=>eN n.ext h6;have ku7:∀n:eH w3,n.val.cell? ⟨tb,to_+k'*8+7,none⟩=some (.int .i64 u.d.many):=λn=>eN n.ext h7;have hi0:(0:Int)<=(k':Int):=by omega
     have hi1:(k':Int)<(nt:Int):=by omega
     have HUM:=ac (aK hu');clear b1 b2 b3 b4 hu' hok' h0 h1 h2 h3 h4 h5 h6 h7 g0 g1 g2 g3 g4 g5 g6 g7;refine gJ (λw'=>∃n':eH w3,w'=n'.val) [(0,7,some (7,false))] (by kernel_rfl) (by kernel_rfl) ⟨⟨_,eS (ao _ _) 1⟩,rfl⟩ ?_;simp only[lR,ak,aq,aj,ap]
     repeat (first
      |(refine eP (o:=⟨some 36,.load 62 _,_,_,_,_⟩) (by rfl) 62 _ rfl wr.heap.size rfl 62 _ (0,0) _ kbx bT rfl pB ?_;simp only[Act.put,ae,ah,ag])
      |go_big_quiet_step (fail))
     refine ar ?_;refine eE rfl rfl ?_;go_simp
     refine(YL m a1 a2 n1 c1 n2 c2 U hU g b x2.1 x2.2 r u W w3.drew HMW.out (HSW.out.1.2 r HRM.out) (HTW.out.1.2 u HUM.out) (HNA.out r HRM.out) (HB3.out.drew) hg hb HE3.out.2.2.2 HLEN.out (λhv=>by
      have e:oB r.d=r.d.dst:=by unfold oB at hv|-;split at hv<;>first|(rename_i h;rw[aX h])|omega
      rw[e];exact HVV.out r HRM.out) (λp hp=>HPP.out u HUM.out p hp)).mono ?_
     rintro e w4 ⟨rfl,hs4,hc4⟩;have hc4:Chg (WT g b) w3 w4:=⟨hc4.os,hc4.tape,hc4.output,hc4.size,hc4.block⟩
     have HE4:Hid (WJ m a1 n1 c1 a2 n2 c2 U g b t (some ⟨tb,to_,none⟩) nt ct (w.heap.size+1+1) p9 p10 k' (wI m r u x2) w4):=HE3.out.step (x':=wI m r u x2) hs4 hc4;have HC4:Hid (Chg (WU g b p10) w2 w4):=HC3.out.trans (hc4.mono λk hk=>.inr hk);clear hs4 hc4 kp9 kt0 kx0 kbx ku0 ku1 ku2 ku3 ku4 ku5 ku6 ku7 HE3 HC3 HBox
     try simp only[Act.put,ae,ah,ag]
     refine bQ ?_;obtain⟨b1,b2,b3,b4⟩:=HE4.out;obtain⟨x4,x5⟩:=cz 0 b3 rfl;clear b1 b2 b3 b4;go_wp2
     go_roundg (ns-(i+1))
     case measure=>omega
     case rel=>
      have hat:=HE4.out.next (k'+1)
      refine⟨i+1,k'+1,wI m r u x2,by go_num,by omega,aw _,by omega,?_,HGo,HF2,HC4.out.setCell (Or.inl (Or.inl rfl)) _⟩;rw[show((k'+1:Nat):Int)=(k':Int)+1 by omega] at hat;exact hat
   .obtain rfl:i=ns:=by omega
    have hgo:=HGo.out;rw[cO (by rw[HLs.out];omega),EH] at hgo;have HGo2:=ac hgo;clear hgo HGo HFi;have HNB3:Hid (¬WU g b p10 (w.heap.size+1+1)):=λh=>by
     obtain⟨n1,_,n3,_⟩:=HE.out.ne;rcases h with h|h
     .exact n1 h
     .exact n3 h
    go_upto_region 14 with (first
     |(go_at_call 33
       refine(IL m a1 a2 n1 c1 n2 c2 U hU g b t ta nt ct (w.heap.size+1+1) p9 p10 k x W wr HMW.out HTW.out (HGL.out _ HC.out) hg hb HGW.out hk HE.out HPI.out).mono ?_;rw[HGo2.out];rintro e w3 ⟨rfl,hE3,hC3⟩;have HE3:=ac hE3;have HC3:=ac (HC.out.trans hC3)
       clear hE3 hC3))
    obtain⟨b1,b2,b3,b4⟩:=HE3.out;have hs3:w3.heap[w.heap.size+1]? =some (pK s sa i cs):=(HC3.out.block _ hsl2 HNB.out).trans HR12.out;have x9:=cK 0 b2 rfl;obtain⟨-,s1,s2,s3,s4⟩:=nN hs3 rfl;obtain⟨-,t1,t2,t3,t4⟩:=nN b1 rfl;clear b1 b2 b3 b4 hs3
    go_wp2_with (first
     |(go_at_call 37
       refine(ju m a1 a2 n1 c1 n2 c2 U g b y0.1 y0.2 (GY s) (GY t) w3 (HMW.out.ext (HGL.out _ HC3.out)) HE3.out.2.2.2 (λW' hc=>HMW.out.ext (HGL.out _ (HC3.out.trans (hc.mono λk hk=>.inr hk))))).mono ?_;rintro e w4 ⟨rfl,hs4,hc4⟩;have HS4:=ac hs4;have HC4:Hid (Chg (WU g b p10) w2 w4):=(HC3.out.trans (hc4.mono λk hk=>.inr hk))
       have x10:w4.cell? ⟨p9,0,none⟩=some (.pointer (some ⟨g,0,none⟩)):=(by
        have h9:=(hc4.block p9 (am.1 HE3.out.2.1).1 HE3.out.ne.2.2.2.1).trans HE3.out.2.1
        rw[bd _ _ _ _ _ _ h9];rfl)
       clear hs4 hc4 x9 s1 s2 s3 s4 t1 t2 t3 t4))
    go_ret
    exact⟨g,b,rfl,by rw[HY2.out];exact HS4.out,HB.out.trans (Below.mono (HGL.out _ HC4.out) HB.out.size)⟩
end
end Go.Proofs.YtchdkjenhppleaaGreat
