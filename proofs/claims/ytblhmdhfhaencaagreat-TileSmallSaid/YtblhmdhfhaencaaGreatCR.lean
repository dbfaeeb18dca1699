/-
 Building tiles,plain:all parts of a function that fits are as they must be. No program in sight.
-/
import Derived.Test.YtblhmdhfhaencaaGreatBR
namespace Go.Proofs.YtblhmdhfhaencaaGreat
set_option linter.unusedSimpArgs false
set_option linter.unusedVariables false
set_option linter.unusedSectionVars false
set_option maxRecDepth 100000
set_option maxHeartbeats 40000000
section
theorem lN{ts:List aT}(hf:bU ts=true):gU ts (dR ts):=by
 obtain⟨hg,hl,hr⟩:=bQ hf
 have hcw:=eJ (n:=ts.length) hl.2
 have F:=xD hf 201 (aL ts.length) hcw (fun y hy=>by simpa[aL] using hy) (by
  have:(aZ (aL ts.length)).length≤200:=by
   have:=List.length_filter_le (aL ts.length) (List.range 200);simpa[aZ] using this
  omega)
 unfold dR
 generalize dZ ts 201 (aL ts.length)=ps at F⊢
 have HC:∀c∈lH ts ps,∃k p,jI ts ps c k p:=by
  intro c hc;simp only[lH,List.mem_filterMap,List.mem_range] at hc;obtain⟨k,hk,hc⟩:=hc;obtain⟨p,C⟩:=FX hf F hk hc;exact⟨k,p,C⟩
 have pwc:(lH ts ps).Pairwise oF:=by
  unfold lH;rw[List.pairwise_filterMap];refine List.pairwise_lt_range.imp_of_mem ?_;intro k k' hk hk' hlt c hc c' hc';obtain⟨p,C⟩:=FX hf F (List.mem_range.1 hk) hc;obtain⟨p',C'⟩:=FX hf F (List.mem_range.1 hk') hc';exact C.cond_apart hf F C' (by omega)
 have pwl:ps.Pairwise oF:=by
  refine F.pw.imp_of_mem ?_;intro p q hp hq h;rcases h with h|⟨h2,h⟩
  ·exact .inl h
  ·refine .inr (.inr ⟨fun y hy=>(h y hy).1,p.entry.toNat,?_,?_⟩)
   ·rcases(F.ok p hp).ent with ⟨h3,_⟩|⟨_,_,h3⟩
    ·rw[h2] at h3;cases h3
    ·have:p.entry.toNat∈aM ts p.s:=by rw[h3];simp
     exact((fM (mY F hp hl.2) _).1 this).1
   ·cases e:q.s p.entry.toNat with
    |false=>rfl
    |true=>exact absurd rfl (h _ e).2
 refine⟨?_,?_,?_,?_,?_,?_,?_,?_,?_,?_,?_⟩
 ·intro p hp;rcases aCA.1 hp with hp|hp
  ·exact(F.ok p hp).some
  ·obtain⟨k,_,C⟩:=HC p hp;exact⟨k,C.self⟩
 ·intro p hp;rcases aCA.1 hp with hp|hp
  ·exact(F.ok p hp).low
  ·obtain⟨k,_,C⟩:=HC p hp;exact C.lows hf F
 ·intro p hp;rcases aCA.1 hp with hp|hp
  ·rcases(F.ok p hp).ent with ⟨h,_⟩|⟨h,_⟩
   ·exact .inr (.inl h)
   ·exact .inl h
  ·obtain⟨k,_,C⟩:=HC p hp;exact .inr (.inr C.c4)
 ·rw[List.pairwise_append];refine⟨pwl,pwc,fun q hq c hc=>?_⟩;obtain⟨k,p,C⟩:=HC c hc;exact C.loop_apart hf F hq
 ·intro p hp h3 q hq hs;rcases aCA.1 hp with hp|hp
  ·rcases aCA.1 hq with hq|hq
   ·obtain⟨y,hy⟩:=(F.ok q hq).some;rcases pO F hp hq with rfl|h|⟨h,_,_⟩|⟨_,_,h⟩
    ·exact hs.irrefl
    ·have:=h y (hs.1 y hy);rw[hy] at this;cases this
    ·rw[h3] at h;cases h
    ·exact hs.asymm ⟨fun z hz=>(h z hz).1,by
      rename_i hqe
      exact⟨_,hqe,by
       cases e:p.s q.entry.toNat with
       |false=>rfl
       |true=>exact absurd rfl (h _ e).2⟩⟩
   ·obtain⟨k,p',C⟩:=HC q hq;cases hk:p.s k with
    |true=>
     rcases C.kinds F with h|⟨h,h2⟩
     ·have:=C.small.2.2 p hp hk 0 (by rw[h];simp[eP,aL];omega);have:=(F.ok p hp).low 0 this;omega
     ·rcases pO F h hp with rfl|h4|⟨_,h5,h4⟩|⟨h4,_,_⟩
      ·rw[h3] at h2;cases h2
      ·rw[h4 k C.small.1] at hk;cases hk
      ·exact absurd rfl (h4 _ (C.small.2.2 p hp hk _ h5)).2
      ·rw[h3] at h4;cases h4
    |false=>
     exact hs.asymm (C.loop_in hf F hp hk (hs.1 _ C.self) C.self)
  ·obtain⟨k,_,C⟩:=HC p hp;rw[C.c4] at h3;cases h3
 ·intro p hp h3;rcases aCA.1 hp with hp|hp
  ·rcases(F.ok p hp).ent with ⟨h,_⟩|⟨h2,h0,h⟩
   ·exact absurd h h3
   ·have hcan:=mY F hp hl.2;have he:p.s p.entry.toNat=true:=((fM hcan _).1 (by rw[h];simp)).1;refine⟨h0,h,he,fun q hq hs=>?_⟩;rcases aCA.1 hq with hq|hq
    ·obtain⟨y,hy⟩:=(F.ok q hq).some;rcases pO F hp hq with rfl|h4|⟨_,_,h4⟩|⟨_,h5,h4⟩
     ·exact hs.irrefl.elim
     ·exact h4 _ he
     ·cases e:q.s p.entry.toNat with
      |false=>rfl
      |true=>exact absurd rfl (h4 _ e).2
     ·exact absurd rfl (h4 _ (hs.1 _ h5)).2
    ·obtain⟨k,p',C⟩:=HC q hq;cases e:q.s p.entry.toNat with
     |false=>rfl
     |true=>
      exfalso;cases hk:p.s k with
      |false=>exact hs.asymm (C.loop_in hf F hp hk he e)
      |true=>
       by_cases hke:k=p.entry.toNat
       ·rcases C.small.2.1 with h4|h4
        ·have:=C.small.2.2 p hp hk 0 (by rw[h4];simp[eP,aL];omega);have:=(F.ok p hp).low 0 this;omega
        ·rcases pO F h4 hp with rfl|h5|⟨_,h6,h5⟩|⟨_,_,h5⟩
         ·exact C.noe (by omega)
         ·rw[h5 k C.small.1] at hk;cases hk
         ·exact absurd rfl (h5 _ (C.small.2.2 p hp hk _ h6)).2
         ·exact(h5 k C.small.1).2 hke
       ·exact(BV hf (F.ok p hp) h2 hk hke).1 ((C.set _).1 e).2.2
  ·obtain⟨k,p',C⟩:=HC p hp;have he:p.entry.toNat=k:=by rw[C.ce];omega
   rw[he];refine⟨by rw[C.ce];omega,C.entries hf F,C.self,fun q hq hs=>?_⟩;cases e:q.s k with
   |false=>rfl
   |true=>
    exfalso;rcases aCA.1 hq with hq|hq
    ·exact hs.asymm (C.in_loop hf F hq e)
    ·obtain⟨k2,p2,C2⟩:=HC q hq;by_cases hkk:k=k2
     ·subst hkk;have h1:=hs.2;obtain⟨y,h2,h3⟩:=h1;have hsub:∀z,p'.s z=true→p2.s z=true:=by
       intro z hz;rcases C2.small.2.1 with h4|h4
       ·rw[h4];simp[eP,aL];rcases C.small.2.1 with h5|h5
        ·rw[h5] at hz;simpa[eP,aL] using hz
        ·exact((F.ok p' h5).low z hz).2
       ·exact C.small.2.2 p2 h4 C2.small.1 z hz
      obtain⟨h4,h5,h6⟩:=(C.set y).1 h2;rw[(C2.set y).2 ⟨hsub y h4,h5,h6⟩] at h3;cases h3
     ·exact KM (C.reach hf) hkk ((C.set k2).1 (hs.1 _ C2.self)).2.2 ((C2.set k).1 e).2.2
 ·intro p hp h3;rcases aCA.1 hp with hp|hp
  ·rcases(F.ok p hp).ent with ⟨_,_,h⟩|⟨h2,_⟩
   ·exact h
   ·rw[h3] at h2;cases h2
  ·obtain⟨k,_,C⟩:=HC p hp;rw[C.c4] at h3;cases h3
 ·intro p hp h4;rcases aCA.1 hp with hp|hp
  ·exact(F.ok p hp).tog
  ·obtain⟨k,_,C⟩:=HC p hp;exact absurd C.c4 h4
 ·intro p hp h2 b hb hno hrr;rcases aCA.1 hp with hp|hp
  ·have he:p.s p.entry.toNat=true:=by
    rcases(F.ok p hp).ent with ⟨h3,_⟩|⟨_,_,h3⟩
    ·rw[h2] at h3;cases h3
    ·have:p.entry.toNat∈aM ts p.s:=by rw[h3];simp
     exact((fM (mY F hp hl.2) _).1 this).1
   obtain⟨q,hq,hqb,hin⟩:=F.inner p hp h2 b hb hrr
   have:eK q.s p.s:=⟨fun y hy=>(hin y hy).1,_,he,by
    cases e:q.s p.entry.toNat with
    |false=>rfl
    |true=>exact absurd rfl (hin _ e).2⟩
   rw[hno q (List.mem_append_left _ hq) this] at hqb;cases hqb
  ·obtain⟨k,_,C⟩:=HC p hp;rw[C.c4] at h2;cases h2
 ·intro p hp h4 b hb hno;rcases aCA.1 hp with hp|hp
  ·rcases(F.ok p hp).ent with ⟨h,_⟩|⟨h,_⟩
   ·rw[h4] at h;cases h
   ·rw[h4] at h;cases h
  ·obtain⟨k,_,C⟩:=HC p hp;exact C.ring hf F b hb fun q hq hs=>hno q (List.mem_append_left _ hq) hs
 ·intro b hno hrr;obtain⟨q,hq,hqb⟩:=F.ring b hrr.inn hrr;rw[hno q (List.mem_append_left _ hq)] at hqb;cases hqb
theorem gU.perm{ts:List aT}{ps qs:List aI}(h:gU ts ps)(hp:ps.Perm qs):gU ts qs:=by
 have m:∀p,p∈qs→p∈ps:=fun p hq=>hp.mem_iff.2 hq
 have m2:∀p,p∈ps→p∈qs:=fun p hq=>hp.mem_iff.1 hq
 exact {
  some:=fun p hq=>h.some p (m p hq)
  low:=fun p hq=>h.low p (m p hq)
  kind:=fun p hq=>h.kind p (m p hq)
  pw:=hp.pairwise h.pw fun h=>h.symm
  noreg:=fun p hq h3 q hqq=>h.noreg p (m p hq) h3 q (m q hqq)
  ent:=fun p hq h3=>let ⟨h1,h2,h4,h5⟩:=h.ent p (m p hq) h3;⟨h1,h2,h4,fun q hqq=>h5 q (m q hqq)⟩
  ent3:=fun p hq=>h.ent3 p (m p hq)
  tog:=fun p hq=>h.tog p (m p hq)
  ring2:=fun p hq h2 b hb hno=>h.ring2 p (m p hq) h2 b hb fun q hqq=>hno q (m2 q hqq)
  ring4:=fun p hq h2 b hb hno=>h.ring4 p (m p hq) h2 b hb fun q hqq=>hno q (m2 q hqq)
  ring1:=fun b hno=>h.ring1 b fun q hqq=>hno q (m2 q hqq)}
end

section
def aE:aI:=⟨fun _=>false,0,0⟩
def dF(qs:List aI)(x:Nat):Nat→Nat
 |0=>0
 |k+1=>if (qs.getD k aE).s x then k+1 else dF qs x k
def cI(p:aI):Nat:=(aZ p.s).headD 0
def fV(n:Nat)(qs:List aI)(j:Nat):List Int:=aO ((List.range n).filter fun x=>dF qs x qs.length==j)
def oQ(n:Nat)(qs:List aI)(k:Nat):bI:=⟨(qs.getD k aE).kind,(dF qs (cI (qs.getD k aE)) k:Nat),fV n qs (k+1)⟩
def dQ(n:Nat)(qs:List aI):List bI:=⟨1,-1,fV n qs 0⟩ :: (List.range qs.length).map (oQ n qs)
theorem iE(qs:List aI)(x:Nat):∀k,dF qs x k≤k
 |0=>by simp[dF]
 |k+1=>by
  have:=iE qs x k;simp only[dF]
  split<;>omega
theorem lC(qs:List aI)(x:Nat):∀k j,dF qs x k=j+1→(qs.getD j aE).s x=true∧j<k
 |0,j,h=>by simp[dF] at h
 |k+1,j,h=>by
  simp only[dF] at h
  split at h
  ·rename_i hx
   obtain rfl:k=j:=by omega
   exact⟨hx,by omega⟩
  ·have:=lC qs x k j h;exact⟨this.1,by omega⟩
theorem mJ(qs:List aI)(x:Nat):∀k i,i<k→(qs.getD i aE).s x=true→i+1≤dF qs x k
 |0,i,h,_=>by omega
 |k+1,i,h,hx=>by
  simp only[dF]
  split
  ·omega
  ·rename_i hn
   have:i≠k:=fun e=>by subst e;exact hn hx
   exact mJ qs x k i (by omega) hx
section
variable {ts:List aT} {qs:List aI} (hf:bU ts=true) (P:gU ts qs) (hord:∀i j,i<j→j<qs.length→¬eK (qs.getD i aE).s (qs.getD j aE).s)
theorem gE{i:Nat}(h:i<qs.length):qs.getD i aE∈qs:=by
 rw[aBT,aBU h];exact aBZ _
include P hord
theorem yZ{i j x:Nat}(hij:i<j)(hj:j<qs.length)(hi:(qs.getD i aE).s x=true)(hx:(qs.getD j aE).s x=true):eK (qs.getD j aE).s (qs.getD i aE).s:=by
 have hpw:=List.pairwise_iff_getElem.1 P.pw i j (by omega) hj hij
 have e1:qs.getD i aE=qs[i]:=by simp[aBT,show i<qs.length by omega]
 have e2:qs.getD j aE=qs[j]:=by simp[aBT,hj]
 rw[e1] at hi⊢
 rw[e2] at hx⊢
 have ho:=hord i j hij hj
 rw[e1,e2] at ho
 rcases hpw with h|h|h
 ·rw[h x hi] at hx;cases hx
 ·exact absurd h ho
 ·exact h
theorem NG{i j x:Nat}(ho:dF qs x qs.length=j+1)(hi:i<qs.length)(hx:(qs.getD i aE).s x=true):i=j∨eK (qs.getD j aE).s (qs.getD i aE).s:=by
 obtain⟨h1,h2⟩:=lC qs x _ j ho
 have h3:=mJ qs x _ i hi hx
 by_cases e:i=j
 ·exact .inl e
 ·exact .inr (yZ P hord (by omega) h2 hx h1)
include hf
omit hord in
theorem KJ{j:Nat}(hj:j<qs.length):(qs.getD j aE).s (cI (qs.getD j aE))=true:=by
 have hl:=(bQ hf).2.1
 have hm:=gE hj
 have hc:cA (qs.getD j aE).s:=fun y hy=>by have:=P.low _ hm y hy;omega
 obtain⟨y,hy⟩:=P.some _ hm
 have h1:=(eG hc y).2 hy
 unfold cI
 cases e:aZ (qs.getD j aE).s with
 |nil=>rw[e] at h1;cases h1
 |cons b r=>
  simp only[List.headD_cons];exact(eG hc b).1 (by rw[e];simp)
omit P hord hf in
theorem eT(n:Nat):(dQ n qs).length=qs.length+1:=by simp[dQ]
omit P hord hf in
theorem oW(n:Nat):(dQ n qs).getD 0 fC=⟨1,-1,fV n qs 0⟩:=rfl
omit P hord hf in
theorem mH(n:Nat){j:Nat}(hj:j<qs.length):(dQ n qs).getD (j+1) fC=oQ n qs j:=by
 simp[dQ,aBT,hj]
omit P hord hf in
theorem mL(n:Nat):cD (dQ n qs)=true:=by
 rw[dH]
 intro k hk
 rw[eT] at hk
 cases k with
 |zero=>rw[fJ,oW];simp
 |succ k=>
  rw[fJ,mH n (by omega)];simp only[oQ];have:=iE qs (cI (qs.getD k aE)) k;omega
theorem RC(n:Nat)(j:Nat)(hj:j<qs.length):∀i,i<qs.length→(fX (dQ n qs) (j+1) (i+1)=true↔i=j∨eK (qs.getD i aE).s (qs.getD j aE).s):=by
 have hp:=mL (qs:=qs) n
 intro i
 induction i using Nat.strongRecOn with
 |_ i ih=>
  intro hi;have hfi:=KJ hf P hi;obtain⟨v,e⟩:∃v,v=dF qs (cI (qs.getD i aE)) i:=⟨_,rfl⟩
  have hv:fJ (dQ n qs) (i+1)=(v:Int):=by rw[fJ,mH n hi,e];rfl
  rw[iF hp _ _ (by rw[eT];omega),hv];have hd0:(0:Int)≤(v:Int):=by omega
  simp only[hd0,decide_true,Bool.true_and,Bool.or_eq_true,beq_iff_eq,Int.toNat_natCast]
  replace e:=e.symm
  cases v with
  |zero=>
   constructor
   ·rintro(h|h)
    ·left;omega
    ·have:=pR hp (j+1) 0 (by rw[eT];omega) h;omega
   ·rintro(h|h)
    ·left;omega
    ·exfalso;have hji:j<i:=by
      apply aCF;intro hn;by_cases e2:i=j
      ·subst e2;exact h.irrefl
      ·exact hord i j (by omega) hj h
     have:=mJ qs _ i j hji (h.1 _ hfi);omega
  |succ i'=>
   obtain⟨h1,h2⟩:=lC qs _ i i' e;have h3:=yZ P hord h2 hi h1 hfi;rw[ih i' h2 (by omega)];constructor
   ·rintro(h|h|h)
    ·left;omega
    ·subst h;exact .inr h3
    ·exact .inr (h3.trans h)
   ·rintro(h|h)
    ·left;omega
    ·refine .inr ?_;have hji:j<i:=by
      apply aCF;intro hn;by_cases e2:i=j
      ·subst e2;exact h.irrefl
      ·exact hord i j (by omega) hj h
     have hjf:=h.1 _ hfi;have:=mJ qs _ i j hji hjf;by_cases e2:i'=j
     ·exact .inl e2
     ·exact .inr (yZ P hord (by omega) (by omega) hjf h1)
end
end

section
section
variable {α:Type} (z:α) (key:α→Nat)
def fR(L:List α)(i j:Nat):List α:=(L.set i (L.getD j z)).set j (L.getD i z)
theorem KE(L:List α)(i:Nat)(x:α)(k:Nat)(hi:i<L.length):(L.set i x).getD k z=if k=i then x else L.getD k z:=by
 rw[aBT,List.getElem?_set,aBT]
 by_cases e:i=k
 ·subst e;simp[hi]
 ·rw[if_neg e,if_neg (fun h=>e h.symm)]
theorem RO(L:List α)(i j:Nat):(fR z L i j).length=L.length:=by simp[fR]
theorem pJ(L:List α){i j:Nat}(hi:i<L.length)(hj:j<L.length)(k:Nat):(fR z L i j).getD k z=if k=j then L.getD i z else if k=i then L.getD j z else L.getD k z:=by
 rw[fR,KE z _ j _ k (by simpa using hj),KE z _ i _ k hi]
theorem BF(A B C:List α)(x y:α):(A++y :: (B++x :: C)).Perm (A++x :: (B++y :: C)):=by
 refine List.Perm.append_left A ?_
 have h1:(y :: (B++x :: C)).Perm (x :: (y :: (B++C))):=((List.perm_middle (a:=x) (l₁:=B) (l₂:=C)).cons y).trans (List.Perm.swap x y _)
 exact h1.trans ((List.perm_middle (a:=y) (l₁:=B) (l₂:=C)).symm.cons x)
theorem tF(L:List α){i j:Nat}(hij:i<j)(hj:j<L.length):(fR z L i j).Perm L∧(fR z L j i).Perm L:=by
 obtain⟨A,x,L1,rfl,hA⟩:∃A x L1,L=A++x :: L1∧A.length=i:=⟨L.take i,L[i]'(by omega),L.drop (i+1),by rw[←List.drop_eq_getElem_cons,List.take_append_drop],by simp;omega⟩
 obtain⟨B,y,C,rfl,hB⟩:∃B y C,L1=B++y :: C∧B.length=j-i-1:=by
  have hl:j-i-1<L1.length:=by simp at hj;omega
  exact⟨L1.take (j-i-1),L1[j-i-1]'hl,L1.drop (j-i-1+1),by rw[←List.drop_eq_getElem_cons,List.take_append_drop],by simp;omega⟩
 have ei:(A++x :: (B++y :: C)).getD i z=x:=by rw[←hA];simp[aBT]
 have ej:(A++x :: (B++y :: C)).getD j z=y:=by
  have:j=A.length+(B.length+1):=by omega
  rw[this];simp[aBT]
 have e1:fR z (A++x :: (B++y :: C)) i j=A++y :: (B++x :: C):=by
  rw[fR,ei,ej];have h1:(A++x :: (B++y :: C)).set i y=A++y :: (B++y :: C):=by rw[←hA];simp
  have h2:j=A.length+(B.length+1):=by omega
  rw[h1,h2];simp
 have e2:fR z (A++x :: (B++y :: C)) j i=A++y :: (B++x :: C):=by
  rw[fR,ei,ej];have h2:j=A.length+(B.length+1):=by omega
  have h1:(A++x :: (B++y :: C)).set j x=A++x :: (B++x :: C):=by rw[h2];simp
  rw[h1,←hA];simp
 rw[e1,e2]
 exact⟨BF A B C x y,BF A B C x y⟩
theorem kW(L:List α){i j:Nat}(hi:i<L.length)(hj:j<L.length):(fR z L i j).Perm L:=by
 rcases Nat.lt_trichotomy i j with h|h|h
 ·exact(tF z L h hj).1
 ·subst h;have:fR z L i i=L:=by
   rw[fR,List.set_set];apply List.ext_getElem?;intro k;rw[List.getElem?_set];by_cases e:i=k
   ·subst e;simp[aBT,hi]
   ·rw[if_neg e]
  rw[this]
 ·exact(tF z L h hi).2
structure Sh(L L':List α)(a b:Nat):Prop where
 len:L'.length=L.length
 perm:L'.Perm L
 out:∀k,k<a∨b≤k→L'.getD k z=L.getD k z
 inn:∀k,a≤k→k<b→∃k',a≤k'∧k'<b∧L'.getD k z=L.getD k' z
variable {z}
theorem Sh.refl(L:List α)(a b:Nat):Sh z L L a b:=⟨rfl,List.Perm.refl _,fun _ _=>rfl,fun k h1 h2=>⟨k,h1,h2,rfl⟩⟩
theorem Sh.trans{L1 L2 L3:List α}{a b:Nat}(h:Sh z L1 L2 a b)(k:Sh z L2 L3 a b):Sh z L1 L3 a b where
 len:=k.len.trans h.len
 perm:=k.perm.trans h.perm
 out:=fun j hj=>(k.out j hj).trans (h.out j hj)
 inn:=fun j h1 h2=>by
  obtain⟨j',h3,h4,e⟩:=k.inn j h1 h2;obtain⟨j'',h5,h6,e2⟩:=h.inn j' h3 h4;exact⟨j'',h5,h6,e.trans e2⟩
theorem Sh.mono{L L':List α}{a b a' b':Nat}(h:Sh z L L' a b)(ha:a'≤a)(hb:b≤b'):Sh z L L' a' b' where
 len:=h.len
 perm:=h.perm
 out:=fun k hk=>h.out k (by omega)
 inn:=fun k h1 h2=>by
  by_cases hk:a≤k∧k<b
  ·obtain⟨k',h3,h4,e⟩:=h.inn k hk.1 hk.2;exact⟨k',by omega,by omega,e⟩
  ·exact⟨k,h1,h2,h.out k (by omega)⟩
theorem Sh.swap(L:List α){i j a b:Nat}(hi:a≤i∧i<b)(hj:a≤j∧j<b)(hb:b≤L.length):Sh z L (fR z L i j) a b where
 len:=RO z L i j
 perm:=kW z L (by omega) (by omega)
 out:=fun k hk=>by rw[pJ z L (by omega) (by omega),if_neg (by omega),if_neg (by omega)]
 inn:=fun k h1 h2=>by
  rw[pJ z L (by omega) (by omega)];by_cases e:k=j
  ·exact⟨i,hi.1,hi.2,by rw[if_pos e]⟩
  ·by_cases e2:k=i
   ·exact⟨j,hj.1,hj.2,by rw[if_neg e,if_pos e2]⟩
   ·exact⟨k,h1,h2,by rw[if_neg e,if_neg e2]⟩
abbrev kAt(z:α)(key:α→Nat)(L:List α)(k:Nat):Nat:=key (L.getD k z)
def Srt(z:α)(key:α→Nat)(L:List α)(a b:Nat):Prop:=∀i j,a≤i→i<j→j<b→kAt z key L i≤kAt z key L j
theorem Srt.le{L:List α}{a b:Nat}(h:Srt z key L a b){i j:Nat}(ha:a≤i)(hij:i≤j)(hb:j<b):kAt z key L i≤kAt z key L j:=by
 rcases Nat.lt_or_eq_of_le hij with h1|h1
 ·exact h i j ha h1 hb
 ·subst h1;exact aBV _
theorem Srt.one(L:List α){a b:Nat}(h:b≤a+1):Srt z key L a b:=fun i j _ _ _=>by omega
theorem Srt.out{L L':List α}{a b c d:Nat}(h:Srt z key L c d)(hs:Sh z L L' a b)(hd:d≤a∨b≤c):Srt z key L' c d:=fun i j h1 h2 h3=>by
 rw[kAt,kAt,hs.out i (by omega),hs.out j (by omega)]
 exact h i j h1 h2 h3
structure CZ(z:α)(key:α→Nat)(L:List α)(a i j:Nat):Prop where
 low:a≤j∧j≤i
 rest:∀x y,a≤x→x<y→y≤i→x≠j→y≠j→kAt z key L x≤kAt z key L y
 up:∀y,j<y→y≤i→kAt z key L j≤kAt z key L y
theorem CZ.start{L:List α}{a i:Nat}(h:Srt z key L a i)(ha:a≤i):CZ z key L a i i:=⟨⟨ha,aBV _⟩,fun x y h1 h2 h3 _ h5=>h x y h1 h2 (by omega),fun y h1 h2=>by omega⟩
theorem CZ.step{L:List α}{a i j:Nat}(h:CZ z key L a i j)(hj:a<j)(hi:i<L.length)(hc:kAt z key L j≤kAt z key L (j-1)):CZ z key (fR z L j (j-1)) a i (j-1):=by
 obtain⟨⟨h1,h2⟩,h3,h4⟩:=h
 have hat:=pJ z L (i:=j) (j:=j-1) (by omega) (by omega)
 refine⟨⟨by omega,by omega⟩,fun x y hx hxy hy hxj hyj=>?_,fun y hy1 hy2=>?_⟩
 ·simp only[kAt,hat];rw[if_neg hxj,if_neg hyj];by_cases ex:x=j
  ·rw[if_pos ex,if_neg (by omega)];exact h3 (j-1) y (by omega) (by omega) hy (by omega) (by omega)
  ·rw[if_neg ex];by_cases ey:y=j
   ·rw[if_pos ey];exact h3 x (j-1) hx (by omega) (by omega) ex (by omega)
   ·rw[if_neg ey];exact h3 x y hx hxy hy ex ey
 ·simp only[kAt,hat];rw[if_pos True.intro,if_neg (by omega)];by_cases ey:y=j
  ·rw[if_pos ey];exact hc
  ·rw[if_neg ey];exact h4 y (by omega) hy2
theorem CZ.fin{L:List α}{a i j:Nat}(h:CZ z key L a i j)(hc:j=a∨kAt z key L (j-1)≤kAt z key L j):Srt z key L a (i+1):=by
 obtain⟨⟨h1,h2⟩,h3,h4⟩:=h
 intro x y hx hxy hy
 by_cases ex:x=j
 ·subst ex;exact h4 y hxy (by omega)
 ·by_cases ey:y=j
  ·subst ey;have hc2:=hc.resolve_left (by omega);by_cases e:x=y-1
   ·subst e;exact hc2
   ·exact aCD (h3 x (y-1) hx (by omega) (by omega) ex (by omega)) hc2
  ·exact h3 x y hx hxy (by omega) ex ey
end
section
variable {β:Type}
def mT(f:Nat→β)(a b n:Nat)(k:Nat):β:=if a≤k∧k<a+n then f (k+(b-a)) else if b≤k∧k<b+n then f (k-(b-a)) else f k
def fT(f:Nat→β)(a m b:Nat)(k:Nat):β:=if a≤k∧k<a+(b-m) then f (k+(m-a)) else if a+(b-m)≤k∧k<b then f (k-(b-m)) else f k
theorem RV(f:Nat→β){m i j:Nat}(hi:i≤m)(hij:j<i):fT (mT f (m-i) m j) (m-(i-j)) m (m+j)=fT f (m-i) m (m+j):=by
 obtain⟨p,rfl⟩:∃p,m=p+i:=⟨m-i,by omega⟩
 obtain⟨d,rfl⟩:∃d,i=j+d:=⟨i-j,by omega⟩
 have e1:p+(j+d)-(j+d)=p:=by omega
 have e2:p+(j+d)-(j+d-j)=p+j:=by omega
 have e3:p+(j+d)+j-(p+(j+d))=j:=by omega
 have e4:p+(j+d)-p=j+d:=by omega
 have e5:p+(j+d)-(p+j)=d:=by omega
 funext k
 simp only[fT,mT,e1,e2,e3,e4,e5]
 repeat' split
 all_goals first
  |omega
  |rfl
  |(congr 1<;>omega)
theorem RU(f:Nat→β){m i j:Nat}(hi:i≤m)(hij:i<j):fT (mT f (m-i) (m+j-i) i) (m-i) m (m+(j-i))=fT f (m-i) m (m+j):=by
 obtain⟨p,rfl⟩:∃p,m=p+i:=⟨m-i,by omega⟩
 obtain⟨d,rfl⟩:∃d,j=i+d:=⟨j-i,by omega⟩
 have e1:p+i-i=p:=by omega
 have e2:p+i+(i+d)-i=p+i+d:=by omega
 have e3:p+i+(i+d-i)=p+i+d:=by omega
 have e4:p+i+d-(p+i)=d:=by omega
 have e5:p+i-p=i:=by omega
 have e6:p+i+(i+d)-(p+i)=i+d:=by omega
 have e7:p+i+d-p=i+d:=by omega
 funext k
 simp only[fT,mT,e1,e2,e3,e4,e5,e6,e7]
 repeat' split
 all_goals first
  |omega
  |rfl
  |(congr 1<;>omega)
theorem VN(f:Nat→β){m i:Nat}(hi:i≤m):mT f (m-i) m i=fT f (m-i) m (m+i):=by
 obtain⟨p,rfl⟩:∃p,m=p+i:=⟨m-i,by omega⟩
 have e1:p+i-i=p:=by omega
 have e2:p+i+i-(p+i)=i:=by omega
 have e3:p+i-p=i:=by omega
 funext k
 simp only[fT,mT,e1,e2,e3]
 repeat' split
 all_goals first
  |omega
  |rfl
  |(congr 1<;>omega)
theorem NQ(f:Nat→β)(a b n:Nat)(hab:a+n<b)(k:Nat):(if k=b+n then mT f a b n (a+n) else if k=a+n then mT f a b n (b+n) else mT f a b n k)=mT f a b (n+1) k:=by
 simp only[mT]
 repeat' split
 all_goals first
  |omega
  |rfl
  |(congr 1<;>omega)
theorem NP(f:Nat→β)(a b:Nat)(k:Nat):mT f a b 0 k=f k:=by
 simp only[mT]
 repeat' split
 all_goals first
  |omega
  |rfl
  |(congr 1<;>omega)
end
section
variable {α:Type} {z:α} {key:α→Nat}
structure Found(z:α)(key:α→Nat)(L:List α)(a m b st:Nat):Prop where
 low:a≤st∧st≤m∧st≤(a+b)/2
 high:m≤(a+b)/2+m-st∧(a+b)/2+m-st≤b
 one:∀x y,a≤x→x<st→(a+b)/2+m-st≤y→y<b→kAt z key L x≤kAt z key L y
 two:∀x y,m≤x→x<(a+b)/2+m-st→st≤y→y<m→kAt z key L x≤kAt z key L y
def s0(a m b:Nat):Nat:=if (a+b)/2<m then (a+b)/2+m-b else a
def r0(a m b:Nat):Nat:=if (a+b)/2<m then (a+b)/2 else m
theorem wK{a m b:Nat}(ham:a<m)(hmb:m<b):a≤s0 a m b∧s0 a m b≤r0 a m b∧r0 a m b≤m∧(∀c,s0 a m b≤c→c<r0 a m b→m≤(a+b)/2+m-1-c∧(a+b)/2+m-1-c<b∧c<m):=by
 unfold s0 r0
 split
 all_goals refine⟨by omega,by omega,by omega,fun c h1 h2=>⟨by omega,by omega,by omega⟩⟩
theorem XA{L:List α}{a m b st:Nat}(ham:a<m)(hmb:m<b)(h1:Srt z key L a m)(h2:Srt z key L m b)(hlo:s0 a m b≤st)(hhi:st≤r0 a m b)
  (hl:st=s0 a m b∨kAt z key L (st-1)≤kAt z key L ((a+b)/2+m-1-(st-1))) (hr:st=r0 a m b∨kAt z key L ((a+b)/2+m-1-st)≤kAt z key L st):Found z key L a m b st:=by
 have hb:=wK ham hmb
 obtain⟨b1,b2,b3,b4⟩:=hb
 have hs:a≤st∧st≤m∧st≤(a+b)/2:=by
  unfold s0 at hlo;unfold r0 at hhi
  split at hlo<;>(first|(rw[if_pos (by assumption)] at hhi)|(rw[if_neg (by assumption)] at hhi))<;>omega
 have hs2:m≤(a+b)/2+m-st∧(a+b)/2+m-st≤b:=by
  unfold s0 at hlo;unfold r0 at hhi
  split at hlo<;>(first|(rw[if_pos (by assumption)] at hhi)|(rw[if_neg (by assumption)] at hhi))<;>omega
 refine⟨hs,hs2,fun x y hx1 hx2 hy1 hy2=>?_,fun x y hx1 hx2 hy1 hy2=>?_⟩
 ·rcases hl with hl|hl
  ·exfalso;rw[hl] at hx2 hy1;unfold s0 at hx2 hy1
   split at hx2<;>(first|(rw[if_pos (by assumption)] at hy1)|(rw[if_neg (by assumption)] at hy1))<;>omega
  ·have e:(a+b)/2+m-1-(st-1)=(a+b)/2+m-st:=by omega
   rw[e] at hl;exact aCD (h1.le key hx1 (by omega) (by omega)) (aCD hl (h2.le key (by omega) hy1 hy2))
 ·rcases hr with hr|hr
  ·exfalso;rw[hr] at hx2 hy1;unfold r0 at hx2 hy1
   split at hx2<;>(first|(rw[if_pos (by assumption)] at hy1)|(rw[if_neg (by assumption)] at hy1))<;>omega
  ·have e:(a+b)/2+m-1-st=(a+b)/2+m-st-1:=by omega
   rw[e] at hr;exact aCD (h2.le key hx1 (by omega) (by omega)) (aCD hr (h1.le key (by omega) hy1 hy2))
structure ZP(z:α)(key:α→Nat)(L:List α)(a st mid en b:Nat):Prop where
 s1:Srt z key L a st
 s2:Srt z key L st mid
 s3:Srt z key L mid en
 s4:Srt z key L en b
 cross:∀x y,a≤x→x<mid→mid≤y→y<b→kAt z key L x≤kAt z key L y
theorem aAD{L L':List α}{a m b st:Nat}(h1:Srt z key L a m)(h2:Srt z key L m b)(hf:Found z key L a m b st)(hr:∀k,L'.getD k z=fT (fun k=>L.getD k z) st m ((a+b)/2+m-st) k):
  ZP z key L' a st ((a+b)/2) ((a+b)/2+m-st) b:=by
 obtain⟨⟨f1,f2,f5⟩,⟨f3,f4⟩,g1,g2⟩:=hf
 generalize hmid:(a+b)/2=mid at*
 have e1:∀k,k<st→L'.getD k z=L.getD k z:=fun k hk=>by rw[hr];unfold fT;rw[if_neg (by omega),if_neg (by omega)]
 have e2:∀k,st≤k→k<mid→L'.getD k z=L.getD (k+(m-st)) z:=fun k hk hk2=>by rw[hr];unfold fT;rw[if_pos (by omega)]
 have e3:∀k,mid≤k→k<mid+m-st→L'.getD k z=L.getD (k-(mid-st)) z:=fun k hk hk2=>by
  rw[hr];unfold fT;rw[if_neg (by omega),if_pos (by omega)]
  congr 1;omega
 have e4:∀k,mid+m-st≤k→L'.getD k z=L.getD k z:=fun k hk=>by rw[hr];unfold fT;rw[if_neg (by omega),if_neg (by omega)]
 refine⟨fun i j hi hij hj=>?_,fun i j hi hij hj=>?_,fun i j hi hij hj=>?_,fun i j hi hij hj=>?_,fun x y hx1 hx2 hy1 hy2=>?_⟩
 ·rw[kAt,kAt,e1 i (by omega),e1 j hj];exact h1 i j hi hij (by omega)
 ·rw[kAt,kAt,e2 i hi (by omega),e2 j (by omega) hj];exact h2 _ _ (by omega) (by omega) (by omega)
 ·rw[kAt,kAt,e3 i hi (by omega),e3 j (by omega) hj];exact h1 _ _ (by omega) (by omega) (by omega)
 ·rw[kAt,kAt,e4 i hi,e4 j (by omega)];exact h2 i j (by omega) hij hj
 ·by_cases hx:x<st
  ·by_cases hy:y<mid+m-st
   ·rw[kAt,kAt,e1 x hx,e3 y hy1 hy];exact h1 _ _ hx1 (by omega) (by omega)
   ·rw[kAt,kAt,e1 x hx,e4 y (by omega)];exact g1 x y hx1 hx (by omega) hy2
  ·by_cases hy:y<mid+m-st
   ·rw[kAt,kAt,e2 x (by omega) hx2,e3 y hy1 hy];exact g2 _ _ (by omega) (by omega) (by omega) (by omega)
   ·rw[kAt,kAt,e2 x (by omega) hx2,e4 y (by omega)];exact h2 _ _ (by omega) (by omega) hy2
theorem Srt.join{L L1 L2:List α}{a mid b:Nat}(hc:∀x y,a≤x→x<mid→mid≤y→y<b→kAt z key L x≤kAt z key L y)(hs1:Sh z L L1 a mid)(hs2:Sh z L1 L2 mid b)(h1:Srt z key L1 a mid)(h2:Srt z key L2 mid b):Srt z key L2 a b:=by
 intro i j hi hij hj
 by_cases hj2:j<mid
 ·rw[kAt,kAt,hs2.out i (by omega),hs2.out j (by omega)];exact h1 i j hi hij hj2
 ·by_cases hi2:mid≤i
  ·exact h2 i j hi2 hij hj
  ·obtain⟨j',h3,h4,e⟩:=hs2.inn j (by omega) hj;obtain⟨i',h5,h6,e2⟩:=hs1.inn i hi (by omega);rw[kAt,kAt,hs2.out i (by omega),e,e2,hs1.out j' (by omega)];exact hc i' j' h5 h6 h3 h4
end
section
variable {β:Type}
theorem XO(f:Nat→β)(a k:Nat):fT f a (a+1) (a+1) k=f k:=by
 simp only[fT]
 repeat' split
 all_goals first
  |omega
  |rfl
  |(congr 1<;>omega)
theorem aAI(f:Nat→β){a k:Nat}(h:a≤k)(x:Nat):(if x=k+1 then fT f a (a+1) (k+1) k else if x=k then fT f a (a+1) (k+1) (k+1) else fT f a (a+1) (k+1) x)=fT f a (a+1) (k+1+1) x:=by
 simp only[fT]
 repeat' split
 all_goals first
  |omega
  |rfl
  |(congr 1<;>omega)
theorem TY(f:Nat→β)(m k:Nat):fT f m m (m+1) k=f k:=by
 simp only[fT]
 repeat' split
 all_goals first
  |omega
  |rfl
  |(congr 1<;>omega)
theorem XP(f:Nat→β){m k:Nat}(h:k+1≤m)(x:Nat):(if x=k then fT f (k+1) m (m+1) (k+1) else if x=k+1 then fT f (k+1) m (m+1) k else fT f (k+1) m (m+1) x)=fT f k m (m+1) x:=by
 simp only[fT]
 repeat' split
 all_goals first
  |omega
  |rfl
  |(congr 1<;>omega)
end
section
variable {α:Type} {z:α} {key:α→Nat}
theorem VR{L L':List α}{a b i:Nat}(h2:Srt z key L (a+1) b)(hi:a+1≤i)(hib:i≤b)(hl:i=a+1∨kAt z key L (i-1)≤kAt z key L a)(hr:i=b∨kAt z key L a≤kAt z key L i)
  (he:∀k,L'.getD k z=fT (fun k=>L.getD k z) a (a+1) i k):Srt z key L' a b:=by
 have e1:∀k,a≤k→k<i-1→L'.getD k z=L.getD (k+1) z:=fun k h1 h2=>by
  rw[he];unfold fT;rw[if_pos (by omega)];congr 1;omega
 have e2:L'.getD (i-1) z=L.getD a z:=by
  rw[he];unfold fT;rw[if_neg (by omega),if_pos (by omega)];congr 1;omega
 have e3:∀k,i≤k→L'.getD k z=L.getD k z:=fun k h1=>by
  rw[he];unfold fT;rw[if_neg (by omega),if_neg (by omega)]
 intro x y hx hxy hy
 by_cases hy1:y<i-1
 ·rw[kAt,kAt,e1 x hx (by omega),e1 y (by omega) hy1];exact h2 _ _ (by omega) (by omega) (by omega)
 ·by_cases hy2:y=i-1
  ·rw[kAt,kAt,hy2,e2,e1 x hx (by omega)];exact aCD (h2.le key (by omega) (show x+1≤i-1 by omega) (by omega)) (hl.resolve_left (by omega))
  ·rw[kAt,kAt,e3 y (by omega)];by_cases hx1:x<i-1
   ·rw[e1 x hx hx1];exact h2.le key (by omega) (by omega) hy
   ·by_cases hx2:x=i-1
    ·rw[hx2,e2];exact aCD (hr.resolve_left (by omega)) (h2.le key hi (by omega) hy)
    ·rw[e3 x (by omega)];exact h2 x y (by omega) hxy hy
theorem RZ{L L':List α}{a m i:Nat}(h1:Srt z key L a m)(hi:a≤i)(him:i≤m)(hl:i=a∨kAt z key L (i-1)≤kAt z key L m)(hr:i=m∨kAt z key L m≤kAt z key L i)
  (he:∀k,L'.getD k z=fT (fun k=>L.getD k z) i m (m+1) k):Srt z key L' a (m+1):=by
 have e1:∀k,k<i→L'.getD k z=L.getD k z:=fun k h1=>by
  rw[he];unfold fT;rw[if_neg (by omega),if_neg (by omega)]
 have e2:L'.getD i z=L.getD m z:=by
  rw[he];unfold fT;rw[if_pos (by omega)];congr 1;omega
 have e3:∀k,i<k→k<m+1→L'.getD k z=L.getD (k-1) z:=fun k h1 h2=>by
  rw[he];unfold fT;rw[if_neg (by omega),if_pos (by omega)];congr 1;omega
 intro x y hx hxy hy
 by_cases hx1:x<i
 ·rw[kAt,kAt,e1 x hx1];by_cases hy1:y<i
  ·rw[e1 y hy1];exact h1 x y hx hxy (by omega)
  ·by_cases hy2:y=i
   ·rw[hy2,e2];exact aCD (h1.le key hx (show x≤i-1 by omega) (by omega)) (hl.resolve_left (by omega))
   ·rw[e3 y (by omega) hy];exact h1.le key hx (by omega) (by omega)
 ·by_cases hx2:x=i
  ·rw[kAt,kAt,hx2,e2,e3 y (by omega) hy];exact aCD (hr.resolve_left (by omega)) (h1.le key hi (by omega) (by omega))
  ·rw[kAt,kAt,e3 x (by omega) (by omega),e3 y (by omega) hy];exact h1.le key (by omega) (by omega) (by omega)
end
end

section
theorem iG{n:Nat}{qs:List aI}{j:Nat}{x:Nat}:(x:Int)∈fV n qs j↔x<n∧dF qs x qs.length=j:=by
 simp only[fV,aO,List.mem_map,List.mem_filter,List.mem_range,beq_iff_eq]
 constructor
 ·rintro⟨y,⟨h1,h2⟩,h3⟩;obtain rfl:y=x:=by omega
  exact⟨h1,h2⟩
 ·intro h;exact⟨x,h,rfl⟩
theorem sS{n:Nat}{qs:List aI}{j:Nat}{z:Int}(h:z∈fV n qs j):∃x:Nat,z=x:=by
 simp only[fV,aO,List.mem_map] at h
 obtain⟨y,_,h3⟩:=h
 exact⟨y,h3.symm⟩
theorem AC(n:Nat){qs:List aI}{k:Nat}(hk:k≤qs.length):eW (dQ n qs) k=fV n qs k:=by
 cases k with
 |zero=>rfl
 |succ k=>rw[eW,mH n (by omega)];rfl
theorem KH(v:Nat):∀m,(List.range m).flatMap (fun k=>if k=v then [k] else [])=if v<m then [v] else []
 |0=>by simp
 |m+1=>by
  rw[List.range_succ,List.flatMap_append,KH v m];by_cases h:m=v
  ·subst h;simp
  ·by_cases h2:v<m
   ·simp[h,h2,show v<m+1 by omega]
   ·simp[h,h2,show¬v<m+1 by omega]
theorem OZ(p:Nat→Bool)(b:Nat)(n:Nat):((aO ((List.range n).filter p)).filter fun x=>x==(b:Int))=if b<n∧p b=true then [(b:Int)] else []:=by
 induction n with
 |zero=>simp[aO]
 |succ n ih=>
  unfold aO at ih⊢;rw[List.range_succ,List.filter_append,List.map_append,List.filter_append,ih];by_cases hp:p n=true
  ·by_cases hb:n=b
   ·subst hb;simp[hp]
   ·have h1:¬((n:Int)=(b:Int)):=by omega
    have h2:(b<n+1)=(b<n):=by apply propext;omega
    simp[hp,h1,h2]
  ·by_cases hb:n=b
   ·subst hb;simp[hp]
   ·have h2:(b<n+1)=(b<n):=by apply propext;omega
    simp[hp,h2]
theorem KB(n:Nat){qs:List aI}{b:Nat}(hb:b<n):iC (dQ n qs) b= [dF qs b qs.length]:=by
 unfold iC
 rw[eT]
 have hl:=iE qs b qs.length
 have h:∀k∈List.range (qs.length+1),((eW (dQ n qs) k).filter fun x=>x==(b:Int)).map (fun _=>k)=if k=dF qs b qs.length then [k] else []:=by
  intro k hk;rw[List.mem_range] at hk;rw[AC n (by omega),fV,OZ];by_cases e:k=dF qs b qs.length
  ·subst e;simp[hb]
  ·have e':¬dF qs b qs.length=k:=fun h=>e h.symm;simp[e,e']
 have h2:∀(l:List Nat) (f g:Nat→List Nat),(∀k∈l,f k=g k)→l.flatMap f=l.flatMap g:=by
  intro l
  induction l with
  |nil=>intros;rfl
  |cons a l ih=>intro f g hfg;rw[List.flatMap_cons,List.flatMap_cons,hfg a (by simp),ih f g (fun k hk=>hfg k (by simp[hk]))]
 rw[h2 _ _ _ h,KH,if_pos (by omega)]
theorem TO(n:Nat)(qs:List aI):∀i,i<qs.length+1→fX (dQ n qs) 0 i=true:=by
 have hp:=mL (qs:=qs) n
 intro i
 induction i using Nat.strongRecOn with
 |_ i ih=>
  intro hi;cases i with
  |zero=>exact jV _ _
  |succ i=>
   rw[iF hp _ _ (by rw[eT];omega)];have hv:fJ (dQ n qs) (i+1)=(dF qs (cI (qs.getD i aE)) i:Nat):=by rw[fJ,mH n (by omega)];rfl
   have:=iE qs (cI (qs.getD i aE)) i;rw[hv];simp only[Int.toNat_natCast];rw[ih _ (by omega) (by omega)];simp
theorem RT{n:Nat}(hn:n≤200)(qs:List aI):iH (dQ n qs) 0=aL n:=by
 funext x
 rw[Bool.eq_iff_iff]
 simp only[iH,ofS,aL,Bool.and_eq_true,decide_eq_true_eq,List.contains_iff_mem]
 have h:=vM (dQ n qs) 0 (by rw[eT];omega) (mL n) (x:Int)
 rw[show((0:Nat):Int)=0 from rfl] at h
 constructor
 ·rintro⟨_,h2⟩;obtain⟨i,h3,_,h4⟩:=h.1 h2;rw[eT] at h3;rw[AC n (by omega)] at h4;exact(iG.1 h4).1
 ·intro hx;refine⟨by omega,h.2 ⟨dF qs x qs.length,?_,?_,?_⟩⟩
  ·rw[eT];have:=iE qs x qs.length;omega
  ·exact TO n qs _ (by have:=iE qs x qs.length;omega)
  ·rw[AC n (iE _ _ _)];exact iG.2 ⟨hx,rfl⟩
section
variable {ts:List aT} {qs:List aI} (hf:bU ts=true) (P:gU ts qs) (hord:∀i j,i<j→j<qs.length→¬eK (qs.getD i aE).s (qs.getD j aE).s)
include hf P hord
theorem YG{j:Nat}(hj:j<qs.length):iH (dQ ts.length qs) (j+1)=(qs.getD j aE).s:=by
 have hl:=(bQ hf).2.1
 funext x
 rw[Bool.eq_iff_iff]
 simp only[iH,ofS,Bool.and_eq_true,decide_eq_true_eq,List.contains_iff_mem]
 have h:=vM (dQ ts.length qs) (j+1) (by rw[eT];omega) (mL _) (x:Int)
 constructor
 ·rintro⟨_,h2⟩;obtain⟨i,h3,hd,h4⟩:=h.1 (by simpa using h2);rw[eT] at h3;rw[AC _ (by omega)] at h4;cases i with
  |zero=>have:=pR (mL _) (j+1) 0 (by rw[eT];omega) hd;omega
  |succ i=>
   obtain⟨h5,h6⟩:=iG.1 h4;have h7:=lC qs x _ i h6;rcases(RC hf P hord _ j hj i (by omega)).1 hd with e|e
   ·subst e;exact h7.1
   ·exact e.1 x h7.1
 ·intro hx;have hlow:=P.low _ (gE hj) x hx;refine⟨by omega,?_⟩;have hm:=mJ qs x qs.length j hj hx;have hle:=iE qs x qs.length;obtain⟨i,hi⟩:∃i,dF qs x qs.length=i+1:=⟨dF qs x qs.length-1,by omega⟩
  have h2:=NG P hord hi hj hx;have:=h.2 ⟨i+1,by rw[eT];omega,(RC hf P hord _ j hj i (by omega)).2 (h2.imp (fun e=>e.symm) id),by rw[AC _ (by omega)];exact iG.2 ⟨by omega,hi⟩⟩;simpa using this
omit hf in
theorem uU{j x:Nat}(hj:j<qs.length):(x:Int)∈fV ts.length qs (j+1)↔(qs.getD j aE).s x=true∧∀q∈qs,eK q.s (qs.getD j aE).s→q.s x=false:=by
 rw[iG]
 constructor
 ·rintro⟨_,h⟩;obtain⟨h1,h2⟩:=lC qs x _ j h;refine⟨h1,fun q hq hs=>?_⟩;cases e:q.s x with
  |false=>rfl
  |true=>
   exfalso;obtain⟨i,hi,rfl⟩:=List.mem_iff_getElem.1 hq;have e1:qs.getD i aE=qs[i]:=by simp[aBT,hi]
   rw[←e1] at e hs;rcases NG P hord h hi e with h3|h3
   ·subst h3;exact hs.irrefl
   ·exact hs.asymm h3
 ·rintro⟨h1,h2⟩;have hlow:=P.low _ (gE hj) x h1;refine⟨by omega,?_⟩;have hm:=mJ qs x qs.length j hj h1;obtain⟨i,hi⟩:∃i,dF qs x qs.length=i+1:=⟨dF qs x qs.length-1,by omega⟩
  rcases NG P hord hi hj h1 with h3|h3
  ·omega
  ·have h4:=lC qs x _ i hi;have:=h2 _ (gE h4.2) h3;rw[h4.1] at this;cases this
omit hf P hord in
theorem PR{x:Nat}:(x:Int)∈fV ts.length qs 0↔x<ts.length∧∀q∈qs,q.s x=false:=by
 rw[iG]
 refine and_congr_right fun _=>⟨fun h q hq=>?_,fun h=>?_⟩
 ·cases e:q.s x with
  |false=>rfl
  |true=>
   obtain⟨i,hi,rfl⟩:=List.mem_iff_getElem.1 hq;have e1:qs.getD i aE=qs[i]:=by simp[aBT,hi]
   rw[←e1] at e;have:=mJ qs x qs.length i hi e;omega
 ·apply aCF;intro hn;obtain⟨i,hi⟩:∃i,dF qs x qs.length=i+1:=⟨dF qs x qs.length-1,by omega⟩
  have h4:=lC qs x _ i hi;rw[h _ (gE h4.2)] at h4;cases h4.1
omit hf in
theorem IW{j:Nat}(hj:j<qs.length):∃x:Nat,(x:Int)∈fV ts.length qs (j+1):=by
 have hm:=gE hj
 by_cases h3:(qs.getD j aE).kind=3
 ·obtain⟨y,hy⟩:=P.some _ hm;exact⟨y,(uU P hord hj).2 ⟨hy,fun q hq hs=>absurd hs (P.noreg _ hm h3 q hq)⟩⟩
 ·obtain⟨_,_,h1,h2⟩:=P.ent _ hm h3;exact⟨_,(uU P hord hj).2 ⟨h1,h2⟩⟩
end
end

section
theorem BI(n:Nat)(qs:List aI)(j:Nat):iN n (fV n qs j)=true:=by
 have hpw:(fV n qs j).Pairwise (· < ·):=by
  unfold fV aO;rw[List.pairwise_map];exact(List.pairwise_lt_range.filter _).imp (fun h=>by omega)
 simp only[iN,List.all_eq_true,List.mem_range,Bool.and_eq_true,Bool.or_eq_true,beq_iff_eq,decide_eq_true_eq]
 intro i hi
 have e:(fV n qs j).getD i 0=(fV n qs j)[i]:=by rw[aBT,aBU hi];rfl
 have hm:(fV n qs j)[i]∈fV n qs j:=aBZ _
 obtain⟨x,hx⟩:=sS hm
 rw[hx] at hm
 have hb:=(iG.1 hm).1
 rw[e]
 refine⟨by omega,?_⟩
 by_cases h0:i=0
 ·exact .inl h0
 ·refine .inr ?_;have e2:(fV n qs j).getD (i-1) 0=(fV n qs j)[i-1]:=by rw[aBT,aBU (by omega)];rfl
  rw[e2];exact List.pairwise_iff_getElem.1 hpw (i-1) i (by omega) hi (by omega)
theorem rP{ts:List aT}{bs:List Int}{inn:Nat→Bool}(hc:cA inn)(h:∀z∈bs,¬Reach (nx ts) inn z.toNat z.toNat):iD ts bs inn=false:=by
 rw[iD,List.any_eq_false]
 intro z hz e
 rw[AH hc,fG hc] at e
 exact h z hz e.2
section
variable {ts:List aT} {qs:List aI} (hf:bU ts=true) (P:gU ts qs) (hord:∀i j,i<j→j<qs.length→¬eK (qs.getD i aE).s (qs.getD j aE).s)
include hf P hord
omit hord in
theorem FM:(0:Int)∈fV ts.length qs 0:=by
 have hl:=(bQ hf).2.1
 have:=(PR (ts:=ts) (qs:=qs) (x:=0)).2 ⟨by omega,fun q hq=>by
  cases e:q.s 0 with
  |false=>rfl
  |true=>have:=P.low q hq 0 e;omega⟩
 exact this
theorem EP:qs.length+1≤ts.length:=by
 have hl:=(bQ hf).2.1
 have h:∀j,j<qs.length+1→∃x:Nat,(x:Int)∈fV ts.length qs j:=by
  intro j hj;cases j with
  |zero=>exact⟨0,FM hf P⟩
  |succ j=>exact IW P hord (by omega)
 have hc:∀j,∃x:Nat,j<qs.length+1→(x:Int)∈fV ts.length qs j:=by
  intro j;by_cases hj:j<qs.length+1
  ·obtain⟨x,hx⟩:=h j hj;exact⟨x,fun _=>hx⟩
  ·exact⟨0,fun e=>absurd e hj⟩
 obtain⟨f,hfn⟩:=Classical.axiomOfChoice hc
 have hn:((List.range (qs.length+1)).map f).Nodup:=by
  rw[List.Nodup,List.pairwise_map];refine List.Pairwise.imp_of_mem ?_ List.pairwise_lt_range;intro a b ha hb hab e;rw[List.mem_range] at ha hb;have h1:=iG.1 (hfn a ha);have h2:=iG.1 (hfn b hb);rw[e] at h1;omega
 have:=nT ts.length _ hn (by
  intro y hy;obtain⟨j,hj,rfl⟩:=List.mem_map.1 hy;rw[List.mem_range] at hj
  exact(iG.1 (hfn j hj)).1)
 simpa using this
theorem GG{k:Nat}(hk:k<qs.length+1):eV ts.length (dQ ts.length qs) k=true:=by
 have hne:∀j,j<qs.length+1→(fV ts.length qs j).length≠0:=by
  intro j hj e;have e':=List.length_eq_zero_iff.1 e;cases j with
  |zero=>have:=FM hf P;rw[e'] at this;cases this
  |succ j=>obtain⟨x,hx⟩:=IW P hord (j:=j) (by omega);rw[e'] at hx;cases hx
 cases k with
 |zero=>
  have h0:=hne 0 (by omega);simp only[eV,oW,BI];simp[h0]
 |succ j=>
  have hj:j<qs.length:=by omega
  have h0:=hne (j+1) (by omega);have hkd:=P.kind _ (gE hj);have hk1:((oQ ts.length qs j).kind==1)=false:=by
   simp only[oQ,beq_eq_false_iff_ne,ne_eq];omega
  have hp1:((oQ ts.length qs j).parent== -1)=false:=by
   simp only[oQ,beq_eq_false_iff_ne,ne_eq];omega
  have hb:(oQ ts.length qs j).blocks=fV ts.length qs (j+1):=rfl;have hk3:(((dQ ts.length qs).getD (oQ ts.length qs j).parent.toNat fC).kind==3)=false:=by
   simp only[beq_eq_false_iff_ne,ne_eq];have hpe:(oQ ts.length qs j).parent.toNat=dF qs (cI (qs.getD j aE)) j:=by simp[oQ]
   rw[hpe];cases e:dF qs (cI (qs.getD j aE)) j with
   |zero=>rw[oW];simp
   |succ i=>
    obtain⟨h1,h2⟩:=lC qs _ j i e;rw[mH _ (by omega)];intro h3;exact P.noreg _ (gE (show i<qs.length by omega)) h3 _ (gE hj) (yZ P hord h2 hj h1 (KJ hf P hj))
  simp only[eV,mH _ hj,hk1,hp1,hb,hk3,BI];simp[h0]
theorem MD{k:Nat}(hk:k<qs.length+1):dC ts ((dQ ts.length qs).getD k fC) (iH (dQ ts.length qs) k)=true:=by
 have hl:=(bQ hf).2.1
 cases k with
 |zero=>
  rw[RT hl.2,oW]
  have hr:=rP (ts:=ts) (bs:=fV ts.length qs 0) (eJ hl.2) (by
   intro z hz;obtain⟨x,rfl⟩:=sS hz
   exact P.ring1 x (PR.1 hz).2)
  simp[dC,hr]
 |succ j=>
  have hj:j<qs.length:=by omega
  have hm:=gE hj;rw[YG hf P hord hj,mH _ hj];have hc:cA (qs.getD j aE).s:=fun y hy=>by have:=P.low _ hm y hy;omega
  have hk:(oQ ts.length qs j).kind=(qs.getD j aE).kind:=rfl;have hb:(oQ ts.length qs j).blocks=fV ts.length qs (j+1):=rfl;have hone:(qs.getD j aE).kind≠3→nG (oQ ts.length qs j) (aM ts (qs.getD j aE).s)=true∧(aM ts (qs.getD j aE).s).headD 0=(qs.getD j aE).entry.toNat:=by
   intro h3;obtain⟨_,h4,h5,h6⟩:=P.ent _ hm h3;have h7:=(uU P hord hj).2 ⟨h5,h6⟩;rw[h4];refine⟨?_,rfl⟩;simp only[nG,hb,List.length_singleton,List.headD_cons,Bool.and_eq_true,List.contains_iff_mem];exact⟨rfl,h7⟩
  have htog:(qs.getD j aE).kind≠4→cU ts (qs.getD j aE).s=true:=fun h4=>(vW hc).2 (P.tog _ hm h4);rcases P.kind _ hm with h|h|h
  ·obtain⟨h1,h2⟩:=hone (by omega)
   have hr:=rP (ts:=ts) (bs:=fV ts.length qs (j+1)) (jQ hc (qs.getD j aE).entry.toNat) (by
    intro z hz;obtain⟨x,rfl⟩:=sS hz;have h5:=(uU P hord hj).1 hz
    exact P.ring2 _ hm h x h5.1 h5.2)
   simp only[dC,hk,h,hb,h1,h2,htog (by omega),hr];rfl
  ·have h1:=P.ent3 _ hm h;simp only[dC,hk,h,htog (by omega),h1];rfl
  ·obtain⟨h1,h2⟩:=hone (by omega)
   have hr:=rP (ts:=ts) (bs:=fV ts.length qs (j+1)) hc (by
    intro z hz;obtain⟨x,rfl⟩:=sS hz;have h5:=(uU P hord hj).1 hz
    exact P.ring4 _ hm h x h5.1 h5.2)
   simp only[dC,hk,h,hb,h1,hr];rfl
theorem LE:cZ ts (dQ ts.length qs)=true:=by
 have hl:=(bQ hf).2.1
 have hlen:=EP hf P hord
 have hz:=iG.1 (FM hf P:((0:Nat):Int)∈_)
 have hown:lU (dQ ts.length qs) ts.length=true:=by
  simp only[lU,List.all_eq_true,List.mem_range];intro b hb;rw[KB _ hb];rfl
 have h0:(rA (dQ ts.length qs) 0==0)=true:=by
  rw[rA,KB _ (by omega),hz.2];rfl
 simp only[cZ,hf,mL,hown,h0,Bool.and_eq_true,decide_eq_true_eq,List.all_eq_true,List.mem_range,Bool.true_and,Bool.and_true]
 rw[eT]
 exact⟨by omega,fun k hk=>⟨GG hf P hord hk,MD hf P hord hk⟩⟩
end
end

section
def bE(ps:List aI)(p:aI):Nat:=(ps.filter fun x=>cS p.s x.s).length
theorem iL{ps qs:List aI}(h:ps.Perm qs)(p:aI):bE ps p=bE qs p:=(h.filter _).length_eq
theorem BT{α:Type}{f g:α→Bool}:∀(l:List α),(∀x∈l,f x=true→g x=true)→(l.filter f).length≤(l.filter g).length
 | [],_=>by simp
 |a :: l,h=>by
  have ih:=BT l (fun x hx=>h x (by simp[hx]));have ha:=h a (by simp);cases e:f a with
  |true=>simp[List.filter_cons,e,ha e,ih]
  |false=>
   cases e2:g a with
   |true=>simp[List.filter_cons,e,e2];omega
   |false=>simp[List.filter_cons,e,e2,ih]
theorem filter_lt{α:Type}{f g:α→Bool}:∀(l:List α),(∀x∈l,f x=true→g x=true)→(∃x∈l,g x=true∧f x=false)→(l.filter f).length<(l.filter g).length
 | [],_,h=>by obtain⟨x,hx,_⟩:=h;cases hx
 |a :: l,h,hw=>by
  have hs:=BT l (fun x hx=>h x (by simp[hx]));have ha:=h a (by simp);obtain⟨x,hx,h1,h2⟩:=hw;rcases List.mem_cons.1 hx with rfl|hx
  ·simp[List.filter_cons,h1,h2];omega
  ·have ih:=filter_lt l (fun x hx=>h x (by simp[hx])) ⟨x,hx,h1,h2⟩;cases e:f a with
   |true=>simp[List.filter_cons,e,ha e,ih]
   |false=>
    cases e2:g a with
    |true=>simp[List.filter_cons,e,e2];omega
    |false=>simp[List.filter_cons,e,e2,ih]
def zQ(qs:List aI):Prop:=∀i j,i<j→j<qs.length→bE qs (qs.getD i aE)≤bE qs (qs.getD j aE)
theorem AL{ts:List aT}{qs:List aI}(hl:ts.length≤200)(P:gU ts qs)(ho:zQ qs):∀i j,i<j→j<qs.length→¬eK (qs.getD i aE).s (qs.getD j aE).s:=by
 intro i j hij hj hs
 have hcan:∀p∈qs,cA p.s:=fun p hp y hy=>by have:=P.low p hp y hy;omega
 have hi:i<qs.length:=by omega
 have h1:=ho i j hij hj
 have h2:bE qs (qs.getD j aE)<bE qs (qs.getD i aE):=by
  have cj:=hcan _ (gE hj);have ci:=hcan _ (gE hi);refine filter_lt qs ?_ ⟨qs.getD j aE,gE hj,(within_iff ci cj).2 hs,?_⟩
  ·intro x hx h;exact(within_iff ci (hcan x hx)).2 (hs.trans ((within_iff cj (hcan x hx)).1 h))
  ·cases e:cS (qs.getD j aE).s (qs.getD j aE).s with
   |false=>rfl
   |true=>exact((within_iff cj cj).1 e).irrefl.elim
 omega
theorem MR{ts:List aT}(hf:bU ts=true){qs:List aI}(hp:(dR ts).Perm qs)(ho:zQ qs):cZ ts (dQ ts.length qs)=true:=by
 have P:=(lN hf).perm hp
 exact LE hf P (AL (bQ hf).2.1.2 P ho)
end

section
theorem CR{α:Type}(f:Nat→α)(n k:Nat)(z:α)(h:k<n):((List.range n).map f).getD k z=f k:=by
 simp[aBT,h]
theorem pV{ts:List aT}(hf:bU ts=true):(dR ts).length+1≤ts.length:=by
 have hP:=lN hf
 have hl:=(bQ hf).2.1.2
 obtain⟨ms,hp,ho⟩:∃ms:List aI,ms.Perm (dR ts)∧zQ ms:=by
  refine⟨(dR ts).mergeSort (fun p q=>decide (bE (dR ts) p≤bE (dR ts) q)),List.mergeSort_perm _ _,?_⟩;have hs:((dR ts).mergeSort (fun p q=>decide (bE (dR ts) p≤bE (dR ts) q))).Pairwise (fun a b=>decide (bE (dR ts) a≤bE (dR ts) b)=true):=by
   refine List.pairwise_mergeSort ?_ ?_ _
   ·intro a b c h1 h2;simp only[decide_eq_true_eq] at *;omega
   ·intro a b;simp only[Bool.or_eq_true,decide_eq_true_eq];omega
  have hp:=List.mergeSort_perm (dR ts) (fun p q=>decide (bE (dR ts) p≤bE (dR ts) q));generalize (dR ts).mergeSort (fun p q=>decide (bE (dR ts) p≤bE (dR ts) q))=ms at *;intro i j hij hj;have hi:i<ms.length:=by omega
  have h1:=(List.pairwise_iff_getElem.1 hs) i j hi hj hij;simp only[decide_eq_true_eq] at h1;rw[iL hp,iL hp,aBT,aBT,aBU hi,aBU hj];exact h1
 have hP2:=hP.perm hp.symm
 have:=EP hf hP2 (AL hl hP2 ho)
 rw[hp.length_eq] at this
 exact this
theorem JJ{ts:List aT}(hf:bU ts=true):(dZ ts 201 (aL ts.length)).length≤200:=by
 have h1:=pV hf
 have h2:=(bQ hf).2.1.2
 rw[dR,List.length_append] at h1
 omega
theorem LN{ts:List aT}(hf:bU ts=true):∀p∈dZ ts 201 (aL ts.length),cA p.s:=by
 have hl:=(bQ hf).2.1.2
 have F:=xD hf 201 (aL ts.length) (eJ hl) (fun y hy=>by simpa[aL] using hy) (by
  have:(aZ (aL ts.length)).length≤200:=by
   have:=List.length_filter_le (aL ts.length) (List.range 200);simpa[aZ] using this
  omega)
 exact fun p hp y hy=>by have:=(F.ok p hp).low y hy;omega
theorem iI{ts:List aT}{qs:List aI}(hl:ts.length≤200)(P:gU ts qs):∀p∈qs,aZ p.s≠[]∧cI p<200∧p.s (cI p)=true∧cI p<ts.length∧cA p.s:=by
 intro p hp
 have hc:cA p.s:=fun y hy=>by have:=P.low p hp y hy;omega
 obtain⟨y,hy⟩:=P.some p hp
 have h1:=(eG hc y).2 hy
 have h2:aZ p.s≠[]:=fun e=>by rw[e] at h1;cases h1
 have h3:cI p∈aZ p.s:=by
  unfold cI;cases e:aZ p.s with
  |nil=>exact absurd e h2
  |cons b r=>simp
 have h4:=(eG hc _).1 h3
 have h5:=P.low p hp _ h4
 exact⟨h2,by omega,h4,h5.2,hc⟩
def yU(n:Nat)(qs:List aI)(k:Nat):List Int:=(List.range n).map fun x=>((dF qs x k:Nat):Int)
def qW(n:Nat)(qs:List aI)(k:Nat)(dn:List Nat):List Int:=(List.range n).map fun x=>if dn.contains x then ((k+1:Nat):Int) else ((dF qs x k:Nat):Int)
theorem SI(n:Nat)(qs:List aI):yU n qs 0=List.replicate n 0:=by
 apply List.ext_getElem?
 intro i
 simp only[yU,dF,List.getElem?_map,List.getElem?_range',List.getElem?_replicate]
 by_cases h:i<n
 ·simp[h]
 ·simp[h,Nat.not_lt.1 h]
theorem QE(n:Nat)(qs:List aI)(k x:Nat)(h:x<n):(yU n qs k).getD x 0=(dF qs x k:Int):=CR _ _ _ _ h
theorem SG(n:Nat)(qs:List aI)(k:Nat):qW n qs k []=yU n qs k:=by simp[qW,yU]
theorem OA(n:Nat)(qs:List aI)(k:Nat)(dn:List Nat)(x:Nat)(h:x<n):(qW n qs k dn).set x ((k+1:Nat):Int)=qW n qs k (dn++ [x]):=by
 apply List.ext_getElem?
 intro i
 by_cases hi:i<n
 ·rw[List.getElem?_set];by_cases e:x=i
  ·subst e;simp[qW,h]
  ·have e':¬i=x:=fun h=>e h.symm;simp[qW,hi,e,e']
 ·simp[qW,hi,Nat.not_lt.1 hi]
theorem SH(n:Nat)(qs:List aI)(k:Nat)(hc:cA (qs.getD k aE).s):qW n qs k (aZ (qs.getD k aE).s)=yU n qs (k+1):=by
 unfold qW yU
 apply List.map_congr_left
 intro x _
 simp only[List.contains_eq_mem,eG hc,dF]
 cases (qs.getD k aE).s x<;>simp
def DT(qs:List aI)(k:Nat)(bs:List Int):bI:=⟨(qs.getD k aE).kind,(dF qs (cI (qs.getD k aE)) k:Nat),bs⟩
def pD(qs:List aI)(k:Nat):List bI:=⟨1,-1,[]⟩ :: (List.range k).map fun i=>DT qs i []
theorem qI(qs:List aI)(k:Nat):(pD qs k).length=k+1:=by simp[pD]
theorem xY(qs:List aI)(k:Nat):pD qs (k+1)=pD qs k++ [DT qs k []]:=by
 simp[pD,List.range_succ]
def obJ(qs:List aI)(j m:Nat):List Int:=aO ((List.range j).filter fun x=>dF qs x qs.length==m)
def fU(qs:List aI)(j:Nat):List bI:=⟨1,-1,obJ qs j 0⟩ :: (List.range qs.length).map fun i=>DT qs i (obJ qs j (i+1))
theorem xZ(qs:List aI):fU qs 0=pD qs qs.length:=rfl
theorem BE(n:Nat)(qs:List aI):fU qs n=dQ n qs:=rfl
theorem qJ(qs:List aI)(j:Nat):(fU qs j).length=qs.length+1:=by simp[fU]
theorem vJ(qs:List aI)(j m:Nat):obJ qs (j+1) m=obJ qs j m++if dF qs j qs.length=m then [(j:Int)] else []:=by
 unfold obJ aO
 rw[List.range_succ,List.filter_append,List.map_append]
 congr 1
 by_cases h:dF qs j qs.length=m<;>simp[h]
theorem pT(qs:List aI)(j k:Nat)(hk:k≤qs.length):(fU qs j)[k]? =some (if k=0 then ⟨1,-1,obJ qs j 0⟩ else DT qs (k-1) (obJ qs j k)):=by
 cases k with
 |zero=>rfl
 |succ k=>
  have:k<qs.length:=by omega
  simp[fU,this]
theorem yA(qs:List aI)(j:Nat)(t:bI)(h:(fU qs j)[dF qs j qs.length]? =some t):(fU qs j).set (dF qs j qs.length) ⟨t.kind,t.parent,t.blocks++ [(j:Int)]⟩=fU qs (j+1):=by
 have hle:=iE qs j qs.length
 apply List.ext_getElem?
 intro i
 rw[List.getElem?_set]
 by_cases hi:i≤qs.length
 ·by_cases e:dF qs j qs.length=i
  ·subst e;rw[if_pos rfl,if_pos (by rw[qJ];omega)];rw[pT _ _ _ hle] at h;rw[pT _ _ _ hle];injection h with h;subst h
   congr 1
   by_cases h0:dF qs j qs.length=0
   ·rw[if_pos h0,if_pos h0,vJ,if_pos h0]
   ·rw[if_neg h0,if_neg h0,vJ,if_pos rfl];rfl
  ·rw[if_neg e,pT _ _ _ hi,pT _ _ _ hi]
   congr 1
   by_cases h0:i=0
   ·subst h0;rw[if_pos rfl,if_pos rfl,vJ,if_neg e,List.append_nil]
   ·rw[if_neg h0,if_neg h0,vJ,if_neg e,List.append_nil]
 ·have h1:(fU qs j)[i]? =none:=List.getElem?_eq_none (by rw[qJ];omega);have h2:(fU qs (j+1))[i]? =none:=List.getElem?_eq_none (by rw[qJ];omega);rw[h1,h2];rw[if_neg (by omega)]
theorem tE(qs:List aI)(j k:Nat)(t:bI)(h:(fU qs j)[k]? =some t):t.blocks.length≤j:=by
 have hl:∀m,(obJ qs j m).length≤j:=fun m=>by
  have:=List.length_filter_le (fun x=>dF qs x qs.length==m) (List.range j);rw[List.length_range] at this;simpa[obJ,aO] using this
 have hk:k≤qs.length:=by have:=(aBX.1 h).1;rw[qJ] at this;omega
 rw[pT _ _ _ hk] at h
 injection h with h
 subst h
 by_cases h0:k=0
 ·rw[if_pos h0];exact hl 0
 ·rw[if_neg h0];exact hl k
end

section
theorem IV{α:Type}(p:α→Bool):∀l:List α,(l.filter p++l.filter fun a=> !p a).Perm l
 | []=>List.Perm.nil
 |a :: l=>by
  have ih:=IV p l;cases h:p a with
  |true=>simp only[List.filter_cons,h,if_true,List.cons_append];simpa using ih
  |false=>
   simp only[List.filter_cons,h,Bool.not_false,if_true];exact(List.perm_middle).trans (by simpa using ih)
theorem uG{α:Type}(g:α→Nat)(l:List α):∀M,((List.range M).flatMap fun d=>l.filter fun a=>g a==d).Perm (l.filter fun a=>decide (g a<M))
 |0=>by simp
 |M+1=>by
  have ih:=uG g l M;rw[List.range_succ,List.flatMap_append];refine(ih.append_right _).trans ?_;have h:=IV (fun a=>decide (g a<M)) (l.filter fun a=>decide (g a<M+1));refine List.Perm.trans (List.Perm.of_eq ?_) h;simp only[List.flatMap_cons,List.flatMap_nil,List.append_nil,List.filter_filter]
  congr 1
  ·apply List.filter_congr;intro a _;by_cases h1:g a<M
   ·have h2:g a<M+1:=by omega
    simp[h1,h2]
   ·simp[h1]
  ·apply List.filter_congr;intro a _;by_cases h1:g a=M
   ·simp[h1]
   ·by_cases h2:g a<M
    ·simp[h2];omega
    ·have h3:¬g a<M+1:=by omega
     simp[h1,h2,h3]
def tB(L:List aI)(p:aI):Nat:=300*bE L p+cI p
def wP(n:Nat)(L:List aI)(d:Nat):List aI:=(List.range n).flatMap fun b=>L.filter fun p=>bE L p==d&&cI p==b
def tA(n:Nat)(L:List aI):List aI:=(List.range (L.length+1)).flatMap (wP n L)
theorem UB(L:List aI)(p:aI):bE L p≤L.length:=List.length_filter_le _ _
theorem VM{n:Nat}{L:List aI}(hf:∀p∈L,cI p<n)(d:Nat):(wP n L d).Perm (L.filter fun p=>bE L p==d):=by
 have h:=uG cI (L.filter fun p=>bE L p==d) n
 have e1:wP n L d=(List.range n).flatMap fun b=>(L.filter fun p=>bE L p==d).filter fun p=>cI p==b:=by
  unfold wP
  congr 1
  funext b
  rw[List.filter_filter];apply List.filter_congr;intro p _;rw[Bool.and_comm]
 rw[e1]
 refine h.trans (List.Perm.of_eq ?_)
 rw[List.filter_filter]
 apply List.filter_congr
 intro p hp
 simp[hf p hp]
theorem rJ{n:Nat}{L:List aI}(hf:∀p∈L,cI p<n):(tA n L).Perm L:=by
 have h:=uG (bE L) L (L.length+1)
 have h2:(L.filter fun a=>decide (bE L a<L.length+1))=L:=by
  rw[List.filter_eq_self];intro p _;have:=UB L p;simp;omega
 rw[h2] at h
 refine List.Perm.trans ?_ h
 unfold tA
 have key:∀l:List Nat,(l.flatMap (wP n L)).Perm (l.flatMap fun d=>L.filter fun a=>bE L a==d):=by
  intro l
  induction l with
  |nil=>exact List.Perm.refl _
  |cons d l ih=>exact(VM hf d).append ih
 exact key _
theorem QM{n:Nat}{L:List aI}{d:Nat}{p:aI}(h:p∈wP n L d):p∈L∧bE L p=d∧cI p<n:=by
 simp only[wP,List.mem_flatMap,List.mem_range,List.mem_filter,Bool.and_eq_true,beq_iff_eq] at h
 obtain⟨b,hb,h1,h2,h3⟩:=h
 exact⟨h1,h2,by omega⟩
theorem BP{n:Nat}{L:List aI}(hn:n≤300):(tA n L).Pairwise fun p q=>tB L p≤tB L q:=by
 unfold tA
 rw[List.pairwise_flatMap]
 refine⟨fun d _=>?_,?_⟩
 ·unfold wP;rw[List.pairwise_flatMap];refine⟨fun b _=>?_,?_⟩
  ·rw[List.pairwise_iff_getElem];intro i j hi hj _;have h1:=aBZ hi;have h2:=aBZ hj;simp only[List.mem_filter,Bool.and_eq_true,beq_iff_eq] at h1 h2;unfold tB;omega
  ·refine List.Pairwise.imp ?_ (List.pairwise_lt_range (n:=n));intro b1 b2 hb x hx y hy;simp only[List.mem_filter,Bool.and_eq_true,beq_iff_eq] at hx hy;unfold tB;omega
 ·refine List.Pairwise.imp ?_ (List.pairwise_lt_range (n:=L.length+1));intro d1 d2 hd x hx y hy;have h1:=QM hx;have h2:=QM hy;unfold tB;omega
theorem YP{ts:List aT}{L:List aI}(hl:ts.length≤200)(P:gU ts L){p q:aI}(hp:p∈L)(hq:q∈L)(h:tB L p=tB L q):p=q:=by
 have hP:=iI hl P
 obtain⟨_,f1,s1,_,c1⟩:=hP p hp
 obtain⟨_,f2,s2,_,c2⟩:=hP q hq
 have hk:bE L p=bE L q∧cI p=cI q:=by unfold tB at h;omega
 rcases QC P.pw hp hq with h|h|h
 ·exact h
 all_goals
  exfalso;have key:∀a b:aI,a∈L→b∈L→oF a b→bE L a=bE L b→cI a=cI b→a.s (cI a)=true→b.s (cI b)=true→cA a.s→cA b.s→False:=by
   intro a b ha hb hab e1 e2 sa sb ca cb;rcases hab with h|h|h
   ·have:=h _ sa;rw[e2,sb] at this;cases this
   ·have:bE L b<bE L a:=by
     unfold bE;refine filter_lt L (fun x hx hw=>?_) ⟨b,hb,(within_iff ca cb).2 h,?_⟩
     ·have cx:=(hP x hx).2.2.2.2;exact(within_iff ca cx).2 (h.trans ((within_iff cb cx).1 hw))
     ·cases hw:cS b.s b.s with
      |false=>rfl
      |true=>exact absurd ((within_iff cb cb).1 hw) fun h=>h.irrefl
    omega
   ·have:bE L a<bE L b:=by
     unfold bE;refine filter_lt L (fun x hx hw=>?_) ⟨a,ha,(within_iff cb ca).2 h,?_⟩
     ·have cx:=(hP x hx).2.2.2.2;exact(within_iff cb cx).2 (h.trans ((within_iff ca cx).1 hw))
     ·cases hw:cS a.s a.s with
      |false=>rfl
      |true=>exact absurd ((within_iff ca ca).1 hw) fun h=>h.irrefl
    omega
  first
   |exact key p q hp hq h hk.1 hk.2 s1 s2 c1 c2
   |exact key q p hq hp h hk.1.symm hk.2.symm s2 s1 c2 c1
theorem IY{α:Type}(key:α→Nat):∀(l m:List α),l.Perm m→(∀a∈l,∀b∈l,key a=key b→a=b)→l.Pairwise (fun a b=>key a≤key b)→m.Pairwise (fun a b=>key a≤key b)→l=m
 | [],m,h,_,_,_=>(List.nil_perm.1 h).symm
 |a :: l,[],h,_,_,_=>absurd h.length_eq (by simp)
 |a :: l,b :: m,h,hi,h1,h2=>by
  have hab:a=b:=by
   have ha:a∈b :: m:=h.mem_iff.1 (by simp);have hb:b∈a :: l:=h.mem_iff.2 (by simp);refine hi a (by simp) b hb ?_;have q1:=(List.pairwise_cons.1 h1).1;have q2:=(List.pairwise_cons.1 h2).1;have e1:key a≤key b:=by
    rcases List.mem_cons.1 hb with e|hb
    ·rw[e];exact aBV _
    ·exact q1 b hb
   have e2:key b≤key a:=by
    rcases List.mem_cons.1 ha with e|ha
    ·rw[e];exact aBV _
    ·exact q2 a ha
   omega
  subst hab
  congr 1
  exact IY key l m (List.Perm.cons_inv h) (fun x hx y hy=>hi x (by simp[hx]) y (by simp[hy])) (List.pairwise_cons.1 h1).2 (List.pairwise_cons.1 h2).2
theorem ZW{ts:List aT}{L qs:List aI}(hl:ts.length≤200)(P:gU ts L)(hp:L.Perm qs)(hs:∀i j,i<j→j<qs.length→tB qs (qs.getD i aE)≤tB qs (qs.getD j aE)):tA ts.length L=qs:=by
 have hP:=iI hl P
 refine IY (tB L) _ _ ((rJ fun p hq=>(hP p hq).2.2.2.1).trans hp) ?_ (BP (by omega)) ?_
 ·intro a ha b hb;have hm:=fun x=>(rJ (n:=ts.length) (L:=L) fun p hq=>(hP p hq).2.2.2.1).mem_iff (a:=x);exact YP hl P ((hm a).1 ha) ((hm b).1 hb)
 ·rw[List.pairwise_iff_getElem];intro i j hi hj hij;have h:=hs i j hij hj;have e:∀p,tB L p=tB qs p:=fun p=>by unfold tB;rw[iL hp]
  rw[e,e];simpa[aBT,hi,hj] using h
def uQ(qs:List aI)(k:Nat):Nat→Nat
 |0=>0
 |i+1=>if cS (qs.getD k aE).s (qs.getD i aE).s||eqS (qs.getD i aE).s (qs.getD k aE).s then i+1 else uQ qs k i
theorem VS{ts:List aT}{qs:List aI}(hl:ts.length≤200)(P:gU ts qs)(ho:∀i j,i<j→j<qs.length→¬eK (qs.getD i aE).s (qs.getD j aE).s){k:Nat}(hk:k<qs.length):∀j,j≤k→uQ qs k j=dF qs (cI (qs.getD k aE)) j:=by
 have hP:=iI hl P
 have hmem:∀{i},i<qs.length→qs.getD i aE∈qs:=fun h=>by simp[aBT,h]
 obtain⟨_,_,hkk,_,ck⟩:=hP _ (hmem hk)
 intro j
 induction j with
 |zero=>intro _;rfl
 |succ i ih=>
  intro hi;have ci:=(hP _ (hmem (i:=i) (by omega))).2.2.2.2;have hpw:oF (qs.getD i aE) (qs.getD k aE):=by
   have:=(List.pairwise_iff_getElem.1 P.pw) i k (by omega) hk (by omega);simpa[aBT,hk,show i<qs.length by omega] using this
  rw[uQ,dF,ih (by omega)];by_cases hs:(qs.getD i aE).s (cI (qs.getD k aE))=true
  ·rw[if_pos hs,if_pos];rcases hpw with h|h|h
   ·rw[h _ hs] at hkk;cases hkk
   ·exact absurd h (ho i k (by omega) hk)
   ·rw[Bool.or_eq_true];exact .inl ((within_iff ck ci).2 h)
  ·rw[if_neg hs,if_neg];intro hw;apply hs;simp only[Bool.or_eq_true] at hw;rcases hw with hw|hw
   ·exact((within_iff ck ci).1 hw).1 _ hkk
   ·exact((qG ci ck).1 hw▸hkk)
end

section
theorem aBE{a b:Nat→Bool}{i:Nat}(hi:i<200)(ha:a i=true)(hb:b i=false):cS a b=false:=by
 have:(aZ a).all b=false:=by
  rw[List.all_eq_false];exact⟨i,by simp[aZ,hi,ha],by simp[hb]⟩
 rw[cS,this];rfl
theorem UV{a b:Nat→Bool}(h:∀i,i<200→a i=true→b i=true):cS a b=decide ((aZ a).length<(aZ b).length):=by
 have h1:(aZ a).all b=true:=by
  rw[List.all_eq_true];intro x hx;simp only[aZ,List.mem_filter,List.mem_range] at hx;exact h x hx.1 hx.2
 rw[cS,h1,Bool.true_and]
 by_cases he:eqS a b=true
 ·have h2:∀k,k<200→a k=b k:=fun k hk=>by
   simp only[eqS,List.all_eq_true,List.mem_range,beq_iff_eq] at he;exact he k hk
  have h3:aZ a=aZ b:=by
   unfold aZ;apply List.filter_congr;intro x hx;exact h2 x (List.mem_range.1 hx)
  rw[he,h3];simp
 ·have h4:∃k,k<200∧a k≠b k:=by
   apply aCF;intro hn;apply he;simp only[eqS,List.all_eq_true,List.mem_range,beq_iff_eq];intro k hk;apply aCF;intro hne;exact hn ⟨k,hk,hne⟩
  obtain⟨k,hk,hne⟩:=h4;have he':eqS a b=false:=by simpa using he
  have hak:a k=false:=by
   cases hx:a k with
   |false=>rfl
   |true=>exact absurd (hx.trans (h k hk hx).symm) hne
  have hbk:b k=true:=by
   cases hx:b k with
   |true=>rfl
   |false=>exact absurd (hak.trans hx.symm) hne
  have hlt:(aZ a).length<(aZ b).length:=filter_lt (List.range 200) (fun x hx=>h x (List.mem_range.1 hx)) ⟨k,List.mem_range.2 hk,hbk,hak⟩;rw[he'];simp[hlt]
theorem YM{a b:Nat→Bool}(ca:cA a)(cb:cA b)(h:eK a b):(aZ a).length<(aZ b).length:=by
 have h1:=(within_iff ca cb).2 h
 rw[UV fun i _ hi=>h.1 i hi] at h1
 simpa using h1
def tW(n:Nat)(L:List aI)(b j:Nat)(best:Int):Prop:=(best= -1∧bP n (L.take j) b=eP n)∨∃i:Nat,best=i∧i<j∧L.getD i aE=bP n (L.take j) b∧(L.getD i aE).s b=true
theorem tW.start(n:Nat)(L:List aI)(b:Nat):tW n L b 0 (-1):=.inl ⟨rfl,by simp[bP]⟩
theorem uD(L:List aI){j:Nat}(hj:j<L.length):L.take (j+1)=L.take j++ [L.getD j aE]:=by
 rw[List.take_add_one,aBU hj,aBT,aBU hj];rfl
theorem uF(n:Nat)(L:List aI)(b:Nat){j:Nat}(hj:j<L.length):bP n (L.take (j+1)) b=gA b (bP n (L.take j) b) (L.getD j aE):=by
 rw[uD L hj,bP,List.foldl_append];rfl
section
variable {ts:List aT} {L:List aI} (hl:ts.length≤200) (F:tZ ts (aL ts.length) L) {b j:Nat} {best:Int} (hj:j<L.length)
include hl F hj
omit F hl in
theorem tW.skip(h:tW ts.length L b j best)(hp:(L.getD j aE).s b=false):tW ts.length L b (j+1) best:=by
 have e:bP ts.length (L.take (j+1)) b=bP ts.length (L.take j) b:=by rw[uF _ _ _ hj,gA,hp];rfl
 rcases h with ⟨h1,h2⟩|⟨i,h1,h2,h3,h4⟩
 ·exact .inl ⟨h1,by rw[e];exact h2⟩
 ·exact .inr ⟨i,h1,by omega,by rw[e];exact h3,h4⟩
theorem tW.less(h:tW ts.length L b j best)(hp:(L.getD j aE).s b=true):(∀i:Nat,best=i→(aZ (L.getD j aE).s).length<(aZ (L.getD i aE).s).length)∧tW ts.length L b (j+1) (j:Int):=by
 have hm:L.getD j aE∈L:=by simp[aBT,hj]
 have cj:=mY F hm hl
 rcases h with ⟨h1,h2⟩|⟨i,h1,h2,h3,h4⟩
 ·have hw:eK (L.getD j aE).s (eP ts.length).s:=by
   refine⟨fun y hy=>?_,0,?_,?_⟩
   ·have:=((F.ok _ hm).low y hy).2;simpa[eP,aL] using this
   ·obtain⟨y,hy⟩:=(F.ok _ hm).some;have:=(F.ok _ hm).low y hy;simp[eP,aL];omega
   ·cases h0:(L.getD j aE).s 0 with
    |false=>rfl
    |true=>have:=(F.ok _ hm).low 0 h0;omega
  refine⟨fun i e=>by omega,.inr ⟨j,rfl,by omega,?_,hp⟩⟩;rw[uF _ _ _ hj,gA,hp,h2,show cS (L.getD j aE).s (eP ts.length).s=true from (within_iff cj (eJ hl)).2 hw];rfl
 ·have him:L.getD i aE∈L:=by simp[aBT,show i<L.length by omega]
  have ci:=mY F him hl;have hR:UL (L.getD i aE) (L.getD j aE):=by
   have:=(List.pairwise_iff_getElem.1 F.pw) i j (by omega) hj h2;simpa[aBT,hj,show i<L.length by omega] using this
  have hs:eK (L.getD j aE).s (L.getD i aE).s:=by
   rcases hR with h|⟨hk,h⟩
   ·have:=h b h4;rw[hp] at this;cases this
   ·rcases(F.ok _ him).ent with ⟨h5,_⟩|⟨_,_,h5⟩
    ·rw[hk] at h5;cases h5
    ·have:(L.getD i aE).entry.toNat∈aM ts (L.getD i aE).s:=by rw[h5];simp
     simp only[aM,List.mem_filter,aZ] at this;refine⟨fun y hy=>(h y hy).1,_,this.1.2,?_⟩;cases h0:(L.getD j aE).s (L.getD i aE).entry.toNat with
     |false=>rfl
     |true=>exact absurd rfl (h _ h0).2
  refine⟨fun i' e=>?_,.inr ⟨j,rfl,by omega,?_,hp⟩⟩
  ·have:i'=i:=by omega
   subst this;exact YM cj ci hs
  ·rw[uF _ _ _ hj,gA,hp,←h3,(within_iff cj ci).2 hs];rfl
end
theorem tW.done{n:Nat}{L:List aI}{b:Nat}{best:Int}(h:tW n L b L.length best):(best= -1∧bP n L b=eP n)∨∃i:Nat,best=i∧i<L.length∧L.getD i aE=bP n L b:=by
 rcases h with ⟨h1,h2⟩|⟨i,h1,h2,h3,_⟩
 ·exact .inl ⟨h1,by rwa [List.take_length] at h2⟩
 ·exact .inr ⟨i,h1,h2,by rwa [List.take_length] at h3⟩
def brV(ts:List aT)(l:List Nat):Bool:=match l.getLast? with
 |none=>false
 |some x=>(nx ts x).length==2
theorem XQ(ts:List aT)(l:List Nat)(x:Nat):brV ts (l++ [x])=((nx ts x).length==2):=by simp[brV]
theorem UX{ts:List aT}{l:List Nat}(h:l.length=1):brV ts l=((nx ts (l.headD 0)).length==2):=by
 obtain⟨x,rfl⟩:=List.length_eq_one_iff.1 h
 rfl
theorem VQ{ts:List aT}(hg:fS ts=true):pv ts 0= []:=by
 cases h:pv ts 0 with
 |nil=>rfl
 |cons x l=>
  have h1:x∈pv ts 0:=by rw[h];simp
  have:=(lJ hg ((nJ ts 0 x).1 h1)).1;omega
theorem PF{ts:List aT}(hg:fS ts=true)(L:List aI):eX ts L 0=none:=by
 unfold eX
 rw[if_neg]
 rintro⟨h,_⟩
 rw[VQ hg] at h
 cases h
def stD(ts:List aT)(f:Nat)(inn:Nat→Bool)(dn:List Nat):(Nat→Bool)×List aI:=dn.foldl (lF ts (dZ ts f) inn) (inn,[])
def nF(inn:Nat→Bool)(b:Nat):List Nat:=(List.range b).filter inn
def ND(ts:List aT)(f:Nat)(inn:Nat→Bool)(b:Nat):Nat→Bool:=(stD ts f inn (nF inn b)).1
def lV(ts:List aT)(f:Nat)(inn:Nat→Bool)(b:Nat):List aI:=(stD ts f inn (nF inn b)).2
def pB(ts:List aT)(f:Nat)(inn:Nat→Bool)(b:Nat):Nat→Bool:=fun x=>inn x&& !ND ts f inn b x
theorem AG(ts:List aT)(f:Nat)(inn:Nat→Bool)(dn:List Nat)(x:Nat):stD ts f inn (dn++ [x])=lF ts (dZ ts f) inn (stD ts f inn dn) x:=by rw[stD,List.foldl_append];rfl
theorem FO{inn:Nat→Bool}{b:Nat}(h:inn b=false):nF inn (b+1)=nF inn b:=by simp[nF,List.range_succ,h]
theorem AF{inn:Nat→Bool}{b:Nat}(h:inn b=true):nF inn (b+1)=nF inn b++ [b]:=by simp[nF,List.range_succ,h]
theorem VD{inn:Nat→Bool}{n:Nat}(hn:n≤200)(h:∀y,inn y=true→y<n):nF inn n=aZ inn:=by
 unfold nF aZ
 have key:∀k,(List.range (n+k)).filter inn=(List.range n).filter inn:=by
  intro k
  induction k with
  |zero=>rfl
  |succ k ih=>
   rw[←Nat.add_assoc,List.range_succ,List.filter_append,ih];cases hx:inn (n+k) with
   |false=>simp[hx]
   |true=>have:=h _ hx;omega
 have:=key (200-n)
 rw[show n+(200-n)=200 by omega] at this
 exact this.symm
theorem PE(ts:List aT)(f:Nat)(inn:Nat→Bool):pB ts f inn 0=fun _=>false:=by funext x;simp[pB,ND,stD,nF]
theorem QH{ts:List aT}{f:Nat}{inn:Nat→Bool}(hn:ts.length≤200)(h:∀y,inn y=true→y<ts.length):lV ts f inn ts.length=dZ ts (f+1) inn:=by
 rw[lV,VD hn h];rfl
theorem RQ(ts:List aT)(rec:(Nat→Bool)→List aI)(inn:Nat→Bool)(st:(Nat→Bool)×List aI)(x:Nat):st.2.length≤(lF ts rec inn st x).2.length:=by
 unfold lF
 split
 ·split<;>simp
 ·exact aBV _
theorem PX(ts:List aT)(f:Nat)(inn:Nat→Bool):∀(r dn:List Nat),(stD ts f inn dn).2.length≤(stD ts f inn (dn++r)).2.length
 | [],dn=>by simp
 |x :: r,dn=>by
  rw[show dn++x :: r=(dn++ [x])++r by simp];refine aCD ?_ (PX ts f inn r (dn++ [x]));rw[AG];exact RQ _ _ _ _ _
theorem YI{ts:List aT}{f:Nat}{inn:Nat→Bool}(hn:ts.length≤200)(h:∀y,inn y=true→y<ts.length){b:Nat}(hb:b≤ts.length):(lV ts f inn b).length≤(dZ ts (f+1) inn).length:=by
 rw[←QH hn h]
 obtain⟨k,e⟩:∃k,ts.length=b+k:=⟨ts.length-b,by omega⟩
 rw[e]
 clear e hb
 unfold lV
 have:∃r,nF inn (b+k)=nF inn b++r:=by
  induction k with
  |zero=>exact⟨[],by simp⟩
  |succ k ih=>
   obtain⟨r,hr⟩:=ih;rw[←Nat.add_assoc];cases hx:inn (b+k) with
   |false=>exact⟨r,by rw[FO hx,hr]⟩
   |true=>exact⟨r++ [b+k],by rw[AF hx,hr];simp⟩
 obtain⟨r,hr⟩:=this
 rw[hr]
 exact PX ts f inn r _
section
variable {ts:List aT} {f:Nat} {inn:Nat→Bool} {b:Nat}
theorem SS(hc:cA inn)(h:inn b=false∨pB ts f inn b b=true∨bL (nx ts) inn b b=false):lV ts f inn (b+1)=lV ts f inn b∧pB ts f inn (b+1)=pB ts f inn b:=by
 cases hb:inn b with
 |false=>exact⟨by simp only[lV,FO hb],by funext x;simp only[pB,ND,FO hb]⟩
 |true=>
  have hst:stD ts f inn (nF inn (b+1))=stD ts f inn (nF inn b):=by
   rw[AF hb,AG,lF,if_neg];intro hn;rw[Bool.and_eq_true] at hn;rcases h with h|h|h
   ·rw[hb] at h;cases h
   ·have h3:ND ts f inn b b=true:=hn.1;rw[pB,h3] at h;simp at h
   ·have hr:=((eY hc b b).1 hn.2).2.1;rw[(fG hc b b).2 ⟨hb,hr⟩] at h;cases h
  exact⟨by simp only[lV,hst],by funext x;simp only[pB,ND,hst]⟩
theorem JW(hc:cA inn)(x:Nat):bT ts b inn x=(bL (nx ts) inn b x&&bL (nx ts) inn x b):=by
 rw[Bool.eq_iff_iff,eY hc,Bool.and_eq_true,fG hc,fG hc]
 constructor
 ·rintro⟨h1,h2,h3⟩;exact⟨⟨h1,h2⟩,h2.inn,h3⟩
 ·rintro⟨⟨h1,h2⟩,_,h3⟩;exact⟨h1,h2,h3⟩
theorem OG(hc:cA inn)(hb:inn b=true)(hd:pB ts f inn b b=false)(hw:bL (nx ts) inn b b=true):
  (∀x,pB ts f inn (b+1) x=(pB ts f inn b x||bT ts b inn x))∧
  lV ts f inn (b+1)=(if 1<(aM ts (bT ts b inn)).length then lV ts f inn b++ [⟨bT ts b inn,3,-1⟩]
   else lV ts f inn b++⟨bT ts b inn,2,(((aM ts (bT ts b inn)).headD 0:Nat):Int)⟩ :: dZ ts f (bW (bT ts b inn) ((aM ts (bT ts b inn)).headD 0))):=by
 have hl:ND ts f inn b b=true:=by
  rw[pB,hb,Bool.true_and] at hd;simpa using hd
 have hk:bT ts b inn b=true:=by rw[JW hc,hw];rfl
 have hst:stD ts f inn (nF inn (b+1))=lF ts (dZ ts f) inn (stD ts f inn (nF inn b)) b:=by rw[AF hb,AG]
 have hl2:(stD ts f inn (nF inn b)).1 b=true:=hl
 have hst2:stD ts f inn (nF inn (b+1))=(if 1<(aM ts (bT ts b inn)).length then (iA (stD ts f inn (nF inn b)).1 (bT ts b inn),(stD ts f inn (nF inn b)).2++ [⟨bT ts b inn,3,-1⟩])
   else (iA (stD ts f inn (nF inn b)).1 (bT ts b inn),(stD ts f inn (nF inn b)).2++⟨bT ts b inn,2,(((aM ts (bT ts b inn)).headD 0:Nat):Int)⟩ :: dZ ts f (bW (bT ts b inn) ((aM ts (bT ts b inn)).headD 0)))):=by
  rw[hst,lF,hl2,hk,Bool.true_and,if_pos rfl]
 have h1:(stD ts f inn (nF inn (b+1))).1=iA (stD ts f inn (nF inn b)).1 (bT ts b inn):=by rw[hst2];split<;>rfl
 refine⟨fun x=>?_,?_⟩
 ·simp only[pB,ND,h1,iA];cases hx:bT ts b inn x with
  |true=>
   have:=((eY hc b x).1 hx).2.1.inn;simp[this]
  |false=>simp
 ·unfold lV;rw[hst2]
  split<;>rfl
theorem WQ(hf:bU ts=true)(hc:cA inn){y:Nat}(hy:bT ts b inn y=true):1≤y∧y<ts.length:=by
 obtain⟨x,_,hx⟩:=qL ((eY hc b y).1 hy).2.1
 have:=lJ (bQ hf).1 hx
 omega
end
end

section
section
variable {ts:List aT} {L:List aI} (hl:ts.length≤200) (P:gU ts L)
include hl P
theorem YW{i k:Nat}(hi:i<L.length)(hk:k<L.length)(h:eqS (L.getD i aE).s (L.getD k aE).s=true):i=k:=by
 have hP:=iI hl P
 have hmem:∀{i},i<L.length→L.getD i aE∈L:=fun h=>by simp[aBT,h]
 obtain⟨_,_,s1,_,c1⟩:=hP _ (hmem hi)
 obtain⟨_,_,s2,_,c2⟩:=hP _ (hmem hk)
 have he:=(qG c1 c2).1 h
 apply aCF
 intro hne
 have key:∀a b,a<b→b<L.length→(L.getD a aE).s=(L.getD b aE).s→False:=by
  intro a b hab hb e;have hpw:oF (L.getD a aE) (L.getD b aE):=by
   have:=(List.pairwise_iff_getElem.1 P.pw) a b (by omega) hb hab;simpa[aBT,hb,show a<L.length by omega] using this
  obtain⟨_,_,sa,_,_⟩:=hP _ (hmem (i:=a) (by omega));rcases hpw with h|h|h
  ·have h1:=h _ sa;rw[←e,sa] at h1;cases h1
  ·rw[e] at h;exact h.irrefl
  ·rw[e] at h;exact h.irrefl
 rcases Nat.lt_or_ge i k with h1|h1
 ·exact key i k h1 hk he
 ·exact key k i (by omega) hi he.symm
end
def lE(n:Nat)(L:List aI)(d b k:Nat):List aI:=(List.range d).flatMap (wP n L)++((List.range b).flatMap (fun b=>L.filter fun p=>bE L p==d&&cI p==b)++(L.take k).filter fun p=>bE L p==d&&cI p==b)
theorem OC(n:Nat)(L:List aI):lE n L 0 0 0= []:=rfl
theorem ZX{n:Nat}{L:List aI}{d b k:Nat}(hk:k<L.length):lE n L d b (k+1)=lE n L d b k++(if bE L (L.getD k aE)=d∧cI (L.getD k aE)=b then [L.getD k aE] else []):=by
 unfold lE
 rw[uD L hk,List.filter_append,←List.append_assoc,←List.append_assoc,←List.append_assoc]
 congr 1
 generalize L.getD k aE=x
 by_cases h:bE L x=d∧cI x=b
 ·rw[if_pos h];simp[h.1,h.2]
 ·rw[if_neg h];by_cases h1:bE L x=d
  ·have h2:cI x≠b:=fun e=>h ⟨h1,e⟩;simp[h2]
  ·simp[h1]
theorem ZZ(n:Nat)(L:List aI)(d b:Nat):lE n L d b L.length=lE n L d (b+1) 0:=by
 unfold lE
 rw[List.take_length,List.range_succ,List.flatMap_append]
 simp
theorem ZY(n:Nat)(L:List aI)(d:Nat):lE n L d n 0=lE n L (d+1) 0 0:=by
 unfold lE
 rw[List.range_succ (n:=d),List.flatMap_append]
 simp[wP]
theorem VW(n:Nat)(L:List aI):lE n L (L.length+1) 0 0=tA n L:=by simp[lE,tA]
theorem VV{n:Nat}{L:List aI}(hf:∀p∈L,cI p<n){d b k:Nat}(hd:d≤L.length)(hb:b<n)(hk:k≤L.length):(lE n L d b k).length≤L.length:=by
 have h1:=(rJ hf).length_eq
 rw[←h1]
 have pre:∀{f:Nat→List aI} {m M:Nat},m≤M→∃r,(List.range M).flatMap f=(List.range m).flatMap f++r:=by
  intro f m M h;obtain⟨q,rfl⟩:=Nat.exists_eq_add_of_le h;exact⟨_,by rw[List.range_add,List.flatMap_append]⟩
 obtain⟨r1,e1⟩:=pre (f:=wP n L) (m:=d+1) (M:=L.length+1) (by omega)
 obtain⟨r2,e2⟩:=pre (f:=fun b=>L.filter fun p=>bE L p==d&&cI p==b) (m:=b+1) (M:=n) (by omega)
 have e3:tA n L=(List.range d).flatMap (wP n L)++(List.range (b+1)).flatMap (fun b=>L.filter fun p=>bE L p==d&&cI p==b)++r2++r1:=by
  rw[tA,e1,List.range_succ (n:=d),List.flatMap_append];simp only[List.flatMap_cons,List.flatMap_nil,List.append_nil];rw[wP,e2];simp
 have e4:((L.take k).filter fun p=>bE L p==d&&cI p==b).length≤(L.filter fun p=>bE L p==d&&cI p==b).length:=by
  have:L.take k++L.drop k=L:=List.take_append_drop k L;have h:=congrArg (fun l=>(l.filter fun p=>bE L p==d&&cI p==b).length) this;simp only[List.filter_append,List.length_append] at h;omega
 rw[e3,lE,List.range_succ (n:=b),List.flatMap_append]
 simp only[List.length_append,List.flatMap_cons,List.flatMap_nil,List.append_nil]
 omega
end

section
def NE:List aT:= [⟨1,0,1,0⟩,⟨2,1,1,2⟩,⟨3,0,0,0⟩]
def awL:List bI:= [⟨1,-1,[0,2]⟩,⟨2,0,[1]⟩]
theorem ZG:bU NE=true:=by decide +kernel
theorem XT:cZ NE awL=true:=by decide +kernel
end

section
theorem XU:(dR NE).length=1:=by decide +kernel
theorem XW:dQ 3 (dR NE)=awL:=by rfl
theorem PL{qs:List aI}(h:(dR NE).Perm qs):dQ NE.length qs=awL:=by
 obtain⟨p,hp⟩:=List.length_eq_one_iff.1 XU
 rw[hp] at h
 have:=List.perm_singleton.1 h.symm
 subst this
 rw[←hp]
 exact XW
theorem aAJ:(fK awL 0).length=3:=by decide +kernel
end

section
theorem LF{ts:List aT}{l:List bI}(h:cZ ts l=true):bU ts=true∧l.length≤200∧cD l=true∧lU l ts.length=true∧rA l 0=0∧∀k,k<l.length→eV ts.length l k=true∧dC ts (l.getD k fC) (iH l k)=true:=by
 simp only[cZ,Bool.and_eq_true,decide_eq_true_eq,beq_iff_eq,List.all_eq_true,List.mem_range] at h
 obtain⟨⟨⟨⟨⟨h1,h2⟩,h3⟩,h4⟩,h5⟩,h6⟩:=h
 exact⟨h1,h2,h3,h4,h5,h6⟩
theorem LA{n:Nat}{l:List bI}{k:Nat}(h:eV n l k=true):(k=0↔(l.getD k fC).kind=1)∧(k=0↔(l.getD k fC).parent= -1)∧(l.getD k fC).blocks≠[]∧(0<k→(l.getD (l.getD k fC).parent.toNat fC).kind≠3)∧iN n (l.getD k fC).blocks=true:=by
 simp only[eV,Bool.and_eq_true,Bool.not_eq_true',Bool.or_eq_false_iff] at h
 obtain⟨⟨⟨⟨h1,h2⟩,h3⟩,h4⟩,h5⟩:=h
 refine⟨?_,?_,?_,?_,h5⟩
 ·have h6:(k==0)=((l.getD k fC).kind==1):=by simpa using h1
  rw[Bool.eq_iff_iff] at h6;simpa using h6
 ·have h6:(k==0)=((l.getD k fC).parent== -1):=by simpa using h2
  rw[Bool.eq_iff_iff] at h6;simpa using h6
 ·intro e;rw[e] at h3;simp at h3
 ·intro hk e;rw[e] at h4;simp[hk] at h4
theorem MU{ts:List aT}{l:List bI}(h:cZ ts l=true){k:Nat}(hk:k<l.length):1≤(eW l k).length:=by
 have hs:=(LA ((LF h).2.2.2.2.2 k hk).1).2.2.1
 cases e:eW l k with
 |nil=>exact absurd e hs
 |cons x r=>simp
end
end Go.Proofs.YtblhmdhfhaencaaGreat
