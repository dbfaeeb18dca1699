/-
 Edges,plain:the ways out of blocks,one by one. No program in sight.
-/
import Derived.Test.YtchdkjenhppleaaGreatA0
import Derived.Test.YtchdkjenhppleaaGreatTQ
import Derived.Test.YtchdkjenhppleaaGreatRows
namespace Go.Proofs.YtchdkjenhppleaaGreat
set_option linter.unusedSimpArgs false
set_option linter.unusedVariables false
set_option linter.unusedSectionVars false
set_option maxRecDepth 100000
set_option maxHeartbeats 40000000
section
structure gQ where
 fr:Int
 arm:Int
 «to» :Int
deriving DecidableEq
def qW(b:Nat):Nat->List Int->List gQ
 |_,[]=> []
 |i,x :: l=>⟨b,i,x⟩ :: qW b (i+1) l
def sX(ts:List fC)(b:Nat):List gQ:=qW b 0 (toD (ts.getD b kI))
def gV(ts:List fC)(b:Nat):List gQ:=(List.range' b (ts.length-b)).flatMap (sX ts)
def sP(ts:List fC):List gQ:=gV ts 0
theorem FY(ts:List fC)(b:Nat)(h:b<ts.length):gV ts b=sX ts b++gV ts (b+1):=by
 rw[gV,show ts.length-b=(ts.length-(b+1))+1 by omega,List.range'_succ,dw]
 rfl
theorem GT(ts:List fC)(b:Nat)(h:ts.length<=b):gV ts b= []:=by
 rw[gV,show ts.length-b=0 by omega];rfl
theorem JV(b:Nat):∀(l:List Int) (i:Nat),(qW b i l).length=l.length
 | [],i=>rfl
 |x :: l,i=>by simp[qW,JV b l (i+1)]
theorem QH(ts:List fC)(b:Nat):(sX ts b).length<=2:=by rw[sX,JV];exact sS _
theorem FK(ts:List fC):(sP ts).length<=2*ts.length:=by
 have key:∀n b,((List.range' b n).flatMap (sX ts)).length<=2*n:=by
  intro n
  induction n with
  |zero=>intro b;simp
  |succ n ih=>
   intro b;rw[List.range'_succ,dw,aT];have:=ih (b+1);have:=QH ts b;omega
 exact key _ _
end

section
def GI(ts:List fC):List gQ:=if gS ts then sP ts else []
theorem JU(b:Nat):∀(l:List Int) (i:Nat) (x:gQ),x∈qW b i l↔∃j,j<l.length/\x=⟨b,((i+j:Nat):Int),l.getD j 0⟩
 | [],i,x=>by simp[qW]
 |y :: l,i,x=>by
  rw[qW,aH,JU b l (i+1)];constructor
  .rintro(rfl|⟨j,hj,rfl⟩)
   .exact⟨0,by simp,by simp⟩
   .exact⟨j+1,by grind,by grind⟩
  grind
theorem SM(ts:List fC)(x:gQ):x∈sP ts↔∃b j,b<ts.length/\j<(toD (ts.getD b kI)).length/\x=⟨(b:Nat),(j:Nat),(toD (ts.getD b kI)).getD j 0⟩:=by
 simp[sP,gV,sX,JU]
theorem kg{ts:List fC}{x:gQ}(h:x∈GI ts):0<=x.fr/\x.fr<ts.length/\1<=x.to/\x.to<ts.length:=by
 unfold GI at h
 split at h
 case isFalse=>cases h
 case isTrue hf=>
  have hg:qC ts=true:=by simp_all[gS]
  obtain⟨b,j,hb,hj,rfl⟩:=(SM _ _).1 h;have hm:ts.getD b kI∈ts:=by grind
  have:=(((jP ts).1 hg).2 _ hm).2 ((toD (ts.getD b kI)).getD j 0) (by grind)
  grind
end

section
inductive uE (g:Nat->Bool) (nx:Nat->List Nat):Nat->Prop
 |here {b:Nat}:g b=true->uE g nx b
 |step {b c:Nat}:c∈nx b->uE g nx c->uE g nx b
def kJ(g:Nat->Bool)(nx:Nat->List Nat):Nat->Nat->Bool
 |0,b=>g b
 |r+1,b=>kJ g nx r b||(nx b).any (kJ g nx r)
section
variable {g:Nat->Bool} {nx:Nat->List Nat}
theorem AM{r b:Nat}:kJ g nx (r+1) b=true↔kJ g nx r b=true\/∃c∈nx b,kJ g nx r c=true:=by
 simp[kJ]
theorem wY{r:Nat}{b:Nat}(hd:kJ g nx r b=true):kJ g nx (r+1) b=true:=AM.2 (.inl hd)
theorem iq{r k:Nat}(hk:r<=k){b:Nat}(hd:kJ g nx r b=true):kJ g nx k b=true:=by
 induction hk with
 |refl=>omega
 |step _ ih=>exact wY ih
theorem PP{r:Nat}:∀{b:Nat},kJ g nx r b=true->uE g nx b:=by
 induction r with
 |zero=>exact λhd=>.here hd
 |succ r ih=>
  intro b hd;rcases AM.1 hd with hd|⟨c,h2,h3⟩
  .grind
  .exact .step h2 (ih h3)
theorem XP{b:Nat}(hl:uE g nx b):∃r,kJ g nx r b=true:=by
 induction hl with
 |here hg=>exact⟨0,hg⟩
 |step h2 _ ih=>
  obtain⟨r,hr⟩:=ih;exact⟨r+1,AM.2 (.inr ⟨_,h2,hr⟩)⟩
def cnt(n:Nat)(p:Nat->Bool):Nat:=(List.range n).countP p
theorem om(n:Nat)(p:Nat->Bool):cnt n p<=n:=by
 grind[List.countP_le_length,cnt]
theorem yI(n:Nat)(f:Nat->Bool):cnt (n+1) f=cnt n f+if f n=true then 1 else 0:=by
 simp[cnt,cU]
theorem OO{n:Nat}{p q:Nat->Bool}(hpq:∀b,b<n->p b=true->q b=true):cnt n p<=cnt n q:=
 List.countP_mono_left λb hb=>hpq b (by grind)
theorem ZZ{n:Nat}{p q:Nat->Bool}(hpq:∀b,b<n->p b=true->q b=true){b:Nat}(hb:b<n)(h1:p b=false)(h2:q b=true):cnt n p<cnt n q:=by
 induction n with
 |zero=>omega
 |succ n ih=>
  rw[yI n p,yI n q];by_cases hbn:b=n
  .have:=OO (n:=b) (p:=p) (q:=q) λc hc=>hpq c (by omega)
   grind
  grind
theorem OP{n:Nat}{p:Nat->Bool}(h:n<=cnt n p):∀b,b<n->p b=true:=by
 grind[cnt,List.countP_eq_length]
theorem EW(n:Nat)(hnx:∀b,b<n->∀c∈nx b,c<n){r:Nat}(hs:∀b,b<n->kJ g nx (r+1) b=true->kJ g nx r b=true):∀k b,b<n->kJ g nx (r+k) b=true->kJ g nx r b=true:=by
 intro k
 induction k with
 |zero=>simp
 |succ k ih=>
  grind[kJ]
theorem SR(n:Nat)(hnx:∀b,b<n->∀c∈nx b,c<n):∀r,(∀b,b<n->kJ g nx (r+1) b=true->kJ g nx r b=true)\/cnt n g+r<=cnt n (kJ g nx r):=by
 intro r
 induction r with
 |zero=>exact .inr (aw _)
 |succ r ih=>
  by_cases hs:∀b,b<n->kJ g nx (r+1) b=true->kJ g nx r b=true
  .grind[wY,EW]
  .rcases ih with ih|ih
   .grind
   .simp only[Classical.not_forall] at hs;obtain⟨b,hb,h1,h2⟩:=hs;have:=ZZ (n:=n) (p:=kJ g nx r) (q:=kJ g nx (r+1)) (λc _ hc=>wY hc) hb (by grind) h1;omega
theorem yD(n r:Nat)(hr:n<=cnt n g+r)(hnx:∀b,b<n->∀c∈nx b,c<n){b:Nat}(hb:b<n):uE g nx b↔kJ g nx r b=true:=by
 refine⟨λhl=>?_,PP⟩
 obtain⟨k,hk⟩:=XP hl
 by_cases hkr:k<=r
 .grind[iq]
 .rcases SR n hnx r with hs|hs
  .exact EW n hnx hs (k-r) b hb (by rwa [show r+(k-r)=k by omega])
  .exact OP (by omega) b hb
end
end

section
structure OpL where
 rd:List Int
 df:Int
structure BkL where
 ops:List OpL
 nd:List Int
 «to» :List Nat
def lC:List OpL->List Int->Int->Nat
 | [],nd,v=>if v∈nd then 1 else 0
 |o :: l,nd,v=>if v∈o.rd then 1 else if o.df=v then 2 else lC l nd v
def DL(ops:List OpL)(v:Int):Bool:=ops.any λo=>decide (o.df=v)
def jN(bs:List BkL)(b:Nat):BkL:=bs.getD b ⟨[],[],[]⟩
section
variable (bs:List BkL)
def ph:Prop:=∀b,b<bs.length->∀c∈(jN bs b).to,c<bs.length
def IA(c:Nat):List Nat:=(List.range bs.length).filter λp=>decide (c∈(jN bs p).to)
theorem sH(c p:Nat):p∈IA bs c↔p<bs.length/\c∈(jN bs p).to:=by simp[IA]
def wK(b:Nat):Prop:=uE (λb=>decide (b=0)) (IA bs) b
def UH(ps:List Int)(v:Int)(b:Nat):Bool:=decide (b=0)&& !decide (v∈ps)
def UG(v:Int)(c:Nat):List Nat:=(IA bs c).filter λp=> !DL (jN bs p).ops v
def wL(ps:List Int)(v:Int)(b:Nat):Prop:=uE (UH ps v) (UG bs v) b
theorem DR:∀b,b<bs.length->∀c∈IA bs b,c<bs.length:=λb _ c hc=>((sH bs b c).1 hc).1
theorem NU(v:Int):∀b,b<bs.length->∀c∈UG bs v b,c<bs.length:=λb hb c hc=>DR bs b hb c (bO.1 hc).1
def m9(ps:List Int)(v:Int):Prop:=∃b,b<bs.length/\wL bs ps v b/\lC (jN bs b).ops (jN bs b).nd v=1
end
end

section
structure rV(bs:List BkL)(seen:Nat->Bool)(q:List Nat):Prop where
 lt:∀b∈q,b<bs.length
 ok:∀b,b<bs.length->seen b=true->wK bs b
 okq:∀b∈q,wK bs b
 first:seen 0=true\/0∈q
 closed:∀b,b<bs.length->seen b=true->∀c∈(jN bs b).to,seen c=true\/c∈q
theorem rV.start{bs:List BkL}(h:0<bs.length):rV bs (λ_=>false) [0]:=
 ⟨λb hb=>(by grind),λb _ h=>(by cases h),λb hb=>(by simp at hb;subst hb;exact .here rfl),.inr (by simp),λb _ h=>(by cases h)⟩
theorem rV.skip{bs:List BkL}{seen:Nat->Bool}{b:Nat}{q:List Nat}(h:rV bs seen (b :: q))(hs:seen b=true):rV bs seen q:=by
 refine⟨λc hc=>h.lt c (db _ hc),h.ok,λc hc=>h.okq c (db _ hc),?_,λc hc hsc d hd=>?_⟩
 .rcases h.first with h1|h1
  .grind
  grind
 .rcases h.closed c hc hsc d hd with h1|h1
  .grind
  grind
theorem rV.put{bs:List BkL}(hto:ph bs){seen:Nat->Bool}{b:Nat}{q:List Nat}(h:rV bs seen (b :: q)):rV bs (λk=>if k=b then true else seen k) (q++(jN bs b).to):=by
 have hb:=h.lt b (by simp)
 have hr:=h.okq b (by simp)
 refine⟨λc hc=>?_,λc hc hsc=>?_,λc hc=>?_,?_,λc hc hsc d hd=>?_⟩
 .rcases bh.1 hc with hc|hc
  .exact h.lt c (db _ hc)
  .exact hto b hb c hc
 .by_cases e:c=b
  .grind
  .exact h.ok c hc (by grind)
 .rcases bh.1 hc with hc|hc
  .exact h.okq c (db _ hc)
  .exact .step ((sH bs c b).2 ⟨hb,hc⟩) hr
 .by_cases e:(0:Nat)=b
  .grind
  .rcases h.first with h1|h1
   .grind
   grind
 .by_cases e:c=b
  .grind
  .rcases h.closed c hc (by grind) d hd with h1|h1
   .grind
   grind
theorem rV.done{bs:List BkL}{seen:Nat->Bool}(h:rV bs seen []){b:Nat}(hb:b<bs.length):seen b=true↔wK bs b:=by
 refine⟨h.ok b hb,λhr=>?_⟩
 induction hr with
 | @here c h0=>
   have h0:c=0:=by grind
   rw[h0];exact h.first.resolve_right (by simp)
 |step h1 _ ih=>
  obtain⟨h2,h3⟩:=(sH bs _ _).1 h1;exact(h.closed _ h2 (ih h2) _ h3).resolve_right (by simp)
theorem VF{n b:Nat}{seen:Nat->Bool}(hb:b<n)(hs:seen b=false):cnt n (λk=>if k=b then true else seen k)=cnt n seen+1:=by
 induction n with
 |zero=>omega
 |succ n ih=>
  rw[yI,yI];by_cases e:b=n
  .grind[cnt,List.countP_congr]
  grind
theorem WQ{bs:List BkL}{seen:Nat->Bool}(h:rV bs seen []):bs.length<=cnt bs.length seen↔∀b,b<bs.length->wK bs b:=by
 constructor
 .intro hc b hb;exact(h.done hb).1 (OP hc b hb)
 .intro ha;have:=OO (n:=bs.length) (p:=λ_=>true) (q:=seen) λb hb _=>(h.done hb).2 (ha b hb)
  simp_all[cnt]
end

section
def DB(ops:List OpL)(f:Nat->Bool)(v:Nat):Bool:=f v||DL ops (v:Int)
structure qE(ps:List Int)(bs:List BkL)(I:Nat->Nat->Bool):Prop where
 sound:∀b,b<bs.length->∀v:Nat,1<=v->v<201->I b v=false->wL bs ps (v:Int) b
 first:∀v:Nat,1<=v->v<201->(v:Int)∉ps->I 0 v=false
def oI(I:Nat->Nat->Bool)(b:Nat)(f:Nat->Bool):Nat->Nat->Bool:=λk=>if k=b then f else I k
theorem qE.put{ps:List Int}{bs:List BkL}{I:Nat->Nat->Bool}(h:qE ps bs I){b c:Nat}(hb:b<bs.length)(hc:c∈(jN bs b).to)(O:Nat->Bool)
  (hO:∀v:Nat,1<=v->v<201->O v=false->wL bs ps (v:Int) b/\DL (jN bs b).ops (v:Int)=false):
  qE ps bs (oI I c λv=>I c v&&O v):=by
 refine⟨λk hk v h1 h2 hf=>?_,λv h1 h2 h3=>?_⟩
 .unfold oI at hf
  split at hf
  .rename_i e
   subst e;simp only[dF] at hf;rcases hf with hf|hf
   .exact h.sound k hk v h1 h2 hf
   .obtain⟨h5,h6⟩:=hO v h1 h2 hf;refine .step (c:=b) ?_ h5
    grind[UG,sH]
  .exact h.sound k hk v h1 h2 hf
 .unfold oI
  split
  .rename_i e
   subst e;simp[h.first v h1 h2 h3]
  .exact h.first v h1 h2 h3
theorem qE.out{ps:List Int}{bs:List BkL}{I:Nat->Nat->Bool}(h:qE ps bs I){b:Nat}(hb:b<bs.length):∀v:Nat,1<=v->v<201->DB (jN bs b).ops (I b) v=false->wL bs ps (v:Int) b/\DL (jN bs b).ops (v:Int)=false:=by
 intro v h1 h2 hf
 unfold DB at hf
 simp only[dt] at hf
 exact⟨h.sound b hb v h1 h2 hf.1,hf.2⟩
theorem qE.done{ps:List Int}{bs:List BkL}{I:Nat->Nat->Bool}(h:qE ps bs I)(hn:0<bs.length)
  (hf:∀b,b<bs.length->∀c∈(jN bs b).to,∀v,v<201->I c v=true->DB (jN bs b).ops (I b) v=true) {v:Nat} (h1:1<=v) (h2:v<201) {b:Nat} (hb:b<bs.length):
  I b v=false↔wL bs ps (v:Int) b:=by
 refine⟨h.sound b hb v h1 h2,λhl=>?_⟩
 induction hl with
 |here h0=>
  simp only[UH,az,aR,cm,bA] at h0;obtain⟨rfl,h0⟩:=h0;exact h.first v h1 h2 h0
 | @step b c hc _ ih=>
   obtain⟨hc1,hc2⟩:=bO.1 hc;obtain⟨hc3,hc4⟩:=(sH bs b c).1 hc1;cases hx:I b v with
   |false=>rfl
   |true=>
    have:=hf c hc3 b hc4 v h2 hx
    simp_all[DB]
def tot(W:Nat):Nat->(Nat->Nat->Bool)->Nat
 |0,_=>0
 |n+1,I=>tot W n I+cnt W (I n)
theorem fu{W n c:Nat}(hc:n<=c)(I:Nat->Nat->Bool)(f:Nat->Bool):tot W n (oI I c f)=tot W n I:=by
 induction n with
 |zero=>rfl
 |succ n ih=>
  simp only[tot];have:oI I c f n=I n:=by simp[oI];omega
  grind
theorem k9{W n c:Nat}(hc:c<n)(I:Nat->Nat->Bool)(f:Nat->Bool)(hle:∀v,v<W->f v=true->I c v=true)(hne:∃v,v<W/\f v≠I c v):tot W n (oI I c f)<tot W n I:=by
 induction n with
 |zero=>omega
 |succ n ih=>
  simp only[tot];by_cases e:c=n
  .subst e;rw[fu (aw _)];have:oI I c f c=f:=by simp[oI]
   rw[this];obtain⟨v,hv,hn⟩:=hne;have:=ZZ (n:=W) (p:=f) (q:=I c) hle hv (by grind) (by grind);omega
  .have e2:oI I c f n=I n:=by simp[oI];omega
   grind
def KI(ps:List Int)(bs:List BkL)(v:Int):Bool:=(List.range bs.length).any λb=>decide (lC (jN bs b).ops (jN bs b).nd v=1)&&kJ (UH ps v) (UG bs v) bs.length b
theorem JE(ps:List Int)(bs:List BkL)(v:Int):KI ps bs v=true↔m9 bs ps v:=by
 unfold KI m9 wL
 simp only[List.any_eq_true,be,az,aR]
 constructor
 .rintro⟨b,hb,h1,h2⟩;exact⟨b,hb,(yD bs.length bs.length (by omega) (NU bs v) hb).2 h2,h1⟩
 .rintro⟨b,hb,h1,h2⟩;exact⟨b,hb,h2,(yD bs.length bs.length (by omega) (NU bs v) hb).1 h1⟩
def nW(ps:List Int)(bs:List BkL):Bool:=(List.range' 1 200).any λv:Nat=>KI ps bs (v:Int)
def qK(bs:List BkL):Bool:=(List.range bs.length).all λb=>kJ (λb=>decide (b=0)) (IA bs) bs.length b
theorem MI(bs:List BkL):qK bs=true↔∀b,b<bs.length->wK bs b:=by
 unfold qK wK
 simp only[bq,be]
 exact⟨λh b hb=>(yD bs.length bs.length (by omega) (DR bs) hb).2 (h b hb),λh b hb=>(yD bs.length bs.length (by omega) (DR bs) hb).1 (h b hb)⟩
def eo(bs:List BkL):Prop:=∀b,b<bs.length->∀v,lC (jN bs b).ops (jN bs b).nd v=1->1<=v/\v<=200
theorem qE.any{ps:List Int}{bs:List BkL}{I:Nat->Nat->Bool}(h:qE ps bs I)(hn:0<bs.length)(hv:eo bs)
  (hf:∀b,b<bs.length->∀c∈(jN bs b).to,∀v,v<201->I c v=true->DB (jN bs b).ops (I b) v=true):
  (∀b,b<bs.length->∀v,lC (jN bs b).ops (jN bs b).nd v=1->I b v.toNat=true)↔nW ps bs=false:=by
 unfold nW
 simp only[dZ,List.mem_range'_1,Bool.not_eq_true]
 constructor
 .intro hp v ⟨h1,h2⟩;cases hx:KI ps bs (v:Int) with
  |false=>rfl
  |true=>
   obtain⟨b,hb,hl,hw⟩:=(JE ps bs (v:Int)).1 hx;have:=hp b hb (v:Int) hw;rw[show((v:Int)).toNat=v by omega] at this;rw[(h.done hn hf h1 (by omega) hb).2 hl] at this
   grind
 .intro ha b hb v hw;obtain⟨h1,h2⟩:=hv b hb v hw;obtain⟨n,rfl⟩:∃n:Nat,v=n:=⟨v.toNat,by omega⟩
  rw[show((n:Int)).toNat=n by omega];cases hx:I b n with
  |true=>rfl
  |false=>
   have hl:=(h.done hn hf (by omega) (by omega) hb).1 hx;have:=ha n (by omega);rw[(JE ps bs (n:Int)).2 ⟨b,hb,hl,hw⟩] at this
   grind
end

section
def uD(l:List eW):Nat->Int->List Int
 |0,_=> []
 |f+1,k=>if 0<=k then k :: uD l f (nB l k.toNat) else []
def nS(l:List eW)(k:Int):List Int:=uD l (k.toNat+1) k
theorem YW{l:List eW}(hp:fX l=true):∀(f:Nat) (k:Int),k<l.length->k<f->uD l f k=nS l k:=by
 rw[gM] at hp
 intro f
 induction f using Nat.strongRecOn with
 |_ f ih=>
  intro k hk hf;by_cases h0:0<=k
  .cases f with
   |zero=>omega
   |succ f=>
    rw[nS,uD,uD,aX h0,aX h0]
    grind
  unfold nS uD;grind
theorem rH{l:List eW}(hp:fX l=true){k:Int}(h0:0<=k)(hk:k<l.length):nS l k=k :: nS l (nB l k.toNat):=by
 have h1:=(gM l).1 hp k.toNat (by omega)
 rw[nS,uD,aX h0,YW hp _ _ (by omega) (by omega)]
theorem xB(l:List eW){k:Int}(h0:k<0):nS l k= []:=by
 simp_all[nS,uD]
theorem TO{l:List eW}(hp:fX l=true):∀(n:Nat) (k:Int),k<n->k<l.length->(nS l k).length<=n:=by
 intro n
 induction n with
 |zero=>grind[xB]
 |succ n ih=>
  intro k hk hl;by_cases h0:0<=k
  .have h1:=(gM l).1 hp k.toNat (by omega);rw[rH hp h0 hl]
   grind
  grind
theorem ox{l:List eW}(hp:fX l=true)(m:Int):∀(n:Nat),n<l.length->(m∈nS l n↔0<=m/\nH l m.toNat n=true):=by
 intro n
 induction n using Nat.strongRecOn with
 |_ n ih=>
  intro hn;have h1:=(gM l).1 hp n hn;rw[rH hp (by omega) (by omega),aH,yH hp _ n hn];simp only[d8,bZ,az,aR,de];by_cases h2:0<=nB l n
  .grind
  grind[xB]
def inL(l:List eW)(b:Int):List Int:=nS l (nP l b.toNat)
def KD(l:List eW)(b o:Int):List Int:=(inL l b).filter λk=> !(inL l o).contains k
structure ZL where
 e:gQ
 lv:List Int
 en:List Int
def xI(l:List eW)(x:gQ):ZL:=⟨x,KD l x.fr x.to,(KD l x.to x.fr).reverse⟩
def xN(l:List eW)(asked:gQ->Bool)(x:gQ):Bool:=(nP l x.fr.toNat != nP l x.to.toNat)&&asked x
def m5(ts:List fC)(l:List eW)(asked:gQ->Bool):List ZL:=((sP ts).filter (xN l asked)).map (xI l)
theorem KY{l:List eW}(hp:fX l=true)(b:Int)(hb:nP l b.toNat<l.length):(inL l b).length<=l.length:=TO hp _ _ (by omega) (by omega)
theorem gz{l:List eW}{n:Nat}(h:kO l n=true){b:Nat}(hb:b<n):qU l b= [nP l b]:=by
 simp only[kO,bq,be,de] at h
 have:=h b hb
 unfold nP
 match e:qU l b,this with
 | [x],_=>rfl
theorem XN(l:List eW)(b k:Nat):k∈qU l b↔k<l.length/\(b:Int)∈lS l k:=by
 simp[qU]
theorem lj{l:List eW}{n:Nat}(h:kO l n=true){b:Nat}(hb:b<n)(k:Nat):(k<l.length/\(b:Int)∈lS l k)↔nP l b=k:=by
 rw[<-XN,gz h hb,bm]
 omega
theorem RH{l:List eW}{n:Nat}(h:kO l n=true){b:Nat}(hb:b<n):nP l b<l.length:=((lj h hb _).2 rfl).1
end

section
open Go.RowKit
def MT(x n:Int):Int:=if n<1 then 0 else x%n
theorem gw(x n:Int)(w:World)(hx:I64 x)(hn:I64 n):
  Calls Tryz.prog 7 #[.int .i64 x,.int .i64 n] w λe w'=>e=.returned (.int .i64 (MT x n))/\w=w':=by
 obtain⟨_,_⟩:=hx
 obtain⟨_,_⟩:=hn
 by_cases h1:n<1
 .have HE:Hid (MT x n=0):=aX h1
  go_enter Tryz.func7,Tryz.ntmps7
  go_wp2
  go_ret
  exact⟨by rw[HE.out];rfl,rfl⟩
 .have h2:1<=n:=by omega
  have hd:= @Int.tmod_eq_emod x n;have e1:=Int.emod_nonneg x (show n≠0 by omega);have e2:=Int.emod_lt_of_pos x (show 0<n by omega);have HE:Hid (MT x n=x%n):=aC h1;rcases Int.lt_or_le x 0 with hx|hx
  .by_cases hv:n∣x
   .rw[aX (Or.inr hv)] at hd;have h3:0<=x.tmod n:=by omega
    have HD:=ac hd;clear hd hv h1
    go_enter Tryz.func7,Tryz.ntmps7
    go_wp2
    go_ret
    exact⟨xO (by rw[HE.out,HD.out];omega),rfl⟩
   .have hne:x%n≠0:=λe=>hv (Int.dvd_of_emod_eq_zero e);rw[aC (by intro h;rcases h with h|h;omega;exact hv h)] at hd;have h3:x.tmod n<0:=by omega
    have h4: -9223372036854775808<=x.tmod n:=by omega
    have HD:=ac hd;clear hd hv h1 hne
    go_enter Tryz.func7,Tryz.ntmps7
    go_wp2
    go_ret
    exact⟨xO (by rw[HE.out];have:=HD.out;omega),rfl⟩
  .clear hd h1
   go_enter Tryz.func7,Tryz.ntmps7
   go_wp2
   go_ret
   exact⟨xO (by rw[HE.out]),rfl⟩
end
end Go.Proofs.YtchdkjenhppleaaGreat
