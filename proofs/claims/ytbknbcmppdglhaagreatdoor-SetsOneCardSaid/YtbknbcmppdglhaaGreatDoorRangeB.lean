/-
 (*sets.collector).tile,its begin:six new sets;states of six sets.
-/
import Derived.Test.YtbknbcmppdglhaaGreatDoorA0
import Derived.Test.YtbknbcmppdglhaaGreatDoorPH
import Derived.Test.YtbknbcmppdglhaaGreatDoorSortI
import Derived.Test.YtbknbcmppdglhaaGreatDoorMarks
namespace Go.Proofs.YtbknbcmppdglhaaGreatDoor
set_option linter.unusedSimpArgs false
set_option linter.unusedVariables false
set_option linter.unusedSectionVars false
set_option maxRecDepth 100000
set_option maxHeartbeats 40000000
section
open Go.RowKit Go.Shelf
attribute [local go_sem] Oper.semAt_some iF gH gS fX
theorem iY.ck{w W:World}{a:Option Addr}{n:Nat}{ls:List iN}(h:iY w a n ls)(k:CK w W):iY W a n ls:=⟨h.1.ck AK k,λt ht=>⟨(h.2 t ht).1.ck k,(h.2 t ht).2⟩⟩
theorem UD.ck{w W:World}{C:Nat}{h:CI}{r d l a i o:Option Nat}(hc:UD w C h r d l a i o)(k:CK w W):UD W C h r d l a i o:=λj v hj=>k _ _ _ (hc j v hj)
theorem rb{w:World}{C:Nat}{h:CI}{r d l a i o:Option Nat}(hc:w.heap[C]? =some (PZ h r d l a i o)):UD w C h r d l a i o:=λj v hj=>by rw[aZ _ _ _ _ _ _ hc];exact hj
theorem Chg.thn{S T:Nat->Prop}{a b c:World}(h:Chg S a b)(k:Chg T b c)(hs:∀q,T q->S q\/a.heap.size<=q):Chg S a c:=
 ⟨k.os.trans h.os,k.tape.trans h.tape,k.output.trans h.output,aT h.size k.size,λq hq hn=>
  (k.block q (bw hq h.size) (λht=>(hs q ht).elim hn (by omega))).trans (h.block q hq hn)⟩
structure C6(w:World)(m:Nat->Nat)(p:Nat->Int->Prop)(W:World):Prop where
 ck:CK w W
 v:∀j,j<6->jU W (m j) (p j)
 ch:Chg (λq=>∃j,j<6/\q=m j) w W
def EK(m:Nat->Nat):Prop:=∀i j,i<6->j<6->m i=m j->i=j
section
variable {w W W':World} {m:Nat->Nat} {p p':Nat->Int->Prop}
theorem C6.ext(h:C6 w m p W)(hb:Below W.heap.size W W'):C6 w m p W':=⟨h.ck.trans (CK.ext hb),λj hj=>(h.v j hj).ext hb,h.ch.of_ext hb⟩
theorem C6.turn(h:C6 w m p W)(hn:EK m){k:Nat}(hk:k<6){q:Int->Prop}(hv:jU W' (m k) q)(hg:Chg (λj=>j=m k) W W'):C6 w m (λj=>if j=k then q else p j) W':=by
 refine⟨h.ck.trans (CK.map (h.v k hk) hg),λj hj=>?_,h.ch.trans (hg.mono λx e=>⟨k,hk,e⟩)⟩
 by_cases e:j=k
 .subst e;rw[aM rfl];exact hv
 .rw[az e];exact(h.v j hj).chg hg λe2=>e (hn j k hj hk e2)
theorem C6.congr(h:C6 w m p W)(e:∀j,j<6->∀y,p j y↔p' j y):C6 w m p' W:=⟨h.ck,λj hj=>(h.v j hj).congr (e j hj),h.ch⟩
end
def pR(m f:Nat->Option Nat)(k j:Nat):Option Nat:=if j<k then m j else f j
theorem yb(h:CI)(m f:Nat->Option Nat)(k:Nat)(hk:k<6)(q:Nat)(hq:m k=some q):
  (mw h (pR m f k 0) (pR m f k 1) (pR m f k 2) (pR m f k 3) (pR m f k 4) (pR m f k 5)).setIfInBounds (6+k) (.map (some q))=mw h (pR m f (k+1) 0) (pR m f (k+1) 1) (pR m f (k+1) 2) (pR m f (k+1) 3) (pR m f (k+1) 4) (pR m f (k+1) 5):=by
 have hcase:k=0\/k=1\/k=2\/k=3\/k=4\/k=5:=by omega
 rcases hcase with rfl|rfl|rfl|rfl|rfl|rfl<;>simp[pR,hq]
theorem pq(m f:Nat->Option Nat)(j:Nat):pR m f 0 j=f j:=by simp[pR]
theorem gv{m m' f:Nat->Option Nat}{k:Nat}(h:∀j,j<k->m j=m' j):pR m f k=pR m' f k:=by
 funext j
 unfold pR
 split
 .exact h j (by assumption)
 .rfl
theorem Aq(h:CI)(m f:Nat->Option Nat)(k j:Nat)(hj:j<6):(mw h (pR m f k 0) (pR m f k 1) (pR m f k 2) (pR m f k 3) (pR m f k 4) (pR m f k 5))[6+j]? =some (.map (pR m f k j)):=by
 have hcase:j=0\/j=1\/j=2\/j=3\/j=4\/j=5:=by omega
 rcases hcase with rfl|rfl|rfl|rfl|rfl|rfl<;>rfl
def p6(R D L A I O:Int->Prop)(j:Nat):Int->Prop:=match j with|0=>R|1=>D|2=>L|3=>A|4=>I|_=>O
theorem QJ{P:Nat->Prop}(h0:P 0)(h1:P 1)(h2:P 2)(h3:P 3)(h4:P 4)(h5:P 5):∀j,j<6->P j:=λj hj=>by
 have hcase:j=0\/j=1\/j=2\/j=3\/j=4\/j=5:=by omega
 rcases hcase with rfl|rfl|rfl|rfl|rfl|rfl<;>assumption
section
variable {w W W':World} {m:Nat->Nat} {R D L A I O q:Int->Prop}
theorem CS.to6(h:CS w (m 0) (m 1) (m 2) (m 3) R D L A W)(hn:EK m)(h4:jU w (m 4) I)(h5:jU w (m 5) O):C6 w m (p6 R D L A I O) W:=
 ⟨h.ck,QJ h.fr h.fd h.fl h.fa (h4.chg h.ch λe=>by rcases e with e|e|e|e<;>have:=hn _ _ (by omega) (by omega) e<;>omega) (h5.chg h.ch λe=>by rcases e with e|e|e|e<;>have:=hn _ _ (by omega) (by omega) e<;>omega),
  h.ch.mono λx e=>by rcases e with e|e|e|e<;>exact⟨_,by omega,e⟩⟩
theorem C6.turn0(h:C6 w m (p6 R D L A I O) W)(hn:EK m)(hv:jU W' (m 0) q)(hg:Chg (λj=>j=m 0) W W'):C6 w m (p6 q D L A I O) W':=
 (h.turn hn (by omega) hv hg).congr (QJ (λ_=>bM) (λ_=>bM) (λ_=>bM) (λ_=>bM) (λ_=>bM) (λ_=>bM))
theorem C6.turn4(h:C6 w m (p6 R D L A I O) W)(hn:EK m)(hv:jU W' (m 4) q)(hg:Chg (λj=>j=m 4) W W'):C6 w m (p6 R D L A q O) W':=
 (h.turn hn (by omega) hv hg).congr (QJ (λ_=>bM) (λ_=>bM) (λ_=>bM) (λ_=>bM) (λ_=>bM) (λ_=>bM))
theorem C6.turn5(h:C6 w m (p6 R D L A I O) W)(hn:EK m)(hv:jU W' (m 5) q)(hg:Chg (λj=>j=m 5) W W'):C6 w m (p6 R D L A I q) W':=
 (h.turn hn (by omega) hv hg).congr (QJ (λ_=>bM) (λ_=>bM) (λ_=>bM) (λ_=>bM) (λ_=>bM) (λ_=>bM))
end
theorem ld{ts:List fS}{l:List fT}{ask:kD->Bool}(hr:gY ts l=true){r:QD}(h:r∈nR ts l ask):0<=r.e.to/\r.e.to<ts.length:=by
 obtain⟨x,hx,rfl⟩:=a8.1 h
 have h1:x∈QB ts:=by
  unfold QB;rw[aM (uG hr)];exact(bI.1 hx).1
 have:=DP h1
 exact⟨by show 0<=x.to;omega,this.2.2.2⟩
theorem C6.other{w W W':World}{m:Nat->Nat}{p:Nat->Int->Prop}{q:Nat}{r:Int->Prop}(h:C6 w m p W)(hq:w.heap.size<=q)(hne:∀j,j<6->m j≠q)(hv:jU W q r)(hc:Chg (λj=>j=q) W W'):C6 w m p W':=
 ⟨h.ck.trans (CK.map hv hc),λj hj=>(h.v j hj).chg hc (hne j hj),⟨hc.os.trans h.ch.os,hc.tape.trans h.ch.tape,hc.output.trans h.ch.output,aT h.ch.size hc.size,λk hk hn=>(hc.block k (bw hk h.ch.size) (by omega)).trans (h.ch.block k hk hn)⟩⟩
theorem yo{v:Nat->Value}{b:Nat->Nat}(hb:∀j,j<7->b j<=b (j+1))(h:∀j,j<7->∀q,(v j).ownBlock=some q->b j<=q/\q<b (j+1)):
  ∀i j,i<7->j<7->i≠j->∀q,(v i).ownBlock=some q->(v j).ownBlock≠some q:=by
 have mono:∀d i,i+d<=7->b i<=b (i+d):=λd=>by
  induction d with
  |zero=>intro i _;exact aj _
  |succ d ih=>intro i hi;exact aT (ih i (by omega)) (hb (i+d) (by omega))
 have key:∀i j,i<j->j<7->∀q,(v i).ownBlock=some q->(v j).ownBlock=some q->False:=λi j hij hj q h1 h2=>by
  have h3:=h i (by omega) q h1;have h4:=h j hj q h2;have h5:=mono (j-(i+1)) (i+1) (by omega);rw[show i+1+(j-(i+1))=j by omega] at h5;omega
 intro i j hi hj hne q h1 h2
 rcases Nat.lt_or_gt_of_ne hne with h3|h3
 .exact key i j h3 hj q h1 h2
 .exact key j i h3 hi q h2 h1
theorem KM{P:Nat->Prop}(h0:P 0)(h1:P 1)(h2:P 2)(h3:P 3)(h4:P 4)(h5:P 5)(h6:P 6):∀j,j<7->P j:=λj hj=>by
 have hcase:j=0\/j=1\/j=2\/j=3\/j=4\/j=5\/j=6:=by omega
 rcases hcase with rfl|rfl|rfl|rfl|rfl|rfl|rfl<;>assumption
theorem OB:(Tryz.prog.info? 39).map (·.size)=some 7:=by kernel_rfl
def r9(w:World)(C:Nat)(h:CI)(S:MZ)(e:Ending)(w':World):Prop:=
 ∃(v:Nat->Value) (g:Nat->Option Nat),e=.returned (.agg #[v 0,v 1,v 2,v 3,v 4,v 5,v 6])/\(∀j,j<7->gD w' w.heap.size (v j) (S.rows.getD j []))/\(∀i j,i<7->j<7->i≠j->∀q,(v i).ownBlock=some q->(v j).ownBlock≠some q)/\
  w'.heap[C]? =some (PZ h (g 0) (g 1) (g 2) (g 3) (g 4) (g 5))/\Chg (λj=>j=C) w w'
end

section
open Go.RowKit Go.Shelf
attribute [local go_sem] Oper.semAt_some iF gH gS fX
abbrev TJ:Obj:=.cells #[.slice none 0 0,.slice none 0 0,.slice none 0 0,.slice none 0 0,.slice none 0 0,.slice none 0 0,.slice none 0 0] 39 (0,0)
theorem nv(h:CI)(ps:List Int)(bs:List iA)(ls:List iN)(f:Nat->Option Nat)(C k:Nat)(t:iN)(wA w:World)(hA:Below wA.heap.size wA w)(hCA:wA.heap.size<=C)(hC:w.heap[C]? =some (PZ h (f 0) (f 1) (f 2) (f 3) (f 4) (f 5)))
  (hps:iJ wA h.pa h.pn ps) (hpv:nM ps) (hbl:lY wA h.ba h.bn bs) (hlv:BI wA (gN bs) h.bn h.lv) (hna:∀b∈bs,∀r∈b.rs,r.na<=1000000) (htl:iY wA h.ta h.tn ls) (hT:qY (fI ls)<=1000000) (hrt:gY (fY (hOf bs)) (fI ls)=true)
  (ht:ls[k]? =some t) (htb:∀v∈t.d.blocks,0<=v/\v<h.bn):
  Calls Tryz.prog 33 #[.pointer (some ⟨C,0,none⟩),.int .i64 k] w (r9 w C h (setM ps bs (fI ls) k)):=by
 have HA:=ac hA
 have HPS:=ac hps
 have HPV:=ac hpv
 have HBL:=ac hbl
 have HLV:=ac hlv
 have HNA:=ac hna
 have HTL:=ac htl
 have HTOT:=ac hT
 have HRT:=ac hrt
 have HT:=ac ht
 have HTB:=ac htb
 have HC:=ac hC
 have hCw:=fE hC
 clear hA hps hpv hbl hlv hna htl hT hrt ht htb hC
 go_enter Tryz.func33,Tryz.ntmps33
 go_upto_region 1 with (fail)
 generalize hw0:World.alloc _ _=w0
 have hb0:Below w.heap.size w w0:=by rw[<-hw0];exact fC (fD _ _) (fD _ _)
 have hp2:w0.heap[w.heap.size]? =some (.cells #[.pointer (some ⟨C,0,none⟩)] 75 (0,0)):=by rw[<-hw0];exact fB (fD _ _) (ae _ _)
 have HZ:Hid (w0.heap[w.heap.size+1]? =some TJ):=by
  have:=ae (w.alloc (.cells #[.pointer (some ⟨C,0,none⟩)] 75)) TJ;rw[Hid,<-hw0];simpa using this
 have HB0:=ac hb0
 have HS0:Hid (w0.heap.size=w.heap.size+2):=by rw[Hid,<-hw0];simp
 have HP2:=ac hp2
 replace HC:=ac (fB hb0 HC.out)
 clear hw0 hb0 hp2
 generalize hP:w.heap.size=P at*
 have hn1:Nonempty (fL w0):=⟨⟨w0,ag _ _⟩⟩
 have g1:∀n:fL w0,n.val.cell? ⟨P,0,none⟩=some (.pointer (some ⟨C,0,none⟩)):=λn=>fL.cell (cR HP2.out rfl) n
 have g4:∀n:fL w0,C<n.val.heap.size:=λn=>bw (fE HC.out) n.ext.size
 refine jC (λw'=>∃n':fL w0,w'=n'.val) [(0,18,none),(20,1,some (18,true)),(19,1,none)] (by kernel_rfl) (by kernel_rfl) ⟨⟨_,gB (ag _ _) 1⟩,rfl⟩ ?_
 simp only[lS,ap,aD,am,aw]
 repeat (go_big_quiet_step (fail))
 refine aq ?_
 repeat (go_big_quiet_step (fail))
 refine aq ?_
 refine fR rfl rfl ?_
 go_simp
 refine⟨⟨⟨_,gB (fD _ _) 1⟩,rfl⟩,?_⟩
 repeat (go_big_quiet_step (fail))
 refine aq ?_
 clear g1 g4 hn1
 refine bR ?_
 generalize hw1:World.drew _=w1
 have HB1:Hid (Below w0.heap.size w0 w1):=by rw[<-hw1];exact gB (fD _ _) 1
 have HS1:Hid (w1.heap[w0.heap.size]? =some (.cells #[.pointer (some ⟨C,6,none⟩),.pointer (some ⟨C,7,none⟩),.pointer (some ⟨C,8,none⟩),.pointer (some ⟨C,9,none⟩),.pointer (some ⟨C,10,none⟩),.pointer (some ⟨C,11,none⟩)] 173 (0,0))):=by rw[<-hw1];exact ae w0 _
 clear hw1
 obtain⟨S,hS⟩:∃S,w0.heap.size=S:=⟨_,rfl⟩
 rw[hS] at HS1 HS0|-
 have HSS:=ac hS
 clear hS
 go_wp2
 go_loopw [6,34] (λ_ q wr=>∃(k:Nat) (m:Nat->Option Nat),q=.int .i64 k/\k<=6/\Hid (wr.heap[C]? =some (PZ h (pR m f k 0) (pR m f k 1) (pR m f k 2) (pR m f k 3) (pR m f k 4) (pR m f k 5)))/\Hid (∀j,j<k->∃q,m j=some q/\S<=q/\jU wr q λ_=>False)/\Hid (∀i j,i<k->j<k->m i=m j->i=j)/\Hid (Chg (λj=>j=C) w1 wr)) (λ_ q _=>6-(intOf q).toNat)
 case atStart=>exact⟨0,λ_=>none,rfl,by omega,by simp only[pq];exact fB HB1.out HC.out,λj hj=>by omega,λi j hi=>by omega,Chg.refl _ _⟩
 case round=>
  obtain⟨k1,m,rfl,hk1,HCr,HM,HD,HG⟩:=hrel;by_cases hlt:k1<6
  .have hcase:k1=0\/k1=1\/k1=2\/k1=3\/k1=4\/k1=5:=by omega
   have hs1:=(HG.out.block _ (fE HS1.out) (by have h9:S=P+2:=HS0.out;omega)).trans HS1.out;have hlti:(k1:Int)<6:=by omega
   have c0:wr.cell? ⟨S,k1,none⟩=some (.pointer (some ⟨C,6+k1,none⟩)):=by
    rw[aZ _ _ _ _ _ _ hs1];rcases hcase with rfl|rfl|rfl|rfl|rfl|rfl<;>rfl
   have c1:wr.cell? ⟨C,6+k1,none⟩=some (.map (pR m f k1 k1)):=by
    rw[aZ _ _ _ _ _ _ HCr.out];exact Aq h m f k1 k1 hlt
   have c2:wr.frozen? ⟨C,6+k1,none⟩=false:=cY _ _ _ _ _ HCr.out;have hmm:= @run_makeMap Tryz.prog;have hcl:=fE HCr.out;clear hcase hs1;go_wp2;obtain⟨W1,hW1⟩:∃W1,W1=wr.setCell ⟨C,6+k1,none⟩ (.map (some wr.heap.size)):=⟨_,rfl⟩
   have hz1:W1.heap.size=wr.heap.size:=by rw[hW1];simp
   have hst:S<=wr.heap.size:=by have:=HG.out.size;have:=HB1.out.size;have:=HSS.out;omega
   have hc1:Chg (λj=>j=C) wr W1:=by rw[hW1];exact(Chg.refl (λj=>j=C) wr).setCell (p:=⟨C,6+k1,none⟩) (.inl rfl) _
   have hC1:=aC wr C (6+k1) _ _ (.map (some wr.heap.size)) HCr.out;rw[<-hW1] at hC1;have hb1:Below W1.heap.size W1 (W1.alloc (.map #[] 0)):=fD _ _;have hm1:jU (W1.alloc (.map #[] 0)) wr.heap.size λ_=>False:=⟨[],by rw[<-hz1];exact oB.made _ _ _ _,λy=>by simp⟩
   rw[<-hW1];clear hW1;refine⟨⟨k1+1,λj=>if j=k1 then some wr.heap.size else m j,by go_num,by omega,?_,λj hj=>?_,λi' j hi hj e=>?_,?_⟩,by simp[intOf];omega⟩
   .rw[Hid,fB hb1 hC1];have:=yb h (λj=>if j=k1 then some wr.heap.size else m j) f k1 hlt wr.heap.size (aM rfl);rw[gv (m':=m) (k:=k1) λj hj=>by rw[az (by omega)]] at this;rw[this]
   .by_cases e:j=k1
    .subst e;refine⟨wr.heap.size,aM rfl,hst,?_⟩;exact hm1
    .obtain⟨q,h1,h2,h3⟩:=HM.out j (by omega);exact⟨q,by show(if j=k1 then _ else m j)=some q;rw[az e];exact h1,h2,(h3.chg hc1 λe=>h3.ne HCr.out e.symm).ext hb1⟩
   .by_cases e1:i'=k1
    .by_cases e2:j=k1
     .omega
     .obtain⟨q,h1,h2,h3⟩:=HM.out j (by omega);simp only[aM e1,az e2,h1] at e;injection e with e;have:=h3.lt;omega
    .by_cases e2:j=k1
     .obtain⟨q,h1,h2,h3⟩:=HM.out i' (by omega);simp only[az e1,aM e2,h1] at e;injection e with e;have:=h3.lt;omega
     .simp only[az e1,az e2] at e;exact HD.out i' j (by omega) (by omega) e
   .exact(HG.out.trans hc1).of_ext hb1
  .obtain rfl:k1=6:=by omega
   rw[show(((6:Nat)):Int)=6 from rfl]
   obtain⟨mm,hmm⟩:∃mm:Nat->Nat,∀j,j<6->m j=some (mm j)/\S<=mm j/\jU wr (mm j) λ_=>False:=⟨λj=>(m j).getD 0,λj hj=>by
    obtain⟨q,h1,h2,h3⟩:=HM.out j hj;show m j=some ((m j).getD 0)/\S<=(m j).getD 0/\jU wr ((m j).getD 0) _;rw[h1]
    exact⟨rfl,h2,h3⟩⟩
   have HAP:Hid (EK mm):=λi j hi hj e=>HD.out i j hi hj (by rw[(hmm i hi).1,(hmm j hj).1,e]);have hCr:=HCr.out;simp only[pR,Nat.reduceLT,if_true,(hmm 0 (by omega)).1,(hmm 1 (by omega)).1,(hmm 2 (by omega)).1,(hmm 3 (by omega)).1,(hmm 4 (by omega)).1,(hmm 5 (by omega)).1] at hCr;obtain⟨w2,hw2⟩:∃w2,w2=wr:=⟨_,rfl⟩
   subst hw2;have HC2:=ac hCr;have HCA:=ac (rb hCr);have HMM:Hid (∀j,j<6->S<=mm j):=λj hj=>(hmm j hj).2.1;have H60:Hid (C6 w2 mm (λ_ _=>False) w2):=⟨CK.refl _,λj hj=>(hmm j hj).2.2,Chg.refl _ _⟩
   have HB2:Hid (Below wA.heap.size wA w2):=by
    have h1:=HA.out.size;have h2:=HB0.out.size;have h3:=HB1.out.size;exact HA.out.trans ((HB0.out.mono (by omega)).trans ((HB1.out.mono (by omega)).trans (HG.out.below (by omega) λk e=>by rw[e];exact hCA)))
   have HR2:Hid (w2.heap[P]? =some (.cells #[.pointer (some ⟨C,0,none⟩)] 75 (0,0))/\w2.heap[P+1]? =some TJ):=by
    have h1:=fE HP2.out;have h2:=fE HZ.out;have h3:=HB1.out;refine⟨(HG.out.block _ (by have:=h3.size;omega) (by omega)).trans ((h3.block _ h1).trans HP2.out),(HG.out.block _ (by have:=h3.size;omega) (by omega)).trans ((h3.block _ h2).trans HZ.out)⟩
   have HCG:Hid (Chg (λj=>j=C) w w2):=by
    have h1:Chg (λj=>j=C) w w0:=(Chg.refl _ w).of_ext (by rw[hP];exact HB0.out);exact(h1.of_ext HB1.out).trans HG.out
   have HSZ:Hid (P+2<=S/\S<=w2.heap.size):=⟨by have:=HS0.out;omega,by have:=HG.out.size;have:=HB1.out.size;have:=HSS.out;omega⟩
   clear hCr hmm HCr HM HD HG hk1 hlt HB0 HB1 HS0 HS1 HSS HC HP2 HZ;obtain⟨t0,tb,ot,ht0,htok,hta,c0,c1,c2⟩:=(HTL.out.ext HB2.out).cells (show k<h.tn by have:=(aE.1 HT.out).1;rwa [HTL.out.1.1] at this);rw[HT.out] at ht0;cases ht0;have HTI:Hid (iJ w2 t.ba t.bn t.d.blocks):=htok.1;have htn:t.bn<=17592186044416:=htok.1.2.1;have hkt:k<h.tn:=by have:=(aE.1 HT.out).1;rwa [HTL.out.1.1] at this
   have d1:=cK 0 HR2.out.1 rfl;have d2:w2.cell? ⟨C,5,none⟩=some (.slice (some ⟨tb,ot,none⟩) h.tn h.tc):=by rw[<-hta];exact HCA.out 5 _ rfl
   have d3:=fE HC2.out;have K1:=ac d1;clear htok hta c0 c1;go_wp2;clear d1 d2 c2;obtain⟨bl,hbl⟩:∃bl:List Nat,bl=t.d.blocks.map Int.toNat:=⟨_,rfl⟩
   have HBE:=ac hbl;clear hbl;have HAP4:Hid (EL (mm 0) (mm 1) (mm 2) (mm 3)):=⟨λe=>by have:=HAP.out 0 1 (by omega) (by omega) e;omega,λe=>by have:=HAP.out 0 2 (by omega) (by omega) e;omega,λe=>by have:=HAP.out 0 3 (by omega) (by omega) e;omega,λe=>by have:=HAP.out 1 2 (by omega) (by omega) e;omega,λe=>by have:=HAP.out 1 3 (by omega) (by omega) e;omega,λe=>by have:=HAP.out 2 3 (by omega) (by omega) e;omega⟩
   go_loopw [8,51] (λ_ q wr=>∃k:Nat,q=.int .i64 k/\k<=t.bn/\Hid (CS w2 (mm 0) (mm 1) (mm 2) (mm 3) (λy=>y∈(bl.take k).flatMap (oT bs)) (λy=>y∈(bl.take k).flatMap (mZ ps bs)) (λy=>y∈(bl.take k).flatMap (qW bs)) (λy=>y∈(bl.take k).flatMap (BO bs)) wr)) (λ_ q _=>t.bn-(intOf q).toNat)
   case atStart=>exact⟨0,rfl,by omega,⟨CK.refl _,(H60.out.v 0 (by omega)).congr λy=>by simp,(H60.out.v 1 (by omega)).congr λy=>by simp,(H60.out.v 2 (by omega)).congr λy=>by simp,(H60.out.v 3 (by omega)).congr λy=>by simp,Chg.refl _ _⟩⟩
   case round=>
    obtain⟨k1,rfl,hk1,HR⟩:=hrel;by_cases hlt:k1<t.bn
    .obtain⟨bi,oi,htb,hcell,hw1,hw2⟩:=(HTI.out.ck HR.out.ck).2.2 k1 hlt;rw[htb] at *;clear htb;have hm:=HTB.out (t.d.blocks.getD k1 0) (by rw[ak,ah (by rw[HTI.out.1];exact hlt)];exact bJ _);obtain⟨b,hb⟩:∃b:Nat,t.d.blocks.getD k1 0=(b:Int):=⟨(t.d.blocks.getD k1 0).toNat,by omega⟩
     rw[hb] at hcell hm;have HBK:Hid (bl[k1]? =some b):=by
      have:t.d.blocks[k1]? =some (b:Int):=by rw[<-hb,ak,ah (by rw[HTI.out.1];exact hlt)];rfl
      rw[HBE.out,Hid,dt,this];rfl
     obtain⟨x,hx⟩:∃x,bs[b]? =some x:=⟨_,ah (by rw[HBL.out.1.1];omega)⟩
     have HX:=ac hx;have d1:=HR.out.ck _ _ _ K1.out;have HS:Hid (∀{f:Nat->List Int} (y:Int),y∈(bl.take (k1+1)).flatMap f↔y∈(bl.take k1).flatMap f\/y∈f b):=λ{f} y=>by rw[bL,HBK.out,cw];simp
     clear hb hx hm hw1 hw2
     go_wp2_with (
      (go_at_call 86
       refine(ZX h ps bs (mm 0) (mm 1) (mm 2) (mm 3) (some (mm 4)) (some (mm 5)) C b x _ _ _ _ wr (HCA.out.ck HR.out.ck) ((HPS.out.ext HB2.out).ck HR.out.ck) ((HBL.out.ext HB2.out).ck HR.out.ck) ((HLV.out.ext HB2.out).ck HR.out.ck) HX.out (HNA.out x (aK HX.out)) HAP4.out HR.out.fr HR.out.fd HR.out.fl HR.out.fa).mono ?_;rintro e w3 ⟨rfl,hc3⟩;have HC3:Hid (CS w2 (mm 0) (mm 1) (mm 2) (mm 3) _ _ _ _ w3):=⟨HR.out.ck.trans hc3.ck,hc3.fr,hc3.fd,hc3.fl,hc3.fa,HR.out.ch.trans hc3.ch⟩
       clear hc3))
     exact⟨⟨k1+1,by go_num,by omega,HC3.out.congr (λy=>(HS.out y).symm) (λy=>(HS.out y).symm) (λy=>(HS.out y).symm) (λy=>(HS.out y).symm)⟩,by simp[intOf];omega⟩
    .obtain rfl:k1=t.bn:=by omega
     have hbt:bl.take t.bn=bl:=bC (by rw[HBE.out,cT,HTI.out.1];exact aj _);have hr0:=HR.out;rw[hbt] at hr0;have H6:=ac (hr0.to6 HAP.out (H60.out.v 4 (by omega)) (H60.out.v 5 (by omega)));clear hr0 HR hbt hk1 hlt;have HDV:Hid (nM (bl.flatMap (mZ ps bs))):=nM.flat λb _=>xw HPV.out b;have hn1:Nonempty (fL wr):=⟨⟨wr,ag _ _⟩⟩
     have hck:=H6.out.ck;have g1:∀n:fL wr,n.val.cell? ⟨P,0,none⟩=some (.pointer (some ⟨C,0,none⟩)):=λn=>hck.x K1.out n;have g2:∀n:fL wr,n.val.cell? ⟨C,6,none⟩=some (.map (some (mm 0))):=λn=>hck.x (HCA.out 6 _ rfl) n;have g3:∀n:fL wr,n.val.cell? ⟨C,7,none⟩=some (.map (some (mm 1))):=λn=>hck.x (HCA.out 7 _ rfl) n;have g4:∀n:fL wr,C<n.val.heap.size:=λn=>hck.xl (HCA.out 6 _ rfl) n;clear hck;go_upto_region 11 with (fail)
     refine jC (λw'=>∃n':fL wr,w'=n'.val) [(0,8,some (8,true)),(9,0,some (9,false))] (by kernel_rfl) (by kernel_rfl) ⟨⟨_,gB (ag _ _) 1⟩,rfl⟩ ?_;simp only[lS,ap,aD,am,aw]
     repeat (go_big_quiet_step (fail))
     refine aq ?_;clear g1 g2 g3 g4 hn1;refine fR rfl rfl ?_;go_simp;refine(pK (mm 1) _ (bl.flatMap (mZ ps bs)) wr.drew (show jU wr.drew (mm 1) (λy=>y∈bl.flatMap (mZ ps bs)) from H6.out.v 1 (by omega)) (λ_=>bM) HDV.out).mono ?_;rintro e w3 ⟨v,rfl,ho,hb3⟩;obtain⟨av,cv,rfl⟩:=ho.form;have hb3:=lH hb3;have HI3:=ac ho.ints;have H63:=ac (H6.out.ext hb3);refine⟨⟨⟨w3,hb3⟩,rfl⟩,?_⟩;clear ho hb3 H6;refine aq ?_;refine fR rfl rfl ?_;go_simp;refine(oI (mm 0) _ av _ cv (kS (bl.flatMap (mZ ps bs))) w3 (show jU w3 (mm 0) (λy=>y∈bl.flatMap (oT bs)) from H63.out.v 0 (by omega)) HI3.out).mono ?_;rintro e w4 ⟨rfl,hv4,hg4⟩
     have H64:=ac (H63.out.turn0 HAP.out (hv4.congr (q:=λy=>y∈bl.flatMap (oT bs)++bl.flatMap (mZ ps bs)) λy=>by
      rw[ax,uC]
      exact⟨λh=>h.imp id λz=>z.2.2,λh=>h.imp id λz=>⟨(HDV.out y z).1,(HDV.out y z).2,z⟩⟩) (lR hg4))
     clear hv4 hg4 H63 HI3;refine bR ?_;go_upto_region 12 with (fail)
     have hn1:Nonempty (fL w4):=⟨⟨w4,ag _ _⟩⟩
     have hck:=H64.out.ck;have g1:∀n:fL w4,n.val.cell? ⟨P,0,none⟩=some (.pointer (some ⟨C,0,none⟩)):=λn=>hck.x K1.out n;have g2:∀n:fL w4,n.val.cell? ⟨C,3,none⟩=some (.slice h.pa h.pn h.pc):=λn=>hck.x (HCA.out 3 _ rfl) n;have g3:∀n:fL w4,n.val.cell? ⟨C,4,none⟩=some (.slice h.ba h.bn h.bc):=λn=>hck.x (HCA.out 4 _ rfl) n;have g5:∀n:fL w4,n.val.cell? ⟨C,5,none⟩=some (.slice h.ta h.tn h.tc):=λn=>hck.x (HCA.out 5 _ rfl) n;have g4:∀n:fL w4,C<n.val.heap.size:=λn=>hck.xl (HCA.out 6 _ rfl) n;refine jC (λw'=>∃n':fL w4,w'=n'.val) [(0,9,some (9,true)),(10,5,none)] (by kernel_rfl) (by kernel_rfl) ⟨⟨_,gB (ag _ _) 1⟩,rfl⟩ ?_;simp only[lS,ap,aD,am,aw]
     repeat (go_big_quiet_step (fail))
     refine aq ?_;clear g1 g2 g3 g4 g5 hn1;refine fR rfl rfl ?_;go_simp;refine(qr h.pa h.pn h.pc h.ba h.bn h.bc (hOf bs) h.ta h.tn h.tc ls k w4.drew (show lZ w4.drew _ _ _ from ((HBL.out.ext HB2.out).ck hck).x.1) (show iY w4.drew _ _ _ from (HTL.out.ext HB2.out).ck hck) HTOT.out).mono ?_;rintro e w5 ⟨v,rfl,hb5,_,hrow⟩;obtain⟨hs,hrow,hmap⟩:=hrow HRT.out;obtain⟨av,cv,rfl⟩:=hrow.1.form;have hb5:=lH hb5;have H65:=ac (H64.out.ext hb5);have HRC:=ac (hrow.1.recs RB);have HRX:Hid (∀y∈hs,(0<=y.r.e.to/\y.r.e.to<h.bn)/\(∃a n c,y.lv=.slice a n c)/\∃a n c,y.en=.slice a n c):=λy hy=>by
      have h1:=ld HRT.out (show y.r∈nR _ _ _ by rw[<-hmap];exact a8.2 ⟨y,hy,rfl⟩);rw[lA] at h1;have h2:(hOf bs).length=h.bn:=by unfold hOf;rw[cT];exact HBL.out.1.1
      rw[h2] at h1;obtain⟨h3,h4,_⟩:=hrow.2 y hy;obtain⟨a3,c3,e3⟩:=h3.form;obtain⟨a4,c4,e4⟩:=h4.form;exact⟨h1,⟨a3,_,c3,e3⟩,⟨a4,_,c4,e4⟩⟩
     have HMP:=ac hmap;refine⟨⟨⟨w5,hb5⟩,rfl⟩,?_⟩;clear hb5 hrow hmap hck H64
     repeat (go_big_quiet_step (fail))
     refine aq ?_;refine bR ?_;go_upto_region 13 with (fail)
     have hn1:Nonempty (fL w5):=⟨⟨w5,ag _ _⟩⟩
     have hck:=H65.out.ck;have g1:∀n:fL w5,n.val.cell? ⟨P,0,none⟩=some (.pointer (some ⟨C,0,none⟩)):=λn=>hck.x K1.out n;have g2:∀n:fL w5,n.val.cell? ⟨C,10,none⟩=some (.map (some (mm 4))):=λn=>hck.x (HCA.out 10 _ rfl) n;have g4:∀n:fL w5,C<n.val.heap.size:=λn=>hck.xl (HCA.out 6 _ rfl) n;refine jC (λw'=>∃n':fL w5,w'=n'.val) [(0,6,some (6,false))] (by kernel_rfl) (by kernel_rfl) ⟨⟨_,gB (ag _ _) 1⟩,rfl⟩ ?_;simp only[lS,ap,aD,am,aw]
     repeat (go_big_quiet_step (fail))
     refine aq ?_;clear g1 g2 g4 hn1;refine fR rfl rfl ?_;go_simp;refine(KY h bs C (mm 4) _ av hs.length cv hs w5.drew (show jU w5.drew (mm 4) (λ_=>False) from H65.out.v 4 (by omega)) (show w5.drew.cell? _=_ from hck _ _ _ (HCA.out 0 _ rfl)) (show oR w5.drew _ _ _ from (HLV.out.1.ext HB2.out).ck hck) (show tI 5 csR w5.drew _ _ _ from HRC.out) HRX.out).mono ?_;rintro e w6 ⟨rfl,hv6,hg6⟩;have H66:=ac (H65.out.turn4 HAP.out (hv6.congr (q:=λy=>y∈rR bs (nR (fY (hOf bs)) (fI ls) (vY (fI ls) k))) λy=>by rw[HMP.out];simp) ⟨hg6.os,hg6.tape,hg6.output,hg6.size,hg6.block⟩);clear hv6 hg6 hck H65 HRC HRX HMP;refine bR ?_;go_upto_region 14 with (fail)
     have hn1:Nonempty (fL w6):=⟨⟨w6,ag _ _⟩⟩
     have hck:=H66.out.ck;have g1:∀n:fL w6,n.val.cell? ⟨P,0,none⟩=some (.pointer (some ⟨C,0,none⟩)):=λn=>hck.x K1.out n;have g2:∀n:fL w6,n.val.cell? ⟨C,3,none⟩=some (.slice h.pa h.pn h.pc):=λn=>hck.x (HCA.out 3 _ rfl) n;have g3:∀n:fL w6,n.val.cell? ⟨C,4,none⟩=some (.slice h.ba h.bn h.bc):=λn=>hck.x (HCA.out 4 _ rfl) n;have g5:∀n:fL w6,n.val.cell? ⟨C,5,none⟩=some (.slice h.ta h.tn h.tc):=λn=>hck.x (HCA.out 5 _ rfl) n;have g4:∀n:fL w6,C<n.val.heap.size:=λn=>hck.xl (HCA.out 6 _ rfl) n;refine jC (λw'=>∃n':fL w6,w'=n'.val) [(0,9,some (9,true)),(10,5,none)] (by kernel_rfl) (by kernel_rfl) ⟨⟨_,gB (ag _ _) 1⟩,rfl⟩ ?_;simp only[lS,ap,aD,am,aw]
     repeat (go_big_quiet_step (fail))
     refine aq ?_;clear g1 g2 g3 g4 g5 hn1;refine fR rfl rfl ?_;go_simp;refine(xr h.pa h.pn h.pc h.ba h.bn h.bc (hOf bs) h.ta h.tn h.tc ls k w6.drew (show lZ w6.drew _ _ _ from ((HBL.out.ext HB2.out).ck hck).x.1) (show iY w6.drew _ _ _ from (HTL.out.ext HB2.out).ck hck) HTOT.out).mono ?_;rintro e w7 ⟨v,rfl,hb5,_,hrow⟩;obtain⟨hs,hrow,hmap⟩:=hrow HRT.out;obtain⟨av,cv,rfl⟩:=hrow.1.form;have hb5:=lH hb5;have H67:=ac (H66.out.ext hb5);have HRC:=ac (hrow.1.recs RB);have HRX:Hid (∀y∈hs,(0<=y.r.e.to/\y.r.e.to<h.bn)/\(∃a n c,y.lv=.slice a n c)/\∃a n c,y.en=.slice a n c):=λy hy=>by
      have h1:=ld HRT.out (show y.r∈nR _ _ _ by rw[<-hmap];exact a8.2 ⟨y,hy,rfl⟩);rw[lA] at h1;have h2:(hOf bs).length=h.bn:=by unfold hOf;rw[cT];exact HBL.out.1.1
      rw[h2] at h1;obtain⟨h3,h4,_⟩:=hrow.2 y hy;obtain⟨a3,c3,e3⟩:=h3.form;obtain⟨a4,c4,e4⟩:=h4.form;exact⟨h1,⟨a3,_,c3,e3⟩,⟨a4,_,c4,e4⟩⟩
     have HMP:=ac hmap;refine⟨⟨⟨w7,hb5⟩,rfl⟩,?_⟩;clear hb5 hrow hmap hck H66
     repeat (go_big_quiet_step (fail))
     refine aq ?_;refine bR ?_;go_upto_region 15 with (fail)
     have hn1:Nonempty (fL w7):=⟨⟨w7,ag _ _⟩⟩
     have hck:=H67.out.ck;have g1:∀n:fL w7,n.val.cell? ⟨P,0,none⟩=some (.pointer (some ⟨C,0,none⟩)):=λn=>hck.x K1.out n;have g2:∀n:fL w7,n.val.cell? ⟨C,11,none⟩=some (.map (some (mm 5))):=λn=>hck.x (HCA.out 11 _ rfl) n;have g4:∀n:fL w7,C<n.val.heap.size:=λn=>hck.xl (HCA.out 6 _ rfl) n;refine jC (λw'=>∃n':fL w7,w'=n'.val) [(0,6,some (6,false))] (by kernel_rfl) (by kernel_rfl) ⟨⟨_,gB (ag _ _) 1⟩,rfl⟩ ?_;simp only[lS,ap,aD,am,aw]
     repeat (go_big_quiet_step (fail))
     refine aq ?_;clear g1 g2 g4 hn1;refine fR rfl rfl ?_;go_simp;refine(KY h bs C (mm 5) _ av hs.length cv hs w7.drew (show jU w7.drew (mm 5) (λ_=>False) from H67.out.v 5 (by omega)) (show w7.drew.cell? _=_ from hck _ _ _ (HCA.out 0 _ rfl)) (show oR w7.drew _ _ _ from (HLV.out.1.ext HB2.out).ck hck) (show tI 5 csR w7.drew _ _ _ from HRC.out) HRX.out).mono ?_;rintro e w8 ⟨rfl,hv6,hg6⟩;have H68:=ac (H67.out.turn5 HAP.out (hv6.congr (q:=λy=>y∈rR bs (nR (fY (hOf bs)) (fI ls) (EB (fI ls) k))) λy=>by rw[HMP.out];simp) ⟨hg6.os,hg6.tape,hg6.output,hg6.size,hg6.block⟩);clear hv6 hg6 hck H67 HRC HRX HMP;refine bR ?_;have d1:w8.cell? ⟨P,0,none⟩=some (.pointer (some ⟨C,0,none⟩)):=H68.out.ck _ _ _ K1.out;have d2:w8.cell? ⟨C,8,none⟩=some (.map (some (mm 2))):=H68.out.ck _ _ _ (HCA.out 8 _ rfl);have d3:=H68.out.ck.l (HCA.out 8 _ rfl)
     go_upto_region 18 with (first
      |(go_at_call 90
        refine(jp (mm 2) (λy=>y∈bl.flatMap (qW bs)) w8 (H68.out.v 2 (by omega))).mono ?_;rintro e w9 ⟨rfl,hv9,hb9⟩;have HV9:=ac hv9;have HB9:=ac hb9
        clear hv9 hb9)
      |(go_at_call 91
        refine(YC w8.heap.size (mm 0) (λy=>y∈bl.flatMap (qW bs)) (bl.flatMap (oT bs)++bl.flatMap (mZ ps bs)) P C w9 HV9.out (fZ HB9.out d1) (fZ HB9.out (H68.out.ck _ _ _ (HCA.out 6 _ rfl))) ((H68.out.v 0 (by omega)).ext HB9.out) (λe=>by have:=(H68.out.v 0 (by omega)).lt;omega)).mono ?_;rintro e w10 ⟨rfl,hv10,hg10⟩;have HV10:=ac hv10;have HG10:=ac hg10
        clear hv10 hg10))
     have H610:Hid (C6 w2 mm (p6 (λy=>y∈bl.flatMap (oT bs)++bl.flatMap (mZ ps bs)) (λy=>y∈bl.flatMap (mZ ps bs)) (λy=>y∈bl.flatMap (qW bs)) (λy=>y∈bl.flatMap (BO bs)) (λy=>y∈rR bs (nR (fY (hOf bs)) (fI ls) (vY (fI ls) k))) (λy=>y∈rR bs (nR (fY (hOf bs)) (fI ls) (EB (fI ls) k)))) w10):=
      (H68.out.ext HB9.out).other H68.out.ch.size (λj hj e=>by have:=(H68.out.v j hj).lt;omega) HV9.out HG10.out
     have HQ:Hid (jU w10 w8.heap.size λy=>y∈qP (bl.flatMap (qW bs)) (bl.flatMap (oT bs)++bl.flatMap (mZ ps bs))):=HV10.out.congr λy=>by unfold qP;rw[bI];simp
     generalize w8.heap.size=q9 at *;clear d1 d2 d3 HV9 HB9 HV10 HG10 H68;have HR0:Hid (nM (bl.flatMap (oT bs)++bl.flatMap (mZ ps bs))):=nM.append (nM.flat λb _=>uo bs b) HDV.out;have HR2':Hid (nM (bl.flatMap (qW bs))):=nM.flat λb _=>vy bs b;have HR3:Hid (nM (bl.flatMap (BO bs))):=nM.flat λb _=>yq bs b;have hn1:Nonempty (fL w10):=⟨⟨w10,ag _ _⟩⟩
     have hck:=H610.out.ck;have g1:∀n:fL w10,n.val.cell? ⟨P,0,none⟩=some (.pointer (some ⟨C,0,none⟩)):=λn=>hck.x K1.out n;have g2:∀n:fL w10,n.val.cell? ⟨C,6,none⟩=some (.map (some (mm 0))):=λn=>hck.x (HCA.out 6 _ rfl) n;have g3:∀n:fL w10,n.val.cell? ⟨C,7,none⟩=some (.map (some (mm 1))):=λn=>hck.x (HCA.out 7 _ rfl) n;have g4:∀n:fL w10,n.val.cell? ⟨C,8,none⟩=some (.map (some (mm 2))):=λn=>hck.x (HCA.out 8 _ rfl) n;have g5:∀n:fL w10,n.val.cell? ⟨C,9,none⟩=some (.map (some (mm 3))):=λn=>hck.x (HCA.out 9 _ rfl) n;have g6:∀n:fL w10,n.val.cell? ⟨C,10,none⟩=some (.map (some (mm 4))):=λn=>hck.x (HCA.out 10 _ rfl) n;have g7:∀n:fL w10,n.val.cell? ⟨C,11,none⟩=some (.map (some (mm 5))):=λn=>hck.x (HCA.out 11 _ rfl) n;have g8:∀n:fL w10,C<n.val.heap.size:=λn=>hck.xl (HCA.out 6 _ rfl) n;clear hck;refine jC (λw'=>∃n':fL w10,w'=n'.val) [(0,4,none),(5,4,none),(10,4,none),(15,4,none),(20,4,none),(25,4,none),(30,1,some (4,true)),(9,0,some (9,true)),(14,0,some (14,true)),(19,0,some (19,true)),(24,0,some (24,true)),(29,0,some (29,true)),(31,0,some (31,true)),(32,1,none),(33,0,some (33,false))] (by kernel_rfl) (by kernel_rfl) ⟨⟨_,gB (ag _ _) 1⟩,rfl⟩ ?_;simp only[lS,ap,aD,am,aw]
     repeat (first|refine aq ?_|go_big_quiet_step (fail))
     clear g1 g2 g3 g4 g5 g6 g7 g8 hn1;refine fR rfl rfl ?_;go_simp;refine(pK (mm 0) _ (bl.flatMap (oT bs)++bl.flatMap (mZ ps bs)) w10.drew (show jU w10.drew (mm 0) (λy=>y∈(bl.flatMap (oT bs)++bl.flatMap (mZ ps bs))) from (H610.out.v 0 (by omega))) (λ_=>bM) HR0.out).mono ?_;rintro e w11 ⟨v0,rfl,ho,hb⟩;have hb:=lH hb;have HBL1:Hid (Below w10.heap.size w10 w11):=hb;have HO0:Hid (gD w11 w10.heap.size v0 (kS (bl.flatMap (oT bs)++bl.flatMap (mZ ps bs)))):=ho;obtain⟨a0,c0,rfl⟩:=ho.form;refine⟨⟨⟨w11,HBL1.out⟩,rfl⟩,?_⟩;clear ho hb
     repeat (first|refine aq ?_|go_big_quiet_step (fail))
     refine fR rfl rfl ?_;go_simp;refine(pK (mm 1) _ (bl.flatMap (mZ ps bs)) w11 (show jU w11 (mm 1) (λy=>y∈(bl.flatMap (mZ ps bs))) from ((H610.out.ext HBL1.out).v 1 (by omega))) (λ_=>bM) HDV.out).mono ?_;rintro e w12 ⟨v1,rfl,ho,hb⟩;have HBL2:Hid (Below w10.heap.size w10 w12):=fC HBL1.out hb;have HBM1:=ac hb;have HO1:Hid (gD w12 w11.heap.size v1 (kS (bl.flatMap (mZ ps bs)))):=ho;obtain⟨a1,c1,rfl⟩:=ho.form;refine⟨⟨⟨w12,HBL2.out⟩,rfl⟩,?_⟩;clear ho hb
     repeat (first|refine aq ?_|go_big_quiet_step (fail))
     refine fR rfl rfl ?_;go_simp;refine(pK (mm 2) _ (bl.flatMap (qW bs)) w12 (show jU w12 (mm 2) (λy=>y∈(bl.flatMap (qW bs))) from ((H610.out.ext HBL2.out).v 2 (by omega))) (λ_=>bM) HR2'.out).mono ?_;rintro e w13 ⟨v2,rfl,ho,hb⟩;have HBL3:Hid (Below w10.heap.size w10 w13):=fC HBL2.out hb;have HBM2:=ac hb;have HO2:Hid (gD w13 w12.heap.size v2 (kS (bl.flatMap (qW bs)))):=ho;obtain⟨a2,c2,rfl⟩:=ho.form;refine⟨⟨⟨w13,HBL3.out⟩,rfl⟩,?_⟩;clear ho hb
     repeat (first|refine aq ?_|go_big_quiet_step (fail))
     refine fR rfl rfl ?_;go_simp;refine(pK (mm 3) _ (bl.flatMap (BO bs)) w13 (show jU w13 (mm 3) (λy=>y∈(bl.flatMap (BO bs))) from ((H610.out.ext HBL3.out).v 3 (by omega))) (λ_=>bM) HR3.out).mono ?_;rintro e w14 ⟨v3,rfl,ho,hb⟩;have HBL4:Hid (Below w10.heap.size w10 w14):=fC HBL3.out hb;have HBM3:=ac hb;have HO3:Hid (gD w14 w13.heap.size v3 (kS (bl.flatMap (BO bs)))):=ho;obtain⟨a3,c3,rfl⟩:=ho.form;refine⟨⟨⟨w14,HBL4.out⟩,rfl⟩,?_⟩;clear ho hb
     repeat (first|refine aq ?_|go_big_quiet_step (fail))
     refine fR rfl rfl ?_;go_simp;refine(pK (mm 4) _ (rR bs (nR (fY (hOf bs)) (fI ls) (vY (fI ls) k))) w14 (show jU w14 (mm 4) (λy=>y∈(rR bs (nR (fY (hOf bs)) (fI ls) (vY (fI ls) k)))) from ((H610.out.ext HBL4.out).v 4 (by omega))) (λ_=>bM) (WA bs _)).mono ?_;rintro e w15 ⟨v4,rfl,ho,hb⟩;have HBL5:Hid (Below w10.heap.size w10 w15):=fC HBL4.out hb;have HBM4:=ac hb;have HO4:Hid (gD w15 w14.heap.size v4 (kS (rR bs (nR (fY (hOf bs)) (fI ls) (vY (fI ls) k))))):=ho;obtain⟨a4,c4,rfl⟩:=ho.form;refine⟨⟨⟨w15,HBL5.out⟩,rfl⟩,?_⟩;clear ho hb
     repeat (first|refine aq ?_|go_big_quiet_step (fail))
     refine fR rfl rfl ?_;go_simp;refine(pK (mm 5) _ (rR bs (nR (fY (hOf bs)) (fI ls) (EB (fI ls) k))) w15 (show jU w15 (mm 5) (λy=>y∈(rR bs (nR (fY (hOf bs)) (fI ls) (EB (fI ls) k)))) from ((H610.out.ext HBL5.out).v 5 (by omega))) (λ_=>bM) (WA bs _)).mono ?_;rintro e w16 ⟨v5,rfl,ho,hb⟩;have HBL6:Hid (Below w10.heap.size w10 w16):=fC HBL5.out hb;have HBM5:=ac hb;have HO5:Hid (gD w16 w15.heap.size v5 (kS (rR bs (nR (fY (hOf bs)) (fI ls) (EB (fI ls) k))))):=ho;obtain⟨a5,c5,rfl⟩:=ho.form;refine⟨⟨⟨w16,HBL6.out⟩,rfl⟩,?_⟩;clear ho hb
     repeat (first|refine aq ?_|go_big_quiet_step (fail))
     refine fR rfl rfl ?_;go_simp;refine(pK q9 _ (qP (bl.flatMap (qW bs)) (bl.flatMap (oT bs)++bl.flatMap (mZ ps bs))) w16 (show jU w16 q9 (λy=>y∈(qP (bl.flatMap (qW bs)) (bl.flatMap (oT bs)++bl.flatMap (mZ ps bs)))) from (HQ.out.ext HBL6.out)) (λ_=>bM) (VI HR2'.out _)).mono ?_;rintro e w17 ⟨v6,rfl,ho,hb⟩;have HBL7:Hid (Below w10.heap.size w10 w17):=fC HBL6.out hb;have HBM6:=ac hb;have HO6:Hid (gD w17 w16.heap.size v6 (kS (qP (bl.flatMap (qW bs)) (bl.flatMap (oT bs)++bl.flatMap (mZ ps bs))))):=ho;obtain⟨a6,c6,rfl⟩:=ho.form;refine⟨⟨⟨w17,HBL7.out⟩,rfl⟩,?_⟩;clear ho hb
     repeat (first|refine aq ?_|go_big_quiet_step (fail))
     refine fR rfl rfl ?_;have hsz:=H610.out.ch.size;have hS2:=HSZ.out;have hz2:=fE HR2.out.2;have hz10:w10.heap[P+1]? =some TJ:=(H610.out.ch.block _ hz2 λ⟨j,hj,e⟩=>by have:=HMM.out j hj;omega).trans HR2.out.2;have hz17:=fB HBL7.out hz10;have hC17:w17.heap[C]? =some (PZ h (some (mm 0)) (some (mm 1)) (some (mm 2)) (some (mm 3)) (some (mm 4)) (some (mm 5))):=fB HBL7.out ((H610.out.ch.block _ (fE HC2.out) λ⟨j,hj,e⟩=>(H60.out.v j hj).ne HC2.out e).trans HC2.out);have hcg:Chg (λj=>j=C) w w17:=((HCG.out.thn H610.out.ch λq ⟨j,hj,e⟩=>.inr (by have:=HMM.out j hj;omega)).of_ext HBL7.out)
     refine eQ 39 _ _ rfl (P+1) #[.slice a0 _ c0,.slice a1 _ c1,.slice a2 _ c2,.slice a3 _ c3,.slice a4 _ c4,.slice a5 _ c5,.slice a6 _ c6] rfl rfl 39 _ hz17 OB rfl (by simp[Value.oneCell']) ?_;refine bR ?_;have hr18:=bt w17 (P+1) _ #[.slice a0 (kS (bl.flatMap (oT bs)++bl.flatMap (mZ ps bs))).length c0,.slice a1 (kS (bl.flatMap (mZ ps bs))).length c1,.slice a2 (kS (bl.flatMap (qW bs))).length c2,.slice a3 (kS (bl.flatMap (BO bs))).length c3,.slice a4 (kS (rR bs (nR (fY (hOf bs)) (fI ls) (vY (fI ls) k)))).length c4,.slice a5 (kS (rR bs (nR (fY (hOf bs)) (fI ls) (EB (fI ls) k)))).length c5,.slice a6 (kS (qP (bl.flatMap (qW bs)) (bl.flatMap (oT bs)++bl.flatMap (mZ ps bs)))).length c6] _ _ hz17;generalize hw18:World.setRow _ _ _=w18 at hr18|-;have hc18:Chg (λj=>j=P+1) w17 w18:=by rw[<-hw18];exact⟨rfl,rfl,rfl,by simp[World.setRow],λj _ hne=>cC _ _ _ _ hne⟩
     have OW:∀{W:World} {B:Nat} {v:Value} {xs:List Int},gD W B v xs->P+2<=B->Below W.heap.size W w17->gD w18 P v xs:=λ{W B v xs} ho hB hb=>
      let h1:=(ho.ext hb).mono (show P<=B by omega)
      ⟨iL h1.1 hc18 (λg e hS=>by have:=(ho.1.lt g e).1;omega),h1.2⟩
     clear hw18;go_wp2;have HE:IF (fI ls) k=bl:=by
      unfold IF;rw[show(fI ls).getD k ⟨0,0,[]⟩=t.d from tK ls k t HT.out,HBE.out]
     have hb67:=HBM6.out;have hb57:=fC HBM5.out hb67;have hb47:=fC HBM4.out hb57;have hb37:=fC HBM3.out hb47;have hb27:=fC HBM2.out hb37;have hb17:=fC HBM1.out hb27;have z0:=HBL1.out.size;have z1:=HBM1.out.size;have z2:=HBM2.out.size;have z3:=HBM3.out.size;have z4:=HBM4.out.size;have z5:=HBM5.out.size;have z6:=HBM6.out.size;have r0:=by have:=aZ _ _ 0 _ _ _ hr18;exact this
     have r1:=by have:=aZ _ _ 1 _ _ _ hr18;exact this
     have r2:=by have:=aZ _ _ 2 _ _ _ hr18;exact this
     have r3:=by have:=aZ _ _ 3 _ _ _ hr18;exact this
     have r4:=by have:=aZ _ _ 4 _ _ _ hr18;exact this
     have r5:=by have:=aZ _ _ 5 _ _ _ hr18;exact this
     have r6:=by have:=aZ _ _ 6 _ _ _ hr18;exact this
     refine aR (v:=.agg #[.slice a0 (kS (bl.flatMap (oT bs)++bl.flatMap (mZ ps bs))).length c0,.slice a1 (kS (bl.flatMap (mZ ps bs))).length c1,.slice a2 (kS (bl.flatMap (qW bs))).length c2,.slice a3 (kS (bl.flatMap (BO bs))).length c3,.slice a4 (kS (rR bs (nR (fY (hOf bs)) (fI ls) (vY (fI ls) k)))).length c4,.slice a5 (kS (rR bs (nR (fY (hOf bs)) (fI ls) (EB (fI ls) k)))).length c5,.slice a6 (kS (qP (bl.flatMap (qW bs)) (bl.flatMap (oT bs)++bl.flatMap (mZ ps bs)))).length c6]) (by simp[results,Tryz.results33,asAddr,r0,r1,r2,r3,r4,r5,r6,go_sem]) rfl ?_;refine⟨λj=> [Value.slice a0 (kS (bl.flatMap (oT bs)++bl.flatMap (mZ ps bs))).length c0,.slice a1 (kS (bl.flatMap (mZ ps bs))).length c1,.slice a2 (kS (bl.flatMap (qW bs))).length c2,.slice a3 (kS (bl.flatMap (BO bs))).length c3,.slice a4 (kS (rR bs (nR (fY (hOf bs)) (fI ls) (vY (fI ls) k)))).length c4,.slice a5 (kS (rR bs (nR (fY (hOf bs)) (fI ls) (EB (fI ls) k)))).length c5,.slice a6 (kS (qP (bl.flatMap (qW bs)) (bl.flatMap (oT bs)++bl.flatMap (mZ ps bs)))).length c6].getD j (.slice none 0 0),λj=>some (mm j),rfl,?_,yo (b:=λj=> [w10.heap.size,w11.heap.size,w12.heap.size,w13.heap.size,w14.heap.size,w15.heap.size,w16.heap.size,w17.heap.size].getD j 0) (KM z0 z1 z2 z3 z4 z5 z6) (KM (λq e=>HO0.out.1.lt q e) (λq e=>HO1.out.1.lt q e) (λq e=>HO2.out.1.lt q e) (λq e=>HO3.out.1.lt q e) (λq e=>HO4.out.1.lt q e) (λq e=>HO5.out.1.lt q e) (λq e=>HO6.out.1.lt q e)),(hc18.block C (fE hC17) (by omega)).trans hC17,hcg.thn hc18 λq e=>.inr (by rw[hP,e];omega)⟩;rw[hP];unfold setM;simp only[HE,vz];exact KM (OW HO0.out (by omega) hb17) (OW HO1.out (by omega) hb27) (OW HO2.out (by omega) hb37) (OW HO3.out (by omega) hb47) (OW HO4.out (by omega) hb57) (OW HO5.out (by omega) hb67) (OW HO6.out (by omega) (ag _ _))
end

section
open Go.RowKit
def Bm{σ α:Type}(P:Program)(gf:Nat)(lb:Array Value)(enc:α->Array Value)(ok:σ->α->Prop)(nx:σ->α->σ)(s0:σ)(Fin:σ->Prop)(Inv:σ->World->Prop):Prop:=
 ∀(l:Nat) (K:σ->World->Prop) (Kx:World->Prop) (T:World->Nat->Prop) (W0:World),
  (∀s W W' row,K s W->W.grownBy W' row->(∀q,row=some q->W0.heap.size<=q/\∃o:Obj,W.heap[q]? =some o/\AY o=true)->K s W')->(∀W W' row,Kx W->W.grownBy W' row->(∀q,row=some q->W0.heap.size<=q/\∃o:Obj,W.heap[q]? =some o/\AY o=true)->Kx W')->(∀s W,K s W->Inv s W)->
  (∀s W k,K s W->T W k->k<W.heap.size)->(∀s W W' row k,K s W->W.grownBy W' row->(∀q,row=some q->W0.heap.size<=q/\∃o:Obj,W.heap[q]? =some o/\AY o=true)->T W' k->T W k)->
  (∀s x W,ok s x->K s W->YieldAt Fence.wide 0 P l (enc x) W λe W'=>(e=.returned (.bool true)/\K (nx s x) W'/\Tch T W W')\/(e=.returned (.bool false)/\Kx W'))->
  K s0 W0->CallsIn Fence.wide 0 P gf (#[.func (.yield l) #[] #[]]++lb) W0 λe W'=>(∃v,e=.returned v)/\((∃s,Fin s/\K s W')\/Kx W')
theorem SH{P:Program}{σ α:Type}{g:Operand}{ps:Array Tmp}{assign body:Code}{Q:Exit->Act->World->Prop}{a:Act}{w:World}{gf:Nat}{lb:Array Value}
  (hg:a.eval g=.func (.func gf) #[] lb) (eg:∀args w,(callFunc gf args).run P w=.ok (.enter gf args) w)
  {enc:α->Array Value} {ok:σ->α->Prop} {nx:σ->α->σ} {s0:σ} {Fin:σ->Prop} {Inv:σ->World->Prop} (hit:Bm P gf lb enc ok nx s0 Fin Inv)
  (hps:∀x,(enc x).size=ps.size)
  (J:σ->World->Prop) (Jx:Code->World->Prop) (A:σ->α->Act->World->Prop)
  (hJ:∀s,gL w.heap.size (J s)) (hJx:∀c,gL w.heap.size (Jx c)) (hA:∀s x a,gL w.heap.size (A s x a)) (hInv:∀s W,J s W->Inv s W)
  (T:World->Nat->Prop) (hT0:∀s W k,J s W->T W k->k<W.heap.size) (hTg:∀W W' row,W.grownBy W' row->(∀r,row=some r->w.heap.size<=r/\∃o:Obj,W.heap[r]? =some o/\AY o=true)->(∃s,J s W)->∀k,T W' k->T W k)
  (h0:J s0 w)
  (hassign:∀(l:Nat) (s:σ) (x:α) (W:World),ok s x->J s W->
    assign.wpIn (Fence.wide.inRound l) 0 P (Exit.then (λa1 W1=>gC W W1/\J s W1/\A s x a1 W1/\Tch T W W1) (λ_ _ _=>False)) {tmps:=(ps.zip (enc x)).foldl (λt (p,v)=>t.setIfInBounds p v) a.tmps,defers:= []} W)
  (hbody:∀(l:Nat) (s:σ) (x:α) (a1:Act) (W:World),ok s x->J s W->A s x a1 W->
    body.wpIn (Fence.wide.inRound l) 0 P (iQ (λW'=>gC W W'/\J (nx s x) W'/\Tch T W W') (λc W'=>gC W W'/\Jx c W')) a1 W)
  (hdone:∀(D:Nat) (s:σ) (W:World),w.heap.size<=D->Fin s->J s W->W.heap[D]? =some (.deferred (some []))->Q .normal {a with defers:={target:=.collected D,args:=#[]} :: a.defers} W)
  (hstop:∀(D:Nat) (c:Code) (W:World),w.heap.size<=D->Jx c W->W.heap[D]? =some (.deferred (some []))->c.wpIn Fence.wide 0 P Q {a with defers:={target:=.collected D,args:=#[]} :: a.defers} W):
  (Code.rangeFunc g ps assign body).wpIn Fence.wide 0 P Q a w:=by
 refine sD hg eg λR W1 hb1 hz h1 hy=>(hit (w.heap.size+1) (λs W=>J s W/\LD R w.heap.size .ready none W) (λW=>∃c,Jx c W/\LD R w.heap.size .done (some c) W) (λW k=>T W k\/k=w.heap.size+1\/k=w.heap.size) W1
  (λs A B row h hg hr=>by rw[hz] at hr;exact⟨hJ s A B row h.1 hg λr e=>⟨by grind,(hr r e).2⟩,h.2.grown hg hr⟩)
  (λA B row ⟨c,h1,h2⟩ hg hr=>by rw[hz] at hr;exact⟨c,hJx c A B row h1 hg λr e=>⟨by grind,(hr r e).2⟩,h2.grown hg hr⟩) (λs W h=>hInv s W h.1)
  (λs W k h ht=>ht.elim (hT0 s W k h.1) λe=>e.elim (λe=>e▸h.2.1.lt) λe=>e▸(au.1 h.2.2).1)
  (λs A B row k h hg hr ht=>ht.imp (hTg A B row hg (λr e=>⟨by grind,(hr r e).2⟩) ⟨s,h.1⟩ k) id)
  (λs x W hok ⟨hi,hl⟩=>hy hl.1 (hps x) (hassign _ s x W hok hi) λa1 V ⟨hkp,hiV,hAV,hTV⟩=>
    have lV:LD _ _ _ _ _:=hl.keep hkp;have t1:=hTg _ _ _ (lN V (w.heap.size+1) (.loop (R .busy none))) (λr hr=>by cases hr;exact⟨by omega,_,lV.1,rfl⟩) ⟨s,hiV⟩
    ⟨lV.1,λl2=>cD (hbody _ s x a1 _ hok ((hJ s).put _ hiV (by omega) lV.1 rfl) ((hA s x a1).put _ hAV (by omega) lV.1 rfl))
     (mK (λW3 ⟨hk3,hi3,hT3⟩=>have l3:LD _ _ _ _ _:=(LD.put lV).keep hk3;⟨l3.1,.inl ⟨rfl,⟨(hJ _).put _ hi3 (by omega) l3.1 rfl,l3.put⟩,wP (.inl rfl) hTV hT3 t1 (hTg _ _ _ (lN W3 _ _) (λr hr=>by cases hr;exact⟨by omega,_,l3.1,rfl⟩) ⟨_,hi3⟩)⟩⟩)
       λc W3 ⟨hk3,hi3⟩=>have l3:LD _ _ _ _ _:=(LD.put lV).keep hk3;⟨l3.1,.inr ⟨rfl,c,(hJx c).put _ hi3 (by omega) l3.1 rfl,l3.put⟩⟩)⟩)
  ⟨(hJ s0).ext h0 hb1,h1⟩).mono ?_
 rintro e W2 ⟨hv,(⟨s,hS,hi,hl⟩|⟨c,hi,hl⟩)⟩
 .exact⟨hv,.inl ⟨hl.1,λo=>hdone _ s _ (aj _) hS ((hJ s).put _ hi (by omega) hl.1 rfl) ((bo (by omega)).trans hl.2)⟩⟩
 .exact⟨hv,.inr ⟨c,hl.1,λo=>hstop _ c _ (aj _) ((hJx c).put _ hi (by omega) hl.1 rfl) ((bo (by omega)).trans hl.2)⟩⟩
def Co{α:Type}(P:Program)(gf:Nat)(lb:Array Value)(enc:α->Array Value)(l:List α)(I:World->Prop):Prop:=
 Bm P gf lb enc okL nxL l sf (λ_ W=>I W)
section
variable {P:Program}
theorem Bo{α:Type}{g:Operand}{ps:Array Tmp}{assign body:Code}{Q:Exit->Act->World->Prop}{a:Act}{w:World}{gf:Nat}{lb:Array Value}
  (hg:a.eval g=.func (.func gf) #[] lb) (eg:∀args w,(callFunc gf args).run P w=.ok (.enter gf args) w)
  {enc:α->Array Value} {l:List α} (I:World->Prop) (hit:Co P gf lb enc l I) (hps:∀x,(enc x).size=ps.size)
  (J:List α->List α->World->Prop) (Jx:Code->World->Prop)
  (hJ:∀d r,gL w.heap.size (J d r)) (hJx:∀c,gL w.heap.size (Jx c)) (hInv:∀d r W,J d r W->I W)
  (T:World->Nat->Prop) (hT0:∀d r W k,J d r W->T W k->k<W.heap.size) (hTg:∀W W' row,W.grownBy W' row->(∀q,row=some q->w.heap.size<=q/\∃o:Obj,W.heap[q]? =some o/\AY o=true)->(∃d r,J d r W)->∀k,T W' k->T W k)
  (h0:J [] l w)
  (hround:∀(lp:Nat) (d:List α) (x:α) (r:List α) (W:World),l=d++x :: r->J d (x :: r) W->
    assign.wpIn (Fence.wide.inRound lp) 0 P (Exit.then (λa1 W1=>gC W W1/\J d (x :: r) W1/\Tch T W W1/\∃G:World->Prop,gL w.heap.size G/\G W1/\∀(lp:Nat) (W2:World),J d (x :: r) W2->G W2->
     body.wpIn (Fence.wide.inRound lp) 0 P (iQ (λW'=>gC W2 W'/\J (d++ [x]) r W'/\Tch T W2 W') (λc W'=>gC W2 W'/\Jx c W')) a1 W2) (λ_ _ _=>False)) {tmps:=(ps.zip (enc x)).foldl (λt (p,v)=>t.setIfInBounds p v) a.tmps,defers:= []} W)
  (hdone:∀(D:Nat) (W:World),w.heap.size<=D->J l [] W->W.heap[D]? =some (.deferred (some []))->Q .normal {a with defers:={target:=.collected D,args:=#[]} :: a.defers} W)
  (hstop:∀(D:Nat) (c:Code) (W:World),w.heap.size<=D->Jx c W->W.heap[D]? =some (.deferred (some []))->c.wpIn Fence.wide 0 P Q {a with defers:={target:=.collected D,args:=#[]} :: a.defers} W):
  (Code.rangeFunc g ps assign body).wpIn Fence.wide 0 P Q a w:=by
 refine SH (enc:=enc) hg eg hit hps (λs W=>∃d,l=d++s/\J d s W) Jx
  (λs x a1 W=>∃G:World->Prop,gL w.heap.size G/\G W/\∀(d:List α) (lp:Nat) (W2:World),l=d++s->J d s W2->G W2->body.wpIn (Fence.wide.inRound lp) 0 P (iQ (λW'=>gC W2 W'/\J (d++ [x]) (nxL s x) W'/\Tch T W2 W') (λc W'=>gC W2 W'/\Jx c W')) a1 W2)
  (λs=>gL.ex λd=>(gL.pure _ _).and (hJ d s)) hJx (λ_ _ _=>λW W' row h hg hr=>let ⟨G,h1,h2,h3⟩:=h;⟨G,h1,h1 W W' row h2 hg hr,h3⟩) (λs W ⟨d,_,h⟩=>hInv d s W h) T (λs W k ⟨d,_,h⟩ ht=>hT0 d s W k h ht) (λW W' row hg hr ⟨s,d,_,h⟩=>hTg W W' row hg hr ⟨d,s,h⟩) ⟨[],rfl,h0⟩ ?_ ?_ ?_ hstop
 .rintro lp s x W hok ⟨d,hd,hj⟩;have hs:=lL hok;generalize nxL s x=r at hs|-;subst hs;refine cD (hround lp d x r W hd hj) ?_;rintro e a1 W1 he;cases e with
  |normal=>
   obtain⟨h1,h2,hT1,G,h4,h5,h3⟩:=he;refine⟨h1,⟨d,hd,h2⟩,⟨G,h4,h5,λd' lp' W2 hd' hj' hG'=>?_⟩,hT1⟩;have:d'=d:=by
    have:=hd'.symm.trans hd;exact cW this
   subst this;exact h3 lp' W2 hj' hG'
  |_=>exact he.elim
 .rintro lp s x a1 W hok ⟨d,hd,hj⟩ ⟨G,_,hG,hA⟩;refine cD (hA d lp W hd hj hG) ?_;rintro e a3 W3 he;cases e with
  |normal=>
   refine⟨he.1,⟨d++ [x],?_,he.2.1⟩,he.2.2⟩;rw[hd,cd]
   congr 1
   exact lL hok
  |ret=>exact he
  |exit id=>exact he
  |goto t=>exact he
  |panic ch=>exact he.elim
  |outgrown=>exact he.elim
 .rintro D s W hD hf ⟨d,hd,hj⟩ hk;subst hf;rw[ct] at hd;subst hd;exact hdone D W hD hj hk
end
def FV(B:Nat)(W W':World):Prop:=∀k,(k=B\/k=B+1)->W'.heap[k]? =W.heap[k]?
theorem SG{P:Program}{σ α:Type}{g:Operand}{ps:Array Tmp}{assign body:Code}{Q:Exit->Act->World->Prop}{a:Act}{w:World}{gf:Nat}{lb:Array Value}
  (hg:a.eval g=.func (.func gf) #[] lb) (eg:∀args w,(callFunc gf args).run P w=.ok (.enter gf args) w)
  {enc:α->Array Value} {ok:σ->α->Prop} {nx:σ->α->σ} {s0:σ} {Fin:σ->Prop} {Inv:σ->World->Prop} (hit:m0 P gf lb enc ok nx s0 Fin Inv)
  (hps:∀x,(enc x).size=ps.size)
  (J:σ->World->Prop) (Jx:Code->World->Prop) (A:σ->α->Act->World->Prop)
  (hJ:∀s,gL w.heap.size (J s)) (hJx:∀c,gL w.heap.size (Jx c)) (hA:∀s x a,gL w.heap.size (A s x a)) (hInv:∀s W,J s W->Inv s W)
  (h0:J s0 w)
  (hassign:∀(l:Nat) (s:σ) (x:α) (W:World),w.heap.size+1<W.heap.size->ok s x->J s W->
    assign.wpIn (Fence.wide.inRound l) 0 P (Exit.then (λa1 W1=>FV w.heap.size W W1/\J s W1/\A s x a1 W1) (λ_ _ _=>False)) {tmps:=(ps.zip (enc x)).foldl (λt (p,v)=>t.setIfInBounds p v) a.tmps,defers:= []} W)
  (hbody:∀(l:Nat) (s:σ) (x:α) (a1:Act) (W:World),w.heap.size+1<=l->(∃r,W.heap[l]? =some (.loop r))->ok s x->J s W->A s x a1 W->
    body.wpIn (Fence.wide.inRound l) 0 P (iQ (λW'=>FV w.heap.size W W'/\J (nx s x) W') (λc W'=>FV w.heap.size W W'/\Jx c W')) a1 W)
  (hdone:∀(D:Nat) (s:σ) (W:World),w.heap.size<=D->Fin s->J s W->W.heap[D]? =some (.deferred (some []))->Q .normal {a with defers:={target:=.collected D,args:=#[]} :: a.defers} W)
  (hstop:∀(D:Nat) (c:Code) (W:World),w.heap.size<=D->Jx c W->W.heap[D]? =some (.deferred (some []))->c.wpIn Fence.wide 0 P Q {a with defers:={target:=.collected D,args:=#[]} :: a.defers} W):
  (Code.rangeFunc g ps assign body).wpIn Fence.wide 0 P Q a w:=by
 refine sD hg eg λR W1 hb1 _ h1 hy=>(hit (w.heap.size+1) (λs W=>J s W/\LD R w.heap.size .ready none W) (λW=>∃c,Jx c W/\LD R w.heap.size .done (some c) W) W1
  (λs A B h hb=>⟨(hJ s).ext h.1 hb,h.2.ext hb⟩) (λA B ⟨c,h1,h2⟩ hb=>⟨c,(hJx c).ext h1 hb,h2.ext hb⟩) (λs W h=>hInv s W h.1)
  (λs x W hok ⟨hi,hl⟩=>hy hl.1 (hps x) (hassign _ s x W hl.1.lt hok hi) λa1 V ⟨hkp,hiV,hAV⟩=>
    have lV:LD _ _ _ _ _:=⟨(hkp _ (.inr rfl)).trans hl.1,(hkp _ (.inl rfl)).trans hl.2⟩
    ⟨lV.1,λl2=>cD (hbody _ s x a1 _ (by omega) ⟨_,l2⟩ hok ((hJ s).put _ hiV (by omega) lV.1 rfl) ((hA s x a1).put _ hAV (by omega) lV.1 rfl))
     (mK (λW3 ⟨hk3,hi3⟩=>have l3:LD _ _ _ _ _:=⟨(hk3 _ (.inr rfl)).trans (LD.put lV).1,(hk3 _ (.inl rfl)).trans (LD.put lV).2⟩;⟨l3.1,.inl ⟨rfl,(hJ _).put _ hi3 (by omega) l3.1 rfl,l3.put⟩⟩)
       λc W3 ⟨hk3,hi3⟩=>have l3:LD _ _ _ _ _:=⟨(hk3 _ (.inr rfl)).trans (LD.put lV).1,(hk3 _ (.inl rfl)).trans (LD.put lV).2⟩;⟨l3.1,.inr ⟨rfl,c,(hJx c).put _ hi3 (by omega) l3.1 rfl,l3.put⟩⟩)⟩)
  ⟨(hJ s0).ext h0 hb1,h1⟩).mono ?_
 rintro e W2 ⟨hv,(⟨s,hS,hi,hl⟩|⟨c,hi,hl⟩)⟩
 .exact⟨hv,.inl ⟨hl.1,λo=>hdone _ s _ (aj _) hS ((hJ s).put _ hi (by omega) hl.1 rfl) ((bo (by omega)).trans hl.2)⟩⟩
 .exact⟨hv,.inr ⟨c,hl.1,λo=>hstop _ c _ (aj _) ((hJx c).put _ hi (by omega) hl.1 rfl) ((bo (by omega)).trans hl.2)⟩⟩
theorem XD{P:Program}{α:Type}{g:Operand}{ps:Array Tmp}{assign body:Code}{Q:Exit->Act->World->Prop}{a:Act}{w:World}{gf:Nat}{lb:Array Value}
  (hg:a.eval g=.func (.func gf) #[] lb) (eg:∀args w,(callFunc gf args).run P w=.ok (.enter gf args) w)
  {enc:α->Array Value} {l:List α} (I:World->Prop) (hit:uU P gf lb enc l I) (hps:∀x,(enc x).size=ps.size)
  (J:List α->List α->World->Prop) (Jx:Code->World->Prop)
  (hJ:∀d r,gL w.heap.size (J d r)) (hJx:∀c,gL w.heap.size (Jx c)) (hInv:∀d r W,J d r W->I W)
  (h0:J [] l w)
  (hround:∀(lp:Nat) (d:List α) (x:α) (r:List α) (W:World),w.heap.size+1<W.heap.size->l=d++x :: r->J d (x :: r) W->
    assign.wpIn (Fence.wide.inRound lp) 0 P (Exit.then (λa1 W1=>FV w.heap.size W W1/\J d (x :: r) W1/\∃G:World->Prop,gL w.heap.size G/\G W1/\∀(lp:Nat) (W2:World),w.heap.size+1<W2.heap.size->J d (x :: r) W2->G W2->
     body.wpIn (Fence.wide.inRound lp) 0 P (iQ (λW'=>FV w.heap.size W2 W'/\J (d++ [x]) r W') (λc W'=>FV w.heap.size W2 W'/\Jx c W')) a1 W2) (λ_ _ _=>False)) {tmps:=(ps.zip (enc x)).foldl (λt (p,v)=>t.setIfInBounds p v) a.tmps,defers:= []} W)
  (hdone:∀(D:Nat) (W:World),w.heap.size<=D->J l [] W->W.heap[D]? =some (.deferred (some []))->Q .normal {a with defers:={target:=.collected D,args:=#[]} :: a.defers} W)
  (hstop:∀(D:Nat) (c:Code) (W:World),w.heap.size<=D->Jx c W->W.heap[D]? =some (.deferred (some []))->c.wpIn Fence.wide 0 P Q {a with defers:={target:=.collected D,args:=#[]} :: a.defers} W):
  (Code.rangeFunc g ps assign body).wpIn Fence.wide 0 P Q a w:=by
 refine SG (enc:=enc) hg eg hit hps (λs W=>∃d,l=d++s/\J d s W) Jx
  (λs x a1 W=>∃G:World->Prop,gL w.heap.size G/\G W/\∀(d:List α) (lp:Nat) (W2:World),w.heap.size+1<W2.heap.size->l=d++s->J d s W2->G W2->body.wpIn (Fence.wide.inRound lp) 0 P (iQ (λW'=>FV w.heap.size W2 W'/\J (d++ [x]) (nxL s x) W') (λc W'=>FV w.heap.size W2 W'/\Jx c W')) a1 W2)
  (λs=>gL.ex λd=>(gL.pure _ _).and (hJ d s)) hJx (λ_ _ _=>λW W' row h hg hr=>let ⟨G,h1,h2,h3⟩:=h;⟨G,h1,h1 W W' row h2 hg hr,h3⟩) (λs W ⟨d,_,h⟩=>hInv d s W h) ⟨[],rfl,h0⟩ ?_ ?_ ?_ hstop
 .rintro lp s x W hz hok ⟨d,hd,hj⟩;have hs:=lL hok;generalize nxL s x=r at hs|-;subst hs;refine cD (hround lp d x r W hz hd hj) ?_;rintro e a1 W1 he;cases e with
  |normal=>
   obtain⟨h1,h2,G,h4,h5,h3⟩:=he;refine⟨h1,⟨d,hd,h2⟩,⟨G,h4,h5,λd' lp' W2 hz' hd' hj' hG'=>?_⟩⟩;have:d'=d:=by
    have:=hd'.symm.trans hd;exact cW this
   subst this;exact h3 lp' W2 hz' hj' hG'
  |_=>exact he.elim
 .rintro lp s x a1 W hlp ⟨r0,hr0⟩ hok ⟨d,hd,hj⟩ ⟨G,_,hG,hA⟩;refine cD (hA d lp W (by have:=(au.1 hr0).1;omega) hd hj hG) ?_;rintro e a3 W3 he;cases e with
  |normal=>
   refine⟨he.1,⟨d++ [x],?_,he.2⟩⟩;rw[hd,cd]
   congr 1
   exact lL hok
  |ret=>exact he
  |exit id=>exact he
  |goto t=>exact he
  |panic ch=>exact he.elim
  |outgrown=>exact he.elim
 .rintro D s W hD hf ⟨d,hd,hj⟩ hk;subst hf;rw[ct] at hd;subst hd;exact hdone D W hD hj hk
end
end Go.Proofs.YtbknbcmppdglhaaGreatDoor
