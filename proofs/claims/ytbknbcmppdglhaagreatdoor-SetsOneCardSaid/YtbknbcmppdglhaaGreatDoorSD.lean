/-
 The document's answer to layer 16:Of. (Printed by gen_ue.py out of of16_text.txt.)
-/
import Derived.Test.YtbknbcmppdglhaaGreatDoorA0
import Derived.Test.YtbknbcmppdglhaaGreatDoorTH
import Derived.Test.YtbknbcmppdglhaaGreatDoorSC
import Derived.Test.YtbknbcmppdglhaaGreatDoorUC
import Derived.Test.YtbknbcmppdglhaaGreatDoorUD
import Derived.Test.YtbknbcmppdglhaaGreatDoorOwnR
import Derived.Test.YtbknbcmppdglhaaGreatDoorER
import Derived.Deep.Onto
import Derived.Test.YtbknbcmppdglhaaGreatDoorSA
import Derived.Test.YtbknbcmppdglhaaGreatDoorQT
import Derived.Test.YtbknbcmppdglhaaGreatDoorEE
import Derived.Test.YtbknbcmppdglhaaGreatDoorSortI
import Derived.Outline
import Derived.Deep.Light
import Derived.Test.YtbknbcmppdglhaaGreatDoorPB
import Derived.Deep.DeepCutAuto
import Derived.Deep.CutBlock
import Derived.BigQuiet
import Derived.Test.YtbknbcmppdglhaaGreatDoorTK
import Derived.Test.YtbknbcmppdglhaaGreatDoorFreeL
namespace Go.Proofs.YtbknbcmppdglhaaGreatDoor
set_option linter.unusedSimpArgs false
set_option linter.unusedVariables false
set_option linter.unusedSectionVars false
set_option maxRecDepth 100000
set_option maxHeartbeats 40000000
section
open Go.RowKit
theorem vD{ps:List Int}{bs:List iA}(h:mF ps bs=0):rC ps.length bs.length (hOf bs)=false/\kJ ps bs=true/\qZ bs=true:=by
 unfold mF at h
 split at h
 .cases h
 .rename_i h1
  split at h
  .cases h
  .rename_i h2
   split at h
   .cases h
   .rename_i h3
    refine⟨by simpa using h1,by simpa using h2,?_⟩;cases hx:qZ bs with
    |true=>rfl
    |false=>rw[hx] at h3;simp at h3
abbrev iG:Value:=.slice none 0 0
abbrev yz(n:Nat):Obj:=.cells (rB n λ_=>iG) 22 (0,0)
theorem vk(n:Nat):madeCells #[iG] n=rB n λ_=>iG:=by
 apply de
 intro j
 by_cases hj:j<n
 .simp[madeCells,rB,hj,Nat.mod_one]
 .rw[bZ (by simp[madeCells];omega),bZ (by simp[rB];omega)]
theorem ZC:(Tryz.prog.info? 22).map (λi=>(i.zero,i.size,i.bytes))=some (some iG,1,24):=by kernel_rfl
theorem Ci:(Tryz.prog.info? 49).map (λi=>(i.zero,i.size,i.bytes))=some (some iG,1,24):=by kernel_rfl
theorem Ab(n:Nat)(hn:n<=1000000)(w:World):(Instr.makeSlice 49 (.int .i64 (n:Int)) (.int .i64 (n:Int))).run Tryz.prog w=.ok (.slice (some ⟨w.heap.size,0,none⟩) n n) (w.alloc (yz n)):=by
 have:=run_make_row' (P:=Tryz.prog) 49 22 iG 24 fw ZC rfl .i64 .i64 n (by omega) (by omega) w
 rwa [vk] at this
section
variable {p:Nat->Nat->Int->Bool} {u:Nat} {D:Nat->Nat->Bool}
end
section
variable {w:World} {fo:Obj} {n R0 R1 R2 PL A0:Nat} {m:Nat->Nat} {xs:Nat->Nat->List Int} {W W':World}
theorem AU{a b c:World}{row:Option Nat}(h:a.grownBy b row)(k:b.grownBy c row):a.grownBy c row:=
 ⟨k.os.trans h.os,k.tape.trans h.tape,k.output.trans h.output,aT h.size k.size,λj hj hn=>(k.block j (bw hj h.size) hn).trans (h.block j hj hn)⟩
theorem vK(w:World)(row:Option Nat):w.grownBy w.drew row:=⟨rfl,rfl,rfl,aj _,λ_ _ _=>rfl⟩
end
section
variable {w:World} {fo:Obj} {n R0 R1 R2 PL A0:Nat} {m:Nat->Nat} {k:Nat} {W:World}
end
end

section
open Go.RowKit
theorem oy(x:iA)(i:Nat){v:Int}(h:iM ((bkL x).ops.drop i) (bkL x).nd v=1):1<=v/\v<=200:=by
 have:=FL [{x with rs:=x.rs.drop i}] 0 (by simp[kF]) v
 refine this ?_
 rw[qD (b:={x with rs:=x.rs.drop i}) (by rfl),<-h]
 show iM ((x.rs.drop i).map λr=>(⟨gV r.d,gM r.d⟩:OpL)) _ _=iM ((x.rs.map λr=>(⟨gV r.d,gM r.d⟩:OpL)).drop i) _ _
 rw[List.map_drop]
 rfl
theorem gz{bs:List iA}{inn out:Nat->Nat}(hl:qR (gN bs) inn out)(he:ZH (gN bs) inn out)(hti:qZ bs=true){k:Nat}{x:iA}(hx:bs[k]? =some x):
  fN (lT 1024 (inn k))=vP (gN bs) k/\fN (lT 1024 (out k))=tX (gN bs) k/\∀i,fN (lT 1024 (qJ x.h.t (out k) (x.rs.drop i)))=atL (gN bs) k i:=by
 have hto:=tJ hti
 have hvr:=FL bs
 have hk:k<(gN bs).length:=by rw[kF];exact(aE.1 hx).1
 have hd:=λ(j:Nat) (hj:j<1024)=>hl.done hto he.1 he.2 hj hk
 have hbk:iB (gN bs) k=bkL x:=qD hx
 have hov:∀j:Nat,sK (gN bs) (j:Int) k->1<=(j:Int)/\(j:Int)<=200:=λj ⟨c,hc,h⟩=>LG hvr hto (hto k hk c hc) h
 have hob:∀j:Nat,j<1024->wU (out k) (j:Int)=TW (gN bs) (j:Int) k:=λj hj=>by
  rw[sX,cS,wN hto _ hk];exact(hd j hj).2
 refine⟨EN λj hj=>?_,EN λj hj=>?_,λi=>EN λj hj=>?_⟩
 .rw[(hd j hj).1,AP hto _ hk];exact⟨λh=>by have:=LG hvr hto hk h;exact⟨by omega,by omega,h⟩,λh=>h.2.2⟩
 .rw[(hd j hj).2,wN hto _ hk];exact⟨λh=>by have:=hov j h;exact⟨by omega,by omega,h⟩,λh=>h.2.2⟩
 .have e:(qJ x.h.t (out k) (x.rs.drop i)).testBit j=atP (gN bs) k i (j:Int):=by
   rw[BW _ _ _ hj,List.map_drop,atP,hbk];show nI ((bkL x).ops.drop i) (bkL x).nd _ _=_;rw[nF,nF,hob j hj]
  rw[e];refine⟨λh=>?_,λh=>h.2.2⟩;have h1:=h;rw[atP,nF,hbk] at h1;simp only[bW,aB,aN] at h1;rcases h1 with h1|h1
  .have:=oy x i h1;exact⟨by omega,by omega,h⟩
  .have:=hov j ((wN hto _ hk).1 h1.2);exact⟨by omega,by omega,h⟩
section
variable {w:World} {fo:Obj} {bs:List BkL} {n R0 R1 PF:Nat} {inn out:Nat->Nat} {vI vO vA:Value} {gs:Nat->Nat} {kI kO kA:Nat} {W W':World} {row:Option Nat}
theorem LfJ.ia(h:LfJ w fo bs n R0 R1 PF inn out vI vO vA gs kI kO kA W):∀q,vI.ownBlock=some q->w.heap.size+2<=q/\q≠PF/\R0≠q/\R1≠q:=λq e=>by
 obtain⟨h1,_,cs,f,h3⟩:=h.gI.lt e
 obtain⟨a1,_,a3,a4,_⟩:=h.sets.2 q cs _ f h3 (.inl rfl)
 exact⟨h1,a1,a3,a4⟩
theorem LfJ.oa(h:LfJ w fo bs n R0 R1 PF inn out vI vO vA gs kI kO kA W):∀q,vO.ownBlock=some q->w.heap.size+2<=q/\q≠PF/\R0≠q/\R1≠q:=λq e=>by
 obtain⟨h1,_,cs,f,h3⟩:=h.gO.lt e
 obtain⟨a1,_,a3,a4,_⟩:=h.sets.2 q cs _ f h3 (.inl rfl)
 exact⟨h1,a1,a3,a4⟩
theorem LfJ.cls(h:LfJ w fo bs n R0 R1 PF inn out vI vO vA gs kI kO kA W)(hr:∀q,row=some q->w.heap.size+2<=q/\q≠PF/\R0≠q/\R1≠q)(hg:W.grownBy W' row):
  W'.heap[w.heap.size+1]? =some (BE vI vO vA)/\W'.heap[PF]? =some (BF n R0 R1)/\uO W' (w.heap.size+2) (.slice (some ⟨R0,0,none⟩) n n) n inn/\uO W' (w.heap.size+2) (.slice (some ⟨R1,0,none⟩) n n) n out:=
 ⟨(hg.block _ (fE h.lv) λe=>by have:=(hr _ e.symm).1;omega).trans h.lv,(hg.block _ (fE h.fl) λe=>(hr _ e.symm).2.1 rfl).trans h.fl,
   iP.kept h.inn hg (EI λq e he=>by simp only[Value.ownBlock,aW] at he;exact(hr q e).2.2.1 he),iP.kept h.out hg (EI λq e he=>by simp only[Value.ownBlock,aW] at he;exact(hr q e).2.2.2 he)⟩
end
theorem EZ{W W':World}{base:Nat}{e:TypeId}{size:Nat}{v:Value}{n:Nat}{xs:List Value}(h:W.ownsRow base e size v n xs)(hg:W.grownBy W' v.ownBlock):gC W W':=λk o hk hb=>
 (hg.block k (fE hk) λe=>by
   obtain⟨cs,f,h3⟩:=EH h e.symm;rw[h3] at hk;cases hk
   cases hb).trans hk
theorem FI{α:Type}(n:Nat)(f:Nat->α):pV n f++ [f n]=pV (n+1) f:=by simp[pV,cm]
theorem jf{α:Type}{n:Nat}{f g:Nat->α}(h:∀k,k<n->f k=g k):pV n f=pV n g:=by
 unfold pV
 exact dA λk hk=>h k (aQ.1 hk)
theorem OK{W:World}{base:Nat}{e:TypeId}{size:Nat}{v:Value}{n:Nat}{xs:List Value}(h:W.ownsRow base e size v n xs):∃a c,v=.slice a n c:=by
 rcases h.2 with ⟨rfl,h0⟩|⟨g,cap,cur,rfl,_⟩
 .exact⟨none,0,by rw[h0]⟩
 .exact⟨_,cap,rfl⟩
section
variable {w:World} {fo:Obj} {bs:List BkL} {n R0 R1 PF:Nat} {inn out:Nat->Nat} {vI vO vA:Value} {gs:Nat->Nat} {kI kO kA:Nat} {W W':World}
theorem Aw{W:World}{q:Nat}{o:Obj}(hq:W.heap[q]? =some o)(ho:nH o=true):∀cs t f,W.heap[q]?≠some (.cells cs t f):=λcs t f e=>by
 rw[hq] at e
 cases e
 cases ho
theorem LfJ.steady{B:Nat}(hB:w.heap.size+2<=B):fG B (LfJ w fo bs n R0 R1 PF inn out vI vO vA gs kI kO kA):=λW V row h hg hr=>
 h.keep hg λq e=>by
  obtain⟨h2,o,h3,h4⟩:=hr q e;have hb:=Aw h3 h4;refine⟨by omega,λe2=>?_,λcs f=>hb cs _ f,λcs f=>hb cs _ f,λe2=>?_,λe2=>?_,λe2=>?_,λe2=>?_,λj hj e2=>?_⟩
  .subst e2;exact hb _ _ _ h.fl
  .obtain⟨cs,f,h5⟩:=IP h.inn;subst e2;exact hb _ _ _ h5
  .obtain⟨cs,f,h5⟩:=IP h.out;subst e2;exact hb _ _ _ h5
  .obtain⟨_,_,cs,f,h5⟩:=h.gI.lt e2;exact hb _ _ _ h5
  .obtain⟨_,_,cs,f,h5⟩:=h.gO.lt e2;exact hb _ _ _ h5
  .obtain⟨us,h5,_⟩:=h.tb j hj;subst e2;exact hb _ _ _ h5
theorem LfJ.post{ai ao aA:Option Addr}{ci co cA:Nat}(h:LfJ w fo bs n R0 R1 PF inn out (.slice ai n ci) (.slice ao n co) (.slice aA n cA) gs n n n W):BI W bs n ⟨ai,ci,ao,co,aA,cA⟩:=by
 refine⟨?_,?_,λj hj=>?_⟩
 .have:=h.gI.at_ (f:=vP bs) λk hk=>AG (by rwa [iR] at hk)
  rwa [iR] at this
 .have:=h.gO.at_ (f:=tX bs) λk hk=>AG (by rwa [iR] at hk)
  rwa [iR] at this
 .obtain⟨g,c',e⟩:∃g c',(Value.slice aA n cA)=.slice (some ⟨g,0,none⟩) n c':=rK h.gA (by omega);injection e with e _ _;subst e;refine⟨g,0,some ⟨gs j,0,none⟩,atN bs j,rfl,?_,(h.tb j hj).at_⟩;have:=dH h.gA j (by omega);rw[bQ,this,AG hj];rfl
end
structure IZ(w:World)(fo:Obj)(bs:List BkL)(n R0 R1 PF:Nat)(inn out:Nat->Nat)(vI vO vA:Value)(gs:Nat->Nat)(k:Nat)(x:iA)(TG P7 S0 hi:Nat)(ds:List Deferred)(m:Nat)(W:World):Prop where
 f:LfJ w fo bs n R0 R1 PF inn out vI vO vA gs (k+1) (k+1) k W
 t:wV W (w.heap.size+2) TG (x.h.n+1) m (atL bs k)
 p7:W.heap[P7]? =some (.cells #[.slice (some ⟨TG,0,none⟩) (x.h.n+1) (x.h.n+1)] 49 (0,0))
 s0:W.heap[S0]? =some (oA x.h)
 s1:W.heap[S0+1]? =some (bsO (out k))
 ma:lU (w.heap.size+2) hi ds W
section
variable {w:World} {fo:Obj} {bs:List BkL} {n R0 R1 PF:Nat} {inn out:Nat->Nat} {vI vO vA:Value} {gs:Nat->Nat} {k:Nat} {x:iA} {TG P7 S0 hi m:Nat} {ds:List Deferred} {W W':World} {row:Option Nat}
theorem IZ.steadyO{B:Nat}(hf:vQ fo=false)(hB:w.heap.size+2<=B)(h0:R0<B)(h1:R1<B)(hp:PF<B)(ht:TG<B)(hh:hi<=B)(hs:S0+1<B):iC B (IZ w fo bs n R0 R1 PF inn out vI vO vA gs k x TG P7 S0 hi ds m):=λW V row h hg hr=>by
 refine⟨LfJ.steadyO hf hB h0 h1 hp W V row h.f hg hr,h.t.kept hg (λe=>by have:=(hr _ e).1;omega) λq e=>?_,GW h.p7 rfl hg hr,GW h.s0 rfl hg hr,iC.low hs _ W V row h.s1 hg hr,?_⟩
 .obtain⟨_,o,h3,h4⟩:=hr q e;exact(l8 h3 h4).1
 .obtain⟨Ds,e,hn,hD⟩:=h.ma;refine⟨Ds,e,hn,λD hm=>⟨(hD D hm).1,(hD D hm).2.1,?_⟩⟩;have h2:=(hD D hm).2.2;refine(hg.block D (fE h2) λe=>?_).trans h2;have h3:=(hr D e.symm).1;have h4:=(hD D hm).2.1;omega
theorem IZ.ext(h:IZ w fo bs n R0 R1 PF inn out vI vO vA gs k x TG P7 S0 hi ds m W)(hb:Below W.heap.size W W'):IZ w fo bs n R0 R1 PF inn out vI vO vA gs k x TG P7 S0 hi ds m W':=
 ⟨h.f.ext hb,h.t.ext hb,fB hb h.p7,fB hb h.s0,fB hb h.s1,h.ma.keep (gC.ext hb)⟩
theorem IZ.put(h:IZ w fo bs n R0 R1 PF inn out vI vO vA gs k x TG P7 S0 hi ds (m+1) W)(hm:m<x.h.n+1)(hg2:w.heap.size+2<=TG)(hI:vI.ownBlock≠some TG)(hO:vO.ownBlock≠some TG)(hgs:∀j,j<k->gs j≠TG)(hT:TG≠P7/\TG≠S0/\TG≠S0+1){u:Value}(hu:gD W (w.heap.size+2) u (atL bs k m)):
  IZ w fo bs n R0 R1 PF inn out vI vO vA gs k x TG P7 S0 hi ds m (W.setCell ⟨TG,m,none⟩ u)/\W.frozen? ⟨TG,m,none⟩=false/\(∃z,W.cell? ⟨TG,m,none⟩=some z)/\TG<W.heap.size:=by
 obtain⟨t1,t2,t3⟩:=h.t.put hm hu
 obtain⟨us,h5,_⟩:=h.t
 refine⟨⟨h.f.fill ⟨_,_,h5⟩ hg2 hI hO hgs,t1,?_,?_,?_,h.ma.keep (gC.setCell _ _ _)⟩,t2,t3,fE h5⟩
 .rw[aU _ _ _ _ (by simpa using λe=>hT.1 e.symm)];exact h.p7
 .rw[aU _ _ _ _ (by simpa using λe=>hT.2.1 e.symm)];exact h.s0
 .rw[aU _ _ _ _ (by simpa using λe=>hT.2.2 e.symm)];exact h.s1
end
theorem LfJ.start{w:World}{fo:Obj}{bs:List BkL}{n R0 R1 PF:Nat}{inn out:Nat->Nat}{W:World}(h1:W.heap[w.heap.size]? =some fo)(h2:W.heap[w.heap.size+1]? =some (BE iG iG iG))(h3:W.heap[PF]? =some (BF n R0 R1))
  (h4:uO W (w.heap.size+2) (.slice (some ⟨R0,0,none⟩) n n) n inn) (h5:uO W (w.heap.size+2) (.slice (some ⟨R1,0,none⟩) n n) n out) (hb:Below w.heap.size w W):LfJ w fo bs n R0 R1 PF inn out iG iG iG (λ_=>0) 0 0 0 W:=
 ⟨h1,h2,h3,h4,h5,kZ.nil _ _,kZ.nil _ _,ft _ _ _ _,λj hj=>absurd hj (by omega),λj hj=>absurd hj (by omega),λj hj=>absurd hj (by omega),λq e=>(by cases e),hb⟩
end

section
open Go.RowKit Go.Shelf
attribute [local go_sem] Oper.semAt_some iF gH gS fX
theorem ru(n S:Nat):(lT n S).length<=n:=by
 have:=bX S.testBit (List.range n)
 simpa[lT] using this
def AJB(w:World)(S:Nat)(xs:List Int)(W:World):Prop:=
 ∃v,W.heap[w.heap.size+1]? =some (.cells #[v] 22 (0,0))/\gD W (w.heap.size+3) v xs/\W.heap[w.heap.size+1+1]? =some (bsO S)/\Below w.heap.size w W
theorem AJB.steady{w:World}{S:Nat}{xs:List Int}{D:Nat}(hD:w.heap.size<=D):fG D (AJB w S xs):=by
 unfold AJB
 exact fG.ex λv=>(fG.block _ _ rfl).and ((fG.ownI _ _ _ _).and ((fG.block _ _ rfl).and (fG.below (aj _) hD)))
theorem FN(S:Nat)(w:World)(hT:Tab w):Calls Tryz.prog 52 #[.agg (iW S)] w (mT w (fN (lT 1024 S))):=by
 refine(bu (n:=0)).1 ?_
 refine cu Tryz.func52 rfl trivial ?_
 simp only[Tryz.ntmps52,bd,bk,bx,Nat.reduceAdd,Nat.reduceSub,bF,bG,bV,bN,bD,bU]
 obtain⟨W0,hW0⟩:∃W0,W0=(w.alloc (bsO S)).alloc (.cells #[.slice none 0 0] 22 (0,0)):=⟨_,rfl⟩
 have hb0:W0.heap[w.heap.size]? =some (bsO S):=by rw[hW0,aG _ _ _ (by simp)];exact ae _ _
 have hb1:W0.heap[w.heap.size+1]? =some (.cells #[.slice none 0 0] 22 (0,0)):=by
  rw[hW0];have:=ae (w.alloc (bsO S)) (.cells #[.slice none 0 0] 22 (0,0));simpa using this
 have hB0:Below w.heap.size w W0:=by rw[hW0];exact((ag _ w).alloc (aj _) _).alloc (by simp) _
 have hs0:W0.heap.size=w.heap.size+1+1:=by rw[hW0];simp
 obtain⟨W1,hW1⟩:∃W1,W1=W0.alloc (bsO S):=⟨_,rfl⟩
 have h11:W1.heap[w.heap.size+1]? =some (.cells #[.slice none 0 0] 22 (0,0)):=by rw[hW1,aG _ _ _ (by omega)];exact hb1
 have h12:W1.heap[w.heap.size+1+1]? =some (bsO S):=by rw[hW1,<-hs0];exact ae _ _
 have hB1:Below w.heap.size w W1:=by rw[hW1];exact hB0.alloc (by omega) _
 have hs1:W1.heap.size=w.heap.size+3:=by rw[hW1];simp[hs0]
 have HT:=ac hT
 have HW0:=ac hW0
 have HW1:=ac hW1
 have HS0:=ac hs0
 have HB0:=ac hb0
 have H11:=ac h11
 have H12:=ac h12
 have HBB:=ac hB1
 have HS1:=ac hs1
 clear hT hW0 hW1 hb0 hb1 hB0 hs0 h11 h12 hB1 hs1
 gi_wp2_with (first
  |(rw[<-HW0.out];refine iS rfl 124 _ rfl w.heap.size rfl 124 _ (0,0) _ HB0.out bK rfl (by rw[iE];exact iX) ?_)
  |(gi_at_call 143
    refine(bu.2 (ry S W0)).mono ?_;rw[<-HW1.out,HS0.out]
    rintro e w2 ⟨rfl,rfl⟩))
 refine sC (ps:=#[6]) (gf:=219) (lb:=#[.pointer (some ⟨w.heap.size+1+1,0,none⟩)]) (enc:=rU) (l:=lT 1024 S) rfl YA _ (YP S (w.heap.size+1+1)) (λ_=>rfl)
  (λd r W=>Hid (AJB w S (fN d) W))
  (λ_ _=>False)
  (λd r=>AJB.steady (by rw[HS1.out];omega)) (λc=>fG.pure _ _) (λd r W h=>by obtain⟨v,_,_,h3,hb⟩:=h.out;exact⟨h3,HT.out.ext hb⟩) ?start ?round ?done ?stop
 case start=>exact⟨_,H11.out,gD.nil _ _,H12.out,HBB.out⟩
 case round=>
  rintro lp d x r W hd hJ;unfold rU
  gi_wp2
  refine⟨gC.refl _,hJ,?_⟩;clear hJ lp W;rintro lp W hJ;obtain⟨v,hv,ho,hbx,hb⟩:=hJ.out;obtain⟨av,cv,rfl⟩:=ho.form;obtain⟨hc0,hf0⟩:=cz 0 hv rfl;have HO:=ac ho;have HV:=ac hv;have HB:=ac hb;have HBX:=ac hbx;have hws:w.heap.size+3<=W.heap.size:=by have:=(au.1 hbx).1;omega
  have hlen:(fN d).length<=1000000:=by
   have h1:=ru 1024 S;rw[hd] at h1;simp[fN] at h1|-;omega
  clear hv ho hb hJ hbx
  gi_wp2_with (
   (gi_at_builtin
    refine oM (by repeat (first|exact gZ|refine iK ?_|refine hU ?_)) _ _ _ rfl ?_;refine jI rfl W (.tmp 7) (.tmp 9) 22 3 rfl (w.heap.size+3) _ 1 8 be pY rfl (by omega) (.slice av (fN d).length cv) (fN d).length _ [.int .i64 (x:Int)] rfl HO.out.1 W.heap.size rfl rfl rfl (by simp[Value.oneCell']) (by simp only[maxLen];omega) (by omega) (by omega) ?_;intro g cap w2 hown2 hg2 hat2;have HO2:=ac hown2;have HG2:=ac hg2;have HA2:=ac hat2;have hv2:=fQ hg2 HV.out (λe=>by have:=(HO.out.1.lt _ e).1;omega);have hx2:=fQ hg2 HBX.out (λe=>by have:=(HO.out.1.lt _ e).1;omega);obtain⟨hc2,hf2⟩:=cz 0 hv2 rfl;have hlt2:w.heap.size+1<w2.heap.size:=(au.1 hv2).1;have HV2:=ac hv2;have HX2:=ac hx2
    clear hown2 hg2 hat2 hv2 hx2 hc0 hf0))
  go_wp2;have hb2:Below w.heap.size w w2:=HB.out.grown HG2.out HB.out.size (λk e=>by have:=(HO.out.1.lt k e).1;omega);have hgb:w.heap.size+3<=g:=by
   rcases HA2.out with h|h
   .exact(HO.out.1.lt g h.symm).1
   .omega
  have hd2:fN (d++ [x])=fN d++ [(x:Int)]:=by simp[fN]
  have hx3:(w2.setCell ⟨w.heap.size+1,0,none⟩ (.slice (some ⟨g,0,none⟩) ((fN d).length+1) cap)).heap[w.heap.size+1+1]? =some (bsO S):=by rw[aU _ _ _ _ (by simp)];exact HX2.out
  refine⟨(gC.grown HG2.out (sE HO.out.1)).trans (gC.setCell _ _ _),?_⟩;refine⟨_,by have:=aC w2 (w.heap.size+1) 0 _ _ (.slice (some ⟨g,0,none⟩) ((fN d).length+1) cap) HV2.out;simpa using this,?_,hx3,?_⟩
  .rw[hd2];refine gD.kept (row:=some (w.heap.size+1)) (w:=w2) ⟨?_,?_,by simp;omega⟩ (fU w2 (w.heap.size+1) 0 _) (.inr (by simp[Value.ownBlock];omega))
   .have:=HO2.out;simpa[fP] using this
   .intro z hz;rcases ax.1 hz with h|h
    .exact HO.out.2.1 z h
    .simp only[bz] at h;subst h;have h2:x∈lT 1024 S:=by rw[hd];simp
     have:=(yk.1 h2).1;unfold I64;omega
  .exact hb2.setCell (by simp) _
 case done=>
  rintro D W hD hJ hK;obtain⟨v,hv,ho,hbx,hb⟩:=hJ.out;obtain⟨av,cv,rfl⟩:=ho.form;obtain⟨hc0,hf0⟩:=cz 0 hv rfl;have hDl:w.heap.size+3<=D:=by have:=HS1.out;omega
  have hv2:(W.setCell ⟨w.heap.size+1,0,none⟩ (.slice av (fN (lT 1024 S)).length cv)).heap[w.heap.size+1]? =some (.cells #[.slice av (fN (lT 1024 S)).length cv] 22 (0,0)):=by
   have:=aC W (w.heap.size+1) 0 _ _ (.slice av (fN (lT 1024 S)).length cv) hv;simpa using this
  have hJ2:AJB w S (fN (lT 1024 S)) (W.setCell ⟨w.heap.size+1,0,none⟩ (.slice av (fN (lT 1024 S)).length cv)):=by
   refine⟨_,hv2,ho.kept (fU W (w.heap.size+1) 0 _) ?_,?_,hb.setCell (by simp) _⟩
   .cases ha:(Value.slice av (fN (lT 1024 S)).length cv).ownBlock with
    |none=>exact .inl rfl
    |some q=>exact .inr (by have:=(ho.1.lt q ha).1;simp;omega)
   .rw[aU _ _ _ _ (by simp)];exact hbx
  have hK2:(W.setCell ⟨w.heap.size+1,0,none⟩ (.slice av (fN (lT 1024 S)).length cv)).heap[D]? =some (.deferred (some [])):=by
   rw[aU _ _ _ _ (by simp;omega)];exact hK
  obtain⟨v4,hv4,ho4,_,hb4⟩:=(AJB.steady (w:=w) (S:=S) (xs:=fN (lT 1024 S)) (D:=w.heap.size) (aj _)).put (.deferred none) (l:=D) hJ2 (by omega) hK2 rfl;have HV4:=ac hv4;have HO4:=ac ho4;have HB4:=ac hb4;have HK2:=ac hK2;clear hv ho hb hJ hbx hv2 hJ2 hK2 hv4 ho4 hb4 hK
  gi_wp2
  refine⟨by simp,.inl ⟨_,_,rfl,cM HK2.out,?_⟩⟩;have hc4:((W.setCell ⟨w.heap.size+1,0,none⟩ (.slice av (fN (lT 1024 S)).length cv)).putObj D (.deferred none)).cell? ⟨w.heap.size+1,0,none⟩=some v4:=cR HV4.out rfl;exact⟨v4,by simp[results,Tryz.results52,go_sem,hc4],_,rfl,HO4.out.mono (by omega),HB4.out⟩
 case stop=>rintro D c W hD h;exact h.elim
end
end Go.Proofs.YtbknbcmppdglhaaGreatDoor
