/-
 Records of sets of a call's own;what tiles that stand hold.
-/
import Derived.Test.YtbknbcmppdglhaaGreatDoorA0
import Derived.Test.YtbknbcmppdglhaaGreatDoorRangeB
import Derived.Test.YtbknbcmppdglhaaGreatDoorVN
import Derived.Test.YtbknbcmppdglhaaGreatDoorEK
import Derived.Test.YtbknbcmppdglhaaGreatDoorPB
import Derived.Test.YtbknbcmppdglhaaGreatDoorSC
import Derived.Test.YtbknbcmppdglhaaGreatDoorTH
import Derived.Deep.Cut
import Derived.Deep.CutRange
import Derived.Deep.DeepCutAuto
namespace Go.Proofs.YtbknbcmppdglhaaGreatDoor
set_option linter.unusedSimpArgs false
set_option linter.unusedVariables false
set_option linter.unusedSectionVars false
set_option maxRecDepth 100000
set_option maxHeartbeats 40000000
section
open Go.RowKit
theorem t6{ts:List fS}{l:List fT}(h:gY ts l=true):l.length<=200:=by
 simp only[gY,aB,aN,db,aV,aQ] at h
 exact h.1.1.1.1.2
theorem zN{ts:List fS}{l:List fT}(h:gY ts l=true){k:Nat}{t:fT}(ht:l[k]? =some t):∀v∈t.blocks,0<=v/\v<ts.length:=by
 intro v hv
 simp only[gY,aB,aN,db,aV,aQ] at h
 have hk:=(aE.1 ht).1
 have h1:=(h.2 k hk).1
 simp only[nN,aB] at h1
 have e:l.getD k oG=t:=by rw[ak,ht];rfl
 rw[e] at h1
 have h2:=h1.2
 simp only[qC,aV,aQ,aB,aN] at h2
 obtain⟨i,hi,rfl⟩:=List.getElem_of_mem hv
 have h3:=(h2 i hi).1
 rw[ak,ah hi] at h3
 exact h3
structure tW where
 v:Nat->Value
 d:MZ
def qH(s:tW):List Value:= [s.v 0,s.v 1,s.v 2,s.v 3,s.v 4,s.v 5,s.v 6]
theorem yS(s:tW):(qH s).length=7:=rfl
def mG(W:World)(B:Nat)(v:Value)(ls:List tW):Prop:=
 iP 39 7 qH W B v ls/\∀s∈ls,∀j,j<7->gD W B (s.v j) (s.d.rows.getD j [])
def Cn(W:World)(B:Nat)(v:Value)(ds:List MZ):Prop:=∃ls:List tW,ls.map (·.d)=ds/\mG W B v ls
section
variable {W W':World} {B:Nat} {v:Value} {ls:List tW} {row:Option Nat}
theorem mG.nil(W:World)(B:Nat):mG W B (.slice none 0 0) []:=⟨iP.nil _ _ _ _ _,λs h=>by cases h⟩
theorem mG.mono{B':Nat}(h:mG W B v ls)(hb:B'<=B):mG W B' v ls:=⟨iP.mono h.1 hb,λs hs j hj=>(h.2 s hs j hj).mono hb⟩
theorem mG.chg{S:Nat->Prop}(h:mG W B v ls)(hc:Chg S W W')(hv:∀q,v.ownBlock=some q->¬S q)(ht:∀q,S q->gW W 3 q):mG W' B v ls:=
 ⟨⟨iL h.1.1 hc hv,h.1.2⟩,λs hs j hj=>(h.2 s hs j hj).chgT hc ht⟩
theorem mG.ty(h:mG W B v ls){q:Nat}(hq:v.ownBlock=some q):∃cs f,W.heap[q]? =some (.cells cs 39 f):=EH h.1.1 hq
theorem mG.push{s:tW}{g cap:Nat}(h:mG W B v ls)(hown:W'.ownsRow B 39 7 (.slice (some ⟨g,0,none⟩) (ls.length+1) cap) (ls.length+1) (ls.flatMap qH++qH s))(hg:W.grownBy W' v.ownBlock)(hl:ls.length<=1000000)(hs:∀j,j<7->gD W B (s.v j) (s.d.rows.getD j [])):
  mG W' B (.slice (some ⟨g,0,none⟩) (ls.length+1) cap) (ls++ [s]):=by
 have ht:∀q,v.ownBlock=some q->gW W 3 q:=λq e=>by
  obtain⟨cs,f,h3⟩:=h.ty e;exact gW.of h3 (by decide)
 refine⟨⟨by simpa[cw] using hown,by simp;omega⟩,λs' hs' j hj=>?_⟩
 rcases ax.1 hs' with h1|h1
 .exact(h.2 s' h1 j hj).keptT hg ht
 .rw[bz] at h1;subst h1;exact(hs j hj).keptT hg ht
end
end

section
theorem HH{nd:List Int}{out:Int->Bool}{v:Int}:∀(ops:List OpL) (i:Nat),nI (ops.drop i) nd out v=true->nI ops nd out v=true\/pZ ops v=true
 |ops,0,h=>.inl h
 | [],i+1,h=>.inl (by simpa using h)
 |o :: l,i+1,h=>by
  rw[am] at h;by_cases e:o.df=v
  .right;simp[pZ,e]
  .rcases HH l i h with h|h
   .left;unfold nI;simp[h,e]
   .right;unfold pZ at *;rw[List.any_cons,h,Bool.or_true]
theorem KP{nd:List Int}{v:Int}:∀ops:List OpL,iM ops nd v<=2/\(iM ops nd v=2->pZ ops v=true)/\(iM ops nd v=0->pZ ops v=false)
 | []=>by unfold iM;split<;>simp[pZ]
 |o :: l=>by
  have ih:=KP (nd:=nd) (v:=v) l;unfold iM
  split
  .simp
  .split
   .rename_i h
    simp[pZ,h]
   .rename_i h
    refine⟨ih.1,λe=>?_,λe=>?_⟩
    .unfold pZ at *;rw[List.any_cons,ih.2.1 e,Bool.or_true]
    .have:=ih.2.2 e;unfold pZ at *;rw[List.any_cons,this];simpa using h
theorem gw{bs:List BkL}{v:Int}{b:Nat}(h:sK bs v b)(hd:pZ (iB bs b).ops v=false):rF bs v b:=by
 obtain⟨h1,h2,_⟩:=KP (nd:=(iB bs b).nd) (v:=v) (iB bs b).ops
 refine(CB bs v b).2 ?_
 have:iM (iB bs b).ops (iB bs b).nd v=0\/iM (iB bs b).ops (iB bs b).nd v=1\/iM (iB bs b).ops (iB bs b).nd v=2:=by omega
 rcases this with e|e|e
 .exact .inr ⟨e,h⟩
 .exact .inl e
 .rw[h2 e] at hd;cases hd
section
variable {ps:List Int} {bs:List iA} {l:List fT} {k b:Nat} {v:Int}
theorem RE(hb:b<bs.length):∃x,bs[b]? =some x/\(fY (hOf bs)).getD b nB=x.h.t/\iB (gN bs) b=bkL x:=
 ⟨bs[b],ah hb,QP _ _ _ (by simp[hOf,hb]),qD (ah hb)⟩
theorem CO:(fY (hOf bs)).length=bs.length:=by simp[fY,hOf]
theorem Al{x:kD}(h:x∈vT (fY (hOf bs))):0<=x.fr/\x.fr.toNat<bs.length/\x.to.toNat∈(iB (gN bs) x.fr.toNat).to:=by
 obtain⟨b,j,hb,hj,rfl⟩:=(LH _ _).1 h
 rw[CO] at hb
 obtain⟨y,_,h2,h3⟩:=RE hb
 refine⟨Int.natCast_nonneg _,by simpa using hb,?_⟩
 show _∈(iB (gN bs) ((b:Int)).toNat).to
 rw[dr,h3]
 rw[h2] at hj|-
 exact a8.2 ⟨_,by rw[ak,ah hj];exact bJ hj,rfl⟩
theorem VE(hrt:gY (fY (hOf bs)) l=true)(hb:b<bs.length):(k<l.length/\b∈IF l k)↔oF l b=k:=by
 rw[<-lj (AL hrt) (by rw[CO];exact hb) k]
 refine and_congr_right λhk=>?_
 have e:nQ l k=((l.getD k ⟨0,0,[]⟩).blocks):=by
  simp only[nQ,ak,ah hk,eB]
 rw[e]
 unfold IF
 rw[a8]
 constructor
 .rintro⟨z,hz,rfl⟩;have:=zN hrt (k:=k) (t:=l[k]) (ah hk) z (by simpa[ak,ah hk] using hz)
  rwa [show((z.toNat:Nat):Int)=z by omega]
 .exact λh=>⟨_,h,by simp⟩
theorem Ay(hrt:gY (fY (hOf bs)) l=true)(hk:k<l.length)(h:b∈IF l k):b<bs.length:=by
 unfold IF at h
 obtain⟨z,hz,rfl⟩:=a8.1 h
 have:=zN hrt (k:=k) (t:=l[k]) (ah hk) z (by simpa[ak,ah hk] using hz)
 rw[CO] at this
 omega
theorem vq{ask:kD->Bool}{r:QD}:r∈nR (fY (hOf bs)) l ask↔∃x∈vT (fY (hOf bs)),oF l x.fr.toNat≠oF l x.to.toNat/\ask x=true/\BB l x=r:=by
 simp only[nR,a8,bI,BH,aB,bne_iff_ne,ne_eq]
 constructor
 .rintro⟨x,⟨h1,h2,h3⟩,h4⟩;exact⟨x,h1,h2,h3,h4⟩
 .rintro⟨x,h1,h2,h3,h4⟩;exact⟨x,⟨h1,h2,h3⟩,h4⟩
theorem kq(hti:qZ bs=true)(hb:b<bs.length):v∈vP (gN bs) b↔1<=v/\v<=200/\rF (gN bs) v b:=by
 unfold vP
 rw[wM,AP (tJ hti) v (by rw[kF];exact hb)]
theorem UI(hti:qZ bs=true)(hb:b<bs.length):v∈tX (gN bs) b↔1<=v/\v<=200/\sK (gN bs) v b:=by
 unfold tX
 rw[wM,wN (tJ hti) v (by rw[kF];exact hb)]
theorem An(hb:b<bs.length)(hv:1<=v)(h:pZ (iB (gN bs) b).ops v=true):v∈mZ ps bs b:=by
 obtain⟨x,h1,_,h3⟩:=RE hb
 rw[h3] at h
 unfold pZ bkL at h
 simp only[List.any_map,eA,Function.comp_apply,aN] at h
 obtain⟨r,hr,e⟩:=h
 refine ax.2 (.inr (bI.2 ⟨a8.2 ⟨r,by unfold qQ;rw[h1];exact hr,e⟩,by simp;omega⟩))
theorem vx(hti:qZ bs=true)(hb:b<bs.length)(h:v∈qW bs b):rF (gN bs) v b\/pZ (iB (gN bs) b).ops v=true:=by
 have hb':b<(gN bs).length:=by rw[kF];exact hb
 rcases ax.1 h with h|h
 .rcases ax.1 h with h|h
  .exact .inl ((kq hti hb).1 h).2.2
  .cases hd:pZ (iB (gN bs) b).ops v with
   |true=>exact .inr rfl
   |false=>exact .inl (gw ((UI hti hb).1 h).2.2 hd)
 .obtain⟨i,_,h⟩:=b5.1 h;rcases HH _ _ (wM.1 h).2.2 with h|h
  .left;rw[nF] at h;simp only[bW,aB,aN] at h;exact(CB _ v b).2 (h.imp_right λx=>⟨x.1,(wN (tJ hti) v hb').1 x.2⟩)
  .exact .inr h
theorem we{xs ys:List Int}:v∈qP xs ys↔v∈xs/\v∉ys:=by simp[qP]
end
end

section
open Go.RowKit
attribute [local go_sem] Oper.semAt_some
def orS(f:Nat->Bool)(xs:List Int):Nat->Bool:=λk=>f k||decide ((k:Int)∈xs)
def yw(g:Nat)(f:Nat->Bool)(w:World)(e:Ending)(w':World):Prop:=e=.returned (.tuple #[])/\w'.heap[g]? =some (vsO f)/\Chg (λq=>q=g) w w'
theorem JZ(a:Option Addr)(n c:Nat)(xs:List Int)(g:Nat)(f:Nat->Bool)(w:World)(h:iJ w a n xs)(hv:∀x∈xs,0<=x/\x<=200)(hg:w.heap[g]? =some (vsO f)):
  Calls Tryz.prog 72 #[.slice a n c,.pointer (some ⟨g,0,none⟩)] w (yw g (orS f xs) w):=by
 have HL:=ac h.1
 have hn:=h.2.1
 have H:=ac h
 have HV:=ac hv
 have HG:=ac hg
 clear h hv hg
 go_enter Tryz.func72,Tryz.ntmps72
 go_wp2
 go_loopw [4,7] (λ_ i wr=>∃k:Nat,k<=n/\i=.int .i64 k/\Hid (wr.heap[g]? =some (vsO (orS f (xs.take k))))/\Hid (Chg (λq=>q=g) w wr)) (λ_ i _=>n-(intOf i).toNat)
 case atStart=>exact⟨0,by omega,rfl,by rw[Hid,HG.out];exact bh some (xB λk _=>by simp[orS]),Chg.refl _ _⟩
 case round=>
  obtain⟨k,hk,rfl,HS,HB⟩:=hrel;by_cases hlt:k<n
  .obtain⟨b,o,rfl,hc0,hw1,hw2⟩:=H.out.2.2 k hlt;have hkx:k<xs.length:=by rw[HL.out];exact hlt
   have hxk:xs[k]? =some (xs.getD k 0):=by rw[ak,ah hkx];rfl
   have hne:b≠g:=λe=>by
    subst e;rw[aZ _ _ _ _ _ _ HG.out] at hc0;by_cases hj:o+k<201
    .rw[uW _ _ hj] at hc0;cases hc0
    .rw[bZ (by rw[iI];omega)] at hc0;cases hc0
   have hc:wr.cell? ⟨b,o+k,none⟩=some (.int .i64 (xs.getD k 0)):=by
    have:=HB.out.block b (bA _ _ hc0) hne;rw[<-hc0];unfold World.cell?;simp only[this]
   obtain⟨h0,h1⟩:=HV.out _ (aK hxk);have hx:(xs.getD k 0).toNat<201:=by omega
   have hcell:=oK HS.out _ hx;have hfr:=tR HS.out (xs.getD k 0).toNat
   have HS2:=ac (wB (h:=orS f (xs.take (k+1))) HS.out (xs.getD k 0).toNat true λj _=>by
    unfold orS;rw[bL,hxk];by_cases e:j=(xs.getD k 0).toNat
    .rw[aM e,bS (p:=(j:Int)∈_) (by rw[e,Int.toNat_of_nonneg h0];simp),Bool.or_true]
    .rw[az e]
     congr 1
     rw[eR];simp only[dY,ax,bz]
     exact⟨.inl,λh=>h.resolve_right λh=>e (by omega)⟩)
   have hl:=fE HS.out;clear hc0 hxk hne;generalize xs.getD k 0=x at *;generalize orS f (xs.take k) x.toNat=bb at *;have hx':x<201:=by omega
   go_wp2
   go_roundw
   case rel=>exact⟨k+1,by omega,by go_num,HS2,HB.out.setCell (.inl rfl) _⟩
   case measure=>simp[intOf];omega
  .obtain rfl:k=n:=by omega
   go_wp2
   go_end0
   exact⟨rfl,by have:=HS.out;rwa [bC (by rw[HL.out];exact aj _)] at this,HB.out⟩
end

section
open Go.RowKit
section
variable {P:Program} {l:List Oper} {S S':World->Prop} {Q:Exit->Act->World->Prop}
theorem sw(h:∀w,S' w->S w):∀{fuel:Nat} {listed:Array Bool} {a:Act} {w:World},mW P l Q S' fuel listed a w->mW P l Q S fuel listed a w
 |0,_,_,_,hz=>hz
 |_+1,_,_,_,hz=>⟨hz.1,λi hi=>wpOp_mono (λ_ _ h'=>⟨h'.1.imp id (h _),sw h h'.2⟩) (hz.2 i hi)⟩
theorem ko{W W':World}(h:Below W.heap.size W W'){fuel:Nat}{listed:Array Bool}{a:Act}{w:World}(hz:mW P l Q (λw'=>∃n:fL W',w'=n.val) fuel listed a w):mW P l Q (λw'=>∃n:fL W,w'=n.val) fuel listed a w:=
 sw (λ_ hn=>by obtain⟨n,rfl⟩:=hn;exact⟨⟨n.val,fC h n.ext⟩,rfl⟩) hz
end
end

section
open Go.RowKit
attribute [local go_sem] Oper.semAt_some
def TK(x:iA):List Int:=(x.rs.flatMap λr=>gV r.d++ [gM r.d])++jV x.h.t
def y8(ps:List Int)(bs:List iA):List Int:=ps++bs.flatMap TK
def JA(ps:List Int)(bs:List iA):List Int:=kS (y8 ps bs)
def vsL(L:List Int):Nat->Bool:=λk=>decide ((k:Int)∈L)
theorem B8(L xs:List Int):orS (vsL L) xs=vsL (L++xs):=by
 funext k
 simp only[orS,vsL,ax,Bool.decide_or]
def Bs(xs:List Int):Prop:=∀x∈xs,0<=x/\x<=200
theorem Aa(r:uP):Bs (gV r++ [gM r]):=λx hx=>by
 rcases ax.1 hx with h|h
 .have:=AM h;omega
 .rw[bz] at h;subst h;have:=lX r;omega
theorem pm(t:fS):Bs (jV t):=λx hx=>by have:=AO hx;omega
theorem gm{w:World}{r:lP}(h:rD w r)(hn:r.na<=1000000):(gV r.d).length<=1000002:=by
 have h9:r.d.args.length=r.na:=h.1.1
 unfold gV
 split
 .have:=bX (λz:Int=>z != 0) [r.d.a,r.d.b];rw[bf];simp only[bk,bx] at this;omega
 .simp
def VrJ(w:World)(G:Nat)(fo:Obj)(L:List Int)(W:World):Prop:=w.heap.size<G/\W.heap[w.heap.size]? =some fo/\W.heap[G]? =some (vsO (vsL L))/\Below w.heap.size w W
theorem VrJ.ext{w:World}{G:Nat}{fo:Obj}{L:List Int}{W W':World}(h:VrJ w G fo L W)(hb:Below W.heap.size W W'):VrJ w G fo L W':=⟨h.1,fB hb h.2.1,fB hb h.2.2.1,fC h.2.2.2 hb⟩
theorem VrJ.note{w:World}{G:Nat}{fo:Obj}{L xs:List Int}{W W':World}(h:VrJ w G fo L W)(h1:W'.heap[G]? =some (vsO (orS (vsL L) xs)))(h2:Chg (λq=>q=G) W W'):VrJ w G fo (L++xs) W':=
 have hg:=h.1
 have hl:=fE h.2.1
 ⟨hg,(h2.block _ hl (by omega)).trans h.2.1,by rw[<-B8];exact h1,h.2.2.2.trans (h2.below (B:=w.heap.size) (by omega) λk e=>by omega)⟩
theorem iu(pa:Option Addr)(pn pc:Nat)(ps:List Int)(ba:Option Addr)(bn bc:Nat)(bs:List iA)(w:World)(hp:iJ w pa pn ps)(h:lY w ba bn bs)(hl:rC pn bn (hOf bs)=false)(hwh:kJ ps bs=true)(hna:∀x∈bs,∀r∈x.rs,r.na<=1000000):
  Calls Tryz.prog 26 #[mB pa pn pc ba bn bc] w (mT w (JA ps bs)):=by
 have HP:=ac hp
 have HPV:Hid (Bs ps):=λx hx=>by
  rw[kJ,aB,IU,aB] at hwh;have:=aV.1 hwh.1.1 x hx;simp only[qG,aN] at this;omega
 have HB:=ac h
 have HLb:=ac h.1.1
 have hbn:=h.1.2.1
 have HL:=ac hl
 have HW:=ac hwh
 have HNA:=ac hna
 clear h hp hl hwh hna
 go_enter Tryz.func26,Tryz.ntmps26
 go_upto_region 1 with (fail)
 obtain⟨W0,hW0⟩:∃W0,W0=w.alloc (gX pa pn pc ba bn bc):=⟨_,rfl⟩
 rw[<-hW0]
 have HF0:Hid (W0.heap[w.heap.size]? =some (gX pa pn pc ba bn bc)):=by rw[hW0];exact ae _ _
 have HB0:Hid (Below w.heap.size w W0):=by rw[hW0];exact fD _ _
 have HS0:Hid (W0.heap.size=w.heap.size+1):=by rw[Hid,hW0];simp
 clear hW0
 go_upto_region 3 with (first
  |((with_reducible show wpList _ _ _ (⟨some 13,.load _ _,_,_,_,_⟩ :: _) _ _);refine nY (o:=⟨some 13,.load 25 _,_,_,_,_⟩) (by rfl) 25 _ rfl w.heap.size rfl 25 _ (0,0) _ HF1.out aJ rfl gE ?_)
  |((with_reducible show wpList _ _ _ (⟨some 10,.load _ _,_,_,_,_⟩ :: _) _ _);refine ay rfl 25 _ rfl w.heap.size rfl 25 _ (0,0) _ HF0.out aJ rfl gE ?_)
  |(go_at_call 48
    refine(zQ pa pn pc ps ba bn bc bs w1 (HP.out.ext HB1.out) (HB.out.ext HB1.out)).mono ?_;rw[HW.out];rintro e w2 ⟨rfl,hb2⟩;have HF2:=ac (fB hb2 HF1.out);have HB2:=ac (fC HB1.out hb2)
    clear hb2)
  |(go_at_call 47
    refine(DG pa pn pc ba bn bc (hOf bs) W0 (HB.out.ext HB0.out).x.1).mono ?_;rw[HL.out];rintro e w1 ⟨rfl,hb1⟩;have HF1:=ac (fB hb1 HF0.out);have HB1:=ac (fC HB0.out hb1)
    clear hb1))
 go_upto_region 4 with (fail)
 obtain⟨W3,hW3⟩:∃W3,W3=w2.alloc (.cells Tryz.zeroCells158 158):=⟨_,rfl⟩
 rw[<-hW3]
 obtain⟨G,hG⟩:∃G,G=w2.heap.size:=⟨_,rfl⟩
 have HJ3:Hid (VrJ w G (gX pa pn pc ba bn bc) [] W3):=by
  rw[hW3];refine⟨by rw[hG];exact fE HF2.out,fB (fD _ _) HF2.out,?_,fC HB2.out (fD _ _)⟩;rw[hG,ae,nV];exact bh some (xB λk _=>by simp[vsL])
 rw[<-hG]
 clear hG hW3
 have f0:=cK 0 HJ3.out.2.1 rfl
 have hl3:=fE HJ3.out.2.1
 go_upto_region 6 with (
  (go_at_call 72
   refine(JZ pa pn pc ps G (vsL []) W3 (HP.out.ext HJ3.out.2.2.2) HPV.out HJ3.out.2.2.1).mono ?_;rintro e W4 ⟨rfl,h41,h42⟩;have HJ4:=ac (HJ3.out.note h41 h42)
   clear h41 h42))
 clear f0 hl3
 have f1:=cK 1 HJ4.out.2.1 rfl
 have hl4:=fE HJ4.out.2.1
 go_wp2
 clear f1 hl4
 obtain⟨fo,hfo⟩:∃fo,fo=gX pa pn pc ba bn bc:=⟨_,rfl⟩
 have HFO:=ac hfo
 rw[<-hfo] at HJ4
 clear hfo HJ3 HF2 HF1 HF0 HB0 HB1 HB2 HS0
 go_loopw [25] (λi wr=>∃k:Nat,i=.int .i64 k/\k<=bn/\Hid (VrJ w G fo (ps++(bs.take k).flatMap TK) wr)) (λi _=>bn-(intOf i).toNat)
 case atStart=>exact⟨0,rfl,by omega,by have:=HJ4.out;rw[Hid];simpa using this⟩
 case round=>
  obtain⟨k,rfl,hk,HR⟩:=hrel;clear HJ4;by_cases hlt:k<bn
  .have hlt':(k:Int)<(bn:Int):=by omega
   obtain⟨r,bb,oo,hr,hok,rfl,c0,c1,c2,c3,c4⟩:=mJ (HB.out.ext HR.out.2.2.2) hlt;have HOK:Hid (xA w r):=HB.out.2 r (aK hr);have HTK:Hid ((bs.take (k+1)).flatMap TK=(bs.take k).flatMap TK++TK r):=by rw[Hid,bL,hr];simp
   have HNR:Hid (∀x∈r.rs,x.na<=1000000):=HNA.out r (aK hr);have hgl:=fE HR.out.2.2.1;have hnr:=HOK.out.2.1.2.1;clear hr hok;go_upto_region 9 with (fail)
   obtain⟨Wi,hWi⟩:∃Wi,Wi=wr.alloc (oA r.h):=⟨_,rfl⟩
   rw[show wr.alloc (Obj.cells #[.slice r.h.ia r.h.n r.h.c,.int .i64 r.h.t.kind,.int .i64 r.h.t.a,.int .i64 r.h.t.t0,.int .i64 r.h.t.t1] 121)=Wi from hWi.symm];obtain⟨P9,hP9⟩:∃p,p=wr.heap.size:=⟨_,rfl⟩
   have hxi:Wi.heap[P9]? =some (oA r.h):=by rw[hWi,hP9];exact ae _ _
   have hbi:Below wr.heap.size wr Wi:=by rw[hWi];exact fD _ _
   rw[<-hP9] at hgl|-;obtain⟨L,hLd⟩:∃L,L=ps++(bs.take k).flatMap TK:=⟨_,rfl⟩
   rw[<-hLd] at HR;have HLD:=ac hLd;have HRI:=ac (HR.out.ext hbi);have HXI:=ac hxi;clear hWi hxi hbi c0 c1 c2 c3 c4 hP9 hLd HR;have b0:=cK 0 HXI.out rfl;have hl9:=fE HXI.out;go_wp2;clear b0 hl9
   go_loopw [32] (λi wz=>∃q:Nat,i=.int .i64 q/\q<=r.h.n/\Hid (VrJ w G fo (L++(r.rs.take q).flatMap λr=>gV r.d++ [gM r.d]) wz)/\Hid (wz.heap[P9]? =some (oA r.h))) (λi _=>r.h.n-(intOf i).toNat)
   case atStart=>exact⟨0,rfl,by omega,by have:=HRI.out;rw[Hid];simpa using this,HXI⟩
   case round=>
    obtain⟨q,rfl,hq,HQ,HX⟩:=hrel;clear HRI HXI;by_cases hqlt:q<r.h.n
    .have hqlt':(q:Int)<(r.h.n:Int):=by omega
     obtain⟨x,xb,xo,hx,hxok,hia,d0,d1,d2,d3,d4,d5,d6,d7⟩:=(HOK.out.2.ext HQ.out.2.2.2).cells hqlt;have HST:Hid ((r.rs.take (q+1)).flatMap (λr=>gV r.d++ [gM r.d])=(r.rs.take q).flatMap (λr=>gV r.d++ [gM r.d])++(gV x.d++ [gM x.d])):=by rw[Hid,bL,hx];simp
     have hxna:=HNR.out x (aK hx);rw[hia];generalize (r.rs.take q).flatMap (λr=>gV r.d++ [gM r.d])=L2 at *;clear hx;go_upto_region 12 with (fail)
     obtain⟨Wj,hWj⟩:∃Wj,Wj=wr.alloc (vR x.d x.aa x.na x.ca):=⟨_,rfl⟩
     rw[show wr.alloc (Obj.cells #[.int .i64 x.d.op,.int .i64 x.d.dst,.int .i64 x.d.a,.int .i64 x.d.b,.int .i64 x.d.imm,.int .i64 x.d.callee,.slice x.aa x.na x.ca,.int .i64 x.d.many] 161)=Wj from hWj.symm];have hbj:Below wr.heap.size wr Wj:=by rw[hWj];exact fD _ _
     have HIJ:Hid (Wj.heap[wr.heap.size]? =some (vR x.d x.aa x.na x.ca)):=by rw[hWj];exact ae _ _
     have HQJ:=ac (HQ.out.ext hbj);have HXJ:=ac (fB hbj HX.out);have HOJ:Hid (rD Wj x):=hxok.ext hbj;have HXA:=ac hxna;generalize wr.heap.size=N at *;clear hWj hbj HQ HX hxok hxna d0 d1 d2 d3 d4 d5 d6 d7 hia;have hn1:Nonempty (fL Wj):=⟨⟨Wj,ag _ _⟩⟩
     have g5:∀w',(∃n:fL Wj,w'=n.val)->w'.heap[N]? =some (vR x.d x.aa x.na x.ca):=λw' ⟨n,e⟩=>by rw[e];exact fB n.ext HIJ.out
     refine jC (λw'=>∃n':fL Wj,w'=n'.val) [(0,2,none),(3,1,some (2,true)),(4,0,some (4,true)),(5,0,some (5,true)),(6,0,some (6,true)),(7,0,some (7,false))] (by kernel_rfl) (by kernel_rfl) ⟨⟨_,gB (ag _ _) 1⟩,rfl⟩ ?_;simp only[lS,ap,aD,am,aw]
     repeat (first
      |((with_reducible show wpQuiet _ _ _ _ (⟨some 37,_,_,_,_,_⟩ :: _) _);refine fW (o:=⟨some 37,.load 161 _,_,_,_,_⟩) (by rfl) 161 _ rfl N rfl 161 _ (0,0) _ g5 cF rfl mY ?_;simp only[Act.put,ar,aH,aF])
      |go_big_quiet_step (fail))
     refine aq ?_
     repeat (first
      |((with_reducible show wpQuiet _ _ _ _ (⟨some 39,_,_,_,_,_⟩ :: _) _);refine fW (o:=⟨some 39,.load 161 _,_,_,_,_⟩) (by rfl) 161 _ rfl N rfl 161 _ (0,0) _ g5 cF rfl mY ?_;simp only[Act.put,ar,aH,aF])
      |go_big_quiet_step (fail))
     refine aq ?_;clear g5;refine fR rfl rfl ?_;go_simp;obtain⟨q0,q1,q2,q3,q4,q5,q6,q7,q8⟩:=HOJ.out;refine(uH x.d x.aa x.na x.ca Wj.drew (show iJ Wj.drew _ _ _ from q0) q4 q5 q6 q7 HXA.out).mono ?_;clear q0 q1 q2 q3 q4 q5 q6 q7 q8;rintro e w5 ⟨v,rfl,ho,hb5⟩;obtain⟨av,cv,rfl⟩:=ho.form;have hb5:=lH hb5;have HB5:=ac hb5;have HO5:Hid (gD w5 Wj.heap.size (.slice av (gV x.d).length cv) (gV x.d)):=ho;have HI5:Hid (rD w5 x):=HOJ.out.ext hb5;refine⟨⟨⟨w5,hb5⟩,rfl⟩,?_⟩;clear ho hb5;refine aq ?_;refine fR rfl rfl ?_;go_simp;obtain⟨q0,q1,q2,q3,q4,q5,q6,q7,q8⟩:=HI5.out;refine(sZ x.d x.aa x.na x.ca w5 q0 q4 q5 q6 q7).mono ?_;clear q0 q1 q2 q3 q4 q5 q6 q7 q8;rintro e w6 ⟨rfl,hb6⟩;have HB6:=ac (fC HB5.out hb6);have HO6:=ac (HO5.out.ext hb6);refine⟨⟨⟨w6,HB6.out⟩,rfl⟩,?_⟩;clear hb6 HO5 HB5 HI5;refine aq ?_;refine fR rfl rfl ?_;have hdi:=Aa x.d;generalize gM x.d=dv at *;go_simp;refine⟨⟨⟨_,fC HB6.out (fD _ _)⟩,rfl⟩,?_⟩;refine aq ?_;refine fR rfl rfl ?_;have hrl:=gm HOJ.out HXA.out;refine pC w6 (.tmp 38) (.tmp 41) 22 3 rfl Wj.heap.size _ 1 8 be pY rfl (by omega) (.slice av (gV x.d).length cv) (gV x.d).length (fP (gV x.d)) [.int .i64 dv] rfl HO6.out.1 w6.heap.size rfl rfl rfl (by simp[Value.oneCell']) (by simp only[maxLen];omega) (by omega) HB6.out.size ?_;intro g cap w7 hown7 hgr7 hat7;have hb7:Below Wj.heap.size Wj w7:=HB6.out.grown hgr7 HB6.out.size λq e=>(HO6.out.1.lt q e).1;have hi7:iJ w7 (some ⟨g,0,none⟩) ((gV x.d).length+1) (gV x.d++ [dv]):=by
      refine gD.ints (base:=Wj.heap.size) (c:=cap) ⟨?_,λy hy=>?_,by simp;omega⟩
      .rw[bf,fP,cU];exact hown7
      .have:=hdi y hy;unfold I64;omega
     have HQ7:=ac (HQJ.out.ext hb7);have HX7:=ac (fB hb7 HXJ.out);have HI7:=ac hi7;have HDI:=ac hdi;refine⟨⟨⟨w7,hb7⟩,rfl⟩,?_⟩;clear hown7 hgr7 hat7 hb7 hi7 hdi hrl HB6 HO6 HQJ HXJ HOJ;refine aq ?_;refine fR rfl rfl ?_;go_simp;refine(JZ (some ⟨g,0,none⟩) ((gV x.d).length+1) cap (gV x.d++ [dv]) G (vsL (L++L2)) w7 HI7.out HDI.out HQ7.out.2.2.1).mono ?_;rintro e w8 ⟨rfl,h81,h82⟩;have HQ8:Hid (VrJ w G fo (L++(L2++(gV x.d++ [dv]))) w8):=by rw[Hid,<-cd];exact HQ7.out.note h81 h82
     have HX8:Hid (w8.heap[P9]? =some (oA r.h)):=(h82.block P9 (fE HX7.out) (by omega)).trans HX7.out;clear h81 h82 HQ7 HX7 HI7 HDI;refine bR ?_;go_wp2
     go_roundw
     case rel=>exact⟨q+1,by go_num,by omega,by rw[Hid,HST.out];exact HQ8.out,HX8⟩
     case measure=>simp[intOf];omega
    .obtain rfl:q=r.h.n:=by omega
     have hrl:r.rs.length=r.h.n:=HOK.out.2.1.1;have HQ9:Hid (VrJ w G fo (L++r.rs.flatMap λr=>gV r.d++ [gM r.d]) wr):=by have:=HQ.out;rwa [bC (by omega)] at this
     have b1:=cK 1 HX.out rfl;have b2:=cK 2 HX.out rfl;have b3:=cK 3 HX.out rfl;have b4:=cK 4 HX.out rfl;have hl9:=fE HX.out;clear hrl HQ
     go_wp2_with (first
      |(go_at_call 72
        refine(JZ _ _ _ (jV r.h.t) G _ w10 HI10.out (pm r.h.t) HQ10.out.2.2.1).mono ?_;rintro e w11 ⟨rfl,h111,h112⟩;have HQ11:=ac (HQ10.out.note h111 h112)
        clear h111 h112)
      |(go_at_call 75
        refine(xM r.h.t wr HOK.out.1).mono ?_;rintro e w10 ⟨v,rfl,ho,hb10⟩;obtain⟨av,cv,rfl⟩:=ho.form;have HI10:=ac ho.ints;have HQ10:=ac (HQ9.out.ext hb10)
        clear ho hb10))
     have HQ12:Hid (VrJ w G fo (ps++(bs.take (k+1)).flatMap TK) w11):=by
      rw[Hid,HTK.out,<-cd,<-HLD.out];have:=HQ11.out
      rwa [cd] at this
     clear HQ11 HQ10 HQ9 HI10 b1 b2 b3 b4 hl9
     go_roundw
     case rel=>exact⟨k+1,by go_num,by omega,HQ12⟩
     case measure=>simp[intOf];omega
  .obtain rfl:k=bn:=by omega
   have HRZ:Hid (VrJ w G fo (y8 ps bs) wr):=by have:=HR.out;rwa [bC (by rw[HLb.out];exact aj _)] at this
   clear HR;go_wp2;obtain⟨wz,hwz⟩:∃z,z=wr:=⟨_,rfl⟩
   rw[<-hwz] at HRZ|-;clear hwz;have hB:=fE HRZ.out.2.2.1;have hB2:=HRZ.out.2.2.2.size;have HN:Hid (∃xs,xs=y8 ps bs):=⟨_,rfl⟩
   obtain⟨xs,hxs⟩:=HN.out;have HXS:=ac hxs;rw[<-hxs] at HRZ;clear hxs HN
   go_loopw [2,9] (λv i wr=>∃k:Nat,i=.int .i64 k/\1<=k/\k<=201/\Hid (gD wr wz.heap.size v (yH xs k))/\Hid (Below wz.heap.size wz wr)) (λ_ i _=>201-(intOf i).toNat)
   case atStart=>exact⟨1,rfl,by omega,by omega,gD.nil _ _,ag _ _⟩
   case round=>
    obtain⟨k,rfl,hk1,hk,HO,HB⟩:=hrel;obtain⟨av,cv,rfl⟩:=HO.out.form;have hlen:=JR xs k;by_cases hlt:k<=200
    .have hlt':(k:Int)<201:=by omega
     have hkk:k<201:=by omega
     have HST:=ac (n8 xs k hk1);have HV:=HRZ.out.ext HB.out;have hcell:wr.cell? ⟨G,k,none⟩=some (.bool (vsL xs k)):=oK HV.2.2.1 k hkk;have hl:=fE HV.2.2.1;clear HV;by_cases hm:(k:Int)∈xs
     .have HS2:Hid (yH xs (k+1)=yH xs k++ [(k:Int)]):=by rw[Hid,HST.out,aM hm]
      rw[show vsL xs k=true from bS hm] at hcell;generalize yH xs k=ls at*
      go_wp2_with (
       (at_builtin
        refine tE rfl wr (.tmp 58) (.tmp 60) 22 rfl wz.heap.size _ 8 be pY rfl (.slice av ls.length cv) ls rfl HO.out (k:Int) (by unfold I64;omega) wr.heap.size rfl rfl (by omega) (by omega) HB.out.size ?_;intro g cap w3 ho3 hg3 _;have HO3:=ac ho3;have HB3:Hid (Below wz.heap.size wz w3):=(HB.out.grown hg3 HB.out.size (λq e=>(HO.out.1.lt q e).1))
        clear ho3 hg3))
      go_roundw
      case rel=>exact⟨k+1,by go_num,by omega,by omega,by rw[Hid,HS2.out];exact HO3.out,HB3⟩
      case measure=>simp[intOf];omega
     .have HS2:Hid (yH xs (k+1)=yH xs k):=by rw[Hid,HST.out,az hm]
      rw[show vsL xs k=false from dE hm] at hcell;go_wp2
      go_roundw
      case rel=>exact⟨k+1,by go_num,by omega,by omega,by rw[Hid,HS2.out];exact HO.out,HB⟩
      case measure=>simp[intOf];omega
    .obtain rfl:k=201:=by omega
     go_wp2
     go_ret
     refine⟨_,rfl,?_,fC HRZ.out.2.2.2 HB.out⟩;have:=HO.out.mono hB2;rw[JA,<-HXS.out];exact this
end

section
open Go.RowKit
section
variable {ps:List Int} {bs:List iA} {l:List fT} {b:Nat} {v:Int}
theorem pr(hto:IY (gN bs))(h:rF (gN bs) v b):b<(gN bs).length->∃c,c<(gN bs).length/\iM (iB (gN bs) c).ops (iB (gN bs) c).nd v=1:=by
 induction h with
 | @here b hg=>exact λhb=>⟨b,hb,by simpa[JG] using hg⟩
 | @step b c hc _ ih=>
   intro hb;refine ih (hto _ hb _ ?_);unfold FR at hc
   split at hc
   .exact hc
   .cases hc
theorem uq(h:ka (gN bs) v=true):∃k,k<bs.length/\v∈oT bs k:=by
 unfold ka at h
 obtain⟨y,hy,h⟩:=eA.1 h
 unfold gN at hy
 obtain⟨x,hx,rfl⟩:=a8.1 hy
 obtain⟨k,hk,e⟩:=bj.1 hx
 have hk':bs[k]? =some x:=by rw[ah hk,e]
 refine⟨k,hk,?_⟩
 simp only[oT,qQ,FU,hk',ax,b5]
 simp only[bkL,bW,aN,eA,a8] at h
 rcases h with h|⟨o,⟨r,hr,rfl⟩,h⟩
 .exact .inr (fs h)
 .exact .inl ⟨r,hr,by simpa using h⟩
theorem vo(hti:qZ bs=true)(hb:b<bs.length)(h:rF (gN bs) v b):∃k,k<bs.length/\v∈oT bs k:=by
 obtain⟨c,hc,h1⟩:=pr (tJ hti) h (by rw[kF];exact hb)
 cases e:ka (gN bs) v with
 |true=>exact uq e
 |false=>exact absurd h1 (ur e hc)
def nL(n:Nat):List fT:= [⟨1,-1,(List.range n).map λk:Nat=>(k:Int)⟩]
theorem IS(n:Nat):IF (nL n) 0=List.range n:=by
 show((List.range n).map λk:Nat=>(k:Int)).map Int.toNat=_
 rw[List.map_map]
 exact(dA λk _=>dr k).trans (List.map_id _)
theorem UW(hrt:gY (fY (hOf bs)) (nL bs.length)=true)(hb:b<bs.length):oF (nL bs.length) b=0:=
 (VE hrt hb).1 ⟨by simp[nL],by rw[IS];exact aQ.2 hb⟩
theorem UO(hti:qZ bs=true)(hrt:gY (fY (hOf bs)) (nL bs.length)=true)(ask:kD->Bool):nR (fY (hOf bs)) (nL bs.length) ask= []:=by
 rw[fj]
 intro r hr
 obtain⟨x,hx,hne,_⟩:=vq.1 hr
 obtain⟨_,h1,h2⟩:=Al hx
 have h3:=tJ hti _ (by rw[kF];exact h1) _ h2
 rw[kF] at h3
 exact hne (by rw[UW hrt h1,UW hrt h3])
theorem CP{xs:List Int}:v∈kS xs↔1<=v/\v<=200/\v∈xs:=by rw[nz,wM,aN]
theorem lf:kS []= []:=by
 rw[fj]
 intro v hv
 cases (CP.1 hv).2.2
def NT(ps:List Int)(bs:List iA)(l:List fT):List Int:=(List.range l.length).flatMap λk=>(setM ps bs l k).live
theorem UK(hrt:gY (fY (hOf bs)) l=true):v∈NT ps bs l↔1<=v/\v<=200/\∃b,b<bs.length/\v∈qW bs b:=by
 unfold NT
 rw[b5]
 constructor
 .rintro⟨k,hk,h⟩;obtain⟨h1,h2,h3⟩:=CP.1 h;obtain⟨b,hb,h4⟩:=b5.1 h3;exact⟨h1,h2,b,Ay hrt (aQ.1 hk) hb,h4⟩
 .rintro⟨h1,h2,b,hb,h3⟩;obtain⟨hk,hm⟩:=(VE hrt hb).2 rfl;exact⟨_,aQ.2 hk,CP.2 ⟨h1,h2,b5.2 ⟨b,hm,h3⟩⟩⟩
theorem kz(hti:qZ bs=true)(hrt:gY (fY (hOf bs)) l=true)(hb:b<bs.length)(h:v∈vP (gN bs) b\/v∈tX (gN bs) b):v∈NT ps bs l:=by
 rw[UK hrt]
 have hv:1<=v/\v<=200:=h.elim (λh=>let ⟨a,c,_⟩:=(kq hti hb).1 h;⟨a,c⟩) λh=>let ⟨a,c,_⟩:=(UI hti hb).1 h;⟨a,c⟩
 exact⟨hv.1,hv.2,b,hb,by unfold qW;rw[ax,ax];exact .inl h⟩
theorem UZ(hrt1:gY (fY (hOf bs)) (nL bs.length)=true)(hrt:gY (fY (hOf bs)) l=true):v∈(setM ps bs (nL bs.length) 0).live↔v∈NT ps bs l:=by
 rw[UK hrt]
 show v∈kS ((IF (nL bs.length) 0).flatMap (qW bs))↔_
 rw[CP,IS]
 simp only[b5,aQ]
theorem OP(hti:qZ bs=true)(hrt:gY (fY (hOf bs)) (nL bs.length)=true):(setM ps bs (nL bs.length) 0).inn= []/\(setM ps bs (nL bs.length) 0).out= []:=by
 constructor
 .show kS (rR bs (nR (fY (hOf bs)) (nL bs.length) _))= [];rw[UO hti hrt];exact lf
 .show kS (rR bs (nR (fY (hOf bs)) (nL bs.length) _))= [];rw[UO hti hrt];exact lf
theorem zw(hti:qZ bs=true):(setM ps bs (nL bs.length) 0).thr= []:=by
 rw[fj]
 intro v hv
 obtain⟨h1,h2⟩:=we.1 hv
 obtain⟨h3,_,h4⟩:=CP.1 h1
 obtain⟨b,hb,h5⟩:=b5.1 h4
 rw[IS] at hb h2
 have hb':=aQ.1 hb
 refine h2 (ax.2 ?_)
 rcases vx hti hb' h5 with h|h
 .obtain⟨k,hk,h6⟩:=vo hti hb' h;exact .inl (b5.2 ⟨k,aQ.2 hk,h6⟩)
 .exact .inr (b5.2 ⟨b,hb,An hb' h3 h⟩)
theorem vf(h0:0<bs.length):(setM ps bs (nL bs.length) 0).refs=JA ps bs:=by
 refine f7 λv h1 _=>?_
 rw[IS,ax]
 simp only[b5,aQ,y8,TK,ax,bz]
 constructor
 .rintro(⟨b,hb,h⟩|⟨b,hb,h⟩)
  .have hx:bs[b]? =some bs[b]:=ah hb;simp only[oT,qQ,FU,hx,ax,b5] at h;exact .inr ⟨bs[b],bJ hb,h.imp (λ⟨r,hr,h⟩=>⟨r,hr,.inl h⟩) id⟩
  .have hx:bs[b]? =some bs[b]:=ah hb;simp only[mZ,qQ,hx,ax,bI,a8] at h;rcases h with h|⟨⟨r,hr,rfl⟩,_⟩
   .split at h
    .exact .inl h
    .cases h
   .exact .inr ⟨bs[b],bJ hb,.inl ⟨r,hr,.inr rfl⟩⟩
 .rintro(h|⟨x,hx,h⟩)
  .exact .inr ⟨0,h0,by simp[mZ,h]⟩
  .obtain⟨b,hb,rfl⟩:=bj.1 hx;have hx:bs[b]? =some bs[b]:=ah hb;rcases h with ⟨r,hr,h|rfl⟩|h
   .exact .inl ⟨b,hb,by simp only[oT,qQ,FU,hx,ax,b5];exact .inl ⟨r,hr,h⟩⟩
   .exact .inr ⟨b,hb,by simp only[mZ,qQ,hx,ax,bI,a8];exact .inr ⟨⟨r,hr,rfl⟩,by simp;omega⟩⟩
   .exact .inl ⟨b,hb,by simp only[oT,qQ,FU,hx,ax,b5];exact .inr h⟩
theorem nx_to(hb:b<bs.length):nx (fY (hOf bs)) b=(iB (gN bs) b).to:=by
 obtain⟨x,_,h2,h3⟩:=RE hb
 rw[h3,nx,h2];rfl
theorem XA(hti:qZ bs=true)(h:yO (gN bs) b):b<bs.length->b=0\/Reach (nx (fY (hOf bs))) (fM bs.length) 0 b:=by
 induction h with
 |here hg=>exact λ_=>.inl (by simpa using hg)
 | @step b c hc _ ih=>
   intro hb;obtain⟨h1,h2⟩:=(tT _ b c).1 hc;rw[kF] at h1;have hm:b∈nx (fY (hOf bs)) c:=by rw[nx_to h1];exact h2
   have hw:fM bs.length b=true:=by simpa[fM] using hb
   rcases ih h1 with rfl|h
   .exact .inr (.one hm hw)
   .exact .inr (.step h hm hw)
theorem jd(h:mF ps bs=0):jK (fY (hOf bs))=true:=by
 obtain⟨hl,hw,hti⟩:=vD h
 have hal:rM (gN bs)=true:=by
  unfold mF at h;rw[hl,hw,hti] at h;cases e:rM (gN bs) with
  |true=>rfl
  |false=>rw[e] at h;simp at h
 have hlen:1<=bs.length/\bs.length<=200:=by
  simp only[rC,cV,cg] at hl;omega
 rw[jK,aB,lO,CO,aV]
 refine⟨⟨hlen,λt ht=>?_⟩,λk hk=>?_⟩
 .simp only[fY,hOf,List.map_map,a8] at ht;obtain⟨x,hx,rfl⟩:=ht;rw[kJ,aB] at hw;have h1:=aV.1 hw.2 x hx;rw[IW,aB] at h1;have h2:=aV.1 hti x hx;refine⟨h1.1,λy hy=>?_⟩;have:=aV.1 h2 y hy;simpa using this
 .have hk':=aQ.1 hk;rcases XA hti ((DY _).1 hal k (by rw[kF];exact hk')) hk' with rfl|h
  .rfl
  .rw[(pI (by intro y hy;simp only[fM,aN] at hy;omega) 0 k).2 ⟨by simp[fM];omega,h⟩,Bool.or_true]
end
end

section
open Go.RowKit
theorem GZ(a:Option Addr)(n c:Nat)(xs:List Int)(x:Int)(w:World)(h:iJ w a n xs):Calls Tryz.prog 65 #[.slice a n c,.int .i64 x] w λe w'=>e=.returned (.bool (decide (x∈xs)))/\w=w':=by
 have H:=ac h
 have HL:=ac h.1
 have hn:=h.2.1
 clear h
 go_enter Tryz.func65,Tryz.ntmps65
 go_wp2
 go_loopw [5] (λi wr=>∃k:Nat,i=.int .i64 k/\k<=n/\wr=w/\Hid (∀j y,j<k->xs[j]? =some y->y≠x)) (λi _=>n-(intOf i).toNat)
 case atStart=>exact⟨0,rfl,by omega,rfl,λj y hj=>absurd hj (by omega)⟩
 case round=>
  obtain⟨k,rfl,hk,rfl,HM⟩:=hrel;by_cases hlt:k<n
  .obtain⟨b,o,rfl,hc,_⟩:=H.out.2.2 k hlt;have hkx:k<xs.length:=by rw[HL.out];exact hlt
   obtain⟨y,hy⟩:∃y,xs[k]? =some y:=⟨xs[k],ah hkx⟩
   have hgd:xs.getD k 0=y:=by rw[ak,hy];rfl
   rw[hgd] at hc;have HY:=ac hy;have hlt':(k:Int)<(n:Int):=by omega
   clear hy hgd;by_cases e:y=x
   .have HE:Hid (decide (x∈xs)=true):=by rw[Hid,aN,<-e];exact aK HY.out
    have b0:(y==x)=true:=by simpa using e
    clear e;go_wp2
    go_ret
    exact⟨by rw[HE.out];rfl,rfl⟩
   .have b0:(y==x)=false:=by simpa using e
    have HM2:Hid (∀j z,j<k+1->xs[j]? =some z->z≠x):=λj z hj hz=>by
     by_cases e2:j=k
     .subst e2;rw[HY.out] at hz;cases hz;exact e
     .exact HM.out j z (by omega) hz
    clear e;go_wp2
    go_roundw
    case rel=>exact⟨k+1,by go_num,by omega,trivial,HM2⟩
    case measure=>simp[intOf];omega
  .have HE:Hid (decide (x∈xs)=false):=by
    rw[Hid,cg];intro hm;obtain⟨j,hj,e⟩:=bj.1 hm;exact HM.out j x (by have:=HL.out;omega) (by rw[ah hj,e]) rfl
   have hlt':¬(k:Int)<(n:Int):=by omega
   go_wp2
   go_ret
   exact⟨by rw[HE.out];rfl,rfl⟩
theorem tN(a a2:Option Addr)(n c n2 c2:Nat)(xs ys:List Int)(w:World)(h:iJ w a n xs)(h2:iJ w a2 n2 ys):
  Calls Tryz.prog 24 #[.slice a n c,.slice a2 n2 c2] w λe w'=>e=.returned (.bool (xs.all λx=>decide (x∈ys)))/\w=w':=by
 have H:=ac h
 have H2:=ac h2
 have HL:=ac h.1
 have hn:=h.2.1
 clear h h2
 go_enter Tryz.func24,Tryz.ntmps24
 go_wp2
 go_loopw [5] (λi wr=>∃k:Nat,i=.int .i64 k/\k<=n/\wr=w/\Hid (∀j y,j<k->xs[j]? =some y->y∈ys)) (λi _=>n-(intOf i).toNat)
 case atStart=>exact⟨0,rfl,by omega,rfl,λj y hj=>absurd hj (by omega)⟩
 case round=>
  obtain⟨k,rfl,hk,rfl,HM⟩:=hrel;by_cases hlt:k<n
  .obtain⟨b,o,rfl,hc,_⟩:=H.out.2.2 k hlt;have hkx:k<xs.length:=by rw[HL.out];exact hlt
   obtain⟨y,hy⟩:∃y,xs[k]? =some y:=⟨xs[k],ah hkx⟩
   have hgd:xs.getD k 0=y:=by rw[ak,hy];rfl
   rw[hgd] at hc;have HY:=ac hy;have hlt':(k:Int)<(n:Int):=by omega
   clear hy hgd;by_cases e:y∈ys
   .have HE:=ac e;clear e;have HM2:Hid (∀j z,j<k+1->xs[j]? =some z->z∈ys):=λj z hj hz=>by
     by_cases e2:j=k
     .subst e2;rw[HY.out] at hz;cases hz;exact HE.out
     .exact HM.out j z (by omega) hz
    go_wp2_with (go_at_call 65;refine(GZ a2 n2 c2 ys y wr H2.out).mono ?_;rw[bS HE.out];rintro e w1 ⟨rfl,rfl⟩)
    go_roundw
    case rel=>exact⟨k+1,by go_num,by omega,trivial,HM2⟩
    case measure=>simp[intOf];omega
   .have HE:Hid ((xs.all λx=>decide (x∈ys))=false):=fu.2 ⟨y,aK HY.out,by simpa using e⟩;have HN:=ac e;clear e
    go_wp2_with (go_at_call 65;refine(GZ a2 n2 c2 ys y wr H2.out).mono ?_;rw[dE HN.out];rintro e w1 ⟨rfl,rfl⟩)
    go_ret
    exact⟨by rw[HE.out];rfl,rfl⟩
  .have HE:Hid ((xs.all λx=>decide (x∈ys))=true):=by
    rw[Hid,aV];intro y hm;obtain⟨j,hj,e⟩:=bj.1 hm;exact bS (HM.out j y (by have:=HL.out;omega) (by rw[ah hj,e]))
   have hlt':¬(k:Int)<(n:Int):=by omega
   go_wp2
   go_ret
   exact⟨by rw[HE.out];rfl,rfl⟩
end

section
open Go.RowKit Go.Shelf
def YQ(bn:Nat)(pn:Nat)(bs:List iA)(n:Nat)(ls:List iN)(w:World)(e:Ending)(w':World):Prop:=
 ∃b,e=.returned (.bool b)/\Below w.heap.size w w'/\(b=false->bn<=30/\n+qY (fI ls)<=90/\(pn:Int)<=400/\(bs.length:Int)<=400/\∀b∈bs,JK 400 b)
theorem GN(pa:Option Addr)(pn pc:Nat)(hpn:pn<=17592186044416)(ba:Option Addr)(bn bc:Nat)(bs:List iA)(a:Option Addr)(n c:Nat)(ls:List iN)(w:World)(h:lY w ba bn bs)(ht:iY w a n ls):
  Calls Tryz.prog 5 #[mB pa pn pc ba bn bc,.slice a n c] w (YQ bn pn bs n ls w):=by
 have HX:=ac h
 have HT:=ac ht
 have hn:=ht.1.2.1
 have HLN:=ac ht.1.1
 have hbn:=h.1.2.1
 clear h ht
 go_enter Tryz.func5,Tryz.ntmps5
 go_wp2
 go_loopw [5,6] (λs5 s6 wr=>∃(i:Nat) (acc:Nat),s6=.int .i64 i/\s5=.int .i64 acc/\i<=n/\acc=n+MT ls i/\acc<=35184372088832/\Hid (wr=w.alloc (gX pa pn pc ba bn bc))) (λ_ s6 _=>n-(intOf s6).toNat)
 case atStart=>exact⟨0,n,rfl,rfl,by omega,by simp[MT],by omega,rfl⟩
 case round=>
  obtain⟨i,acc,rfl,rfl,hi,hacc,hab,HW⟩:=hrel;have HBw:Hid (Below w.heap.size w wr):=by rw[Hid,HW.out];exact fD _ _
  have hk0:wr.heap[w.heap.size]? =some (gX pa pn pc ba bn bc):=by rw[HW.out];exact ae _ _
  have HK:=ac hk0;obtain⟨k0,k1⟩:=TP hk0 rfl;clear hk0;have HTOT:Hid (i=n->MT ls i=qY (fI ls)):=λe=>by subst e;exact tz HT.out
  by_cases hgo:i<n/\acc<=90
  .obtain⟨hlt,hle⟩:=hgo;have hlt':(i:Int)<(n:Int):=by omega
   have hd1:decide ((i:Int)<(n:Int))=true:=by simpa using hlt
   have hd2:decide ((acc:Int)<=90)=true:=by simp;omega
   obtain⟨t,b,o,hlk,⟨hI,_⟩,rfl,c0,c1,c2⟩:=(HT.out.ext HBw.out).cells hlt;have hst:=ni ls i t hlk;have hb:=hI.2.1;clear c0 c1 hlk hI;go_wp2
   go_roundw
   case rel=>exact⟨i+1,n+MT ls i+t.bn,by go_num,by go_num,by omega,by omega,by omega,HW⟩
   case measure=>simp[intOf];omega
  .have HAC:=ac hacc;have HGO:Hid (i=n\/90<acc):=by
    rcases Nat.lt_or_ge i n with h|h
    .exact .inr (by have:¬acc<=90:=λh2=>hgo ⟨h,h2⟩;omega)
    .exact .inl (by omega)
   have hend:(decide ((i:Int)<(n:Int))=false/\¬(i:Int)<(n:Int))\/(decide ((i:Int)<(n:Int))=true/\(i:Int)<(n:Int)/\decide ((acc:Int)<=90)=false/\¬(acc:Int)<=90):=by
    rcases Nat.lt_or_ge i n with h|h
    .have h2:¬acc<=90:=λh2=>hgo ⟨h,h2⟩;exact .inr ⟨by simp;omega,by omega,by simp;omega,by omega⟩
    .exact .inl ⟨by simp;omega,by omega⟩
   clear hacc hgo;rcases hend with ⟨hd1,hd1'⟩|⟨hd1,hd1',hd2,hd2'⟩
   all_goals
    go_wp2_with (
     (go_at_call 27
      refine(XW pa pn pc hpn ba bn bc bs 400 (by omega) (by omega) wr (HX.out.ext HBw.out)).mono ?_;rintro e w2 ⟨z,rfl,hz0,hz1,hz2,hb2⟩;have HB2:=ac (fC HBw.out hb2);have HZ:=ac hz2
      clear hb2 hz2))
   all_goals
    go_ret
    first
     |exact⟨_,rfl,HBw.out,λh=>by first|cases h|(simp at h;done)|(simp at h;omega)⟩
     |exact⟨_,rfl,HB2.out,λh=>by first|cases h|(simp at h;done)|(simp at h;omega)⟩
     |exact⟨_,rfl,HB2.out,λh=>⟨by first|omega|(simp at h;omega),by have:=HTOT.out;have:=HAC.out;have:=HGO.out;first|omega|(simp at h;omega),HZ.out (by first|(simp at h;done)|(simp at h;omega))⟩⟩
end
end Go.Proofs.YtbknbcmppdglhaaGreatDoor
