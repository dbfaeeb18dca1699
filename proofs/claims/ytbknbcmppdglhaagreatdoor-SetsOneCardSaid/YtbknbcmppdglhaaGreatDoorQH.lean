/-
 Parts of a function:whether one set lies in a greater one.
-/
import Derived.Test.YtbknbcmppdglhaaGreatDoorA0
import Derived.Test.YtbknbcmppdglhaaGreatDoorGiRow
import Derived.Test.YtbknbcmppdglhaaGreatDoorQT
import Derived.Test.YtbknbcmppdglhaaGreatDoorTR
import Derived.Test.YtbknbcmppdglhaaGreatDoorMarks
import Derived.Test.YtbknbcmppdglhaaGreatDoorUD
namespace Go.Proofs.YtbknbcmppdglhaaGreatDoor
set_option linter.unusedSimpArgs false
set_option linter.unusedVariables false
set_option linter.unusedSectionVars false
set_option maxRecDepth 100000
set_option maxHeartbeats 40000000
section
open Go.RowKit Go.Shelf
attribute [local go_sem] Oper.semAt_some iF gH gS fX
def WiJ(w:World)(f g:Nat->Bool)(W:World):Prop:=
 W.heap[w.heap.size]? =some (jY f)/\W.heap[w.heap.size+1]? =some (jY g)/\W.heap[w.heap.size+1+1]? =some (.cells #[.bool false] 4 (0,0))/\W.heap[w.heap.size+1+1+1]? =some (.cells #[.pointer (some ⟨w.heap.size,0,none⟩)] 245 (0,0))/\Below w.heap.size w W
theorem WiJ.steady{w:World}{f g:Nat->Bool}{D:Nat}(hD:w.heap.size<=D):fG D (WiJ w f g):=by
 unfold WiJ
 exact(fG.block _ _ rfl).and ((fG.block _ _ rfl).and ((fG.block _ _ rfl).and ((fG.block _ _ rfl).and (fG.below (aj _) hD))))
theorem xJ(f g:Nat->Bool)(w:World):
  Calls Tryz.prog 157 #[.agg (gK f),.agg (gK g)] w λe w'=>e=.returned (.bool (lQ f g))/\Below w.heap.size w w':=by
 refine(bu (n:=0)).1 ?_
 refine cu Tryz.func157 rfl trivial ?_
 simp only[Tryz.ntmps157,bd,bk,bx,Nat.reduceAdd,Nat.reduceSub,bF,bG,bV,bN,bD,bU]
 gi_wp2_with (gi_at_call 64;refine(bu.2 (sW _ _)).mono ?_;rintro e w' ⟨rfl,rfl⟩)
 refine sC (ps:=#[7]) (gf:=159) (lb:=#[.pointer (some ⟨w.heap.size+1+1+1,0,none⟩)]) (enc:=rU) (l:=gQ f) rfl pE _ (qL f (w.heap.size+1+1+1) w.heap.size) (λ_=>rfl)
  (λdn r W=>Hid (dn.all g=true/\WiJ w f g W)) (λc W=>c=.ret/\W.heap[w.heap.size+1+1]? =some (.cells #[.bool (lQ f g)] 4 (0,0))/\Below w.heap.size w W)
  (λdn r=>(fG.pure _ _).and (WiJ.steady (by simp;omega))) (λc=>(fG.pure _ _).and ((fG.block _ _ rfl).and (fG.below (aj _) (by simp;omega)))) (λdn r W h=>⟨cR h.out.2.2.2.2.1 rfl,h.out.2.1⟩) ?start ?round ?done ?stop
 case start=>
  refine⟨rfl,?_,?_,?_,?_,?_⟩
  .rw[aG _ _ _ (by simp;omega),aG _ _ _ (by simp;omega),aG _ _ _ (by simp)];exact ae _ _
  .rw[aG _ _ _ (by simp),aG _ _ _ (by simp)];exact iT _ _ _ (by simp)
  .rw[aG _ _ _ (by simp)];exact iT _ _ _ (by simp)
  .exact iT _ _ _ (by simp)
  .exact(((fD _ _).alloc (by simp) _).alloc (by simp;omega) _).alloc (by simp;omega) _
 case round=>
  rintro lp dn x r W0 hd hJ;unfold rU
  gi_wp2
  refine⟨gC.refl _,hJ,?_⟩;clear hJ lp W0;rintro lp W0 hJ;obtain⟨ja,j1,j2,j3,j4,jb⟩:=hJ.out;have hxl:x<200:=uF f x (by rw[hd];simp);have hcx:=lK j2 x hxl;by_cases hgx:g x=true
  .rw[hgx] at hcx;have HN:Hid ((dn++ [x]).all g=true/\WiJ w f g W0):=⟨by simp only[List.all_append,ja,List.all_cons,hgx,List.all_nil,Bool.and_self],j1,j2,j3,j4,jb⟩
   clear hJ ja j1 j2 j3 j4 jb hgx
   gi_wp2
   exact⟨gC.refl _,HN⟩
  .have hgx':g x=false:=by simpa using hgx
   rw[hgx'] at hcx;have HE:Hid (lQ f g=false):=by
    have:(gQ f).all g=false:=by rw[hd,List.all_append,List.all_cons,hgx',dZ,Bool.and_false]
    rw[Hid,lQ,this,dZ]
   obtain⟨hc1,hf1⟩:=cz 0 j3 rfl;have hl1:=fE j3;have HR:=ac j3;have HB:=ac jb;clear hJ ja j1 j2 j3 j4 jb hgx hgx'
   gi_wp2
   have hst:=aC W0 (w.heap.size+1+1) 0 _ _ (.bool false) HR.out;exact⟨(gC.setCell _ _ _),rfl,by rw[HE.out];simpa using hst,HB.out.setCell (by simp;omega) _⟩
 case done=>
  rintro D W hD hJ hK;obtain⟨ja,j1,j2,j3,j4,jb⟩:=hJ.out;have HE:Hid (lQ f g= !eqS f g):=by rw[Hid,lQ,ja,dg]
  obtain⟨hc1,hf1⟩:=cz 0 j3 rfl;have hl1:=fE j3;have HB:=ac jb;have HJ1:=ac j1;have HJ2:=ac j2;have HJ3:=ac j3;have HD:Hid (w.heap.size+1+1+1<D):=by simp at hD;simp[Hid];omega
  clear hJ ja j1 j2 j3 j4 jb hD
  gi_wp2
  refine sL 138 _ rfl w.heap.size rfl 138 _ (0,0) _ HJ1.out aL rfl (by rw[fO];exact gF) ?_
  gi_wp2
  refine sL 138 _ rfl (w.heap.size+1) rfl 138 _ (0,0) _ HJ2.out aL rfl (by rw[fO];exact gF) ?_;have heq:=FJ W f g
  gi_wp2
  have hDP:D≠w.heap.size+1+1:=by have:=HD.out;omega
  have gg:=fU W (w.heap.size+1+1) 0 (.bool (!eqS f g));have hK2:=fQ gg hK (by simp;omega);have hb2:Below w.heap.size w (W.setCell ⟨w.heap.size+1+1,0,none⟩ (.bool (!eqS f g))):=HB.out.setCell (by simp;omega) _;have hv2:(W.setCell ⟨w.heap.size+1+1,0,none⟩ (.bool (!eqS f g))).heap[w.heap.size+1+1]? =some (.cells #[.bool (!eqS f g)] 4 (0,0)):=by
   have:=aC W (w.heap.size+1+1) 0 _ _ (.bool (!eqS f g)) HJ3.out;simpa using this
  generalize W.setCell ⟨w.heap.size+1+1,0,none⟩ (.bool (!eqS f g))=W2 at *;have hb3:=(fG.below (n₀:=w.heap.size) (B:=w.heap.size) (w₀:=w) (aj _) (aj _)).put (.deferred none) (l:=D) hb2 (by have:=HD.out;omega) hK2 rfl;have hv3:(W2.putObj D (.deferred none)).heap[w.heap.size+1+1]? =some (.cells #[.bool (!eqS f g)] 4 (0,0)):=(bo (by omega)).trans hv2;have hc3:=cK 0 hv3 rfl;refine⟨by simp,.inl ⟨_,_,rfl,cM hK2,?_⟩⟩;exact⟨.bool (!eqS f g),by simp[results,Tryz.results157,go_sem,hc3],by rw[HE.out],hb3⟩
 case stop=>
  rintro D c W hD ⟨rfl,hv,hb⟩ hK;have hv2:(W.putObj D (.deferred none)).heap[w.heap.size+1+1]? =some (.cells #[.bool (lQ f g)] 4 (0,0)):=(bo (by simp at hD;omega)).trans hv;have hb2:=(fG.below (n₀:=w.heap.size) (B:=w.heap.size) (w₀:=w) (aj _) (aj _)).put (.deferred none) (l:=D) hb (by simp at hD;omega) hK rfl;have hc:=cK 0 hv2 rfl
  gi_wp2
  refine⟨by simp,.inl ⟨_,_,rfl,cM hK,?_⟩⟩;exact⟨.bool (lQ f g),by simp[results,Tryz.results157,go_sem,hc],rfl,hb2⟩
end

section
open Go.RowKit Go.Shelf
abbrev ED(d:lJ)(v:Value):Obj:=.cells #[.slice d.pa d.pn d.pc,.slice d.ba d.bn d.bc,.slice d.ta d.bn d.tc,.slice d.fa d.bn d.fc,v] 135 (0,0)
theorem tQ:Tryz.zeroCells142.size=202:=by kernel_rfl
abbrev qO(p:fJ):Obj:=.cells (gJ p).toArray 142 (0,0)
theorem qS{W:World}{B:Nat}{p:fJ}(h:W.heap[B]? =some (qO p)):W.rangeAt B 0 (gK p.s).toList:=by
 intro k v hk
 have hlt:k<(gK p.s).toList.length:=by
  rcases Nat.lt_or_ge k (gK p.s).toList.length with h|h
  .exact h
  .rw[di h] at hk;cases hk
 rw[aZ _ _ _ _ _ _ h]
 simp only[gJ,d8,bQ]
 rw[cG hlt]
 exact hk
theorem TI(L:List fJ)(p:fJ)(k:Nat)(hk:k<L.length):jL (L.take (k+1)) p=jL (L.take k) p+(if lQ p.s (L.getD k fH).s then 1 else 0):=by
 rw[jL,jL,NS L k fH hk,bB,bf]
 congr 1
 generalize L.getD k fH=q
 by_cases h:lQ p.s q.s=true<;>simp[h]
theorem MA(P base:Nat)(a:Option Addr)(n c:Nat)(d:lJ)(L:List fJ)(p:fJ)(w:World)(hB:w.heap[P]? =some (ED d (.slice a n c)))(hL:gP w base (.slice a n c) L)(hn:n<=1000000):
  Calls Tryz.prog 62 #[.pointer (some ⟨P,0,none⟩),pX p] w λe w'=>e=.returned (.int .i64 (jL L p:Int))/\Below w.heap.size w w':=by
 have hlen:L.length=n:=by
  obtain⟨_,_,e⟩:=iP.form hL;injection e with _ e _;exact e.symm
 have hsl:=cK 4 hB rfl
 have HL:=ac hL
 clear hB hL
 go_enter Tryz.func62,Tryz.ntmps62
 go_upto_region 1 with (fail)
 obtain⟨W,hW⟩:∃W,W=w.alloc (qO p):=⟨_,rfl⟩
 rw[<-hW]
 have hp:W.heap[w.heap.size]? =some (qO p):=by rw[hW];exact ae _ _
 have hb:Below w.heap.size w W:=by rw[hW];exact fD _ _
 have hc:=fZ hb hsl
 have HP:=ac hp
 have HB:=ac hb
 have hsz:w.heap.size<W.heap.size:=fE hp
 clear hp hb hW hsl
 go_wp2
 go_loopw [4,12] (λs4 s12 wr=>∃k:Nat,k<=n/\s4=.int .i64 (jL (L.take k) p:Int)/\s12=.int .i64 (k:Int)/\Hid (Below W.heap.size W wr)) (λ_ s12 _=>n-(intOf s12).toNat)
 case atStart=>exact⟨0,by omega,rfl,rfl,ag _ _⟩
 case round=>
  obtain⟨k,hk,rfl,rfl,HR⟩:=hrel;by_cases hlt:k<n
  .have hlt':(k:Int)<(n:Int):=by omega
   have hLr:gP wr base (.slice a n c) L:=HL.out.ext (fC HB.out HR.out);have hform:∃g,a=some ⟨g,0,none⟩:=by
    obtain⟨g,c',e⟩:=rK hLr.1 (by omega);injection e with e _ _;exact⟨g,e⟩
   obtain⟨g,rfl⟩:=hform;have hr:=jP hLr hlt;have HTK:=ac (TI L p k (by omega));have hle:jL (L.take k) p<=k:=by
    have h1:=bX (λx=>lQ p.s x.s) (L.take k);have h2:=List.length_take_le k L;unfold jL;omega
   have HPr:=ac (fB HR.out HP.out);generalize L.getD k fH=q at *;obtain⟨bb,hbb⟩:∃bb,bb=lQ p.s q.s:=⟨_,rfl⟩
   rw[<-hbb] at HTK;generalize jL (L.take k) p=m at *;clear hLr
   go_upto_region 4 with (first
    |(refine dD rfl 142 _ rfl g (k*202) rfl (gJ q) _ hr bm rfl (hX _) ?_)
    |(refine aP rfl 142 _ _ rfl wr.heap.size (gJ q).toArray rfl rfl 142 Tryz.zeroCells142 (ae _ _) (hZ _) (by rw[tQ,bd,kC]) (bH (iO _)) ?_))
   obtain⟨W2,hW2⟩:∃W2,W2=(wr.alloc (.cells Tryz.zeroCells142 142)).setRow wr.heap.size (gJ q).toArray:=⟨_,rfl⟩
   rw[<-hW2];have hq2:W2.heap[wr.heap.size]? =some (qO q):=by rw[hW2];exact bt _ _ _ _ _ _ (ae _ _)
   have hb2:Below wr.heap.size wr W2:=by rw[hW2];exact aX (fD _ _) (aj _) _
   have hp2:=fB hb2 HPr.out;have h1:=qS hp2;have h2:=qS hq2;have HB2:=ac (fC HR.out hb2);clear hW2 hq2 hb2 hp2 hr;generalize wr.heap.size=gq at *;cases bb with
   |true=>
    have HTK2:Hid (jL (L.take (k+1)) p=m+1):=HTK.out;have HBB:Hid (lQ p.s q.s=true):=hbb.symm;clear hbb HTK
    go_wp2_with (first
     |(refine dD (op:=⟨some 17,.load 138 _,_,_,_,_⟩) rfl 138 _ rfl w.heap.size 0 rfl (gK p.s).toList _ h1 aL rfl (by rw[cL,fO];exact gF) ?_)
     |(refine dD (op:=⟨some 19,.load 138 _,_,_,_,_⟩) rfl 138 _ rfl gq 0 rfl (gK q.s).toList _ h2 aL rfl (by rw[cL,fO];exact gF) ?_)
     |(go_at_call 157
       refine(xJ p.s q.s W2).mono ?_;rintro e w3 ⟨rfl,hb3⟩;rw[HBB.out];have HB3:=ac (fC HB2.out hb3)
       clear hb3))
    go_roundw
    case rel=>exact⟨k+1,by omega,by rw[HTK2.out];go_num,by go_num,HB3⟩
    case measure=>simp[intOf];omega
   |false=>
    have HTK2:Hid (jL (L.take (k+1)) p=m):=HTK.out;have HBB:Hid (lQ p.s q.s=false):=hbb.symm;clear hbb HTK
    go_wp2_with (first
     |(refine dD (op:=⟨some 17,.load 138 _,_,_,_,_⟩) rfl 138 _ rfl w.heap.size 0 rfl (gK p.s).toList _ h1 aL rfl (by rw[cL,fO];exact gF) ?_)
     |(refine dD (op:=⟨some 19,.load 138 _,_,_,_,_⟩) rfl 138 _ rfl gq 0 rfl (gK q.s).toList _ h2 aL rfl (by rw[cL,fO];exact gF) ?_)
     |(go_at_call 157
       refine(xJ p.s q.s W2).mono ?_;rintro e w3 ⟨rfl,hb3⟩;rw[HBB.out];have HB3:=ac (fC HB2.out hb3)
       clear hb3))
    go_roundw
    case rel=>exact⟨k+1,by omega,by rw[HTK2.out],by go_num,HB3⟩
    case measure=>simp[intOf];omega
  .obtain rfl:k=n:=by omega
   have HT:Hid (L.take k=L):=bC (by omega);go_wp2
   go_ret
   exact⟨by rw[HT.out];rfl,fC HB.out HR.out⟩
end

section
open Go.RowKit Go.Shelf
structure sP(W0:World)(d:lJ)(P base:Nat)(v:Value)(L:List fJ)(W:World):Prop where
 bld:W.heap[P]? =some (ED d v)
 parts:gP W base v L
 low:P<base
 bs:base<=W.heap.size
 w0:W0.heap.size<=P
 ext:Below W0.heap.size W0 W
def SP(P:Nat)(v:Value)(k:Nat):Prop:=k=P\/v.ownBlock=some k
theorem Chg.then{S T:Nat->Prop}{a b c:World}(h:Chg S a b)(k:Chg T b c)(hs:∀q,T q->S q\/a.heap.size<=q):Chg S a c:=
 ⟨k.os.trans h.os,k.tape.trans h.tape,k.output.trans h.output,aT h.size k.size,λq hq hn=>
  (k.block q (bw hq h.size) (λht=>(hs q ht).elim hn (by omega))).trans (h.block q hq hn)⟩
theorem fG.chg{S:Nat->Prop}{w:World}{D:Nat}(hD:w.heap.size<=D):fG D (λW=>Chg S w W):=λW W' row h hg hr=>h.grown hg (λk e=>.inr (aT hD (hr k e).1))
theorem jW{w:World}{base:Nat}{e t:TypeId}{size:Nat}{v:Value}{n k:Nat}{xs:List Value}{cs:Array Value}{fr:Nat×Nat}(h:w.ownsRow base e size v n xs)(hk:w.heap[k]? =some (.cells cs t fr))(ht:t≠e):v.ownBlock≠some k:=by
 intro hv
 rcases h.2 with ⟨rfl,_⟩|⟨g,cap,cur,rfl,_,hg,_⟩
 .cases hv
 .simp only[Value.ownBlock,aW] at hv;subst hv;rw[hk] at hg;injection hg with hg;injection hg with _ hg _;exact ht hg
theorem DK{a b c:World}{row:Option Nat}(h:a.grownBy b row)(k:b.grownBy c row):a.grownBy c row:=
 ⟨k.os.trans h.os,k.tape.trans h.tape,k.output.trans h.output,aT h.size k.size,λq hq hn=>(k.block q (bw hq h.size) hn).trans (h.block q hq hn)⟩
theorem sG(w:World)(row:Option Nat):w.grownBy w.drew row:=⟨rfl,rfl,rfl,aj _,λ_ _ _=>rfl⟩
theorem LM(w:World)(row:Option Nat):w.grownBy w row:=⟨rfl,rfl,rfl,aj _,λ_ _ _=>rfl⟩
theorem DN(w:World):Below w.heap.size w w.drew:=gB (ag _ _) 1
section
variable {W0 W W' W3:World} {d:lJ} {P base:Nat} {v v':Value} {L M:List fJ}
theorem sP.own(h:sP W0 d P base v L W){q:Nat}(hq:v.ownBlock=some q):base<=q/\q<W.heap.size:=iP.low h.parts hq
theorem sP.grown{row:Option Nat}(h:sP W0 d P base v L W)(hg:W.grownBy W' row)(hr:∀q,row=some q->W0.heap.size<=q/\q≠P/\v.ownBlock≠some q):sP W0 d P base v L W' where
 bld:=fQ hg h.bld λe=>(hr P e).2.1 rfl
 parts:=iP.kept h.parts hg (by
  cases e:v.ownBlock with
  |none=>exact .inl rfl
  |some q=>exact .inr λe2=>(hr q e2.symm).2.2 e)
 low:=h.low
 bs:=aT h.bs hg.size
 w0:=h.w0
 ext:=h.ext.grown hg h.ext.size λq e=>(hr q e).1
theorem sP.ext'(h:sP W0 d P base v L W)(hb:Below W.heap.size W W'):sP W0 d P base v L W':=
 h.grown (row:=none) ⟨hb.os,hb.tape,hb.output,hb.size,λk hk _=>hb.block k hk⟩ λq e=>by cases e
theorem sP.steady{D:Nat}(hD:W0.heap.size<=D):fG D (sP W0 d P base v L):=λW W' row h hg hr=>
 ⟨(fG.block D P (o:=ED d v) rfl) W W' row h.bld hg hr,(fG.ownR D base v L) W W' row h.parts hg hr,h.low,aT h.bs hg.size,h.w0,(fG.below (n₀:=W0.heap.size) (w₀:=W0) (aj _) hD) W W' row h.ext hg hr⟩
theorem sP.cell(h:sP W0 d P base v L W):W.cell? ⟨P,4,none⟩=some v:=cR h.bld rfl
theorem sP.keep(h:sP W0 d P base v L W)(hc:Chg (SP P v) W W'):gC W W':=λk o hk ho=>hc.row hk λhs=>by
 rcases hs with rfl|hs
 .rw[h.bld] at hk;cases hk;cases ho
 .rcases h.parts.1.2 with ⟨e,_⟩|⟨g,cap,cur,e,_,hg,_⟩
  .rw[e] at hs;cases hs
  .rw[e] at hs;simp only[Value.ownBlock,aW] at hs;subst hs;rw[hg] at hk;cases hk;cases ho
theorem yY(h:W.heap[P]? =some (ED d v)):W.rangeAt P 0 [.slice d.pa d.pn d.pc,.slice d.ba d.bn d.bc,.slice d.ta d.bn d.tc,.slice d.fa d.bn d.fc]:=by
 intro k u hk
 rw[aZ _ _ _ _ _ _ h,bQ]
 have hlt:=(aE.1 hk).1
 simp only[bk,bx,Nat.reduceAdd] at hlt
 have:k=0\/k=1\/k=2\/k=3:=by omega
 rcases this with rfl|rfl|rfl|rfl<;>simpa using hk
theorem sP.app(h:sP W0 d P base v L W)(hg:W.grownBy W3 v.ownBlock)(ho:W3.ownsRow base 142 202 v' (L.length+M.length) (L.flatMap gJ++M.flatMap gJ))(hn:L.length+M.length<=1000000):
  sP W0 d P base v' (L++M) (W3.setCell ⟨P,4,none⟩ v')/\Chg (SP P v) W (W3.setCell ⟨P,4,none⟩ v'):=by
 have hlow:=h.low
 have hw0:=h.w0
 have hb3:W3.heap[P]? =some (ED d v):=fQ hg h.bld λe=>by have:=(h.own e).1;omega
 have g:=fU W3 P 4 v'
 have hp:gP W3 base v' (L++M):=⟨by rw[bf,cw];exact ho,by rw[bf];omega⟩
 refine⟨⟨?_,?_,hlow,?_,hw0,?_⟩,?_⟩
 .have:=aC W3 P 4 _ _ v' hb3;simpa using this
 .refine iP.kept hp g ?_;cases e:v'.ownBlock with
  |none=>exact .inl rfl
  |some q=>
   have:=(iP.low hp e).1;exact .inr λe2=>by injection e2 with e2;omega
 .have:=h.bs;have:=hg.size;simp;omega
 .exact(h.ext.grown hg h.ext.size λq e=>by have:=(h.own e).1;omega).setCell (by show W0.heap.size<=P;omega) _
 .exact((Chg.refl (SP P v) W).grown hg (λk e=>.inl (.inr e))).setCell (.inl (.inl rfl)) _
end
def RK(W0:World)(d:lJ)(P base:Nat)(v:Value)(w:World)(L:List fJ)(e:Ending)(w':World):Prop:=
 e=.returned (.tuple #[])/\∃v',sP W0 d P base v' L w'/\Chg (SP P v) w w'/\∀q,v'.ownBlock=some q->v.ownBlock=some q\/w.heap.size<=q
theorem DI:(Tryz.prog.info? 142).map (λi=>(i.zero,i.size,i.bytes))=some (some (.agg Tryz.zeroCells142),202,216):=by kernel_rfl
end
end Go.Proofs.YtbknbcmppdglhaaGreatDoor
