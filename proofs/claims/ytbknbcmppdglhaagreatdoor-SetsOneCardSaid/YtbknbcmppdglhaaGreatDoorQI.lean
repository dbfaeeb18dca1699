/-
 Parts of a function:put together out of a set,a kind,an entry;laid as a row of one.
-/
import Derived.Test.YtbknbcmppdglhaaGreatDoorA0
import Derived.Test.YtbknbcmppdglhaaGreatDoorGiRow
import Derived.Test.YtbknbcmppdglhaaGreatDoorTK
import Derived.Great.BuildSlice
import Derived.Test.YtbknbcmppdglhaaGreatDoorQH
import Derived.Test.YtbknbcmppdglhaaGreatDoorTJ
import Derived.Test.YtbknbcmppdglhaaGreatDoorTH
import Derived.Test.YtbknbcmppdglhaaGreatDoorMarks
namespace Go.Proofs.YtbknbcmppdglhaaGreatDoor
set_option linter.unusedSimpArgs false
set_option linter.unusedVariables false
set_option linter.unusedSectionVars false
set_option maxRecDepth 100000
set_option maxHeartbeats 40000000
section
open Go.RowKit
theorem me(off:Nat)(vs:List Value)(cells:Array Value)(k:Nat):
  (vs.toArray.zipIdx.foldl (λcs (x:Value×Nat)=>cs.setIfInBounds (off+x.2) x.1) cells).size=cells.size/\
  (vs.toArray.zipIdx.foldl (λcs (x:Value×Nat)=>cs.setIfInBounds (off+x.2) x.1) cells)[k]? =if off<=k/\k<off+vs.length/\k<cells.size then vs[k-off]? else cells[k]?:=by
 have h:=Great.foldl_set off vs 0 cells
 rw[<-Array.foldl_toList]
 simp only[Array.toList_zipIdx]
 exact⟨h.1,by have:=h.2 k;simpa using this⟩
theorem JU(p:fJ):(gJ p).toArray=((gK p.s).push (.int .i64 p.kind)).push (.int .i64 p.entry):=by
 rw[<-Array.toList_inj]
 simp[gJ]
theorem qm(s:Nat->Bool)(kd e:Int)(cells:Array Value)(hc:cells.size=202):
  Instr.fill (λi=>#[(0,200),(200,1),(201,1)][i]?) cells [(0,.agg (gK s)),(1,.int .i64 kd),(2,.int .i64 e)]=some (gJ ⟨s,kd,e⟩).toArray:=by
 have s1:(Value.agg (gK s)).cells=gK s:=rfl
 unfold Instr.fill
 simp only[d8,dF,s1,fO,hc]
 rw[az (by simp)]
 have h1:=λk=>me 0 (gK s).toList cells k
 rw[show(gK s).toList.toArray=gK s by simp] at h1
 generalize (gK s).zipIdx.foldl (λcs (x:Value×Nat)=>cs.setIfInBounds (0+x.2) x.1) cells=c1 at*
 have hs1:c1.size=202:=by rw[(h1 0).1,hc]
 have h1:=λk=>(h1 k).2
 unfold Instr.fill
 simp only[d8,List.getElem?_cons_succ,dF,Value.cells,bd,bk,bx,hs1]
 rw[az (by simp)]
 unfold Instr.fill
 simp only[d8,List.getElem?_cons_succ,dF,Value.cells,bd,bk,bx]
 rw[az (by simp[hs1])]
 unfold Instr.fill
 congr 1
 apply de
 intro k
 rw[JU]
 have z1:∀v:Value,#[v].zipIdx= #[(v,0)]:=λv=>rfl
 simp only[z1,List.foldl_toArray,List.foldl_toArray',bd,bk,bx,ed,List.foldl_nil,Nat.add_zero,Array.getElem?_setIfInBounds,Array.size_setIfInBounds,hs1,ez,Array.size_push,fO,h1,cL,hc,bQ,Array.getElem?_toList,Nat.sub_zero]
 by_cases k1:k=201
 .subst k1;simp
 .by_cases k2:k=200
  .subst k2;simp
  .by_cases k3:k<200
   .rw[az (by omega),az (by omega),aM (by omega),az (by omega),az (by omega)]
   .rw[az (by omega),az (by omega),az (by omega),az (by omega),az (by omega)];rw[bZ (by omega),bZ (by rw[fO];omega)]
theorem jw(s:Nat->Bool)(kd e:Int):Tryz.prog.built 142 [(0,.agg (gK s)),(1,.int .i64 kd),(2,.int .i64 e)]=some (gJ ⟨s,kd,e⟩).toArray:=by
 have h:=qm s kd e Tryz.zeroCells142 (by kernel_rfl)
 refine Eq.trans ?_ h
 kernel_rfl
theorem AA(s:Nat->Bool)(kd e:Int)(w:World):(Instr.build 142 #[(0,.agg (gK s)),(1,.int .i64 kd),(2,.int .i64 e)]).run Tryz.prog w=.ok (pX ⟨s,kd,e⟩) w:=run_build w _ _ _ (jw s kd e)
theorem xk{s:Nat}(vs:List Value)(cells:Array Value)(h1:vs.length=s)(h2:cells.size=s):Instr.fill (λi=>some (i*s,s)) cells [(0,.agg vs.toArray)]=some vs.toArray:=by
 unfold Instr.fill
 have s1:(Value.agg vs.toArray).cells=vs.toArray:=rfl
 simp only[s1,bd,h1,h2]
 rw[az (by simp)]
 unfold Instr.fill
 congr 1
 apply de
 intro k
 have h:=(me (0*s) vs cells k).2
 rw[h]
 simp only[Nat.zero_mul,d9,bQ,Nat.sub_zero,true_and,h1,h2,d8]
 by_cases hk:k<s
 .rw[aM ⟨hk,hk⟩]
 .rw[az (by omega),bZ (by omega),di (by omega)]
theorem CA{o:Oper}{a:Act}{w:World}{K:Act->World->Prop}{Q:Exit->Act->World->Prop}(x:Operand)(p:fJ)(ho:o.op=.buildSlice 133 1 #[(0,x)])(hx:a.eval x=pX p)
  (h:K (a.put o.dst (.slice (some ⟨w.heap.size,0,none⟩) 1 1)) (w.alloc (.cells (gJ p).toArray 142))):o.wp Tryz.prog a w K Q:=by
 obtain⟨ie,hie⟩:∃i,Tryz.prog.info? 142=some i:=eh.1 (by kernel_rfl)
 have hs:ie.size=202:=by have:=OC;rw[hie] at this;simpa using this
 obtain⟨z,hz⟩:∃z,ie.zero=some z:=by
  have:(Tryz.prog.info? 142).map (λi=>i.zero.isSome)=some true:=by kernel_rfl
  rw[hie] at this;exact eh.1 (by simpa using this)
 refine wp_buildSlice _ 142 1 #[(0,x)] ho (gJ p).toArray ie z fg hie hz (by rw[hs];omega) (by rw[hs];omega) ?_ h
 simp only[dS,cE,dB,hx]
 rw[hs]
 exact xk (gJ p) _ (kC p) (by simp)
theorem LC{ops:Array Oper}{rest:List Oper}{o:Oper}{a:Act}{C:World->Prop}{Q:Act->Prop}(hw:Region.wanted o (yielded ops a.tmps)=true)(x y z:Operand)(s:Nat->Bool)(kd e:Int)(ho:o.op=.build 142 #[(0,x),(1,y),(2,z)])
  (hx:a.eval x=.agg (gK s)) (hy:a.eval y=.int .i64 kd) (hz:a.eval z=.int .i64 e) (h:wpQuiet Tryz.prog ops C Q rest (a.put o.dst (pX ⟨s,kd,e⟩))):wpQuiet Tryz.prog ops C Q (o :: rest) a:=
 BigFrame.wpQuiet_want hw λ_ hK=>⟨pX ⟨s,kd,e⟩,λw hC=>by
  unfold Oper.quietAt execOp;simp only[ho,dS,cE,dB,hx,hy,hz,b7,AA,b8,dw]
  exact⟨rfl,rfl⟩,hK _ h⟩
theorem pO{P:Program}{ops:Array Oper}{rest:List Oper}{o:Oper}{a:Act}{w:World}{Q:Exit->Act->World->Prop}(hw:Region.wanted o (yielded ops a.tmps)=true)(ty:TypeId)(x:Operand)(ho:o.op=.load ty x)
  (b q:Nat) (hx:a.eval x=.pointer (some ⟨b,q,none⟩)) (cs:List Value) (d:TypeDesc) (hc:w.rangeAt b q cs)
  (hu:P.underlying ty=some d) (hd:d.isRow=true) (hi:(P.info? ty).map (·.size)=some cs.length)
  (h:wpList P ops Q rest (a.put o.dst (.agg cs.toArray)) w):wpList P ops Q (o :: rest) a w:=
 BigFrame.wpList_want hw λ_ hK=>cp ty x ho b q hx cs d hc hu hd hi (hK _ _ h)
theorem GA{ops:Array Oper}{rest:List Oper}{o:Oper}{a:Act}{w:World}{Q:Exit->Act->World->Prop}(hgd:o.guard=none)(x y z:Operand)(s:Nat->Bool)(kd e:Int)(ho:o.op=.build 142 #[(0,x),(1,y),(2,z)])
  (hx:a.eval x=.agg (gK s)) (hy:a.eval y=.int .i64 kd) (hz:a.eval z=.int .i64 e) (h:wpList Tryz.prog ops Q rest (a.put o.dst (pX ⟨s,kd,e⟩)) w):wpList Tryz.prog ops Q (o :: rest) a w:=
 ee hgd λK hK=>by
  unfold Oper.wp execOp;simp only[ho,dS,cE,dB,hx,hy,hz,b7,AA,b8,dw];exact hK _ _ h
theorem MB{ops:Array Oper}{rest:List Oper}{o:Oper}{a:Act}{w:World}{Q:Exit->Act->World->Prop}(hgd:o.guard=none)(x:Operand)(p:fJ)(ho:o.op=.buildSlice 133 1 #[(0,x)])(hx:a.eval x=pX p)
  (h:wpList Tryz.prog ops Q rest (a.put o.dst (.slice (some ⟨w.heap.size,0,none⟩) 1 1)) (w.alloc (.cells (gJ p).toArray 142))):wpList Tryz.prog ops Q (o :: rest) a w:=
 ee hgd λ_ hK=>CA x p ho hx (hK _ _ h)
end

section
open Go.RowKit Go.Shelf
attribute [local go_sem] Oper.semAt_some iF gH gS fX
def stP(ts:List fS)(f:Nat)(inn:Nat->Bool)(dn:List Nat):(Nat->Bool)×List fJ:=dn.foldl (xY ts (nG ts f) inn) (inn,[])
theorem yR(ts:List fS)(f:Nat)(inn:Nat->Bool)(dn:List Nat)(x:Nat):stP ts f inn (dn++ [x])=xY ts (nG ts f) inn (stP ts f inn dn) x:=by rw[stP,List.foldl_append];rfl
theorem ub(ts:List fS)(rec:(Nat->Bool)->List fJ)(inn:Nat->Bool)(st:(Nat->Bool)×List fJ)(x:Nat):st.2.length<=(xY ts rec inn st x).2.length:=by
 unfold xY
 split
 .split<;>simp
 .exact aj _
theorem QQ(ts:List fS)(f:Nat)(inn:Nat->Bool):∀(r dn:List Nat),(stP ts f inn dn).2.length<=(stP ts f inn (dn++r)).2.length
 | [],dn=>by simp
 |x :: r,dn=>by
  rw[show dn++x :: r=(dn++ [x])++r by simp];refine aT ?_ (QQ ts f inn r (dn++ [x]));rw[yR];exact ub _ _ _ _ _
def MV(f:Nat->Bool)(dn:List Nat):Nat->Bool:=λy=>if dn.contains y then false else f y
theorem vh(f:Nat->Bool):MV f []=f:=by funext y;simp[MV]
theorem pl(f:Nat->Bool)(dn:List Nat)(x:Nat):(λk=>if k=x then false else MV f dn k)=MV f (dn++ [x]):=by
 funext k
 simp only[MV,eM,ax,bz]
 by_cases e:k=x<;>simp[e]
theorem vj(f:Nat->Bool){s:Nat->Bool}(hc:iV s):MV f (gQ s)=oS f s:=by
 funext k
 simp only[MV,oS,eM,kV hc]
 cases s k<;>simp
structure LoF(W0:World)(P:Nat)(v0:Value)(w:World):Prop where
 h0:W0.heap.size<=w.heap.size
 hP:P<w.heap.size
 hv:∀q,v0.ownBlock=some q->q<w.heap.size
def LoJ(W0:World)(d:lJ)(P base:Nat)(v0:Value)(L:List fJ)(w:World)(inn:Nat->Bool)(st:(Nat->Bool)×List fJ)(W:World):Prop:=
 ∃v,sP W0 d P base v (L++st.2) W/\W.heap[w.heap.size]? =some (.cells #[.pointer (some ⟨P,0,none⟩)] 132 (0,0))/\W.heap[w.heap.size+1]? =some (jY inn)/\W.heap[w.heap.size+1+1]? =some (jY st.1)/\
  W.heap[w.heap.size+1+1+1]? =some (.cells #[.pointer (some ⟨w.heap.size+1,0,none⟩)] 245 (0,0))/\Chg (SP P v0) w W/\∀q,v.ownBlock=some q->v0.ownBlock=some q\/w.heap.size+1+1+1<q
section
variable {W0:World} {d:lJ} {P base:Nat} {v0:Value} {L:List fJ} {w:World} {inn:Nat->Bool} {st:(Nat->Bool)×List fJ} {D:Nat} {W W':World}
theorem LoJ.steady(hD:w.heap.size<=D)(h0:W0.heap.size<=w.heap.size):fG D (LoJ W0 d P base v0 L w inn st):=by
 unfold LoJ
 exact fG.ex λv=>(sP.steady (by omega)).and ((fG.block _ _ rfl).and ((fG.block _ _ rfl).and ((fG.block _ _ rfl).and ((fG.block _ _ rfl).and ((fG.chg hD).and (fG.pure _ _))))))
theorem LoJ.off(hF:LoF W0 P v0 w)(h:LoJ W0 d P base v0 L w inn st W){y:Nat}(hy:y<200):LoJ W0 d P base v0 L w inn ((λk=>if k=y then false else st.1 k),st.2) (W.setCell ⟨w.heap.size+1+1,y,none⟩ (.bool false)):=by
 obtain⟨v,j0,j1,j2,j3,j4,jc,jv⟩:=h
 obtain⟨f0,f1,f2⟩:=hF
 have g:=fU W (w.heap.size+1+1) y (.bool false)
 refine⟨v,j0.grown g λq e=>?_,fQ g j1 λe=>?_,fQ g j2 λe=>?_,AD j3 y hy false,fQ g j4 λe=>?_,jc.setCell (.inr (by show w.heap.size<=w.heap.size+1+1;omega)) _,jv⟩
 .injection e with e;refine⟨by omega,by omega,λe2=>?_⟩;rcases jv q e2 with h|h
  .have:=f2 q h;omega
  .omega
 all_goals (injection e with e;omega)
theorem LoJ.app(hF:LoF W0 P v0 w){v:Value}{M:List fJ}{v':Value}{W3:World}(j0:sP W0 d P base v (L++st.2) W)(h:LoJ W0 d P base v0 L w inn st W)(hv:∀q,v.ownBlock=some q->v0.ownBlock=some q\/w.heap.size+1+1+1<q)(j0':sP W0 d P base v' (L++st.2++M) W3)(hc:Chg (SP P v) W W3)
  (hat:∀q,v'.ownBlock=some q->v.ownBlock=some q\/W.heap.size<=q):LoJ W0 d P base v0 L w inn (st.1,st.2++M) W3:=by
 obtain⟨v1,k0,j1,j2,j3,j4,jc,jv⟩:=h
 obtain⟨f0,f1,f2⟩:=hF
 have key:∀{k:Nat} {o:Obj},W.heap[k]? =some o->(k=w.heap.size\/k=w.heap.size+1\/k=w.heap.size+1+1\/k=w.heap.size+1+1+1)->W3.heap[k]? =some o:=λ{k o} hk he=>by
  refine hc.row hk λhs=>?_;rcases hs with hs|hs
  .omega
  .rcases hv k hs with h|h
   .have:=f2 k h;omega
   .omega
 have hlt:=fE j4
 refine⟨v',by rw[<-cd];exact j0',key j1 (by omega),key j2 (by omega),key j3 (by omega),key j4 (by omega),jc.then hc λq hq=>?_,λq hq=>?_⟩
 .rcases hq with rfl|hq
  .exact .inl (.inl rfl)
  .rcases hv q hq with h|h
   .exact .inl (.inr h)
   .exact .inr (by omega)
 .rcases hat q hq with h|h
  .exact hv q h
  .exact .inr (by omega)
end
theorem px(W0:World)(d:lJ)(ts:List fS)(hok:mQ W0 d ts)(hf:jK ts=true)(P base:Nat):
  ∀(f:Nat) (inn:Nat->Bool) (v:Value) (L:List fJ) (w:World),iV inn->(∀y,inn y=true->y<ts.length)->L.length+(nG ts f inn).length<=1000->(gQ inn).length<f->sP W0 d P base v L w->
  Calls Tryz.prog 55 #[.pointer (some ⟨P,0,none⟩),.agg (gK inn)] w (RK W0 d P base v w (L++nG ts f inn)):=by
 intro f
 induction f with
 |zero=>intro inn v L w _ _ _ h;omega
 |succ f ih=>
  intro inn v L w hc hin hlen hlt h;have IH:=ac ih;have HC:=ac hc;have HIN:=ac hin;have HLEN:=ac hlen;have HLT:=ac hlt;have HJ0:=ac h;have HF:=ac hf;have HOK:=ac hok;have hbn:ts.length=d.bn:=hok.1;have hw0:W0.heap.size<=w.heap.size:=h.ext.size;have hPw:P<w.heap.size:=fE h.bld;have HLF:LoF W0 P v w:=⟨hw0,hPw,λq hq=>(h.own hq).2⟩
  have HBN:=ac hbn;clear hc hin hlen hlt h ih hok hf hbn;refine(bu (n:=0)).1 ?_;refine cu Tryz.func55 rfl trivial ?_;simp only[Tryz.ntmps55,bd,bk,bx,Nat.reduceAdd,Nat.reduceSub,bF,bG,bV,bN,bD,bU];have hi1:((w.alloc (.cells #[.pointer (some ⟨P,0,none⟩)] 132)).alloc (jY inn)).heap[w.heap.size+1]? =some (jY inn):=iT _ _ _ (by simp)
  gi_wp2_with (first
   |(refine sL 138 _ rfl (w.heap.size+1) rfl 138 (gK inn) (0,0) _ hi1 aL rfl (by rw[fO];exact gF) ?_)
   |(refine AC 138 _ _ rfl (w.heap.size+1+1) (gK inn) rfl rfl 138 Tryz.zeroCells138 (iT _ _ _ (by simp)) (by rw[fO];exact gF) (by rw[fO];kernel_rfl) (mR _) ?_)
   |(gi_at_call 64;refine(bu.2 (sW _ _)).mono ?_;rintro e w' ⟨rfl,rfl⟩))
  clear hi1;obtain⟨W1,hW1⟩:∃W1,W1=((((w.alloc (.cells #[.pointer (some ⟨P,0,none⟩)] 132)).alloc (jY inn)).alloc (.cells Tryz.zeroCells138 138)).setRow (w.heap.size+1+1) (gK inn)).alloc (.cells #[.pointer (some ⟨w.heap.size+1,0,none⟩)] 245):=⟨_,rfl⟩
  rw[<-hW1];have hb1:Below w.heap.size w W1:=by rw[hW1];exact(aX ((((ag _ w).alloc (aj _) _).alloc (by simp) _).alloc (by simp;omega) _) (by omega) _).alloc (by simp;omega) _
  have hsz1:W1.heap.size=w.heap.size+1+1+1+1:=by rw[hW1];simp
  have HST:Hid (LoJ W0 d P base v L w inn (stP ts f inn []) W1):=by
   have e:stP ts f inn []=(inn,[]):=rfl;rw[Hid,e];refine⟨v,by rw[ct];exact HJ0.out.ext' hb1,?_,?_,?_,?_,(Chg.refl _ _).of_ext hb1,λq hq=>.inl hq⟩
   .rw[hW1,aG _ _ _ (by simp;omega),cC _ _ _ _ (by omega),aG _ _ _ (by simp;omega),aG _ _ _ (by simp)];exact ae _ _
   .rw[hW1,aG _ _ _ (by simp),cC _ _ _ _ (by omega),aG _ _ _ (by simp)];exact iT _ _ _ (by simp)
   .rw[hW1,aG _ _ _ (by simp)];exact bt _ _ _ _ _ _ (iT _ _ _ (by simp))
   .rw[hW1];exact iT _ _ _ (by simp)
  clear hW1
  refine GF (ps:=#[11]) (gf:=159) (lb:=#[.pointer (some ⟨w.heap.size+1+1+1,0,none⟩)]) (enc:=rU) (l:=gQ inn) rfl pE _ (qL inn (w.heap.size+1+1+1) (w.heap.size+1)) (λ_=>rfl)
   (λdn r W=>Hid (LoJ W0 d P base v L w inn (stP ts f inn dn) W)) (λ_ _=>False) (λdn r=>LoJ.steady (by omega) hw0) (λc=>fG.pure _ _)
   (λdn r W h=>by obtain⟨v1,_,_,h2,_,h4,_⟩:=h.out;exact⟨cR h4 rfl,h2⟩) HST ?round ?done ?stop
  case round=>
   rintro lp dn x r W hd hJ;unfold rU
   gi_wp2
   refine⟨gC.refl _,hJ,?_⟩;clear hJ lp W;rintro lp W hlp ⟨rc,hrc⟩ hJ;have hxin:inn x=true:=(kV HC.out x).1 (by rw[hd];simp);have hxl:x<200:=HC.out x hxin;have hxb:inn x=true->x<d.bn:=λh=>by rw[<-HBN.out];exact HIN.out x h
   have HXIN:=ac hxin;have HD:=ac hd;have HRC:=ac hrc;obtain⟨v1,j0,j1,j2,j3,j4,jc,jv⟩:=hJ.out;have J0:=ac j0.bld;have J1:=ac j1;have J2:=ac j2;have JB:=ac j0.ext;have hWs:w.heap.size+1+1+1<W.heap.size:=fE j4;clear hd hrc j0 j1 j2 j3 j4 jc jv hxin
   gi_wp2
   refine xL 8 [some 12,some 13,some 14,some 15,some 16,some 17,some 18,some 6] (by kernel_rfl) (by kernel_rfl) (by repeat (first|exact gZ|refine iK ?_|refine hU ?_)) (by kernel_rfl) (jZ [.val (.pointer (some ⟨P,0,none⟩)),.val (.pointer (some ⟨P,0,none⟩)),.val (.pointer (some ⟨P,0,none⟩)),.val (jJ d),.val (.int .i64 (x:Int)),.val (.agg (gK inn)),.val (.agg (gK (iH ts x inn))),.new (jY λ_=>false)]) (jX ?_) ?_ ?_
   .intro k hk;simp only[aS,bO,cX] at hk;rcases hk with rfl|rfl|rfl|rfl|rfl|rfl|rfl|rfl<;>try exact trivial
   .intro i hi ν lo hi' w1 K hB hD hK;have hcase:i=0\/i=1\/i=2\/i=3\/i=4\/i=5\/i=6\/i=7:=by omega
    clear hi;rcases hcase with rfl|rfl|rfl|rfl|rfl|rfl|rfl|rfl
    .clear hD;refine fF rfl rfl ?_;simp only[zA,zB,zC,zD,zE,zF,zJ,zK,zG,zH,zI] at hK|-;have q1:=fZ hB (show W.cell? ⟨w.heap.size,0,none⟩=some (.pointer (some ⟨P,0,none⟩)) from cR J1.out rfl);go_simp;exact hK _ _ (ag _ _) rfl
    .have e0:ν 0=(.pointer (some ⟨P,0,none⟩)):=hD 0 (by kernel_rfl);clear hD;refine fF rfl rfl ?_;simp only[zA,zB,zC,zD,zE,zF,zJ,zK,zG,zH,zI,e0] at hK|-;go_simp;exact hK _ _ (ag _ _) rfl
    .have e1:ν 1=(.pointer (some ⟨P,0,none⟩)):=hD 1 (by kernel_rfl);clear hD;refine fF rfl rfl ?_;simp only[zA,zB,zC,zD,zE,zF,zJ,zK,zG,zH,zI,e1] at hK|-;go_simp;exact hK _ _ (ag _ _) rfl
    .have e2:ν 2=(.pointer (some ⟨P,0,none⟩)):=hD 2 (by kernel_rfl);clear hD;refine fF rfl rfl ?_;simp only[zA,zB,zC,zD,zE,zF,zJ,zK,zG,zH,zI,e2] at hK|-;refine cp 129 _ rfl P 0 rfl _ _ (yY (fB hB J0.out)) aY rfl gG ?_;exact hK _ _ (ag _ _) rfl
    .clear hD;refine fF rfl rfl ?_;simp only[zA,zB,zC,zD,zE,zF,zJ,zK,zG,zH,zI] at hK|-;go_simp;exact hK _ _ (ag _ _) rfl
    .clear hD;refine fF rfl rfl ?_;simp only[zA,zB,zC,zD,zE,zF,zJ,zK,zG,zH,zI] at hK|-;refine cy 138 _ rfl (w.heap.size+1) rfl 138 _ (0,0) _ (fB hB J2.out) aL rfl (by rw[fO];exact gF) ?_;exact hK _ _ (ag _ _) rfl
    .have e3:ν 3=(jJ d):=hD 3 (by kernel_rfl);have e4:ν 4=(.int .i64 (x:Int)):=hD 4 (by kernel_rfl);have e5:ν 5=(.agg (gK inn)):=hD 5 (by kernel_rfl);clear hD;refine fF rfl rfl ?_;simp only[zA,zB,zC,zD,zE,zF,zJ,zK,zG,zH,zI,e3,e4,e5] at hK|-;go_simp;refine(KG d ts x inn w1 hxl (HOK.out.ext (fC JB.out hB)) (gT HF.out).1 HC.out hxb).mono ?_;rintro e w3 ⟨rfl,hb3⟩;exact hK _ _ hb3 rfl
    .clear hD;refine fF rfl rfl ?_;simp only[zA,zB,zC,zD,zE,zF,zJ,zK,zG,zH,zI] at hK|-;go_simp;refine hK _ _ (fD _ _) ⟨rfl,by simp,?_⟩;rw[ae,oX]
   .intro ν lo hi w1 hB hS hI hD;have e0:ν 0=(.pointer (some ⟨P,0,none⟩)):=hS 0 (by omega);have e1:ν 1=(.pointer (some ⟨P,0,none⟩)):=hS 1 (by omega);have e2:ν 2=(.pointer (some ⟨P,0,none⟩)):=hS 2 (by omega);have e3:ν 3=(jJ d):=hS 3 (by omega);have e4:ν 4=(.int .i64 (x:Int)):=hS 4 (by omega);have e5:ν 5=(.agg (gK inn)):=hS 5 (by omega);have e6:ν 6=(.agg (gK (iH ts x inn))):=hS 6 (by omega);obtain⟨e7,l7,h7⟩:=hS 7 (by omega);clear hS;simp only[am,aw,zA,zB,zC,zD,zE,zF,zJ,zK,zG,zH,zI,e0,e1,e2,e3,e4,e5,e6,e7];obtain⟨K,hKK⟩:∃K,K=iH ts x inn:=⟨_,rfl⟩
    rw[<-hKK];have i7:=hI 7 (by omega);generalize lo 7=S7 at *;have hS7:=i7.1;have hw2:=aX (g:=S7) hB hS7 (gK K);have hs2:=bt w1 S7 _ (gK K) _ _ h7;refine aP (o:=⟨none,.store 138 _ _,_,_,_,_⟩) rfl 138 _ _ rfl S7 (gK K) rfl rfl 138 _ h7 (by rw[fO];exact gF) rfl (mR _) ?_;have HJ2:=ac ((LoJ.steady (aj _) hw0).ext hJ.out hw2);have HK2:=ac (gC.ext hw2);have hrc2:=fB hw2 HRC.out;have hS7b:S7<w1.heap.size:=fE h7;have hsz2:(w1.setRow S7 (gK K)).heap.size=w1.heap.size:=by simp
    generalize w1.setRow S7 (gK K)=w2 at *;have HS2:=ac hs2;have HRC2:=ac hrc2;have HKK:=ac hKK;have hsS:W.heap.size<=S7:=hS7;rw[<-hsz2] at hS7b;clear hI hD hB e0 e1 e2 e3 e4 e5 e6 e7 l7 h7 i7 hw2 hs2 hrc2 hsz2 hKK hJ HRC hS7;go_wp2;obtain⟨v2,j0,j1,j2,j3,j4,jc,jv⟩:=HJ2.out;obtain⟨lb,hlb⟩:∃b,b=(stP ts f inn dn).1 x:=⟨_,rfl⟩
    obtain⟨kb,hkb⟩:∃b,b=K x:=⟨_,rfl⟩
    have c1:=lK j3 x hxl;have c2:=lK HS2.out x hxl;rw[<-hlb] at c1;rw[<-hkb] at c2;have HLB:=ac hlb;have HKB:=ac hkb;clear hlb hkb j0 j1 j2 j3 j4 jc jv;cases lb with
    |false=>
     have HE:Hid (stP ts f inn (dn++ [x])=stP ts f inn dn):=by rw[Hid,yR,xY,<-HLB.out,dZ];rfl
     gi_wp2
     exact⟨HK2.out,by rw[HE.out];exact HJ2⟩
    |true=>
     cases kb with
     |false=>
      have HE:Hid (stP ts f inn (dn++ [x])=stP ts f inn dn):=by rw[Hid,yR,xY,<-HKK.out,<-HKB.out,Bool.and_false];rfl
      gi_wp2
      exact⟨HK2.out,by rw[HE.out];exact HJ2⟩
     |true=>
      have HCK:Hid (iV K):=by rw[Hid,HKK.out];exact xN HC.out x
      gi_wp2_with (gi_at_call 64;refine(eG _ (bu.2 (sW _ _))).mono ?_;rintro e w' ⟨rfl,rfl⟩)
      clear c1 c2;obtain⟨w3,hw3⟩:∃w3,w3=w2.alloc (.cells #[.pointer (some ⟨S7,0,none⟩)] 245):=⟨_,rfl⟩
      rw[<-hw3];have hb3:Below w2.heap.size w2 w3:=by rw[hw3];exact fD _ _
      have hg3:w3.heap[w2.heap.size]? =some (.cells #[.pointer (some ⟨S7,0,none⟩)] 245 (0,0)):=by rw[hw3];exact ae _ _
      have hrc3:=fB hb3 HRC2.out;have hsz3:w3.heap.size=w2.heap.size+1:=by rw[hw3];simp
      have HST3:Hid (LoJ W0 d P base v L w inn (MV (stP ts f inn dn).1 [],(stP ts f inn dn).2) w3/\w3.heap[S7]? =some (jY K)/\w3.heap[w2.heap.size]? =some (.cells #[.pointer (some ⟨S7,0,none⟩)] 245 (0,0))/\gC W w3):=
       ⟨by rw[vh];exact(LoJ.steady (aj _) hw0).ext HJ2.out hb3,fB hb3 HS2.out,hg3,HK2.out.trans (gC.ext hb3)⟩
      clear hw3 hb3 hg3 HJ2 HK2 HRC2 HS2
      refine XE (ps:=#[30]) (gf:=159) (lb:=#[.pointer (some ⟨w2.heap.size,0,none⟩)]) (enc:=rU) (l:=gQ K) hrc3 rfl pE _ (qL K w2.heap.size S7) (λ_=>rfl)
       (λdn2 r2 Wi=>Hid (LoJ W0 d P base v L w inn (MV (stP ts f inn dn).1 dn2,(stP ts f inn dn).2) Wi/\Wi.heap[S7]? =some (jY K)/\Wi.heap[w2.heap.size]? =some (.cells #[.pointer (some ⟨S7,0,none⟩)] 245 (0,0))/\gC W Wi)) (λ_ _=>False)
       (λdn2 r2=>(LoJ.steady (by omega) hw0).and ((fG.block _ _ rfl).and ((fG.block _ _ rfl).and (fG.keep _ _ (by omega))))) (λc=>fG.pure _ _)
       (λdn2 r2 Wi h=>⟨cR h.out.2.2.1 rfl,h.out.2.1⟩) HST3 ?round2 ?done2 ?stop2
      case round2=>
       rintro lp2 dn2 y r2 Wi hd2 hJi;unfold rU
       gi_wp2
       refine⟨gC.refl _,hJi,?_⟩;clear hJi lp2 Wi;rintro lp2 Wi _ _ hJi;have hyl:y<200:=uF K y (by rw[hd2];simp);have HN:Hid (LoJ W0 d P base v L w inn (MV (stP ts f inn dn).1 (dn2++ [y]),(stP ts f inn dn).2) (Wi.setCell ⟨w.heap.size+1+1,y,none⟩ (.bool false))/\(Wi.setCell ⟨w.heap.size+1+1,y,none⟩ (.bool false)).heap[S7]? =some (jY K)/\(Wi.setCell ⟨w.heap.size+1+1,y,none⟩ (.bool false)).heap[w2.heap.size]? =some (.cells #[.pointer (some ⟨S7,0,none⟩)] 245 (0,0))/\gC W (Wi.setCell ⟨w.heap.size+1+1,y,none⟩ (.bool false))):=by
        obtain⟨i0,i1,i2,i3⟩:=hJi.out;have g:=fU Wi (w.heap.size+1+1) y (.bool false);refine⟨?_,fQ g i1 λe=>by injection e with e;omega,fQ g i2 λe=>by injection e with e;omega,i3.trans (gC.setCell _ _ _)⟩;rw[<-pl];exact i0.off HLF hyl
       obtain⟨i0,i1,i2,i3⟩:=hJi.out;obtain⟨vi,k0,k1,k2,k3,k4,kc,kv⟩:=i0;have hc:=lK k3 y hyl;have hf:=rJ k3 y;have hl:=fE k3;clear i1 i2 i3 k0 k1 k2 k3 k4 kc kv hJi hd2
       gi_wp2
       exact⟨gC.setCell _ _ _,HN⟩
      case stop2=>rintro c Wx h;exact h.elim
      case done2=>
       rintro Wd hJd;obtain⟨i0,i1,i2,i3⟩:=hJd.out;rw[vj _ HCK.out] at i0;have HJ3:=ac i0;have HS3:=ac i1;have HK3:=ac i3;clear i0 i1 i2 i3 hJd HST3 hrc3 hsz3;obtain⟨v3,j0,j1,j2,j3,j4,jc,jv⟩:=HJ3.out;have g1:∀n:fL Wd,n.val.cell? ⟨w.heap.size,0,none⟩=some (.pointer (some ⟨P,0,none⟩)):=fL.cell (cR j1 rfl);have g2:∀w',(∃n:fL Wd,w'=n.val)->w'.rangeAt P 0 [.slice d.pa d.pn d.pc,.slice d.ba d.bn d.bc,.slice d.ta d.bn d.tc,.slice d.fa d.bn d.fc]:=λw' ⟨n,e⟩=>by rw[e];exact yY (fB n.ext j0.bld)
       have g3:∀w',(∃n:fL Wd,w'=n.val)->w'.heap[S7]? =some (jY K):=λw' ⟨n,e⟩=>by rw[e];exact fB n.ext HS3.out
       have HWK:=ac (HOK.out.ext (fC j0.ext (gB (ag _ Wd) 1)));clear j0 j1 j2 j3 j4 jc jv
       gi_wp2
       refine rY (λw'=>∃n:fL Wd,w'=n.val) [(0,5,some (5,true)),(6,1,none)] (by kernel_rfl) (by kernel_rfl) (by kernel_rfl) (by repeat (first|exact gZ|refine iK ?_|refine hU ?_)) ⟨⟨_,gB (ag _ _) 1⟩,rfl⟩ ?_;simp only[lS,ap,aD,am,aw]
       repeat (first
        |go_big_quiet_skip
        |(refine gU (o:=⟨some 36,.load 129 _,_,_,_,_⟩) (by rfl) 129 _ rfl P 0 rfl _ _ g2 aY rfl gG ?_;simp only[zJ,zG,zH,zI])
        |(refine fW (o:=⟨some 37,.load 138 _,_,_,_,_⟩) (by rfl) 138 _ rfl S7 rfl 138 (gK K) (0,0) _ g3 aL rfl (by rw[fO];exact gF) ?_;simp only[zJ,zG,zH,zI])
        |go_big_quiet_step (fail))
       refine aq ?_;refine fR rfl rfl ?_;go_simp;refine(GS d ts K Wd.drew HWK.out (gT HF.out).1).mono ?_;rintro e w4 ⟨v4,rfl,ho4,hb4⟩;have hb4:=lH hb4;refine⟨⟨⟨w4,hb4⟩,rfl⟩,?_⟩;clear g1 g2 g3;obtain⟨av,cv,rfl⟩:=ho4.form
       repeat (go_big_quiet_step (fail))
       refine aq ?_;refine bR ?_;have HJ4:=ac ((LoJ.steady (aj _) hw0).ext HJ3.out hb4);have HS4:=ac (fB hb4 HS3.out);have HK4:=ac (HK3.out.trans (gC.ext hb4));have hEl:(fN (fV ts K)).length=(fV ts K).length:=by simp[fN]
       rw[hEl];obtain⟨E,hE⟩:∃E,E=fV ts K:=⟨_,rfl⟩
       rw[hEl,<-hE] at ho4;have HO4:=ac (ho4.mono (base':=Wd.heap.size) (aj _));have HEE:=ac hE;rw[<-hE];clear ho4 hEl hE HJ3 HS3 HK3;by_cases h1:1<E.length
       .have h1':(1:Int)<(E.length:Int):=by omega
        have HE:Hid (stP ts f inn (dn++ [x])=(oS (stP ts f inn dn).1 K,(stP ts f inn dn).2++ [⟨K,3,-1⟩])):=by
         rw[Hid,yR,xY,<-HKK.out,<-HLB.out,<-HKB.out,dg,aM rfl,<-HEE.out,aM h1]
        have hb5:(L++(stP ts f inn dn).2).length+1<=1000:=by
         have q1:=QQ ts f inn r (dn++ [x]);rw[HE.out] at q1;have q2:dn++ [x]++r=gQ inn:=by rw[HD.out];simp
         rw[q2] at q1;have q3:=HLEN.out;have q4:nG ts (f+1) inn=(stP ts f inn (gQ inn)).2:=rfl;rw[q4] at q3;simp at q1|-;omega
        obtain⟨v5,j0,j1,j2,j3,j4,jc,jv⟩:=HJ4.out;obtain⟨a5,c5,hv5⟩:=iP.form j0.parts;obtain⟨n5,hn5⟩:∃n,n=(L++(stP ts f inn dn).2).length:=⟨_,rfl⟩
        rw[<-hn5] at hv5;subst hv5;have hS5:(Value.slice a5 n5 c5).ownBlock≠some S7:=jW j0.parts.1 HS4.out (by decide);have g1:∀n:mL (λW'=>w4.grownBy W' (Value.slice a5 n5 c5).ownBlock),n.val.cell? ⟨w.heap.size,0,none⟩=some (.pointer (some ⟨P,0,none⟩)):=λn=>cR (fQ n.prop j1 (jW j0.parts.1 j1 (by decide))) rfl;have g2:∀n:mL (λW'=>w4.grownBy W' (Value.slice a5 n5 c5).ownBlock),n.val.cell? ⟨P,4,none⟩=some (.slice a5 n5 c5):=λn=>cR (fQ n.prop j0.bld (jW j0.parts.1 j0.bld (by decide))) rfl;have g3:∀w',(∃n:mL (λW'=>w4.grownBy W' (Value.slice a5 n5 c5).ownBlock),w'=n.val)->w'.heap[S7]? =some (jY K):=λw' ⟨n,e⟩=>by rw[e];exact fQ n.prop HS4.out hS5
        have hne:Nonempty (mL (λW'=>w4.grownBy W' (Value.slice a5 n5 c5).ownBlock)):=wZ (LM _ _);have J0:=ac (j0.ext' (DN w4));have hown4:w4.drew.ownsRow base 142 202 (.slice a5 n5 c5) n5 ((L++(stP ts f inn dn).2).flatMap gJ):=by have:=J0.out.parts.1;rwa [<-hn5] at this
        have HOWN4:=ac hown4;have JV:=ac jv;have HN5:=ac hn5;have hbs:=J0.out.bs;have hn1000:n5+1<=1000:=by omega
        clear j0 j1 j2 j3 j4 jc jv hown4 hn5
        gi_wp2
        refine rY (λw'=>∃n:mL (λW'=>w4.grownBy W' (Value.slice a5 n5 c5).ownBlock),w'=n.val) [(0,7,some (7,true)),(8,0,some (8,true)),(9,2,some (11,false))] (by kernel_rfl) (by kernel_rfl) (by kernel_rfl) (by repeat (first|exact gZ|refine iK ?_|refine hU ?_)) (kX (sG _ _)) ?_;simp only[lS,ap,aD,am,aw]
        repeat (first
         |go_big_quiet_skip
         |(refine fW (o:=⟨some 47,.load 138 _,_,_,_,_⟩) (by rfl) 138 _ rfl S7 rfl 138 (gK K) (0,0) _ g3 aL rfl (by rw[fO];exact gF) ?_;simp only[zJ,zG,zH,zI])
         |(refine LC (o:=⟨some 48,.build 142 _,_,_,_,_⟩) (by rfl) _ _ _ K 3 (-1) rfl rfl rfl rfl ?_;simp only[zJ,zG,zH,zI])
         |go_big_quiet_step (fail))
        refine aq ?_;refine fR rfl rfl ?_;refine CA _ ⟨K,3,(-1)⟩ rfl rfl ?_;simp only[zJ,zG,zH,zI];refine⟨kX (DK (sG _ _) (eW _ _ _)),?_⟩;refine aq ?_;refine fR rfl rfl ?_;refine pC w4.drew (.tmp 46) (.tmp 49) 133 142 rfl base _ 202 216 fg DI (by kernel_rfl) (by omega) (.slice a5 n5 c5) n5 _ (gJ ⟨K,3,(-1)⟩) rfl HOWN4.out w4.heap.size rfl rfl (kC _) (iO _) (by simp only[maxLen];omega) (by omega) hbs ?_;intro g cap w5 hown5 hg5 hat5;have hP5:w5.heap[P]? =some (ED d (.slice a5 n5 c5)):=fQ hg5 J0.out.bld (jW HOWN4.out J0.out.bld (by decide));have hf5:=fK 4 hP5;have hl5:=fE hP5;have hc5:=cK 4 hP5 rfl;have hgg:w4.grownBy w5 (Value.slice a5 n5 c5).ownBlock:=DK (sG _ _) hg5;have happ:=J0.out.app (M:= [⟨K,3,(-1)⟩]) hg5 (by rw[<-HN5.out];simpa using hown5) (by rw[<-HN5.out];simp;omega)
        have hJN:=LoJ.app (st:=(oS (stP ts f inn dn).1 K,(stP ts f inn dn).2)) HLF J0.out ((LoJ.steady (aj _) hw0).ext HJ4.out (DN w4)) JV.out happ.1 happ.2 (λq hq=>by
         simp only[Value.ownBlock,aW] at hq;subst hq;rcases hat5 with h|h
         .exact .inl h.symm
         .exact .inr (by rw[h];exact bY _))
        have HBN5:=ac happ.1;have HJN:=ac hJN
        have HKN:Hid (gC W (w5.setCell ⟨P,4,none⟩ (.slice (some ⟨g,0,none⟩) (n5+1) cap))):=HK4.out.trans ((gC.grown hgg (λq o e ho=>by
         rcases HOWN4.out.2 with ⟨h,_⟩|⟨g',cap',cur,h,_,hg',_⟩
         .rw[h] at e;cases e
         .rw[h] at e;simp only[Value.ownBlock,aW] at e;subst e;have ho':w4.drew.heap[g']? =some o:=ho;rw[hg'] at ho';cases ho'
          rfl)).trans (gC.setCell _ _ _))
        have HAT:Hid (some g=(Value.slice a5 n5 c5).ownBlock\/g=w4.heap.size+1):=hat5;have HGG:=ac hgg;refine⟨kX hgg,?_⟩;simp only[zJ,zG,zH,zI];clear hown5 hg5 hat5 hgg happ hJN hP5 g1 g2 g3
        repeat (go_big_quiet_step (fail))
        refine aq ?_;refine fR rfl rfl ?_;go_simp;refine bR ?_
        gi_wp2
        exact⟨HKN.out,by rw[HE.out];exact HJN⟩
       .have h1':¬(1:Int)<(E.length:Int):=by omega
        have hlow:∀y,K y=true->1<=y/\y<ts.length:=λy hy=>by
         rw[HKK.out] at hy;obtain⟨x',_,hx'⟩:=BV ((mS HC.out x y).1 hy).2.1;exact AF (gT HF.out).1 hx'
        have hE1:E= [E.headD 0]:=by
         have h0:=mh HF.out HCK.out (y:=x) HKB.out.symm hlow;rw[<-HEE.out] at h0;exact GR h0 h1
        obtain⟨e0,he0⟩:∃e0,e0=E.headD 0:=⟨_,rfl⟩
        rw[<-he0] at hE1;have heK:K e0=true:=((mI HCK.out e0).1 (by rw[<-HEE.out,hE1];simp)).1;have he200:e0<200:=HCK.out e0 heK;have HE:Hid (stP ts f inn (dn++ [x])=(oS (stP ts f inn dn).1 K,(stP ts f inn dn).2++⟨K,2,(e0:Int)⟩ :: nG ts f (iU K e0))):=by
         rw[Hid,yR,xY,<-HKK.out,<-HLB.out,<-HKB.out,dg,aM rfl,<-HEE.out,az h1,<-he0]
        have hb6:(L++(stP ts f inn dn).2).length+1+(nG ts f (iU K e0)).length<=1000:=by
         have q1:=QQ ts f inn r (dn++ [x]);rw[HE.out] at q1;have q2:dn++ [x]++r=gQ inn:=by rw[HD.out];simp
         rw[q2] at q1;have q3:=HLEN.out;have q4:nG ts (f+1) inn=(stP ts f inn (gQ inn)).2:=rfl;rw[q4] at q3;simp at q1|-;omega
        have HB6:=ac hb6;have hb5:(L++(stP ts f inn dn).2).length+1<=1000:=by omega
        have hl1:E.length=1:=by rw[hE1];rfl
        have ho4:=HO4.out;rw[hl1,hE1] at ho4;rw[hl1];have HLOW:=ac hlow;clear HO4 hE1 he0 hlow hb6 h1;obtain⟨g4,hav,cur4,HG4,HC4⟩:∃g4,av=some ⟨g4,0,none⟩/\(∃cur4,Hid (w4.heap[g4]? =some (.cells cur4 3 (0,0)))/\Hid (cur4[0]? =some (.int .i64 (e0:Int)))):=by
         rcases ho4.1.2 with ⟨h,_⟩|⟨g4,cap4,cur4,h,_,hg4,hcap1,_,hcs,htk⟩
         .cases h
         .injection h with h1 h2 h3;refine⟨g4,h1,cur4,hg4,?_⟩;have:(cur4.toList.take 1)[0]? =some (.int .i64 (e0:Int)):=by
           simp only[fN,fP,cE,dB,bk,bx] at htk;exact bh (λ(l:List Value)=>l[0]?) htk
          rw[eY] at this;simpa[Hid] using this
        subst hav;have HO4:=ac ho4;clear ho4;obtain⟨v5,j0,j1,j2,j3,j4,jc,jv⟩:=HJ4.out;obtain⟨a5,c5,hv5⟩:=iP.form j0.parts;obtain⟨n5,hn5⟩:∃n,n=(L++(stP ts f inn dn).2).length:=⟨_,rfl⟩
        rw[<-hn5] at hv5;subst hv5;have hS5:(Value.slice a5 n5 c5).ownBlock≠some S7:=jW j0.parts.1 HS4.out (by decide);have g1:∀n:mL (λW'=>w4.grownBy W' (Value.slice a5 n5 c5).ownBlock),n.val.cell? ⟨w.heap.size,0,none⟩=some (.pointer (some ⟨P,0,none⟩)):=λn=>cR (fQ n.prop j1 (jW j0.parts.1 j1 (by decide))) rfl;have g2:∀n:mL (λW'=>w4.grownBy W' (Value.slice a5 n5 c5).ownBlock),n.val.cell? ⟨P,4,none⟩=some (.slice a5 n5 c5):=λn=>cR (fQ n.prop j0.bld (jW j0.parts.1 j0.bld (by decide))) rfl;have g3:∀w',(∃n:mL (λW'=>w4.grownBy W' (Value.slice a5 n5 c5).ownBlock),w'=n.val)->w'.heap[S7]? =some (jY K):=λw' ⟨n,e⟩=>by rw[e];exact fQ n.prop HS4.out hS5
        have hne4:(Value.slice a5 n5 c5).ownBlock≠some g4:=jW j0.parts.1 HG4.out (by decide);have g4':∀n:mL (λW'=>w4.grownBy W' (Value.slice a5 n5 c5).ownBlock),n.val.cell? ⟨g4,0,none⟩=some (.int .i64 (e0:Int)):=λn=>by rw[aZ _ _ _ _ _ _ (fQ n.prop HG4.out hne4)];exact HC4.out
        have hne:Nonempty (mL (λW'=>w4.grownBy W' (Value.slice a5 n5 c5).ownBlock)):=wZ (LM _ _);have J0:=ac (j0.ext' (DN w4));have hown4:w4.drew.ownsRow base 142 202 (.slice a5 n5 c5) n5 ((L++(stP ts f inn dn).2).flatMap gJ):=by have:=J0.out.parts.1;rwa [<-hn5] at this
        have HOWN4:=ac hown4;have JV:=ac jv;have HN5:=ac hn5;have hbs:=J0.out.bs;have hn1000:n5+1<=1000:=by omega
        clear j0 j1 j2 j3 j4 jc jv hown4 hn5
        gi_wp2
        refine rY (λw'=>∃n:mL (λW'=>w4.grownBy W' (Value.slice a5 n5 c5).ownBlock),w'=n.val) [(0,10,some (10,true)),(11,0,some (11,true)),(12,2,some (14,false))] (by kernel_rfl) (by kernel_rfl) (by kernel_rfl) (by repeat (first|exact gZ|refine iK ?_|refine hU ?_)) (kX (sG _ _)) ?_;simp only[lS,ap,aD,am,aw]
        repeat (first
         |go_big_quiet_skip
         |(refine fW (o:=⟨some 58,.load 138 _,_,_,_,_⟩) (by rfl) 138 _ rfl S7 rfl 138 (gK K) (0,0) _ g3 aL rfl (by rw[fO];exact gF) ?_;simp only[zJ,zG,zH,zI])
         |(refine LC (o:=⟨some 62,.build 142 _,_,_,_,_⟩) (by rfl) _ _ _ K 2 (e0:Int) rfl rfl rfl rfl ?_;simp only[zJ,zG,zH,zI])
         |go_big_quiet_step (fail))
        refine aq ?_;refine fR rfl rfl ?_;refine CA _ ⟨K,2,(e0:Int)⟩ rfl rfl ?_;simp only[zJ,zG,zH,zI];refine⟨kX (DK (sG _ _) (eW _ _ _)),?_⟩;refine aq ?_;refine fR rfl rfl ?_;refine pC w4.drew (.tmp 57) (.tmp 63) 133 142 rfl base _ 202 216 fg DI (by kernel_rfl) (by omega) (.slice a5 n5 c5) n5 _ (gJ ⟨K,2,(e0:Int)⟩) rfl HOWN4.out w4.heap.size rfl rfl (kC _) (iO _) (by simp only[maxLen];omega) (by omega) hbs ?_;intro g cap w5 hown5 hg5 hat5;have hP5:w5.heap[P]? =some (ED d (.slice a5 n5 c5)):=fQ hg5 J0.out.bld (jW HOWN4.out J0.out.bld (by decide));have hf5:=fK 4 hP5;have hl5:=fE hP5;have hc5:=cK 4 hP5 rfl;have hgg:w4.grownBy w5 (Value.slice a5 n5 c5).ownBlock:=DK (sG _ _) hg5;have happ:=J0.out.app (M:= [⟨K,2,(e0:Int)⟩]) hg5 (by rw[<-HN5.out];simpa using hown5) (by rw[<-HN5.out];simp;omega)
        have hJN:=LoJ.app (st:=(oS (stP ts f inn dn).1 K,(stP ts f inn dn).2)) HLF J0.out ((LoJ.steady (aj _) hw0).ext HJ4.out (DN w4)) JV.out happ.1 happ.2 (λq hq=>by
         simp only[Value.ownBlock,aW] at hq;subst hq;rcases hat5 with h|h
         .exact .inl h.symm
         .exact .inr (by rw[h];exact bY _))
        have HBN5:=ac happ.1;have HJN:=ac hJN
        have HKN:Hid (gC W (w5.setCell ⟨P,4,none⟩ (.slice (some ⟨g,0,none⟩) (n5+1) cap))):=HK4.out.trans ((gC.grown hgg (λq o e ho=>by
         rcases HOWN4.out.2 with ⟨h,_⟩|⟨g',cap',cur,h,_,hg',_⟩
         .rw[h] at e;cases e
         .rw[h] at e;simp only[Value.ownBlock,aW] at e;subst e;have ho':w4.drew.heap[g']? =some o:=ho;rw[hg'] at ho';cases ho'
          rfl)).trans (gC.setCell _ _ _))
        have HAT:Hid (some g=(Value.slice a5 n5 c5).ownBlock\/g=w4.heap.size+1):=hat5;have HGG:=ac hgg;refine⟨kX hgg,?_⟩;simp only[zJ,zG,zH,zI];clear hown5 hg5 hat5 hgg happ hJN hP5 g1 g2 g3 g4'
        repeat (go_big_quiet_step (fail))
        refine aq ?_;refine fR rfl rfl ?_;go_simp;refine bR ?_;have HS5:=ac hS5;have hP7:P≠S7:=by omega
        have hS6:(w5.setCell ⟨P,4,none⟩ (.slice (some ⟨g,0,none⟩) (n5+1) cap)).heap[S7]? =some (jY K):=fQ (fU w5 P 4 _) (fQ HGG.out HS4.out hS5) (λe=>by injection e with e;omega);have hP4:P≠g4:=by
         intro e;have h5:=HG4.out;rw[<-e] at h5;have h6:=J0.out.bld;have h7:w4.drew.heap[P]? =some (.cells cur4 3 (0,0)):=h5;rw[h6] at h7;injection h7 with h7;injection h7 with _ h7 _;exact absurd h7 (by decide)
        have hg6:(w5.setCell ⟨P,4,none⟩ (.slice (some ⟨g,0,none⟩) (n5+1) cap)).heap[g4]? =some (.cells cur4 3 (0,0)):=fQ (fU w5 P 4 _) (fQ HGG.out HG4.out hne4) (λe=>by injection e with e;exact hP4 e);clear hc5 hf5 hl5 HGG hS5;generalize w5.setCell ⟨P,4,none⟩ (.slice (some ⟨g,0,none⟩) (n5+1) cap)=w6 at *;obtain⟨v6,hv6⟩:∃v6,v6=Value.slice (some ⟨g,0,none⟩) (n5+1) cap:=⟨_,rfl⟩
        have hv6o:∀q,v6.ownBlock=some q->v.ownBlock=some q\/w.heap.size+1+1+1<q:=λq hq=>by
         rw[hv6] at hq;simp only[Value.ownBlock,aW] at hq;subst hq;rcases HAT.out with h|h
         .exact JV.out g h.symm
         .right;have:=fE HS4.out;omega
        rw[<-hv6] at HBN5;have HV6:=ac hv6o;clear hv6o;have hj6:=HJN.out;obtain⟨v9,q0,q1,_⟩:=hj6;have g1:∀n:fL w6,n.val.cell? ⟨w.heap.size,0,none⟩=some (.pointer (some ⟨P,0,none⟩)):=fL.cell (cR q1 rfl);have g3:∀w',(∃n:fL w6,w'=n.val)->w'.heap[S7]? =some (jY K):=λw' ⟨n,e⟩=>by rw[e];exact fB n.ext hS6
        have g4':∀n:fL w6,n.val.cell? ⟨g4,0,none⟩=some (.int .i64 (e0:Int)):=fL.cell (by rw[aZ _ _ _ _ _ _ hg6];exact HC4.out);clear q0 q1 hS6 hg6
        gi_wp2
        refine rY (λw'=>∃n:fL w6,w'=n.val) [(0,5,some (5,true)),(6,0,some (6,false))] (by kernel_rfl) (by kernel_rfl) (by kernel_rfl) (by repeat (first|exact gZ|refine iK ?_|refine hU ?_)) ⟨⟨_,gB (ag _ _) 1⟩,rfl⟩ ?_;simp only[lS,ap,aD,am,aw]
        repeat (first
         |go_big_quiet_skip
         |(refine fW (o:=⟨some 68,.load 138 _,_,_,_,_⟩) (by rfl) 138 _ rfl S7 rfl 138 (gK K) (0,0) _ g3 aL rfl (by rw[fO];exact gF) ?_;simp only[zJ,zG,zH,zI])
         |go_big_quiet_step (fail))
        refine aq ?_;clear g1 g3 g4';refine fR rfl rfl ?_;go_simp;refine(KF K e0 he200 w6.drew).mono ?_;rintro e w7 ⟨rfl,hb7⟩;have hb7:=lH hb7;refine⟨⟨⟨w7,hb7⟩,rfl⟩,?_⟩;refine aq ?_;refine fR rfl rfl ?_;have hJ7:=(LoJ.steady (aj _) hw0).ext HJN.out hb7;have hB7:sP W0 d P base v6 (L++((stP ts f inn dn).2++ [⟨K,2,(e0:Int)⟩])) w7:=by rw[<-cd];exact HBN5.out.ext' hb7
        have hcall:=IH.out (iU K e0) v6 (L++((stP ts f inn dn).2++ [⟨K,2,(e0:Int)⟩])) w7 (uJ HCK.out e0) (λy hy=>(HLOW.out y (wE.1 hy).2).2) (by have:=HB6.out;simp at this|-;omega)
         (by
           have h5:=VK (s:=K) (inn:=inn) (e:=e0) (λy hy=>by rw[HKK.out] at hy;exact((mS HC.out x y).1 hy).2.1.inn) HC.out heK;have:=HLT.out
           omega) hB7
        have HCALL:=ac hcall;have HJ7:=ac hJ7;have HB7:=ac hB7;have HBB7:=ac hb7;clear hcall hJ7 hB7 hb7;go_simp;refine HCALL.out.mono ?_;rintro e w8 ⟨rfl,v8,k0,kc,kv⟩;have hJ8:=LoJ.app (st:=(oS (stP ts f inn dn).1 K,(stP ts f inn dn).2++ [⟨K,2,(e0:Int)⟩])) HLF HB7.out HJ7.out HV6.out k0 kc kv;have HJ8:=ac hJ8;have HK8:=ac ((HKN.out.trans (gC.ext HBB7.out)).trans (HB7.out.keep kc));clear hJ8 k0 kc kv;refine bR ?_
        gi_wp2
        refine⟨HK8.out,?_⟩;rw[HE.out];have h9:=HJ8.out;simp only[cd,bU,bD] at h9;exact h9
  case done=>
   rintro D W hD hJ hK;have HJD:=ac ((LoJ.steady (D:=w.heap.size) (aj _) hw0).put (.deferred none) (l:=D) hJ.out (by omega) hK rfl);have HKD:=ac hK;clear hJ
   gi_wp2
   refine⟨by simp,.inl ⟨_,_,rfl,cM HKD.out,?_⟩⟩;obtain⟨v9,j0,_,_,_,_,jc,jv⟩:=HJD.out;refine⟨.tuple #[],by simp[results,Tryz.results55,go_sem],rfl,v9,?_,jc,λq hq=>?_⟩
   .exact j0
   .rcases jv q hq with h|h
    .exact .inl h
    .exact .inr (by omega)
  case stop=>rintro D c W hD h;exact h.elim
end
end Go.Proofs.YtbknbcmppdglhaaGreatDoor
