/-
 Tile:over.
-/
import Derived.Test.YtbknbcmppdglhaaGreatDoorA0
import Derived.Test.YtbknbcmppdglhaaGreatDoorTH
import Derived.Deep.OwnRows
namespace Go.Proofs.YtbknbcmppdglhaaGreatDoor
set_option linter.unusedSimpArgs false
set_option linter.unusedVariables false
set_option linter.unusedSectionVars false
set_option maxRecDepth 100000
set_option maxHeartbeats 40000000
section
open Go.RowKit
def zS(f:Nat->Bool):Nat->Bool:=λq=>if q=0 then true else f q
theorem gE:(Tryz.prog.info? 25).map (·.size)=some 2:=by kernel_rfl
theorem OZ:(Tryz.prog.info? 22).map (λi=>(i.zero,i.size,i.bytes))=some (some tB,1,24):=by kernel_rfl
theorem VF(n:Nat):madeCells #[tB] n=TN n λ_=>tB:=by
 apply de
 intro k
 by_cases hk:k<n
 .rw[QY _ _ _ hk];simp[madeCells,hk,Nat.mod_one]
 .rw[bZ (by simp[madeCells];omega),bZ (by grind[FE])]
abbrev mB(pa:Option Addr)(pn pc:Nat)(ba:Option Addr)(bn bc:Nat):Value:=.agg #[.slice pa pn pc,.slice ba bn bc]
abbrev gX(pa:Option Addr)(pn pc:Nat)(ba:Option Addr)(bn bc:Nat):Obj:=.cells #[.slice pa pn pc,.slice ba bn bc] 25
def yv(pa:Option Addr)(pn pc:Nat)(ba:Option Addr)(bn bc:Nat)(ts:List fS)(w:World)(e:Ending)(w':World):Prop:=
 ∃cs:Array Value,e=.returned (.tuple #[.agg cs,.bool (jK ts)])/\cs.size=4/\cs.all (·.oneCell')=true/\Below w.heap.size w w'/\(jK ts=true->∃ta tc fa fc,Value.agg cs=jJ ⟨pa,pn,pc,ba,bn,bc,ta,tc,fa,fc⟩/\mQ w' ⟨pa,pn,pc,ba,bn,bc,ta,tc,fa,fc⟩ ts)
def OvJ(w:World)(pa:Option Addr)(pn pc:Nat)(ba:Option Addr)(bn bc:Nat)(ts:List fS)(TA FA B kT k i:Nat)(hF hT:Nat->Value)(wr:World):Prop:=
 wr.heap[w.heap.size]? =some (gX pa pn pc ba bn bc)/\wr.heap[w.heap.size+1]? =some (qM ⟨pa,pn,pc,ba,bn,bc,some ⟨TA,0,none⟩,bn,some ⟨FA,0,none⟩,bn⟩)/\
  wr.heap[TA]? =some (PX bn hT)/\wr.heap[FA]? =some (PX bn hF)/\Fam wr B bn kT hF hT (λy=>fN (qI ts k i y)) (λj=>toD (ts.getD j nB))/\B<=wr.heap.size/\Below w.heap.size w wr
section
variable {w wr wr':World} {pa:Option Addr} {pn pc:Nat} {ba:Option Addr} {bn bc:Nat} {ts:List fS} {TA FA B kT k i:Nat} {hF hT:Nat->Value}
theorem OvJ.ext(h:OvJ w pa pn pc ba bn bc ts TA FA B kT k i hF hT wr)(hb:Below wr.heap.size wr wr'):OvJ w pa pn pc ba bn bc ts TA FA B kT k i hF hT wr':=by
 obtain⟨h1,h2,h3,h4,h5,h6,h7⟩:=h
 exact⟨fB hb h1,fB hb h2,fB hb h3,fB hb h4,h5.ext hb,aT h6 hb.size,fC h7 hb⟩
theorem OvJ.to(h:OvJ w pa pn pc ba bn bc ts TA FA B k k 0 hF hT wr)(hb:Below wr.heap.size wr wr')(v:Value)(ho:gD wr' wr.heap.size v (toD (ts.getD k nB)))(hk:k<bn)(hw1:w.heap.size+1+1<=TA)(hne:TA≠FA)(hTB:TA<B):
  OvJ w pa pn pc ba bn bc ts TA FA B (k+1) k 0 hF (mD hT k v) (wr'.setCell ⟨TA,k,none⟩ v):=by
 obtain⟨h1,h2,h3,h4,h5,h6,h7⟩:=h
 have g:=fU wr' TA k v
 have hsz:=hb.size
 refine⟨fQ g (fB hb h1) (by grind),fQ g (fB hb h2) (by grind),mb (fB hb h3) k v,fQ g (fB hb h4) (by grind),?_,by simp;omega,(fC h7 hb).setCell (by grind) _⟩
 have h8:=h5.add hb h6 v _ ho
 have e:mD (λj=>toD (ts.getD j nB)) k (toD (ts.getD k nB))=λj=>toD (ts.getD j nB):=by
  grind[mD]
 rw[e] at h8
 exact h8.kept g (λr hr=>by simp at hr;omega)
theorem OvJ.from(h:OvJ w pa pn pc ba bn bc ts TA FA B (k+1) k i hF hT wr)(y:Nat)(hy:y<bn)(hx:(nx ts k)[i]? =some y)(hg:wr.grownBy wr' (hF y).ownBlock)(v:Value)(ho:gD wr' B v (fN (qI ts k i y)++ [(k:Int)]))(hv:v.ownBlock=(hF y).ownBlock\/∃g,v.ownBlock=some g/\wr.heap.size<=g)
  (hw1:w.heap.size+1+1<=FA) (hw2:w.heap.size+1+1<=TA) (hne:TA≠FA) (hTB:TA<B) (hFB:FA<B):OvJ w pa pn pc ba bn bc ts TA FA B (k+1) k (i+1) (mD hF y v) hT (wr'.setCell ⟨FA,y,none⟩ v):=by
 obtain⟨h1,h2,h3,h4,h5,h6,h7⟩:=h
 have hlt:∀r,(hF y).ownBlock=some r->B<=r:=λr e=>((h5.F y hy).1.lt r e).1
 have low:∀q,q<B->(hF y).ownBlock≠some q:=λq hq e=>by grind
 have g:=fU wr' FA y v
 refine⟨fQ g (fQ hg h1 (low _ (by omega))) (by simp;omega),fQ g (fQ hg h2 (low _ (by omega))) (by simp;omega),fQ g (fQ hg h3 (low _ hTB)) (by simp;omega),mb (fQ hg h4 (low _ hFB)) y v,?_,by have:=hg.size;simp;omega,(h7.grown hg h7.size (λr e=>by have:=hlt r e;omega)).setCell (by simp;omega) _⟩
 have h8:=h5.turn y hy hg v _ ho hv
 have e:mD (λy=>fN (qI ts k i y)) y (fN (qI ts k i y)++ [(k:Int)])=λy=>fN (qI ts k (i+1) y):=by
  funext z
  rw[oq ts k i y hx z];by_cases e:z=y
  .subst e;simp[mD,fN]
  .simp[mD,e]
 rw[e] at h8
 exact h8.kept g (λr hr=>by simp at hr;omega)
end
theorem OvJ.walk{w wr:World}{pa:Option Addr}{pn pc:Nat}{ba:Option Addr}{bn bc:Nat}{ts:List fS}{TA FA B:Nat}{hF hT:Nat->Value}(h:OvJ w pa pn pc ba bn bc ts TA FA B bn bn 0 hF hT wr)(h2:bn<=200)(hg:∀q,q<bn->mU (ts.getD q nB)=true/\∀x∈toD (ts.getD q nB),1<=x/\x<bn)(hl:ts.length=bn):
  mQ wr ⟨pa,pn,pc,ba,bn,bc,some ⟨TA,0,none⟩,bn,some ⟨FA,0,none⟩,bn⟩ ts:=by
 obtain⟨h1,_,h3,h4,h5,h6,h7⟩:=h
 refine⟨hl,h2,⟨by grind[tZ],by grind,λk xs hx=>?_⟩,⟨by grind[sV],by grind,λk xs hx=>?_⟩⟩
 .have hk:k<bn:=by
   grind[tZ]
  have e:xs=nx ts k:=by grind[tZ]
  have e2:fN xs=toD (ts.getD k nB):=by
   have e3:(toD (ts.getD k nB)).map ((λ(k:Nat)=>(k:Int))∘Int.toNat)=(toD (ts.getD k nB)).map id:=dA λx hx=>by
    have:=(hg k hk).2 x hx;simp;omega
   rw[e,nx,fN,List.map_map,e3,List.map_id]
  have ho:=h5.T k hk;obtain⟨a,c,hv⟩:=ho.form;have hn:(toD (ts.getD k nB)).length=xs.length:=by rw[<-e2];simp[fN]
  rw[hv] at ho;rw[hn] at ho hv;refine⟨TA,0,a,c,rfl,?_,?_⟩
  .rw[bQ,wH h3 k hk,hv]
  .rw[e2];exact ho.ints
 .have hk:k<bn:=by
   have:=(aE.1 hx).1;simpa[sV,hl] using this
  have e:xs=pv ts k:=by simpa[sV,hl,hk] using hx.symm
  have ho:=h5.F k hk;have e2:fN (qI ts bn 0 k)=fN xs:=by rw[e,<-hl,uv]
  simp only[e2] at ho;obtain⟨a,c,hv⟩:=ho.form;have hn:(fN xs).length=xs.length:=by simp[fN]
  rw[hv] at ho;rw[hn] at ho hv;refine⟨FA,0,a,c,rfl,?_,ho.ints⟩;rw[bQ,wH h4 k hk,hv]
theorem mc{ts:List fS}{k:Nat}(hk:k<ts.length)(h:mU (ts.getD k nB)=false\/∃x∈toD (ts.getD k nB),x<1\/(ts.length:Int)<=x):jK ts=false:=by
 rw[jK,fy]
 refine .inl (dk.2 λhg=>?_)
 grind[lO]
theorem uD(pa:Option Addr)(pn pc:Nat)(ba:Option Addr)(bn bc:Nat)(bs:List nA)(w:World)(h:lZ w ba bn bs):
  Calls Tryz.prog 54 #[mB pa pn pc ba bn bc] w (yv pa pn pc ba bn bc (fY bs) w):=by
 have hbn:=h.1.2.1
 have HLn:=ac h.1.1
 have HBS:=ac h
 clear h
 by_cases hgood:1<=bn/\bn<=200
 rotate_left
 .have HE:Hid (jK (fY bs)=false):=by
   rw[Hid,jK,fy];refine .inl (dk.2 λhg=>hgood ?_);have:=((lO _).1 hg).1;rw[lA,HLn.out] at this;exact this
  go_enter Tryz.func54,Tryz.ntmps54
  go_upto_region 1 with (fail)
  obtain⟨W,hW⟩:∃W,W=(w.alloc (gX pa pn pc ba bn bc)).alloc (.cells #[.slice none 0 0,.slice none 0 0,.slice none 0 0,.slice none 0 0] 129):=⟨_,rfl⟩
  rw[<-hW];have hf:W.heap[w.heap.size]? =some (gX pa pn pc ba bn bc):=by rw[hW,aG _ _ _ (by simp)];exact ae _ _
  have hr:W.heap[w.heap.size+1]? =some (.cells #[.slice none 0 0,.slice none 0 0,.slice none 0 0,.slice none 0 0] 129 (0,0)):=by rw[hW,iT _ _ _ (by simp)]
  have hB:Below w.heap.size w W:=by rw[hW];exact(fD _ _).alloc (by simp) _
  have hc1:=cK 1 hf rfl;have HR:=ac hr;have HB:=ac hB;have hz:(bn:Int)<1\/200<(bn:Int):=by omega
  clear hW hf hr hB hgood;rcases hz with hz|hz
  rotate_left
  .have hz1:¬(bn:Int)<1:=by omega
   go_wp2_with (first
    |(refine ay (o:=⟨some _,.load 129 _,_,_,_,_⟩) rfl 129 _ rfl (w.heap.size+1) rfl 129 _ (0,0) _ HR.out aY rfl gG ?_)
    |(refine aP (o:=⟨none,.store 129 _ _,_,_,_,_⟩) rfl 129 _ _ rfl (w.heap.size+1) #[.slice none 0 0,.slice none 0 0,.slice none 0 0,.slice none 0 0] rfl rfl 129 _ HR.out gG rfl (by simp[Value.oneCell']) ?_))
   refine aR (v:=.tuple #[.agg #[.slice none 0 0,.slice none 0 0,.slice none 0 0,.slice none 0 0],.bool false]) ?_ rfl ⟨_,by rw[HE.out],rfl,by simp[Value.oneCell'],aX HB.out (by omega) _,λh=>by rw[HE.out] at h;cases h⟩;have hl:=cQ (P:=Tryz.prog) _ (w.heap.size+1) 129 129 _ (0,0) _ (bt _ _ _ #[.slice none 0 0,.slice none 0 0,.slice none 0 0,.slice none 0 0] _ _ HR.out) aY rfl gG;simp[results,Tryz.results54,asAddr,Act.put,hl]
  .go_wp2_with (first
    |(refine ay (o:=⟨some _,.load 129 _,_,_,_,_⟩) rfl 129 _ rfl (w.heap.size+1) rfl 129 _ (0,0) _ HR.out aY rfl gG ?_)
    |(refine aP (o:=⟨none,.store 129 _ _,_,_,_,_⟩) rfl 129 _ _ rfl (w.heap.size+1) #[.slice none 0 0,.slice none 0 0,.slice none 0 0,.slice none 0 0] rfl rfl 129 _ HR.out gG rfl (by simp[Value.oneCell']) ?_))
   refine aR (v:=.tuple #[.agg #[.slice none 0 0,.slice none 0 0,.slice none 0 0,.slice none 0 0],.bool false]) ?_ rfl ⟨_,by rw[HE.out],rfl,by simp[Value.oneCell'],aX HB.out (by omega) _,λh=>by rw[HE.out] at h;cases h⟩;have hl:=cQ (P:=Tryz.prog) _ (w.heap.size+1) 129 129 _ (0,0) _ (bt _ _ _ #[.slice none 0 0,.slice none 0 0,.slice none 0 0,.slice none 0 0] _ _ HR.out) aY rfl gG;simp[results,Tryz.results54,asAddr,Act.put,hl]
 obtain⟨hb1,hb2⟩:=hgood
 go_enter Tryz.func54,Tryz.ntmps54
 go_upto_region 1 with (fail)
 obtain⟨W,hW⟩:∃W,W=(w.alloc (gX pa pn pc ba bn bc)).alloc (.cells #[.slice none 0 0,.slice none 0 0,.slice none 0 0,.slice none 0 0] 129):=⟨_,rfl⟩
 rw[<-hW]
 have hf:W.heap[w.heap.size]? =some (gX pa pn pc ba bn bc):=by rw[hW,aG _ _ _ (by simp)];exact ae _ _
 have hr:W.heap[w.heap.size+1]? =some (.cells #[.slice none 0 0,.slice none 0 0,.slice none 0 0,.slice none 0 0] 129 (0,0)):=by rw[hW,iT _ _ _ (by simp)]
 have hB:Below w.heap.size w W:=by rw[hW];exact(fD _ _).alloc (by simp) _
 have hWs:W.heap.size=w.heap.size+1+1:=by rw[hW];simp
 have hc1:=cK 1 hf rfl
 have HWs:=ac hWs
 have HF:=ac hf
 have HR:=ac hr
 have HB:=ac hB
 clear hW hWs hf hr hB
 go_upto_region 4 with (fail)
 go_cut [] (λwr=>∃TA FA B:Nat,w.heap.size+1+1<=TA/\w.heap.size+1+1<=FA/\TA≠FA/\TA<B/\FA<B/\∃hF hT,OvJ w pa pn pc ba bn bc (fY bs) TA FA B 0 0 0 hF hT wr)
 case first=>
  refine lF 5 [some 20,some 21,some 22,some 23,some 24] (by kernel_rfl) (by kernel_rfl) (jZ [.val (.agg #[.slice pa pn pc,.slice ba bn bc]),.val (.int .i64 (bn:Int)),(.any λv lo hi w=>v=.slice (some ⟨lo,0,none⟩) bn bn/\lo<hi/\w.heap[lo]? =some (PX bn λ_=>tB)),.val (.int .i64 (bn:Int)),(.any λv lo hi w=>v=.slice (some ⟨lo,0,none⟩) bn bn/\lo<hi/\w.heap[lo]? =some (PX bn λ_=>tB))]) (jX ?_) ?_ ?_
  .intro k hk;simp only[aS,bO,cX] at hk;rcases hk with rfl|rfl|rfl|rfl|rfl<;>try exact trivial
   .exact λv lo hi w w' hb h=>⟨h.1,h.2.1,fB hb h.2.2⟩
   .exact λv lo hi w w' hb h=>⟨h.1,h.2.1,fB hb h.2.2⟩
  .intro i hi ν lo hi' w1 K hB hD hK;have hcase:i=0\/i=1\/i=2\/i=3\/i=4:=by omega
   clear hi;rcases hcase with rfl|rfl|rfl|rfl|rfl
   .clear hD;refine fF rfl rfl ?_;simp only[zA,zB,zC,zD,zE,zF,zJ,zK,zG,zH,zI] at hK|-;refine cy 25 _ rfl w.heap.size rfl 25 _ (0,0) _ (fB hB HF.out) aJ rfl gE ?_;exact hK _ _ (ag _ _) rfl
   .clear hD;refine fF rfl rfl ?_;simp only[zA,zB,zC,zD,zE,zF,zJ,zK,zG,zH,zI] at hK|-;go_simp;exact hK _ _ (ag _ _) rfl
   .have e1:ν 1=(.int .i64 (bn:Int)):=hD 1 (by kernel_rfl);clear hD;refine fF rfl rfl ?_;simp only[zA,zB,zC,zD,zE,zF,zJ,zK,zG,zH,zI,e1] at hK|-;have hmk:=run_make_row' (P:=Tryz.prog) 49 22 tB 24 fw OZ rfl .i64 .i64 bn (by omega) (by omega) w1;go_simp;refine hK _ _ (fD _ _) ⟨rfl,by simp,?_⟩;rw[ae,VF]
   .clear hD;refine fF rfl rfl ?_;simp only[zA,zB,zC,zD,zE,zF,zJ,zK,zG,zH,zI] at hK|-;go_simp;exact hK _ _ (ag _ _) rfl
   .have e3:ν 3=(.int .i64 (bn:Int)):=hD 3 (by kernel_rfl);clear hD;refine fF rfl rfl ?_;simp only[zA,zB,zC,zD,zE,zF,zJ,zK,zG,zH,zI,e3] at hK|-;have hmk:=run_make_row' (P:=Tryz.prog) 49 22 tB 24 fw OZ rfl .i64 .i64 bn (by omega) (by omega) w1;go_simp;refine hK _ _ (fD _ _) ⟨rfl,by simp,?_⟩;rw[ae,VF]
  .intro ν lo hi w1 hB hS hI hD;have e0:ν 0=(.agg #[.slice pa pn pc,.slice ba bn bc]):=hS 0 (by omega);have e1:ν 1=(.int .i64 (bn:Int)):=hS 1 (by omega);have e2:=hS 2 (by omega);unfold jZ at e2;simp only[br,bq,nC] at e2;have e3:ν 3=(.int .i64 (bn:Int)):=hS 3 (by omega);have e4:=hS 4 (by omega);unfold jZ at e4;simp only[br,bq,nC] at e4;clear hS;simp only[am,aw,zA,zB,zC,zD,zE,zF,zJ,zK,zG,zH,zI,e0,e1,e3];have i2:=hI 2 (by omega);have i4:=hI 4 (by omega);have hne:lo 2≠lo 4:=by
    have:=hD 2 4 (by omega) (by omega) (by omega);omega
   obtain⟨e2,l2,h2⟩:=e2;obtain⟨e4,l4,h4⟩:=e4;simp only[e2,e4];have hr:=fB hB HR.out;rw[HWs.out] at i2 i4;have HBw:Hid (Below w.heap.size w w1):=fC HB.out hB;have HFw:=ac (fB hB HF.out);generalize lo 2=TA at *;generalize lo 4=FA at *;have H2:=ac h2;have H4:=ac h4;have HRw:=ac hr;have hTA:=i2.1;have hFA:=i4.1;have hTB:TA<w1.heap.size:=by omega
   have hFB:FA<w1.heap.size:=by omega
   clear hI hD hB e0 e1 e2 e3 e4 h2 h4 hr i2 i4 l2 l4
   go_wp2_with (refine aP (o:=⟨none,.store _ _ _,_,_,_,_⟩) rfl 129 _ _ rfl (w.heap.size+1) #[.slice pa pn pc,.slice ba bn bc,.slice (some ⟨TA,0,none⟩) bn bn,.slice (some ⟨FA,0,none⟩) bn bn] rfl rfl 129 _ HRw.out gG rfl (by simp[Value.oneCell']) ?_)
   go_meet
   refine⟨TA,FA,w1.heap.size,hTA,hFA,hne,hTB,hFB,λ_=>tB,λ_=>tB,?_⟩;refine⟨(cC _ _ _ _ (by omega)).trans HFw.out,bt _ _ _ _ _ _ HRw.out,(cC _ _ _ _ (by omega)).trans H2.out,(cC _ _ _ _ (by omega)).trans H4.out,?_,by simp,aX HBw.out (by omega) _⟩;have e:(λy=>fN (qI (fY bs) 0 0 y))=λ_=>([]:List Int):=by funext y;rw[om];rfl
   rw[e];exact⟨λy _=>gD.nil _ _,λj hj=>absurd hj (by omega),λ_ _ _ _ _ g h=>by simp[Value.ownBlock] at h,λ_ _ _ hj=>absurd hj (by omega)⟩
 case rest=>
  obtain⟨TA,FA,B,hTA,hFA,hne,hTB,hFB,hF0,hT0,HJ0⟩:=hcut
  replace HJ0:=ac HJ0
  clear HWs HF HR HB hc1;have hcb:=cK 1 HJ0.out.1 rfl;go_wp2
  go_loopg [29] bn (λgg i wr=>∃(k:Nat) (hF hT:Nat->Value),i=.int .i64 (k:Int)/\k<=bn/\bn<=gg+k/\Hid (∀q,q<k->mU ((fY bs).getD q nB)=true/\∀x∈toD ((fY bs).getD q nB),1<=x/\x<bn)/\Hid (OvJ w pa pn pc ba bn bc (fY bs) TA FA B k k 0 hF hT wr))
  case atStart=>exact⟨0,hF0,hT0,rfl,d9 _,aj _,λq hq=>absurd hq (by omega),HJ0⟩
  case round=>
   obtain⟨k,hF,hT,rfl,hk,hgg,HG,HJ⟩:=hrel;clear hcb HJ0 hF0 hT0;by_cases hlt:k<bn
   .obtain⟨jF,jR,jT,jA,jM,jS,jB⟩:=HJ.out;obtain⟨x,b,o,hbx,htx,rfl,c0,c1,c2,c3,c4⟩:=(HBS.out.ext jB).cells hlt;have htk:(fY bs).getD k nB=x.t:=QP bs k x hbx;have HTK:=ac htk;have HTX:=ac htx;have HBX:=ac hbx;clear jF jR jT jA jM jS jB htk htx hbx;go_upto_region 8 with (fail)
    obtain⟨W1,hW1⟩:∃W1,W1=wr.alloc (oA x):=⟨_,rfl⟩
    rw[<-hW1];have HJ1:Hid (OvJ w pa pn pc (some ⟨b,o,none⟩) bn bc (fY bs) TA FA B k k 0 hF hT W1):=by rw[hW1];exact HJ.out.ext (fD _ _)
    have hx1:W1.heap[wr.heap.size]? =some (oA x):=by rw[hW1,ae]
    have hs1:W1.heap.size=wr.heap.size+1:=by rw[hW1];simp
    have hB1:Below w.heap.size w W1:=HJ1.out.2.2.2.2.2.2;obtain⟨-,d1,d2,d3,d4⟩:=YX hx1 rfl;have HX1:=ac hx1;clear hW1 hx1 c0 c1 c2 c3 c4;generalize hp:wr.heap.size=p at *;have HS1:=ac hs1;clear hs1 hp HJ;by_cases htB:mU x.t=true
    .have HTB:=ac htB;clear htB
     go_upto_region 10 with (first
      |(go_at_call 133
        refine(pD x.t _ HTX.out).mono ?_;rintro e w2 ⟨rfl,hb2⟩;rw[HTB.out];have HJ2:=ac (HJ1.out.ext hb2);have D1:=ac (fZ hb2 d1);have D2:=ac (fZ hb2 d2);have D3:=ac (fZ hb2 d3);have D4:=ac (fZ hb2 d4)
        clear hb2))
     have HC40:Hid (w2.cell? ⟨w.heap.size+1,2,none⟩=some (.slice (some ⟨TA,0,none⟩) bn bn)):=by rw[Hid,aZ _ _ _ _ _ _ HJ2.out.2.1];rfl
     clear d1 d2 d3 d4 HJ1 HX1 hB1 HS1
     go_cut [] (λwx=>∃hT2,Hid (OvJ w pa pn pc (some ⟨b,o,none⟩) bn bc (fY bs) TA FA B (k+1) k 0 hF hT2 wx))
     case first=>
      refine lF 6 [some 39,some 40,some 41,some 42,some 43,some 44] (by kernel_rfl) (by kernel_rfl) (jZ [.val (.pointer (some ⟨w.heap.size+1,2,none⟩)),.val (.slice (some ⟨TA,0,none⟩) bn bn),.val (.int .i64 (k:Int)),.val (.pointer (some ⟨p,1,none⟩)),.val (tF x.t),(.any λv lo hi w=>gD w lo v (toD x.t))]) (jX ?_) ?_ ?_
      .intro k hk;simp only[aS,bO,cX] at hk;rcases hk with rfl|rfl|rfl|rfl|rfl|rfl<;>try exact trivial
       .exact λv lo hi w w' hb h=>h.ext hb
      .intro i hi ν lo hi' w1 K hB hD hK;have hcase:i=0\/i=1\/i=2\/i=3\/i=4\/i=5:=by omega
       clear hi;rcases hcase with rfl|rfl|rfl|rfl|rfl|rfl
       .clear hD;refine fF rfl rfl ?_;simp only[zA,zB,zC,zD,zE,zF,zJ,zK,zG,zH,zI] at hK|-;go_simp;exact hK _ _ (ag _ _) rfl
       .have e0:ν 0=(.pointer (some ⟨w.heap.size+1,2,none⟩)):=hD 0 (by kernel_rfl);clear hD;refine fF rfl rfl ?_;simp only[zA,zB,zC,zD,zE,zF,zJ,zK,zG,zH,zI,e0] at hK|-;have q0:=fZ hB HC40.out;go_simp;exact hK _ _ (ag _ _) rfl
       .clear hD;refine fF rfl rfl ?_;simp only[zA,zB,zC,zD,zE,zF,zJ,zK,zG,zH,zI] at hK|-;go_simp;exact hK _ _ (ag _ _) rfl
       .clear hD;refine fF rfl rfl ?_;simp only[zA,zB,zC,zD,zE,zF,zJ,zK,zG,zH,zI] at hK|-;go_simp;exact hK _ _ (ag _ _) rfl
       .have e3:ν 3=(.pointer (some ⟨p,1,none⟩)):=hD 3 (by kernel_rfl);clear hD;refine fF rfl rfl ?_;simp only[zA,zB,zC,zD,zE,zF,zJ,zK,zG,zH,zI,e3] at hK|-;have q1:=fZ hB D1.out;have q2:=fZ hB D2.out;have q3:=fZ hB D3.out;have q4:=fZ hB D4.out;go_simp;exact hK _ _ (ag _ _) rfl
       .have e4:ν 4=(tF x.t):=hD 4 (by kernel_rfl);clear hD;refine fF rfl rfl ?_;simp only[zA,zB,zC,zD,zE,zF,zJ,zK,zG,zH,zI,e4] at hK|-;go_simp;refine(EE x.t w1 HTX.out).mono ?_;rintro e w3 ⟨v,rfl,ho,hb3⟩;exact hK _ _ hb3 ho
      .intro ν lo hi w1 hB hS hI hD;have e0:ν 0=(.pointer (some ⟨w.heap.size+1,2,none⟩)):=hS 0 (by omega);have e1:ν 1=(.slice (some ⟨TA,0,none⟩) bn bn):=hS 1 (by omega);have e2:ν 2=(.int .i64 (k:Int)):=hS 2 (by omega);have e3:ν 3=(.pointer (some ⟨p,1,none⟩)):=hS 3 (by omega);have e4:ν 4=(tF x.t):=hS 4 (by omega);have e5:=hS 5 (by omega);unfold jZ at e5;simp only[br,bq,nC] at e5;clear hS;simp only[am,aw,zA,zB,zC,zD,zE,zF,zJ,zK,zG,zH,zI,e0,e1,e2,e3,e4];obtain⟨av,cv,hv⟩:=e5.form;simp only[hv];have ho5:=e5.mono (hI 5 (by omega)).1;rw[<-HTK.out] at ho5;have HJ4:=ac (HJ2.out.to hB (ν 5) ho5 hlt hTA hne hTB);rw[hv] at HJ4;have hcw:=wH (fB hB HJ2.out.2.2.1) k hlt;have hfw:=VT (fB hB HJ2.out.2.2.1) k;have hlw:TA<w1.heap.size:=fE (fB hB HJ2.out.2.2.1);clear hI hD e0 e1 e2 e3 e4 e5 ho5 hB;generalize hT k=hTk at hcw;clear hv;go_wp2
       go_meet
       exact⟨_,HJ4⟩
     case rest=>
      obtain⟨hT2,HJ3⟩:=hcut;obtain⟨wo,rfl⟩:∃wo:World,wo=wr:=⟨_,rfl⟩
      have hoT:=HJ3.out.2.2.2.2.1.T k (by omega);rw[HTK.out] at hoT;obtain⟨va,vc,hv⟩:=hoT.form;have hcc:=wH HJ3.out.2.2.1 k hlt;rw[hv] at hcc;have hc2:=cK 2 HJ3.out.2.1 rfl;have HV:=ac hv;have hlen:=xC x.t;clear hoT hv D1 D2 D3 D4 HC40 HJ2;go_wp2
      go_loopg [52] (toD x.t).length (λg2 i wr=>∃(j:Nat) (hF2:Nat->Value),i=.int .i64 (j:Int)/\j<=(toD x.t).length/\(toD x.t).length<=g2+j/\Hid (∀q,q<j->1<=(toD x.t).getD q 0/\(toD x.t).getD q 0<bn)/\Hid (OvJ w pa pn pc (some ⟨b,o,none⟩) bn bc (fY bs) TA FA B (k+1) k j hF2 hT2 wr))
      case atStart=>exact⟨0,hF,rfl,d9 _,aj _,λq hq=>absurd hq (by omega),HJ3⟩
      case round=>
       obtain⟨j,hF2,rfl,hj,hg2,HG2,HJ⟩:=hrel;clear hcc hc2 HJ3;by_cases hjl:j<(toD x.t).length
       .have hoT:=HJ.out.2.2.2.2.1.T k (by omega);rw[HTK.out,HV.out] at hoT;obtain⟨b2,o2,e2,hcy,hy1,hy2⟩:=hoT.ints.2.2 j hjl;subst e2;have hjl':(j:Int)<((toD x.t).length:Int):=by omega
        have HG3:Hid (1<=(toD x.t).getD j 0/\(toD x.t).getD j 0<bn->∀q,q<j+1->1<=(toD x.t).getD q 0/\(toD x.t).getD q 0<bn):=λh q hq=>by
         by_cases e:q=j
         .subst e;exact h
         .exact HG2.out q (by omega)
        have HNX:Hid (1<=(toD x.t).getD j 0->(nx (fY bs) k)[j]? =some ((toD x.t).getD j 0).toNat):=λ_=>by
         rw[nx,HTK.out,dt,ah hjl];simp[ak,hjl]
        have HNO:Hid ((toD x.t).getD j 0<1\/(bn:Int)<=(toD x.t).getD j 0->jK (fY bs)=false):=λh=>by
         refine mc (k:=k) (by rw[lA,HLn.out];exact hlt) (.inr ⟨(toD x.t).getD j 0,?_,?_⟩)
         .rw[HTK.out,ak,ah hjl];exact bJ _
         .rw[lA,HLn.out];exact h
        clear hoT;generalize (toD x.t).getD j 0=y at *;by_cases hyg:1<=y/\y<bn
        .obtain⟨hyg1,hyg2⟩:=hyg;have HG4:=ac (HG3.out ⟨hyg1,hyg2⟩);have HNY:=ac (HNX.out hyg1);obtain⟨yn,rfl⟩:∃yn:Nat,y=(yn:Int):=⟨y.toNat,by omega⟩
         have hyn:yn<bn:=by omega
         have HNY2:Hid ((nx (fY bs) k)[j]? =some yn):=by have:=HNY.out;rw[Hid];simpa using this
         obtain⟨jF,jR,jT,jA,jM,jS,jB⟩:=HJ.out;have hoF:=jM.F yn hyn;obtain⟨fa,fc,hfv⟩:=hoF.form;have hflen:(fN (qI (fY bs) k j yn)).length<=1000:=by
          have:=uu (fY bs) k j yn;simp[fN];omega
         have HFV:=ac hfv;have HOF:=ac hoF;have hc0:=cK 3 jR rfl;have hc1:=wH jA yn hyn;rw[hfv] at hc1;have k0:∀q:mL (λq=>Below B wr q),q.val.cell? ⟨w.heap.size+1,3,none⟩=some (.slice (some ⟨FA,0,none⟩) bn bn):=λq=>(q.prop.cell (p:=⟨w.heap.size+1,3,none⟩) (show w.heap.size+1<B by omega)).trans hc0;have k1:∀q:mL (λq=>Below B wr q),q.val.cell? ⟨FA,yn,none⟩=some (.slice fa (fN (qI (fY bs) k j yn)).length fc):=λq=>(q.prop.cell (p:=⟨FA,yn,none⟩) (show FA<B from hFB)).trans hc1;have HA:=ac jA;clear jF jR jT jA jM jB hoF hfv hc0 hc1 HG3 HNX HNO HNY;have hyn0:(0:Int)<=(yn:Int):=by omega
         have hyn1:(yn:Int)<(bn:Int):=by omega
         go_upto_region 16 with (fail)
         clear hcy;refine rG (λw'=>∃n:mL (λq=>Below B wr q),w'=n.val) (by kernel_rfl) ?_;obtain⟨v0,F0,E0,hv0⟩:∃v0,Below B wr v0/\Below wr.heap.size wr v0/\wr.drew=v0:=⟨_,zX (ag _ _) 1,gB (ag _ _) 1,rfl⟩
         rw[hv0];clear hv0
         haveI:Nonempty (mL (λq=>Below B wr q)):=wZ (ag _ _)
         refine gR 0 9 (by kernel_rfl) ⟨⟨_,F0⟩,rfl⟩ ?_;simp only[ap,aD,am,aw]
         repeat (go_big_quiet_step (fail))
         refine aq ?_;refine jD 9 (by kernel_rfl) ?_;refine fR rfl rfl ?_;go_simp;have F1:Below B wr (v0.alloc (.cells #[.int .i64 (k:Int)] 3)):=F0.alloc (by have:=E0.size;omega) _;refine⟨Or.inr ⟨⟨_,F1⟩,rfl⟩,?_⟩
         try simp only[Act.put,ar,aH,aF]
         refine jD 10 (by kernel_rfl) ?_;refine fR rfl rfl ?_;refine pC v0 (.tmp 71) (.tmp 73) 22 3 rfl B _ 1 8 be pY rfl (by omega) (.slice fa (fN (qI (fY bs) k j yn)).length fc) (fN (qI (fY bs) k j yn)).length _ [.int .i64 (k:Int)] rfl (by have:=(HOF.out.ext E0).1;rwa [HFV.out] at this) v0.heap.size rfl rfl rfl (by simp[Value.oneCell']) (by simp only[maxLen];omega) (by omega) (by have:=E0.size;omega) ?_;intro g cap w4 ho4 hg4 ha4;have hJv:=HJ.out.ext E0;rw[<-HFV.out] at hg4 ha4;have hlow:∀r,(hF2 yn).ownBlock=some r->B<=r:=λr e=>(HOF.out.1.lt r e).1;have F2:Below B wr w4:=F0.grown hg4 (by have:=E0.size;omega) hlow;have hA4:w4.heap[FA]? =some (PX bn hF2):=fQ hg4 (fB E0 HA.out) (λe=>by have:=hlow _ e;omega);have hoN:gD w4 B (.slice (some ⟨g,0,none⟩) ((fN (qI (fY bs) k j yn)).length+1) cap) (fN (qI (fY bs) k j yn)++ [(k:Int)]):=by
          refine⟨?_,?_,by simp;omega⟩
          .have e3:(fN (qI (fY bs) k j yn)++ [(k:Int)]).length=(fN (qI (fY bs) k j yn)).length+1:=by simp
           have e4:fP (fN (qI (fY bs) k j yn)++ [(k:Int)])=fP (fN (qI (fY bs) k j yn))++ [.int .i64 (k:Int)]:=by simp[fP]
           rw[e3,e4];exact ho4
          .intro z hz;rcases ax.1 hz with h|h
           .exact HOF.out.2.1 z h
           .simp only[bz] at h;subst h;unfold I64;omega
         have HJ5:=ac (hJv.from yn hyn HNY2.out hg4 _ hoN (by
          rcases ha4 with e|e
          .exact .inl (by simpa[Value.ownBlock] using e)
          .exact .inr ⟨g,by simp[Value.ownBlock],by omega⟩) hFA hTA hne hTB hFB)
         have hc4:=wH hA4 yn hyn;have hf4:=VT hA4 yn;have hl4:=fE hA4;refine⟨Or.inr ⟨⟨_,F2⟩,rfl⟩,?_⟩
         try simp only[Act.put,ar,aH,aF]
         refine gR 11 1 (by kernel_rfl) ⟨⟨_,F2⟩,rfl⟩ ?_;simp only[ap,aD,am,aw]
         repeat (go_big_quiet_step (fail))
         refine aq ?_;refine jD 12 (by kernel_rfl) ?_;refine fR rfl rfl ?_;clear hJv ho4 hg4 ha4 hlow F2 hA4 hoN F0 E0 F1 k0 k1;generalize hF2 yn=hFy at *;go_simp;refine⟨Or.inl (by kernel_rfl),?_⟩
         try simp only[Act.put,ar,aH,aF]
         refine oO (by kernel_rfl) ?_;clear HA HOF HFV HJ;go_wp2
         go_roundg ((toD x.t).length-(j+1))
         case measure=>omega
         case rel=>exact⟨j+1,_,by go_num,by omega,by omega,HG4,HJ5⟩
        .have HE:Hid (jK (fY bs)=false):=HNO.out (by omega);have HR2:=ac HJ.out.2.1;have HB2:=ac HJ.out.2.2.2.2.2.2;by_cases hy0:y<1
         all_goals
          go_wp2_with (first
           |(refine ay (o:=⟨some _,.load 129 _,_,_,_,_⟩) rfl 129 _ rfl (w.heap.size+1) rfl 129 _ (0,0) _ HR2.out aY rfl gG ?_)
           |(refine aP (o:=⟨none,.store 129 _ _,_,_,_,_⟩) rfl 129 _ _ rfl (w.heap.size+1) #[.slice pa pn pc,.slice (some ⟨b,o,none⟩) bn bc,.slice (some ⟨TA,0,none⟩) bn bn,.slice (some ⟨FA,0,none⟩) bn bn] rfl rfl 129 _ HR2.out gG rfl (by simp[Value.oneCell']) ?_))
          refine aR (v:=.tuple #[.agg #[.slice pa pn pc,.slice (some ⟨b,o,none⟩) bn bc,.slice (some ⟨TA,0,none⟩) bn bn,.slice (some ⟨FA,0,none⟩) bn bn],.bool false]) ?_ rfl ⟨_,by rw[HE.out],rfl,by simp[Value.oneCell'],aX HB2.out (by omega) _,λh=>by rw[HE.out] at h;cases h⟩;have hl:=cQ (P:=Tryz.prog) _ (w.heap.size+1) 129 129 _ (0,0) _ (bt _ _ _ #[.slice pa pn pc,.slice (some ⟨b,o,none⟩) bn bc,.slice (some ⟨TA,0,none⟩) bn bn,.slice (some ⟨FA,0,none⟩) bn bn] _ _ HR2.out) aY rfl gG;simp[results,Tryz.results54,asAddr,Act.put,hl]
       .obtain rfl:j=(toD x.t).length:=by omega
        have HJ4:Hid (OvJ w pa pn pc (some ⟨b,o,none⟩) bn bc (fY bs) TA FA B (k+1) (k+1) 0 hF2 hT2 wr):=by
         have e:(λy=>fN (qI (fY bs) k (toD x.t).length y))=λy=>fN (qI (fY bs) (k+1) 0 y):=by
          funext y
          rw[ou];rw[nx,HTK.out,cT];exact aj _
         have:=HJ.out;unfold OvJ at this;rw[e] at this;exact this
        have HG4:Hid (∀q,q<k+1->mU ((fY bs).getD q nB)=true/\∀x∈toD ((fY bs).getD q nB),1<=x/\x<bn):=λq hq=>by
         by_cases e:q=k
         .subst e;rw[HTK.out];refine⟨HTB.out,λz hz=>?_⟩;obtain⟨r,hr,e⟩:=bj.1 hz;have:=HG2.out r hr;simpa[ak,hr,e] using this
         .exact HG.out q (by omega)
        go_wp2
        go_roundg (bn-(k+1))
        case measure=>omega
        case rel=>exact⟨k+1,hF2,hT2,by go_num,by omega,by omega,HG4,HJ4⟩
    .have htB':mU x.t=false:=by simpa using htB
     have HE:Hid (jK (fY bs)=false):=mc (k:=k) (by rw[lA,HLn.out];exact hlt) (.inl (by rw[HTK.out];exact htB'));have HTB:=ac htB';clear htB htB';have HR1:=ac HJ1.out.2.1
     go_wp2_with (first
      |(go_at_call 133
        refine(pD x.t _ HTX.out).mono ?_;rintro e w2 ⟨rfl,hb2⟩;rw[HTB.out];have HB2:=ac hb2;have HR2:=ac (fB hb2 HR1.out);have HB2:=ac (fC hB1 hb2)
        clear hb2)
      |(refine ay (o:=⟨some _,.load 129 _,_,_,_,_⟩) rfl 129 _ rfl (w.heap.size+1) rfl 129 _ (0,0) _ HR2.out aY rfl gG ?_)
      |(refine aP (o:=⟨none,.store 129 _ _,_,_,_,_⟩) rfl 129 _ _ rfl (w.heap.size+1) #[.slice pa pn pc,.slice (some ⟨b,o,none⟩) bn bc,.slice (some ⟨TA,0,none⟩) bn bn,.slice (some ⟨FA,0,none⟩) bn bn] rfl rfl 129 _ HR2.out gG rfl (by simp[Value.oneCell']) ?_))
     refine aR (v:=.tuple #[.agg #[.slice pa pn pc,.slice (some ⟨b,o,none⟩) bn bc,.slice (some ⟨TA,0,none⟩) bn bn,.slice (some ⟨FA,0,none⟩) bn bn],.bool false]) ?_ rfl ⟨_,by rw[HE.out],rfl,by simp[Value.oneCell'],aX HB2.out (by omega) _,λh=>by rw[HE.out] at h;cases h⟩;have hl:=cQ (P:=Tryz.prog) _ (w.heap.size+1) 129 129 _ (0,0) _ (bt _ _ _ #[.slice pa pn pc,.slice (some ⟨b,o,none⟩) bn bc,.slice (some ⟨TA,0,none⟩) bn bn,.slice (some ⟨FA,0,none⟩) bn bn] _ _ HR2.out) aY rfl gG;simp[results,Tryz.results54,asAddr,Act.put,hl]
   .obtain rfl:k=bn:=by omega
    have hl2:(fY bs).length=k:=by rw[lA,HLn.out]
    have HWK:=ac (HJ.out.walk hb2 HG.out hl2);have HGD:Hid (tH (fY bs)=true):=by
     rw[Hid,lO,hl2];refine⟨⟨hb1,hb2⟩,λt ht=>?_⟩;obtain⟨q,hq,e⟩:=bj.1 ht;have:=HG.out q (by omega);rw[ak,ah hq,eB,e] at this;exact this
    have HE:Hid (eqS (zS (iZ (nx (fY bs)) (fM k) 0)) (fM k)=jK (fY bs)):=by
     rw[Hid,jK,HGD.out,dg,hl2,cS];simp only[zS,eqS,aV,aQ,db,bW];constructor
     .intro h q hq;have:=h q (by omega);by_cases e:q=0
      .exact .inl e
      .rw[az e] at this;exact .inr (by rw[this];simpa[fM] using hq)
     .intro h q hq;by_cases e:q=0
      .subst e;simp[fM];omega
      .rw[az e];by_cases hq2:q<k
       .rw[(h q hq2).resolve_left e];simp[fM,hq2]
       .have h1:fM k q=false:=by simp[fM];omega
        rw[h1];cases e2:iZ (nx (fY bs)) (fM k) 0 q with
        |false=>rfl
        |true=>
         have:=((pI (nE hb2) 0 q).1 e2).2.inn;rw[h1] at this;cases this
    have HC2:Hid (wr.cell? ⟨w.heap.size+1,2,none⟩=some (.slice (some ⟨TA,0,none⟩) k k)):=by rw[Hid,aZ _ _ _ _ _ _ HJ.out.2.1];rfl
    have hszw:w.heap.size+1<wr.heap.size:=fE HJ.out.2.1;clear hl2;go_upto_region 19 with (fail)
    go_cut [9] (λs9 wx=>∃p9:Nat,s9=.pointer (some ⟨p9,0,none⟩)/\wr.heap.size<=p9/\Hid (wx.heap[p9]? =some (jY (iZ (nx (fY bs)) (fM k) 0)))/\Hid (wx.heap[w.heap.size+1]? =some (qM ⟨pa,pn,pc,ba,k,bc,some ⟨TA,0,none⟩,k,some ⟨FA,0,none⟩,k⟩))/\Hid (Below wr.heap.size wr wx))
    case first=>
     refine lF 7 [some 78,some 79,some 80,some 81,some 82,some 83,some 9] (by kernel_rfl) (by kernel_rfl) (jZ [.val (jJ ⟨pa,pn,pc,ba,k,bc,some ⟨TA,0,none⟩,k,some ⟨FA,0,none⟩,k⟩),.val (jJ ⟨pa,pn,pc,ba,k,bc,some ⟨TA,0,none⟩,k,some ⟨FA,0,none⟩,k⟩),.val (.agg (gK (fM k))),.val (.pointer (some ⟨w.heap.size+1,2,none⟩)),.val (.slice (some ⟨TA,0,none⟩) k k),.val (.agg (gK (iZ (nx (fY bs)) (fM k) 0))),.new (jY λ_=>false)]) (jX ?_) ?_ ?_
     .intro k hk;simp only[aS,bO,cX] at hk;rcases hk with rfl|rfl|rfl|rfl|rfl|rfl|rfl<;>try exact trivial
     .intro i hi ν lo hi' w1 K hB hD hK;have hcase:i=0\/i=1\/i=2\/i=3\/i=4\/i=5\/i=6:=by omega
      clear hi;rcases hcase with rfl|rfl|rfl|rfl|rfl|rfl|rfl
      .clear hD;refine fF rfl rfl ?_;simp only[zA,zB,zC,zD,zE,zF,zJ,zK,zG,zH,zI] at hK|-;refine cy 129 _ rfl (w.heap.size+1) rfl 129 _ (0,0) _ (fB hB HJ.out.2.1) aY rfl gG ?_;exact hK _ _ (ag _ _) rfl
      .clear hD;refine fF rfl rfl ?_;simp only[zA,zB,zC,zD,zE,zF,zJ,zK,zG,zH,zI] at hK|-;refine cy 129 _ rfl (w.heap.size+1) rfl 129 _ (0,0) _ (fB hB HJ.out.2.1) aY rfl gG ?_;exact hK _ _ (ag _ _) rfl
      .have e1:ν 1=(jJ ⟨pa,pn,pc,ba,k,bc,some ⟨TA,0,none⟩,k,some ⟨FA,0,none⟩,k⟩):=hD 1 (by kernel_rfl);clear hD;refine fF rfl rfl ?_;simp only[zA,zB,zC,zD,zE,zF,zJ,zK,zG,zH,zI,e1] at hK|-;go_simp;refine(wL ⟨pa,pn,pc,ba,k,bc,some ⟨TA,0,none⟩,k,some ⟨FA,0,none⟩,k⟩ hb2 w1).mono ?_;rintro e w3 ⟨rfl,hb3⟩;exact hK _ _ hb3 rfl
      .clear hD;refine fF rfl rfl ?_;simp only[zA,zB,zC,zD,zE,zF,zJ,zK,zG,zH,zI] at hK|-;go_simp;exact hK _ _ (ag _ _) rfl
      .have e3:ν 3=(.pointer (some ⟨w.heap.size+1,2,none⟩)):=hD 3 (by kernel_rfl);clear hD;refine fF rfl rfl ?_;simp only[zA,zB,zC,zD,zE,zF,zJ,zK,zG,zH,zI,e3] at hK|-;have q0:=fZ hB HC2.out;go_simp;exact hK _ _ (ag _ _) rfl
      .have e0:ν 0=(jJ ⟨pa,pn,pc,ba,k,bc,some ⟨TA,0,none⟩,k,some ⟨FA,0,none⟩,k⟩):=hD 0 (by kernel_rfl);have e2:ν 2=(.agg (gK (fM k))):=hD 2 (by kernel_rfl);have e4:ν 4=(.slice (some ⟨TA,0,none⟩) k k):=hD 4 (by kernel_rfl);clear hD;refine fF rfl rfl ?_;simp only[zA,zB,zC,zD,zE,zF,zJ,zK,zG,zH,zI,e0,e2,e4] at hK|-;go_simp;refine(UH ⟨pa,pn,pc,ba,k,bc,some ⟨TA,0,none⟩,k,some ⟨FA,0,none⟩,k⟩ 0 (fM k) (some ⟨TA,0,none⟩) k k (tZ (fY bs)) (nx (fY bs)) w1 (by omega) hb2 (λy hy=>by simpa[fM] using hy) (λk hk=>by simp[tZ,lA,HLn.out,hk]) (mQ.nx_lt (w:=w) (d:=⟨pa,pn,pc,ba,k,bc,some ⟨TA,0,none⟩,k,some ⟨FA,0,none⟩,k⟩) HGD.out).1 (HWK.out.2.2.1.ext hB)).mono ?_;rintro e w3 ⟨rfl,hb3⟩;exact hK _ _ hb3 rfl
      .clear hD;refine fF rfl rfl ?_;simp only[zA,zB,zC,zD,zE,zF,zJ,zK,zG,zH,zI] at hK|-;go_simp;refine hK _ _ (fD _ _) ⟨rfl,by simp,?_⟩;rw[ae,oX]
     .intro ν lo hi w1 hB hS hI hD;have e0:ν 0=(jJ ⟨pa,pn,pc,ba,k,bc,some ⟨TA,0,none⟩,k,some ⟨FA,0,none⟩,k⟩):=hS 0 (by omega);have e1:ν 1=(jJ ⟨pa,pn,pc,ba,k,bc,some ⟨TA,0,none⟩,k,some ⟨FA,0,none⟩,k⟩):=hS 1 (by omega);have e2:ν 2=(.agg (gK (fM k))):=hS 2 (by omega);have e3:ν 3=(.pointer (some ⟨w.heap.size+1,2,none⟩)):=hS 3 (by omega);have e4:ν 4=(.slice (some ⟨TA,0,none⟩) k k):=hS 4 (by omega);have e5:ν 5=(.agg (gK (iZ (nx (fY bs)) (fM k) 0))):=hS 5 (by omega);obtain⟨e6,l6,h6⟩:=hS 6 (by omega);clear hS;simp only[am,aw,zA,zB,zC,zD,zE,zF,zJ,zK,zG,zH,zI,e0,e1,e2,e3,e4,e5,e6];have i6:=hI 6 (by omega);generalize lo 6=p9 at *;have H6:=ac h6;have hp9:=i6.1;have HBx:=ac (aX (g:=p9) hB hp9 (gK (iZ (nx (fY bs)) (fM k) 0)));clear hI hD hB e0 e1 e2 e3 e4 e5 e6 l6 h6 i6
      go_wp2_with (refine aP (o:=⟨none,.store 138 _ _,_,_,_,_⟩) rfl 138 _ _ rfl p9 (gK (iZ (nx (fY bs)) (fM k) 0)) rfl rfl 138 _ H6.out (by rw[fO];exact gF) rfl (mR _) ?_)
      go_meet
      exact⟨p9,rfl,hp9,bt _ _ _ _ _ _ H6.out,fB HBx.out HJ.out.2.1,HBx.out⟩
    case rest=>
     obtain⟨p9,rfl,hp9,HS0,HR0,HB0⟩:=hcut;have hc9:=lK HS0.out 0 (by omega);have hf9:=rJ HS0.out 0;have hl9:=fE HS0.out;have HS:Hid ((wc.setCell ⟨p9,0,none⟩ (.bool true)).heap[p9]? =some (jY (zS (iZ (nx (fY bs)) (fM k) 0)))):=AD HS0.out 0 (by omega) true;have hg9:=fU wc p9 0 (.bool true);have HR:=ac (fQ hg9 HR0.out (by simp;omega));have HBs:=HB0.out.setCell (p:=⟨p9,0,none⟩) hp9 (.bool true);have HWK2:=ac (HWK.out.ext HBs);have HB:=ac (fC HJ.out.2.2.2.2.2.2 HBs);clear HC2 hg9 HBs HS0 HR0 HB0;generalize iZ (nx (fY bs)) (fM k) 0 0=b9 at hc9;go_upto_region 21 with (fail)
     obtain⟨W2,hW2⟩:∃W2,W2=wc.setCell ⟨p9,0,none⟩ (.bool true):=⟨_,rfl⟩
     rw[<-hW2] at HS HR HWK2 HB|-;clear hc9 hf9 hl9 hW2;refine lF 6 [some 85,some 86,some 87,some 88,some 89,none] (by kernel_rfl) (by kernel_rfl) (jZ [.val (jJ ⟨pa,pn,pc,ba,k,bc,some ⟨TA,0,none⟩,k,some ⟨FA,0,none⟩,k⟩),.val (.agg (gK (zS (iZ (nx (fY bs)) (fM k) 0)))),.val (jJ ⟨pa,pn,pc,ba,k,bc,some ⟨TA,0,none⟩,k,some ⟨FA,0,none⟩,k⟩),.val (.agg (gK (fM k))),.val (.bool (eqS (zS (iZ (nx (fY bs)) (fM k) 0)) (fM k))),(.any λ_ _ _ _=>True)]) (jX ?_) ?_ ?_
     .intro k hk;simp only[aS,bO,cX] at hk;rcases hk with rfl|rfl|rfl|rfl|rfl|rfl<;>try exact trivial
      .exact λ_ _ _ _ _ _ h=>h
     .intro i hi ν lo hi' w1 K hB hD hK;have hcase:i=0\/i=1\/i=2\/i=3\/i=4\/i=5:=by omega
      clear hi;rcases hcase with rfl|rfl|rfl|rfl|rfl|rfl
      .clear hD;refine fF rfl rfl ?_;simp only[zA,zB,zC,zD,zE,zF,zJ,zK,zG,zH,zI] at hK|-;refine cy 129 _ rfl (w.heap.size+1) rfl 129 _ (0,0) _ (fB hB HR.out) aY rfl gG ?_;exact hK _ _ (ag _ _) rfl
      .clear hD;refine fF rfl rfl ?_;simp only[zA,zB,zC,zD,zE,zF,zJ,zK,zG,zH,zI] at hK|-;refine cy 138 _ rfl p9 rfl 138 _ (0,0) _ (fB hB HS.out) aL rfl (by rw[fO];exact gF) ?_;exact hK _ _ (ag _ _) rfl
      .clear hD;refine fF rfl rfl ?_;simp only[zA,zB,zC,zD,zE,zF,zJ,zK,zG,zH,zI] at hK|-;refine cy 129 _ rfl (w.heap.size+1) rfl 129 _ (0,0) _ (fB hB HR.out) aY rfl gG ?_;exact hK _ _ (ag _ _) rfl
      .have e2:ν 2=(jJ ⟨pa,pn,pc,ba,k,bc,some ⟨TA,0,none⟩,k,some ⟨FA,0,none⟩,k⟩):=hD 2 (by kernel_rfl);clear hD;refine fF rfl rfl ?_;simp only[zA,zB,zC,zD,zE,zF,zJ,zK,zG,zH,zI,e2] at hK|-;go_simp;refine(wL ⟨pa,pn,pc,ba,k,bc,some ⟨TA,0,none⟩,k,some ⟨FA,0,none⟩,k⟩ hb2 w1).mono ?_;rintro e w3 ⟨rfl,hb3⟩;exact hK _ _ hb3 rfl
      .have e1:ν 1=(.agg (gK (zS (iZ (nx (fY bs)) (fM k) 0)))):=hD 1 (by kernel_rfl);have e3:ν 3=(.agg (gK (fM k))):=hD 3 (by kernel_rfl);clear hD;refine fF rfl rfl ?_;simp only[zA,zB,zC,zD,zE,zF,zJ,zK,zG,zH,zI,e1,e3] at hK|-;have heq:=FJ w1 (zS (iZ (nx (fY bs)) (fM k) 0)) (fM k);go_simp;exact hK _ _ (ag _ _) rfl
      .have e0:ν 0=(jJ ⟨pa,pn,pc,ba,k,bc,some ⟨TA,0,none⟩,k,some ⟨FA,0,none⟩,k⟩):=hD 0 (by kernel_rfl);have e2:ν 2=(jJ ⟨pa,pn,pc,ba,k,bc,some ⟨TA,0,none⟩,k,some ⟨FA,0,none⟩,k⟩):=hD 2 (by kernel_rfl);have e3:ν 3=(.agg (gK (fM k))):=hD 3 (by kernel_rfl);clear hD;refine fF rfl rfl ?_;simp only[zA,zB,zC,zD,zE,zF,zJ,zK,zG,zH,zI,e0,e2,e3] at hK|-;have hr1:=fB hB HR.out;refine eQ 129 _ _ rfl (w.heap.size+1) _ rfl rfl 129 _ hr1 gG rfl (by simp[Value.oneCell']) ?_;rw[setRow_self _ _ _ _ _ hr1];exact hK undef _ (ag _ _) trivial
     .intro ν lo hi w1 hB hS hI hD;have e0:ν 0=(jJ ⟨pa,pn,pc,ba,k,bc,some ⟨TA,0,none⟩,k,some ⟨FA,0,none⟩,k⟩):=hS 0 (by omega);have e1:ν 1=(.agg (gK (zS (iZ (nx (fY bs)) (fM k) 0)))):=hS 1 (by omega);have e2:ν 2=(jJ ⟨pa,pn,pc,ba,k,bc,some ⟨TA,0,none⟩,k,some ⟨FA,0,none⟩,k⟩):=hS 2 (by omega);have e3:ν 3=(.agg (gK (fM k))):=hS 3 (by omega);have e4:ν 4=(.bool (eqS (zS (iZ (nx (fY bs)) (fM k) 0)) (fM k))):=hS 4 (by omega);have e5:=hS 5 (by omega);unfold jZ at e5;simp only[br,bq,nC] at e5;clear hS;simp only[am,aw,zA,zB,zC,zD,zE,zF,zJ,zK,zG,zH,zI,e0,e1,e2,e3,e4];have hB9:=fC HB.out hB;have hR9:=fB hB HR.out;have hW9:=HWK2.out.ext hB;clear hI hD hB e0 e1 e2 e3 e4 e5;go_wp2;refine aR (v:=.tuple #[jJ ⟨pa,pn,pc,ba,k,bc,some ⟨TA,0,none⟩,k,some ⟨FA,0,none⟩,k⟩,.bool (eqS (zS (iZ (nx (fY bs)) (fM k) 0)) (fM k))]) ?_ rfl ⟨_,by rw[HE.out],rfl,by simp[Value.oneCell'],hB9,λ_=>⟨_,_,_,_,rfl,hW9⟩⟩;have hl:=cQ (P:=Tryz.prog) _ (w.heap.size+1) 129 129 _ (0,0) _ hR9 aY rfl gG;simp[results,Tryz.results54,asAddr,Act.put,hl]
end
end Go.Proofs.YtbknbcmppdglhaaGreatDoor
