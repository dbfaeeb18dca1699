/-
 Tile:over.
-/
import Derived.Test.YtchdkjenhppleaaGreatA0
import Derived.Test.YtchdkjenhppleaaGreatShelf
import Derived.Deep.OwnRows
namespace Go.Proofs.YtchdkjenhppleaaGreat
set_option linter.unusedSimpArgs false
set_option linter.unusedVariables false
set_option linter.unusedSectionVars false
set_option maxRecDepth 100000
set_option maxHeartbeats 40000000
section
open Go.RowKit
def zS(f:Nat->Bool):Nat->Bool:=λq=>if q=0 then true else f q
theorem fY:(Tryz.prog.info? 47).map (·.size)=some 2:=by kernel_rfl
theorem JI:(Tryz.prog.info? 22).map (λi=>(i.zero,i.size,i.bytes))=some (some sM,1,24):=by kernel_rfl
theorem NP(n:Nat):madeCells #[sM] n=MM n λ_=>sM:=by
 apply cH
 intro k
 by_cases hk:k<n
 .rw[LA _ _ _ hk];simp[madeCells,hk,Nat.mod_one]
 .rw[b6 (by simp[madeCells];omega),b6 (by grind[AP])]
abbrev kF(pa:Option Addr)(pn pc:Nat)(ba:Option Addr)(bn bc:Nat):Value:=.agg #[.slice pa pn pc,.slice ba bn bc]
abbrev gH(pa:Option Addr)(pn pc:Nat)(ba:Option Addr)(bn bc:Nat):Obj:=.cells #[.slice pa pn pc,.slice ba bn bc] 47
def ko(pa:Option Addr)(pn pc:Nat)(ba:Option Addr)(bn bc:Nat)(ts:List fC)(w:World)(e:Ending)(w':World):Prop:=
 ∃cs:Array Value,e=.returned (.tuple #[.agg cs,.bool (gS ts)])/\cs.size=4/\cs.all (·.oneCell')=true/\Below w.heap.size w w'/\(gS ts=true->∃ta tc fa fc,Value.agg cs=gX ⟨pa,pn,pc,ba,bn,bc,ta,tc,fa,fc⟩/\lP w' ⟨pa,pn,pc,ba,bn,bc,ta,tc,fa,fc⟩ ts)
def OvJ(w:World)(pa:Option Addr)(pn pc:Nat)(ba:Option Addr)(bn bc:Nat)(ts:List fC)(TA FA B kT k i:Nat)(hF hT:Nat->Value)(wr:World):Prop:=
 wr.heap[w.heap.size]? =some (gH pa pn pc ba bn bc)/\wr.heap[w.heap.size+1]? =some (oD ⟨pa,pn,pc,ba,bn,bc,some ⟨TA,0,none⟩,bn,some ⟨FA,0,none⟩,bn⟩)/\
  wr.heap[TA]? =some (KB bn hT)/\wr.heap[FA]? =some (KB bn hF)/\Fam wr B bn kT hF hT (λy=>eR (nA ts k i y)) (λj=>toD (ts.getD j kI))/\B<=wr.heap.size/\Below w.heap.size w wr
section
variable {w wr wr':World} {pa:Option Addr} {pn pc:Nat} {ba:Option Addr} {bn bc:Nat} {ts:List fC} {TA FA B kT k i:Nat} {hF hT:Nat->Value}
theorem OvJ.ext(h:OvJ w pa pn pc ba bn bc ts TA FA B kT k i hF hT wr)(hb:Below wr.heap.size wr wr'):OvJ w pa pn pc ba bn bc ts TA FA B kT k i hF hT wr':=by
 obtain⟨h1,h2,h3,h4,h5,h6,h7⟩:=h
 exact⟨eB hb h1,eB hb h2,eB hb h3,eB hb h4,h5.ext hb,bP h6 hb.size,eA h7 hb⟩
theorem OvJ.to(h:OvJ w pa pn pc ba bn bc ts TA FA B k k 0 hF hT wr)(hb:Below wr.heap.size wr wr')(v:Value)(ho:fQ wr' wr.heap.size v (toD (ts.getD k kI)))(hk:k<bn)(hw1:w.heap.size+1+1<=TA)(hne:TA≠FA)(hTB:TA<B):
  OvJ w pa pn pc ba bn bc ts TA FA B (k+1) k 0 hF (iX hT k v) (wr'.setCell ⟨TA,k,none⟩ v):=by
 obtain⟨h1,h2,h3,h4,h5,h6,h7⟩:=h
 have g:=fL wr' TA k v
 have hsz:=hb.size
 refine⟨fB g (eB hb h1) (by grind),fB g (eB hb h2) (by grind),UX (eB hb h3) k v,fB g (eB hb h4) (by grind),?_,by simp;omega,(eA h7 hb).setCell (by grind) _⟩
 have h8:=h5.add hb h6 v _ ho
 have e:iX (λj=>toD (ts.getD j kI)) k (toD (ts.getD k kI))=λj=>toD (ts.getD j kI):=by
  grind[iX]
 rw[e] at h8
 exact h8.kept g (λr hr=>by simp at hr;omega)
theorem OvJ.from(h:OvJ w pa pn pc ba bn bc ts TA FA B (k+1) k i hF hT wr)(y:Nat)(hy:y<bn)(hx:(nx ts k)[i]? =some y)(hg:wr.grownBy wr' (hF y).ownBlock)(v:Value)(ho:fQ wr' B v (eR (nA ts k i y)++ [(k:Int)]))(hv:v.ownBlock=(hF y).ownBlock\/∃g,v.ownBlock=some g/\wr.heap.size<=g)
  (hw1:w.heap.size+1+1<=FA) (hw2:w.heap.size+1+1<=TA) (hne:TA≠FA) (hTB:TA<B) (hFB:FA<B):OvJ w pa pn pc ba bn bc ts TA FA B (k+1) k (i+1) (iX hF y v) hT (wr'.setCell ⟨FA,y,none⟩ v):=by
 obtain⟨h1,h2,h3,h4,h5,h6,h7⟩:=h
 have hlt:∀r,(hF y).ownBlock=some r->B<=r:=λr e=>((h5.F y hy).1.lt r e).1
 have low:∀q,q<B->(hF y).ownBlock≠some q:=λq hq e=>by grind
 have g:=fL wr' FA y v
 refine⟨fB g (fB hg h1 (low _ (by omega))) (by simp;omega),fB g (fB hg h2 (low _ (by omega))) (by simp;omega),fB g (fB hg h3 (low _ hTB)) (by simp;omega),UX (fB hg h4 (low _ hFB)) y v,?_,by have:=hg.size;simp;omega,(h7.grown hg h7.size (λr e=>by have:=hlt r e;omega)).setCell (by simp;omega) _⟩
 have h8:=h5.turn y hy hg v _ ho hv
 have e:iX (λy=>eR (nA ts k i y)) y (eR (nA ts k i y)++ [(k:Int)])=λy=>eR (nA ts k (i+1) y):=by
  funext z
  rw[WY ts k i y hx z];by_cases e:z=y
  .subst e;simp[iX,eR]
  .simp[iX,e]
 rw[e] at h8
 exact h8.kept g (λr hr=>by simp at hr;omega)
end
theorem OvJ.walk{w wr:World}{pa:Option Addr}{pn pc:Nat}{ba:Option Addr}{bn bc:Nat}{ts:List fC}{TA FA B:Nat}{hF hT:Nat->Value}(h:OvJ w pa pn pc ba bn bc ts TA FA B bn bn 0 hF hT wr)(h2:bn<=200)(hg:∀q,q<bn->jK (ts.getD q kI)=true/\∀x∈toD (ts.getD q kI),1<=x/\x<bn)(hl:ts.length=bn):
  lP wr ⟨pa,pn,pc,ba,bn,bc,some ⟨TA,0,none⟩,bn,some ⟨FA,0,none⟩,bn⟩ ts:=by
 obtain⟨h1,_,h3,h4,h5,h6,h7⟩:=h
 refine⟨hl,h2,⟨by grind[uB],by grind,λk xs hx=>?_⟩,⟨by grind[qJ],by grind,λk xs hx=>?_⟩⟩
 .have hk:k<bn:=by
   grind[uB]
  have e:xs=nx ts k:=by grind[uB]
  have e2:eR xs=toD (ts.getD k kI):=by
   have e3:(toD (ts.getD k kI)).map ((λ(k:Nat)=>(k:Int))∘Int.toNat)=(toD (ts.getD k kI)).map id:=List.map_congr_left λx hx=>by
    have:=(hg k hk).2 x hx;simp;omega
   rw[e,nx,eR,List.map_map,e3,List.map_id]
  have ho:=h5.T k hk;obtain⟨a,c,hv⟩:=ho.form;have hn:(toD (ts.getD k kI)).length=xs.length:=by rw[<-e2];simp[eR]
  rw[hv] at ho;rw[hn] at ho hv;refine⟨TA,0,a,c,rfl,?_,?_⟩
  .rw[aW,sC h3 k hk,hv]
  .rw[e2];exact ho.ints
 .have hk:k<bn:=by
   have:=(aI.1 hx).1;simpa[qJ,hl] using this
  have e:xs=pv ts k:=by simpa[qJ,hl,hk] using hx.symm
  have ho:=h5.F k hk;have e2:eR (nA ts bn 0 k)=eR xs:=by rw[e,<-hl,gv]
  simp only[e2] at ho;obtain⟨a,c,hv⟩:=ho.form;have hn:(eR xs).length=xs.length:=by simp[eR]
  rw[hv] at ho;rw[hn] at ho hv;refine⟨FA,0,a,c,rfl,?_,ho.ints⟩;rw[aW,sC h4 k hk,hv]
theorem UZ{ts:List fC}{k:Nat}(hk:k<ts.length)(h:jK (ts.getD k kI)=false\/∃x∈toD (ts.getD k kI),x<1\/(ts.length:Int)<=x):gS ts=false:=by
 rw[gS,dF]
 refine .inl (bU.2 λhg=>?_)
 grind[jP]
theorem uH(pa:Option Addr)(pn pc:Nat)(ba:Option Addr)(bn bc:Nat)(bs:List jU)(w:World)(h:iP w ba bn bs):
  Calls Tryz.prog 125 #[kF pa pn pc ba bn bc] w (ko pa pn pc ba bn bc (eZ bs) w):=by
 have hbn:=h.1.2.1
 have HLn:=ac h.1.1
 have HBS:=ac h
 clear h
 by_cases hgood:1<=bn/\bn<=200
 rotate_left
 .have HE:Hid (gS (eZ bs)=false):=by
   rw[Hid,gS,dF];refine .inl (bU.2 λhg=>hgood ?_);have:=((jP _).1 hg).1;rw[kQ,HLn.out] at this;exact this
  go_enter Tryz.func125,Tryz.ntmps125
  go_upto_region 1 with (fail)
  obtain⟨W,hW⟩:∃W,W=(w.alloc (gH pa pn pc ba bn bc)).alloc (.cells #[.slice none 0 0,.slice none 0 0,.slice none 0 0,.slice none 0 0] 201):=⟨_,rfl⟩
  rw[<-hW];have hf:W.heap[w.heap.size]? =some (gH pa pn pc ba bn bc):=by rw[hW,aJ _ _ _ (by simp)];exact ai _ _
  have hr:W.heap[w.heap.size+1]? =some (.cells #[.slice none 0 0,.slice none 0 0,.slice none 0 0,.slice none 0 0] 201 (0,0)):=by rw[hW,fM _ _ _ (by simp)]
  have hB:Below w.heap.size w W:=by rw[hW];exact(eD _ _).alloc (by simp) _
  have hc1:=cK 1 hf rfl;have HR:=ac hr;have HB:=ac hB;have hz:(bn:Int)<1\/200<(bn:Int):=by omega
  clear hW hf hr hB hgood;rcases hz with hz|hz
  rotate_left
  .have hz1:¬(bn:Int)<1:=by omega
   go_wp2_with (first
    |(refine ay (o:=⟨some _,.load 201 _,_,_,_,_⟩) rfl 201 _ rfl (w.heap.size+1) rfl 201 _ (0,0) _ HR.out aS rfl eX ?_)
    |(refine aU (o:=⟨none,.store 201 _ _,_,_,_,_⟩) rfl 201 _ _ rfl (w.heap.size+1) #[.slice none 0 0,.slice none 0 0,.slice none 0 0,.slice none 0 0] rfl rfl 201 _ HR.out eX rfl (by simp[Value.oneCell']) ?_))
   refine aD (v:=.tuple #[.agg #[.slice none 0 0,.slice none 0 0,.slice none 0 0,.slice none 0 0],.bool false]) ?_ rfl ⟨_,by rw[HE.out],rfl,by simp[Value.oneCell'],aA HB.out (by omega) _,λh=>by rw[HE.out] at h;cases h⟩;have hl:=cd (P:=Tryz.prog) _ (w.heap.size+1) 201 201 _ (0,0) _ (aG _ _ _ #[.slice none 0 0,.slice none 0 0,.slice none 0 0,.slice none 0 0] _ _ HR.out) aS rfl eX;simp[results,Tryz.results125,asAddr,Act.put,hl]
  .go_wp2_with (first
    |(refine ay (o:=⟨some _,.load 201 _,_,_,_,_⟩) rfl 201 _ rfl (w.heap.size+1) rfl 201 _ (0,0) _ HR.out aS rfl eX ?_)
    |(refine aU (o:=⟨none,.store 201 _ _,_,_,_,_⟩) rfl 201 _ _ rfl (w.heap.size+1) #[.slice none 0 0,.slice none 0 0,.slice none 0 0,.slice none 0 0] rfl rfl 201 _ HR.out eX rfl (by simp[Value.oneCell']) ?_))
   refine aD (v:=.tuple #[.agg #[.slice none 0 0,.slice none 0 0,.slice none 0 0,.slice none 0 0],.bool false]) ?_ rfl ⟨_,by rw[HE.out],rfl,by simp[Value.oneCell'],aA HB.out (by omega) _,λh=>by rw[HE.out] at h;cases h⟩;have hl:=cd (P:=Tryz.prog) _ (w.heap.size+1) 201 201 _ (0,0) _ (aG _ _ _ #[.slice none 0 0,.slice none 0 0,.slice none 0 0,.slice none 0 0] _ _ HR.out) aS rfl eX;simp[results,Tryz.results125,asAddr,Act.put,hl]
 obtain⟨hb1,hb2⟩:=hgood
 go_enter Tryz.func125,Tryz.ntmps125
 go_upto_region 1 with (fail)
 obtain⟨W,hW⟩:∃W,W=(w.alloc (gH pa pn pc ba bn bc)).alloc (.cells #[.slice none 0 0,.slice none 0 0,.slice none 0 0,.slice none 0 0] 201):=⟨_,rfl⟩
 rw[<-hW]
 have hf:W.heap[w.heap.size]? =some (gH pa pn pc ba bn bc):=by rw[hW,aJ _ _ _ (by simp)];exact ai _ _
 have hr:W.heap[w.heap.size+1]? =some (.cells #[.slice none 0 0,.slice none 0 0,.slice none 0 0,.slice none 0 0] 201 (0,0)):=by rw[hW,fM _ _ _ (by simp)]
 have hB:Below w.heap.size w W:=by rw[hW];exact(eD _ _).alloc (by simp) _
 have hWs:W.heap.size=w.heap.size+1+1:=by rw[hW];simp
 have hc1:=cK 1 hf rfl
 have HWs:=ac hWs
 have HF:=ac hf
 have HR:=ac hr
 have HB:=ac hB
 clear hW hWs hf hr hB
 go_upto_region 4 with (fail)
 go_cut [] (λwr=>∃TA FA B:Nat,w.heap.size+1+1<=TA/\w.heap.size+1+1<=FA/\TA≠FA/\TA<B/\FA<B/\∃hF hT,OvJ w pa pn pc ba bn bc (eZ bs) TA FA B 0 0 0 hF hT wr)
 case first=>
  refine kZ 5 [some 20,some 21,some 22,some 23,some 24] (by kernel_rfl) (by kernel_rfl) (jL [.val (.agg #[.slice pa pn pc,.slice ba bn bc]),.val (.int .i64 (bn:Int)),(.any λv lo hi w=>v=.slice (some ⟨lo,0,none⟩) bn bn/\lo<hi/\w.heap[lo]? =some (KB bn λ_=>sM)),.val (.int .i64 (bn:Int)),(.any λv lo hi w=>v=.slice (some ⟨lo,0,none⟩) bn bn/\lo<hi/\w.heap[lo]? =some (KB bn λ_=>sM))]) (kC ?_) ?_ ?_
  .intro k hk;simp only[aH,a7,bW] at hk;rcases hk with rfl|rfl|rfl|rfl|rfl<;>try exact trivial
   .exact λv lo hi w w' hb h=>⟨h.1,h.2.1,eB hb h.2.2⟩
   .exact λv lo hi w w' hb h=>⟨h.1,h.2.1,eB hb h.2.2⟩
  .intro i hi ν lo hi' w1 K hB hD hK;have hcase:i=0\/i=1\/i=2\/i=3\/i=4:=by omega
   clear hi;rcases hcase with rfl|rfl|rfl|rfl|rfl
   .clear hD;refine eJ rfl rfl ?_;simp only[zA,zB,zC,zD,zE,zF,zJ,zK,zG,zH,zI] at hK|-;refine bX 47 _ rfl w.heap.size rfl 47 _ (0,0) _ (eB hB HF.out) bj rfl fY ?_;exact hK _ _ (ao _ _) rfl
   .clear hD;refine eJ rfl rfl ?_;simp only[zA,zB,zC,zD,zE,zF,zJ,zK,zG,zH,zI] at hK|-;go_simp;exact hK _ _ (ao _ _) rfl
   .have e1:ν 1=(.int .i64 (bn:Int)):=hD 1 (by kernel_rfl);clear hD;refine eJ rfl rfl ?_;simp only[zA,zB,zC,zD,zE,zF,zJ,zK,zG,zH,zI,e1] at hK|-;have hmk:=run_make_row' (P:=Tryz.prog) 199 22 sM 24 Tryz.underlying199 JI rfl .i64 .i64 bn (by omega) (by omega) w1;go_simp;refine hK _ _ (eD _ _) ⟨rfl,by simp,?_⟩;rw[ai,NP]
   .clear hD;refine eJ rfl rfl ?_;simp only[zA,zB,zC,zD,zE,zF,zJ,zK,zG,zH,zI] at hK|-;go_simp;exact hK _ _ (ao _ _) rfl
   .have e3:ν 3=(.int .i64 (bn:Int)):=hD 3 (by kernel_rfl);clear hD;refine eJ rfl rfl ?_;simp only[zA,zB,zC,zD,zE,zF,zJ,zK,zG,zH,zI,e3] at hK|-;have hmk:=run_make_row' (P:=Tryz.prog) 199 22 sM 24 Tryz.underlying199 JI rfl .i64 .i64 bn (by omega) (by omega) w1;go_simp;refine hK _ _ (eD _ _) ⟨rfl,by simp,?_⟩;rw[ai,NP]
  .intro ν lo hi w1 hB hS hI hD;have e0:ν 0=(.agg #[.slice pa pn pc,.slice ba bn bc]):=hS 0 (by omega);have e1:ν 1=(.int .i64 (bn:Int)):=hS 1 (by omega);have e2:=hS 2 (by omega);unfold jL at e2;simp only[bw,bl,oE] at e2;have e3:ν 3=(.int .i64 (bn:Int)):=hS 3 (by omega);have e4:=hS 4 (by omega);unfold jL at e4;simp only[bw,bl,oE] at e4;clear hS;simp only[aj,ap,zA,zB,zC,zD,zE,zF,zJ,zK,zG,zH,zI,e0,e1,e3];have i2:=hI 2 (by omega);have i4:=hI 4 (by omega);have hne:lo 2≠lo 4:=by
    have:=hD 2 4 (by omega) (by omega) (by omega);omega
   obtain⟨e2,l2,h2⟩:=e2;obtain⟨e4,l4,h4⟩:=e4;simp only[e2,e4];have hr:=eB hB HR.out;rw[HWs.out] at i2 i4;have HBw:Hid (Below w.heap.size w w1):=eA HB.out hB;have HFw:=ac (eB hB HF.out);generalize lo 2=TA at *;generalize lo 4=FA at *;have H2:=ac h2;have H4:=ac h4;have HRw:=ac hr;have hTA:=i2.1;have hFA:=i4.1;have hTB:TA<w1.heap.size:=by omega
   have hFB:FA<w1.heap.size:=by omega
   clear hI hD hB e0 e1 e2 e3 e4 h2 h4 hr i2 i4 l2 l4
   go_wp2_with (refine aU (o:=⟨none,.store _ _ _,_,_,_,_⟩) rfl 201 _ _ rfl (w.heap.size+1) #[.slice pa pn pc,.slice ba bn bc,.slice (some ⟨TA,0,none⟩) bn bn,.slice (some ⟨FA,0,none⟩) bn bn] rfl rfl 201 _ HRw.out eX rfl (by simp[Value.oneCell']) ?_)
   go_meet
   refine⟨TA,FA,w1.heap.size,hTA,hFA,hne,hTB,hFB,λ_=>sM,λ_=>sM,?_⟩;refine⟨(aY _ _ _ _ (by omega)).trans HFw.out,aG _ _ _ _ _ _ HRw.out,(aY _ _ _ _ (by omega)).trans H2.out,(aY _ _ _ _ (by omega)).trans H4.out,?_,by simp,aA HBw.out (by omega) _⟩;have e:(λy=>eR (nA (eZ bs) 0 0 y))=λ_=>([]:List Int):=by funext y;rw[WX];rfl
   rw[e];exact⟨λy _=>fQ.nil _ _,λj hj=>absurd hj (by omega),λ_ _ _ _ _ g h=>by simp[Value.ownBlock] at h,λ_ _ _ hj=>absurd hj (by omega)⟩
 case rest=>
  obtain⟨TA,FA,B,hTA,hFA,hne,hTB,hFB,hF0,hT0,HJ0⟩:=hcut
  replace HJ0:=ac HJ0
  clear HWs HF HR HB hc1;have hcb:=cK 1 HJ0.out.1 rfl;go_wp2
  go_loopg [29] bn (λgg i wr=>∃(k:Nat) (hF hT:Nat->Value),i=.int .i64 (k:Int)/\k<=bn/\bn<=gg+k/\Hid (∀q,q<k->jK ((eZ bs).getD q kI)=true/\∀x∈toD ((eZ bs).getD q kI),1<=x/\x<bn)/\Hid (OvJ w pa pn pc ba bn bc (eZ bs) TA FA B k k 0 hF hT wr))
  case atStart=>exact⟨0,hF0,hT0,rfl,Nat.zero_le _,aw _,λq hq=>absurd hq (by omega),HJ0⟩
  case round=>
   obtain⟨k,hF,hT,rfl,hk,hgg,HG,HJ⟩:=hrel;clear hcb HJ0 hF0 hT0;by_cases hlt:k<bn
   .obtain⟨jF,jR,jT,jA,jM,jS,jB⟩:=HJ.out;obtain⟨x,b,o,hbx,htx,rfl,c0,c1,c2,c3,c4⟩:=(HBS.out.ext jB).cells hlt;have htk:(eZ bs).getD k kI=x.t:=UM bs k x hbx;have HTK:=ac htk;have HTX:=ac htx;have HBX:=ac hbx;clear jF jR jT jA jM jS jB htk htx hbx;go_upto_region 8 with (fail)
    obtain⟨W1,hW1⟩:∃W1,W1=wr.alloc (kP x):=⟨_,rfl⟩
    rw[<-hW1];have HJ1:Hid (OvJ w pa pn pc (some ⟨b,o,none⟩) bn bc (eZ bs) TA FA B k k 0 hF hT W1):=by rw[hW1];exact HJ.out.ext (eD _ _)
    have hx1:W1.heap[wr.heap.size]? =some (kP x):=by rw[hW1,ai]
    have hs1:W1.heap.size=wr.heap.size+1:=by rw[hW1];simp
    have hB1:Below w.heap.size w W1:=HJ1.out.2.2.2.2.2.2;obtain⟨-,d1,d2,d3,d4⟩:=nN hx1 rfl;have HX1:=ac hx1;clear hW1 hx1 c0 c1 c2 c3 c4;generalize hp:wr.heap.size=p at *;have HS1:=ac hs1;clear hs1 hp HJ;by_cases htB:jK x.t=true
    .have HTB:=ac htB;clear htB
     go_upto_region 10 with (first
      |(go_at_call 107
        refine(mF x.t _ HTX.out).mono ?_;rintro e w2 ⟨rfl,hb2⟩;rw[HTB.out];have HJ2:=ac (HJ1.out.ext hb2);have D1:=ac (eN hb2 d1);have D2:=ac (eN hb2 d2);have D3:=ac (eN hb2 d3);have D4:=ac (eN hb2 d4)
        clear hb2))
     have HC40:Hid (w2.cell? ⟨w.heap.size+1,2,none⟩=some (.slice (some ⟨TA,0,none⟩) bn bn)):=by rw[Hid,bd _ _ _ _ _ _ HJ2.out.2.1];rfl
     clear d1 d2 d3 d4 HJ1 HX1 hB1 HS1
     go_cut [] (λwx=>∃hT2,Hid (OvJ w pa pn pc (some ⟨b,o,none⟩) bn bc (eZ bs) TA FA B (k+1) k 0 hF hT2 wx))
     case first=>
      refine kZ 6 [some 39,some 40,some 41,some 42,some 43,some 44] (by kernel_rfl) (by kernel_rfl) (jL [.val (.pointer (some ⟨w.heap.size+1,2,none⟩)),.val (.slice (some ⟨TA,0,none⟩) bn bn),.val (.int .i64 (k:Int)),.val (.pointer (some ⟨p,1,none⟩)),.val (HH x.t),(.any λv lo hi w=>fQ w lo v (toD x.t))]) (kC ?_) ?_ ?_
      .intro k hk;simp only[aH,a7,bW] at hk;rcases hk with rfl|rfl|rfl|rfl|rfl|rfl<;>try exact trivial
       .exact λv lo hi w w' hb h=>h.ext hb
      .intro i hi ν lo hi' w1 K hB hD hK;have hcase:i=0\/i=1\/i=2\/i=3\/i=4\/i=5:=by omega
       clear hi;rcases hcase with rfl|rfl|rfl|rfl|rfl|rfl
       .clear hD;refine eJ rfl rfl ?_;simp only[zA,zB,zC,zD,zE,zF,zJ,zK,zG,zH,zI] at hK|-;go_simp;exact hK _ _ (ao _ _) rfl
       .have e0:ν 0=(.pointer (some ⟨w.heap.size+1,2,none⟩)):=hD 0 (by kernel_rfl);clear hD;refine eJ rfl rfl ?_;simp only[zA,zB,zC,zD,zE,zF,zJ,zK,zG,zH,zI,e0] at hK|-;have q0:=eN hB HC40.out;go_simp;exact hK _ _ (ao _ _) rfl
       .clear hD;refine eJ rfl rfl ?_;simp only[zA,zB,zC,zD,zE,zF,zJ,zK,zG,zH,zI] at hK|-;go_simp;exact hK _ _ (ao _ _) rfl
       .clear hD;refine eJ rfl rfl ?_;simp only[zA,zB,zC,zD,zE,zF,zJ,zK,zG,zH,zI] at hK|-;go_simp;exact hK _ _ (ao _ _) rfl
       .have e3:ν 3=(.pointer (some ⟨p,1,none⟩)):=hD 3 (by kernel_rfl);clear hD;refine eJ rfl rfl ?_;simp only[zA,zB,zC,zD,zE,zF,zJ,zK,zG,zH,zI,e3] at hK|-;have q1:=eN hB D1.out;have q2:=eN hB D2.out;have q3:=eN hB D3.out;have q4:=eN hB D4.out;go_simp;exact hK _ _ (ao _ _) rfl
       .have e4:ν 4=(HH x.t):=hD 4 (by kernel_rfl);clear hD;refine eJ rfl rfl ?_;simp only[zA,zB,zC,zD,zE,zF,zJ,zK,zG,zH,zI,e4] at hK|-;go_simp;refine(zW x.t w1 HTX.out).mono ?_;rintro e w3 ⟨v,rfl,ho,hb3⟩;exact hK _ _ hb3 ho
      .intro ν lo hi w1 hB hS hI hD;have e0:ν 0=(.pointer (some ⟨w.heap.size+1,2,none⟩)):=hS 0 (by omega);have e1:ν 1=(.slice (some ⟨TA,0,none⟩) bn bn):=hS 1 (by omega);have e2:ν 2=(.int .i64 (k:Int)):=hS 2 (by omega);have e3:ν 3=(.pointer (some ⟨p,1,none⟩)):=hS 3 (by omega);have e4:ν 4=(HH x.t):=hS 4 (by omega);have e5:=hS 5 (by omega);unfold jL at e5;simp only[bw,bl,oE] at e5;clear hS;simp only[aj,ap,zA,zB,zC,zD,zE,zF,zJ,zK,zG,zH,zI,e0,e1,e2,e3,e4];obtain⟨av,cv,hv⟩:=e5.form;simp only[hv];have ho5:=e5.mono (hI 5 (by omega)).1;rw[<-HTK.out] at ho5;have HJ4:=ac (HJ2.out.to hB (ν 5) ho5 hlt hTA hne hTB);rw[hv] at HJ4;have hcw:=sC (eB hB HJ2.out.2.2.1) k hlt;have hfw:=OB (eB hB HJ2.out.2.2.1) k;have hlw:TA<w1.heap.size:=eT (eB hB HJ2.out.2.2.1);clear hI hD e0 e1 e2 e3 e4 e5 ho5 hB;generalize hT k=hTk at hcw;clear hv;go_wp2
       go_meet
       exact⟨_,HJ4⟩
     case rest=>
      obtain⟨hT2,HJ3⟩:=hcut;obtain⟨wo,rfl⟩:∃wo:World,wo=wr:=⟨_,rfl⟩
      have hoT:=HJ3.out.2.2.2.2.1.T k (by omega);rw[HTK.out] at hoT;obtain⟨va,vc,hv⟩:=hoT.form;have hcc:=sC HJ3.out.2.2.1 k hlt;rw[hv] at hcc;have hc2:=cK 2 HJ3.out.2.1 rfl;have HV:=ac hv;have hlen:=sS x.t;clear hoT hv D1 D2 D3 D4 HC40 HJ2;go_wp2
      go_loopg [52] (toD x.t).length (λg2 i wr=>∃(j:Nat) (hF2:Nat->Value),i=.int .i64 (j:Int)/\j<=(toD x.t).length/\(toD x.t).length<=g2+j/\Hid (∀q,q<j->1<=(toD x.t).getD q 0/\(toD x.t).getD q 0<bn)/\Hid (OvJ w pa pn pc (some ⟨b,o,none⟩) bn bc (eZ bs) TA FA B (k+1) k j hF2 hT2 wr))
      case atStart=>exact⟨0,hF,rfl,Nat.zero_le _,aw _,λq hq=>absurd hq (by omega),HJ3⟩
      case round=>
       obtain⟨j,hF2,rfl,hj,hg2,HG2,HJ⟩:=hrel;clear hcc hc2 HJ3;by_cases hjl:j<(toD x.t).length
       .have hoT:=HJ.out.2.2.2.2.1.T k (by omega);rw[HTK.out,HV.out] at hoT;obtain⟨b2,o2,e2,hcy,hy1,hy2⟩:=hoT.ints.2.2 j hjl;subst e2;have hjl':(j:Int)<((toD x.t).length:Int):=by omega
        have HG3:Hid (1<=(toD x.t).getD j 0/\(toD x.t).getD j 0<bn->∀q,q<j+1->1<=(toD x.t).getD q 0/\(toD x.t).getD q 0<bn):=λh q hq=>by
         by_cases e:q=j
         .subst e;exact h
         .exact HG2.out q (by omega)
        have HNX:Hid (1<=(toD x.t).getD j 0->(nx (eZ bs) k)[j]? =some ((toD x.t).getD j 0).toNat):=λ_=>by
         rw[nx,HTK.out,dv,au hjl];simp[ax,hjl]
        have HNO:Hid ((toD x.t).getD j 0<1\/(bn:Int)<=(toD x.t).getD j 0->gS (eZ bs)=false):=λh=>by
         refine UZ (k:=k) (by rw[kQ,HLn.out];exact hlt) (.inr ⟨(toD x.t).getD j 0,?_,?_⟩)
         .rw[HTK.out,ax,au hjl];exact dB _
         .rw[kQ,HLn.out];exact h
        clear hoT;generalize (toD x.t).getD j 0=y at *;by_cases hyg:1<=y/\y<bn
        .obtain⟨hyg1,hyg2⟩:=hyg;have HG4:=ac (HG3.out ⟨hyg1,hyg2⟩);have HNY:=ac (HNX.out hyg1);obtain⟨yn,rfl⟩:∃yn:Nat,y=(yn:Int):=⟨y.toNat,by omega⟩
         have hyn:yn<bn:=by omega
         have HNY2:Hid ((nx (eZ bs) k)[j]? =some yn):=by have:=HNY.out;rw[Hid];simpa using this
         obtain⟨jF,jR,jT,jA,jM,jS,jB⟩:=HJ.out;have hoF:=jM.F yn hyn;obtain⟨fa,fc,hfv⟩:=hoF.form;have hflen:(eR (nA (eZ bs) k j yn)).length<=1000:=by
          have:=gu (eZ bs) k j yn;simp[eR];omega
         have HFV:=ac hfv;have HOF:=ac hoF;have hc0:=cK 3 jR rfl;have hc1:=sC jA yn hyn;rw[hfv] at hc1;have k0:∀q:fP (λq=>Below B wr q),q.val.cell? ⟨w.heap.size+1,3,none⟩=some (.slice (some ⟨FA,0,none⟩) bn bn):=λq=>(q.prop.cell (p:=⟨w.heap.size+1,3,none⟩) (show w.heap.size+1<B by omega)).trans hc0;have k1:∀q:fP (λq=>Below B wr q),q.val.cell? ⟨FA,yn,none⟩=some (.slice fa (eR (nA (eZ bs) k j yn)).length fc):=λq=>(q.prop.cell (p:=⟨FA,yn,none⟩) (show FA<B from hFB)).trans hc1;have HA:=ac jA;clear jF jR jT jA jM jB hoF hfv hc0 hc1 HG3 HNX HNO HNY;have hyn0:(0:Int)<=(yn:Int):=by omega
         have hyn1:(yn:Int)<(bn:Int):=by omega
         go_upto_region 16 with (fail)
         clear hcy;refine iZ (λw'=>∃n:fP (λq=>Below B wr q),w'=n.val) (by kernel_rfl) ?_;obtain⟨v0,F0,E0,hv0⟩:∃v0,Below B wr v0/\Below wr.heap.size wr v0/\wr.drew=v0:=⟨_,uV (ao _ _) 1,eS (ao _ _) 1,rfl⟩
         rw[hv0];clear hv0
         haveI:Nonempty (fP (λq=>Below B wr q)):=KK (ao _ _)
         refine eK 0 9 (by kernel_rfl) ⟨⟨_,F0⟩,rfl⟩ ?_;simp only[ak,aq,aj,ap]
         repeat (go_big_quiet_step (fail))
         refine ar ?_;refine eO 9 (by kernel_rfl) ?_;refine eE rfl rfl ?_;go_simp;have F1:Below B wr (v0.alloc (.cells #[.int .i64 (k:Int)] 3)):=F0.alloc (by have:=E0.size;omega) _;refine⟨Or.inr ⟨⟨_,F1⟩,rfl⟩,?_⟩
         try simp only[Act.put,ae,ah,ag]
         refine eO 10 (by kernel_rfl) ?_;refine eE rfl rfl ?_;refine wW v0 (.tmp 71) (.tmp 73) 22 3 rfl B _ 1 8 aQ tP rfl (by omega) (.slice fa (eR (nA (eZ bs) k j yn)).length fc) (eR (nA (eZ bs) k j yn)).length _ [.int .i64 (k:Int)] rfl (by have:=(HOF.out.ext E0).1;rwa [HFV.out] at this) v0.heap.size rfl rfl rfl (by simp[Value.oneCell']) (by simp only[maxLen];omega) (by omega) (by have:=E0.size;omega) ?_;intro g cap w4 ho4 hg4 ha4;have hJv:=HJ.out.ext E0;rw[<-HFV.out] at hg4 ha4;have hlow:∀r,(hF2 yn).ownBlock=some r->B<=r:=λr e=>(HOF.out.1.lt r e).1;have F2:Below B wr w4:=F0.grown hg4 (by have:=E0.size;omega) hlow;have hA4:w4.heap[FA]? =some (KB bn hF2):=fB hg4 (eB E0 HA.out) (λe=>by have:=hlow _ e;omega);have hoN:fQ w4 B (.slice (some ⟨g,0,none⟩) ((eR (nA (eZ bs) k j yn)).length+1) cap) (eR (nA (eZ bs) k j yn)++ [(k:Int)]):=by
          refine⟨?_,?_,by simp;omega⟩
          .have e3:(eR (nA (eZ bs) k j yn)++ [(k:Int)]).length=(eR (nA (eZ bs) k j yn)).length+1:=by simp
           have e4:eU (eR (nA (eZ bs) k j yn)++ [(k:Int)])=eU (eR (nA (eZ bs) k j yn))++ [.int .i64 (k:Int)]:=by simp[eU]
           rw[e3,e4];exact ho4
          .intro z hz;rcases bh.1 hz with h|h
           .exact HOF.out.2.1 z h
           .simp only[bm] at h;subst h;unfold I64;omega
         have HJ5:=ac (hJv.from yn hyn HNY2.out hg4 _ hoN (by
          rcases ha4 with e|e
          .exact .inl (by simpa[Value.ownBlock] using e)
          .exact .inr ⟨g,by simp[Value.ownBlock],by omega⟩) hFA hTA hne hTB hFB)
         have hc4:=sC hA4 yn hyn;have hf4:=OB hA4 yn;have hl4:=eT hA4;refine⟨Or.inr ⟨⟨_,F2⟩,rfl⟩,?_⟩
         try simp only[Act.put,ae,ah,ag]
         refine eK 11 1 (by kernel_rfl) ⟨⟨_,F2⟩,rfl⟩ ?_;simp only[ak,aq,aj,ap]
         repeat (go_big_quiet_step (fail))
         refine ar ?_;refine eO 12 (by kernel_rfl) ?_;refine eE rfl rfl ?_;clear hJv ho4 hg4 ha4 hlow F2 hA4 hoN F0 E0 F1 k0 k1;generalize hF2 yn=hFy at *;go_simp;refine⟨Or.inl (by kernel_rfl),?_⟩
         try simp only[Act.put,ae,ah,ag]
         refine fJ (by kernel_rfl) ?_;clear HA HOF HFV HJ;go_wp2
         go_roundg ((toD x.t).length-(j+1))
         case measure=>omega
         case rel=>exact⟨j+1,_,by go_num,by omega,by omega,HG4,HJ5⟩
        .have HE:Hid (gS (eZ bs)=false):=HNO.out (by omega);have HR2:=ac HJ.out.2.1;have HB2:=ac HJ.out.2.2.2.2.2.2;by_cases hy0:y<1
         all_goals
          go_wp2_with (first
           |(refine ay (o:=⟨some _,.load 201 _,_,_,_,_⟩) rfl 201 _ rfl (w.heap.size+1) rfl 201 _ (0,0) _ HR2.out aS rfl eX ?_)
           |(refine aU (o:=⟨none,.store 201 _ _,_,_,_,_⟩) rfl 201 _ _ rfl (w.heap.size+1) #[.slice pa pn pc,.slice (some ⟨b,o,none⟩) bn bc,.slice (some ⟨TA,0,none⟩) bn bn,.slice (some ⟨FA,0,none⟩) bn bn] rfl rfl 201 _ HR2.out eX rfl (by simp[Value.oneCell']) ?_))
          refine aD (v:=.tuple #[.agg #[.slice pa pn pc,.slice (some ⟨b,o,none⟩) bn bc,.slice (some ⟨TA,0,none⟩) bn bn,.slice (some ⟨FA,0,none⟩) bn bn],.bool false]) ?_ rfl ⟨_,by rw[HE.out],rfl,by simp[Value.oneCell'],aA HB2.out (by omega) _,λh=>by rw[HE.out] at h;cases h⟩;have hl:=cd (P:=Tryz.prog) _ (w.heap.size+1) 201 201 _ (0,0) _ (aG _ _ _ #[.slice pa pn pc,.slice (some ⟨b,o,none⟩) bn bc,.slice (some ⟨TA,0,none⟩) bn bn,.slice (some ⟨FA,0,none⟩) bn bn] _ _ HR2.out) aS rfl eX;simp[results,Tryz.results125,asAddr,Act.put,hl]
       .obtain rfl:j=(toD x.t).length:=by omega
        have HJ4:Hid (OvJ w pa pn pc (some ⟨b,o,none⟩) bn bc (eZ bs) TA FA B (k+1) (k+1) 0 hF2 hT2 wr):=by
         have e:(λy=>eR (nA (eZ bs) k (toD x.t).length y))=λy=>eR (nA (eZ bs) (k+1) 0 y):=by
          funext y
          rw[WZ];rw[nx,HTK.out,bR];exact aw _
         have:=HJ.out;unfold OvJ at this;rw[e] at this;exact this
        have HG4:Hid (∀q,q<k+1->jK ((eZ bs).getD q kI)=true/\∀x∈toD ((eZ bs).getD q kI),1<=x/\x<bn):=λq hq=>by
         by_cases e:q=k
         .subst e;rw[HTK.out];refine⟨HTB.out,λz hz=>?_⟩;obtain⟨r,hr,e⟩:=a8.1 hz;have:=HG2.out r hr;simpa[ax,hr,e] using this
         .exact HG.out q (by omega)
        go_wp2
        go_roundg (bn-(k+1))
        case measure=>omega
        case rel=>exact⟨k+1,hF2,hT2,by go_num,by omega,by omega,HG4,HJ4⟩
    .have htB':jK x.t=false:=by simpa using htB
     have HE:Hid (gS (eZ bs)=false):=UZ (k:=k) (by rw[kQ,HLn.out];exact hlt) (.inl (by rw[HTK.out];exact htB'));have HTB:=ac htB';clear htB htB';have HR1:=ac HJ1.out.2.1
     go_wp2_with (first
      |(go_at_call 107
        refine(mF x.t _ HTX.out).mono ?_;rintro e w2 ⟨rfl,hb2⟩;rw[HTB.out];have HB2:=ac hb2;have HR2:=ac (eB hb2 HR1.out);have HB2:=ac (eA hB1 hb2)
        clear hb2)
      |(refine ay (o:=⟨some _,.load 201 _,_,_,_,_⟩) rfl 201 _ rfl (w.heap.size+1) rfl 201 _ (0,0) _ HR2.out aS rfl eX ?_)
      |(refine aU (o:=⟨none,.store 201 _ _,_,_,_,_⟩) rfl 201 _ _ rfl (w.heap.size+1) #[.slice pa pn pc,.slice (some ⟨b,o,none⟩) bn bc,.slice (some ⟨TA,0,none⟩) bn bn,.slice (some ⟨FA,0,none⟩) bn bn] rfl rfl 201 _ HR2.out eX rfl (by simp[Value.oneCell']) ?_))
     refine aD (v:=.tuple #[.agg #[.slice pa pn pc,.slice (some ⟨b,o,none⟩) bn bc,.slice (some ⟨TA,0,none⟩) bn bn,.slice (some ⟨FA,0,none⟩) bn bn],.bool false]) ?_ rfl ⟨_,by rw[HE.out],rfl,by simp[Value.oneCell'],aA HB2.out (by omega) _,λh=>by rw[HE.out] at h;cases h⟩;have hl:=cd (P:=Tryz.prog) _ (w.heap.size+1) 201 201 _ (0,0) _ (aG _ _ _ #[.slice pa pn pc,.slice (some ⟨b,o,none⟩) bn bc,.slice (some ⟨TA,0,none⟩) bn bn,.slice (some ⟨FA,0,none⟩) bn bn] _ _ HR2.out) aS rfl eX;simp[results,Tryz.results125,asAddr,Act.put,hl]
   .obtain rfl:k=bn:=by omega
    have hl2:(eZ bs).length=k:=by rw[kQ,HLn.out]
    have HWK:=ac (HJ.out.walk hb2 HG.out hl2);have HGD:Hid (qC (eZ bs)=true):=by
     rw[Hid,jP,hl2];refine⟨⟨hb1,hb2⟩,λt ht=>?_⟩;obtain⟨q,hq,e⟩:=a8.1 ht;have:=HG.out q (by omega);rw[ax,au hq,dA,e] at this;exact this
    have HE:Hid (eqS (zS (gG (nx (eZ bs)) (fV k) 0)) (fV k)=gS (eZ bs)):=by
     rw[Hid,gS,HGD.out,cJ,hl2,cp];simp only[zS,eqS,bq,be,de,bZ];constructor
     .intro h q hq;have:=h q (by omega);by_cases e:q=0
      .exact .inl e
      .rw[aC e] at this;exact .inr (by rw[this];simpa[fV] using hq)
     .intro h q hq;by_cases e:q=0
      .subst e;simp[fV];omega
      .rw[aC e];by_cases hq2:q<k
       .rw[(h q hq2).resolve_left e];simp[fV,hq2]
       .have h1:fV k q=false:=by simp[fV];omega
        rw[h1];cases e2:gG (nx (eZ bs)) (fV k) 0 q with
        |false=>rfl
        |true=>
         have:=((AD (OY hb2) 0 q).1 e2).2.inn;rw[h1] at this;cases this
    have HC2:Hid (wr.cell? ⟨w.heap.size+1,2,none⟩=some (.slice (some ⟨TA,0,none⟩) k k)):=by rw[Hid,bd _ _ _ _ _ _ HJ.out.2.1];rfl
    have hszw:w.heap.size+1<wr.heap.size:=eT HJ.out.2.1;clear hl2;go_upto_region 19 with (fail)
    go_cut [9] (λs9 wx=>∃p9:Nat,s9=.pointer (some ⟨p9,0,none⟩)/\wr.heap.size<=p9/\Hid (wx.heap[p9]? =some (jZ (gG (nx (eZ bs)) (fV k) 0)))/\Hid (wx.heap[w.heap.size+1]? =some (oD ⟨pa,pn,pc,ba,k,bc,some ⟨TA,0,none⟩,k,some ⟨FA,0,none⟩,k⟩))/\Hid (Below wr.heap.size wr wx))
    case first=>
     refine kZ 7 [some 78,some 79,some 80,some 81,some 82,some 83,some 9] (by kernel_rfl) (by kernel_rfl) (jL [.val (gX ⟨pa,pn,pc,ba,k,bc,some ⟨TA,0,none⟩,k,some ⟨FA,0,none⟩,k⟩),.val (gX ⟨pa,pn,pc,ba,k,bc,some ⟨TA,0,none⟩,k,some ⟨FA,0,none⟩,k⟩),.val (.agg (eV (fV k))),.val (.pointer (some ⟨w.heap.size+1,2,none⟩)),.val (.slice (some ⟨TA,0,none⟩) k k),.val (.agg (eV (gG (nx (eZ bs)) (fV k) 0))),.new (jZ λ_=>false)]) (kC ?_) ?_ ?_
     .intro k hk;simp only[aH,a7,bW] at hk;rcases hk with rfl|rfl|rfl|rfl|rfl|rfl|rfl<;>try exact trivial
     .intro i hi ν lo hi' w1 K hB hD hK;have hcase:i=0\/i=1\/i=2\/i=3\/i=4\/i=5\/i=6:=by omega
      clear hi;rcases hcase with rfl|rfl|rfl|rfl|rfl|rfl|rfl
      .clear hD;refine eJ rfl rfl ?_;simp only[zA,zB,zC,zD,zE,zF,zJ,zK,zG,zH,zI] at hK|-;refine bX 201 _ rfl (w.heap.size+1) rfl 201 _ (0,0) _ (eB hB HJ.out.2.1) aS rfl eX ?_;exact hK _ _ (ao _ _) rfl
      .clear hD;refine eJ rfl rfl ?_;simp only[zA,zB,zC,zD,zE,zF,zJ,zK,zG,zH,zI] at hK|-;refine bX 201 _ rfl (w.heap.size+1) rfl 201 _ (0,0) _ (eB hB HJ.out.2.1) aS rfl eX ?_;exact hK _ _ (ao _ _) rfl
      .have e1:ν 1=(gX ⟨pa,pn,pc,ba,k,bc,some ⟨TA,0,none⟩,k,some ⟨FA,0,none⟩,k⟩):=hD 1 (by kernel_rfl);clear hD;refine eJ rfl rfl ?_;simp only[zA,zB,zC,zD,zE,zF,zJ,zK,zG,zH,zI,e1] at hK|-;go_simp;refine(IF ⟨pa,pn,pc,ba,k,bc,some ⟨TA,0,none⟩,k,some ⟨FA,0,none⟩,k⟩ hb2 w1).mono ?_;rintro e w3 ⟨rfl,hb3⟩;exact hK _ _ hb3 rfl
      .clear hD;refine eJ rfl rfl ?_;simp only[zA,zB,zC,zD,zE,zF,zJ,zK,zG,zH,zI] at hK|-;go_simp;exact hK _ _ (ao _ _) rfl
      .have e3:ν 3=(.pointer (some ⟨w.heap.size+1,2,none⟩)):=hD 3 (by kernel_rfl);clear hD;refine eJ rfl rfl ?_;simp only[zA,zB,zC,zD,zE,zF,zJ,zK,zG,zH,zI,e3] at hK|-;have q0:=eN hB HC2.out;go_simp;exact hK _ _ (ao _ _) rfl
      .have e0:ν 0=(gX ⟨pa,pn,pc,ba,k,bc,some ⟨TA,0,none⟩,k,some ⟨FA,0,none⟩,k⟩):=hD 0 (by kernel_rfl);have e2:ν 2=(.agg (eV (fV k))):=hD 2 (by kernel_rfl);have e4:ν 4=(.slice (some ⟨TA,0,none⟩) k k):=hD 4 (by kernel_rfl);clear hD;refine eJ rfl rfl ?_;simp only[zA,zB,zC,zD,zE,zF,zJ,zK,zG,zH,zI,e0,e2,e4] at hK|-;go_simp;refine(fg ⟨pa,pn,pc,ba,k,bc,some ⟨TA,0,none⟩,k,some ⟨FA,0,none⟩,k⟩ 0 (fV k) (some ⟨TA,0,none⟩) k k (uB (eZ bs)) (nx (eZ bs)) w1 (by omega) hb2 (λy hy=>by simpa[fV] using hy) (λk hk=>by simp[uB,kQ,HLn.out,hk]) (lP.nx_lt (w:=w) (d:=⟨pa,pn,pc,ba,k,bc,some ⟨TA,0,none⟩,k,some ⟨FA,0,none⟩,k⟩) HGD.out).1 (HWK.out.2.2.1.ext hB)).mono ?_;rintro e w3 ⟨rfl,hb3⟩;exact hK _ _ hb3 rfl
      .clear hD;refine eJ rfl rfl ?_;simp only[zA,zB,zC,zD,zE,zF,zJ,zK,zG,zH,zI] at hK|-;go_simp;refine hK _ _ (eD _ _) ⟨rfl,by simp,?_⟩;rw[ai,mE]
     .intro ν lo hi w1 hB hS hI hD;have e0:ν 0=(gX ⟨pa,pn,pc,ba,k,bc,some ⟨TA,0,none⟩,k,some ⟨FA,0,none⟩,k⟩):=hS 0 (by omega);have e1:ν 1=(gX ⟨pa,pn,pc,ba,k,bc,some ⟨TA,0,none⟩,k,some ⟨FA,0,none⟩,k⟩):=hS 1 (by omega);have e2:ν 2=(.agg (eV (fV k))):=hS 2 (by omega);have e3:ν 3=(.pointer (some ⟨w.heap.size+1,2,none⟩)):=hS 3 (by omega);have e4:ν 4=(.slice (some ⟨TA,0,none⟩) k k):=hS 4 (by omega);have e5:ν 5=(.agg (eV (gG (nx (eZ bs)) (fV k) 0))):=hS 5 (by omega);obtain⟨e6,l6,h6⟩:=hS 6 (by omega);clear hS;simp only[aj,ap,zA,zB,zC,zD,zE,zF,zJ,zK,zG,zH,zI,e0,e1,e2,e3,e4,e5,e6];have i6:=hI 6 (by omega);generalize lo 6=p9 at *;have H6:=ac h6;have hp9:=i6.1;have HBx:=ac (aA (g:=p9) hB hp9 (eV (gG (nx (eZ bs)) (fV k) 0)));clear hI hD hB e0 e1 e2 e3 e4 e5 e6 l6 h6 i6
      go_wp2_with (refine aU (o:=⟨none,.store 227 _ _,_,_,_,_⟩) rfl 227 _ _ rfl p9 (eV (gG (nx (eZ bs)) (fV k) 0)) rfl rfl 227 _ H6.out (by rw[fA];exact fD) rfl (lD _) ?_)
      go_meet
      exact⟨p9,rfl,hp9,aG _ _ _ _ _ _ H6.out,eB HBx.out HJ.out.2.1,HBx.out⟩
    case rest=>
     obtain⟨p9,rfl,hp9,HS0,HR0,HB0⟩:=hcut;have hc9:=mC HS0.out 0 (by omega);have hf9:=rW HS0.out 0;have hl9:=eT HS0.out;have HS:Hid ((wc.setCell ⟨p9,0,none⟩ (.bool true)).heap[p9]? =some (jZ (zS (gG (nx (eZ bs)) (fV k) 0)))):=KP HS0.out 0 (by omega) true;have hg9:=fL wc p9 0 (.bool true);have HR:=ac (fB hg9 HR0.out (by simp;omega));have HBs:=HB0.out.setCell (p:=⟨p9,0,none⟩) hp9 (.bool true);have HWK2:=ac (HWK.out.ext HBs);have HB:=ac (eA HJ.out.2.2.2.2.2.2 HBs);clear HC2 hg9 HBs HS0 HR0 HB0;generalize gG (nx (eZ bs)) (fV k) 0 0=b9 at hc9;go_upto_region 21 with (fail)
     obtain⟨W2,hW2⟩:∃W2,W2=wc.setCell ⟨p9,0,none⟩ (.bool true):=⟨_,rfl⟩
     rw[<-hW2] at HS HR HWK2 HB|-;clear hc9 hf9 hl9 hW2;refine kZ 6 [some 85,some 86,some 87,some 88,some 89,none] (by kernel_rfl) (by kernel_rfl) (jL [.val (gX ⟨pa,pn,pc,ba,k,bc,some ⟨TA,0,none⟩,k,some ⟨FA,0,none⟩,k⟩),.val (.agg (eV (zS (gG (nx (eZ bs)) (fV k) 0)))),.val (gX ⟨pa,pn,pc,ba,k,bc,some ⟨TA,0,none⟩,k,some ⟨FA,0,none⟩,k⟩),.val (.agg (eV (fV k))),.val (.bool (eqS (zS (gG (nx (eZ bs)) (fV k) 0)) (fV k))),(.any λ_ _ _ _=>True)]) (kC ?_) ?_ ?_
     .intro k hk;simp only[aH,a7,bW] at hk;rcases hk with rfl|rfl|rfl|rfl|rfl|rfl<;>try exact trivial
      .exact λ_ _ _ _ _ _ h=>h
     .intro i hi ν lo hi' w1 K hB hD hK;have hcase:i=0\/i=1\/i=2\/i=3\/i=4\/i=5:=by omega
      clear hi;rcases hcase with rfl|rfl|rfl|rfl|rfl|rfl
      .clear hD;refine eJ rfl rfl ?_;simp only[zA,zB,zC,zD,zE,zF,zJ,zK,zG,zH,zI] at hK|-;refine bX 201 _ rfl (w.heap.size+1) rfl 201 _ (0,0) _ (eB hB HR.out) aS rfl eX ?_;exact hK _ _ (ao _ _) rfl
      .clear hD;refine eJ rfl rfl ?_;simp only[zA,zB,zC,zD,zE,zF,zJ,zK,zG,zH,zI] at hK|-;refine bX 227 _ rfl p9 rfl 227 _ (0,0) _ (eB hB HS.out) bg rfl (by rw[fA];exact fD) ?_;exact hK _ _ (ao _ _) rfl
      .clear hD;refine eJ rfl rfl ?_;simp only[zA,zB,zC,zD,zE,zF,zJ,zK,zG,zH,zI] at hK|-;refine bX 201 _ rfl (w.heap.size+1) rfl 201 _ (0,0) _ (eB hB HR.out) aS rfl eX ?_;exact hK _ _ (ao _ _) rfl
      .have e2:ν 2=(gX ⟨pa,pn,pc,ba,k,bc,some ⟨TA,0,none⟩,k,some ⟨FA,0,none⟩,k⟩):=hD 2 (by kernel_rfl);clear hD;refine eJ rfl rfl ?_;simp only[zA,zB,zC,zD,zE,zF,zJ,zK,zG,zH,zI,e2] at hK|-;go_simp;refine(IF ⟨pa,pn,pc,ba,k,bc,some ⟨TA,0,none⟩,k,some ⟨FA,0,none⟩,k⟩ hb2 w1).mono ?_;rintro e w3 ⟨rfl,hb3⟩;exact hK _ _ hb3 rfl
      .have e1:ν 1=(.agg (eV (zS (gG (nx (eZ bs)) (fV k) 0)))):=hD 1 (by kernel_rfl);have e3:ν 3=(.agg (eV (fV k))):=hD 3 (by kernel_rfl);clear hD;refine eJ rfl rfl ?_;simp only[zA,zB,zC,zD,zE,zF,zJ,zK,zG,zH,zI,e1,e3] at hK|-;have heq:=BZ w1 (zS (gG (nx (eZ bs)) (fV k) 0)) (fV k);go_simp;exact hK _ _ (ao _ _) rfl
      .have e0:ν 0=(gX ⟨pa,pn,pc,ba,k,bc,some ⟨TA,0,none⟩,k,some ⟨FA,0,none⟩,k⟩):=hD 0 (by kernel_rfl);have e2:ν 2=(gX ⟨pa,pn,pc,ba,k,bc,some ⟨TA,0,none⟩,k,some ⟨FA,0,none⟩,k⟩):=hD 2 (by kernel_rfl);have e3:ν 3=(.agg (eV (fV k))):=hD 3 (by kernel_rfl);clear hD;refine eJ rfl rfl ?_;simp only[zA,zB,zC,zD,zE,zF,zJ,zK,zG,zH,zI,e0,e2,e3] at hK|-;have hr1:=eB hB HR.out;refine aE 201 _ _ rfl (w.heap.size+1) _ rfl rfl 201 _ hr1 eX rfl (by simp[Value.oneCell']) ?_;rw[setRow_self _ _ _ _ _ hr1];exact hK undef _ (ao _ _) trivial
     .intro ν lo hi w1 hB hS hI hD;have e0:ν 0=(gX ⟨pa,pn,pc,ba,k,bc,some ⟨TA,0,none⟩,k,some ⟨FA,0,none⟩,k⟩):=hS 0 (by omega);have e1:ν 1=(.agg (eV (zS (gG (nx (eZ bs)) (fV k) 0)))):=hS 1 (by omega);have e2:ν 2=(gX ⟨pa,pn,pc,ba,k,bc,some ⟨TA,0,none⟩,k,some ⟨FA,0,none⟩,k⟩):=hS 2 (by omega);have e3:ν 3=(.agg (eV (fV k))):=hS 3 (by omega);have e4:ν 4=(.bool (eqS (zS (gG (nx (eZ bs)) (fV k) 0)) (fV k))):=hS 4 (by omega);have e5:=hS 5 (by omega);unfold jL at e5;simp only[bw,bl,oE] at e5;clear hS;simp only[aj,ap,zA,zB,zC,zD,zE,zF,zJ,zK,zG,zH,zI,e0,e1,e2,e3,e4];have hB9:=eA HB.out hB;have hR9:=eB hB HR.out;have hW9:=HWK2.out.ext hB;clear hI hD hB e0 e1 e2 e3 e4 e5;go_wp2;refine aD (v:=.tuple #[gX ⟨pa,pn,pc,ba,k,bc,some ⟨TA,0,none⟩,k,some ⟨FA,0,none⟩,k⟩,.bool (eqS (zS (gG (nx (eZ bs)) (fV k) 0)) (fV k))]) ?_ rfl ⟨_,by rw[HE.out],rfl,by simp[Value.oneCell'],hB9,λ_=>⟨_,_,_,_,rfl,hW9⟩⟩;have hl:=cd (P:=Tryz.prog) _ (w.heap.size+1) 201 201 _ (0,0) _ hR9 aS rfl eX;simp[results,Tryz.results125,asAddr,Act.put,hl]
end
end Go.Proofs.YtchdkjenhppleaaGreat
