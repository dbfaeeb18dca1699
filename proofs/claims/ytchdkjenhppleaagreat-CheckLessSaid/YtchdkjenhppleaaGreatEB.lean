/-
 Tile:Fits,Own,Entries.
-/
import Derived.Test.YtchdkjenhppleaaGreatA0
import Derived.Test.YtchdkjenhppleaaGreatTI
import Derived.Test.YtchdkjenhppleaaGreatTJ
import Derived.Test.YtchdkjenhppleaaGreatTM
import Derived.Test.YtchdkjenhppleaaGreatKD
import Derived.Test.YtchdkjenhppleaaGreatPick
import Derived.Test.YtchdkjenhppleaaGreatTE
namespace Go.Proofs.YtchdkjenhppleaaGreat
set_option linter.unusedSimpArgs false
set_option linter.unusedVariables false
set_option linter.unusedSectionVars false
set_option maxRecDepth 100000
set_option maxHeartbeats 40000000
section
open Go.RowKit Go.Shelf
attribute [local go_sem] Oper.semAt_some iB fS gP fH
abbrev MR:Obj:=.cells #[sM,sM,sM,sM] 201
theorem sE(pa:Option Addr)(pn pc:Nat)(ba:Option Addr)(bn bc:Nat)(bs:List jU)(w:World)(h:iP w ba bn bs):
  Calls Tryz.prog 84 #[kF pa pn pc ba bn bc] w λe w'=>e=.returned (.bool (gS (eZ bs)))/\Below w.heap.size w w':=by
 have H:=ac h
 clear h
 go_enter Tryz.func84,Tryz.ntmps84
 go_upto_region 1 with (fail)
 obtain⟨W,hW⟩:∃W,W=w.alloc (gH pa pn pc ba bn bc):=⟨_,rfl⟩
 rw[<-hW]
 have hk0:W.heap[w.heap.size]? =some (gH pa pn pc ba bn bc):=by rw[hW];exact ai _ _
 have hB:Below w.heap.size w W:=by rw[hW];exact eD _ _
 have HK:=ac hk0
 have HB:=ac hB
 clear hW hk0 hB
 go_wp2_with (first
  |(refine ay (o:=⟨some 6,.load 47 _,_,_,_,_⟩) rfl 47 _ rfl w.heap.size rfl 47 _ (0,0) _ HK.out bj rfl fY ?_)
  |(go_at_call 125
    refine(uH pa pn pc ba bn bc bs W (H.out.ext HB.out)).mono ?_;rintro e w2 ⟨cs,rfl,hcs,hall,hb,hokk⟩;have HB2:=ac (eA HB.out hb);have HCS:=ac hcs;have HALL:=ac hall
    clear hb hokk hcs hall)
  |(refine aU rfl 201 _ _ rfl w2.heap.size cs rfl rfl 201 _ (ai w2 MR) (by rw[HCS.out];exact eX) (by rw[HCS.out];rfl) HALL.out ?_))
 go_ret
 exact⟨rfl,aA (HB2.out.alloc HB2.out.size _) HB2.out.size _⟩
def ki(ts:List fC)(l:List eW)(n:Nat)(w:World)(e:Ending)(w':World):Prop:=
 ∃v en,e=.returned (.tuple #[v,.int .i64 en])/\Below w.heap.size w w'/\(gS ts=false->v=sM/\en=2)/\(gS ts=true->kO l n=false->v=sM/\en=12)/\
  (gS ts=true->kO l n=true->en=0/\∃g c,v=.slice (some ⟨g,0,none⟩) n c/\fQ w' w.heap.size v (wA l n))
theorem pY{ts:List fC}(h:gS ts=true):qC ts=true:=by simp only[gS,az] at h;exact h.1
theorem ft(pa:Option Addr)(pn pc:Nat)(ba:Option Addr)(bn bc:Nat)(bs:List jU)(a:Option Addr)(n c:Nat)(ls:List lI)(w:World)(h:iP w ba bn bs)(ht:jW w a n ls):
  Calls Tryz.prog 153 #[kF pa pn pc ba bn bc,.slice a n c] w (ki (eZ bs) (eM ls) bn w):=by
 have H:=ac h
 have HT:=ac ht
 clear h ht
 go_enter Tryz.func153,Tryz.ntmps153
 go_upto_region 1 with (fail)
 obtain⟨W,hW⟩:∃W,W=w.alloc (gH pa pn pc ba bn bc):=⟨_,rfl⟩
 rw[<-hW]
 have hk0:W.heap[w.heap.size]? =some (gH pa pn pc ba bn bc):=by rw[hW];exact ai _ _
 have hB:Below w.heap.size w W:=by rw[hW];exact eD _ _
 have HK:=ac hk0
 have HB:=ac hB
 clear hW hk0 hB
 cases hf:gS (eZ bs) with
 |false=>
  have HF:=ac hf;clear hf
  go_wp2_with (first
   |(refine ay (o:=⟨some 10,.load 47 _,_,_,_,_⟩) rfl 47 _ rfl w.heap.size rfl 47 _ (0,0) _ HK.out bj rfl fY ?_)
   |(go_at_call 125
     refine(uH pa pn pc ba bn bc bs W (H.out.ext HB.out)).mono ?_;rintro e w2 ⟨cs,rfl,hcs,hall,hb,hokk⟩;rw[HF.out];have HB2:=ac (eA HB.out hb);have HCS:=ac hcs;have HALL:=ac hall
     clear hb hokk hcs hall)
   |(refine aU rfl 201 _ _ rfl w2.heap.size cs rfl rfl 201 _ (ai w2 MR) (by rw[HCS.out];exact eX) (by rw[HCS.out];rfl) HALL.out ?_))
  exact aD (v:=.tuple #[sM,.int .i64 2]) (by simp[results,Tryz.results153,go_sem,Act.put]) rfl ⟨_,_,rfl,aA (HB2.out.alloc HB2.out.size _) HB2.out.size _,λ_=>⟨rfl,rfl⟩,(λh=>by rw[HF.out] at h;cases h),(λh=>by rw[HF.out] at h;cases h)⟩
 |true=>
  have HF:=ac hf;have hgood:=(jP _).1 (pY hf);have hbn:(eZ bs).length=bn:=by rw[kQ];exact H.out.1.1
  have hbn1:1<=bn:=by rw[<-hbn];exact hgood.1.1
  have hbn2:bn<=200:=by rw[<-hbn];exact hgood.1.2
  clear hf hgood hbn
  go_upto_region 4 with (first
   |(refine ay (o:=⟨some 10,.load 47 _,_,_,_,_⟩) rfl 47 _ rfl w.heap.size rfl 47 _ (0,0) _ HK.out bj rfl fY ?_)
   |(go_at_call 125
     refine(uH pa pn pc ba bn bc bs W (H.out.ext HB.out)).mono ?_;rintro e w2 ⟨cs,rfl,hcs,hall,hb,hokk⟩;rw[HF.out];obtain⟨ta,tc,fa,fc,hcv,hwk⟩:=hokk HF.out;injection hcv with hcv;subst hcv;have HB2:=ac (eA HB.out hb);have HWK:=ac hwk
     clear hb hokk hcs hall hwk)
   |(refine aU rfl 201 _ _ rfl w2.heap.size #[.slice pa pn pc,.slice ba bn bc,.slice ta bn tc,.slice fa bn fc] rfl rfl 201 _ (ai w2 MR) eX rfl rfl ?_))
  obtain⟨W3,hW3⟩:∃W3,W3=w2.alloc (oD ⟨pa,pn,pc,ba,bn,bc,ta,tc,fa,fc⟩):=⟨_,rfl⟩
  rw[<-hW3];have hw3:W3.heap[w2.heap.size]? =some (oD ⟨pa,pn,pc,ba,bn,bc,ta,tc,fa,fc⟩):=by rw[hW3];exact ai _ _
  have HW3:=ac hw3;have HB3':Below w2.heap.size w2 W3:=by rw[hW3];exact eD _ _
  have HB3:=ac (eA HB2.out HB3');have HWK3:=ac (HWK.out.ext HB3');clear hW3 hw3 HB3' HWK HB2
  go_upto_region 5 with (first
   |(refine ay (o:=⟨some 16,.load 201 _,_,_,_,_⟩) rfl 201 _ rfl w2.heap.size rfl 201 _ (0,0) _ HW3.out aS rfl eX ?_)
   |(go_at_call 164
     refine(UR ⟨pa,pn,pc,ba,bn,bc,ta,tc,fa,fc⟩ hbn1 hbn2 a n c ls W3 (HT.out.ext HB3.out)).mono ?_;rintro e w4 ⟨v,rfl,hb4,ho1,ho2⟩;have HB4:=ac (eA HB3.out hb4);have HO1:=ac ho1;have HO2:=ac ho2;have hsz:=HB3.out.size
     clear hb4 ho1 ho2))
  cases hob:kO (eM ls) bn with
  |false=>
   have hv:v=sM:=HO2.out hob;subst hv;have HOB:=ac hob;clear hob HO1 HO2;have hq:=λw n c n' c'=>cE (P:=Tryz.prog) w 22 3 none n c n' c' aQ;go_wp2;exact aD (v:=.tuple #[sM,.int .i64 12]) (by simp[results,Tryz.results153,go_sem,Act.put]) rfl ⟨_,_,rfl,HB4.out,(λh=>by rw[HF.out] at h;cases h),λ_ _=>⟨rfl,rfl⟩,(λ_ h=>by rw[HOB.out] at h;cases h)⟩
  |true=>
   obtain⟨g,cc,rfl,ho⟩:=HO1.out hob;have HOB:=ac hob;have HO:=ac ho;clear hob HO1 HO2 ho;have hq:=λw n c n' c'=>cE (P:=Tryz.prog) w 22 3 (some ⟨g,0,none⟩) n c n' c' aQ;go_wp2;exact aD (v:=.tuple #[.slice (some ⟨g,0,none⟩) bn cc,.int .i64 0]) (by simp[results,Tryz.results153,go_sem,Act.put]) rfl ⟨_,_,rfl,HB4.out,(λh=>by rw[HF.out] at h;cases h),(λ_ h=>by rw[HOB.out] at h;cases h),λ_ _=>⟨rfl,g,cc,rfl,HO.out.mono hsz⟩⟩
end

section
open Go.RowKit Go.Shelf
attribute [local go_sem] Oper.semAt_some iB fS gP fH
def csE(x:gQ):List Value:= [.int .i64 x.fr,.int .i64 x.arm,.int .i64 x.to]
abbrev nm(w:World)(base:Nat)(v:Value)(l:List gQ):Prop:=jE 113 3 csE w base v l
theorem pk:(Tryz.prog.info? 113).map (λi=>(i.zero,i.size,i.bytes))=some (some (.agg #[.int .i64 0,.int .i64 0,.int .i64 0]),3,24):=by kernel_rfl
def AV(w:World)(l:List gQ)(e:Ending)(w':World):Prop:=∃v,e=.returned v/\nm w' w.heap.size v l/\Below w.heap.size w w'
def AJE(w:World)(B base:Nat)(xs:List gQ)(W:World):Prop:=
 ∃v,W.heap[B]? =some (.cells #[v] 107 (0,0))/\nm W base v xs/\v.ownBlock≠some B/\Below w.heap.size w W/\w.heap.size<W.heap.size
theorem AJE.steady{w:World}{B base:Nat}{xs:List gQ}{D:Nat}(hD:w.heap.size<=D):eI D (AJE w B base xs):=by
 unfold AJE
 exact eI.ex λv=>(eI.block _ _ rfl).and ((eI.ownR _ _ _ _).and ((eI.pure _ _).and ((eI.below (aw _) hD).and (eI.size _ _))))
theorem GC(gf:Nat)(lb:Array Value)(l:List gQ)(w:World)(eg:∀args w,(callFunc gf args).run Tryz.prog w=.ok (.enter gf args) w)(hit:sQ Tryz.prog gf lb CJ l (λW=>Below w.heap.size w W))(hl:l.length<=1000000):
  Calls Tryz.prog 126 #[.slice none 0 0,.func (.func gf) #[] lb] w (AV w l):=by
 refine(br (n:=0)).1 ?_
 refine cA Tryz.func126 rfl trivial ?_
 simp only[Tryz.ntmps126,bL,aN,aV,Nat.reduceAdd,Nat.reduceSub,bC,bD,bM,bG,bH,bJ]
 have HIT:=ac hit
 clear hit
 gi_wp2
 refine tH (ps:=#[7]) (gf:=gf) (lb:=lb) (enc:=CJ) (l:=l) rfl eg (λW=>Below w.heap.size w W) HIT.out (λ_=>rfl)
  (λd r W=>Hid (AJE w w.heap.size w.heap.size d W))
  (λ_ _=>False)
  (λd r=>AJE.steady (by simp)) (λc=>eI.pure _ _) (λd r W h=>by obtain⟨v,_,_,_,hb,_⟩:=h.out;exact hb)
  (TV w.heap.size 107) ?t0 ?tg ?start ?round ?done ?stop
 case t0=>
  intro d r W k h ht;obtain⟨v,hv,ho,_,_,h1⟩:=h.out;rcases ht with rfl|⟨u,hu,hk⟩
  .exact h1
  .rw[hv] at hu;simp only[bv,Obj.cells.injEq,Array.mk.injEq,dr,and_true] at hu;subst hu;exact(ho.low hk).2
 case tg=>
  rintro W W' row hg hr ⟨d,r,h⟩ k ht;obtain⟨v,hv,_⟩:=h.out;refine ht.ext (hg.block _ (am.1 hv).1 λe=>?_);obtain⟨_,o,ho,hb⟩:=hr _ e.symm;rw[hv] at ho;cases ho;cases hb
 case start=>exact⟨_,ai _ _,jE.nil _ _ _ _ _,by simp[Value.ownBlock],(ao _ w).alloc (aw _) _,by simp⟩
 case round=>
  rintro lp d x r W hd hJ;unfold CJ
  gi_wp2
  obtain⟨v1,hv1,ho1,hne1,hb1,hlt1⟩:=hJ.out;have hbW:Below W.heap.size W (W.alloc (.cells #[.int .i64 x.fr,.int .i64 x.arm,.int .i64 x.to] 113)):=eD _ _;refine⟨gO.ext hbW,(AJE.steady (aw _)).ext hJ hbW,sF hlt1 hbW,λW2=>W2.heap[W.heap.size]? =some (.cells #[.int .i64 x.fr,.int .i64 x.arm,.int .i64 x.to] 113 (0,0)),eI.block _ _ rfl,ai _ _,?_⟩;generalize W.heap.size=g at *;clear hv1 ho1 hne1 hb1 hlt1 hbW hJ lp;rintro lp W2 hJ hG;obtain⟨v,hv,ho,hne,hb,hlt0⟩:=hJ.out;obtain⟨av,cv,rfl⟩:=ho.form;obtain⟨hc0,hf0⟩:=cz 0 hv rfl;obtain⟨hg0,hg1,hg2⟩:=tY hG rfl;have HO:=ac ho;have HV:=ac hv;have HB:=ac hb;have HNE:=ac hne;have hlen:d.length<=1000000:=by rw[hd] at hl;simp at hl;omega
  clear hv ho hb hJ hne hG
  gi_wp2_with (
   (gi_at_builtin
    refine vL (by repeat (first|exact jX|refine lF ?_|refine jY ?_)) _ _ _ rfl ?_;refine fN rfl W2 (.tmp 8) (.tmp 10) 107 113 rfl w.heap.size _ 3 24 Tryz.underlying107 pk rfl (by omega) (.slice av d.length cv) d.length _ (csE x) rfl HO.out.1 W2.heap.size rfl rfl rfl (by simp[csE,Value.oneCell']) (by simp only[maxLen];omega) (by omega) (by omega) ?_;intro g2 cap w2 hown2 hgr2 hat2;have HO2:=ac hown2;have HG2:=ac hgr2;have HA2:=ac hat2;have hv2:=fB hgr2 HV.out HNE.out;obtain⟨hc2,hf2⟩:=cz 0 hv2 rfl;have hlt2:w.heap.size<w2.heap.size:=(am.1 hv2).1;have HV2:=ac hv2
    clear hown2 hgr2 hat2 hv2 hc0 hf0))
  go_wp2;have hb2:Below w.heap.size w w2:=HB.out.grown HG2.out HB.out.size (λk e=>(HO.out.low e).1);have hgne:g2≠w.heap.size:=by
   rcases HA2.out with h|h
   .exact λe=>HNE.out (by rw[<-h,e])
   .omega
  have hB2:=aO w2 w.heap.size 0 _ _ (.slice (some ⟨g2,0,none⟩) (d.length+1) cap) HV2.out;simp only[ae,ag] at hB2;refine⟨(gO.grown HG2.out (tB HO.out.1)).trans (gO.setCell _ _ _),⟨_,hB2,?_,by simpa[Value.ownBlock] using hgne,?_⟩,?_⟩
  .refine jE.kept (row:=some w.heap.size) (w:=w2) ⟨?_,by simp;omega⟩ (fL w2 w.heap.size 0 _) (.inr (by simp[Value.ownBlock];omega));have:=HO2.out;simpa[cB] using this
  .exact⟨hb2.setCell (aw _) _,by simpa using hlt2⟩
  .refine KO HV.out hB2 (by simpa using HG2.out.size) (λk hk hkB hkv=>?_) (λk hk=>?_)
   .rw[bf _ _ _ _ (λe=>hkB e),HG2.out.block k hk (λe=>hkv e.symm)]
   .simp only[Value.ownBlock,bv] at hk;subst hk;rcases HA2.out with h|h
    .exact .inl h.symm
    .exact .inr (by omega)
 case done=>
  rintro D W hD hJ hK;obtain⟨v,hv,ho,hne,hb,hlt0⟩:=hJ.out;obtain⟨av,cv,rfl⟩:=ho.form;have hc0:=cK 0 hv rfl;have HO:=ac ho;have HB:=ac hb;have HJ:=hJ;clear hv ho hb hJ hne
  gi_wp2
  obtain⟨v2,hv2,ho2,_,hb2,_⟩:=(AJE.steady (w:=w) (B:=w.heap.size) (base:=w.heap.size) (xs:=l) (D:=w.heap.size) (aw _)).put (.deferred none) (l:=D) HJ.out (by simp at hD;omega) hK rfl;refine⟨by simp,.inl ⟨_,_,rfl,cI hK,?_⟩⟩;have ho3:nm (W.putObj D (.deferred none)) w.heap.size (.slice av l.length cv) l:=(eI.ownR w.heap.size w.heap.size (.slice av l.length cv) l).put (.deferred none) (l:=D) HO.out (by simp at hD;omega) hK rfl;exact⟨.slice av l.length cv,by simp[results,Tryz.results126,go_sem],_,rfl,ho3,hb2⟩
 case stop=>rintro D c W hD h;exact h.elim
theorem MH(gf:Nat)(lb:Array Value)(l:List gQ)(w:World)(eg:∀args w,(callFunc gf args).run Tryz.prog w=.ok (.enter gf args) w)(hit:sQ Tryz.prog gf lb CJ l (λW=>Below w.heap.size w W))(hl:l.length<=1000000):
  Calls Tryz.prog 85 #[.func (.func gf) #[] lb] w (AV w l):=by
 have HIT:=ac hit
 have EG:=ac eg
 clear hit eg
 go_enter Tryz.func85,Tryz.ntmps85
 go_wp2_with (go_at_call 126;refine(GC gf lb l w EG.out HIT.out hl).mono ?_;rintro e w' ⟨v,rfl,ho,hb⟩;have HO:=ac ho;have HB:=ac hb;clear ho hb)
 go_ret
 exact⟨_,rfl,HO.out,HB.out⟩
theorem CA(args:Array Value)(w:World):(callFunc 127 args).run Tryz.prog w=.ok (.enter 127 args) w:=cQ Tryz.func127 (by kernel_rfl) rfl args w
theorem OS(pa:Option Addr)(pn pc:Nat)(ba:Option Addr)(bn bc:Nat)(bs:List jU)(w:World)(h:iP w ba bn bs):
  Calls Tryz.prog 48 #[kF pa pn pc ba bn bc] w (AV w (GI (eZ bs))):=by
 have H:=ac h
 clear h
 go_enter Tryz.func48,Tryz.ntmps48
 go_upto_region 1 with (fail)
 obtain⟨W,hW⟩:∃W,W=w.alloc (gH pa pn pc ba bn bc):=⟨_,rfl⟩
 rw[<-hW]
 have hk0:W.heap[w.heap.size]? =some (gH pa pn pc ba bn bc):=by rw[hW];exact ai _ _
 have hB:Below w.heap.size w W:=by rw[hW];exact eD _ _
 have HK:=ac hk0
 have HB:=ac hB
 clear hW hk0 hB
 cases hf:gS (eZ bs) with
 |false=>
  have HF:=ac hf;clear hf
  go_wp2_with (first
   |(refine ay (o:=⟨some 3,.load 47 _,_,_,_,_⟩) rfl 47 _ rfl w.heap.size rfl 47 _ (0,0) _ HK.out bj rfl fY ?_)
   |(go_at_call 84
     refine(sE pa pn pc ba bn bc bs W (H.out.ext HB.out)).mono ?_;rintro e w2 ⟨rfl,hb⟩;rw[HF.out];have HB2:=ac (eA HB.out hb)
     clear hb))
  go_ret
  exact⟨_,rfl,by rw[GI,HF.out];exact jE.nil _ _ _ _ _,HB2.out⟩
 |true=>
  have HF:=ac hf;have hbn:(eZ bs).length<=200:=((jP _).1 (pY hf)).1.2;clear hf
  go_wp2_with (first
   |(refine ay (o:=⟨some 3,.load 47 _,_,_,_,_⟩) rfl 47 _ rfl w.heap.size rfl 47 _ (0,0) _ HK.out bj rfl fY ?_)
   |(go_at_call 85
     refine(MH _ _ (sP (eZ bs)) _ CA ((yZ pa pn pc ba bn bc bs w2.heap.size).mono λW' hb'=>⟨eB hb' (ai _ _),(H.out.ext (eA HB2.out (eD w2 _))).ext hb'⟩) (by have:=FK (eZ bs);omega)).mono ?_;rintro e w3 ⟨v,rfl,ho,hb⟩;have hsz:=HB2.out.size;have HO:=ac (ho.mono (base':=w.heap.size) (by simp;omega));have HB3:=ac (eA HB2.out (eA (eD w2 _) hb))
     clear ho hb hsz)
   |(go_at_call 86
     refine(FM pa pn pc ba bn bc w2).mono ?_
     rintro e w3 ⟨rfl,rfl⟩)
   |(refine ay (o:=⟨some 6,.load 47 _,_,_,_,_⟩) rfl 47 _ rfl w.heap.size rfl 47 _ (0,0) _ HK2.out bj rfl fY ?_)
   |(go_at_call 84
     refine(sE pa pn pc ba bn bc bs W (H.out.ext HB.out)).mono ?_;rintro e w2 ⟨rfl,hb⟩;rw[HF.out];have HK2:=ac (eB hb HK.out);have HB2:=ac (eA HB.out hb)
     clear hb))
  go_ret
  exact⟨_,rfl,by rw[GI,HF.out];exact HO.out,HB3.out⟩
end
end Go.Proofs.YtchdkjenhppleaaGreat
