/-
 Edge:rows.
-/
import Derived.Test.YtchdkjenhppleaaGreatA0
import Derived.Test.YtchdkjenhppleaaGreatFreeL
namespace Go.Proofs.YtchdkjenhppleaaGreat
set_option linter.unusedSimpArgs false
set_option linter.unusedVariables false
set_option linter.unusedSectionVars false
set_option maxRecDepth 100000
set_option maxHeartbeats 40000000
section
open Go.RowKit Go.Shelf
attribute [local go_sem] Oper.semAt_some iB fS gP fH
def uI(ts:List fC)(l:List eW)(ask:gQ->Bool)(w:World)(e:Ending)(w':World):Prop:=
 ∃v,e=.returned (.tuple #[v,.int .i64 (kG ts l)])/\Below w.heap.size w w'/\(fE ts l=false->v=.slice none 0 0)/\(fE ts l=true->∃hs,RowsIn w' w.heap.size v hs/\hs.map (·.r)=m5 ts l ask)
abbrev nl(af:Nat)(ab:Array Value):Obj:=.cells #[.func (.func af) ab #[]] 155
theorem RJ.skip{w1:World}{B:Nat}{l:List eW}{ask:gQ->Bool}{d:List gQ}{x:gQ}{W:World}(h:RJ w1 B l ask d W)(hx:xN l ask x=false):RJ w1 B l ask (d++ [x]) W:=by
 obtain⟨v,hs,h1,h2,h3,h4⟩:=h
 refine⟨v,hs,h1,h2,?_,h4⟩
 rw[BL,hx,h3]
 simp
theorem pW(w:World)(o1 o2 o3:Obj):Below w.heap.size w (((w.alloc o1).alloc o2).alloc o3):=(((ao _ w).alloc (aw _) _).alloc (by simp) _).alloc (by simp;omega) _
theorem gk(pa:Option Addr)(pn pc:Nat)(ba:Option Addr)(bn bc:Nat)(bs:List jU)(a:Option Addr)(n c:Nat)(ls:List lI)(af:Nat)(ab:Array Value)(eF:∀args w,(callFunc af args).run Tryz.prog w=.ok (.enter af args) w)(ask:gQ->Bool)(w:World)(h:iP w ba bn bs)(ht:jW w a n ls)(hT:zR (eM ls)<=1000000)
  (hp:∀(x:gQ) (W:World) (base:Nat) (v:Value),x∈GI (eZ bs)->mU W base (eM ls) bn a n c v->Calls Tryz.prog af (ab++ #[v,BB x]) W λe W'=>e=.returned (.bool (ask x))/\Below W.heap.size W W'):
  Calls Tryz.prog 82 #[kF pa pn pc ba bn bc,.slice a n c,.func (.func af) ab #[]] w (uI (eZ bs) (eM ls) ask w):=by
 have H:=ac h
 have HT:=ac ht
 have HP:=ac hp
 have EF:=ac eF
 clear h ht hp
 refine(br (n:=0)).1 ?_
 refine cA Tryz.func82 rfl trivial ?_
 simp only[Tryz.ntmps82,bL,aN,aV,Nat.reduceAdd,Nat.reduceSub,bC,bD,bM,bG,bH,bJ]
 cases hr:fE (eZ bs) (eM ls) with
 |false=>
  have HR:=ac hr;have HE:Hid (kG (eZ bs) (eM ls)≠0):=by
   simp only[Hid,kG,hr]
   split<;>simp
  clear hr
  gi_wp2_with (
   (gi_at_call 122
    refine(br.2 (IV pa pn pc ba bn bc bs a n c ls _ (H.out.ext (pW w _ _ _)) (HT.out.ext (pW w _ _ _)) hT)).mono ?_;rintro e w2 ⟨cs,rfl,_,_,hb,h0,_⟩;obtain rfl:=h0 HR.out;have hx2:w2.heap[w.heap.size+1+1]? =some (.cells #[.slice none 0 0] 104 (0,0)):=(by have:=eB hb (ai _ _);simpa using this)
    obtain⟨c6,f6⟩:=cz 0 hx2 rfl;have hsz:w.heap.size+1+1<w2.heap.size:=(by have:=hb.size;simp at this;omega)
    have HB2:Hid (Below w.heap.size w w2):=((pW w _ _ _).trans (hb.mono (by simp;omega)))
    have he:(kG (eZ bs) (eM ls) != 0)=true:=(by simpa using HE.out)
    generalize hE:kG (eZ bs) (eM ls)=er at*
    clear hb h0))
  have hx9:=eB (eD _ (.cells #[.slice none 0 0,.slice none 0 0,.map none] 154)) (aO w2 (w.heap.size+1+1) 0 _ _ (.slice none 0 0) hx2);have hB9:Below w.heap.size w ((w2.setCell ⟨w.heap.size+1+1,0,none⟩ (.slice none 0 0)).alloc (.cells #[.slice none 0 0,.slice none 0 0,.map none] 154)):=eA (HB2.out.setCell (by show w.heap.size<=w.heap.size+1+1;omega) _) (eD _ _);generalize ((w2.setCell ⟨w.heap.size+1+1,0,none⟩ (.slice none 0 0)).alloc (.cells #[.slice none 0 0,.slice none 0 0,.map none] 154))=W9 at *;have c9:=cK 0 hx9 rfl;exact⟨.tuple #[.slice none 0 0,.int .i64 er],by simp[results,Tryz.results82,go_sem,asAddr,c9],_,by rw[hE],hB9,λ_=>rfl,λh=>by rw[HR.out] at h;cases h⟩
 |true=>
  have HR:=ac hr;have HE:Hid (kG (eZ bs) (eM ls)=0):=by simp[Hid,kG,sY hr,hr]
  clear hr
  gi_wp2_with (first
   |(gi_at_call 86
     refine(br.2 (FM pa pn pc ba bn bc _)).mono ?_
     rintro e w3 ⟨rfl,rfl⟩)
   |(gi_at_call 122
     refine(br.2 (IV pa pn pc ba bn bc bs a n c ls _ (H.out.ext (pW w _ _ _)) (HT.out.ext (pW w _ _ _)) hT)).mono ?_;rintro e w2 ⟨cs,rfl,_,_,hb,_,hok⟩;rw[HE.out];have hk2:w2.heap[w.heap.size]? =some (gH pa pn pc ba bn bc):=(by have:=eB hb (eB (eA (eD _ _) (eD _ _)) (ai w (gH pa pn pc ba bn bc)));simpa using this)
     have hp2:w2.heap[w.heap.size+1]? =some (nl af ab):=(by have:=eB hb (eB (eD _ _) (ai (w.alloc (gH pa pn pc ba bn bc)) (nl af ab)));simpa using this)
     have hx2:w2.heap[w.heap.size+1+1]? =some (.cells #[.slice none 0 0] 104 (0,0)):=(by have:=eB hb (ai _ _);simpa using this)
     obtain⟨k0,k1⟩:=qR hk2 rfl;have hsz:w.heap.size+1+1<w2.heap.size:=(by have:=hb.size;simp at this;omega)
     have hsz0:w.heap.size<w2.heap.size:=(by omega)
     have HB2:Hid (Below w.heap.size w w2):=((pW w _ _ _).trans (hb.mono (by simp;omega)))
     have HP2:=ac hp2;have HX2:=ac hx2;have har:=hok HR.out;have har2:=har;obtain⟨g,cc,M,ecs,_⟩:=har2;injection ecs with ecs;subst ecs;have HAR:=ac har;clear har
     clear hb hok hk2 hp2 hx2))
  obtain⟨W1,hW1⟩:∃W1,W1=(w2.alloc (kH a n c (.slice (some ⟨g,0,none⟩) bn cc) (some M))).alloc (gH pa pn pc ba bn bc):=⟨_,rfl⟩
  rw[<-hW1];have hb12:Below w2.heap.size w2 W1:=by rw[hW1];exact eA (eD _ _) (eD _ _)
  have ha1:W1.heap[w2.heap.size]? =some (kH a n c (.slice (some ⟨g,0,none⟩) bn cc) (some M)):=by rw[hW1];exact eB (eD _ _) (ai _ _)
  have hg1:W1.heap[w2.heap.size+1]? =some (gH pa pn pc ba bn bc):=by rw[hW1];have:=ai (w2.alloc (kH a n c (.slice (some ⟨g,0,none⟩) bn cc) (some M))) (gH pa pn pc ba bn bc);simpa using this
  have hs1:W1.heap.size=w2.heap.size+1+1:=by rw[hW1];simp
  have hp1:=eB hb12 HP2.out;have hx1:=eB hb12 HX2.out;have har1:=HAR.out.ext hb12;have hb1:=eA HB2.out hb12;generalize w2.heap.size=ga at *;have hbase:w.heap.size+1+1<(((w.alloc (.cells #[.slice pa pn pc,.slice ba bn bc] 47)).alloc (.cells #[.func (.func af) ab #[]] 155)).alloc (.cells #[.slice none 0 0] 104)).heap.size:=by simp
  generalize hbs:(((w.alloc (.cells #[.slice pa pn pc,.slice ba bn bc] 47)).alloc (.cells #[.func (.func af) ab #[]] 155)).alloc (.cells #[.slice none 0 0] 104)).heap.size=base at *;have HA1:=ac ha1;have HG1:=ac hg1;have HP1:=ac hp1;have HX1:=ac hx1;have HAR1:=ac har1;have HB1:=ac hb1;have HB12:=ac hb12;have HS1:=ac hs1;clear hW1 hb12 ha1 hg1 hp1 hx1 har1 hb1 hs1 HP2 HX2 HAR HB2 k0 k1 hbs;have hbl:(eZ bs).length=bn:=by rw[kQ];exact H.out.1.1
  have hlen:(sP (eZ bs)).length<=400:=by
   have h1:=FK (eZ bs);have:=((jP _).1 (pY (sY HR.out))).1.2;omega
  have hBW:w.heap.size+1+1<W1.heap.size:=by have:=HS1.out;omega
  refine tH (ps:=#[22]) (gf:=127) (lb:=#[.pointer (some ⟨ga+1,0,none⟩)]) (enc:=CJ) (l:=sP (eZ bs)) rfl CA _ (yZ pa pn pc ba bn bc bs (ga+1)) (λ_=>rfl)
   (λd r W=>Hid (RJ W1 (w.heap.size+1+1) (eM ls) ask d W)) (λ_ _=>False) (λd r=>RJ.steady (aw _)) (λc=>eI.pure _ _) ?inv (TV (w.heap.size+1+1) 104) ?t0 ?tg ?start ?round ?done ?stop
  case inv=>
   intro d r W h;obtain⟨v,hs,_,_,_,hgr,_⟩:=h.out;refine⟨(hgr.block _ (by have:=HS1.out;omega) (λe=>by injection e with e;omega)).trans HG1.out,H.out.ext (HB1.out.grown hgr HB1.out.size (λq e=>by injection e with e;omega))⟩
  case t0=>
   intro d r W k h ht;obtain⟨v,hs,hv,ho,_,hgr,h1⟩:=h.out;rcases ht with rfl|⟨u,hu,hk⟩
   .exact(am.1 hv).1
   .rw[hv] at hu;simp only[bv,Obj.cells.injEq,Array.mk.injEq,dr,and_true] at hu;subst hu;exact(ho.1.low hk).2
  case tg=>
   rintro W W' row hg hr ⟨d,r,h⟩ k ht;obtain⟨v,hs,hv,_⟩:=h.out;refine ht.ext (hg.block _ (am.1 hv).1 λe=>?_);obtain⟨_,o,ho,hb⟩:=hr _ e.symm;rw[hv] at ho;cases ho;cases hb
  case start=>exact⟨_,[],HX1.out,RowsIn.nil _ _,rfl,oN _ _,hBW⟩
  case round=>
   rintro lp d x r W hd hJ;unfold CJ
   gi_wp2
   obtain⟨v1,hs1,hv1,ho1,hm1,hgr1,hlt1⟩:=hJ.out;have hvl:=(am.1 hv1).1;have hbW:Below W.heap.size W (W.alloc (.cells #[.int .i64 x.fr,.int .i64 x.arm,.int .i64 x.to] 113)):=eD _ _;refine⟨gO.ext hbW,(RJ.steady (aw _)).ext hJ hbW,sF hvl hbW,λW2=>W2.heap[W.heap.size]? =some (po x)/\W1.heap.size<=W.heap.size,(eI.block _ _ rfl).and (eI.pure _ _),⟨ai _ _,hgr1.size⟩,?_⟩;generalize W.heap.size=ge at *;clear hv1 ho1 hm1 hgr1 hlt1 hvl hbW hJ lp;rintro lp W2 hJ ⟨hG,hge⟩;have hxm:x∈GI (eZ bs):=by
    rw[GI,aX (sY HR.out),hd];simp
   have hxb:=kg hxm;obtain⟨fr,arm,tt⟩:=x;simp only at hxb;obtain⟨i,rfl⟩:∃i:Nat,fr=i:=⟨fr.toNat,by omega⟩
   obtain⟨j,rfl⟩:∃j:Nat,tt=j:=⟨tt.toNat,by omega⟩
   have HXM:=ac hxm;have hin:i<bn:=by omega
   have hjn:j<bn:=by omega
   have hdl:d.length<=400:=by rw[hd] at hlen;simp at hlen;omega
   clear hd;obtain⟨v,hs,hv,hrows,hmap,hgr,hBlt⟩:=hJ.out;obtain⟨av,cv,rfl⟩:=hrows.1.form;have hsl:hs.length<=1000:=by
    have e1:=aL List.length hmap;have e2:=RU (eM ls) ask d;simp at e1;omega
   have ha2:W2.heap[ga]? =some (kH a n c (.slice (some ⟨g,0,none⟩) bn cc) (some M)):=(hgr.block _ (by have:=HS1.out;omega) (λe=>by injection e with e;omega)).trans HA1.out;have hp2:W2.heap[w.heap.size+1]? =some (nl af ab):=(hgr.block _ (by have:=HS1.out;omega) (λe=>by injection e with e;omega)).trans HP1.out;have har2:=HAR1.out.grown hgr (λq e=>by injection e with e;left;omega);obtain⟨g',cc',M',ecs,hown,_⟩:=id har2;injection ecs with ecs;injection ecs with ecs;simp only[dr,Value.slice.injEq,bv,Addr.mk.injEq,Value.map.injEq,and_true,true_and] at ecs;obtain⟨⟨rfl,rfl⟩,rfl⟩:=ecs;obtain⟨b1,o1,e1,ci,_⟩:=hown.2.2 i hin;injection e1 with e1;injection e1 with e1 e2;subst e1 e2;obtain⟨b1,o1,e1,cj,_⟩:=hown.2.2 j hjn;injection e1 with e1;injection e1 with e1 e2;subst e1 e2;have hvi:(wA (eM ls) bn).getD i 0=(nP (eM ls) i:Int):=by
    have:(List.range bn)[i]? =some i:=by rw[dO hin]
    simp[wA,ax,this]
   have hvj:(wA (eM ls) bn).getD j 0=(nP (eM ls) j:Int):=by
    have:(List.range bn)[j]? =some j:=by rw[dO hjn]
    simp[wA,ax,this]
   rw[hvi,aW] at ci;rw[hvj,aW] at cj;have q0:∀n':eH W2,n'.val.cell? ⟨ga,0,none⟩=some (.slice a n c):=eH.cell (cR ha2 rfl);have q1:∀n':eH W2,n'.val.cell? ⟨ga,1,none⟩=some (.slice (some ⟨g,0,none⟩) bn cc):=eH.cell (cR ha2 rfl);have q2:∀n':eH W2,n'.val.cell? ⟨ga,2,none⟩=some (.map (some M)):=eH.cell (cR ha2 rfl);have q3:∀n':eH W2,n'.val.cell? ⟨ge,0,none⟩=some (.int .i64 (i:Int)):=eH.cell (cR hG rfl);have q4:∀n':eH W2,n'.val.cell? ⟨ge,1,none⟩=some (.int .i64 arm):=eH.cell (cR hG rfl);have q5:∀n':eH W2,n'.val.cell? ⟨ge,2,none⟩=some (.int .i64 (j:Int)):=eH.cell (cR hG rfl);have q6:∀n':eH W2,n'.val.cell? ⟨w.heap.size+1,0,none⟩=some (.func (.func af) ab #[]):=eH.cell (cR hp2 rfl);have q7:=eH.cell ci;have q8:=eH.cell cj;have hi0:(0:Int)<=(i:Int)/\(i:Int)<(bn:Int):=by omega
   have hj0:(0:Int)<=(j:Int)/\(j:Int)<(bn:Int):=by omega
   have HNE:Nonempty (eH W2):=⟨⟨W2,ao _ _⟩⟩
   have HBE:Hid (xN (eM ls) ask ⟨i,arm,j⟩=((nP (eM ls) i != nP (eM ls) j)&&ask ⟨i,arm,j⟩)):=rfl;have HROW:=ac hrows;have HMAP:=ac hmap;have HGR:=ac hgr;have HV:=ac hv;have HJ:=ac hJ;have HE2:=ac hG;have HA2:=ac ha2;have HAR2:=ac har2;clear hrows hmap hgr hv hJ hG ha2 har2 hp2 hown ci cj hvi hvj hxb hxm;cases hq:((nP (eM ls) i:Int)==(nP (eM ls) j:Int)) with
   |true=>
    gi_wp2
    refine AF (by kernel_rfl) (by kernel_rfl) (by kernel_rfl) (by repeat (first|exact jX|refine lF ?_|refine jY ?_)) ?_
    repeat (first
     |go_big_quiet_skip
     |go_big_quiet_step (fail))
    refine ar ?_;intro _ hw';obtain⟨n',rfl⟩:=hw'
    gi_wp2
    have hbf:xN (eM ls) ask ⟨i,arm,j⟩=false:=by
     rw[HBE.out];have:nP (eM ls) i=nP (eM ls) j:=by(have h9:(nP (eM ls) i:Int)=(nP (eM ls) j:Int):=by simpa using hq);omega
     simp[this]
    have hJ2:=(RJ.steady (D:=W1.heap.size) (aw _)).ext HJ.out n'.ext;exact⟨gO.ext n'.ext,hJ2.skip hbf,sF (am.1 HV.out).1 n'.ext⟩
   |false=>
    have hne:nP (eM ls) i≠nP (eM ls) j:=by intro e;rw[e] at hq;simp at hq
    cases hask:ask ⟨i,arm,j⟩ with
    |false=>
     have HSQ:Hid (∀n':eH W2,Calls Tryz.prog af (ab++ #[.agg #[.slice a n c,.slice (some ⟨g,0,none⟩) bn cc,.map (some M)],BB ⟨i,arm,j⟩]) n'.val λe w''=>e=.returned (.bool false)/\∃m:eH W2,w''=m.val):=λn'=>by
      have:=HP.out ⟨i,arm,j⟩ n'.val base _ HXM.out (HAR2.out.ext n'.ext);rw[hask] at this;exact oM this
     have hbf:xN (eM ls) ask ⟨i,arm,j⟩=false:=by rw[HBE.out,hask];simp
     have HBF:=ac hbf;clear hask hbf
     gi_wp2
     refine AF (by kernel_rfl) (by kernel_rfl) (by kernel_rfl) (by repeat (first|exact jX|refine lF ?_|refine jY ?_)) ?_
     repeat (first
      |go_big_quiet_skip
      |go_big_quiet_step (first
       |exact HSQ.out _))
     refine ar ?_;intro _ hw';obtain⟨n',rfl⟩:=hw'
     gi_wp2
     have hJ2:=(RJ.steady (D:=W1.heap.size) (aw _)).ext HJ.out n'.ext;exact⟨gO.ext n'.ext,hJ2.skip HBF.out,sF (am.1 HV.out).1 n'.ext⟩
    |true=>
     have HSQ:Hid (∀n':eH W2,Calls Tryz.prog af (ab++ #[.agg #[.slice a n c,.slice (some ⟨g,0,none⟩) bn cc,.map (some M)],BB ⟨i,arm,j⟩]) n'.val λe w''=>e=.returned (.bool true)/\∃m:eH W2,w''=m.val):=λn'=>by
      have:=HP.out ⟨i,arm,j⟩ n'.val base _ HXM.out (HAR2.out.ext n'.ext);rw[hask] at this;exact oM this
     have hbt:xN (eM ls) ask ⟨i,arm,j⟩=true:=by rw[HBE.out,hask];simpa using hne
     have HBT:=ac hbt;have HOW:=AH HR.out;rw[hbl] at HOW;have hpar:=vS HR.out;have hln:(eM ls).length<=200:=IP HR.out;have hli:(inL (eM ls) (i:Int)).length<=1000:=by have:=KY hpar (i:Int) (RH HOW hin);omega
     have hlj:(inL (eM ls) (j:Int)).length<=1000:=by have:=KY hpar (j:Int) (RH HOW hjn);omega
     have HLi:=ac hli;have HLj:=ac hlj;clear hask hbt HOW hpar hln hli hlj
     gi_wp2
     refine AF (by kernel_rfl) (by kernel_rfl) (by kernel_rfl) (by repeat (first|exact jX|refine lF ?_|refine jY ?_)) ?_
     repeat (first
      |go_big_quiet_skip
      |go_big_quiet_step (first
       |exact HSQ.out _))
     refine ar ?_;intro _ hw';obtain⟨n',rfl⟩:=hw';obtain⟨W3,hW3⟩:∃W3,W3=n'.val:=⟨_,rfl⟩
     have hb3:Below W2.heap.size W2 W3:=by rw[hW3];exact n'.ext
     rw[<-hW3];have HE3:=ac (eB hb3 HE2.out);have HA3:=ac (eB hb3 HA2.out);have HAR3:=ac (HAR2.out.ext hb3);have HB3:=ac hb3;clear hW3 n' hb3 HSQ q0 q1 q2 q3 q4 q5 q6 q7 q8 HE2 HA2 HAR2 HNE
     gi_wp2
     refine PF 15 [some 43,some 44,some 45,some 46,some 47,some 48,some 49,some 50,some 51,some 52,some 53,some 54,some 55,some 56,some 10] (by kernel_rfl) (by kernel_rfl) (by repeat (first|exact jX|refine lF ?_|refine jY ?_)) (by kernel_rfl) (jL [.val (BB ⟨(i:Int),arm,(j:Int)⟩),.val (.agg #[.slice a n c,.slice (some ⟨g,0,none⟩) bn cc,.map (some M)]),.val (.pointer (some ⟨ge,0,none⟩)),.val (.int .i64 (i:Int)),.val (.pointer (some ⟨ge,2,none⟩)),.val (.int .i64 (j:Int)),(.any λv lo hi W=>fQ W lo v (KD (eM ls) (i:Int) (j:Int))/\∀q,v.ownBlock=some q->q<hi),.val (.agg #[.slice a n c,.slice (some ⟨g,0,none⟩) bn cc,.map (some M)]),.val (.pointer (some ⟨ge,2,none⟩)),.val (.int .i64 (j:Int)),.val (.pointer (some ⟨ge,0,none⟩)),.val (.int .i64 (i:Int)),(.any λv lo hi W=>fQ W lo v (KD (eM ls) (j:Int) (i:Int))/\∀q,v.ownBlock=some q->q<hi),(.any λv lo hi W=>True),(.new (.cells #[.int .i64 0,.int .i64 0,.int .i64 0,.slice none 0 0,.slice none 0 0] 115))]) (λi9 v ν=>i9=13->v=.agg #[.int .i64 (i:Int),.int .i64 arm,.int .i64 (j:Int),ν 6,ν 12]) (λi9 v ν ν' hc hk e=>by subst e;have h6:=hc 6 (by kernel_rfl);have h12:=hc 12 (by kernel_rfl);rw[<-h6,<-h12];exact hk rfl) (kC ?_) ?_ ?_
     .intro k hk;simp only[aH,a7,bW] at hk;rcases hk with rfl|rfl|rfl|rfl|rfl|rfl|rfl|rfl|rfl|rfl|rfl|rfl|rfl|rfl|rfl<;>try exact trivial
      .intro v lo hi w w' hb ⟨ho,hq⟩;exact⟨ho.ext hb,hq⟩
      .intro v lo hi w w' hb ⟨ho,hq⟩;exact⟨ho.ext hb,hq⟩
      .intro v lo hi w w' hb _;exact trivial
     .intro i hi ν lo hi' w1 K hB hD hK;have hcase:i=0\/i=1\/i=2\/i=3\/i=4\/i=5\/i=6\/i=7\/i=8\/i=9\/i=10\/i=11\/i=12\/i=13\/i=14:=by omega
      clear hi;rcases hcase with rfl|rfl|rfl|rfl|rfl|rfl|rfl|rfl|rfl|rfl|rfl|rfl|rfl|rfl|rfl
      .replace hK:=λv w'' h1 h2=>hK v w'' h1 h2 (λe=>by cases e)
       clear hD;refine eJ rfl rfl ?_;simp only[zA,zB,zC,zD,zE,zF,zJ,zK,zG,zH,zI] at hK|-;refine bX 113 _ rfl ge rfl 113 _ (0,0) _ (eB hB HE3.out) Tryz.underlying113 rfl WI ?_;exact hK _ _ (ao _ _) rfl
      .replace hK:=λv w'' h1 h2=>hK v w'' h1 h2 (λe=>by cases e)
       clear hD;refine eJ rfl rfl ?_;simp only[zA,zB,zC,zD,zE,zF,zJ,zK,zG,zH,zI] at hK|-;refine bX 154 _ rfl ga rfl 154 _ (0,0) _ (eB hB HA3.out) cX rfl iD ?_;exact hK _ _ (ao _ _) rfl
      .replace hK:=λv w'' h1 h2=>hK v w'' h1 h2 (λe=>by cases e)
       clear hD;refine eJ rfl rfl ?_;simp only[zA,zB,zC,zD,zE,zF,zJ,zK,zG,zH,zI] at hK|-;go_simp;exact hK _ _ (ao _ _) rfl
      .replace hK:=λv w'' h1 h2=>hK v w'' h1 h2 (λe=>by cases e)
       have e2:ν 2=(.pointer (some ⟨ge,0,none⟩)):=hD 2 (by kernel_rfl);clear hD;refine eJ rfl rfl ?_;simp only[zA,zB,zC,zD,zE,zF,zJ,zK,zG,zH,zI,e2] at hK|-;have hcl:=cK 0 (eB hB HE3.out) rfl;go_simp;exact hK _ _ (ao _ _) rfl
      .replace hK:=λv w'' h1 h2=>hK v w'' h1 h2 (λe=>by cases e)
       clear hD;refine eJ rfl rfl ?_;simp only[zA,zB,zC,zD,zE,zF,zJ,zK,zG,zH,zI] at hK|-;go_simp;exact hK _ _ (ao _ _) rfl
      .replace hK:=λv w'' h1 h2=>hK v w'' h1 h2 (λe=>by cases e)
       have e4:ν 4=(.pointer (some ⟨ge,2,none⟩)):=hD 4 (by kernel_rfl);clear hD;refine eJ rfl rfl ?_;simp only[zA,zB,zC,zD,zE,zF,zJ,zK,zG,zH,zI,e4] at hK|-;have hcl:=cK 2 (eB hB HE3.out) rfl;go_simp;exact hK _ _ (ao _ _) rfl
      .replace hK:=λv w'' h1 h2=>hK v w'' h1 h2 (λe=>by cases e)
       have e1:ν 1=(.agg #[.slice a n c,.slice (some ⟨g,0,none⟩) bn cc,.map (some M)]):=hD 1 (by kernel_rfl);have e3:ν 3=(.int .i64 (i:Int)):=hD 3 (by kernel_rfl);have e5:ν 5=(.int .i64 (j:Int)):=hD 5 (by kernel_rfl);clear hD;refine eJ rfl rfl ?_;simp only[zA,zB,zC,zD,zE,zF,zJ,zK,zG,zH,zI,e1,e3,e5] at hK|-;go_simp;refine(CG (eM ls) bn a n c _ i j hin hjn w1 base (HAR3.out.ext hB) HLi.out).mono ?_;rintro e w3 ⟨v,rfl,ho,hb3⟩;exact hK _ _ hb3 ⟨ho,λq hq=>(ho.1.lt q hq).2⟩
      .replace hK:=λv w'' h1 h2=>hK v w'' h1 h2 (λe=>by cases e)
       clear hD;refine eJ rfl rfl ?_;simp only[zA,zB,zC,zD,zE,zF,zJ,zK,zG,zH,zI] at hK|-;refine bX 154 _ rfl ga rfl 154 _ (0,0) _ (eB hB HA3.out) cX rfl iD ?_;exact hK _ _ (ao _ _) rfl
      .replace hK:=λv w'' h1 h2=>hK v w'' h1 h2 (λe=>by cases e)
       clear hD;refine eJ rfl rfl ?_;simp only[zA,zB,zC,zD,zE,zF,zJ,zK,zG,zH,zI] at hK|-;go_simp;exact hK _ _ (ao _ _) rfl
      .replace hK:=λv w'' h1 h2=>hK v w'' h1 h2 (λe=>by cases e)
       have e8:ν 8=(.pointer (some ⟨ge,2,none⟩)):=hD 8 (by kernel_rfl);clear hD;refine eJ rfl rfl ?_;simp only[zA,zB,zC,zD,zE,zF,zJ,zK,zG,zH,zI,e8] at hK|-;have hcl:=cK 2 (eB hB HE3.out) rfl;go_simp;exact hK _ _ (ao _ _) rfl
      .replace hK:=λv w'' h1 h2=>hK v w'' h1 h2 (λe=>by cases e)
       clear hD;refine eJ rfl rfl ?_;simp only[zA,zB,zC,zD,zE,zF,zJ,zK,zG,zH,zI] at hK|-;go_simp;exact hK _ _ (ao _ _) rfl
      .replace hK:=λv w'' h1 h2=>hK v w'' h1 h2 (λe=>by cases e)
       have e10:ν 10=(.pointer (some ⟨ge,0,none⟩)):=hD 10 (by kernel_rfl);clear hD;refine eJ rfl rfl ?_;simp only[zA,zB,zC,zD,zE,zF,zJ,zK,zG,zH,zI,e10] at hK|-;have hcl:=cK 0 (eB hB HE3.out) rfl;go_simp;exact hK _ _ (ao _ _) rfl
      .replace hK:=λv w'' h1 h2=>hK v w'' h1 h2 (λe=>by cases e)
       have e6:=hD 6 (by kernel_rfl);unfold jL at e6;simp only[bw,bl,oE] at e6;have e7:ν 7=(.agg #[.slice a n c,.slice (some ⟨g,0,none⟩) bn cc,.map (some M)]):=hD 7 (by kernel_rfl);have e9:ν 9=(.int .i64 (j:Int)):=hD 9 (by kernel_rfl);have e11:ν 11=(.int .i64 (i:Int)):=hD 11 (by kernel_rfl);clear hD;refine eJ rfl rfl ?_;simp only[zA,zB,zC,zD,zE,zF,zJ,zK,zG,zH,zI,e7,e9,e11] at hK|-;go_simp;refine(CG (eM ls) bn a n c _ j i hjn hin w1 base (HAR3.out.ext hB) HLj.out).mono ?_;rintro e w3 ⟨v,rfl,ho,hb3⟩;exact hK _ _ hb3 ⟨ho,λq hq=>(ho.1.lt q hq).2⟩
      .have e0:ν 0=(BB ⟨(i:Int),arm,(j:Int)⟩):=hD 0 (by kernel_rfl);have e6:=hD 6 (by kernel_rfl);unfold jL at e6;simp only[bw,bl,oE] at e6;have e12:=hD 12 (by kernel_rfl);unfold jL at e12;simp only[bw,bl,oE] at e12;clear hD;refine eJ rfl rfl ?_;simp only[zA,zB,zC,zD,zE,zF,zJ,zK,zG,zH,zI,e0] at hK|-;obtain⟨a6,c6,e6'⟩:=e6.1.form;obtain⟨a12,c12,e12'⟩:=e12.1.form;simp only[e6',e12'] at hK|-;go_simp;exact hK _ _ (ao _ _) trivial (λ_=>rfl)
      .replace hK:=λv w'' h1 h2=>hK v w'' h1 h2 (λe=>by cases e)
       clear hD;refine eJ rfl rfl ?_;simp only[zA,zB,zC,zD,zE,zF,zJ,zK,zG,zH,zI] at hK|-;go_simp;exact hK _ _ (eD _ _) ⟨rfl,by simp,ai _ _⟩
     .intro ν lo hi w1 hB hS hI hD hL;have eL:=hL 13 (by omega) rfl;have e0:ν 0=(BB ⟨(i:Int),arm,(j:Int)⟩):=hS 0 (by omega);have e1:ν 1=(.agg #[.slice a n c,.slice (some ⟨g,0,none⟩) bn cc,.map (some M)]):=hS 1 (by omega);have e2:ν 2=(.pointer (some ⟨ge,0,none⟩)):=hS 2 (by omega);have e3:ν 3=(.int .i64 (i:Int)):=hS 3 (by omega);have e4:ν 4=(.pointer (some ⟨ge,2,none⟩)):=hS 4 (by omega);have e5:ν 5=(.int .i64 (j:Int)):=hS 5 (by omega);have e6:=hS 6 (by omega);unfold jL at e6;simp only[bw,bl,oE] at e6;have e7:ν 7=(.agg #[.slice a n c,.slice (some ⟨g,0,none⟩) bn cc,.map (some M)]):=hS 7 (by omega);have e8:ν 8=(.pointer (some ⟨ge,2,none⟩)):=hS 8 (by omega);have e9:ν 9=(.int .i64 (j:Int)):=hS 9 (by omega);have e10:ν 10=(.pointer (some ⟨ge,0,none⟩)):=hS 10 (by omega);have e11:ν 11=(.int .i64 (i:Int)):=hS 11 (by omega);have e12:=hS 12 (by omega);unfold jL at e12;simp only[bw,bl,oE] at e12;have e13:=hS 13 (by omega);unfold jL at e13;simp only[bw,bl,oE] at e13;obtain⟨e14,l14,h14⟩:=hS 14 (by omega);clear hS;simp only[aj,ap,zA,zB,zC,zD,zE,zF,zJ,zK,zG,zH,zI,e0,e1,e2,e3,e4,e5,e7,e8,e9,e10,e11,e14];have i6:=hI 6 (by omega);have i12:=hI 12 (by omega);have i14:=hI 14 (by omega);have d1:=hD 6 12 (by omega) (by omega) (by omega);have d2:=hD 6 14 (by omega) (by omega) (by omega);have d3:=hD 12 14 (by omega) (by omega) (by omega);obtain⟨v6,hv6⟩:∃v,v=ν 6:=⟨_,rfl⟩
      obtain⟨v12,hv12⟩:∃v,v=ν 12:=⟨_,rfl⟩
      rw[<-hv6] at e6 eL|-;rw[<-hv12] at e12 eL|-;rw[eL];generalize lo 6=l6 at *;generalize hi 6=h6 at *;generalize lo 12=l12 at *;generalize hi 12=h12 at *;generalize lo 14=gr at *;generalize hi 14=h14' at *;have hsz23:=HB3.out.size;have hr6:∀q,v6.ownBlock=some q->W2.heap.size<=q/\q≠gr/\v12.ownBlock≠some q:=λq hq=>by
       have b1:=(e6.1.1.lt q hq).1;have b2:=e6.2 q hq;refine⟨by omega,by omega,λe=>?_⟩;have b3:=(e12.1.1.lt q e).1;have b4:=e12.2 q e;omega
      have hr12:∀q,v12.ownBlock=some q->W2.heap.size<=q/\q≠gr:=λq hq=>by
       have b1:=(e12.1.1.lt q hq).1;have b2:=e12.2 q hq;exact⟨by omega,by omega⟩
      have hgr2:W2.heap.size<=gr:=by omega
      have o6:=vC e6.1;have o12:=vC e12.1;have H6:=ac (e6.1.mono (base':=W2.heap.size) (by omega));have H12:=ac (e12.1.mono (base':=W2.heap.size) (by omega));have HR6:=ac hr6;have HR12:=ac hr12;have H14:=ac h14;have HB4:=ac (eA HB3.out hB);have HV4:=ac (eB (eA HB3.out hB) HV.out);clear hI hD hB e0 e1 e2 e3 e4 e5 e6 e7 e8 e9 e10 e11 e12 e13 e14 l14 h14 eL i6 i12 i14 d1 d2 d3 hv6 hv12 hr6 hr12 HE3 HA3 HAR3 HB3 hsz23;refine aU (o:=⟨none,.store 115 _ _,_,_,_,_⟩) rfl 115 _ _ rfl gr #[.int .i64 (i:Int),.int .i64 arm,.int .i64 (j:Int),v6,v12] rfl rfl 115 _ H14.out gc rfl (by have e9:∀k (z:Int),(Value.int k z).oneCell'=true:=λ_ _=>rfl;simp[e9,o6,o12]) ?_;have hrr4:=aG w1 gr _ #[.int .i64 (i:Int),.int .i64 arm,.int .i64 (j:Int),v6,v12] _ _ H14.out;have hg4:=pV w1 gr #[.int .i64 (i:Int),.int .i64 arm,.int .i64 (j:Int),v6,v12];have hk4:gO W2 (w1.setRow gr #[.int .i64 (i:Int),.int .i64 arm,.int .i64 (j:Int),v6,v12]):=(gO.ext HB4.out).trans (gO.grown hg4 (λq o e ho=>by injection e with e;subst e;rw[H14.out] at ho;cases ho;rfl));have hg24:=iF (QB HB4.out none) hg4 (.inr λq e=>by injection e with e;omega);have h64:=H6.out.kept hg4 (qY λq hq e=>by injection e with e;exact(HR6.out q hq).2.1 e.symm);have h124:=H12.out.kept hg4 (qY λq hq e=>by injection e with e;exact(HR12.out q hq).2 e.symm);have hv4:=(hg4.block _ (am.1 HV4.out).1 (λe=>by injection e with e;have:=(am.1 HV.out).1;omega)).trans HV4.out;generalize w1.setRow gr #[.int .i64 (i:Int),.int .i64 arm,.int .i64 (j:Int),v6,v12]=w4 at *;have r4:=cK 4 hrr4 rfl;have HRR4:=ac hrr4;have HK4:=ac hk4;have HG24:=ac hg24;have H64:=ac h64;have H124:=ac h124;have HV4':=ac hv4;clear hrr4 hk4 hg24 h64 h124 hv4 hg4 HB4 HV4 H6 H12 H14;go_wp2
      gi_wp2_with (first
       |(gi_at_builtin
         refine vL (by repeat (first|exact jX|refine lF ?_|refine jY ?_)) _ _ _ rfl ?_;refine fN rfl w5 (.tmp 60) (.tmp 62) 104 115 rfl W1.heap.size _ 5 72 Tryz.underlying104 ma rfl (by omega) (.slice av hs.length cv) hs.length _ (csR ⟨xI (eM ls) ⟨(i:Int),arm,(j:Int)⟩,v6,v12⟩) rfl HROW5.out.1.1 w5.heap.size rfl rfl rfl (λu hu=>lk (vC H65.out) (vC HREV.out) u hu) (by simp only[maxLen];omega) (by omega) (by have:=HGR.out.size;have:=HG25.out.size;omega) ?_;intro g2 cap w6 hown6 hg6 hat6;have hne6:(Value.slice av hs.length cv).ownBlock≠some (w.heap.size+1+1):=(λe=>by have:=(HROW5.out.1.low e).1;omega)
         have hv6:=(hg6.block _ (am.1 HV5.out).1 (λe=>hne6 e.symm)).trans HV5.out;obtain⟨hcv6,hfv6⟩:=cz 0 hv6 rfl;have HOWN6:=ac hown6;have HG6:=ac hg6;have HAT6:=ac hat6
         clear hown6 hg6 hat6 hne6 hv6 hcv hfv)
       |(gi_at_call 124
         refine(br.2 (LM W2.heap.size v12 _ w4 H124.out)).mono ?_;rintro e w5 ⟨rfl,hrev,hg5⟩;have hrow5:∀q,v12.ownBlock=some q->W2.heap.size<=q/\q≠gr:=HR12.out;have hg25:=iF HG24.out hg5 (.inr λq e=>(hrow5 q e).1);have hk5:=HK4.out.trans (gO.grown hg5 (tB H124.out.1));have hvl:=(am.1 HV.out).1;have hv5:=(hg5.block _ (am.1 HV4'.out).1 (λe=>(by have:=(hrow5 _ e.symm).1;omega))).trans HV4'.out;have hrr5:=(hg5.block _ (am.1 HRR4.out).1 (λe=>(hrow5 _ e.symm).2 rfl)).trans HRR4.out;have HROW5:=ac (HROW.out.grown hg25 (λq e=>by cases e));have HK5:=ac hk5;have HG25:=ac hg25;have H65:=ac (H64.out.kept hg5 (qY λq hq=>(HR6.out q hq).2.2));have HREV:=ac hrev;have HV5:=ac hv5;obtain⟨s0,s1,s2,s3,s4⟩:=nN hrr5 rfl;obtain⟨hcv,hfv⟩:=cz 0 hv5 rfl
         clear hrev hg5 hrow5 hg25 hk5 hv5 hrr5 hvl))
      go_wp2;exact lf HV.out HROW.out HMAP.out HGR.out hBlt HG25.out HK5.out H65.out HREV.out HOWN6.out HG6.out HAT6.out HBT.out hsl
  case done=>
   rintro D W hD hJ hK;obtain⟨v,hs,hv,hrows,hmap,hgr,hBlt⟩:=hJ.out;obtain⟨hc,hf⟩:=cz 0 hv rfl;obtain⟨av,cv,rfl⟩:=hrows.1.form;have HROW:=ac hrows;have HMAP:=ac hmap;have HGR:=ac hgr;have HV:=ac hv;clear hrows hmap hgr hv hJ
   gi_wp2
   have hset:=fL W (w.heap.size+1+1) 0 (.slice av hs.length cv);have hK2:(W.setCell ⟨w.heap.size+1+1,0,none⟩ (.slice av hs.length cv)).heap[D]? =some (.deferred (some [])):=(bf _ _ _ _ (by show D≠w.heap.size+1+1;omega)).trans hK;refine⟨by simp,.inl ⟨_,_,rfl,cI hK2,?_⟩⟩;have hst:=aO W (w.heap.size+1+1) 0 _ _ (.slice av hs.length cv) HV.out;simp only[ae,ag] at hst;have hput:=cG (W.setCell ⟨w.heap.size+1+1,0,none⟩ (.slice av hs.length cv)) D (.deferred none);have h9:((W.setCell ⟨w.heap.size+1+1,0,none⟩ (.slice av hs.length cv)).putObj D (.deferred none)).heap[w.heap.size+1+1]? =some (.cells #[.slice av hs.length cv] 104 (0,0)):=(hput.block _ (am.1 hst).1 (λe=>by injection e with e;omega)).trans hst;have hr9:=(eI.rowsIn W1.heap.size W1.heap.size (.slice av hs.length cv) hs).put (.deferred none) (l:=D) (HROW.out.grown hset (λq e=>by injection e with e;left;omega)) hD hK2 rfl;have hs1:=HB1.out.size;have hb9:Below w.heap.size w ((W.setCell ⟨w.heap.size+1+1,0,none⟩ (.slice av hs.length cv)).putObj D (.deferred none)):=((HB1.out.grown HGR.out HB1.out.size (λq e=>by injection e with e;omega)).grown hset (by have:=HGR.out.size;omega) (λq e=>by injection e with e;omega)).grown hput (by have:=HGR.out.size;have:=hset.size;omega) (λq e=>by injection e with e;omega);generalize (W.setCell ⟨w.heap.size+1+1,0,none⟩ (.slice av hs.length cv)).putObj D (.deferred none)=W9 at *;have c9:=cK 0 h9 rfl;exact⟨.tuple #[.slice av hs.length cv,.int .i64 0],by simp[results,Tryz.results82,go_sem,asAddr,c9],_,by rw[HE.out],hb9,(λh=>by rw[HR.out] at h;cases h),λ_=>⟨hs,hr9.mono hs1,HMAP.out⟩⟩
  case stop=>rintro D c W hD h;exact h.elim
end
end Go.Proofs.YtchdkjenhppleaaGreat
