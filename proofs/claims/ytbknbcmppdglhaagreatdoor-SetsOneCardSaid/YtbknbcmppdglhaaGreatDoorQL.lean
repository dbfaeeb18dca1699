/-
 Building tiles:conditionals.
-/
import Derived.Test.YtbknbcmppdglhaaGreatDoorA0
import Derived.Test.YtbknbcmppdglhaaGreatDoorQK
import Derived.Test.YtbknbcmppdglhaaGreatDoorOwnR
namespace Go.Proofs.YtbknbcmppdglhaaGreatDoor
set_option linter.unusedSimpArgs false
set_option linter.unusedVariables false
set_option linter.unusedSectionVars false
set_option maxRecDepth 100000
set_option maxHeartbeats 40000000
section
open Go.RowKit Go.Shelf
theorem vt(f:Nat->Bool)(w:World):Calls Tryz.prog 154 #[.agg (gK f)] w λe w'=>e=.returned (.int .i64 ((gQ f).length:Int))/\Below w.heap.size w w':=by
 go_enter Tryz.func154,Tryz.ntmps154
 have h1:=ae w (jY f)
 have HB:Hid (Below w.heap.size w (w.alloc (jY f))):=fD _ _
 have HE:Hid ((fN (gQ f)).length=(gQ f).length):=by simp[Hid,fN]
 go_wp2_with (first
  |(refine ay (o:=⟨some 3,.load 138 _,_,_,_,_⟩) rfl 138 _ rfl w.heap.size rfl 138 (gK f) (0,0) _ h1 aL rfl (by rw[fO];exact gF) ?_)
  |(go_at_call 63
    refine(DH f _).mono ?_;rintro e w2 ⟨v,rfl,ho,hb⟩;obtain⟨a,c,rfl⟩:=ho.form;rw[HE.out];have HB2:=ac (fC HB.out hb)
    clear ho hb))
 go_ret
 exact⟨rfl,HB2.out⟩
theorem WT{n:Nat}(hn:n<=200)(k:Nat):∀(L:List fJ),(∀p∈L,iV p.s)->iV (iD n L k).s:=by
 intro L hL
 have key:∀(l:List fJ) (b:fJ),(∀p∈l,iV p.s)->iV b.s->iV (l.foldl (pJ k) b).s:=by
  intro l
  induction l with
  |nil=>intro b _ hb;exact hb
  |cons p l ih=>
   intro b hl hb;refine ih _ (λq hq=>hl q (by simp[hq])) ?_;unfold pJ
   split
   .exact hl p (by simp)
   .exact hb
 exact key L _ hL (nE hn)
theorem BX{W:World}{B:Nat}{p:fJ}(h:W.heap[B]? =some (qO p)):W.cell? ⟨B,200,none⟩=some (.int .i64 p.kind)/\W.cell? ⟨B,201,none⟩=some (.int .i64 p.entry):=by
 rw[aZ _ _ _ _ _ _ h,aZ _ _ _ _ _ _ h,JU]
 constructor
 .rw[ez,az (by simp[fO]),ez,aM (by rw[fO])]
 .rw[ez,aM (by simp[fO])]
theorem o8{w:World}{base:Nat}{e:TypeId}{size:Nat}{v:Value}{n:Nat}{xs:List Value}(h:w.ownsRow base e size v n xs):∃a c,v=.slice a n c:=by
 rcases h.2 with ⟨h,h0⟩|⟨g,cap,cur,h,_⟩
 .exact⟨none,0,by rw[h,h0]⟩
 .exact⟨_,_,h⟩
theorem LU(ts:List fS)(L:List fJ)(j:Nat):(List.range (j+1)).filterMap (mV ts L)=(List.range j).filterMap (mV ts L)++(match mV ts L j with|some p=> [p]|none=> []):=by
 rw[cm,List.filterMap_append]
 congr 1
 cases h:mV ts L j<;>simp[h]
theorem PH(ts:List fS)(L:List fJ)(j:Nat):((List.range j).filterMap (mV ts L)).length<=j:=by
 have:=List.length_filterMap_le (mV ts L) (List.range j)
 simpa using this
theorem x9{ts:List fS}{L:List fJ}{j:Nat}(h:(pv ts j).length≠1):mV ts L j=none:=by unfold mV;rw[az λhh=>h hh.1]
theorem x8{ts:List fS}{L:List fJ}{j:Nat}(h:(nx ts ((pv ts j).headD 0)).length≠2):mV ts L j=none:=by unfold mV;rw[az λhh=>h hh.2.1]
theorem x7{ts:List fS}{L:List fJ}{j:Nat}(h:(iD ts.length L j).kind=3):mV ts L j=none:=by unfold mV;rw[az λhh=>hh.2.2.1 h]
theorem x5{ts:List fS}{L:List fJ}{j:Nat}(h:(iD ts.length L j).entry=j):mV ts L j=none:=by unfold mV;rw[az λhh=>hh.2.2.2.1 h]
theorem x4{ts:List fS}{L:List fJ}{j:Nat}(h:¬1<(gQ (oJ ts j (iD ts.length L j).s)).length):mV ts L j=none:=by unfold mV;rw[az λhh=>h hh.2.2.2.2]
theorem xz{ts:List fS}{L:List fJ}{j:Nat}(h1:(pv ts j).length=1)(h2:(nx ts ((pv ts j).headD 0)).length=2)(h3:(iD ts.length L j).kind≠3)(h4:(iD ts.length L j).entry≠j)(h5:1<(gQ (oJ ts j (iD ts.length L j).s)).length):
  mV ts L j=some ⟨oJ ts j (iD ts.length L j).s,4,j⟩:=by unfold mV;rw[aM ⟨h1,h2,h3,h4,h5⟩]
theorem qz(W0:World)(d:lJ)(ts:List fS)(hok:mQ W0 d ts)(hf:jK ts=true)(P base:Nat)(v:Value)(L:List fJ)(w:World)(hcan:∀p∈L,iV p.s)(hlen:L.length<=1000)(h:sP W0 d P base v L w):
  Calls Tryz.prog 57 #[.pointer (some ⟨P,0,none⟩)] w (RK W0 d P base v w (L++wY ts L)):=by
 have HCAN:=ac hcan
 have HJ:=ac h
 have HF:=ac hf
 have hbn:ts.length=d.bn:=hok.1
 have hb2:d.bn<=200:=hok.2.1
 have HBN:=ac hbn
 have HOK:=ac (hok.ext h.ext)
 obtain⟨a,c,hv⟩:=iP.form h.parts
 obtain⟨n,hn⟩:∃n,n=L.length:=⟨_,rfl⟩
 rw[<-hn] at hv
 subst hv
 have HN:=ac hn
 have hn1000:n<=1000:=by omega
 have hc3:=cK 3 h.bld rfl
 clear hcan h hf hok hlen hn
 clear hbn
 go_enter Tryz.func57,Tryz.ntmps57
 go_wp2
 clear hc3
 go_loopw [2,13] (λs2 s13 wr=>∃j:Nat,j<=d.bn/\s13=.int .i64 (j:Int)/\Hid (gP wr w.heap.size s2 ((List.range j).filterMap (mV ts L)))/\Hid (Below w.heap.size w wr)) (λ_ s13 _=>d.bn-(intOf s13).toNat)
 case atStart=>exact⟨0,by omega,rfl,iP.nil _ _ _ _ _,ag _ _⟩
 case round=>
  obtain⟨j,hj,rfl,HM,HB⟩:=hrel;by_cases hlt:j<d.bn
  .have hlt':(j:Int)<(d.bn:Int):=by omega
   have hj200:j<200:=by omega
   have hwk:=HOK.out.ext HB.out;obtain⟨fb,fo,ra,rc,hfa,hcr,hir⟩:=hwk.2.2.2.2.2 j (pv ts j) (by simp[sV,HBN.out,hlt]);have HWK:=ac hwk;have HIR:=ac hir;rw[hfa];obtain⟨af,cf,hvf⟩:=iP.form HM.out;obtain⟨m,hm⟩:∃m,m=((List.range j).filterMap (mV ts L)).length:=⟨_,rfl⟩
   rw[<-hm] at hvf;subst hvf;have hm200:m<=200:=by have:=PH ts L j;omega
   have HMM:=ac hm;clear hwk hir hm hfa
   go_upto_region 5 with (first
    |(refine aP (o:=⟨none,.store 142 _ _,_,_,_,_⟩) rfl 142 _ _ rfl w4.heap.size (gJ sm).toArray rfl rfl 142 Tryz.zeroCells142 (ae _ _) (hZ _) (by rw[tQ,bd,kC]) (bH (iO _)) ?_)
    |(go_at_call 152
      refine(RU P base a n c d L j wr (fB HB.out HJ.out.bld) (gP.ext HJ.out.parts HB.out) (by omega) hj200 hb2).mono ?_;rintro e w4 ⟨rfl,hb4⟩;obtain⟨sm,hsm⟩:∃sm,sm=iD d.bn L j:=⟨_,rfl⟩
      rw[<-hsm];have HSM:=ac hsm;have HB4:=ac hb4
      clear hsm hb4))
   obtain⟨W5,hW5⟩:∃W,W=(w4.alloc (.cells Tryz.zeroCells142 142)).setRow w4.heap.size (gJ sm).toArray:=⟨_,rfl⟩
   rw[<-hW5,kN];have hp5:W5.heap[w4.heap.size]? =some (qO sm):=by rw[hW5];exact bt _ _ _ _ _ _ (ae _ _)
   have hb5:Below wr.heap.size wr W5:=by rw[hW5];exact aX (fC HB4.out (fD _ _)) HB4.out.size _
   have HP5:=ac hp5;have HB5:=ac hb5;have HNX:Hid (∀w',Below wr.heap.size wr w'->mV ts L j=none->gP w' w.heap.size (.slice af m cf) ((List.range (j+1)).filterMap (mV ts L))/\Below w.heap.size w w'):=λw' hb hc=>by
    rw[LU,hc,ct];exact⟨gP.ext HM.out hb,fC HB.out hb⟩
   clear hW5 hp5 hb5;generalize w4.heap.size=bp at *;by_cases hl1:(pv ts j).length=1
   rotate_left
   .have hd1:(((pv ts j).length:Int) != 1)=true:=by simp;omega
    have HCN:=ac (x9 (L:=L) hl1);clear hl1;refine jH (by kernel_rfl) (by kernel_rfl) ?_
    repeat (first
     |go_big_quiet_skip
     |go_big_quiet_step (fail))
    refine aq ?_;intro _ hw';obtain⟨n',rfl⟩:=hw';have HNE:=ac (HNX.out n'.val (fC HB5.out n'.ext) (HCN.out));generalize n'.val=W9 at *;go_wp2
    go_roundw
    case rel=>exact⟨j+1,by omega,by go_num,HNE.out.1,HNE.out.2⟩
    case measure=>simp[intOf];omega
   obtain⟨y,hy⟩:∃y,pv ts j= [y]:=List.length_eq_one_iff.1 hl1;have hyn:y<d.bn:=by
    have h1:j∈nx ts y:=(vS ts j y).1 (by rw[hy];simp);rw[<-HBN.out];apply bE;intro hge;rw[AE ts y (by omega)] at h1;cases h1
   obtain⟨tb,to0,ra2,rc2,hta,hct,_⟩:=HWK.out.2.2.1.2.2 y (nx ts y) (by simp[tZ,HBN.out,hyn]);have hir:=HIR.out;rw[hl1,hy] at hir;obtain⟨b1,o1,rfl,hcy,_⟩:=hir.2.2 0 (by omega);have g1:∀q:fL W5,q.val.cell? ⟨b1,o1,none⟩=some (.int .i64 (y:Int)):=fL.cell (fZ HB5.out (by simpa[fN] using hcy));have g2:∀q:fL W5,q.val.cell? ⟨P,2,none⟩=some (.slice (some ⟨tb,to0,none⟩) d.bn d.tc):=fL.cell (by rw[<-hta,aZ _ _ _ _ _ _ (fB (fC HB.out HB5.out) HJ.out.bld)];rfl);have g3:∀q:fL W5,q.val.cell? ⟨tb,to0+y,none⟩=some (.slice ra2 (nx ts y).length rc2):=fL.cell (fZ HB5.out hct);have g4:∀q:fL W5,q.val.cell? ⟨bp,200,none⟩=some (.int .i64 sm.kind):=fL.cell (BX HP5.out).1;have g5:∀q:fL W5,q.val.cell? ⟨bp,201,none⟩=some (.int .i64 sm.entry):=fL.cell (BX HP5.out).2;have hyn':(y:Int)<(d.bn:Int):=by omega
   have HY:=ac hy;have HL1:=ac hl1;have HSM2:Hid (sm=iD ts.length L j):=by rw[Hid,HBN.out];exact HSM.out
   rw[hl1];clear hir hcy hct hta hy hl1 HIR HSM;by_cases hl2:(nx ts y).length=2
   rotate_left
   .have hd2:(((nx ts y).length:Int) != 2)=true:=by simp;omega
    have HCN:Hid (mV ts L j=none):=x8 (by rw[HY.out];exact hl2);clear hl2;refine jH (by kernel_rfl) (by kernel_rfl) ?_
    repeat (first
     |go_big_quiet_skip
     |go_big_quiet_step (fail))
    refine aq ?_;intro _ hw';obtain⟨n',rfl⟩:=hw';have HNE:=ac (HNX.out n'.val (fC HB5.out n'.ext) (HCN.out));generalize n'.val=W9 at *;go_wp2
    go_roundw
    case rel=>exact⟨j+1,by omega,by go_num,HNE.out.1,HNE.out.2⟩
    case measure=>simp[intOf];omega
   have HL2:=ac hl2;rw[hl2] at g3;clear hl2;by_cases hkd:sm.kind=3
   .have HCN:Hid (mV ts L j=none):=x7 (by rw[<-HSM2.out];exact hkd);rw[hkd] at g4;clear hkd;refine jH (by kernel_rfl) (by kernel_rfl) ?_
    repeat (first
     |go_big_quiet_skip
     |go_big_quiet_step (fail))
    refine aq ?_;intro _ hw';obtain⟨n',rfl⟩:=hw';have HNE:=ac (HNX.out n'.val (fC HB5.out n'.ext) (HCN.out));generalize n'.val=W9 at *;go_wp2
    go_roundw
    case rel=>exact⟨j+1,by omega,by go_num,HNE.out.1,HNE.out.2⟩
    case measure=>simp[intOf];omega
   have HKD:=ac hkd;have hd3:(sm.kind==3)=false:=by simpa using hkd
   clear hkd;by_cases hen:sm.entry=(j:Int)
   .have HCN:Hid (mV ts L j=none):=x5 (by rw[<-HSM2.out];exact hen);rw[hen] at g5;clear hen;refine jH (by kernel_rfl) (by kernel_rfl) ?_
    repeat (first
     |go_big_quiet_skip
     |go_big_quiet_step (fail))
    refine aq ?_;intro _ hw';obtain⟨n',rfl⟩:=hw';have HNE:=ac (HNX.out n'.val (fC HB5.out n'.ext) (HCN.out));generalize n'.val=W9 at *;go_wp2
    go_roundw
    case rel=>exact⟨j+1,by omega,by go_num,HNE.out.1,HNE.out.2⟩
    case measure=>simp[intOf];omega
   have HEN:=ac hen;have hd4:(sm.entry==(j:Int))=false:=by simpa using hen
   clear hen;refine jH (by kernel_rfl) (by kernel_rfl) ?_
   repeat (first
    |go_big_quiet_skip
    |go_big_quiet_step (fail))
   refine aq ?_;intro _ hw';obtain⟨n',rfl⟩:=hw';have hp6:=fB n'.ext HP5.out;have HB6:=ac (fC HB5.out n'.ext);clear g1 g2 g3 g4 g5;generalize n'.val=W6 at *;have h1:=qS hp6;have HCS:Hid (iV sm.s):=by rw[Hid,HSM2.out,HBN.out];exact WT hb2 j L HCAN.out
   obtain⟨gs,hgs⟩:∃f,f=oJ ts j sm.s:=⟨_,rfl⟩
   have HGS:=ac hgs;clear hgs
   go_upto_region 7 with (first
    |(refine dD (op:=⟨some 52,.load 138 _,_,_,_,_⟩) rfl 138 _ rfl bp 0 rfl (gK sm.s).toList _ h1 aL rfl (by rw[cL,fO];exact gF) ?_)
    |(refine aP (o:=⟨none,.store 138 _ _,_,_,_,_⟩) rfl 138 _ _ rfl w7.heap.size (gK gs) rfl rfl 138 Tryz.zeroCells138 (ae _ _) (by rw[fO];exact gF) (by rw[fO];kernel_rfl) (mR _) ?_)
    |(go_at_call 153
      refine(XU P d ts (.slice a n c) j sm.s W6 (fB (fC HB.out HB6.out) HJ.out.bld) (HWK.out.ext HB6.out) HF.out hj200 HCS.out).mono ?_;rintro e w7 ⟨rfl,hb7⟩;rw[<-HGS.out];have HB7:=ac (fC HB6.out hb7)
      clear hb7))
   obtain⟨W8,hW8⟩:∃W,W=(w7.alloc (.cells Tryz.zeroCells138 138)).setRow w7.heap.size (gK gs):=⟨_,rfl⟩
   rw[<-hW8,kN];have hs8:W8.heap[w7.heap.size]? =some (jY gs):=by rw[hW8];exact bt _ _ _ _ _ _ (ae _ _)
   have hb8:Below wr.heap.size wr W8:=by rw[hW8];exact aX (fC HB7.out (fD _ _)) HB7.out.size _
   have HS8:=ac hs8;have HB8:=ac hb8;clear hW8 hs8 hb8;generalize w7.heap.size=gb at*
   go_upto_if 56 with (first
    |(refine ay (o:=⟨some 54,.load 138 _,_,_,_,_⟩) rfl 138 _ rfl gb rfl 138 (gK gs) (0,0) _ HS8.out aL rfl (by rw[fO];exact gF) ?_)
    |(go_at_call 154
      refine(vt gs W8).mono ?_;rintro e w9 ⟨rfl,hb9⟩;have HB9:=ac (fC HB8.out hb9);have HS9:=ac (fB hb9 HS8.out)
      clear hb9))
   by_cases hmn:1<(gQ gs).length
   .have hmn':(1:Int)<((gQ gs).length:Int):=by omega
    have hmn2:decide (((gQ gs).length:Int)>1)=true:=bS hmn';have HCN:Hid (mV ts L j=some ⟨gs,4,(j:Int)⟩):=by
     have:=xz (ts:=ts) (L:=L) (j:=j) (by rw[HY.out];rfl) (by rw[HY.out];exact HL2.out) (by rw[<-HSM2.out];exact HKD.out) (by rw[<-HSM2.out];exact HEN.out) (by rw[<-HSM2.out,<-HGS.out];exact hmn);rw[<-HSM2.out,<-HGS.out] at this;exact this
    have HOWN9:=ac (gP.ext HM.out HB9.out);clear hmn;have hbs9:w.heap.size<=w9.heap.size:=aT HB.out.size HB9.out.size
    go_wp2_with (first
     |(refine ay (o:=⟨some 58,.load 138 _,_,_,_,_⟩) rfl 138 _ rfl gb rfl 138 (gK gs) (0,0) _ HS9.out aL rfl (by rw[fO];exact gF) ?_)
     |(refine GA (o:=⟨some 60,.build 142 _,_,_,_,_⟩) rfl _ _ _ gs 4 (j:Int) rfl rfl rfl rfl ?_)
     |(refine MB (o:=⟨some 61,.buildSlice 133 _ _,_,_,_,_⟩) rfl _ ⟨gs,4,(j:Int)⟩ rfl rfl ?_)
     |(refine jI (o:=⟨some 62,.call _,_,_,_,_⟩) rfl w9 (.tmp 57) (.tmp 61) 133 142 rfl w.heap.size _ 202 216 fg DI (by kernel_rfl) (by omega) (.slice af m cf) m _ (gJ ⟨gs,4,(j:Int)⟩) rfl (by rw[HMM.out];have:=HOWN9.out.1;rw[<-HMM.out] at this|-;exact this) w9.heap.size rfl rfl (kC _) (iO _) (by simp only[maxLen];omega) (by omega) hbs9 ?_
       intro g cap w10 hown10 hg10 hat10;have HO10:=ac hown10;have HG10:=ac hg10
       clear hown10 hg10 hat10))
    go_roundw
    case rel=>
     refine⟨j+1,by omega,by go_num,?_,?_⟩
     .rw[LU,HCN.out];refine⟨?_,?_⟩
      .rw[bf,cw,<-HMM.out];simpa using HO10.out
      .have:=HMM.out;simp;omega
     .exact(fC HB.out HB9.out).grown HG10.out hbs9 (λq e=>(iP.low HM.out e).1)
    case measure=>simp[intOf];omega
   .have hmn':¬(1:Int)<((gQ gs).length:Int):=by omega
    have hmn2:decide (((gQ gs).length:Int)>1)=false:=dE hmn';have HCN:Hid (mV ts L j=none):=x4 (by rw[<-HSM2.out,<-HGS.out];exact hmn);have HNE:=ac (HNX.out w9 HB9.out HCN.out);clear hmn;go_wp2
    go_roundw
    case rel=>exact⟨j+1,by omega,by go_num,HNE.out.1,HNE.out.2⟩
    case measure=>simp[intOf];omega
  .have hje:j=d.bn:=by omega
   have hlt':¬(j:Int)<(d.bn:Int):=by omega
   have hM:=HM.out;rw[hje,<-HBN.out] at hM;obtain⟨M,hMM⟩:∃M,M=wY ts L:=⟨_,rfl⟩
   have hM2:gP wr w.heap.size u2 M:=by rw[hMM];exact hM
   obtain⟨af,cf,hvf⟩:=iP.form hM2;obtain⟨m,hm⟩:∃m,m=M.length:=⟨_,rfl⟩
   rw[<-hm] at hvf;subst hvf;have hm200:m<=200:=by
    have:=PH ts L ts.length;rw[hm,hMM,wY];rw[HBN.out] at this|-;omega
   have HM2:=ac hM2;have HMM:=ac hMM;have HMl:=ac hm;have hJ:=HJ.out.ext' HB.out;have HJ9:=ac hJ;have hc4:=hJ.cell;have hbs:=hJ.bs;clear hM hMM hM2 hm hJ HM
   go_wp2_with (
    (refine rO wr rfl (.tmp 68) (.tmp 69) 133 142 rfl base _ 202 216 fg DI (by kernel_rfl) (by omega) (.slice a n c) n _ rfl (by have:=HJ9.out.parts.1;rw[<-HN.out] at this;exact this) af m cf rfl (M.flatMap gJ) (by rw[HMl.out];exact vL gJ 202 kC M) (tI.news (iP.recs kC HM2.out) kC (by omega)) (λu hu=>by obtain⟨p,_,hp⟩:=b5.1 hu;exact iO p u hp) (by simp only[maxLen];omega) (by omega) hbs ?_
     intro v' w3 hown3 hg3 hat3;obtain⟨a',c',rfl⟩:=o8 hown3;have hP3:w3.heap[P]? =some (ED d (.slice a n c)):=fQ hg3 HJ9.out.bld (jW HJ9.out.parts.1 HJ9.out.bld (by decide));have hf3:=fK 4 hP3;have hl3:=fE hP3;have hc3:=cK 4 hP3 rfl;have happ:=HJ9.out.app (M:=M) hg3 (by rw[<-HN.out,<-HMl.out];exact hown3) (by rw[<-HN.out,<-HMl.out];omega);have HAPP:=ac happ;have HAT:=ac hat3
     clear hown3 hg3 hat3 happ hP3 hc4))
   go_end0
   refine⟨rfl,_,by rw[<-HMM.out];exact HAPP.out.1,((PI HB.out).mono (λ_ h=>h.elim)).then HAPP.out.2 (λq hq=>.inl hq),λq hq=>?_⟩;rcases HAT.out with h|h
   .exact .inl (by rw[<-h];exact hq)
   .rw[h] at hq;injection hq with hq;exact .inr (by have:=HB.out.size;omega)
end
end Go.Proofs.YtbknbcmppdglhaaGreatDoor
