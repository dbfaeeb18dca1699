/-
 live.solved. (Printed by gen_uh.py.)
-/
import Derived.Test.YtbknbcmppdglhaaGreatDoorA0
import Derived.Test.YtbknbcmppdglhaaGreatDoorUHA
namespace Go.Proofs.YtbknbcmppdglhaaGreatDoor
set_option linter.unusedSimpArgs false
set_option linter.unusedVariables false
set_option linter.unusedSectionVars false
set_option maxRecDepth 100000
set_option maxHeartbeats 40000000
section
open Go.RowKit Go.Shelf
attribute [local go_sem] Oper.semAt_some iF gH gS fX
theorem ZR(pa:Option Addr)(pn pc:Nat)(ba:Option Addr)(bn bc:Nat)(bs:List iA)(w:World)(h:lY w ba bn bs)(h0:0<bn)(h1:bn<=200)(hin:qZ bs=true)(hna:∀b∈bs,∀r∈b.rs,r.na<=1000000):
  Calls Tryz.prog 51 #[mB pa pn pc ba bn bc] w (j8 bs bn w):=by
 refine(bu (n:=0)).1 ?_
 refine cu Tryz.func51 rfl trivial ?_
 simp only[Tryz.ntmps51,bd,bk,bx,Nat.reduceAdd,Nat.reduceSub,bF,bG,bV,bN,bD,bU]
 have HB:=ac h
 have HIN:=ac hin
 have HTO:=ac (tJ hin)
 have HNA:=ac hna
 clear h hin hna
 gi_wp2
 obtain⟨W0,hW0⟩:∃W0,W0=(w.alloc (gX pa pn pc ba bn bc)).alloc UA:=⟨_,rfl⟩
 rw[<-hW0]
 have HB0:Hid (Below w.heap.size w W0):=by rw[hW0];exact fC (fD _ _) (fD _ _)
 have HF0:Hid (W0.heap[w.heap.size]? =some (gX pa pn pc ba bn bc)):=by rw[hW0];exact fB (fD _ _) (ae _ _)
 have HZ0:Hid (W0.heap[w.heap.size+1]? =some UA):=by
  have:=ae (w.alloc (gX pa pn pc ba bn bc)) UA;rw[Hid,hW0];simpa using this
 have HS0:Hid (W0.heap.size=w.heap.size+2):=by rw[Hid,hW0];simp
 clear hW0
 refine dy.2 ?_
 refine SB 10 [some 12,some 13,some 14,some 15,some 16,some 17,some 18,some 19,some 20,some 3] (by kernel_rfl) (by kernel_rfl) (jZ [.val (.pointer (some ⟨w.heap.size,1,none⟩)),.val (.slice ba bn bc),.val (.int .i64 (bn:Int)),(.any λv lo hi W=>v=.slice (some ⟨lo,0,none⟩) bn bn/\lo<hi/\W.heap[lo]? =some (sk bn)),.val (.pointer (some ⟨w.heap.size,1,none⟩)),.val (.slice ba bn bc),.val (.int .i64 (bn:Int)),(.any λv lo hi W=>v=.slice (some ⟨lo,0,none⟩) bn bn/\lo<hi/\W.heap[lo]? =some (sk bn)),(.any λv lo hi W=>True),.new UA]) (λi9 v ν=>i9=8->v=.agg #[ν 3,ν 7]) (λi9 v ν ν' hc hk e=>by subst e;have h3:=hc 3 (by kernel_rfl);have h7:=hc 7 (by kernel_rfl);rw[<-h3,<-h7];exact hk rfl) (jX ?_) ?_ ?_
 .intro k hk;simp only[aS,bO,cX] at hk;rcases hk with rfl|rfl|rfl|rfl|rfl|rfl|rfl|rfl|rfl|rfl<;>try exact trivial
  .intro v lo hi w w' hb ⟨h1,h2,h3⟩;exact⟨h1,h2,fB hb h3⟩
  .intro v lo hi w w' hb ⟨h1,h2,h3⟩;exact⟨h1,h2,fB hb h3⟩
  .intro v lo hi w w' hb _;exact trivial
 .intro i hi ν lo hi' w1 K hB hD hK;have hcase:i=0\/i=1\/i=2\/i=3\/i=4\/i=5\/i=6\/i=7\/i=8\/i=9:=by omega
  clear hi;rcases hcase with rfl|rfl|rfl|rfl|rfl|rfl|rfl|rfl|rfl|rfl
  .replace hK:=λv w'' h1 h2=>hK v w'' h1 h2 (λe=>by cases e)
   clear hD;refine fF rfl rfl ?_;simp only[zA,zB,zC,zD,zE,zF,zJ,zK,zG,zH,zI] at hK|-;have hbl:=fE (fB hB HF0.out);go_simp;exact hK _ _ (ag _ _) rfl
  .replace hK:=λv w'' h1 h2=>hK v w'' h1 h2 (λe=>by cases e)
   have e0:ν 0=(.pointer (some ⟨w.heap.size,1,none⟩)):=hD 0 (by kernel_rfl);clear hD;refine fF rfl rfl ?_;simp only[zA,zB,zC,zD,zE,zF,zJ,zK,zG,zH,zI,e0] at hK|-;have j1:=cK 1 (fB hB HF0.out) rfl;go_simp;exact hK _ _ (ag _ _) rfl
  .replace hK:=λv w'' h1 h2=>hK v w'' h1 h2 (λe=>by cases e)
   have e1:ν 1=(.slice ba bn bc):=hD 1 (by kernel_rfl);clear hD;refine fF rfl rfl ?_;simp only[zA,zB,zC,zD,zE,zF,zJ,zK,zG,zH,zI,e1] at hK|-;go_simp;exact hK _ _ (ag _ _) rfl
  .replace hK:=λv w'' h1 h2=>hK v w'' h1 h2 (λe=>by cases e)
   have e2:ν 2=(.int .i64 (bn:Int)):=hD 2 (by kernel_rfl);clear hD;refine fF rfl rfl ?_;simp only[zA,zB,zC,zD,zE,zF,zJ,zK,zG,zH,zI,e2] at hK|-;have hm:=te bn (by omega) w1;go_simp;exact hK _ _ (fD _ _) ⟨rfl,by simp,ae _ _⟩
  .replace hK:=λv w'' h1 h2=>hK v w'' h1 h2 (λe=>by cases e)
   clear hD;refine fF rfl rfl ?_;simp only[zA,zB,zC,zD,zE,zF,zJ,zK,zG,zH,zI] at hK|-;have hbl:=fE (fB hB HF0.out);go_simp;exact hK _ _ (ag _ _) rfl
  .replace hK:=λv w'' h1 h2=>hK v w'' h1 h2 (λe=>by cases e)
   have e4:ν 4=(.pointer (some ⟨w.heap.size,1,none⟩)):=hD 4 (by kernel_rfl);clear hD;refine fF rfl rfl ?_;simp only[zA,zB,zC,zD,zE,zF,zJ,zK,zG,zH,zI,e4] at hK|-;have j1:=cK 1 (fB hB HF0.out) rfl;go_simp;exact hK _ _ (ag _ _) rfl
  .replace hK:=λv w'' h1 h2=>hK v w'' h1 h2 (λe=>by cases e)
   have e5:ν 5=(.slice ba bn bc):=hD 5 (by kernel_rfl);clear hD;refine fF rfl rfl ?_;simp only[zA,zB,zC,zD,zE,zF,zJ,zK,zG,zH,zI,e5] at hK|-;go_simp;exact hK _ _ (ag _ _) rfl
  .replace hK:=λv w'' h1 h2=>hK v w'' h1 h2 (λe=>by cases e)
   have e6:ν 6=(.int .i64 (bn:Int)):=hD 6 (by kernel_rfl);clear hD;refine fF rfl rfl ?_;simp only[zA,zB,zC,zD,zE,zF,zJ,zK,zG,zH,zI,e6] at hK|-;have hm:=te bn (by omega) w1;go_simp;exact hK _ _ (fD _ _) ⟨rfl,by simp,ae _ _⟩
  .have e3:=hD 3 (by kernel_rfl);unfold jZ at e3;simp only[br,bq,nC] at e3;have e7:=hD 7 (by kernel_rfl);unfold jZ at e7;simp only[br,bq,nC] at e7;clear hD;refine fF rfl rfl ?_;simp only[zA,zB,zC,zD,zE,zF,zJ,zK,zG,zH,zI] at hK|-;obtain⟨e3,_⟩:=e3;obtain⟨e7,_⟩:=e7;simp only[e3,e7] at hK|-;go_simp;exact hK _ _ (ag _ _) trivial (λ_=>rfl)
  .replace hK:=λv w'' h1 h2=>hK v w'' h1 h2 (λe=>by cases e)
   clear hD;refine fF rfl rfl ?_;simp only[zA,zB,zC,zD,zE,zF,zJ,zK,zG,zH,zI] at hK|-;go_simp;exact hK _ _ (fD _ _) ⟨rfl,by simp,ae _ _⟩
 .intro ν lo hi w1 hB hS hI hD hL;have eL:=hL 8 (by omega) rfl;have e0:ν 0=(.pointer (some ⟨w.heap.size,1,none⟩)):=hS 0 (by omega);have e1:ν 1=(.slice ba bn bc):=hS 1 (by omega);have e2:ν 2=(.int .i64 (bn:Int)):=hS 2 (by omega);have e3:=hS 3 (by omega);unfold jZ at e3;simp only[br,bq,nC] at e3;have e4:ν 4=(.pointer (some ⟨w.heap.size,1,none⟩)):=hS 4 (by omega);have e5:ν 5=(.slice ba bn bc):=hS 5 (by omega);have e6:ν 6=(.int .i64 (bn:Int)):=hS 6 (by omega);have e7:=hS 7 (by omega);unfold jZ at e7;simp only[br,bq,nC] at e7;have e8:=hS 8 (by omega);unfold jZ at e8;simp only[br,bq,nC] at e8;obtain⟨e9,l9,h9⟩:=hS 9 (by omega);clear hS;simp only[am,aw,zA,zB,zC,zD,zE,zF,zJ,zK,zG,zH,zI,e0,e1,e2,e4,e5,e6,e9];obtain⟨e3,q3,r3⟩:=e3;obtain⟨e7,q7,r7⟩:=e7;simp only[e3,e7] at eL;simp only[eL,e3,e7];have d37:=hD 3 7 (by omega) (by omega) (by omega);have d39:=hD 3 9 (by omega) (by omega) (by omega);have d79:=hD 7 9 (by omega) (by omega) (by omega);have i3:=hI 3 (by omega);have i7:=hI 7 (by omega);have i9:=hI 9 (by omega);generalize lo 3=R0 at *;generalize lo 7=R1 at *;generalize lo 9=PF at *;obtain⟨z0,z1⟩:=TP h9 rfl;obtain⟨y0,y1⟩:=Bq h9;have hpl:=fE h9;have hs0:=HS0.out;have HPL:Hid (w.heap.size+2<=R0/\w.heap.size+2<=R1/\w.heap.size+2<=PF/\R0≠R1/\R0≠PF/\R1≠PF):=⟨by omega,by omega,by omega,by omega,by omega,by omega⟩
  have HR0:=ac r3;have HR1:=ac r7;have H9:=ac h9;have HBB:=ac hB;have HFO:=ac (fB hB HF0.out);have HZO:=ac (fB hB HZ0.out);clear hI hD hB hL e0 e1 e2 e3 e4 e5 e6 e7 e8 e9 eL l9 h9 r3 r7 q3 q7 d37 d39 d79 i3 i7 i9 hs0;go_wp2;obtain⟨W5,hW5⟩:∃W5,W5=(w1.setCell ⟨PF,0,none⟩ (.slice (some ⟨R0,0,none⟩) bn bn)).setCell ⟨PF,1,none⟩ (.slice (some ⟨R1,0,none⟩) bn bn):=⟨_,rfl⟩
  rw[<-hW5];have hkeep:∀j,j≠PF->W5.heap[j]? =w1.heap[j]?:=λj hj=>by
   rw[hW5,aU _ _ _ _ (by simpa using hj),aU _ _ _ _ (by simpa using hj)]
  have HFL:Hid (FlJ w (gX pa pn pc ba bn bc) bn R0 R1 PF (λ_=>0) (λ_=>0) W5):=by
   obtain⟨p0,p1,p2,p3,p4,p5⟩:=HPL.out;refine⟨(hkeep _ (by omega)).trans HFO.out,(hkeep _ (by omega)).trans HZO.out,?_,?_,?_,?_⟩
   .rw[hW5,aC _ _ _ _ _ _ (aC _ _ _ _ _ _ H9.out)];rfl
   .exact sv (by omega) (by omega) ((hkeep _ p4).trans HR0.out)
   .exact sv (by omega) (by omega) ((hkeep _ p5).trans HR1.out)
   .rw[hW5];exact((fC HB0.out HBB.out).setCell (by show w.heap.size<=PF;omega) _).setCell (by show w.heap.size<=PF;omega) _
  clear hkeep hW5 z0 z1 y0 y1 hpl HR0 HR1 H9 HBB HFO HZO
  gi_wp2
  have hfs:=HFL.out;have HP0:Hid (w.heap.size+2<=W5.heap.size/\W5.heap.size≠R0/\W5.heap.size≠R1/\W5.heap.size≠PF):=by
   have h1:=fE hfs.fl;have h2:=(hfs.inn.1.lt R0 rfl).2;have h3:=(hfs.out.1.lt R1 rfl).2;have h4:=HPL.out;exact⟨by omega,by omega,by omega,by omega⟩
  clear hfs;obtain⟨W6,hW6⟩:∃W6,W6=W5.alloc (.cells #[.bool true] 4):=⟨_,rfl⟩
  rw[<-hW6];have HFL6:Hid (FlJ w (gX pa pn pc ba bn bc) bn R0 R1 PF (λ_=>0) (λ_=>0) W6):=by rw[hW6];exact HFL.out.ext (fD _ _)
  have HCH6:Hid (W6.heap[W5.heap.size]? =some (.cells #[.bool true] 4 (0,0))):=by rw[hW6];exact ae _ _
  clear hW6;refine uK [4,21,22,23,24,80] (λm u ds W=>∃(ch:Bool) (p4:Nat) (inn out:Nat->Nat),m=(bif ch then yG bn inn+1 else 0)/\u 4=.pointer (some ⟨p4,0,none⟩)/\Hid (W.heap[p4]? =some (.cells #[.bool ch] 4 (0,0)))/\Hid (w.heap.size+2<=p4/\p4≠R0/\p4≠R1/\p4≠PF)/\Hid (FlJ w (gX pa pn pc ba bn bc) bn R0 R1 PF inn out W)/\Hid (qR (gN bs) inn out)/\Hid (ch=false->ZH (gN bs) inn out)/\Hid (lU (w.heap.size+2) W.heap.size ds W)) (yG bn (λ_=>0)+1) ?_ ?_
  .exact⟨true,_,_,_,rfl,rfl,HCH6,HP0,HFL6,qR.start _,(λe=>by cases e),lU.nil _ _ _⟩
  .rintro m u ds Wr ⟨ch,p4,inn,out,hm,e4,HCH,HP4,HFr,HLV,HEN,HMK⟩;clear HFL HFL6 HCH6 HP0;simp only[uY,ed,List.foldl_nil,ar,aH,aF,e4];have HM:=ac hm;obtain⟨hch,hchf⟩:=cz 0 HCH.out rfl;have hpl:=fE HCH.out;have hf1:=cK 1 HFr.out.fn rfl;have hfl:=fE HFr.out.fn;clear hm e4;cases ch with
   |false=>
    clear hf1 hfl hchf;obtain⟨l0,l1⟩:=TP HFr.out.fl rfl;obtain⟨z0,z1⟩:=TP HFr.out.rs rfl;obtain⟨y0,y1⟩:=Bq HFr.out.rs;have hzl:=fE HFr.out.rs;have hfpl:=fE HFr.out.fl
    gi_wp2
    obtain⟨w4,hw4⟩:∃w4,w4=(Wr.setCell ⟨w.heap.size+1,0,none⟩ (.slice (some ⟨R0,0,none⟩) bn bn)).setCell ⟨w.heap.size+1,1,none⟩ (.slice (some ⟨R1,0,none⟩) bn bn):=⟨_,rfl⟩
    rw[<-hw4];obtain⟨p0,p1,p2,p3,p4,p5⟩:=HPL.out;have hr4:w4.heap[w.heap.size+1]? =some (BF bn R0 R1):=by rw[hw4,aC _ _ _ _ _ _ (aC _ _ _ _ _ _ HFr.out.rs)];rfl
    have hb4:Below w.heap.size w w4:=by rw[hw4];exact(HFr.out.b.setCell (by simp) _).setCell (by simp) _
    have hi4:uO w4 (w.heap.size+2) (.slice (some ⟨R0,0,none⟩) bn bn) bn inn:=by
     rw[hw4];exact(HFr.out.inn.kept (fU _ _ _ _) (.inr (by simp[Value.ownBlock];omega))).kept (fU _ _ _ _) (.inr (by simp[Value.ownBlock];omega))
    have ho4:uO w4 (w.heap.size+2) (.slice (some ⟨R1,0,none⟩) bn bn) bn out:=by
     rw[hw4];exact(HFr.out.out.kept (fU _ _ _ _) (.inr (by simp[Value.ownBlock];omega))).kept (fU _ _ _ _) (.inr (by simp[Value.ownBlock];omega))
    have hm4:lU (w.heap.size+2) Wr.heap.size ds w4:=by rw[hw4];exact(HMK.out.keep (gC.setCell _ _ _)).keep (gC.setCell _ _ _)
    refine tO (by simp) (lo:=w.heap.size+2) (hi:=Wr.heap.size) (λW=>W.heap[w.heap.size+1]? =some (BF bn R0 R1)/\uO W (w.heap.size+2) (.slice (some ⟨R0,0,none⟩) bn bn) bn inn/\uO W (w.heap.size+2) (.slice (some ⟨R1,0,none⟩) bn bn) bn out/\Below w.heap.size w W)
     ((fG.block _ _ rfl).and ((fG.ownR _ _ _ _).and ((fG.ownR _ _ _ _).and (fG.below (aj _) (by omega))))) (λW hj=>?_) ds w4 hm4 ⟨hr4,hi4,ho4,hb4⟩
    obtain⟨j1,j2,j3,j4⟩:=hj;obtain⟨k0,k1⟩:=TP j1 rfl;exact⟨.agg #[.slice (some ⟨R0,0,none⟩) bn bn,.slice (some ⟨R1,0,none⟩) bn bn],by simp[results,Tryz.results51,asAddr,k0,k1,go_sem],R0,R1,inn,out,rfl,j2.mono (by omega),j3.mono (by omega),HLV.out,HEN.out (by trivial),j4⟩
   |true=>
    have hne:w.heap.size≠p4:=by have:=HP4.out;omega
    gi_wp2_with (
     (gi_at_call 141
      refine(bu.2 (YO ba bn bc _)).mono ?_;rintro e w4 ⟨rfl,hw4⟩;have HW4:=ac hw4
      clear hw4))
    obtain⟨Wr1,hWr1⟩:∃Wr1,Wr1=Wr.setCell ⟨p4,0,none⟩ (.bool false):=⟨_,rfl⟩
    obtain⟨G,hG⟩:∃G,Wr.heap.size=G:=⟨_,rfl⟩
    have hsz:Wr1.heap.size=G:=by rw[hWr1];show(Wr.heap.modify _ _).size=G;rw[Array.size_modify,hG]
    rw[<-hWr1] at HW4;have hof:∀j,j≠p4->Wr1.heap[j]? =Wr.heap[j]?:=λj hj=>by rw[hWr1,aU _ _ _ _ (by simpa using hj)]
    have hfl1:FlJ w (gX pa pn pc ba bn bc) bn R0 R1 PF inn out Wr1:=by
     obtain⟨a0,a1,a2,a3⟩:=HP4.out;refine⟨(hof _ (by omega)).trans HFr.out.fn,(hof _ (by omega)).trans HFr.out.rs,(hof _ (by omega)).trans HFr.out.fl,?_,?_,?_⟩
     .rw[hWr1];exact HFr.out.inn.kept (fU _ _ _ _) (.inr (by simp[Value.ownBlock];omega))
     .rw[hWr1];exact HFr.out.out.kept (fU _ _ _ _) (.inr (by simp[Value.ownBlock];omega))
     .rw[hWr1];exact HFr.out.b.setCell (by show w.heap.size<=p4;omega) _
    have hch1:Wr1.heap[p4]? =some (.cells #[.bool false] 4 (0,0)):=by rw[hWr1,aC _ _ _ _ _ _ HCH.out];rfl
    have hmk1:lU (w.heap.size+2) G ds Wr1:=by rw[hWr1,<-hG];exact HMK.out.keep (gC.setCell _ _ _)
    have hx4:Below Wr1.heap.size Wr1 w4:=by rw[HW4.out];exact fD _ _
    have hg4:w4.cell? ⟨G,0,none⟩=some (.slice ba bn bc):=by rw[HW4.out,<-hsz,aZ _ _ _ _ _ _ (ae Wr1 _)];rfl
    have hz4:w4.heap.size=G+1:=by rw[HW4.out];simp[hsz]
    have HRD:Hid (RdJ w (gX pa pn pc ba bn bc) bn R0 R1 PF p4 G ba bc bs inn ds G [] w4):=
     ⟨false,inn,out,fB hx4 hch1,hfl1.ext hx4,HLV.out,λ_=>⟨rfl,λx hx=>by cases hx⟩,(λe=>by cases e),hg4,hmk1.keep (gC.ext hx4)⟩
    have HZ4:=ac hz4;have HG0:Hid (w.heap.size+2<=G):=by
     have h1:=fE HFr.out.fl;have h2:=HPL.out;show w.heap.size+2<=G;omega
    have HG1:Hid (R0<G/\R1<G/\p4<G):=by
     rw[<-hG];exact⟨(HFr.out.inn.1.lt R0 rfl).2,(HFr.out.out.1.lt R1 rfl).2,fE HCH.out⟩
    simp only[fi,hG];clear hfl1 hch1 hmk1 hx4 hg4 hz4 hof hsz hWr1 HW4 hf1 hfl hch hchf hpl
    refine DT (ps:=#[25,26]) (gf:=218) (lb:=#[.pointer (some ⟨G,0,none⟩)]) (enc:=IQ) (l:=mN bs bn) rfl NK _ (NO G ba bn bc bs (by omega)) (λ_=>rfl)
     (λd _ W=>Hid (RdJ w (gX pa pn pc ba bn bc) bn R0 R1 PF p4 G ba bc bs inn ds G d W)) (λ_ _=>False)
     (λd _=>RdJ.steady rfl (by have:=HZ4.out;have:=HG0.out;omega) (by have:=HZ4.out;omega)) (λ_=>fG.pure _ _) ?hInv HRD ?round ?done ?stop
    case hInv=>
     rintro d r W h;obtain⟨ch,inn',out',_,hf,_,_,_,hg,_⟩:=h.out;exact⟨hg,HB.out.ext hf.b⟩
    case stop=>rintro D c W hD h;exact h.elim
    case round=>
     rintro lp d ⟨k,x⟩ r W hd hJ;have HJJ:=ac hJ.out;have HX:=ac (AV (l:=bs) (n:=bn) (k:=k) (r:=x) (by rw[hd];simp));have HD:=ac hd;unfold IQ;clear hJ hd
     gi_wp2
     refine⟨(gC.alloc _ _).trans (gC.alloc _ _),(RdJ.steady (B:=w.heap.size+G) rfl (by omega) (by omega)).ext HJJ.out (fC (fD _ _) (fD _ _)),λV=>Hid (V.heap[W.heap.size]? =some (.cells #[.int .i64 (k:Int)] 3 (0,0))/\V.heap[W.heap.size+1]? =some (oA x.h)),(fG.block _ _ rfl).and (fG.block _ _ rfl),?_,?_⟩
     .refine⟨fB (fD _ _) (ae W _),?_⟩;have:=ae (W.alloc (.cells #[.int .i64 (k:Int)] 3)) (oA x.h)
      rwa [dV] at this
     .obtain⟨P5,hP5⟩:∃P5,W.heap.size=P5:=⟨_,rfl⟩
      have HLO:Hid (R0<P5/\R1<P5/\PF<P5/\p4<P5/\G<P5):=by
       obtain⟨ch,inn',out',hch,hf,_,_,_,hgb,_⟩:=HJJ.out;rw[<-hP5];exact⟨(hf.inn.1.lt R0 rfl).2,(hf.out.1.lt R1 rfl).2,fE hf.fl,fE hch,bA _ _ hgb⟩
      rw[hP5];clear HJJ hP5 lp W;rintro lp W2 hlp ⟨rc,hrc⟩ hJ2 hG2;obtain⟨ch,inn',out',hch,hf,hl,hno,hyes,hgb,hmk⟩:=hJ2.out;have HCH2:=ac hch;have HF2:=ac hf;have HL2:=ac hl;have HNO:=ac hno;have HYE:=ac hyes;have HGB:=ac hgb;have HMK2:=ac hmk;have HI5:=ac hG2.1;have HB5:=ac hG2.2;have HRC:=ac hrc;have HLP:=ac hlp;have HTX:Hid (pU x.h.t):=(HB.out.2 x (aK HX.out.2)).1;obtain⟨-,b1,b2,b3,b4⟩:=YX HB5.out rfl;have hbl5:=fE HB5.out;clear hch hf hl hno hyes hgb hmk hJ2 hG2 hrc hlp
      gi_upto_region 9 with (
       (gi_at_call 137
        refine(eG _ (bu.2 (EE x.h.t W2 HTX.out))).mono ?_;rintro e w5 ⟨rv,rfl,ho,hb5⟩;obtain⟨ta,tc,rfl⟩:=ho.form;have HOW:=ac ho;have HO5:=ac ho.ints;have HX5:=ac hb5
        clear ho hb5))
      have HK5:Hid (k<bn):=HX.out.1;have HBX:Hid (iB (gN bs) k=bkL x):=qD HX.out.2;have HLB:Hid ((gN bs).length=bn):=by rw[Hid,kF];exact HB.out.1.1
      have HTL:Hid (∀q,q<(toD x.h.t).length->∃c:Nat,(toD x.h.t).getD q 0=(c:Int)/\c<bn/\(toD x.h.t)[q]? =some (c:Int)/\c∈(iB (gN bs) k).to):=λq hq=>by
       have:=zh HIN.out HX.out.2 hq
       rwa [HB.out.1.1] at this
      have HR1:Hid (w.heap.size+2<=R1/\R0≠R1/\R1≠PF):=⟨HPL.out.2.1,HPL.out.2.2.2.1,HPL.out.2.2.2.2.2⟩
      have HI55:Hid (w5.heap[P5]? =some (.cells #[.int .i64 (k:Int)] 3 (0,0))):=fB HX5.out HI5.out;have HB55:Hid (w5.heap[P5+1]? =some (oA x.h)):=fB HX5.out HB5.out;have HZ5:Hid (R1<W2.heap.size/\W2.heap.size<=w5.heap.size):=⟨(HF2.out.out.1.lt R1 rfl).2,HX5.out.size⟩
      have HT0:Hid (TR w (gX pa pn pc ba bn bc) bn R0 R1 PF (gN bs) inn' out' k (toD x.h.t) w5 0 out' w5):=⟨HF2.out.ext HX5.out,HL2.out,gC.refl _,Chg.refl _ _,λ_ _=>rfl,λj c hj=>absurd hj (by omega)⟩
      clear b1 b2 b3 b4 hbl5
      gi_loopw [8,31] (λ_ i wr=>∃(q:Nat) (out2:Nat->Nat),i=.int .i64 q/\q<=(toD x.h.t).length/\Hid (TR w (gX pa pn pc ba bn bc) bn R0 R1 PF (gN bs) inn' out' k (toD x.h.t) w5 q out2 wr)) (λ_ i _=>(toD x.h.t).length-(intOf i).toNat)
      case atStart=>exact⟨0,out',rfl,by omega,HT0⟩
      case round=>
       obtain⟨q,out2,rfl,hq,HT⟩:=hrel;have HOr:Hid (gD wr W2.heap.size (.slice ta (toD x.h.t).length tc) (toD x.h.t)):=⟨iL HOW.out.1 HT.out.c (λg e h=>by have h1:=(HOW.out.1.lt g e).1;have h2:=HZ5.out;omega),HOW.out.2⟩
       have HIr:Hid (wr.heap[P5]? =some (.cells #[.int .i64 (k:Int)] 3 (0,0))):=(HT.out.c.block _ (fE HI55.out) (by have:=HLO.out;omega)).trans HI55.out;have HBr:Hid (wr.heap[P5+1]? =some (oA x.h)):=(HT.out.c.block _ (fE HB55.out) (by have:=HLO.out;omega)).trans HB55.out;have HFr2:Hid (wr.heap[PF]? =some (BF bn R0 R1)):=HT.out.f.fl;have hql:=HOr.out.ints.2.1;by_cases hlt:q<(toD x.h.t).length
       .obtain⟨c,hc0,hc1,hc2,hc3⟩:=HTL.out q hlt;obtain⟨b,o,rfl,hcell,hw1,hw2⟩:=HOr.out.ints.2.2 q hlt;rw[hc0] at hcell hw1 hw2;have HC1:=ac hc1;have HC2:=ac hc2;have HC3:=ac hc3;clear hc0 hc1 hc2 hc3
        gi_upto_region 11 with (fail)
        clear hcell;refine xL 14 [some 35,some 36,some 37,some 38,some 39,some 40,some 41,some 42,some 43,some 44,some 45,some 46,some 47,some 48] (by kernel_rfl) (by kernel_rfl) (by repeat (first|exact gZ|refine iK ?_|refine hU ?_)) (by kernel_rfl) (jZ [.val (.pointer (some ⟨PF,1,none⟩)),.val (.slice (some ⟨R1,0,none⟩) bn bn),.val (.int .i64 (k:Int)),.val (.pointer (some ⟨PF,1,none⟩)),.val (.slice (some ⟨R1,0,none⟩) bn bn),.val (.int .i64 (k:Int)),.val (.pointer (some ⟨R1,k*16,none⟩)),.val (.agg (iW (out2 k))),.val (.pointer (some ⟨PF,0,none⟩)),.val (.slice (some ⟨R0,0,none⟩) bn bn),.val (.int .i64 (c:Int)),.val (.pointer (some ⟨R0,c*16,none⟩)),.val (.agg (iW (inn' c))),.val (.agg (iW (out2 k|||inn' c)))]) (jX ?_) ?_ ?_
        .intro k hk;simp only[aS,bO,cX] at hk;rcases hk with rfl|rfl|rfl|rfl|rfl|rfl|rfl|rfl|rfl|rfl|rfl|rfl|rfl|rfl<;>try exact trivial
        .intro i hi ν lo hi' w1 K hB hD hK;have hcase:i=0\/i=1\/i=2\/i=3\/i=4\/i=5\/i=6\/i=7\/i=8\/i=9\/i=10\/i=11\/i=12\/i=13:=by omega
         clear hi;rcases hcase with rfl|rfl|rfl|rfl|rfl|rfl|rfl|rfl|rfl|rfl|rfl|rfl|rfl|rfl
         .clear hD;refine fF rfl rfl ?_;simp only[zA,zB,zC,zD,zE,zF,zJ,zK,zG,zH,zI] at hK|-;have hbl:=fE (fB hB HFr2.out);go_simp;exact hK _ _ (ag _ _) rfl
         .have e0:ν 0=(.pointer (some ⟨PF,1,none⟩)):=hD 0 (by kernel_rfl);clear hD;refine fF rfl rfl ?_;simp only[zA,zB,zC,zD,zE,zF,zJ,zK,zG,zH,zI,e0] at hK|-;have j1:=cK 1 (fB hB HFr2.out) rfl;go_simp;exact hK _ _ (ag _ _) rfl
         .clear hD;refine fF rfl rfl ?_;simp only[zA,zB,zC,zD,zE,zF,zJ,zK,zG,zH,zI] at hK|-;have j1:=cK 0 (fB hB HIr.out) rfl;go_simp;exact hK _ _ (ag _ _) rfl
         .clear hD;refine fF rfl rfl ?_;simp only[zA,zB,zC,zD,zE,zF,zJ,zK,zG,zH,zI] at hK|-;have hbl:=fE (fB hB HFr2.out);go_simp;exact hK _ _ (ag _ _) rfl
         .have e3:ν 3=(.pointer (some ⟨PF,1,none⟩)):=hD 3 (by kernel_rfl);clear hD;refine fF rfl rfl ?_;simp only[zA,zB,zC,zD,zE,zF,zJ,zK,zG,zH,zI,e3] at hK|-;have j1:=cK 1 (fB hB HFr2.out) rfl;go_simp;exact hK _ _ (ag _ _) rfl
         .clear hD;refine fF rfl rfl ?_;simp only[zA,zB,zC,zD,zE,zF,zJ,zK,zG,zH,zI] at hK|-;have j1:=cK 0 (fB hB HIr.out) rfl;go_simp;exact hK _ _ (ag _ _) rfl
         .have e4:ν 4=(.slice (some ⟨R1,0,none⟩) bn bn):=hD 4 (by kernel_rfl);have e5:ν 5=(.int .i64 (k:Int)):=hD 5 (by kernel_rfl);clear hD;refine fF rfl rfl ?_;simp only[zA,zB,zC,zD,zE,zF,zJ,zK,zG,zH,zI,e4,e5] at hK|-;have hk:=HK5.out;go_simp;exact hK _ _ (ag _ _) rfl
         .have e6:ν 6=(.pointer (some ⟨R1,k*16,none⟩)):=hD 6 (by kernel_rfl);clear hD;refine fF rfl rfl ?_;simp only[zA,zB,zC,zD,zE,zF,zJ,zK,zG,zH,zI,e6] at hK|-;refine cp 124 _ rfl R1 (k*16) rfl (bsC (out2 k)) _ (pB (iP.ext HT.out.f.out hB) HK5.out) bK rfl qV ?_;rw[vB];exact hK _ _ (ag _ _) rfl
         .clear hD;refine fF rfl rfl ?_;simp only[zA,zB,zC,zD,zE,zF,zJ,zK,zG,zH,zI] at hK|-;have hbl:=fE (fB hB HFr2.out);go_simp;exact hK _ _ (ag _ _) rfl
         .have e8:ν 8=(.pointer (some ⟨PF,0,none⟩)):=hD 8 (by kernel_rfl);clear hD;refine fF rfl rfl ?_;simp only[zA,zB,zC,zD,zE,zF,zJ,zK,zG,zH,zI,e8] at hK|-;have j1:=cK 0 (fB hB HFr2.out) rfl;go_simp;exact hK _ _ (ag _ _) rfl
         .clear hD;refine fF rfl rfl ?_;simp only[zA,zB,zC,zD,zE,zF,zJ,zK,zG,zH,zI] at hK|-;go_simp;exact hK _ _ (ag _ _) rfl
         .have e9:ν 9=(.slice (some ⟨R0,0,none⟩) bn bn):=hD 9 (by kernel_rfl);have e10:ν 10=(.int .i64 (c:Int)):=hD 10 (by kernel_rfl);clear hD;refine fF rfl rfl ?_;simp only[zA,zB,zC,zD,zE,zF,zJ,zK,zG,zH,zI,e9,e10] at hK|-;have hk:=HC1.out;go_simp;exact hK _ _ (ag _ _) rfl
         .have e11:ν 11=(.pointer (some ⟨R0,c*16,none⟩)):=hD 11 (by kernel_rfl);clear hD;refine fF rfl rfl ?_;simp only[zA,zB,zC,zD,zE,zF,zJ,zK,zG,zH,zI,e11] at hK|-;refine cp 124 _ rfl R0 (c*16) rfl (bsC (inn' c)) _ (pB (iP.ext HT.out.f.inn hB) HC1.out) bK rfl qV ?_;rw[vB];exact hK _ _ (ag _ _) rfl
         .have e7:ν 7=(.agg (iW (out2 k))):=hD 7 (by kernel_rfl);have e12:ν 12=(.agg (iW (inn' c))):=hD 12 (by kernel_rfl);clear hD;refine fF rfl rfl ?_;simp only[zA,zB,zC,zD,zE,zF,zJ,zK,zG,zH,zI,e7,e12] at hK|-;go_simp;refine(A4 _ _ w1).mono ?_;rintro e w2 ⟨rfl,hb2⟩;exact hK _ _ hb2 rfl
        .intro ν lo hi w1 hB hS hI hD;have e0:ν 0=(.pointer (some ⟨PF,1,none⟩)):=hS 0 (by omega);have e1:ν 1=(.slice (some ⟨R1,0,none⟩) bn bn):=hS 1 (by omega);have e2:ν 2=(.int .i64 (k:Int)):=hS 2 (by omega);have e3:ν 3=(.pointer (some ⟨PF,1,none⟩)):=hS 3 (by omega);have e4:ν 4=(.slice (some ⟨R1,0,none⟩) bn bn):=hS 4 (by omega);have e5:ν 5=(.int .i64 (k:Int)):=hS 5 (by omega);have e6:ν 6=(.pointer (some ⟨R1,k*16,none⟩)):=hS 6 (by omega);have e7:ν 7=(.agg (iW (out2 k))):=hS 7 (by omega);have e8:ν 8=(.pointer (some ⟨PF,0,none⟩)):=hS 8 (by omega);have e9:ν 9=(.slice (some ⟨R0,0,none⟩) bn bn):=hS 9 (by omega);have e10:ν 10=(.int .i64 (c:Int)):=hS 10 (by omega);have e11:ν 11=(.pointer (some ⟨R0,c*16,none⟩)):=hS 11 (by omega);have e12:ν 12=(.agg (iW (inn' c))):=hS 12 (by omega);have e13:ν 13=(.agg (iW (out2 k|||inn' c))):=hS 13 (by omega);clear hS;simp only[am,aw,zA,zB,zC,zD,zE,zF,zJ,zK,zG,zH,zI,e0,e1,e2,e3,e4,e5,e6,e7,e8,e9,e10,e11,e12,e13];have HT1:=ac (HT.out.ext hB);clear hI hD hB e0 e1 e2 e3 e4 e5 e6 e7 e8 e9 e10 e11 e12 e13;have ht:=LF HT1.out.f.out HK5.out (out2 k|||inn' c);have hk:=HK5.out
         go_wp2_with ((with_reducible show wpList _ _ _ (⟨none,.store 124 _ _,_,_,_,_⟩ :: _) _ _);refine wpList_store_mid rfl 124 _ _ rfl R1 (k*16) (iW (out2 k|||inn' c)) rfl rfl ht (PN _) (oY _) ?_)
         have HT3:=ac (HT1.out.put HLB.out HR1.out HTO.out HK5.out HC2.out HC3.out);obtain⟨w3,hw3⟩:∃w3,w3=w1.setCells R1 (k*16) (iW (out2 k|||inn' c)).toList:=⟨_,rfl⟩
         rw[<-hw3] at HT3|-;clear hw3 ht
         gi_wp2
         go_roundw
         case rel=>exact⟨q+1,_,by go_num,by omega,HT3⟩
         case measure=>simp[intOf];omega
       .have hq2:q=(toD x.h.t).length:=by omega
        subst hq2;have HTO2:Hid (∀c∈(iB (gN bs) k).to,∀i:Nat,i<1024->(inn' c).testBit i=true->(out2 k).testBit i=true):=λc hc i hi ht=>by
         rw[HBX.out] at hc;obtain⟨y,hy,rfl⟩:=a8.1 hc;obtain⟨j,hj,rfl⟩:=bj.1 hy;exact HT.out.d j _ hj (ah hj) i hi ht
        clear hlt hq HT0 hql
        gi_upto_region 13 with (fail)
        refine wpIn_region_lit ?_;refine oM (by repeat (first|exact gZ|refine iK ?_|refine hU ?_)) _ _ _ rfl ?_;have f1:=cK 0 HFr2.out rfl;have f2:=cK 0 HIr.out rfl;have f3:=fE HFr2.out;have hk:=HK5.out
        go_wp2_with (first
         |((with_reducible show wpList _ _ _ (⟨some 55,.load _ _,_,_,_,_⟩ :: _) _ _);refine dD rfl 124 _ rfl R0 (k*16) rfl (bsC (inn' k)) _ (pB HT.out.f.inn hk) bK rfl qV ?_;rw[vB])
         |((with_reducible show wpList _ _ _ (⟨none,.store 124 _ _,_,_,_,_⟩ :: _) _ _);refine aP rfl 124 _ _ rfl wr.heap.size (iW (inn' k)) rfl rfl 124 _ (ae _ _) (by rw[iE];exact iX) rfl (oY _) ?_))
        generalize hw9:World.setRow _ _ _=w9;have HB9:Hid (Below wr.heap.size wr w9):=by rw[<-hw9];exact aX (fD _ _) (aj _) _
        have HP9:Hid (w9.heap[wr.heap.size]? =some (bsO (inn' k))):=by rw[<-hw9];exact bt _ _ _ _ _ _ (ae _ _)
        have hsz:=HT.out.c.size
        replace HT:=ac (HT.out.ext HB9.out)
        replace HIr:Hid (w9.heap[P5]? =some (.cells #[.int .i64 (k:Int)] 3 (0,0))):=fB HB9.out HIr.out
        replace HBr:Hid (w9.heap[P5+1]? =some (oA x.h)):=fB HB9.out HBr.out
        replace HFr2:Hid (w9.heap[PF]? =some (BF bn R0 R1)):=HT.out.f.fl
        clear hw9 f1 f2 f3 HB9 HOr;generalize wr.heap.size=P9 at *;have HZ9:Hid (w5.heap.size<=P9):=hsz;clear hsz
        gi_upto_region 14 with (fail)
        refine xL 7 [some 56,some 57,some 58,some 59,some 60,some 61,some 62] (by kernel_rfl) (by kernel_rfl) (by repeat (first|exact gZ|refine iK ?_|refine hU ?_)) (by kernel_rfl) (jZ [.val (IE x.h),.val (.pointer (some ⟨PF,1,none⟩)),.val (.slice (some ⟨R1,0,none⟩) bn bn),.val (.int .i64 (k:Int)),.val (.pointer (some ⟨R1,k*16,none⟩)),.val (.agg (iW (out2 k))),(.any λv lo hi W=>v=.func (.func 144) #[] #[.pointer (some ⟨lo+1,0,none⟩),.pointer (some ⟨lo,0,none⟩)]/\lo+2=hi/\W.heap[lo]? =some (oA x.h)/\W.heap[lo+1]? =some (bsO (out2 k)))]) (jX ?_) ?_ ?_
        .intro k hk;simp only[aS,bO,cX] at hk;rcases hk with rfl|rfl|rfl|rfl|rfl|rfl|rfl<;>try exact trivial
         .rintro v lo hi w w' hb ⟨h1,h2,h3,h4⟩;exact⟨h1,h2,fB hb h3,fB hb h4⟩
        .intro i hi ν lo hi' w1 K hB hD hK;have hcase:i=0\/i=1\/i=2\/i=3\/i=4\/i=5\/i=6:=by omega
         clear hi;rcases hcase with rfl|rfl|rfl|rfl|rfl|rfl|rfl
         .clear hD;refine fF rfl rfl ?_;simp only[zA,zB,zC,zD,zE,zF,zJ,zK,zG,zH,zI] at hK|-;refine cy 121 _ rfl (P5+1) rfl 121 _ (0,0) _ (fB hB HBr.out) eZ rfl uf ?_;exact hK _ _ (ag _ _) rfl
         .clear hD;refine fF rfl rfl ?_;simp only[zA,zB,zC,zD,zE,zF,zJ,zK,zG,zH,zI] at hK|-;have hbl:=fE (fB hB HFr2.out);go_simp;exact hK _ _ (ag _ _) rfl
         .have e1:ν 1=(.pointer (some ⟨PF,1,none⟩)):=hD 1 (by kernel_rfl);clear hD;refine fF rfl rfl ?_;simp only[zA,zB,zC,zD,zE,zF,zJ,zK,zG,zH,zI,e1] at hK|-;have j1:=cK 1 (fB hB HFr2.out) rfl;go_simp;exact hK _ _ (ag _ _) rfl
         .clear hD;refine fF rfl rfl ?_;simp only[zA,zB,zC,zD,zE,zF,zJ,zK,zG,zH,zI] at hK|-;have j1:=cK 0 (fB hB HIr.out) rfl;go_simp;exact hK _ _ (ag _ _) rfl
         .have e2:ν 2=(.slice (some ⟨R1,0,none⟩) bn bn):=hD 2 (by kernel_rfl);have e3:ν 3=(.int .i64 (k:Int)):=hD 3 (by kernel_rfl);clear hD;refine fF rfl rfl ?_;simp only[zA,zB,zC,zD,zE,zF,zJ,zK,zG,zH,zI,e2,e3] at hK|-;have hk:=HK5.out;go_simp;exact hK _ _ (ag _ _) rfl
         .have e4:ν 4=(.pointer (some ⟨R1,k*16,none⟩)):=hD 4 (by kernel_rfl);clear hD;refine fF rfl rfl ?_;simp only[zA,zB,zC,zD,zE,zF,zJ,zK,zG,zH,zI,e4] at hK|-;refine cp 124 _ rfl R1 (k*16) rfl (bsC (out2 k)) _ (pB (iP.ext HT.out.f.out hB) HK5.out) bK rfl qV ?_;rw[vB];exact hK _ _ (ag _ _) rfl
         .have e0:ν 0=(IE x.h):=hD 0 (by kernel_rfl);have e5:ν 5=(.agg (iW (out2 k))):=hD 5 (by kernel_rfl);clear hD;refine fF rfl rfl ?_;simp only[zA,zB,zC,zD,zE,zF,zJ,zK,zG,zH,zI,e0,e5] at hK|-;go_simp;refine(LE x.h (out2 k) w1).mono ?_;rintro e w2 ⟨rfl,rfl⟩;refine hK _ _ (fC (fD _ _) (fD _ _)) ⟨rfl,by simp,fB (fD _ _) (ae _ _),?_⟩;have:=ae (w1.alloc (oA x.h)) (bsO (out2 k))
          rwa [dV] at this
        .intro ν lo hi w1 hB hS hI hD;have e0:ν 0=(IE x.h):=hS 0 (by omega);have e1:ν 1=(.pointer (some ⟨PF,1,none⟩)):=hS 1 (by omega);have e2:ν 2=(.slice (some ⟨R1,0,none⟩) bn bn):=hS 2 (by omega);have e3:ν 3=(.int .i64 (k:Int)):=hS 3 (by omega);have e4:ν 4=(.pointer (some ⟨R1,k*16,none⟩)):=hS 4 (by omega);have e5:ν 5=(.agg (iW (out2 k))):=hS 5 (by omega);have e6:=hS 6 (by omega);unfold jZ at e6;simp only[br,bq,nC] at e6;clear hS;simp only[am,aw,zA,zB,zC,zD,zE,zF,zJ,zK,zG,zH,zI,e0,e1,e2,e3,e4,e5];obtain⟨e6,e62,e63,e64⟩:=e6;simp only[e6];have i6:=hI 6 (by omega);have hi6:hi 6<=w1.heap.size:=by first|exact i6.2|exact i6.2.2|omega
         generalize lo 6=S0 at *;have HQ6:Hid (w9.heap.size<=S0/\S0+2<=w1.heap.size):=⟨i6.1,by omega⟩
         have HT1:=ac (HT.out.ext hB);have HI1:Hid (w1.heap[P5]? =some (.cells #[.int .i64 (k:Int)] 3 (0,0))):=fB hB HIr.out;have HP1:Hid (w1.heap[P9]? =some (bsO (inn' k))):=fB hB HP9.out;have HX1:=ac e63;have HS1:=ac e64;have HP9S:=fE HP9.out;have HZ1:Hid (w.heap.size+2<=w1.heap.size/\R0<w1.heap.size/\R1<w1.heap.size/\PF<w1.heap.size/\R0<S0/\w5.heap.size<=w1.heap.size/\P9<w1.heap.size):=by
          have h1:=HQ6.out;have h2:=HT.out.f;have h3:=(h2.inn.1.lt R0 rfl).2;have h4:=(h2.out.1.lt R1 rfl).2;have h5:=fE h2.fl;have h6:=fE h2.rs;have h7:=HT.out.c.size;exact⟨by omega,by omega,by omega,by omega,by omega,by omega,by omega⟩
         have HMX:=aK HX.out.2;have HNX:x.h.n<=17592186044416:=((HB.out.2 x HMX).2).1.2.1;clear hI hD hB e0 e1 e2 e3 e4 e5 e6 e62 e63 e64 i6 hi6 hk HP9 HIr HBr HFr2 HT HP9S;go_wp2
         gi_wp2
         refine SJ (l0:=lp) (r0:=rc) (HT1.out.kp lp _ (fB HX5.out HRC.out) rfl) (ps:=#[63,64]) (gf:=144) (lb:=#[.pointer (some ⟨S0+1,0,none⟩),.pointer (some ⟨S0,0,none⟩)]) (enc:=YV) (l:=yF x.h.t (out2 k) x.rs (x.h.n+1)) rfl DX (zg x (out2 k) (S0+1) S0) (GH x (out2 k) (S0+1) S0 (HNA.out x HMX) HNX) (λ_=>rfl)
          (λ_ s W=>Hid (∃m P,sh w (gX pa pn pc ba bn bc) bn R0 R1 PF x inn' out2 k w1 s m P W)) (λ_ _=>False) ?hJ2 (λ_=>iC.pure _ _) ?hInv2 (λ_ j=>j=R0) ?hT02 (λ_ _ _ _ _ _ _ h=>h) ?start2 ?round2 ?done2 ?stop2
         case hJ2=>exact λd s=>iC.ex λm=>iC.ex λP=>sh.steadyO HZ1.out.1 HZ1.out.2.1 HZ1.out.2.2.1 HZ1.out.2.2.2.1 (aj _)
         case hInv2=>
          intro d s W h;obtain⟨m,P,h⟩:=h.out;have h1:=HQ6.out;have h2:=HZ1.out;exact⟨(h.c.block _ (by omega) (by omega)).trans HS1.out,(h.c.block _ (by omega) (by omega)).trans HX1.out,(HB.out.2 x HMX).ext h.f.b⟩
         case hT02=>
          intro d s W j h e;obtain⟨m,P,h⟩:=h.out;have e:j=R0:=e;rw[e];exact(h.f.inn.1.lt R0 rfl).2
         case start2=>exact⟨x.h.n+1,inn' k,rfl,aj _,λe=>by omega,by rw[ox];exact HT1.out.f,Chg.refl _ _⟩
         case stop2=>rintro c W h;exact h.elim
         case round2=>
          rintro lp2 d ⟨j,P⟩ s W hd hJ;obtain⟨m,P0,hj⟩:=hJ.out;obtain⟨m',rfl,hy,hs⟩:=ES hj.e.symm;obtain⟨e1,e2⟩:=Prod.mk.inj hy;subst e1 hs;have HPE:=ac e2;have HM:=ac hj.l;have HJ:=ac hj;unfold YV;clear hJ hj hy hd e2
          gi_wp2_with ((with_reducible show wpListIn _ _ _ _ _ (⟨none,.store 124 _ _,_,_,_,_⟩ :: _) _ _);refine oM (by repeat (first|exact gZ|refine iK ?_|refine hU ?_|exact λ⟨_,_,h⟩=>h)) _ _ _ rfl ?_;refine aP rfl 124 _ _ rfl W.heap.size (iW P) rfl rfl 124 _ (ae _ _) (by rw[iE];exact iX) rfl (oY _) ?_)
          generalize hw3:World.setRow _ _ _=w3;have hb3:Below W.heap.size W w3:=by rw[<-hw3];exact aX (fD _ _) (aj _) _
          have hp3:w3.heap[W.heap.size]? =some (bsO P):=by rw[<-hw3];exact bt _ _ _ _ _ _ (ae _ _)
          clear hw3;go_wp2;refine⟨gC.ext hb3,⟨j+1,P0,(sh.steadyO HZ1.out.1 HZ1.out.2.1 HZ1.out.2.2.1 HZ1.out.2.2.2.1 (aj _)).ext HJ.out hb3⟩,⟨hb3.size,λi hj _=>hb3.block i hj,λi h=>.inl h⟩,λV=>Hid (V.heap[W.heap.size]? =some (bsO P)),fG.block _ _ rfl,hp3,?_⟩;obtain⟨P11,hP11⟩:∃P11,W.heap.size=P11:=⟨_,rfl⟩
          rw[hP11];clear hP11 hp3 hb3 HJ lp2 W w3;rintro lp2 W3 hlp2 ⟨rc2,hrc2⟩ hJ3 hG3;obtain⟨m3,P3,hj3⟩:=hJ3.out;have HJ3:=ac hj3;have HG3:=ac hG3.out;have HR0:Hid (w.heap.size+2<=R0/\R0≠R1/\R0≠PF):=⟨HPL.out.1,HPL.out.2.2.2.1,HPL.out.2.2.2.2.1⟩
          have hi3:W3.heap[P5]? =some (.cells #[.int .i64 (k:Int)] 3 (0,0)):=(hj3.c.block _ (fE HI1.out) (by have:=HLO.out;omega)).trans HI1.out;have f1:=cK 0 hj3.f.fl rfl;have f2:=cK 0 hi3 rfl;have f3:=fE hj3.f.fl;have hk:=HK5.out;have ht:=LF hj3.f.inn hk P;clear hj3 hJ3 hG3 hi3 hlp2 hrc2
          gi_upto_region 16 with (fail)
          refine wpIn_region_lit ?_;refine oM (by repeat (first|exact gZ|refine iK ?_|refine hU ?_)) _ _ _ rfl ?_
          go_wp2_with (first
           |((with_reducible show wpList _ _ _ (⟨some 68,.load _ _,_,_,_,_⟩ :: _) _ _);refine ay rfl 124 _ rfl P11 rfl 124 _ (0,0) _ HG3.out bK rfl (by rw[iE];exact iX) ?_)
           |((with_reducible show wpList _ _ _ (⟨none,.store 124 _ _,_,_,_,_⟩ :: _) _ _);refine wpList_store_mid rfl 124 _ _ rfl R0 (k*16) (iW P) rfl rfl ht (PN _) (oY _) ?_))
          obtain⟨q1,q2⟩:=HJ3.out.f.putIn HR0.out hk P;rw[ux] at q1;have q3:=pM W3 R0 (k*16) (iW P).toList;have Q1:=ac q1;have Q2:=ac q2;have Q3:=ac q3;generalize W3.setCells R0 (k*16) (iW P).toList=W4 at *;clear q1 q2 q3 f1 f2 f3 ht
          gi_wp2
          exact⟨Q2.out,⟨j,P,⟨rfl,by have:=HM.out;omega,λe=>by rw[HPE.out,e];rfl,Q1.out,HJ3.out.c.trans Q3.out⟩⟩,Q3.out.size,λj hj hne=>Q3.out.block j hj hne,λj h=>.inl h⟩
         case done2=>
          intro W hJ;obtain⟨m,P,hj⟩:=hJ.out;obtain rfl:=uy hj.e.symm;have hPE:=hj.z rfl;have HPL2:Hid (P<2^1024):=by rw[Hid,hPE];exact OG (HT1.out.l.outL k) _
          have HPB:Hid (∀j:Nat,j<1024->P.testBit j=nI (iB (gN bs) k).ops (iB (gN bs) k).nd (wU (out2 k)) (j:Int)):=λj hj=>by
           rw[hPE,BW _ _ _ hj,HBX.out];rfl
          have hdk:k∉d.map (·.1):=zY HD.out
          obtain⟨t1,t2,t3⟩:=ZJ (inn0:=inn) (inn:=inn') (out:=out') (out2:=out2) (k:=k) (P:=P) (ch:=ch) (eq:=eqW P (inn' k)) (d:=d.map (·.1)) (by rw[HLB.out];exact HK5.out) HT1.out.l HPL2.out HPB.out HT1.out.e HTO2.out
           (λe=>⟨(HNO.out e).1,λy hy=>by obtain⟨z,hz,rfl⟩:=a8.1 hy;exact(HNO.out e).2 z hz⟩) (by rw[HLB.out];exact HYE.out) hdk (Ak HPL2.out (HL2.out.inL k))
          have T1:=ac t1;have T2:=ac t2;have T3:=ac t3;have HF:=ac hj.f;have HC:=ac hj.c;have hp4:W.heap[p4]? =some (.cells #[.bool ch] 4 (0,0)):=by
           have h1:=fB HX5.out HCH2.out;have h2:=(HT1.out.c.block _ (fE h1) (by have:=HP4.out;omega)).trans h1;exact(hj.c.block _ (fE h2) (by have:=HP4.out;omega)).trans h2
          have hi3:W.heap[P5]? =some (.cells #[.int .i64 (k:Int)] 3 (0,0)):=(hj.c.block _ (fE HI1.out) (by have:=HLO.out;omega)).trans HI1.out;have hp9:W.heap[P9]? =some (bsO (inn' k)):=(hj.c.block _ (fE HP1.out) (by have:=HLO.out;have:=HZ9.out;have:=fE HI55.out;omega)).trans HP1.out;have HP4W:=ac hp4;have HKW:Hid (gC W2 W):=by
           obtain⟨o,h1,h2⟩:=QU HT1.out.f.inn.1;exact(gC.ext HX5.out).trans (HT1.out.kp.trans (KH h1 h2 HC.out))
          have HFIN:Hid (∀b,b=(ch|| !eqW P (inn' k))->gC W2 (W.drew.setCell ⟨p4,0,none⟩ (.bool b))/\Hid (RdJ w (gX pa pn pc ba bn bc) bn R0 R1 PF p4 G ba bc bs inn ds G (d++ [(k,x)]) (W.drew.setCell ⟨p4,0,none⟩ (.bool b)))):=by
           rintro b rfl;have hc:Chg (λj=>j=p4) W (W.drew.setCell ⟨p4,0,none⟩ (.bool (ch|| !eqW P (inn' k)))):=⟨rfl,rfl,rfl,by simp,λj _ hn=>aU _ _ _ _ (by simpa using hn)⟩
           have hk2:gC W2 (W.drew.setCell ⟨p4,0,none⟩ (.bool (ch|| !eqW P (inn' k)))):=HKW.out.trans ((gC.drew _).trans (gC.setCell _ _ _));refine⟨hk2,(ch|| !eqW P (inn' k)),lI inn' k P,out2,?_,HF.out.chg hc HP4.out,T1.out,λe=>?_,λe=>?_,?_,HMK2.out.keep hk2⟩
           .rw[aC _ _ _ _ _ _ (show W.drew.heap[p4]? =some (.cells #[.bool ch] 4 (0,0)) from HP4W.out)];rfl
           .refine⟨(T2.out e).1,λy hy=>(T2.out e).2 y.1 ?_⟩;rcases ax.1 hy with hy|hy
            .exact el _ (a8.2 ⟨y,hy,rfl⟩)
            .simp only[bz] at hy;subst hy;simp
           .have:=T3.out e
            rwa [HLB.out] at this
           .have hg:=HG1.out;have h0:=HGB.out;have hl:=bA _ _ h0;have h1:w5.heap[G]? =W2.heap[G]?:=HX5.out.block G hl;have h2:w1.heap[G]? =w5.heap[G]?:=HT1.out.c.block G (by have:=HX5.out.size;simp at hl;omega) (by omega);have h3:W.heap[G]? =w1.heap[G]?:=HC.out.block G (by have:=HX5.out.size;have:=HZ1.out;simp at hl;omega) (by omega);have h4:(W.drew.setCell ⟨p4,0,none⟩ (.bool (ch|| !eqW P (inn' k)))).heap[G]? =W.heap[G]?:=hc.block G (by have:=HC.out.size;have:=HX5.out.size;have:=HZ1.out;simp at hl;omega) (by omega);rw[<-h0];unfold World.cell?;simp only[h4,h3,h2,h1]
          have hne:Nonempty (fL W):=⟨⟨W,ag _ _⟩⟩
          have g0:∀n:fL W,n.val.cell? ⟨p4,0,none⟩=some (.bool ch):=λn=>fL.cell (cR hp4 rfl) n;have g1:∀n:fL W,n.val.cell? ⟨PF,0,none⟩=some (.slice (some ⟨R0,0,none⟩) bn bn):=λn=>fL.cell (cR hj.f.fl rfl) n;have g2:∀n:fL W,n.val.cell? ⟨P5,0,none⟩=some (.int .i64 (k:Int)):=λn=>fL.cell (cR hi3 rfl) n;have g3:=fE hj.f.fl;have g4:∀n:fL W,PF<n.val.heap.size:=λn=>bw g3 n.ext.size;have g5:∀w',(∃n:fL W,w'=n.val)->w'.heap[P9]? =some (bsO (inn' k)):=λw' ⟨n,e⟩=>by rw[e];exact fB n.ext hp9
          have g6:∀w',(∃n:fL W,w'=n.val)->w'.rangeAt R0 (k*16) (bsC P):=λw' ⟨n,e⟩=>by
           rw[e];have:=pB (iP.ext HF.out.inn n.ext) HK5.out;simpa[lI] using this
          obtain⟨eq,heq⟩:∃e,eqW P (inn' k)=e:=⟨_,rfl⟩
          rw[heq] at HFIN;have g7:∀V,(binOp .neq 124 (.agg (iW P)) (.agg (iW (inn' k)))).run Tryz.prog V=.ok (.bool (!eq)) V:=λV=>by rw[vn,heq]
          have hk:=HK5.out;clear T1 T2 T3 hj hJ t1 t2 t3 hdk hp4 hi3 hp9 heq hPE
          gi_upto_region 17 with (fail)
          cases ch
          all_goals refine rY (λw'=>∃n:fL W,w'=n.val) [(0,10,some (10,false))] (by kernel_rfl) (by kernel_rfl) (by kernel_rfl) (by repeat (first|exact gZ|refine iK ?_|refine hU ?_)) ⟨⟨_,gB (ag _ _) 1⟩,rfl⟩ ?_
          all_goals simp only[lS,ap,aD,am,aw]
          all_goals repeat (first
           |go_big_quiet_skip
           |((with_reducible show wpQuiet _ _ _ _ (⟨some 77,_,_,_,_,_⟩ :: _) _);refine fW (o:=⟨some 77,.load 124 _,_,_,_,_⟩) (by rfl) 124 _ rfl P9 rfl 124 _ (0,0) _ g5 bK rfl (by rw[iE];exact iX) ?_;simp only[Act.put,ar,aH,aF])
           |((with_reducible show wpQuiet _ _ _ _ (⟨some 76,_,_,_,_,_⟩ :: _) _);refine gU (o:=⟨some 76,.load 124 _,_,_,_,_⟩) (by rfl) 124 _ rfl R0 (k*16) rfl (bsC P) _ g6 bK rfl qV ?_;simp only[vB,Act.put,ar,aH,aF])
           |go_big_quiet_step (fail))
          all_goals
           refine aq ?_;refine fR rfl rfl ?_;have s2:=fE (show W.drew.heap[p4]? =some _ from HP4W.out);have s0:=(g0 ⟨W.drew,gB (ag _ _) 1⟩)
           have s1:W.drew.frozen? ⟨p4,0,none⟩=false:=cY W.drew _ _ _ _ HP4W.out;clear g0 g1 g2 g4 g5 g6 g7;go_simp;refine bR ?_;go_wp2;exact HFIN.out _ rfl
    case done=>
     rintro D W hD hJ hdf;obtain⟨ch,inn',out',hch,hf,hl,hno,hyes,_,hmk⟩:=hJ.out;have hc0:=cK 0 hch rfl;have HCD:=ac hch;have HFD:=ac hf;have HLD:=ac hl;have HNO:=ac hno;have HYE:=ac hyes;have HMD:=ac hmk;have HDF:=ac hdf;have HDD:=ac hD;clear hch hf hl hno hyes hmk hdf hD hJ
     gi_wp2
     have hwl:=fE HCD.out;have hf:=HFD.out;have hP:w.heap.size+2<=W.heap.size/\W.heap.size≠R0/\W.heap.size≠R1/\W.heap.size≠PF:=by
      have h1:=fE hf.fl;have h2:=(hf.inn.1.lt R0 rfl).2;have h3:=(hf.out.1.lt R1 rfl).2;have h4:=HPL.out;exact⟨by omega,by omega,by omega,by omega⟩
     have hD:=HDD.out;have hz:=HZ4.out;have hg0:=HG0.out;have hdl:=fE HDF.out;have hp4:=HP4.out;have hmm:m=yG bn inn+1:=HM.out;refine⟨bif ch then yG bn inn'+1 else 0,?_,λs=>if s=4 then .pointer (some ⟨W.heap.size,0,none⟩) else if s=21 then .bool true else if s=22 then .pointer (some ⟨w.heap.size,1,none⟩) else if s=23 then .slice ba bn bc else if s=24 then .func (.func 218) #[] #[.pointer (some ⟨G,0,none⟩)] else .bool ch,{target:=.collected D,args:=#[]} :: ds,rfl,ch,W.heap.size,inn',out',rfl,rfl,ae _ _,hP,hf.ext (fD _ _),HLD.out,?_,?_⟩
     .cases ch with
      |true=>have:=HYE.out rfl;simp only[cond_true];omega
      |false=>simp only[cond_false];omega
     .intro hcf;obtain⟨_,hcl⟩:=HNO.out hcf;have hlb:bs.length=bn:=HB.out.1.1;have key:∀b,b<(gN bs).length->IT (gN bs) inn' out' b:=λb hb=>by
       rw[kF] at hb;exact hcl (b,bs[b]) (PP (by omega) (ah hb))
      exact⟨λb hb=>(key b hb).1,λb hb=>(key b hb).2⟩
     .exact(HMD.out.cons (by omega) (by omega) (by rw[dV];omega) HDF.out).keep (gC.ext (fD _ _))
end
end Go.Proofs.YtbknbcmppdglhaaGreatDoor
