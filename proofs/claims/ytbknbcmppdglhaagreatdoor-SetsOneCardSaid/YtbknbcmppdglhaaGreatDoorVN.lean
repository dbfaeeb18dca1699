/-
 live.Of.
-/
import Derived.Test.YtbknbcmppdglhaaGreatDoorA0
import Derived.Test.YtbknbcmppdglhaaGreatDoorSD
import Derived.Sort.CutIn
namespace Go.Proofs.YtbknbcmppdglhaaGreatDoor
set_option linter.unusedSimpArgs false
set_option linter.unusedVariables false
set_option linter.unusedSectionVars false
set_option maxRecDepth 100000
set_option maxHeartbeats 40000000
section
open Go.RowKit Go.Shelf
attribute [local go_sem] Oper.semAt_some iF gH gS fX
abbrev ke:Obj:=BE iG iG iG
theorem CC(pa:Option Addr)(pn pc:Nat)(ps:List Int)(ba:Option Addr)(bn bc:Nat)(bs:List iA)(w:World)(hp:iJ w pa pn ps)(h:lY w ba bn bs)(hT:Tab w):
  Calls Tryz.prog 22 #[mB pa pn pc ba bn bc] w (yx ps bs w):=by
 refine(bu (n:=0)).1 ?_
 refine cu Tryz.func22 rfl trivial ?_
 simp only[Tryz.ntmps22,bd,bk,bx,Nat.reduceAdd,Nat.reduceSub,bF,bG,bV,bN,bD,bU]
 have HPI:=ac hp
 have HB:=ac h
 have HTB:=ac hT
 have HLb:=ac h.1.1
 clear hp h hT
 gi_upto_region 1 with (fail)
 generalize hw0:World.alloc _ _=w0
 have HB0:Hid (Below w.heap.size w w0):=by rw[<-hw0];exact fC (fD _ _) (fD _ _)
 have HF0:Hid (w0.heap[w.heap.size]? =some (gX pa pn pc ba bn bc)):=by rw[<-hw0];exact fB (fD _ _) (ae _ _)
 have HZ0:Hid (w0.heap[w.heap.size+1]? =some ke):=by
  have:=ae (w.alloc (gX pa pn pc ba bn bc)) ke;rw[Hid,<-hw0];simpa using this
 have HS0:Hid (w0.heap.size=w.heap.size+2):=by rw[Hid,<-hw0];simp
 clear hw0
 by_cases hR:mF ps bs=0
 rotate_left
 .have hne:(mF ps bs != 0)=true:=by simpa using hR
  have HR:=ac hR;clear hR
  gi_wp2_with (first
   |((with_reducible show wpListIn _ _ _ _ _ (⟨some 10,.load _ _,_,_,_,_⟩ :: _) _ _);refine iS rfl 25 _ rfl w.heap.size rfl 25 _ (0,0) _ HF0.out aJ rfl gE ?_)
   |(gi_at_call 21
     refine(bu.2 (vH pa pn pc ps ba bn bc bs w0 (HPI.out.ext HB0.out) (HB.out.ext HB0.out))).mono ?_;rintro e w1 ⟨rfl,hb1⟩;have HZ1:=ac (fB hb1 HZ0.out);have HB1:=ac (fC HB0.out hb1);obtain⟨z0,z1,z2⟩:=TO HZ1.out rfl;obtain⟨y0,y1,y2⟩:=Cv HZ1.out;have hl1:=fE HZ1.out
     clear hb1))
  obtain⟨w4,hw4⟩:∃w4,w4=((w1.setCell ⟨w.heap.size+1,0,none⟩ iG).setCell ⟨w.heap.size+1,1,none⟩ iG).setCell ⟨w.heap.size+1,2,none⟩ iG:=⟨_,rfl⟩
  rw[<-hw4];have hz4:w4.heap[w.heap.size+1]? =some ke:=by
   rw[hw4,aC _ _ _ _ _ _ (aC _ _ _ _ _ _ (aC _ _ _ _ _ _ HZ1.out))];rfl
  have hb4:Below w.heap.size w w4:=by rw[hw4];exact((HB1.out.setCell (by simp) _).setCell (by simp) _).setCell (by simp) _
  refine tO (by simp) (lo:=w.heap.size+2) (hi:=w.heap.size+2) (λW=>W.heap[w.heap.size+1]? =some ke/\Below w.heap.size w W) ((fG.block _ _ rfl).and (fG.below (aj _) (by omega))) (λW hj=>?_) [] w4 (lU.nil _ _ _) ⟨hz4,hb4⟩;obtain⟨k0,k1,k2⟩:=TO hj.1 rfl;exact⟨.tuple #[.agg #[iG,iG,iG],.int .i64 2],by simp[results,Tryz.results22,asAddr,k0,k1,k2,go_sem],.inl ⟨HR.out,rfl⟩,hj.2⟩
 .obtain⟨hlong,hwh,hti⟩:=vD hR;have hbnd:0<bn/\bn<=200:=by
   rw[rC,HLb.out] at hlong;simp only[cV,cg] at hlong;omega
  obtain⟨hb0,hb200⟩:=hbnd;have HN64:Hid (∀x∈bs,x.h.n<=64):=λx hx=>by
   rw[rC] at hlong;simp only[cV,dQ] at hlong;have:=hlong.2 x.h (a8.2 ⟨x,hx,rfl⟩);simpa using this
  have HNA:=ac (CX HB.out hwh);have HIN:=ac hti;have HRZ:=ac hR;have hne:(mF ps bs != 0)=false:=by simpa using hR
  clear hlong hwh hti hR
  gi_upto_region 4 with (first
   |((with_reducible show wpListIn _ _ _ _ _ (⟨some 10,.load _ _,_,_,_,_⟩ :: _) _ _);refine iS rfl 25 _ rfl w.heap.size rfl 25 _ (0,0) _ HF0.out aJ rfl gE ?_)
   |(gi_at_call 21
     refine(bu.2 (vH pa pn pc ps ba bn bc bs w0 (HPI.out.ext HB0.out) (HB.out.ext HB0.out))).mono ?_;rintro e w1 ⟨rfl,hb1⟩;have HZ1:=ac (fB hb1 HZ0.out);have HF1:=ac (fB hb1 HF0.out);have HB1:=ac (fC HB0.out hb1);have HS1:Hid (w.heap.size+2<=w1.heap.size):=(by have:=hb1.size;have:=HS0.out;show w.heap.size+2<=_;omega)
     clear hb1)
   |((with_reducible show wpListIn _ _ _ _ _ (⟨some 14,.load _ _,_,_,_,_⟩ :: _) _ _);refine iS rfl 25 _ rfl w.heap.size rfl 25 _ (0,0) _ HF1.out aJ rfl gE ?_)
   |(gi_at_call 51
     refine(bu.2 (ZR pa pn pc ba bn bc bs w1 (HB.out.ext HB1.out) hb0 hb200 HIN.out HNA.out)).mono ?_;rintro e w2 ⟨R0,R1,inn,out,rfl,hi,ho,hlv,hen,hb2⟩;have HI2:=ac hi;have HO2:=ac ho;have HLV:=ac hlv;have HEN:=ac hen;have HB2:=ac (fC HB1.out hb2);have HX2:=ac hb2
     clear hi ho hlv hen hb2))
  have hbase:w.heap.size+2<=w1.heap.size:=HS1.out;obtain⟨w3,hw3⟩:∃w3,w3=w2.alloc (BF bn R0 R1):=⟨_,rfl⟩
  rw[<-hw3];have hx3:Below w2.heap.size w2 w3:=by rw[hw3];exact fD _ _
  have HL0:Hid (LfJ w (gX pa pn pc ba bn bc) (gN bs) bn R0 R1 w2.heap.size inn out iG iG iG (λ_=>0) 0 0 0 w3):=
   LfJ.start (fB hx3 (fB HX2.out HF1.out)) (fB hx3 (fB HX2.out HZ1.out)) (by rw[hw3];exact ae _ _) (iP.ext (HI2.out.mono hbase) hx3) (iP.ext (HO2.out.mono hbase) hx3) (fC HB2.out hx3)
  have HP0:Hid (w.heap.size+2<=R0/\w.heap.size+2<=R1/\R0<w2.heap.size/\R1<w2.heap.size/\w.heap.size+2<=w2.heap.size):=by
   have h1:=(HI2.out.1.lt R0 rfl)
   have h2:=(HO2.out.1.lt R1 rfl)
   exact⟨by omega,by omega,by omega,by omega,by omega⟩
  clear hw3 hx3 hbase HI2 HO2 HX2 HB2 HZ1 HF1 HB1 HF0 HZ0 HB0 HS0 HS1;generalize w2.heap.size=PF at *;have hf1:=cK 1 HL0.out.fn rfl;have hfl:=fE HL0.out.fn
  gi_wp2
  clear hf1 hfl;refine uK [5,6,7,19,20,21,22,23,24,25,26,27,28,29,30,31,32,33,34,35,36,37,38,39,40,41,42,43,44,45,46,47,48,49,50,51,52,53,54,55,56,57,65,66,67,68,69,70,71] (λr u ds W=>∃(k:Nat) (vI vO vA:Value) (gs:Nat->Nat),r=bn-k/\k<=bn/\u 19=.int .i64 (k:Int)/\Hid (LfJ w (gX pa pn pc ba bn bc) (gN bs) bn R0 R1 PF inn out vI vO vA gs k k k W)/\Hid (lU (w.heap.size+2) W.heap.size ds W)) bn ?_ ?_
  .exact⟨0,_,_,_,_,rfl,by omega,rfl,HL0,lU.nil _ _ _⟩
  .rintro r u ds wr ⟨k,vI,vO,vA,gs,rfl,hk,e19,HLJ,HMK⟩;clear HL0;refine dy.2 ?_;simp only[uY,ed,List.foldl_nil,ar,aH,aF,e19];by_cases hlt:k<bn
   .have hlt':(k:Int)<(bn:Int):=by omega
    obtain⟨x,b,o,hx,hok,rfl,c0,c1,c2,c3,c4⟩:=mJ (HB.out.ext HLJ.out.b) hlt;have HXK:=ac hx;have HMB:Hid (atN (gN bs) k=x.h.n+1):=by
     rw[Hid,atN,qD hx];show(x.rs.map λr=>(⟨gV r.d,gM r.d⟩:OpL)).length+1=_;rw[cT,hok.2.1.1]
    have HLS:=ac (gz HLV.out HEN.out HIN.out hx);have HN6:Hid (x.h.n<=64):=HN64.out x (aK hx);clear hx hok e19;go_upto_region 7 with (fail)
    clear c0 c1 c2 c3 c4;obtain⟨w4,hw4⟩:∃w4,w4=wr.alloc (oA x.h):=⟨_,rfl⟩
    rw[<-hw4];have hx4:Below wr.heap.size wr w4:=by rw[hw4];exact fD _ _
    have HB6:Hid (w4.heap[wr.heap.size]? =some (oA x.h)):=by rw[hw4];exact ae _ _
    have HL4:=ac (HLJ.out.ext hx4);have HMK4:=ac ((HMK.out.mono (hi':=w4.heap.size) hx4.size).keep (gC.ext hx4));have HP6:Hid (w.heap.size+2<=wr.heap.size):=by
     have h1:=fE HLJ.out.fl;have h2:=HP0.out;show w.heap.size+2<=_;omega
    clear hw4 hx4 HLJ HMK;generalize wr.heap.size=P6 at *;have hxI:=HL4.out.gI;obtain⟨aI,cI,hvI⟩:=hxI.form;rw[iR] at hvI;subst hvI;have k1:∀n:mL (λW'=>w4.grownBy W' (Value.slice aI k cI).ownBlock),n.val.cell? ⟨w.heap.size+1,0,none⟩=some (.slice aI k cI):=λn=>cR (HL4.out.cls HL4.out.ia n.prop).1 rfl;have k2:∀n:mL (λW'=>w4.grownBy W' (Value.slice aI k cI).ownBlock),n.val.cell? ⟨PF,0,none⟩=some (.slice (some ⟨R0,0,none⟩) bn bn):=λn=>cR (HL4.out.cls HL4.out.ia n.prop).2.1 rfl;have k3:∀n:mL (λW'=>w4.grownBy W' (Value.slice aI k cI).ownBlock),w.heap.size+1<n.val.heap.size:=λn=>fE (HL4.out.cls HL4.out.ia n.prop).1;have k4:∀n:mL (λW'=>w4.grownBy W' (Value.slice aI k cI).ownBlock),PF<n.val.heap.size:=λn=>fE (HL4.out.cls HL4.out.ia n.prop).2.1;have k5:∀w',(∃n:mL (λW'=>w4.grownBy W' (Value.slice aI k cI).ownBlock),w'=n.val)->w'.rangeAt R0 (k*16) (bsC (inn k)):=λw' ⟨n,e⟩=>by rw[e];exact pB (HL4.out.cls HL4.out.ia n.prop).2.2.1 hlt
    have HNE:Nonempty (mL (λW'=>w4.grownBy W' (Value.slice aI k cI).ownBlock)):=wZ (vK _ _);clear hxI;refine jC (λw'=>∃n:mL (λW'=>w4.grownBy W' (Value.slice aI k cI).ownBlock),w'=n.val) [(0,7,some (7,true)),(8,0,some (8,true)),(9,0,some (9,true)),(10,1,some (11,false))] (by kernel_rfl) (by kernel_rfl) (kX (vK _ _)) ?_;simp only[lS,ap,aD,am,aw]
    repeat (first
     |go_big_quiet_skip
     |((with_reducible show wpQuiet _ _ _ _ (⟨some 30,_,_,_,_,_⟩ :: _) _);refine gU (o:=⟨some 30,.load 124 _,_,_,_,_⟩) (by rfl) 124 _ rfl R0 (k*16) rfl (bsC (inn k)) _ k5 bK rfl qV ?_;simp only[vB,Act.put,ar,aH,aF])
     |go_big_quiet_step (fail))
    refine aq ?_;refine fR rfl rfl ?_;go_simp;refine(FN (inn k) w4.drew (HTB.out.ext (fC HL4.out.b (gB (ag _ _) 1)))).mono ?_;rintro e w5 ⟨v,rfl,ho,hb⟩;obtain⟨al,cl,rfl⟩:=ho.form
    replace hb:=lH hb
    have hLI:=HL4.out.ext hb;have hg0:w4.grownBy w5 (Value.slice aI k cI).ownBlock:=⟨hb.os,hb.tape,hb.output,hb.size,λj hj _=>hb.block j hj⟩
    refine⟨kX hg0,?_⟩;refine aq ?_;refine fR rfl rfl ?_;go_simp;refine⟨kX (AU hg0 (eW _ _ _)),?_⟩;refine aq ?_;obtain⟨us,hus,hown,hty,hnext⟩:=hLI.gI.own;rw[iR] at hown hus;refine fR rfl rfl ?_;refine pC w5 (.tmp 25) (.tmp 32) 49 22 rfl (w.heap.size+2) _ 1 24 fw ZC rfl (by omega) (.slice aI k cI) k us [.slice al (fN (lT 1024 (inn k))).length cl] rfl hown w5.heap.size rfl rfl rfl (by simp[Value.oneCell']) (by simp only[maxLen];omega) (by omega) (aT (by have:=fE hLI.lv;omega) (aj _)) ?_;intro g cap w8 hown8 hg8 hat8;have hl8:=hnext w8 g cap (.slice al (fN (lT 1024 (inn k))).length cl) (fN (lT 1024 (inn k))) (by rw[iR];exact hown8) hg8 rfl ((ho.mono (by have:=fE HL4.out.lv;show w.heap.size+2<=w4.heap.size;omega)).keptT hg8 hty);rw[iR,HLS.out.1,FI] at hl8;obtain⟨hp8,hz8⟩:=hLI.pushI hg8 hl8 λq e=>by
     simp only[Value.ownBlock,aW] at e;subst e;rcases hat8 with h|h
     .exact .inl h.symm
     .right;omega
    have HL5:=ac hp8;obtain⟨q1,q2⟩:=cz 0 hz8 rfl;have q3:=fE hz8;refine⟨kX (AU hg0 hg8),?_⟩;simp only[zJ,zG,zH,zI]
    repeat (go_big_quiet_step (fail))
    refine aq ?_;clear k1 k2 k3 k4 k5 HNE;refine fR rfl rfl ?_;go_simp;refine bR ?_;obtain⟨w6,hw6⟩:∃w6,w6=w8.setCell ⟨w.heap.size+1,0,none⟩ (.slice (some ⟨g,0,none⟩) (k+1) cap):=⟨_,rfl⟩
    rw[<-hw6] at HL5|-;have hb6:=fB hb HB6.out;have HB66:Hid (w6.heap[P6]? =some (oA x.h)):=by
     rw[Hid,hw6,aU _ _ _ _ (by have:=HP6.out;simp;omega)];exact(hg8.block _ (fE hb6) λe=>qT hown (gW.of hb6 (by decide)) e.symm).trans hb6
    have hs6:w4.heap.size<=w6.heap.size:=by rw[hw6,fi];exact aT hb.size hg8.size
    have HMK6:Hid (lU (w.heap.size+2) w6.heap.size ds w6):=by
     have:=HMK4.out.mono hs6;rw[Hid];refine this.keep ((gC.ext hb).trans ((EZ hown hg8).trans ?_));rw[hw6];exact gC.setCell _ _ _
    clear q1 q2 q3 hz8 hp8 hl8 hown8 hg8 hat8 hnext hty hown hus us hg0 hLI hb ho hw6 hb6 hs6 HL4 HB6 HMK4;generalize w5.heap.size=s5;clear w8 w5;go_upto_region 8 with (fail)
    have hxO:=HL5.out.gO;obtain⟨aO,cO,hvO⟩:=hxO.form;rw[iR] at hvO;subst hvO;have k1:∀n:mL (λW'=>w6.grownBy W' (Value.slice aO k cO).ownBlock),n.val.cell? ⟨w.heap.size+1,1,none⟩=some (.slice aO k cO):=λn=>cR (HL5.out.cls HL5.out.oa n.prop).1 rfl;have k2:∀n:mL (λW'=>w6.grownBy W' (Value.slice aO k cO).ownBlock),n.val.cell? ⟨PF,1,none⟩=some (.slice (some ⟨R1,0,none⟩) bn bn):=λn=>cR (HL5.out.cls HL5.out.oa n.prop).2.1 rfl;have k3:∀n:mL (λW'=>w6.grownBy W' (Value.slice aO k cO).ownBlock),w.heap.size+1<n.val.heap.size:=λn=>fE (HL5.out.cls HL5.out.oa n.prop).1;have k4:∀n:mL (λW'=>w6.grownBy W' (Value.slice aO k cO).ownBlock),PF<n.val.heap.size:=λn=>fE (HL5.out.cls HL5.out.oa n.prop).2.1;have k5:∀w',(∃n:mL (λW'=>w6.grownBy W' (Value.slice aO k cO).ownBlock),w'=n.val)->w'.rangeAt R1 (k*16) (bsC (out k)):=λw' ⟨n,e⟩=>by rw[e];exact pB (HL5.out.cls HL5.out.oa n.prop).2.2.2 hlt
    have HNE:Nonempty (mL (λW'=>w6.grownBy W' (Value.slice aO k cO).ownBlock)):=wZ (vK _ _);clear hxO;refine jC (λw'=>∃n:mL (λW'=>w6.grownBy W' (Value.slice aO k cO).ownBlock),w'=n.val) [(0,7,some (7,true)),(8,0,some (8,true)),(9,0,some (9,true)),(10,1,some (11,false))] (by kernel_rfl) (by kernel_rfl) (kX (vK _ _)) ?_;simp only[lS,ap,aD,am,aw]
    repeat (first
     |go_big_quiet_skip
     |((with_reducible show wpQuiet _ _ _ _ (⟨some 41,_,_,_,_,_⟩ :: _) _);refine gU (o:=⟨some 41,.load 124 _,_,_,_,_⟩) (by rfl) 124 _ rfl R1 (k*16) rfl (bsC (out k)) _ k5 bK rfl qV ?_;simp only[vB,Act.put,ar,aH,aF])
     |go_big_quiet_step (fail))
    refine aq ?_;refine fR rfl rfl ?_;go_simp;refine(FN (out k) w6.drew (HTB.out.ext (fC HL5.out.b (gB (ag _ _) 1)))).mono ?_;rintro e w7 ⟨v,rfl,ho,hb⟩;obtain⟨al2,cl2,rfl⟩:=ho.form
    replace hb:=lH hb
    have hLO:=HL5.out.ext hb;have hg0:w6.grownBy w7 (Value.slice aO k cO).ownBlock:=⟨hb.os,hb.tape,hb.output,hb.size,λj hj _=>hb.block j hj⟩
    refine⟨kX hg0,?_⟩;refine aq ?_;refine fR rfl rfl ?_;go_simp;refine⟨kX (AU hg0 (eW _ _ _)),?_⟩;refine aq ?_;obtain⟨us,hus,hown,hty,hnext⟩:=hLO.gO.own;rw[iR] at hown hus;refine fR rfl rfl ?_;refine pC w7 (.tmp 36) (.tmp 43) 49 22 rfl (w.heap.size+2) _ 1 24 fw ZC rfl (by omega) (.slice aO k cO) k us [.slice al2 (fN (lT 1024 (out k))).length cl2] rfl hown w7.heap.size rfl rfl rfl (by simp[Value.oneCell']) (by simp only[maxLen];omega) (by omega) (aT (by have:=fE hLO.lv;omega) (aj _)) ?_;intro g2 cap2 w11 hown8 hg8 hat8;have hl8:=hnext w11 g2 cap2 (.slice al2 (fN (lT 1024 (out k))).length cl2) (fN (lT 1024 (out k))) (by rw[iR];exact hown8) hg8 rfl ((ho.mono (by have:=fE HL5.out.lv;show w.heap.size+2<=w6.heap.size;omega)).keptT hg8 hty);rw[iR,HLS.out.2.1,FI] at hl8;obtain⟨hp8,hz8⟩:=hLO.pushO hg8 hl8 λq e=>by
     simp only[Value.ownBlock,aW] at e;subst e;rcases hat8 with h|h
     .exact .inl h.symm
     .right;omega
    have HL9:=ac hp8;obtain⟨q1,q2⟩:=cz 1 hz8 rfl;have q3:=fE hz8;refine⟨kX (AU hg0 hg8),?_⟩;simp only[zJ,zG,zH,zI]
    repeat (go_big_quiet_step (fail))
    refine aq ?_;clear k1 k2 k3 k4 k5 HNE;refine fR rfl rfl ?_;go_simp;refine bR ?_;obtain⟨w9,hw9⟩:∃w9,w9=w11.setCell ⟨w.heap.size+1,1,none⟩ (.slice (some ⟨g2,0,none⟩) (k+1) cap2):=⟨_,rfl⟩
    rw[<-hw9] at HL9|-;have hb9:=fB hb HB66.out;have HB9:Hid (w9.heap[P6]? =some (oA x.h)):=by
     rw[Hid,hw9,aU _ _ _ _ (by have:=HP6.out;simp;omega)];exact(hg8.block _ (fE hb9) λe=>qT hown (gW.of hb9 (by decide)) e.symm).trans hb9
    have hs9:w6.heap.size<=w9.heap.size:=by rw[hw9,fi];exact aT hb.size hg8.size
    have HMK9:Hid (lU (w.heap.size+2) w9.heap.size ds w9):=by
     have:=HMK6.out.mono hs9;rw[Hid];refine this.keep ((gC.ext hb).trans ((EZ hown hg8).trans ?_));rw[hw9];exact gC.setCell _ _ _
    clear q1 q2 q3 hz8 hp8 hl8 hown8 hg8 hat8 hnext hty hown hus us hg0 hLO hb ho hw9 hb9 hs9 HL5 HB66 HMK6;generalize w7.heap.size=s9;clear w11 w7;have hb6:=HB9.out;have l0:=cK 0 hb6 rfl;have l1:=fE hb6;have hn64:x.h.n<=64:=HN6.out;have hm:=Ab (x.h.n+1) (by omega) w9;rw[show((x.h.n+1:Nat):Int)=(x.h.n:Int)+1 by omega] at hm;clear hb6;go_upto_region 10 with (fail)
    clear hm l0 l1;clear hn64;obtain⟨w12,hw12⟩:∃w12,w12=(w9.alloc (yz (x.h.n+1))).alloc (.cells #[.slice (some ⟨w9.heap.size,0,none⟩) (x.h.n+1) (x.h.n+1)] 49):=⟨_,rfl⟩
    rw[<-hw12];have hx12:Below w9.heap.size w9 w12:=by rw[hw12];exact fC (fD _ _) (fD _ _)
    have HTG:Hid (w12.heap[w9.heap.size]? =some (yz (x.h.n+1))):=by rw[hw12];exact fB (fD _ _) (ae _ _)
    have HP7:Hid (w12.heap[w9.heap.size+1]? =some (.cells #[.slice (some ⟨w9.heap.size,0,none⟩) (x.h.n+1) (x.h.n+1)] 49 (0,0))):=by
     have:=ae (w9.alloc (yz (x.h.n+1))) (.cells #[.slice (some ⟨w9.heap.size,0,none⟩) (x.h.n+1) (x.h.n+1)] 49);rw[Hid,hw12];simpa using this
    have HS12:Hid (w12.heap.size=w9.heap.size+2):=by rw[Hid,hw12];simp
    have HL12:=ac (HL9.out.ext hx12);have HB12:=ac (fB hx12 HB9.out);have HMK12:=ac ((HMK9.out.mono (hi':=w12.heap.size) hx12.size).keep (gC.ext hx12));have HAPI:Hid ((Value.slice (some ⟨g,0,none⟩) (k+1) cap).ownBlock≠some w9.heap.size):=λe=>by have:=(HL9.out.gI.lt e).2.1;omega
    have HAPO:Hid ((Value.slice (some ⟨g2,0,none⟩) (k+1) cap2).ownBlock≠some w9.heap.size):=λe=>by have:=(HL9.out.gO.lt e).2.1;omega
    have HAPG:Hid (∀j,j<k->gs j≠w9.heap.size):=λj hj e=>by
     obtain⟨us,h5,_⟩:=HL9.out.tb j hj;have:=fE h5;omega
    have HTGL:Hid (w.heap.size+2<=w9.heap.size/\R0<w9.heap.size/\R1<w9.heap.size/\PF<w9.heap.size/\P6<w9.heap.size):=by
     have h1:=fE HL9.out.fl;have h2:=HP0.out;have h3:=fE HB9.out;exact⟨by omega,by omega,by omega,by omega,h3⟩
    clear hw12 hx12 HL9 HB9 HMK9;generalize w9.heap.size=TG at *;generalize hvI:Value.slice (some ⟨g,0,none⟩) (k+1) cap=vI at HL12 HAPI;generalize hvO:Value.slice (some ⟨g2,0,none⟩) (k+1) cap2=vO at HL12 HAPO;clear hvI hvO;have HBX:=ac (HB.out.ext HL12.out.b);have g1:∀w',(∃n:fL w12,w'=n.val)->w'.heap[P6]? =some (oA x.h):=λw' ⟨n,e⟩=>by rw[e];exact fB n.ext HB12.out
    have g2':∀n:fL w12,n.val.cell? ⟨PF,1,none⟩=some (.slice (some ⟨R1,0,none⟩) bn bn):=λn=>cR (fB n.ext HL12.out.fl) rfl;have g3:∀n:fL w12,PF<n.val.heap.size:=λn=>bw (fE HL12.out.fl) n.ext.size;have g4:∀w',(∃n:fL w12,w'=n.val)->w'.rangeAt R1 (k*16) (bsC (out k)):=λw' ⟨n,e⟩=>by rw[e];exact pB (iP.ext HL12.out.out n.ext) hlt
    have HNE:Nonempty (fL w12):=⟨⟨w12,ag _ _⟩⟩
    refine jC (λw'=>∃n:fL w12,w'=n.val) [(0,6,some (6,false))] (by kernel_rfl) (by kernel_rfl) ⟨⟨_,gB (ag _ _) 1⟩,rfl⟩ ?_;simp only[lS,ap,aD,am,aw]
    repeat (first
     |go_big_quiet_skip
     |((with_reducible show wpQuiet _ _ _ _ (⟨some 51,_,_,_,_,_⟩ :: _) _);refine fW (o:=⟨some 51,.load 121 _,_,_,_,_⟩) (by rfl) 121 _ rfl P6 rfl 121 _ (0,0) _ g1 eZ rfl rfl ?_;simp only[Act.put,ar,aH,aF])
     |((with_reducible show wpQuiet _ _ _ _ (⟨some 56,_,_,_,_,_⟩ :: _) _);refine gU (o:=⟨some 56,.load 124 _,_,_,_,_⟩) (by rfl) 124 _ rfl R1 (k*16) rfl (bsC (out k)) _ g4 bK rfl qV ?_;simp only[vB,Act.put,ar,aH,aF])
     |go_big_quiet_step (fail))
    refine aq ?_;clear g1 g2' g3 g4 HNE;refine fR rfl rfl ?_;go_simp;refine(LE x.h (out k) w12.drew).mono ?_;rintro e w13 ⟨rfl,hw13⟩;refine bR ?_;have hx13:Below w12.heap.size w12 w13:=by rw[hw13];exact lH (fC (fD _ _) (fD _ _))
    have h130:w13.heap[TG+2]? =some (oA x.h):=by
     rw[<-HS12.out,hw13];exact fB (fD _ _) (ae w12.drew _)
    have h131:w13.heap[TG+2+1]? =some (bsO (out k)):=by
     have:=ae (w12.drew.alloc (oA x.h)) (bsO (out k));rw[dV] at this;rw[<-HS12.out,hw13];exact this
    have hs13:w13.heap.size=TG+4:=by
     rw[hw13,dV,dV];show w12.heap.size+1+1=_;rw[HS12.out]
    have HT0:Hid (IZ w (gX pa pn pc (some ⟨b,o,none⟩) bn bc) (gN bs) bn R0 R1 PF inn out vI vO vA gs k x TG (TG+1) (TG+2) w13.heap.size ds (x.h.n+1) w13):=
     ⟨HL12.out.ext hx13,⟨λ_=>iG,fB hx13 HTG.out,λi h1 h2=>absurd h2 (by omega)⟩,fB hx13 HP7.out,h130,h131,(HMK12.out.mono hx13.size).keep (gC.ext hx13)⟩
    have hz12:w12.drew.heap.size=TG+2:=HS12.out;rw[hz12];have HS13:=ac hs13;clear hx13 h130 h131 hs13 hz12 hw13 HL12 HMK12 HTG HP7 HB12 HS12 HBX;have HMX:=aK HXK.out;have HNX:x.h.n<=17592186044416:=by have:=HN6.out;omega
    go_wp2;refine(dy (n:=0)).1 ?_
    refine XC (ps:=#[58,59]) (gf:=144) (lb:=#[.pointer (some ⟨TG+2+1,0,none⟩),.pointer (some ⟨TG+2,0,none⟩)]) (enc:=YV) (l:=yF x.h.t (out k) x.rs (x.h.n+1)) rfl DX (zg x (out k) (TG+2+1) (TG+2)) (GH x (out k) (TG+2+1) (TG+2) (HNA.out x HMX) HNX) (λ_=>rfl)
     (λ_ s W=>Hid (∃m,s=yF x.h.t (out k) x.rs m/\m<=x.h.n+1/\IZ w (gX pa pn pc (some ⟨b,o,none⟩) bn bc) (gN bs) bn R0 R1 PF inn out vI vO vA gs k x TG (TG+1) (TG+2) w13.heap.size ds m W)) (λ_ _=>False) ?hJ2 (λ_=>iC.pure _ _) ?hInv2 (λ_ j=>j=TG) ?hT02 (λ_ _ _ _ _ _ _ h=>h) ?start2 ?round2 ?done2 ?stop2
    case hJ2=>exact λd s=>iC.ex λm=>iC.and (iC.pure _ _) (iC.and (iC.pure _ _) (IZ.steadyO rfl (by have:=HTGL.out;have:=HS13.out;omega) (by have:=HTGL.out;have:=HS13.out;omega) (by have:=HTGL.out;have:=HS13.out;omega) (by have:=HTGL.out;have:=HS13.out;omega) (by have:=HS13.out;omega) (aj _) (by have:=HS13.out;omega)))
    case hInv2=>
     intro d s W h;obtain⟨m,_,_,h⟩:=h.out;exact⟨h.s1,h.s0,(HB.out.2 x HMX).ext h.f.b⟩
    case hT02=>
     intro d s W j h e;obtain⟨m,_,_,h⟩:=h.out;have e:j=TG:=e;obtain⟨us,h5,_⟩:=h.t;rw[e];exact fE h5
    case start2=>exact⟨x.h.n+1,rfl,aj _,HT0.out⟩
    case stop2=>rintro D c W hD h;exact h.elim
    case round2=>
     rintro lp2 d ⟨j,P⟩ s W hd hJ;obtain⟨m,hms,hml,hj⟩:=hJ.out;obtain⟨m',rfl,hy,hs⟩:=ES hms.symm;obtain⟨e1,e2⟩:=Prod.mk.inj hy;subst e1 hs;have HPE:=ac e2;have HM:=ac hml;have HJ:=ac hj;unfold YV;clear hJ hj hy hd e2 hms hml
     gi_wp2_with ((with_reducible show wpListIn _ _ _ _ _ (⟨none,.store 124 _ _,_,_,_,_⟩ :: _) _ _);refine oM (by repeat (first|exact gZ|refine iK ?_|refine hU ?_|exact λ⟨_,_,h⟩=>h)) _ _ _ rfl ?_;refine aP rfl 124 _ _ rfl W.heap.size (iW P) rfl rfl 124 _ (ae _ _) (by rw[iE];exact iX) rfl (oY _) ?_)
     generalize hw3:World.setRow _ _ _=w3;have hb3:Below W.heap.size W w3:=by rw[<-hw3];exact aX (fD _ _) (aj _) _
     have hp3:w3.heap[W.heap.size]? =some (bsO P):=by rw[<-hw3];exact bt _ _ _ _ _ _ (ae _ _)
     clear hw3;go_wp2;refine⟨gC.ext hb3,⟨j+1,(by rw[HPE.out];rfl),HM.out,HJ.out.ext hb3⟩,⟨hb3.size,λi hi _=>hb3.block i hi,λi h=>.inl h⟩,λV=>Hid (V.heap[W.heap.size]? =some (bsO P)),fG.block _ _ rfl,hp3,?_⟩;obtain⟨P11,hP11⟩:∃P11,W.heap.size=P11:=⟨_,rfl⟩
     rw[hP11];clear hP11 hp3 hb3 HJ lp2 W w3;rintro lp2 W3 hJ3 hG3;obtain⟨m3,hm3,hl3,hj3⟩:=hJ3.out;obtain⟨m4,rfl,hy4,hs4⟩:=ES hm3.symm;have hy4:=(Prod.mk.inj hy4).1;rw[<-hy4] at hj3;clear hy4;have HJ3:=ac hj3;have HG3:=ac hG3.out;have q7:∀n:fL W3,n.val.cell? ⟨TG+1,0,none⟩=some (.slice (some ⟨TG,0,none⟩) (x.h.n+1) (x.h.n+1)):=λn=>cR (fB n.ext HJ3.out.p7) rfl;have q9:∀w',(∃n:fL W3,w'=n.val)->w'.heap[P11]? =some (bsO P):=λw' ⟨n,e⟩=>by rw[e];exact fB n.ext HG3.out
     have HNE:Nonempty (fL W3):=⟨⟨W3,ag _ _⟩⟩
     have hm4:(j:Int)<(x.h.n+1:Nat):=by have:=HM.out;omega
     have hm4':(j:Int)<(x.h.n:Int)+1:=by have:=HM.out;omega
     clear hj3 hJ3 hG3 hs4 hm3 hl3
     gi_upto_region 13 with (fail)
     refine rY (λw'=>∃n:fL W3,w'=n.val) [(0,3,some (3,true)),(4,1,some (5,false))] (by kernel_rfl) (by kernel_rfl) (by kernel_rfl) (by repeat (first|exact gZ|refine iK ?_|refine hU ?_)) ⟨⟨_,gB (ag _ _) 1⟩,rfl⟩ ?_;simp only[lS,ap,aD,am,aw]
     repeat (first
      |go_big_quiet_skip
      |((with_reducible show wpQuiet _ _ _ _ (⟨some 62,_,_,_,_,_⟩ :: _) _);refine fW (o:=⟨some 62,.load 124 _,_,_,_,_⟩) (by rfl) 124 _ rfl P11 rfl 124 _ (0,0) _ q9 bK rfl (by rw[iE];exact iX) ?_;simp only[Act.put,ar,aH,aF])
      |go_big_quiet_step (fail))
     refine aq ?_;clear q7 q9;refine fR rfl rfl ?_;go_simp;refine(FN P W3.drew (HTB.out.ext (fC HJ3.out.f.b (gB (ag _ _) 1)))).mono ?_;rintro e w5 ⟨v,rfl,ho,hb⟩;obtain⟨al3,cl3,rfl⟩:=ho.form
     replace hb:=lH hb
     refine⟨⟨⟨w5,hb⟩,rfl⟩,?_⟩;have hj5:=HJ3.out.ext hb;have hmt:=HM.out;have hu5:gD w5 (w.heap.size+2) (.slice al3 (fN (lT 1024 P)).length cl3) (atL (gN bs) k j):=by
      rw[<-HLS.out.2.2 j,<-HPE.out];exact ho.mono (by have:=fE HJ3.out.f.lv;show w.heap.size+2<=W3.heap.size;omega)
     obtain⟨hput,hz1,⟨z,hz2⟩,hz3⟩:=hj5.put (by omega) HTGL.out.1 HAPI.out HAPO.out HAPG.out (by omega) hu5;have HPUT:=ac hput;have HBB:=ac hb;clear hput hu5 hj5 hb ho hmt
     repeat (go_big_quiet_step (fail))
     refine aq ?_;refine fR rfl rfl ?_;go_simp;refine bR ?_;clear hz1 hz2 hz3 hm4 hm4' HNE;go_wp2;refine⟨(gC.ext HBB.out).trans (gC.setCell _ _ _),⟨j,rfl,by have:=HM.out;omega,HPUT.out⟩,?_,λi hi hn=>?_,λi h=>.inl h⟩
     .rw[fi];exact HBB.out.size
     .rw[aU _ _ _ _ (by simpa using hn)];exact HBB.out.block i hi
    case done2=>
     rintro D W hD hJ hK;obtain⟨m,hm,hl,hj⟩:=hJ.out;have hm0:m=0:=by
      cases m with
      |zero=>rfl
      |succ m=>cases hm
     subst hm0;have HMW:Hid (lU (w.heap.size+2) W.heap.size (TY D :: ds) W):=hj.ma.cons hD (by have:=HTGL.out;have:=HS13.out;omega) (fE hK) hK;have HJ:=ac hj;obtain⟨av,cv,hav⟩:=OK hj.f.gA;subst hav;have z0:=cK 2 hj.f.lv rfl;have z1:=fE hj.f.lv;have z2:=cK 0 hj.p7 rfl;have z3:w.heap.size+2<=W.heap.size:=by have:=fE hj.f.lv;omega
     clear hJ hj hm hl hK;dsimp only
     go_wp2_with (
      (refine jI (o:=⟨some 69,.call _,_,_,_,_⟩) rfl W (.tmp 66) (.tmp 68) 56 49 rfl (w.heap.size+2) _ 1 24 Tryz.underlying56 Ci rfl (by omega) (.slice av k cv) k _ [.slice (some ⟨TG,0,none⟩) (x.h.n+1) (x.h.n+1)] rfl HJ.out.f.gA W.heap.size rfl rfl rfl (by simp[Value.oneCell']) (by simp only[maxLen];omega) (by omega) z3 ?_
       intro ga capa w15 hown hgr hat
       obtain⟨hp15,hz15⟩:=HJ.out.f.pushA (g:=TG) (v':=.slice (some ⟨ga,0,none⟩) (k+1) capa) hgr (by
        rw[<-FI,jf (g:=sd gs (gN bs)) (λj hj=>by simp only[sd];rw[az (by omega)])];simp only[sd,if_true];rw[HMB.out]
        exact hown) (by rw[HMB.out];exact HJ.out.t) HAPI.out HAPO.out HTGL.out.1
       have HP15:=ac hp15;have HMK15:Hid (lU (w.heap.size+2) w15.heap.size (TY D :: ds) w15):=(HMW.out.mono hgr.size).keep (EZ HJ.out.f.gA hgr);obtain⟨q1,q2⟩:=cz 2 hz15 rfl;have q3:=fE hz15
       clear z0 z1 z2 z3 hown hgr hat hp15 hz15))
     refine qn (m:=bn-k) (by kernel_rfl) (bn-(k+1)) (by omega) ?_;refine⟨k+1,_,_,_,_,rfl,by omega,?_,HP15,by rw[fi];exact HMK15.out.keep (gC.setCell _ _ _)⟩;show Value.int .i64 _=_
     go_num
   .obtain rfl:k=bn:=by omega
    have hlt':¬(k:Int)<(k:Int):=by omega
    obtain⟨ai,ci,hvi⟩:=HLJ.out.gI.form;obtain⟨ao,co,hvo⟩:=HLJ.out.gO.form;obtain⟨aA,cA,hva⟩:=OK HLJ.out.gA;rw[iR] at hvi hvo;subst hvi hvo hva;obtain⟨z0,z1,z2⟩:=TO HLJ.out.lv rfl;obtain⟨y0,y1,y2⟩:=Cv HLJ.out.lv;have hl1:=fE HLJ.out.lv;refine(dy (n:=0)).1 ?_
    gi_wp2
    obtain⟨w4,hw4⟩:∃w4,w4=((wr.setCell ⟨w.heap.size+1,0,none⟩ (.slice ai k ci)).setCell ⟨w.heap.size+1,1,none⟩ (.slice ao k co)).setCell ⟨w.heap.size+1,2,none⟩ (.slice aA k cA):=⟨_,rfl⟩
    rw[<-hw4];have hg4:wr.grownBy w4 none:=by
     refine⟨by rw[hw4];rfl,by rw[hw4];rfl,by rw[hw4];rfl,by rw[hw4];simp,λj hj _=>?_⟩;by_cases e:j=w.heap.size+1
     .subst e;rw[hw4,aC _ _ _ _ _ _ (aC _ _ _ _ _ _ (aC _ _ _ _ _ _ HLJ.out.lv)),HLJ.out.lv];rfl
     .rw[hw4,aU _ _ _ _ (by simpa using e),aU _ _ _ _ (by simpa using e),aU _ _ _ _ (by simpa using e)]
    have hj4:=HLJ.out.keep hg4 λq e=>by cases e
    have hm4:lU (w.heap.size+2) wr.heap.size ds w4:=by rw[hw4];exact((HMK.out.keep (gC.setCell _ _ _)).keep (gC.setCell _ _ _)).keep (gC.setCell _ _ _)
    clear z0 z1 z2 y0 y1 y2 hl1 hw4;refine tO (by simp) (lo:=w.heap.size+2) (hi:=wr.heap.size) _ (LfJ.steady (aj _)) (λW hj=>?_) ds w4 hm4 hj4;obtain⟨k0,k1,k2⟩:=TO hj.lv rfl;refine⟨.tuple #[.agg #[.slice ai k ci,.slice ao k co,.slice aA k cA],.int .i64 0],by simp[results,Tryz.results22,asAddr,k0,k1,k2,go_sem],.inr ⟨HRZ.out,⟨ai,ci,ao,co,aA,cA⟩,?_,?_⟩,hj.b⟩
    .rw[HLb.out]
    .rw[HLb.out];exact hj.post
end
end Go.Proofs.YtbknbcmppdglhaaGreatDoor
