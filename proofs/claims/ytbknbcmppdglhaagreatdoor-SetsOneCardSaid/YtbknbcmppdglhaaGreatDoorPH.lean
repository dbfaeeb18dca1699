/-
 (*sets.collector).block.
-/
import Derived.Test.YtbknbcmppdglhaaGreatDoorA0
import Derived.Test.YtbknbcmppdglhaaGreatDoorMarks
import Derived.Sort.CutIn
namespace Go.Proofs.YtbknbcmppdglhaaGreatDoor
set_option linter.unusedSimpArgs false
set_option linter.unusedVariables false
set_option linter.unusedSectionVars false
set_option maxRecDepth 100000
set_option maxHeartbeats 40000000
section
open Go.RowKit Go.Shelf
attribute [local go_sem] Oper.semAt_some iF gH gS fX
theorem wm(w:World)(x:Int)(h:0<=x/\x<=200):iJ (w.alloc (.cells #[.int .i64 x] 3)) (some ⟨w.heap.size,0,none⟩) 1 [x]:=
 ⟨rfl,by omega,λk hk=>by
  obtain rfl:k=0:=by omega
  refine⟨w.heap.size,0,rfl,cR (ae w _) rfl,?_⟩;show I64 x;unfold I64
  omega⟩
theorem ZX(h:CI)(ps:List Int)(bs:List iA)(r d l a:Nat)(i o:Option Nat)(C b:Nat)(x:iA)(R D L A:Int->Prop)(w:World)(hC:UD w C h (some r) (some d) (some l) (some a) i o)
  (hps:iJ w h.pa h.pn ps) (hbl:lY w h.ba h.bn bs) (hlv:BI w (gN bs) h.bn h.lv) (hx:bs[b]? =some x) (hna:∀r∈x.rs,r.na<=1000000) (hap:EL r d l a) (hR:jU w r R) (hD:jU w d D) (hL:jU w l L) (hA:jU w a A):
  Calls Tryz.prog 86 #[.pointer (some ⟨C,0,none⟩),.int .i64 b] w λe w'=>e=.returned (.tuple #[])/\CS w r d l a (λy=>R y\/y∈oT bs b) (λy=>D y\/y∈mZ ps bs b) (λy=>L y\/y∈qW bs b) (λy=>A y\/y∈BO bs b) w':=by
 refine(bu (n:=0)).1 ?_
 refine cu Tryz.func86 rfl trivial ?_
 simp only[Tryz.ntmps86,bd,bk,bx,Nat.reduceAdd,Nat.reduceSub,bF,bG,bV,bN,bD,bU]
 have hbn:b<h.bn:=by
  have:=(aE.1 hx).1;rw[hbl.1.1] at this;exact this
 have HX:=ac hx
 have HAP:=ac hap
 have HNA:=ac hna
 have HPS:=ac hps
 have HBL:=ac hbl
 have HLV:=ac hlv
 have HCC:=ac hC
 have HC0:Hid (CS w r d l a R D L A w):=⟨CK.refl _,hR,hD,hL,hA,Chg.refl _ _⟩
 clear hx hap hna hps hbl hlv hC hR hD hL hA
 gi_upto_region 1 with (fail)
 generalize hw0:World.alloc _ _=w0
 have hb0:Below w.heap.size w w0:=by rw[<-hw0];exact fC (fD _ _) (fD _ _)
 have hp2:w0.heap[w.heap.size]? =some (.cells #[.pointer (some ⟨C,0,none⟩)] 75 (0,0)):=by rw[<-hw0];exact fB (fD _ _) (ae _ _)
 have hp3:w0.heap[w.heap.size+1]? =some (.cells #[.int .i64 b] 3 (0,0)):=by
  have:=ae (w.alloc (.cells #[.pointer (some ⟨C,0,none⟩)] 75)) (.cells #[.int .i64 b] 3);rw[<-hw0];simpa using this
 have K2:Hid (w0.cell? ⟨w.heap.size,0,none⟩=some (.pointer (some ⟨C,0,none⟩))):=by rw[Hid,aZ _ _ _ _ _ _ hp2];rfl
 have K3:Hid (w0.cell? ⟨w.heap.size+1,0,none⟩=some (.int .i64 b)):=by rw[Hid,aZ _ _ _ _ _ _ hp3];rfl
 have KC:Hid (∀j v,(mw h (some r) (some d) (some l) (some a) i o)[j]? =some v->w0.cell? ⟨C,j,none⟩=some v):=λj v hj=>fZ hb0 (HCC.out j v hj)
 have HW0:Hid (Below w.heap.size w w0):=hb0
 have HC1:Hid (CS w0 r d l a R D L A w0):=let q:=HC0.out.ext hb0;⟨CK.refl _,q.fr,q.fd,q.fl,q.fa,Chg.refl _ _⟩
 replace HPS:=ac (HPS.out.ext hb0)
 replace HBL:=ac (HBL.out.ext hb0)
 replace HLV:=ac (HLV.out.ext hb0)
 have HSZ:Hid (w0.heap.size=w.heap.size+2):=by rw[Hid,<-hw0];simp
 clear hw0 hb0 hp2 hp3 HC0 HCC
 generalize hP:w.heap.size=P at*
 have k3:=K3.out
 gi_upto_if 13 with (fail)
 clear k3
 gi_cut [] from 12 (λwc=>Hid (CS w0 r d l a R (λy=>D y\/y∈(if b=0 then ps else [])) L A wc))
 case first=>
  by_cases hb:b=0
  .have hbe:((b:Int)==0)=true:=by simp[hb]
   have HBZ:=ac hb;clear hb;have hn1:Nonempty (fL w0):=⟨⟨w0,ag _ _⟩⟩
   have hck:=HC1.out.ck;have g1:∀n:fL w0,n.val.cell? ⟨P,0,none⟩=some (.pointer (some ⟨C,0,none⟩)):=λn=>hck.x K2.out n;have g2:∀n:fL w0,n.val.cell? ⟨C,7,none⟩=some (.map (some d)):=λn=>hck.x (KC.out 7 _ rfl) n;have g3:∀n:fL w0,n.val.cell? ⟨C,3,none⟩=some (.slice h.pa h.pn h.pc):=λn=>hck.x (KC.out 3 _ rfl) n;have g4:∀n:fL w0,C<n.val.heap.size:=λn=>hck.xl (KC.out 3 _ rfl) n;clear hck
   gi_upto_region 2 with (fail)
   refine dy.2 ?_;refine jC (λw'=>∃n':fL w0,w'=n'.val) [(0,9,some (9,false))] (by kernel_rfl) (by kernel_rfl) ⟨⟨_,gB (ag _ _) 1⟩,rfl⟩ ?_;simp only[lS,ap,aD,am,aw]
   repeat (go_big_quiet_step (fail))
   refine aq ?_;refine fR rfl rfl ?_;clear g1 g2 g3 g4;go_simp;refine(oI d D h.pa h.pn h.pc ps w0.drew (show jU w0.drew d D from HC1.out.fd) (show iJ w0.drew h.pa h.pn ps from HPS.out)).mono ?_;rintro e w2 ⟨rfl,hv2,hg2⟩;have HC2:Hid (CS w0 r d l a R (λy=>D y\/y∈ps) L A w2):=HC1.out.addD HAP.out hv2 ((Chg.refl _ w0).grown (row:=some d) ⟨hg2.os,hg2.tape,hg2.output,hg2.size,hg2.block⟩ λk e=>by injection e with e;exact .inl e.symm);clear hv2 hg2;refine bR ?_
   gi_wp2
   gi_meet
   case rel=>rw[aM HBZ.out];exact HC2
  .have hbe:((b:Int)==0)=false:=by simpa using hb
   gi_wp2
   gi_meet
   case rel=>rw[az hb];exact HC1.out.congr (λ_=>bM) (λy=>by simp) (λ_=>bM) (λ_=>bM)
 case rest=>
  have HC2:=hcut;clear hcut HC1;obtain⟨bb,ob,hba,cb0⟩:∃bb ob,h.ba=some ⟨bb,ob,none⟩/\((w0.cell? ⟨bb,ob+b*5,none⟩=some (.slice x.h.ia x.h.n x.h.c))/\(w0.cell? ⟨bb,ob+b*5+1,none⟩=some (.int .i64 x.h.t.kind))/\(w0.cell? ⟨bb,ob+b*5+2,none⟩=some (.int .i64 x.h.t.a))/\(w0.cell? ⟨bb,ob+b*5+3,none⟩=some (.int .i64 x.h.t.t0))/\w0.cell? ⟨bb,ob+b*5+4,none⟩=some (.int .i64 x.h.t.t1)):=by
   obtain⟨r0,bb,ob,hr0,hok0,hba,c0,c1,c2,c3,c4⟩:=mJ HBL.out hbn;rw[HX.out] at hr0;cases hr0;exact⟨bb,ob,hba,c0,c1,c2,c3,c4⟩
  have KB:=ac cb0;have HBA:=ac hba;have HXS:Hid (tC w0 x.h.ia x.h.n x.rs/\pU x.h.t):=let q:=HBL.out.2 x (aK HX.out);⟨q.2,q.1⟩;have hnx:=HXS.out.1.1.2.1;clear cb0 hba;have hn1:Nonempty (fL wc):=⟨⟨wc,ag _ _⟩⟩
  have hck:=HC2.out.ck;have g1:∀n:fL wc,n.val.cell? ⟨P,0,none⟩=some (.pointer (some ⟨C,0,none⟩)):=λn=>hck.x K2.out n;have g2:∀n:fL wc,n.val.cell? ⟨P+1,0,none⟩=some (.int .i64 b):=λn=>hck.x K3.out n;have g3:∀n:fL wc,n.val.cell? ⟨C,4,none⟩=some (.slice (some ⟨bb,ob,none⟩) h.bn h.bc):=λn=>by rw[<-HBA.out];exact hck.x (KC.out 4 _ rfl) n
  have g4:∀n:fL wc,C<n.val.heap.size:=λn=>hck.xl (KC.out 3 _ rfl) n;have g5:∀n:fL wc,n.val.cell? ⟨bb,ob+b*5,none⟩=some (.slice x.h.ia x.h.n x.h.c):=λn=>hck.x KB.out.1 n;have g6:∀n:fL wc,bb<n.val.heap.size:=λn=>hck.xl KB.out.1 n;clear hck
  gi_upto_region 3 with (fail)
  refine dy.2 ?_;refine jH (by kernel_rfl) (by kernel_rfl) ?_
  repeat (go_big_quiet_step (fail))
  refine aq ?_;rintro _ ⟨n0,rfl⟩;have HC3:=ac (HC2.out.ext n0.ext);clear g1 g2 g3 g4 g5 g6 hn1 HC2;generalize n0.val=w3 at*
  gi_wp2
  gi_loopw [5,6,34] (λ_ _ q wr=>∃k:Nat,q=.int .i64 k/\k<=x.h.n/\Hid (CS w0 r d l a (λy=>R y\/y∈(x.rs.take k).flatMap λr=>gV r.d) (λy=>(D y\/y∈(if b=0 then ps else []))\/y∈((x.rs.take k).map λr=>gM r.d).filter λv=>decide (0<v)) L A wr)) (λ_ _ q _=>x.h.n-(intOf q).toNat)
  case atStart=>exact⟨0,rfl,by omega,HC3.out.congr (λy=>by simp) (λy=>by simp) (λ_=>bM) (λ_=>bM)⟩
  case round=>
   obtain⟨k,rfl,hk,HR⟩:=hrel;clear HC3;by_cases hlt:k<x.h.n
   .have hE:tC wr x.h.ia x.h.n x.rs:=HXS.out.1.ck HR.out.ck;obtain⟨r1,bi,oi,hr1,hok1,hia,c0,c1,c2,c3,c4,c5,c6,c7⟩:=hE.cells hlt;have HR1:=ac hr1;have HOK1:=ac hok1;rw[hia] at *;clear hE hr1 hok1 hia
    gi_upto_region 6 with (fail)
    generalize hw6:World.alloc wr _=w6;have hb6:Below wr.heap.size wr w6:=by rw[<-hw6];exact fD _ _
    have HI6:Hid (w6.heap[wr.heap.size]? =some (vR r1.d r1.aa r1.na r1.ca)):=by rw[<-hw6];exact ae _ _
    have HC6:=ac (HR.out.ext hb6);have HO6:Hid (rD w6 r1):=⟨HOK1.out.1.ext hb6,HOK1.out.2⟩
    generalize wr.heap.size=N at *;have hn1:Nonempty (fL w6):=⟨⟨w6,ag _ _⟩⟩
    have hck:=HC6.out.ck;have g1:∀n:fL w6,n.val.cell? ⟨P,0,none⟩=some (.pointer (some ⟨C,0,none⟩)):=λn=>hck.x K2.out n;have g2:∀n:fL w6,n.val.cell? ⟨C,6,none⟩=some (.map (some r)):=λn=>hck.x (KC.out 6 _ rfl) n;have g4:∀n:fL w6,C<n.val.heap.size:=λn=>hck.xl (KC.out 3 _ rfl) n;have g5:∀w',(∃n:fL w6,w'=n.val)->w'.heap[N]? =some (vR r1.d r1.aa r1.na r1.ca):=λw' ⟨n,e⟩=>by rw[e];exact fB n.ext HI6.out
    clear hck hw6 hb6 c0 c1 c2 c3 c4 c5 c6 c7;refine dy.2 ?_;refine jC (λw'=>∃n':fL w6,w'=n'.val) [(0,5,some (5,true)),(6,0,some (6,false))] (by kernel_rfl) (by kernel_rfl) ⟨⟨_,gB (ag _ _) 1⟩,rfl⟩ ?_;simp only[lS,ap,aD,am,aw]
    repeat (first
     |((with_reducible show wpQuiet _ _ _ _ (⟨some 42,_,_,_,_,_⟩ :: _) _);refine fW (o:=⟨some 42,.load 161 _,_,_,_,_⟩) (by rfl) 161 _ rfl N rfl 161 _ (0,0) _ g5 cF rfl mY ?_;simp only[Act.put,ar,aH,aF])
     |go_big_quiet_step (fail))
    refine aq ?_;clear g1 g2 g4 g5;refine fR rfl rfl ?_;go_simp;obtain⟨q0,q1,q2,q3,q4,q5,q6,q7,q8⟩:=HO6.out;refine(uH r1.d r1.aa r1.na r1.ca w6.drew (show iJ w6.drew _ _ _ from q0) q4 q5 q6 q7 (HNA.out r1 (aK HR1.out))).mono ?_;clear q0 q1 q2 q3 q4 q5 q6 q7 q8;rintro e w7 ⟨v,rfl,ho,hb7⟩;obtain⟨av,cv,rfl⟩:=ho.form;have hb7:=lH hb7;have HC7:=ac (HC6.out.ext hb7);have HI7:Hid (w7.heap[N]? =some (vR r1.d r1.aa r1.na r1.ca)):=fB hb7 HI6.out;have HO7:Hid (rD w7 r1):=⟨HO6.out.1.ext hb7,HO6.out.2⟩
    have HT7:=ac ho.ints;refine⟨⟨⟨w7,hb7⟩,rfl⟩,?_⟩;clear ho hb7 HC6 HI6 HO6;refine aq ?_;refine fR rfl rfl ?_;go_simp;refine(oI r _ av _ cv (gV r1.d) w7 HC7.out.fr HT7.out).mono ?_;rintro e w8 ⟨rfl,hv8,hg8⟩;have hc8:=lR hg8;have hk8:=CK.map HC7.out.fr hc8;have HC8:=ac (HC7.out.addR HAP.out hv8 hc8);have HI8:Hid (w8.heap[N]? =some (vR r1.d r1.aa r1.na r1.ca)):=(hc8.block N (fE HI7.out) (HC7.out.fr.ne HI7.out)).trans HI7.out;have HO8:Hid (rD w8 r1):=⟨HO7.out.1.ck hk8,HO7.out.2⟩
    clear hv8 hg8 hc8 hk8 HC7 HI7 HO7 HT7;refine bR ?_
    gi_upto_region 7 with (fail)
    obtain⟨q0,q1,q2,q3,q4,q5,q6,q7,q8⟩:=HO8.out;have HDV:=ac (sZ r1.d r1.aa r1.na r1.ca w8 q0 q4 q5 q6 q7);have hdv:=lX r1.d;clear q0 q1 q2 q3 q4 q5 q6 q7 q8 HO8;have HSR:Hid (∀y,y∈(x.rs.take (k+1)).flatMap (λr=>gV r.d)↔y∈(x.rs.take k).flatMap (λr=>gV r.d)\/y∈gV r1.d):=λy=>by rw[bL,HR1.out,cw];simp
    have HSD:Hid (∀y,y∈((x.rs.take (k+1)).map λr=>gM r.d).filter (λv=>decide (0<v))↔y∈((x.rs.take k).map λr=>gM r.d).filter (λv=>decide (0<v))\/(0<gM r1.d/\y=gM r1.d)):=λy=>by
     rw[bL,HR1.out,cU,bB,ax];refine or_congr bM ?_;simp only[dY,cE,dB,bI,bz,aN];exact⟨λ⟨e,h⟩=>⟨by rw[<-e];exact h,e⟩,λ⟨h,e⟩=>⟨e,by rw[e];exact h⟩⟩
    generalize gM r1.d=dv at *;by_cases hd0:0<dv
    .gi_wp2_with (first
      |((with_reducible show wpListIn _ _ _ _ _ (⟨some 45,.load _ _,_,_,_,_⟩ :: _) _ _);refine iS rfl 161 _ rfl N rfl 161 _ (0,0) _ HI8.out cF rfl mY ?_)
      |(gi_at_call 74
        refine(bu.2 HDV.out).mono ?_;rintro e w9 ⟨rfl,hb9⟩;have HC9:=ac (HC8.out.ext hb9);have d1:=HC9.out.ck _ _ _ K2.out;have d2:=HC9.out.ck _ _ _ (KC.out 7 _ rfl);have d3:=HC9.out.ck.l (KC.out 3 _ rfl)
        clear hb9)
      |(gi_at_call 37
        refine(bu.2 (oI d _ (some ⟨w9.heap.size,0,none⟩) 1 1 [dv] (w9.alloc (.cells #[.int .i64 dv] 3)) (HC9.out.ext (fD _ _)).fd (wm w9 dv (by omega)))).mono ?_;rintro e w10 ⟨rfl,hv10,hg10⟩;have HC10:=ac ((HC9.out.ext (fD _ _)).addD HAP.out hv10 (lR hg10))
        clear hv10 hg10))
     exact⟨⟨k+1,by go_num,by omega,HC10.out.congr (λy=>by rw[HSR.out,eO]) (λy=>by rw[HSD.out,<-eO];simp[hd0]) (λ_=>bM) (λ_=>bM)⟩,by simp[intOf];omega⟩
    .gi_wp2_with (first
      |((with_reducible show wpListIn _ _ _ _ _ (⟨some 45,.load _ _,_,_,_,_⟩ :: _) _ _);refine iS rfl 161 _ rfl N rfl 161 _ (0,0) _ HI8.out cF rfl mY ?_)
      |(gi_at_call 74
        refine(bu.2 HDV.out).mono ?_;rintro e w9 ⟨rfl,hb9⟩;have HC9:=ac (HC8.out.ext hb9)
        clear hb9))
     exact⟨⟨k+1,by go_num,by omega,HC9.out.congr (λy=>by rw[HSR.out,eO]) (λy=>⟨λh=>h.imp id λz=>(HSD.out y).2 (.inl z),λh=>h.imp id λz=>((HSD.out y).1 z).elim id λz=>absurd z.1 (by omega)⟩) (λ_=>bM) (λ_=>bM)⟩,by simp[intOf];omega⟩
   .obtain rfl:k=x.h.n:=by omega
    have HR3:Hid (CS w0 r d l a (λy=>R y\/y∈x.rs.flatMap λr=>gV r.d) (λy=>D y\/y∈mZ ps bs b) L A wr):=by
     have e:x.rs.take x.h.n=x.rs:=bC (by rw[HXS.out.1.1.1];exact aj _);have e2:qQ bs b=x.rs:=by simp[qQ,HX.out]
     have:=HR.out;rw[e] at this;exact this.congr (λ_=>bM) (λy=>by unfold mZ;rw[e2,ax,eO]) (λ_=>bM) (λ_=>bM)
    clear HR hk hlt;have hn1:Nonempty (fL wr):=⟨⟨wr,ag _ _⟩⟩
    have hck:=HR3.out.ck;have g1:∀n:fL wr,n.val.cell? ⟨P,0,none⟩=some (.pointer (some ⟨C,0,none⟩)):=λn=>hck.x K2.out n;have g2:∀n:fL wr,n.val.cell? ⟨P+1,0,none⟩=some (.int .i64 b):=λn=>hck.x K3.out n;have g3:∀n:fL wr,n.val.cell? ⟨C,4,none⟩=some (.slice (some ⟨bb,ob,none⟩) h.bn h.bc):=λn=>by rw[<-HBA.out];exact hck.x (KC.out 4 _ rfl) n
    have g4:∀n:fL wr,C<n.val.heap.size:=λn=>hck.xl (KC.out 3 _ rfl) n;have g5:∀n:fL wr,n.val.cell? ⟨C,6,none⟩=some (.map (some r)):=λn=>hck.x (KC.out 6 _ rfl) n;have g6:∀n:fL wr,n.val.cell? ⟨bb,ob+b*5+1,none⟩=some (.int .i64 x.h.t.kind):=λn=>hck.x KB.out.2.1 n;have g7:∀n:fL wr,n.val.cell? ⟨bb,ob+b*5+2,none⟩=some (.int .i64 x.h.t.a):=λn=>hck.x KB.out.2.2.1 n;have g8:∀n:fL wr,n.val.cell? ⟨bb,ob+b*5+3,none⟩=some (.int .i64 x.h.t.t0):=λn=>hck.x KB.out.2.2.2.1 n;have g9:∀n:fL wr,n.val.cell? ⟨bb,ob+b*5+4,none⟩=some (.int .i64 x.h.t.t1):=λn=>hck.x KB.out.2.2.2.2 n;have g0:∀n:fL wr,bb<n.val.heap.size:=λn=>hck.xl KB.out.1 n;clear hck
    gi_upto_region 11 with (fail)
    refine dy.2 ?_;refine jC (λw'=>∃n':fL wr,w'=n'.val) [(0,13,some (13,true)),(14,0,some (14,false))] (by kernel_rfl) (by kernel_rfl) ⟨⟨_,gB (ag _ _) 1⟩,rfl⟩ ?_;simp only[lS,ap,aD,am,aw]
    repeat (go_big_quiet_step (fail))
    refine aq ?_;clear g0 g1 g2 g3 g4 g5 g6 g7 g8 g9 hn1;refine fR rfl rfl ?_;go_simp;refine(xM x.h.t wr.drew HXS.out.2).mono ?_;rintro e w7 ⟨v,rfl,ho,hb7⟩;obtain⟨av,cv,rfl⟩:=ho.form;have hb7:=lH hb7;have HC7:=ac (HR3.out.ext hb7);have HT7:=ac ho.ints;refine⟨⟨⟨w7,hb7⟩,rfl⟩,?_⟩;clear ho hb7 HR3;refine aq ?_;refine fR rfl rfl ?_;go_simp;refine(oI r _ av _ cv (jV x.h.t) w7 HC7.out.fr HT7.out).mono ?_;rintro e w8 ⟨rfl,hv8,hg8⟩
    have HC8:Hid (CS w0 r d l a (λy=>R y\/y∈oT bs b) (λy=>D y\/y∈mZ ps bs b) L A w8):=(HC7.out.addR HAP.out hv8 (lR hg8)).congr (λy=>by
     have e2:qQ bs b=x.rs:=by simp[qQ,HX.out]
     have e3:FU bs b=jV x.h.t:=by simp[FU,HX.out]
     unfold oT
     rw[e2,e3,ax,eO]) (λ_=>bM) (λ_=>bM) (λ_=>bM)
    clear hv8 hg8 HC7 HT7;refine bR ?_
    gi_upto_region 12 with (fail)
    obtain⟨gi,oi,ai,ci,hia,hic,hii⟩:=HLV.out.1 b hbn;have HIA:=ac hia;have HIC:=ac hic;have HII:=ac hii;clear hia hic hii;have hn1:Nonempty (fL w8):=⟨⟨w8,ag _ _⟩⟩
    have hck:=HC8.out.ck;have g1:∀n:fL w8,n.val.cell? ⟨P,0,none⟩=some (.pointer (some ⟨C,0,none⟩)):=λn=>hck.x K2.out n;have g2:∀n:fL w8,n.val.cell? ⟨P+1,0,none⟩=some (.int .i64 b):=λn=>hck.x K3.out n;have g3:∀n:fL w8,n.val.cell? ⟨C,0,none⟩=some (.slice (some ⟨gi,oi,none⟩) h.bn h.lv.ic):=λn=>by rw[<-HIA.out];exact hck.x (KC.out 0 _ rfl) n
    have g4:∀n:fL w8,C<n.val.heap.size:=λn=>hck.xl (KC.out 3 _ rfl) n;have g5:∀n:fL w8,n.val.cell? ⟨C,8,none⟩=some (.map (some l)):=λn=>hck.x (KC.out 8 _ rfl) n;have g6:∀n:fL w8,n.val.cell? ⟨gi,oi+b,none⟩=some (.slice ai (vP (gN bs) b).length ci):=λn=>hck.x HIC.out n;have g7:∀n:fL w8,gi<n.val.heap.size:=λn=>hck.xl HIC.out n;clear hck;refine dy.2 ?_;refine jC (λw'=>∃n':fL w8,w'=n'.val) [(0,12,some (12,false))] (by kernel_rfl) (by kernel_rfl) ⟨⟨_,gB (ag _ _) 1⟩,rfl⟩ ?_;simp only[lS,ap,aD,am,aw]
    repeat (go_big_quiet_step (fail))
    refine aq ?_;clear g1 g2 g3 g4 g5 g6 g7 hn1;refine fR rfl rfl ?_;go_simp;refine(oI l _ ai _ ci (vP (gN bs) b) w8.drew (show jU w8.drew l _ from HC8.out.fl) (show iJ w8.drew _ _ _ from HII.out.ck HC8.out.ck)).mono ?_;rintro e w9 ⟨rfl,hv9,hg9⟩;have HC9:=ac (HC8.out.addL HAP.out hv9 ((Chg.refl _ w8).grown (row:=some l) ⟨hg9.os,hg9.tape,hg9.output,hg9.size,hg9.block⟩ λk e=>by injection e with e;exact .inl e.symm));clear hv9 hg9 HC8 HIA HIC HII;refine bR ?_
    gi_upto_region 13 with (fail)
    obtain⟨gi,oi,ai,ci,hia,hic,hii⟩:=HLV.out.2.1 b hbn;have HIA:=ac hia;have HIC:=ac hic;have HII:=ac hii;clear hia hic hii;have hn1:Nonempty (fL w9):=⟨⟨w9,ag _ _⟩⟩
    have hck:=HC9.out.ck;have g1:∀n:fL w9,n.val.cell? ⟨P,0,none⟩=some (.pointer (some ⟨C,0,none⟩)):=λn=>hck.x K2.out n;have g2:∀n:fL w9,n.val.cell? ⟨P+1,0,none⟩=some (.int .i64 b):=λn=>hck.x K3.out n;have g3:∀n:fL w9,n.val.cell? ⟨C,1,none⟩=some (.slice (some ⟨gi,oi,none⟩) h.bn h.lv.oc):=λn=>by rw[<-HIA.out];exact hck.x (KC.out 1 _ rfl) n
    have g4:∀n:fL w9,C<n.val.heap.size:=λn=>hck.xl (KC.out 3 _ rfl) n;have g5:∀n:fL w9,n.val.cell? ⟨C,8,none⟩=some (.map (some l)):=λn=>hck.x (KC.out 8 _ rfl) n;have g6:∀n:fL w9,n.val.cell? ⟨gi,oi+b,none⟩=some (.slice ai (tX (gN bs) b).length ci):=λn=>hck.x HIC.out n;have g7:∀n:fL w9,gi<n.val.heap.size:=λn=>hck.xl HIC.out n;clear hck;refine dy.2 ?_;refine jC (λw'=>∃n':fL w9,w'=n'.val) [(0,12,some (12,false))] (by kernel_rfl) (by kernel_rfl) ⟨⟨_,gB (ag _ _) 1⟩,rfl⟩ ?_;simp only[lS,ap,aD,am,aw]
    repeat (go_big_quiet_step (fail))
    refine aq ?_;clear g1 g2 g3 g4 g5 g6 g7 hn1;refine fR rfl rfl ?_;go_simp;refine(oI l _ ai _ ci (tX (gN bs) b) w9.drew (show jU w9.drew l _ from HC9.out.fl) (show iJ w9.drew _ _ _ from HII.out.ck HC9.out.ck)).mono ?_;rintro e w10 ⟨rfl,hv9,hg9⟩;have HC10:=ac (HC9.out.addL HAP.out hv9 ((Chg.refl _ w9).grown (row:=some l) ⟨hg9.os,hg9.tape,hg9.output,hg9.size,hg9.block⟩ λk e=>by injection e with e;exact .inl e.symm));clear hv9 hg9 HC9 HIA HIC HII;refine bR ?_
    gi_upto_region 14 with (fail)
    obtain⟨gi,oi,ai,ci,hia,hic,hii⟩:=HLV.out.2.2 b hbn;have HIA:=ac hia;have HIC:=ac hic;have HII:=ac hii;have HMN:Hid (atN (gN bs) b=x.h.n+1):=by
     unfold atN;rw[Hid,qD HX.out];show(x.rs.map _).length+1=_;rw[cT,HXS.out.1.1.1]
    rw[HMN.out] at HIC HII;clear hia hic hii;have hn1:Nonempty (fL w10):=⟨⟨w10,ag _ _⟩⟩
    have hck:=HC10.out.ck;have g1:∀n:fL w10,n.val.cell? ⟨P,0,none⟩=some (.pointer (some ⟨C,0,none⟩)):=λn=>hck.x K2.out n;have g2:∀n:fL w10,n.val.cell? ⟨P+1,0,none⟩=some (.int .i64 b):=λn=>hck.x K3.out n;have g3:∀n:fL w10,n.val.cell? ⟨C,2,none⟩=some (.slice (some ⟨gi,oi,none⟩) h.bn h.lv.tc):=λn=>by rw[<-HIA.out];exact hck.x (KC.out 2 _ rfl) n
    have g4:∀n:fL w10,C<n.val.heap.size:=λn=>hck.xl (KC.out 3 _ rfl) n;have g6:∀n:fL w10,n.val.cell? ⟨gi,oi+b,none⟩=some (.slice ai (x.h.n+1) ci):=λn=>hck.x HIC.out n;have g7:∀n:fL w10,gi<n.val.heap.size:=λn=>hck.xl HIC.out n;clear hck;refine dy.2 ?_;refine jH (by kernel_rfl) (by kernel_rfl) ?_
    repeat (go_big_quiet_step (fail))
    refine aq ?_;rintro _ ⟨n0,rfl⟩;have HC11:=ac (HC10.out.ext n0.ext);clear g1 g2 g3 g4 g6 g7 hn1 HC10;generalize n0.val=w11 at*
    gi_wp2
    gi_loopw [8,107] (λ_ q wr=>∃k:Nat,q=.int .i64 k/\k<=x.h.n+1/\Hid (CS w0 r d l a (λy=>R y\/y∈oT bs b) (λy=>D y\/y∈mZ ps bs b) (λy=>((L y\/y∈vP (gN bs) b)\/y∈tX (gN bs) b)\/y∈(List.range k).flatMap (atL (gN bs) b)) A wr)) (λ_ q _=>x.h.n+1-(intOf q).toNat)
    case atStart=>exact⟨0,rfl,by omega,HC11.out.congr (λ_=>bM) (λ_=>bM) (λy=>by simp) (λ_=>bM)⟩
    case round=>
     obtain⟨k,rfl,hk,HR⟩:=hrel;clear HC11;by_cases hlt:k<x.h.n+1
     .obtain⟨g9,o9,a9,c9,e9,hcell9,hints9⟩:=(HII.out.ck HR.out.ck) k hlt;rw[e9] at *;have HI9:=ac hints9;have d1:=HR.out.ck _ _ _ K2.out;have d2:=HR.out.ck _ _ _ (KC.out 8 _ rfl);have d3:=HR.out.ck.l (KC.out 3 _ rfl);clear hints9 e9
      gi_wp2_with (
       (gi_at_call 37
        refine(bu.2 (oI l _ a9 _ c9 (atL (gN bs) b k) wr HR.out.fl HI9.out)).mono ?_;rintro e w12 ⟨rfl,hv9,hg9⟩;have HC12:=ac (HR.out.addL HAP.out hv9 (lR hg9))
        clear hv9 hg9))
      exact⟨⟨k+1,by go_num,by omega,HC12.out.congr (λ_=>bM) (λ_=>bM) (λy=>by rw[cm,cw,ax,<-eO];simp) (λ_=>bM)⟩,by simp[intOf];omega⟩
     .obtain rfl:k=x.h.n+1:=by omega
      have HC12:Hid (CS w0 r d l a (λy=>R y\/y∈oT bs b) (λy=>D y\/y∈mZ ps bs b) (λy=>L y\/y∈qW bs b) A wr):=HR.out.congr (λ_=>bM) (λ_=>bM) (λy=>by
       have e2:qQ bs b=x.rs:=by simp[qQ,HX.out]
       unfold qW
       rw[e2,HXS.out.1.1.1,ax,ax,eO,eO,eO]) (λ_=>bM)
      have d1:=HR.out.ck _ _ _ K2.out;have d2:=HR.out.ck _ _ _ K3.out;clear HR hk hlt
      gi_wp2_with (
       (gi_at_call 168
        refine(bu.2 (ro C b wr)).mono ?_;rintro e w19 ⟨rfl,hw19⟩;have HW19:=ac hw19
        clear hw19))
      obtain⟨G,hG⟩:∃G,wr.heap.size=G:=⟨_,rfl⟩
      have hb19:Below wr.heap.size wr w19:=by rw[HW19.out];exact fC (fD _ _) (fD _ _)
      have hg0:w19.heap[G]? =some (.cells #[.pointer (some ⟨C,0,none⟩)] 75 (0,0)):=by rw[HW19.out,<-hG];exact fB (fD _ _) (ae _ _)
      have hg1:w19.heap[G+1]? =some (.cells #[.int .i64 (b:Int)] 3 (0,0)):=by
       have:=ae (wr.alloc (.cells #[.pointer (some ⟨C,0,none⟩)] 75)) (.cells #[.int .i64 (b:Int)] 3);rw[HW19.out,<-hG];simpa using this
      have hz19:w0.heap.size<=w19.heap.size:=(HC12.out.ext hb19).ch.size
      have HRD:Hid (CS w0 r d l a (λy=>R y\/y∈oT bs b) (λy=>D y\/y∈mZ ps bs b) (λy=>L y\/y∈qW bs b) (λy=>A y\/y∈my bs b []) w19/\w19.heap[G]? =some (.cells #[.pointer (some ⟨C,0,none⟩)] 75 (0,0))/\w19.heap[G+1]? =some (.cells #[.int .i64 (b:Int)] 3 (0,0))):=
       ⟨(HC12.out.ext hb19).congr (λ_=>bM) (λ_=>bM) (λ_=>bM) (λy=>by simp[my]),hg0,hg1⟩
      rw[hG];clear HC12 hb19 hg0 hg1 d1 d2 HW19 hG
      refine DT (ps:=#[121,122]) (gf:=233) (lb:=#[.pointer (some ⟨G,0,none⟩),.pointer (some ⟨G+1,0,none⟩)]) (enc:=uZ) (l:=kM 0 x.rs) rfl XZ (Bn h bs C G b) (YJ h bs C G b x HX.out) (λ_=>rfl)
       (λdd _ W=>Hid (CS w0 r d l a (λy=>R y\/y∈oT bs b) (λy=>D y\/y∈mZ ps bs b) (λy=>L y\/y∈qW bs b) (λy=>A y\/y∈my bs b dd) W/\W.heap[G]? =some (.cells #[.pointer (some ⟨C,0,none⟩)] 75 (0,0))/\W.heap[G+1]? =some (.cells #[.int .i64 (b:Int)] 3 (0,0)))) (λ_ _=>False)
       (λdd _=>(CS.steady hz19).and ((fG.block _ _ rfl).and (fG.block _ _ rfl))) (λ_=>fG.pure _ _) ?hInv HRD ?round ?done ?stop
      case hInv=>
       intro dd s W hj;obtain⟨h1,h2,h3⟩:=hj.out;exact⟨h2,h3,h1.ck _ _ _ (KC.out 4 _ rfl),HBL.out.ck h1.ck⟩
      case stop=>rintro D' c W hD h;exact h.elim
      case round=>
       rintro lp dd ⟨n,r1⟩ s W hd hJ;have HMM:=ac (sM.1 (show(n,r1)∈kM 0 x.rs by rw[hd];simp));have HJ:=ac hJ.out;unfold uZ;clear hJ hd
       gi_wp2
       refine⟨gC.alloc _ _,((CS.steady (B:=w0.heap.size) (aj _)).and ((fG.block _ _ rfl).and (fG.block _ _ rfl))).ext HJ.out (fD _ _),λV=>Hid (V.heap[W.heap.size]? =some (vR r1.d r1.aa r1.na r1.ca)),fG.block _ _ rfl,ae _ _,?_⟩;obtain⟨N,hN⟩:∃N,W.heap.size=N:=⟨_,rfl⟩
       rw[hN];clear HJ hN lp W;rintro lp W2 hlp _ hJ2 hG2;obtain⟨hj1,hj2,hj3⟩:=hJ2.out;have HJ1:=ac hj1;have HJ2:=ac hj2;have HJ3:=ac hj3;have HN:=ac hG2.out;obtain⟨j,hj0,hj4,hj5⟩:=HMM.out;rw[bQ] at hj0;subst hj0;have hnl:n<x.h.n:=by have:=(aE.1 hj4).1;rw[HXS.out.1.1.1] at this;exact this
       clear hj1 hj2 hj3 hj4 hj5 hG2 hJ2 HMM hlp;obtain⟨g9,o9,a9,c9,e9,hcell9,hints9⟩:=(HII.out.ck HJ1.out.ck) (n+1) (by omega)
       have HI9:=ac hints9;have hn1:Nonempty (fL W2):=⟨⟨W2,ag _ _⟩⟩
       have hck:=HJ1.out.ck;have g1:∀n:fL W2,n.val.cell? ⟨P,0,none⟩=some (.pointer (some ⟨C,0,none⟩)):=λn=>hck.x K2.out n;have g2:∀n:fL W2,n.val.cell? ⟨P+1,0,none⟩=some (.int .i64 b):=λn=>hck.x K3.out n;have g3:∀n:fL W2,n.val.cell? ⟨C,2,none⟩=some (.slice (some ⟨gi,oi,none⟩) h.bn h.lv.tc):=λn=>by rw[<-HIA.out];exact hck.x (KC.out 2 _ rfl) n
       have g4:∀n:fL W2,C<n.val.heap.size:=λn=>hck.xl (KC.out 3 _ rfl) n;have g5:∀n:fL W2,n.val.cell? ⟨C,9,none⟩=some (.map (some a)):=λn=>hck.x (KC.out 9 _ rfl) n;have g6:∀n:fL W2,n.val.cell? ⟨gi,oi+b,none⟩=some (.slice ai (x.h.n+1) ci):=λn=>hck.x HIC.out n;have g7:∀n:fL W2,gi<n.val.heap.size:=λn=>hck.xl HIC.out n;rw[e9] at g6;have g8:∀m:fL W2,m.val.cell? ⟨g9,o9+(n+1),none⟩=some (.slice a9 (atL (gN bs) b (n+1)).length c9):=λm=>fL.cell hcell9 m;have g9':∀m:fL W2,g9<m.val.heap.size:=λm=>bw (bA _ _ hcell9) m.ext.size;clear hck hints9 hcell9
       gi_upto_region 23 with (fail)
       refine rY (λw'=>∃n:fL W2,w'=n.val) [(0,16,none),(17,1,some (16,true)),(18,0,some (18,true)),(19,0,some (19,false))] (by kernel_rfl) (by kernel_rfl) (by kernel_rfl) (by repeat (first|exact gZ|refine iK ?_|refine hU ?_)) ⟨⟨_,gB (ag _ _) 1⟩,rfl⟩ ?_;simp only[lS,ap,aD,am,aw]
       repeat (go_big_quiet_step (fail))
       refine aq ?_
       repeat (go_big_quiet_step (fail))
       refine aq ?_;clear g1 g2 g3 g4 g5 g6 g7 g8 g9' hn1;refine fR rfl rfl ?_;go_simp;refine(vV a9 _ c9 (atL (gN bs) b (n+1)) W2.drew (show iJ W2.drew _ _ _ from HI9.out)).mono ?_;rintro e w3 ⟨v,rfl,ho,hb3⟩;have hb3:=lH hb3;have HB3:=ac hb3;have HO3:Hid (gD w3 W2.heap.size v (atL (gN bs) b (n+1))):=ho;have HN3:Hid (w3.cell? ⟨N,1,none⟩=some (.int .i64 r1.d.dst)):=by rw[Hid,aZ _ _ _ _ _ _ (fB hb3 HN.out)];rfl
       refine⟨⟨⟨w3,hb3⟩,rfl⟩,?_⟩;clear ho hb3;refine aq ?_;refine fR rfl rfl ?_;go_simp;refine(YD W2.heap.size N r1.d.dst v (atL (gN bs) b (n+1)) w3 HO3.out (aT (m9 _) (by omega)) HB3.out.size (fE HN.out) HN3.out).mono ?_;rintro e w4 ⟨v',rfl,ho4,hb4⟩;obtain⟨av,cv,rfl⟩:=ho4.form;have HB4:Hid (Below W2.heap.size W2 w4):=⟨hb4.os.trans HB3.out.os,hb4.tape.trans HB3.out.tape,hb4.output.trans HB3.out.output,aT HB3.out.size hb4.size,λk hk=>(hb4.block k hk).trans (HB3.out.block k hk)⟩
       have HI4:=ac ho4.ints;refine⟨⟨⟨w4,HB4.out⟩,rfl⟩,?_⟩;clear ho4 hb4;refine aq ?_;refine fR rfl rfl ?_;go_simp;refine(oI a _ av _ cv (qP (atL (gN bs) b (n+1)) [r1.d.dst]) w4 (HJ1.out.ext HB4.out).fa HI4.out).mono ?_;rintro e w5 ⟨rfl,hv5,hg5⟩;have hc5:=lR hg5;have ha4:=(HJ1.out.ext HB4.out).fa;have HC5:=ac ((HJ1.out.ext HB4.out).addA HAP.out hv5 hc5);have HK5:=ac ((gC.ext HB4.out).trans (wk ha4 hc5));have HG0:=ac ((hc5.block _ (fE (fB HB4.out HJ2.out)) (ha4.ne (fB HB4.out HJ2.out))).trans (fB HB4.out HJ2.out));have HG1:=ac ((hc5.block _ (fE (fB HB4.out HJ3.out)) (ha4.ne (fB HB4.out HJ3.out))).trans (fB HB4.out HJ3.out));clear hv5 hg5 hc5 ha4;refine bR ?_
       gi_wp2
       exact⟨HK5.out,HC5.out.congr (λ_=>bM) (λ_=>bM) (λ_=>bM) (λy=>by unfold my;rw[cw,ax,eO];simp),HG0.out,HG1.out⟩
      case done=>
       rintro D' W hD hJ hdf;obtain⟨h1,_,_⟩:=hJ.out;have HDF:=ac hdf;have h2:=(CS.steady (aT hz19 hD)).put (.deferred none) (l:=D') h1 (aj _) hdf rfl;have HF:Hid (CS w r d l a (λy=>R y\/y∈oT bs b) (λy=>D y\/y∈mZ ps bs b) (λy=>L y\/y∈qW bs b) (λy=>A y\/y∈BO bs b) (W.putObj D' (.deferred none))):=(h2.congr (λ_=>bM) (λ_=>bM) (λ_=>bM) (λy=>by rw[yr HX.out])).base (by rw[hP];exact HW0.out);clear hJ hdf h1 h2
       gi_wp2
       refine⟨by simp,.inl ⟨_,_,rfl,cM HDF.out,?_⟩⟩;exact⟨.tuple #[],by simp[results,Tryz.results86,go_sem],rfl,HF.out⟩
end
end Go.Proofs.YtbknbcmppdglhaaGreatDoor
