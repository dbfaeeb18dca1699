/-
 Edge:Between,Into,Out.
-/
import Derived.Test.YtchdkjenhppleaaGreatA0
import Derived.Test.YtchdkjenhppleaaGreatEI
import Derived.Test.YtchdkjenhppleaaGreatSF
import Derived.Test.YtchdkjenhppleaaGreatED
namespace Go.Proofs.YtchdkjenhppleaaGreat
set_option linter.unusedSimpArgs false
set_option linter.unusedVariables false
set_option linter.unusedSectionVars false
set_option maxRecDepth 100000
set_option maxHeartbeats 40000000
section
open Go.RowKit Go.Shelf
attribute [local go_sem] Oper.semAt_some iB fS gP fH
theorem ke(x:gQ)(W:World)(v:Value)(cs:Array Value)(hv:v=.agg cs)(hcs:cs.size=3):
  Calls Tryz.prog 83 #[v,BB x] W λe W'=>e=.returned (.bool true)/\Below W.heap.size W W':=by
 subst hv
 obtain⟨c0,c1,c2,rfl⟩:∃c0 c1 c2,cs= #[c0,c1,c2]:=by
  match cs,hcs with
  |⟨[c0,c1,c2]⟩,_=>exact⟨c0,c1,c2,rfl⟩
 go_enter Tryz.func83,Tryz.ntmps83
 go_wp2
 go_ret
 exact⟨rfl,eA (eD _ _) (eD _ _)⟩
theorem YJ(args:Array Value)(w:World):(callFunc 83 args).run Tryz.prog w=.ok (.enter 83 args) w:=cQ Tryz.func83 (by kernel_rfl) rfl args w
section
variable (pa:Option Addr) (pn pc:Nat) (ba:Option Addr) (bn bc:Nat) (bs:List jU) (a:Option Addr) (n c:Nat) (ls:List lI) (k:Int) (w:World) (h:iP w ba bn bs) (ht:jW w a n ls) (hT:zR (eM ls)<=1000000)
theorem uI.up{ts:List fC}{l:List eW}{ask:gQ->Bool}{w w1:World}{e:Ending}{w':World}(h:uI ts l ask w1 e w')(hb:Below w.heap.size w w1):uI ts l ask w e w':=by
 obtain⟨v,he,hb1,h0,h1⟩:=h
 exact⟨v,he,eA hb hb1,h0,λhr=>let ⟨hs,h2,h3⟩:=h1 hr;⟨hs,h2.mono hb.size,h3⟩⟩
include h ht hT
theorem QP:Calls Tryz.prog 47 #[kF pa pn pc ba bn bc,.slice a n c] w (uI (eZ bs) (eM ls) (λ_=>true) w):=by
 have H:=ac h
 have HT:=ac ht
 clear h ht
 have HAK:Hid (∀(x:gQ) (W:World) (base:Nat) (v:Value),x∈GI (eZ bs)->mU W base (eM ls) bn a n c v->Calls Tryz.prog 83 (#[]++ #[v,BB x]) W λe W'=>e=.returned (.bool ((λ_=>true) x))/\Below W.heap.size W W'):=λx W base v _ har=>by
  obtain⟨g,cc,M,rfl,_⟩:=har;exact ke x W _ _ rfl rfl
 go_enter Tryz.func47,Tryz.ntmps47
 go_wp2_with (
  (go_at_call 82
   refine(gk pa pn pc ba bn bc bs a n c ls 83 #[] YJ (λ_=>true) _ (H.out.ext (eD _ _)) (HT.out.ext (eD _ _)) hT HAK.out).mono ?_;rintro e w2 hp;have hp2:=hp.up (eD _ _);obtain⟨v,rfl,hb,h0,h1⟩:=hp2;have HB:=ac hb;have H0:=ac h0;have H1:=ac h1
   clear hp hb h0 h1))
 exact aD (v:=.tuple #[v,.int .i64 (kG (eZ bs) (eM ls))]) (by simp[results,Tryz.results47,go_sem,Act.put]) rfl ⟨v,rfl,HB.out,H0.out,H1.out⟩
end
end

section
open Go.RowKit Go.Shelf
def exB(gI:Nat):gZ:=⟨⟨some ⟨gI,0,none⟩,1,1,⟨3,1,0,0⟩⟩,[⟨⟨1,1,0,0,5,0,[],0⟩,none,0,0⟩]⟩
def ZI(gC:Nat):lI:=⟨⟨1,-1,[0]⟩,some ⟨gC,0,none⟩,1,1⟩
theorem jn(gI:Nat):pN [] [exB gI]=0:=by kernel_rfl
theorem LB(gI gC:Nat):kG (eZ (hOf [exB gI])) (eM [ZI gC])=0/\fE (eZ (hOf [exB gI])) (eM [ZI gC])=true/\m5 (eZ (hOf [exB gI])) (eM [ZI gC]) (λ_=>true)= []:=⟨by kernel_rfl,by kernel_rfl,by kernel_rfl⟩
theorem ZY(gI:Nat):GI (eZ (hOf [exB gI]))= []:=by kernel_rfl
theorem oe(gI:Nat):toD (exB gI).h.t= []:=by kernel_rfl
theorem qG.blks{w:World}{gI gF:Nat}(h:qG w gI gF):tR w (some ⟨gF,0,none⟩) 1 [exB gI]:=by
 refine⟨⟨rfl,by omega,λk x hx=>⟨gF,0,rfl,λj hj=>?_⟩⟩,λb hb=>?_⟩
 .rw[bd _ _ _ _ _ _ h.2];have hj5:j<5:=hj
  match k,hx with
  |0,hx=>
   injection hx with hx;subst hx;rw[bx,bz,aW]
   match j,hj5 with
   |0,_|1,_|2,_|3,_|4,_=>rfl
  |k+1,hx=>simp at hx
 .rw[bm] at hb;subst hb;refine⟨by simp only[rM,exB,I64];omega,⟨rfl,by show(1:Nat)<=_;omega,λk x hx=>⟨gI,0,rfl,λj hj=>?_⟩⟩,λr hr=>?_⟩
  .rw[bd _ _ _ _ _ _ h.1];have hj8:j<8:=hj
   match k,hx with
   |0,hx=>
    injection hx with hx;subst hx;rw[bx,bz,aW]
    match j,hj8 with
    |0,_|1,_|2,_|3,_|4,_|5,_|6,_|7,_=>rfl
   |k+1,hx=>simp[exB] at hx
  .simp only[exB,bm] at hr;subst hr;refine⟨⟨rfl,by decide,λk hk=>absurd hk (by simp)⟩,by decide,?_⟩;simp only[I64];omega
def nV(w:World)(gC:Nat):Prop:=w.heap[gC]? =some (.cells #[.int .i64 0] 3 (0,0))/\w.heap[gC+1]? =some (.cells #[.int .i64 1,.int .i64 (-1),.slice (some ⟨gC,0,none⟩) 1 1] 79 (0,0))
theorem nV.ext{w w':World}{gC:Nat}(h:nV w gC)(hb:Below w.heap.size w w'):nV w' gC:=⟨eB hb h.1,eB hb h.2⟩
theorem nV.tiles{w:World}{gC:Nat}(h:nV w gC):jW w (some ⟨gC+1,0,none⟩) 1 [ZI gC]:=by
 refine⟨⟨rfl,by omega,λk x hx=>⟨gC+1,0,rfl,λj hj=>?_⟩⟩,λt ht=>?_⟩
 .rw[bd _ _ _ _ _ _ h.2];have hj3:j<3:=hj
  match k,hx with
  |0,hx=>
   injection hx with hx;subst hx;rw[bx,bz,aW]
   match j,hj3 with
   |0,_|1,_|2,_=>rfl
  |k+1,hx=>simp at hx
 .rw[bm] at ht;subst ht;refine⟨⟨rfl,by show(1:Nat)<=_;omega,λk hk=>⟨gC,0,rfl,?_,?_⟩⟩,aw _,by show I64 1;unfold I64;omega,by show I64 (-1);unfold I64;omega⟩
  .obtain rfl:k=0:=by have:k<1:=hk;omega
   exact cK 0 h.1 rfl
  .obtain rfl:k=0:=by have:k<1:=hk;omega
   show I64 0;unfold I64;omega
abbrev UJ(gC:Nat):Value:=.agg #[.slice (some ⟨gC+1,0,none⟩) 1 1,.slice none 0 0]
abbrev ZR(gC:Nat):Obj:=.cells #[.slice (some ⟨gC+1,0,none⟩) 1 1,.slice none 0 0] 58 (0,0)
abbrev kq(gF:Nat):Obj:=gH none 0 0 (some ⟨gF,0,none⟩) 1 1
def tU(P gI gF gT gB gC nt:Nat)(W:World):Prop:=(W.heap[P]? =some (iK exM none 0 0 none 0 0)/\W.heap[P+1]? =some (kq gF)/\W.heap[P+1+1]? =some (RA gB)/\W.heap[P+1+1+1]? =some (ZR gC))/\qG W gI gF/\pA W gT gB nt/\nV W gC
section
variable {P gI gF gT gB gC nt:Nat} {W W':World}
theorem tU.ext(h:tU P gI gF gT gB gC nt W)(hb:Below W.heap.size W W'):tU P gI gF gT gB gC nt W':=⟨⟨eB hb h.1.1,eB hb h.1.2.1,eB hb h.1.2.2.1,eB hb h.1.2.2.2⟩,h.2.1.ext hb,h.2.2.1.ext hb,h.2.2.2.ext hb⟩
theorem tU.m(h:tU P gI gF gT gB gC nt W):W.cell? ⟨P,0,none⟩=some (.int .i64 2)/\W.cell? ⟨P,1,none⟩=some (.slice none 0 0)/\W.cell? ⟨P,2,none⟩=some (.int .i64 0)/\W.cell? ⟨P,3,none⟩=some (.slice none 0 0):=wD h.1.1 rfl
theorem tU.f(h:tU P gI gF gT gB gC nt W):W.cell? ⟨P+1,0,none⟩=some (.slice none 0 0)/\W.cell? ⟨P+1,1,none⟩=some (.slice (some ⟨gF,0,none⟩) 1 1):=qR h.1.2.1 rfl
theorem tU.t(h:tU P gI gF gT gB gC nt W):W.cell? ⟨P+1+1,0,none⟩=some (.int .i64 0)/\W.cell? ⟨P+1+1,1,none⟩=some (.slice (some ⟨gB,0,none⟩) 1 1):=qR h.1.2.2.1 rfl
theorem tU.c(h:tU P gI gF gT gB gC nt W):W.cell? ⟨P+1+1+1,0,none⟩=some (.slice (some ⟨gC+1,0,none⟩) 1 1)/\W.cell? ⟨P+1+1+1,1,none⟩=some (.slice none 0 0):=qR h.1.2.2.2 rfl
theorem tU.blk(h:tU P gI gF gT gB gC nt W):W.cell? ⟨gF,0,none⟩=some (.slice (some ⟨gI,0,none⟩) 1 1)/\W.cell? ⟨gF,1,none⟩=some (.int .i64 3)/\W.cell? ⟨gF,2,none⟩=some (.int .i64 1)/\W.cell? ⟨gF,3,none⟩=some (.int .i64 0)/\W.cell? ⟨gF,4,none⟩=some (.int .i64 0):=nN h.2.1.2 rfl
theorem tU.tblk(h:tU P gI gF gT gB gC nt W):W.cell? ⟨gB,0,none⟩=some (.slice (some ⟨gT,0,none⟩) nt 2)/\W.cell? ⟨gB,1,none⟩=some (.int .i64 3)/\W.cell? ⟨gB,2,none⟩=some (.int .i64 0)/\W.cell? ⟨gB,3,none⟩=some (.int .i64 0)/\W.cell? ⟨gB,4,none⟩=some (.int .i64 0):=nN h.2.2.1.2 rfl
end
theorem kf(gI gF gT gB gC nt:Nat)(w:World)(hn:nt=1\/nt=2)(h1:qG w gI gF)(h2:pA w gT gB nt)(h3:nV w gC):
  Calls Tryz.prog 19 #[MN,kF none 0 0 (some ⟨gF,0,none⟩) 1 1,QZ gB,UJ gC] w λe w'=>∃x,e=.returned (.pointer (some ⟨x,0,none⟩))/\BE w' x gI gF gT gB gC nt/\Below w.heap.size w w':=by
 have e0:kN exM=true:=by decide
 have HN:=ac hn
 have HPS:∀W:World,fR W none 0 []:=λW=>⟨rfl,by omega,λk hk=>absurd hk (by omega)⟩
 obtain⟨w0,hw0⟩:∃z,z=(((w.alloc (iK exM none 0 0 none 0 0)).alloc (kq gF)).alloc (RA gB)).alloc (ZR gC):=⟨_,rfl⟩
 have hx0:Below w.heap.size w w0:=by rw[hw0];exact eA (eA (eA (eC _ _) (eC _ _)) (eC _ _)) (eC _ _)
 have HG0:Hid (tU w.heap.size gI gF gT gB gC nt w0):=⟨⟨by rw[hw0];exact eB (eA (eA (eC _ _) (eC _ _)) (eC _ _)) (ai _ _),by rw[hw0];exact eB (eA (eC _ _) (eC _ _)) (fM _ _ _ (by simp)),by rw[hw0];exact eB (eC _ _) (fM _ _ _ (by simp)),by rw[hw0];exact fM _ _ _ (by simp)⟩,h1.ext hx0,h2.ext hx0,h3.ext hx0⟩
 have HX0:=ac hx0
 have HW0:=ac hw0
 clear hx0 hw0 h1 h2 h3 hn
 go_enter Tryz.func19,Tryz.ntmps19
 go_upto_region 1 with (fail)
 have hWe:(((w.alloc (.cells #[.int .i64 2,.slice none 0 0,.int .i64 0,.slice none 0 0] 24)).alloc (.cells #[.slice none 0 0,.slice (some ⟨gF,0,none⟩) 1 1] 47)).alloc (.cells #[.int .i64 0,.slice (some ⟨gB,0,none⟩) 1 1] 49)).alloc (.cells #[.slice (some ⟨gC+1,0,none⟩) 1 1,.slice none 0 0] 58)=w0:=HW0.out.symm
 rw[hWe]
 clear hWe
 obtain⟨P,hP⟩:∃P,P=w.heap.size:=⟨_,rfl⟩
 rw[<-hP] at HG0|-
 have HP:=ac hP
 clear hP
 obtain⟨m0,m1,m2,m3⟩:=HG0.out.m
 go_upto_region 2 with (first
  |(go_at_call 43
    refine(nZ _ 2 (-1) (-1) rfl w4).mono ?_;rintro e w5 ⟨rfl,hb5⟩;have HX5:=ac (eA HX4.out hb5);have HG5:=ac (HG4.out.ext hb5)
    clear hb5)
  |(go_at_call 42
    refine(pF 2 w3).mono ?_;rintro e w4 ⟨rfl,hb4⟩;have HX4:=ac (eA HX3.out hb4);have HG4:=ac (HG3.out.ext hb4)
    clear hb4)
  |(go_at_call 45
    refine(VU none 0 0 (some ⟨gF,0,none⟩) (exB gI).h w2 (oe gI) HG2.out.2.1.blks.x.1).mono ?_;rintro e w3 ⟨rfl,hb3⟩;have HX3:=ac (eA HX2.out hb3);have HG3:=ac (HG2.out.ext hb3)
    clear hb3)
  |(go_at_call 44
    refine(PX none 0 0 [] (some ⟨gF,0,none⟩) 1 1 [exB gI] w1 (HPS w1) HG1.out.2.1.blks).mono ?_;rw[jn];rintro e w2 ⟨rfl,hb2⟩;have HX2:=ac (eA HX1.out hb2);have HG2:=ac (HG1.out.ext hb2);obtain⟨f2,f3⟩:=HG2.out.f
    clear hb2)
  |(go_at_call 27
    refine(nK exM none none 0 0 0 0 w0 (AA w0)).mono ?_;rw[e0];rintro e w1 ⟨rfl,hb1⟩;have HX1:=ac hb1;have HG1:=ac (HG0.out.ext hb1);obtain⟨f0,f1⟩:=HG1.out.f
    clear hb1))
 clear m0 m1 m2 m3 f0 f1 f2 f3
 obtain⟨m0,m1,m2,m3⟩:=HG5.out.m
 obtain⟨t0,t1⟩:=HG5.out.t
 go_upto_region 4 with (first
  |(go_at_call 43
    refine(nZ _ 0 (-1) (-1) rfl w7).mono ?_;rintro e w8 ⟨rfl,hb8⟩;have HX8:=ac (eA HX7.out hb8);have HG8:=ac (HG7.out.ext hb8)
    clear hb8)
  |(go_at_call 42
    refine(pF 0 w6).mono ?_;rintro e w7 ⟨rfl,hb7⟩;have HX7:=ac (eA HX6.out hb7);have HG7:=ac (HG6.out.ext hb7)
    clear hb7)
  |(go_at_call 46
    refine(LT gT gB nt w5 HN.out HG5.out.2.2.1).mono ?_;rintro e w6 ⟨rfl,hb6⟩;have HX6:=ac (eA HX5.out hb6);have HG6:=ac (HG5.out.ext hb6)
    clear hb6))
 clear m0 m1 m2 m3 t0 t1
 have hne:Nonempty (eH w8):=⟨⟨w8,ao _ _⟩⟩
 refine iZ (λw'=>∃n:eH w8,w'=n.val) (by kernel_rfl) ?_
 obtain⟨v0,F0,hv0⟩:∃v0,Below w8.heap.size w8 v0/\w8.drew=v0:=⟨_,eS (ao _ _) 1,rfl⟩
 rw[hv0]
 clear hv0
 have r1:=λn:eH w8=>eH.cell HG8.out.t.2 n
 have r2:=λn:eH w8=>eH.cell HG8.out.f.2 n
 refine eK 0 7 (by kernel_rfl) ⟨⟨_,F0⟩,rfl⟩ ?_
 simp only[ak,aq,aj,ap]
 repeat (go_big_quiet_step (fail))
 refine ar ?_
 refine eO 7 (by kernel_rfl) ?_
 refine eE rfl rfl ?_
 go_simp
 refine(pF 13 v0).mono ?_
 rintro e v1 ⟨rfl,hb⟩
 have F1:=eA F0 hb
 refine⟨Or.inr ⟨⟨_,F1⟩,rfl⟩,?_⟩
 clear hb
 try simp only[Act.put,ae,ah,ag]
 refine eO 8 (by kernel_rfl) ?_
 refine eE rfl rfl ?_
 go_simp
 refine(nZ _ 13 (-1) (-1) rfl v1).mono ?_
 rintro e w9 ⟨rfl,hb⟩
 have F2:=eA F1 hb
 refine⟨Or.inr ⟨⟨_,F2⟩,rfl⟩,?_⟩
 clear hb
 try simp only[Act.put,ae,ah,ag]
 refine fJ (by kernel_rfl) ?_
 have HX9:=ac (eA HX8.out F2)
 have HG9:=ac (HG8.out.ext F2)
 clear F0 F1 F2 hne r1 r2
 obtain⟨f0,f1⟩:=HG9.out.f
 go_wp2
 clear f0 f1
 refine cL 2 ?_
 rw[cM]
 go_upto_region 8 with (fail)
 have hne:Nonempty (eH w9):=⟨⟨w9,ao _ _⟩⟩
 refine iZ (λw'=>∃n:eH w9,w'=n.val) (by kernel_rfl) ?_
 obtain⟨v0,F0,hv0⟩:∃v0,Below w9.heap.size w9 v0/\w9.drew=v0:=⟨_,eS (ao _ _) 1,rfl⟩
 rw[hv0]
 clear hv0
 have r1:=λn:eH w9=>eH.cell HG9.out.f.2 n
 have r2:=λn:eH w9=>eH.cell HG9.out.t.2 n
 have m0:=λn:eH w9=>eH.cell HG9.out.m.1 n
 have m1:=λn:eH w9=>eH.cell HG9.out.m.2.1 n
 have m2:=λn:eH w9=>eH.cell HG9.out.m.2.2.1 n
 have m3:=λn:eH w9=>eH.cell HG9.out.m.2.2.2 n
 have b0:=λn:eH w9=>eH.cell HG9.out.blk.1 n
 have b1:=λn:eH w9=>eH.cell HG9.out.blk.2.1 n
 have b2:=λn:eH w9=>eH.cell HG9.out.blk.2.2.1 n
 have b3:=λn:eH w9=>eH.cell HG9.out.blk.2.2.2.1 n
 have b4:=λn:eH w9=>eH.cell HG9.out.blk.2.2.2.2 n
 have s0:=λn:eH w9=>eH.cell HG9.out.tblk.1 n
 have s1:=λn:eH w9=>eH.cell HG9.out.tblk.2.1 n
 have s2:=λn:eH w9=>eH.cell HG9.out.tblk.2.2.1 n
 have s3:=λn:eH w9=>eH.cell HG9.out.tblk.2.2.2.1 n
 have s4:=λn:eH w9=>eH.cell HG9.out.tblk.2.2.2.2 n
 refine eK 0 11 (by kernel_rfl) ⟨⟨_,F0⟩,rfl⟩ ?_
 simp only[ak,aq,aj,ap]
 repeat (go_big_quiet_step (fail))
 refine ar ?_
 refine eK 12 2 (by kernel_rfl) ⟨⟨_,F0⟩,rfl⟩ ?_
 simp only[ak,aq,aj,ap]
 repeat (go_big_quiet_step (fail))
 refine ar ?_
 clear r1 r2 m0 m1 m2 m3 b0 b1 b2 b3 b4 s0 s1 s2 s3 s4
 refine eO 11 (by kernel_rfl) ?_
 refine eE rfl rfl ?_
 go_simp
 refine(yG exM none none 0 0 0 0 exS (exT nt) (some ⟨gI,0,none⟩) (some ⟨gT,0,none⟩) 1 1 nt 2 v0 (AA v0) (HG9.out.2.1.ext F0).blk ((HG9.out.2.2.1.ext F0).blk HN.out)).mono ?_
 rw[VC HN.out]
 rintro e v1 ⟨rfl,hb⟩
 have F1:=eA F0 hb
 refine⟨Or.inr ⟨⟨_,F1⟩,rfl⟩,?_⟩
 clear hb
 try simp only[Act.put,ae,ah,ag]
 refine eO 14 (by kernel_rfl) ?_
 refine eE rfl rfl ?_
 go_simp
 refine(nZ _ 13 0 (-1) rfl v1).mono ?_
 rintro e w10 ⟨rfl,hb⟩
 have F2:=eA F1 hb
 refine⟨Or.inr ⟨⟨_,F2⟩,rfl⟩,?_⟩
 clear hb
 try simp only[Act.put,ae,ah,ag]
 refine fJ (by kernel_rfl) ?_
 have HX10:=ac (eA HX9.out F2)
 have HG10:=ac (HG9.out.ext F2)
 clear F0 F1 F2 hne
 obtain⟨f0,f1⟩:=HG10.out.f
 obtain⟨q0,q1⟩:=HG10.out.c
 go_wp2
 try rw[cM]
 go_upto_region 12 with (first
  |(go_at_call 43
    refine(nZ _ 12 (-1) (-1) rfl w12).mono ?_;rintro e w13 ⟨rfl,hb13⟩;have HX13:=ac (eA HX12.out hb13);have HG13:=ac (HG12.out.ext hb13)
    clear hb13)
  |(go_at_call 42
    refine(pF 12 w11).mono ?_;rintro e w12 ⟨rfl,hb12⟩;have HX12:=ac (eA HX11.out hb12);have HG12:=ac (HG11.out.ext hb12)
    clear hb12)
  |(go_at_call 47
    refine(QP none 0 0 (some ⟨gF,0,none⟩) 1 1 (hOf [exB gI]) (some ⟨gC+1,0,none⟩) 1 1 [ZI gC] w10 HG10.out.2.1.blks.x.1 HG10.out.2.2.2.tiles (by show(1:Nat)<=1000000;omega)).mono ?_;rintro e w11 ⟨v,he,hb11,_,hr⟩;rw[(LB gI gC).1] at he;subst he;obtain⟨hs,hrows,hmap⟩:=hr (LB gI gC).2.1;rw[(LB gI gC).2.2] at hmap;obtain rfl:=List.map_eq_nil_iff.1 hmap;obtain⟨ra,rc,rfl⟩:=hrows.1.form;have HX11:=ac (eA HX10.out hb11);have HG11:=ac (HG10.out.ext hb11)
    clear hb11 hr hrows hmap))
 clear f0 f1 q0 q1
 have hne:Nonempty (eH w13):=⟨⟨w13,ao _ _⟩⟩
 refine iZ (λw'=>∃n:eH w13,w'=n.val) (by kernel_rfl) ?_
 obtain⟨v0,F0,hv0⟩:∃v0,Below w13.heap.size w13 v0/\w13.drew=v0:=⟨_,eS (ao _ _) 1,rfl⟩
 rw[hv0]
 clear hv0
 have r1:=λn:eH w13=>eH.cell HG13.out.c.2 n
 refine eK 0 6 (by kernel_rfl) ⟨⟨_,F0⟩,rfl⟩ ?_
 simp only[ak,aq,aj,ap]
 repeat (go_big_quiet_step (fail))
 refine ar ?_
 refine eO 6 (by kernel_rfl) ?_
 refine eE rfl rfl ?_
 go_simp
 refine(pF 3 v0).mono ?_
 rintro e v1 ⟨rfl,hb⟩
 have F1:=eA F0 hb
 refine⟨Or.inr ⟨⟨_,F1⟩,rfl⟩,?_⟩
 clear hb
 try simp only[Act.put,ae,ah,ag]
 refine eO 7 (by kernel_rfl) ?_
 refine eE rfl rfl ?_
 go_simp
 refine(nZ _ 3 (-1) (-1) rfl v1).mono ?_
 rintro e w14 ⟨rfl,hb⟩
 have F2:=eA F1 hb
 refine⟨Or.inr ⟨⟨_,F2⟩,rfl⟩,?_⟩
 clear hb
 try simp only[Act.put,ae,ah,ag]
 refine fJ (by kernel_rfl) ?_
 have HX14:=ac (eA HX13.out F2)
 have HG14:=ac (HG13.out.ext F2)
 clear F0 F1 F2 hne r1
 go_wp2
 have hne:Nonempty (eH w14):=⟨⟨w14,ao _ _⟩⟩
 refine iZ (λw'=>∃n:eH w14,w'=n.val) (by kernel_rfl) ?_
 obtain⟨v0,F0,hv0⟩:∃v0,Below w14.heap.size w14 v0/\w14.drew=v0:=⟨_,eS (ao _ _) 1,rfl⟩
 rw[hv0]
 clear hv0
 have r1:=λn:eH w14=>eH.cell HG14.out.f.1 n
 have r2:=λn:eH w14=>eH.cell HG14.out.f.2 n
 have r3:=λn:eH w14=>eH.cell HG14.out.m.1 n
 have r4:=λn:eH w14=>eH.cell HG14.out.m.2.1 n
 have r5:=λn:eH w14=>eH.cell HG14.out.m.2.2.1 n
 have r6:=λn:eH w14=>eH.cell HG14.out.m.2.2.2 n
 have r7:=λn:eH w14=>eH.cell HG14.out.t.1 n
 have r8:=λn:eH w14=>eH.cell HG14.out.t.2 n
 have r9:=λn:eH w14=>eH.cell HG14.out.c.1 n
 have rX:=λn:eH w14=>eH.cell HG14.out.c.2 n
 refine eK 0 5 (by kernel_rfl) ⟨⟨_,F0⟩,rfl⟩ ?_
 simp only[ak,aq,aj,ap]
 repeat (go_big_quiet_step (fail))
 refine ar ?_
 refine eK 7 1 (by kernel_rfl) ⟨⟨_,F0⟩,rfl⟩ ?_
 simp only[ak,aq,aj,ap]
 repeat (go_big_quiet_step (fail))
 refine ar ?_
 clear r1 r2 r3 r4 r5 r6 r7 r8 r9 rX
 have hmm:= @run_makeMap Tryz.prog
 refine lU 5 6 (by kernel_rfl) ?_ ?_
 .refine eE rfl rfl ?_;go_simp;refine(OS none 0 0 (some ⟨gF,0,none⟩) 1 1 (hOf [exB gI]) v0 (HG14.out.2.1.ext F0).blks.x.1).mono ?_;rintro e v1 ⟨ev,rfl,ho,hb⟩;rw[ZY] at ho;obtain⟨ea,ec,rfl⟩:=ho.form;have F1:=eA F0 hb;refine⟨Or.inr ⟨⟨_,F1⟩,rfl⟩,?_⟩;clear hb ho
  try simp only[Act.put,ae,ah,ag]
  refine eO 6 (by kernel_rfl) ?_;refine eE rfl rfl ?_;go_simp;have F2:=eA F1 (eC v1 (.map #[] 0));refine⟨Or.inr ⟨⟨_,F2⟩,rfl⟩,?_⟩;generalize v1.heap.size=fm at *;generalize v1.alloc (.map #[] 0)=v2 at*
  try simp only[Act.put,ae,ah,ag]
  refine eK 8 1 (by kernel_rfl) ⟨⟨_,F2⟩,rfl⟩ ?_;simp only[ak,aq,aj,ap]
  repeat (go_big_quiet_step (fail))
  refine ar ?_;refine eO 9 (by kernel_rfl) ?_;refine eE rfl rfl ?_;go_simp;have hj:=ai v2 (VO gF gB gC 0 ec fm 0 rc ea ra);have F3:=eA F2 (eC v2 (VO gF gB gC 0 ec fm 0 rc ea ra));refine⟨Or.inr ⟨⟨_,F3⟩,rfl⟩,?_⟩
  try simp only[Act.put,ae,ah,ag]
  refine eK 10 1 (by kernel_rfl) ⟨⟨_,F3⟩,rfl⟩ ?_;simp only[ak,aq,aj,ap]
  repeat (go_big_quiet_step (fail))
  refine ar ?_;refine fJ (by kernel_rfl) ?_;have HX15:=ac (eA HX14.out F3);have HG15:=ac (HG14.out.ext F3);have HJ15:=ac hj;clear hj F0 F1 F2 F3 hne hmm;obtain⟨q0,q1⟩:=HG15.out.c;obtain⟨m0,m1,m2,m3⟩:=HG15.out.m;obtain⟨f0,f1⟩:=HG15.out.f;go_wp2;refine cL 1 ?_;rw[cM]
  go_wp2_with (first
   |(go_at_call 43
     refine(nZ _ 10 (-1) (-1) rfl w17).mono ?_;rintro e w18 ⟨rfl,hb18⟩;have HX18:=ac (eA HX17.out hb18);have HG18:=ac (HG17.out.ext hb18);have HJ18:=ac (eB hb18 HJ17.out)
     clear hb18)
   |(go_at_call 42
     refine(pF 10 w16).mono ?_;rintro e w17 ⟨rfl,hb17⟩;have HX17:=ac (eA HX16.out hb17);have HG17:=ac (HG16.out.ext hb17);have HJ17:=ac (eB hb17 HJ16.out)
     clear hb17)
   |(go_at_call 49
     refine(xC (some ⟨gF,0,none⟩) _).mono ?_;rintro e w16 ⟨la,lc,rfl,hb16⟩;have HX16:=ac (eA HX15.out hb16);have HG16:=ac (HG15.out.ext hb16);have HJ16:=ac (eB hb16 HJ15.out)
     clear hb16))
  go_ret
  exact⟨v2.heap.size,rfl,⟨⟨fm,ec,rc,ea,ra,HJ18.out⟩,HG18.out.2.1,HG18.out.2.2.1,HG18.out.2.2.2.1,HG18.out.2.2.2.2⟩,eA HX0.out HX18.out⟩
 .refine eE rfl rfl ?_;go_simp;have F1:=eA F0 (eC v0 (.map #[] 0));refine⟨Or.inr ⟨⟨_,F1⟩,rfl⟩,?_⟩;generalize v0.heap.size=fm at *;generalize v0.alloc (.map #[] 0)=v1 at*
  try simp only[Act.put,ae,ah,ag]
  refine eO 5 (by kernel_rfl) ?_;refine eE rfl rfl ?_;go_simp;refine(OS none 0 0 (some ⟨gF,0,none⟩) 1 1 (hOf [exB gI]) v1 (HG14.out.2.1.ext F1).blks.x.1).mono ?_;rintro e v2 ⟨ev,rfl,ho,hb⟩;rw[ZY] at ho;obtain⟨ea,ec,rfl⟩:=ho.form;have F2:=eA F1 hb;refine⟨Or.inr ⟨⟨_,F2⟩,rfl⟩,?_⟩;clear hb ho
  try simp only[Act.put,ae,ah,ag]
  refine eK 8 1 (by kernel_rfl) ⟨⟨_,F2⟩,rfl⟩ ?_;simp only[ak,aq,aj,ap]
  repeat (go_big_quiet_step (fail))
  refine ar ?_;refine eO 9 (by kernel_rfl) ?_;refine eE rfl rfl ?_;go_simp;have hj:=ai v2 (VO gF gB gC 0 ec fm 0 rc ea ra);have F3:=eA F2 (eC v2 (VO gF gB gC 0 ec fm 0 rc ea ra));refine⟨Or.inr ⟨⟨_,F3⟩,rfl⟩,?_⟩
  try simp only[Act.put,ae,ah,ag]
  refine eK 10 1 (by kernel_rfl) ⟨⟨_,F3⟩,rfl⟩ ?_;simp only[ak,aq,aj,ap]
  repeat (go_big_quiet_step (fail))
  refine ar ?_;refine fJ (by kernel_rfl) ?_;have HX15:=ac (eA HX14.out F3);have HG15:=ac (HG14.out.ext F3);have HJ15:=ac hj;clear hj F0 F1 F2 F3 hne hmm;obtain⟨q0,q1⟩:=HG15.out.c;obtain⟨m0,m1,m2,m3⟩:=HG15.out.m;obtain⟨f0,f1⟩:=HG15.out.f;go_wp2;refine cL 1 ?_;rw[cM]
  go_wp2_with (first
   |(go_at_call 43
     refine(nZ _ 10 (-1) (-1) rfl w17).mono ?_;rintro e w18 ⟨rfl,hb18⟩;have HX18:=ac (eA HX17.out hb18);have HG18:=ac (HG17.out.ext hb18);have HJ18:=ac (eB hb18 HJ17.out)
     clear hb18)
   |(go_at_call 42
     refine(pF 10 w16).mono ?_;rintro e w17 ⟨rfl,hb17⟩;have HX17:=ac (eA HX16.out hb17);have HG17:=ac (HG16.out.ext hb17);have HJ17:=ac (eB hb17 HJ16.out)
     clear hb17)
   |(go_at_call 49
     refine(xC (some ⟨gF,0,none⟩) _).mono ?_;rintro e w16 ⟨la,lc,rfl,hb16⟩;have HX16:=ac (eA HX15.out hb16);have HG16:=ac (HG15.out.ext hb16);have HJ16:=ac (eB hb16 HJ15.out)
     clear hb16))
  go_ret
  exact⟨v2.heap.size,rfl,⟨⟨fm,ec,rc,ea,ra,HJ18.out⟩,HG18.out.2.1,HG18.out.2.2.1,HG18.out.2.2.2.1,HG18.out.2.2.2.2⟩,eA HX0.out HX18.out⟩
end

section
open Go.RowKit Go.Shelf
theorem yY(args:Array Value)(w:World):(callFunc 18 args).run Tryz.prog w=.ok (.enter 18 args) w:=cQ Tryz.func18 (by kernel_rfl) rfl args w
theorem ES(P gI gF gT gB gC nt:Nat)(w:World)(hn:nt=1\/nt=2)(h:tU P gI gF gT gB gC nt w):
  Calls Tryz.prog 18 #[.pointer (some ⟨P,0,none⟩),.pointer (some ⟨P+1,0,none⟩),.pointer (some ⟨P+1+1,0,none⟩),.pointer (some ⟨P+1+1+1,0,none⟩)] w λe w'=>eu nt e/\Below w.heap.size w w':=by
 have HN:=ac hn
 have HG:=ac h
 obtain⟨m0,m1,m2,m3⟩:=h.m
 obtain⟨f0,f1⟩:=h.f
 obtain⟨t0,t1⟩:=h.t
 obtain⟨q0,q1⟩:=h.c
 clear hn h
 go_enter Tryz.func18,Tryz.ntmps18
 go_upto_region 1 with (
  (go_at_call 19
   refine(kf gI gF gT gB gC nt w HN.out HG.out.2.1 HG.out.2.2.1 HG.out.2.2.2).mono ?_;rintro e w1 ⟨x,rfl,hj,hb1⟩;have HJ1:=ac hj;have HB1:=ac hb1;obtain⟨c0,c1⟩:=(HG.out.ext hb1).c
   clear hj hb1))
 clear m0 m1 m2 m3 f0 f1 t0 t1 q0 q1
 go_wp2
 refine cL 2 ?_
 rw[cM]
 rcases HN.out with rfl|rfl
 .go_wp2_with (
   (go_at_call 20
    refine(IJ x gI gF gT gB gC 1 w1 (.inl rfl) HJ1.out).mono ?_;rintro e w2 ⟨⟨h,_⟩|⟨_,rfl⟩,hb2⟩
    .cases h
    have HB2:=ac (eA HB1.out hb2)
    clear hb2))
  exact⟨rfl,Or.inr ⟨rfl,rfl⟩,HB2.out⟩
 .go_wp2_with (
   (go_at_call 20
    refine(IJ x gI gF gT gB gC 2 w1 (.inr rfl) HJ1.out).mono ?_;rintro e w2 ⟨⟨_,rfl⟩|⟨h,_⟩,hb2⟩
    rotate_left
    .cases h
    have HB2:=ac (eA HB1.out hb2)
    clear hb2))
  try rw[cM]
  go_wp2
  go_end0
  exact⟨Or.inl ⟨rfl,rfl⟩,HB2.out⟩
def oh(nt:Nat):Value:=if nt=1 then flV 14 0 0 else flV 0 (-1) (-1)
theorem ER(gI gF gT gB gC nt:Nat)(w:World)(hn:nt=1\/nt=2)(h1:qG w gI gF)(h2:pA w gT gB nt)(h3:nV w gC):
  Calls Tryz.prog 10 #[MN,kF none 0 0 (some ⟨gF,0,none⟩) 1 1,QZ gB,UJ gC] w λe w'=>e=.returned (oh nt)/\Below w.heap.size w w':=by
 have hmf:∀(fn:Fn) (first cap:Array Value) (w:World),(Instr.makeFunc fn first cap).run Tryz.prog w=.ok (.func fn first cap) w:=λ_ _ _ _=>rfl
 have HN:=ac hn
 obtain⟨w0,hw0⟩:∃z,z=((((w.alloc (iK exM none 0 0 none 0 0)).alloc (kq gF)).alloc (RA gB)).alloc (ZR gC)).alloc (.cells #[.int .i64 0,.int .i64 0,.int .i64 0] 53):=⟨_,rfl⟩
 have hx0:Below w.heap.size w w0:=by rw[hw0];exact eA (eA (eA (eA (eC _ _) (eC _ _)) (eC _ _)) (eC _ _)) (eC _ _)
 have HG0:Hid (tU w.heap.size gI gF gT gB gC nt w0):=⟨⟨by rw[hw0];exact eB (eA (eA (eA (eC _ _) (eC _ _)) (eC _ _)) (eC _ _)) (ai _ _),by rw[hw0];exact eB (eA (eA (eC _ _) (eC _ _)) (eC _ _)) (fM _ _ _ (by simp)),by rw[hw0];exact eB (eA (eC _ _) (eC _ _)) (fM _ _ _ (by simp)),by rw[hw0];exact eB (eC _ _) (fM _ _ _ (by simp))⟩,h1.ext hx0,h2.ext hx0,h3.ext hx0⟩
 have HR0:Hid (w0.heap[w.heap.size+1+1+1+1]? =some (.cells #[.int .i64 0,.int .i64 0,.int .i64 0] 53 (0,0))):=by rw[hw0];exact fM _ _ _ (by simp)
 have HX0:=ac hx0
 have HW0:=ac hw0
 clear hx0 hw0 h1 h2 h3 hn
 go_enter Tryz.func10,Tryz.ntmps10
 go_upto_region 1 with (fail)
 have hWe:((((w.alloc (.cells #[.int .i64 2,.slice none 0 0,.int .i64 0,.slice none 0 0] 24)).alloc (.cells #[.slice none 0 0,.slice (some ⟨gF,0,none⟩) 1 1] 47)).alloc (.cells #[.int .i64 0,.slice (some ⟨gB,0,none⟩) 1 1] 49)).alloc (.cells #[.slice (some ⟨gC+1,0,none⟩) 1 1,.slice none 0 0] 58)).alloc (.cells #[.int .i64 0,.int .i64 0,.int .i64 0] 53)=w0:=HW0.out.symm
 rw[hWe]
 clear hWe
 rcases HN.out with rfl|rfl
 .have HPP:Hid (∀W,Below w0.heap.size w0 W->Calls Tryz.prog 18 (#[.pointer (some ⟨w.heap.size,0,none⟩),.pointer (some ⟨w.heap.size+1,0,none⟩),.pointer (some ⟨w.heap.size+1+1,0,none⟩),.pointer (some ⟨w.heap.size+1+1+1,0,none⟩)]:Array Value) W λr W'=>r=.panicked [{v:=.iface 53 (flV 14 0 0),recovered:=false}]/\Below W.heap.size W W'):=λW hb=>(ES w.heap.size gI gF gT gB gC 1 W (.inl rfl) (HG0.out.ext hb)).mono λe W' h=>by
   obtain⟨⟨h,he⟩|⟨h,he⟩,hb'⟩:=h<;>first|exact⟨he,hb'⟩|cases h
  go_wp2_with (
   (go_at_call 17
    refine(fq 18 _ 14 0 0 w0 yY HPP.out).mono ?_;rintro e w1 ⟨rfl,hb1⟩;have hr:=eB hb1 HR0.out;obtain⟨z0,z1,z2⟩:=kr hr;obtain⟨d0,d1,d2⟩:=tY hr rfl;have HR1:=ac hr;have HB1:=ac (eA HX0.out hb1)
    clear hb1 hr))
  have h3:(((w1.setCell ⟨w.heap.size+1+1+1+1,0,none⟩ (.int .i64 14)).setCell ⟨w.heap.size+1+1+1+1,1,none⟩ (.int .i64 0)).setCell ⟨w.heap.size+1+1+1+1,2,none⟩ (.int .i64 0)).heap[w.heap.size+1+1+1+1]? =some (.cells #[.int .i64 14,.int .i64 0,.int .i64 0] 53 (0,0)):=by rw[aO _ _ _ _ _ _ (aO _ _ _ _ _ _ (aO _ _ _ _ _ _ HR1.out))];rfl
  have hB:Below w.heap.size w (((w1.setCell ⟨w.heap.size+1+1+1+1,0,none⟩ (.int .i64 14)).setCell ⟨w.heap.size+1+1+1+1,1,none⟩ (.int .i64 0)).setCell ⟨w.heap.size+1+1+1+1,2,none⟩ (.int .i64 0)):=((HB1.out.setCell (by show w.heap.size<=w.heap.size+1+1+1+1;omega) _).setCell (by show w.heap.size<=w.heap.size+1+1+1+1;omega) _).setCell (by show w.heap.size<=w.heap.size+1+1+1+1;omega) _;generalize (((w1.setCell ⟨w.heap.size+1+1+1+1,0,none⟩ (.int .i64 14)).setCell ⟨w.heap.size+1+1+1+1,1,none⟩ (.int .i64 0)).setCell ⟨w.heap.size+1+1+1+1,2,none⟩ (.int .i64 0))=W3 at *;obtain⟨d0,d1,d2⟩:=tY h3 rfl;refine aD (v:=flV 14 0 0) ?_ rfl ⟨rfl,hB⟩;simp[results,Tryz.results10,go_sem,d0,d1,d2]
 .have HPP:Hid (∀W,Below w0.heap.size w0 W->Calls Tryz.prog 18 (#[.pointer (some ⟨w.heap.size,0,none⟩),.pointer (some ⟨w.heap.size+1,0,none⟩),.pointer (some ⟨w.heap.size+1+1,0,none⟩),.pointer (some ⟨w.heap.size+1+1+1,0,none⟩)]:Array Value) W λr W'=>r=.returned (.tuple #[])/\Below W.heap.size W W'):=λW hb=>(ES w.heap.size gI gF gT gB gC 2 W (.inr rfl) (HG0.out.ext hb)).mono λe W' h=>by
   obtain⟨⟨h,he⟩|⟨h,he⟩,hb'⟩:=h<;>first|exact⟨he,hb'⟩|cases h
  go_wp2_with (
   (go_at_call 17
    refine(VZ 18 _ w0 yY HPP.out).mono ?_;rintro e w1 ⟨rfl,hb1⟩;have hr:=eB hb1 HR0.out;obtain⟨z0,z1,z2⟩:=kr hr;obtain⟨d0,d1,d2⟩:=tY hr rfl;have HR1:=ac hr;have HB1:=ac (eA HX0.out hb1)
    clear hb1 hr))
  have h3:(((w1.setCell ⟨w.heap.size+1+1+1+1,0,none⟩ (.int .i64 0)).setCell ⟨w.heap.size+1+1+1+1,1,none⟩ (.int .i64 (-1))).setCell ⟨w.heap.size+1+1+1+1,2,none⟩ (.int .i64 (-1))).heap[w.heap.size+1+1+1+1]? =some (.cells #[.int .i64 0,.int .i64 (-1),.int .i64 (-1)] 53 (0,0)):=by rw[aO _ _ _ _ _ _ (aO _ _ _ _ _ _ (aO _ _ _ _ _ _ HR1.out))];rfl
  have hB:Below w.heap.size w (((w1.setCell ⟨w.heap.size+1+1+1+1,0,none⟩ (.int .i64 0)).setCell ⟨w.heap.size+1+1+1+1,1,none⟩ (.int .i64 (-1))).setCell ⟨w.heap.size+1+1+1+1,2,none⟩ (.int .i64 (-1))):=((HB1.out.setCell (by show w.heap.size<=w.heap.size+1+1+1+1;omega) _).setCell (by show w.heap.size<=w.heap.size+1+1+1+1;omega) _).setCell (by show w.heap.size<=w.heap.size+1+1+1+1;omega) _;generalize (((w1.setCell ⟨w.heap.size+1+1+1+1,0,none⟩ (.int .i64 0)).setCell ⟨w.heap.size+1+1+1+1,1,none⟩ (.int .i64 (-1))).setCell ⟨w.heap.size+1+1+1+1,2,none⟩ (.int .i64 (-1)))=W3 at *;obtain⟨d0,d1,d2⟩:=tY h3 rfl;refine aD (v:=flV 0 (-1) (-1)) ?_ rfl ⟨rfl,hB⟩;simp[results,Tryz.results10,go_sem,d0,d1,d2]
end
end Go.Proofs.YtchdkjenhppleaaGreat
