/-
 Flat:the events of a block:what skip does.
-/
import Derived.Test.YtchdkjenhppleaaGreatA0
import Derived.Test.YtchdkjenhppleaaGreatKH
import Derived.Test.YtchdkjenhppleaaGreatMix
import Derived.Scope
import Derived.Test.YtchdkjenhppleaaGreatZedMono
namespace Go.Proofs.YtchdkjenhppleaaGreat
set_option linter.unusedSimpArgs false
set_option linter.unusedVariables false
set_option linter.unusedSectionVars false
set_option maxRecDepth 100000
set_option maxHeartbeats 40000000
section
open Go.RowKit
def MW(l:List (Bool×Int)):Bool×Int:=l.headD (false,0)
section
variable {w:World} {mo so tob:Obj} {k:Nat} {v:Value} {es:List EvD} {W W':World}
end
theorem AO(r:fW)(h:eQ r=true):hZ r.d.op=3\/hZ r.d.op=18\/hZ r.d.op=17:=by
 simp only[eQ,QY,aR] at h
 rcases h with h|h|h<;>rw[h]
 .exact Or.inl rfl
 .exact Or.inr (Or.inl rfl)
 .exact Or.inr (Or.inr rfl)
theorem XX(m:eY)(r:fW)(h:eQ r=true):∃p,gN m r.d= [p]:=by
 rcases AO r h with h|h|h
 .exact⟨_,by unfold gN;rw[h];rfl⟩
 .exact⟨_,by unfold gN;rw[h];rfl⟩
 .exact⟨_,by unfold gN;rw[h];rfl⟩
theorem EZ(m:eY)(r:fW)(h:eQ r=true):∃p,fU m r.d= [p]:=by
 rcases AO r h with h|h|h
 .exact⟨_,by unfold fU;rw[h];rfl⟩
 .exact⟨_,by unfold fU;rw[h];rfl⟩
 .exact⟨_,by unfold fU;rw[h];rfl⟩
theorem vN{α:Type}{l:List α}{k:Nat}{x:α}(h:l[k]? =some x):l.drop k=x :: l.drop (k+1):=by
 have hk:=(aI.1 h).1
 rw[au hk,bv] at h
 rw[cw hk,h]
end

section
open Go.RowKit
theorem gL:(Tryz.prog.info? 42).map (·.size)=some 2:=by kernel_rfl
theorem pB:(Tryz.prog.info? 62).map (·.size)=some 8:=by kernel_rfl
def uC(p1 p2:Bool×Int)(K:Fct->Bool):Fct->Bool:=λx=>if mY x.2 p2 then K (x.1,p1) else K x
theorem iE(p q:Bool×Int):mY p q=true↔p=q:=by
 obtain⟨a,b⟩:=p
 obtain⟨c,d⟩:=q
 simp[mY]
open Classical in
noncomputable def atV (K:Fct->Bool) (p:Bool×Int) (fe:Int):Int:=if∃y:Fct,K y=true/\y.2=p then fe else rU fe 14
def CQ(W:World)(l:List (Nat×Nat×Bool×Int))(w':World):Prop:=Below W.heap.size W w'/\∀t∈l,w'.cell? ⟨t.1,t.2.1,none⟩=some (.bool t.2.2.1)/\w'.cell? ⟨t.1,t.2.1+1,none⟩=some (.int .i64 t.2.2.2)
theorem CQ.ext{W w' w'':World}{l:List (Nat×Nat×Bool×Int)}(h:CQ W l w')(hb:Below w'.heap.size w' w''):CQ W l w'':=⟨eA h.1 hb,λt ht=>⟨eN hb (h.2 t ht).1,eN hb (h.2 t ht).2⟩⟩
theorem CQ.cons{W w':World}{l:List (Nat×Nat×Bool×Int)}{q u:Nat}{p:Bool×Int}(h:CQ W l w')(h0:w'.cell? ⟨q,u,none⟩=some (.bool p.1))(h1:w'.cell? ⟨q,u+1,none⟩=some (.int .i64 p.2)):CQ W ((q,u,p) :: l) w':=
 ⟨h.1,λt ht=>by
  rcases aH.1 ht with rfl|ht
  .exact⟨h0,h1⟩
  .exact h.2 t ht⟩
theorem CQ.tail{W w':World}{t:Nat×Nat×Bool×Int}{l:List (Nat×Nat×Bool×Int)}(h:CQ W (t :: l) w'):CQ W l w':=⟨h.1,λt' ht=>h.2 t' (db _ ht)⟩
theorem CQ.setRow{W w':World}{l:List (Nat×Nat×Bool×Int)}{p:Nat}{cs:Array Value}(h:CQ W l w')(hp:W.heap.size<=p)(hn:∀t∈l,t.1≠p):CQ W l (w'.setRow p cs):=by
 have hc:∀(b o:Nat),b≠p->(w'.setRow p cs).cell? ⟨b,o,none⟩=w'.cell? ⟨b,o,none⟩:=λb o hb=>by
  unfold World.cell?;simp only[aY _ _ _ _ hb]
 exact⟨aA h.1 hp _,λt ht=>⟨(hc _ _ (hn t ht)).trans (h.2 t ht).1,(hc _ _ (hn t ht)).trans (h.2 t ht).2⟩⟩
theorem KM{P:Program}{l:List Oper}{S:World->Prop}{Q:Exit->Act->World->Prop}{fuel:Nat}{listed:Array Bool}{a:Act}{w:World}(e e' e'':Nat)(hr:(Region.ready .any l.toArray listed== [e,e',e''])=true)
  (h:wpOp P l.toArray (NoPanic Q) e (λa' w'=>(qH l e=true\/S w')/\iY P l (NoPanic Q) S fuel (listed.setIfInBounds e true) a' w') a w)
  (h':wpOp P l.toArray (NoPanic Q) e' (λa' w'=>(qH l e'=true\/S w')/\iY P l (NoPanic Q) S fuel (listed.setIfInBounds e' true) a' w') a w)
  (h'':wpOp P l.toArray (NoPanic Q) e'' (λa' w'=>(qH l e''=true\/S w')/\iY P l (NoPanic Q) S fuel (listed.setIfInBounds e'' true) a' w') a w):iY P l (NoPanic Q) S (fuel+1) listed a w:=by
 have hr:=eq_of_beq hr
 refine⟨λh0=>?_,λi hi=>?_⟩
 .rw[hr] at h0;cases h0
 .rw[hr] at hi;simp only[aH,a7,bW] at hi;rcases hi with rfl|rfl|rfl
  .exact h
  .exact h'
  .exact h''
theorem GO(m:eY)(a1 a2:Option Addr)(n1 c1 n2 c2:Nat)(U:lT)(hU:U.ok)(g b:Nat)(K:Fct->Bool)(fe:Int)(r:fW)(p1 p2:Bool×Int)(w:World)(hm:lB w m a1 n1 c1 a2 n2 c2)(hok:qF w r)(hkd:hZ r.d.op=3\/hZ r.d.op=18\/hZ r.d.op=17)(hp1:gN m r.d= [p1])(hp2:fU m r.d= [p2])(hw:WS m a1 n1 c1 a2 n2 c2 U g b K fe w)(hP:p2∈U.P):
  Calls Tryz.prog 34 #[.pointer (some ⟨g,0,none⟩),qB r] w λe w'=>e=.returned (.tuple #[])/\WS m a1 n1 c1 a2 n2 c2 U g b (uC p1 p2 K) (atV K p1 fe) w'/\Chg (WT g b) w w':=by
 have HM:=ac hm
 have HOK:=ac hok
 have HKD:=ac hkd
 have HP1:=ac hp1
 have HP2:=ac hp2
 have hlt:=hw.lt
 clear hm hok hp1 hp2 hkd
 obtain⟨fe2,hfe2⟩:∃x,x=atV K p1 fe:=⟨_,rfl⟩
 rw[<-hfe2]
 have HFE:=ac hfe2
 clear hfe2
 go_enter Tryz.func34,Tryz.ntmps34
 go_upto_region 1 with (fail)
 obtain⟨W,hW⟩:∃W,W=w.alloc (kY r.d r.aa r.na r.ca):=⟨_,rfl⟩
 have hr1:W.heap[w.heap.size]? =some (kY r.d r.aa r.na r.ca):=by rw[hW];exact ai _ _
 have hB:Below w.heap.size w W:=by rw[hW];exact eC _ _
 have hsz:W.heap.size=w.heap.size+1:=by rw[hW];simp
 rw[<-hW]
 have HI:=ac hr1
 have HB:=ac hB
 have HSZ:=ac hsz
 have HW:=ac (hw.ext hB)
 clear hW hr1 hB hsz hw
 have C1:=ac HW.out.cells.2.1
 have C2:=ac HW.out.cells.2.2.1
 have C3:=ac HW.out.cells.2.2.2.1
 have C4:=ac HW.out.cells.2.2.2.2.1
 have hqq:=λw b y b' y'=>VD w b b' y y'
 go_cut [4,5] (λs4 s5 wx=>∃p4 p5,s4=.pointer (some ⟨p4,0,none⟩)/\s5=.pointer (some ⟨p5,0,none⟩)/\W.heap.size<=p4/\W.heap.size<=p5/\p4≠p5/\wx.heap[p4]? =some (gW p1)/\wx.heap[p5]? =some (gW p2)/\Below W.heap.size W wx)
 case first=>
  have k0:∀n:fP (CQ W []),n.val.cell? ⟨g,1,none⟩=some (.int .i64 m.regs):=λn=>eN n.prop.1 C1.out;have k1:∀n:fP (CQ W []),n.val.cell? ⟨g,2,none⟩=some (.slice a1 n1 c1):=λn=>eN n.prop.1 C2.out;have k2:∀n:fP (CQ W []),n.val.cell? ⟨g,3,none⟩=some (.int .i64 m.ret):=λn=>eN n.prop.1 C3.out;have k3:∀n:fP (CQ W []),n.val.cell? ⟨g,4,none⟩=some (.slice a2 n2 c2):=λn=>eN n.prop.1 C4.out;have k4:∀w',(∃n:fP (CQ W []),w'=n.val)->w'.heap[w.heap.size]? =some (kY r.d r.aa r.na r.ca):=λw' ⟨n,e⟩=>by rw[e];exact eB n.prop.1 HI.out
  have hne:Nonempty (fP (CQ W [])):=⟨⟨W,ao _ _,λt ht=>by cases ht⟩⟩
  refine iZ (λw'=>∃n:fP (CQ W []),w'=n.val) (by kernel_rfl) ?_;obtain⟨w0,Q0,hw0⟩:∃w0,CQ W [] w0/\W.drew=w0:=⟨_,⟨eS (ao _ _) 1,λt ht=>by cases ht⟩,rfl⟩
  rw[hw0];clear hw0;refine eK 0 5 (by kernel_rfl) ⟨⟨_,Q0⟩,rfl⟩ ?_;simp only[ak,aq,aj,ap]
  repeat (first
   |(refine eP (o:=⟨some 13,.load 62 _,_,_,_,_⟩) (by rfl) 62 _ rfl w.heap.size rfl 62 _ (0,0) _ k4 bT rfl pB ?_;simp only[Act.put,ae,ah,ag])
   |go_big_quiet_step (fail))
  refine ar ?_;refine eK 8 5 (by kernel_rfl) ⟨⟨_,Q0⟩,rfl⟩ ?_;simp only[ak,aq,aj,ap]
  repeat (first
   |(refine eP (o:=⟨some 21,.load 62 _,_,_,_,_⟩) (by rfl) 62 _ rfl w.heap.size rfl 62 _ (0,0) _ k4 bT rfl pB ?_;simp only[Act.put,ae,ah,ag])
   |go_big_quiet_step (fail))
  refine ar ?_;clear k0 k1 k2 k3 k4 hne;refine KM 5 16 17 (by kernel_rfl) ?_ ?_ ?_
  .refine eE rfl rfl ?_;go_simp;refine(sG m r.d a1 a2 r.aa n1 c1 n2 c2 r.na r.ca w0 ((HM.out.ext (eA HB.out Q0.1)).1) HM.out.2.2.2.2.1 HM.out.2.2.1 HOK.out.2.2.2.2.1 HOK.out.2.2.2.2.2.1 HOK.out.2.2.2.2.2.2.2.2 HKD.out).mono ?_;rintro e w1 ⟨la1,lc1,rfl,⟨hl,hf⟩,hb⟩;rw[HP1.out] at hl|-;obtain⟨p',q1,u1,e0,rfl,d0,d1⟩:=gK hl (k:=0) (by simp);obtain rfl:p1=p':=by simpa using e0
   simp only[bx,bz,aN,aV,aW] at d0 d1|-;have f1:w0.heap.size<=q1:=hf q1 u1 none rfl;have g1:q1<w1.heap.size:=aF _ _ d0;have s1:=hb.size;refine⟨Or.inr ⟨⟨_,Q0.ext hb⟩,rfl⟩,?_⟩
   try simp only[Act.put,ae,ah,ag]
   have Q1:CQ W [(q1,u1,p1)] w1:=CQ.cons (Q0.ext hb) d0 d1;refine lY (S':=λw'=>∃n:fP (CQ W [(q1,u1,p1)]),w'=n.val) (λw' ⟨n,e⟩=>⟨⟨w',by rw[e];exact CQ.tail n.prop⟩,rfl⟩) ?_;have hne:Nonempty (fP (CQ W [(q1,u1,p1)])):=⟨⟨_,Q1⟩⟩
   have r0:∀n:fP (CQ W [(q1,u1,p1)]),n.val.cell? ⟨q1,u1,none⟩=some (.bool p1.1):=λn=>(n.prop.2 _ (aM ..)).1;have r1:∀n:fP (CQ W [(q1,u1,p1)]),n.val.cell? ⟨q1,u1+1,none⟩=some (.int .i64 p1.2):=λn=>(n.prop.2 _ (aM ..)).2;clear hb hl hf d0 d1 e0;refine eK 6 2 (by kernel_rfl) ⟨⟨_,Q1⟩,rfl⟩ ?_;simp only[ak,aq,aj,ap]
   repeat (go_big_quiet_step (fail))
   refine ar ?_;refine KM 13 16 17 (by kernel_rfl) ?_ ?_ ?_
   .refine eE rfl rfl ?_;go_simp;refine(jI m r.d a1 a2 r.aa n1 c1 n2 c2 r.na r.ca w1 HM.out.2.2.2.2.2.2.2 HOK.out.2.2.2.1 HKD.out).mono ?_;rintro e w2 ⟨la2,lc2,rfl,⟨hl,hf⟩,hb⟩;rw[HP2.out] at hl|-;obtain⟨p',q2,u2,e0,rfl,d0,d1⟩:=gK hl (k:=0) (by simp);obtain rfl:p2=p':=by simpa using e0
    simp only[bx,bz,aN,aV,aW] at d0 d1|-;have f2:w1.heap.size<=q2:=hf q2 u2 none rfl;have g2:q2<w2.heap.size:=aF _ _ d0;have s2:=hb.size;refine⟨Or.inr ⟨⟨_,Q1.ext hb⟩,rfl⟩,?_⟩
    try simp only[Act.put,ae,ah,ag]
    have Q2:CQ W [(q2,u2,p2),(q1,u1,p1)] w2:=CQ.cons (Q1.ext hb) d0 d1;refine lY (S':=λw'=>∃n:fP (CQ W [(q2,u2,p2),(q1,u1,p1)]),w'=n.val) (λw' ⟨n,e⟩=>⟨⟨w',by rw[e];exact CQ.tail n.prop⟩,rfl⟩) ?_;have hne:Nonempty (fP (CQ W [(q2,u2,p2),(q1,u1,p1)])):=⟨⟨_,Q2⟩⟩
    have r0:∀n:fP (CQ W [(q2,u2,p2),(q1,u1,p1)]),n.val.cell? ⟨q2,u2,none⟩=some (.bool p2.1):=λn=>(n.prop.2 _ (aM ..)).1;have r1:∀n:fP (CQ W [(q2,u2,p2),(q1,u1,p1)]),n.val.cell? ⟨q2,u2+1,none⟩=some (.int .i64 p2.2):=λn=>(n.prop.2 _ (aM ..)).2;clear hb hl hf d0 d1 e0;refine eK 14 2 (by kernel_rfl) ⟨⟨_,Q2⟩,rfl⟩ ?_;simp only[ak,aq,aj,ap]
    repeat (go_big_quiet_step (fail))
    refine ar ?_;refine lU 16 17 (by kernel_rfl) ?_ ?_
    .refine eE rfl rfl ?_;go_simp;obtain⟨w3,hw⟩:∃x,x=w2.alloc (gW (false,0)):=⟨_,rfl⟩
     rw[show w2.alloc (Obj.cells #[.bool false,.int .i64 0] 42)=w3 from hw.symm];have hb:Below w2.heap.size w2 w3:=by rw[hw];exact eC _ _
     have z3:Hid (w3.heap.size=w2.heap.size+1):=by rw[Hid,hw];simp
     have h4:w3.heap[w2.heap.size]? =some (gW (false,0)):=by rw[hw];exact ai _ _
     clear hw;refine⟨Or.inr ⟨⟨_,Q2.ext hb⟩,rfl⟩,?_⟩
     try simp only[Act.put,ae,ah,ag]
     have Q3:=Q2.ext hb;clear hb;refine eO 17 (by kernel_rfl) ?_;refine eE rfl rfl ?_;go_simp;obtain⟨w4,hw⟩:∃x,x=w3.alloc (gW (false,0)):=⟨_,rfl⟩
     rw[show w3.alloc (Obj.cells #[.bool false,.int .i64 0] 42)=w4 from hw.symm];have hb:Below w3.heap.size w3 w4:=by rw[hw];exact eC _ _
     have z4:Hid (w4.heap.size=w3.heap.size+1):=by rw[Hid,hw];simp
     replace h4:=eB hb h4
     have h5:w4.heap[w3.heap.size]? =some (gW (false,0)):=by rw[hw];exact ai _ _
     clear hw;refine⟨Or.inr ⟨⟨_,Q3.ext hb⟩,rfl⟩,?_⟩
     try simp only[Act.put,ae,ah,ag]
     have Q4:=Q3.ext hb;clear hb;have y3:=z3.out;have y4:=z4.out;have b0:=Q4.1.size;have bb0:=Q0.1.size;refine eO 18 (by kernel_rfl) ?_;refine eE rfl rfl ?_;refine aE 42 _ _ rfl (w2.heap.size) #[.bool p1.1,.int .i64 p1.2] rfl rfl 42 _ h4 gL rfl (by simp[Value.oneCell']) ?_;have h5':(w4.setRow (w2.heap.size) #[.bool p1.1,.int .i64 p1.2]).heap[w3.heap.size]? =some (gW (false,0)):=(aY _ _ _ _ (by omega)).trans h5;refine⟨Or.inr ⟨⟨_,CQ.setRow Q4 (by omega) (by intro t ht;simp only[aH,a7,bW] at ht;rcases ht with rfl|rfl<;>(simp only;omega))⟩,rfl⟩,?_⟩
     try simp only[Act.put,ae,ah,ag]
     refine eO 19 (by kernel_rfl) ?_;refine eE rfl rfl ?_;refine aE 42 _ _ rfl (w3.heap.size) #[.bool p2.1,.int .i64 p2.2] rfl rfl 42 _ h5' gL rfl (by simp[Value.oneCell']) ?_;refine⟨Or.inl (by kernel_rfl),?_⟩
     try simp only[Act.put,ae,ah,ag]
     refine fJ (by kernel_rfl) ?_
     go_wp2_with fail
     go_meet
     exact⟨w2.heap.size,w3.heap.size,rfl,rfl,by omega,by omega,by omega,(aY _ _ _ _ (by omega)).trans (aG _ _ _ _ _ _ h4),aG _ _ _ _ _ _ h5',aA (aA Q4.1 (by omega) _) (by omega) _⟩
    .refine eE rfl rfl ?_;go_simp;obtain⟨w3,hw⟩:∃x,x=w2.alloc (gW (false,0)):=⟨_,rfl⟩
     rw[show w2.alloc (Obj.cells #[.bool false,.int .i64 0] 42)=w3 from hw.symm];have hb:Below w2.heap.size w2 w3:=by rw[hw];exact eC _ _
     have z3:Hid (w3.heap.size=w2.heap.size+1):=by rw[Hid,hw];simp
     have h5:w3.heap[w2.heap.size]? =some (gW (false,0)):=by rw[hw];exact ai _ _
     clear hw;refine⟨Or.inr ⟨⟨_,Q2.ext hb⟩,rfl⟩,?_⟩
     try simp only[Act.put,ae,ah,ag]
     have Q3:=Q2.ext hb;clear hb;refine eO 16 (by kernel_rfl) ?_;refine eE rfl rfl ?_;go_simp;obtain⟨w4,hw⟩:∃x,x=w3.alloc (gW (false,0)):=⟨_,rfl⟩
     rw[show w3.alloc (Obj.cells #[.bool false,.int .i64 0] 42)=w4 from hw.symm];have hb:Below w3.heap.size w3 w4:=by rw[hw];exact eC _ _
     have z4:Hid (w4.heap.size=w3.heap.size+1):=by rw[Hid,hw];simp
     replace h5:=eB hb h5
     have h4:w4.heap[w3.heap.size]? =some (gW (false,0)):=by rw[hw];exact ai _ _
     clear hw;refine⟨Or.inr ⟨⟨_,Q3.ext hb⟩,rfl⟩,?_⟩
     try simp only[Act.put,ae,ah,ag]
     have Q4:=Q3.ext hb;clear hb;have y3:=z3.out;have y4:=z4.out;have b0:=Q4.1.size;have bb0:=Q0.1.size;refine eO 18 (by kernel_rfl) ?_;refine eE rfl rfl ?_;refine aE 42 _ _ rfl (w3.heap.size) #[.bool p1.1,.int .i64 p1.2] rfl rfl 42 _ h4 gL rfl (by simp[Value.oneCell']) ?_;have h5':(w4.setRow (w3.heap.size) #[.bool p1.1,.int .i64 p1.2]).heap[w2.heap.size]? =some (gW (false,0)):=(aY _ _ _ _ (by omega)).trans h5;refine⟨Or.inr ⟨⟨_,CQ.setRow Q4 (by omega) (by intro t ht;simp only[aH,a7,bW] at ht;rcases ht with rfl|rfl<;>(simp only;omega))⟩,rfl⟩,?_⟩
     try simp only[Act.put,ae,ah,ag]
     refine eO 19 (by kernel_rfl) ?_;refine eE rfl rfl ?_;refine aE 42 _ _ rfl (w2.heap.size) #[.bool p2.1,.int .i64 p2.2] rfl rfl 42 _ h5' gL rfl (by simp[Value.oneCell']) ?_;refine⟨Or.inl (by kernel_rfl),?_⟩
     try simp only[Act.put,ae,ah,ag]
     refine fJ (by kernel_rfl) ?_
     go_wp2_with fail
     go_meet
     exact⟨w3.heap.size,w2.heap.size,rfl,rfl,by omega,by omega,by omega,(aY _ _ _ _ (by omega)).trans (aG _ _ _ _ _ _ h4),aG _ _ _ _ _ _ h5',aA (aA Q4.1 (by omega) _) (by omega) _⟩
   .refine eE rfl rfl ?_;go_simp;obtain⟨w2,hw⟩:∃x,x=w1.alloc (gW (false,0)):=⟨_,rfl⟩
    rw[show w1.alloc (Obj.cells #[.bool false,.int .i64 0] 42)=w2 from hw.symm];have hb:Below w1.heap.size w1 w2:=by rw[hw];exact eC _ _
    have z2:Hid (w2.heap.size=w1.heap.size+1):=by rw[Hid,hw];simp
    have h4:w2.heap[w1.heap.size]? =some (gW (false,0)):=by rw[hw];exact ai _ _
    clear hw;refine⟨Or.inr ⟨⟨_,Q1.ext hb⟩,rfl⟩,?_⟩
    try simp only[Act.put,ae,ah,ag]
    have Q2:=Q1.ext hb;clear hb;refine lU 13 17 (by kernel_rfl) ?_ ?_
    .refine eE rfl rfl ?_;go_simp;refine(jI m r.d a1 a2 r.aa n1 c1 n2 c2 r.na r.ca w2 HM.out.2.2.2.2.2.2.2 HOK.out.2.2.2.1 HKD.out).mono ?_;rintro e w3 ⟨la2,lc2,rfl,⟨hl,hf⟩,hb⟩;rw[HP2.out] at hl|-;obtain⟨p',q2,u2,e0,rfl,d0,d1⟩:=gK hl (k:=0) (by simp);obtain rfl:p2=p':=by simpa using e0
     simp only[bx,bz,aN,aV,aW] at d0 d1|-;have f2:w2.heap.size<=q2:=hf q2 u2 none rfl;have g2:q2<w3.heap.size:=aF _ _ d0;have s3:=hb.size
     replace h4:=eB hb h4
     refine⟨Or.inr ⟨⟨_,Q2.ext hb⟩,rfl⟩,?_⟩
     try simp only[Act.put,ae,ah,ag]
     have Q3:CQ W [(q2,u2,p2),(q1,u1,p1)] w3:=CQ.cons (Q2.ext hb) d0 d1;refine lY (S':=λw'=>∃n:fP (CQ W [(q2,u2,p2),(q1,u1,p1)]),w'=n.val) (λw' ⟨n,e⟩=>⟨⟨w',by rw[e];exact CQ.tail n.prop⟩,rfl⟩) ?_;have hne:Nonempty (fP (CQ W [(q2,u2,p2),(q1,u1,p1)])):=⟨⟨_,Q3⟩⟩
     have r0:∀n:fP (CQ W [(q2,u2,p2),(q1,u1,p1)]),n.val.cell? ⟨q2,u2,none⟩=some (.bool p2.1):=λn=>(n.prop.2 _ (aM ..)).1;have r1:∀n:fP (CQ W [(q2,u2,p2),(q1,u1,p1)]),n.val.cell? ⟨q2,u2+1,none⟩=some (.int .i64 p2.2):=λn=>(n.prop.2 _ (aM ..)).2;clear hb hl hf d0 d1 e0;refine eK 14 2 (by kernel_rfl) ⟨⟨_,Q3⟩,rfl⟩ ?_;simp only[ak,aq,aj,ap]
     repeat (go_big_quiet_step (fail))
     refine ar ?_;refine eO 17 (by kernel_rfl) ?_;refine eE rfl rfl ?_;go_simp;obtain⟨w4,hw⟩:∃x,x=w3.alloc (gW (false,0)):=⟨_,rfl⟩
     rw[show w3.alloc (Obj.cells #[.bool false,.int .i64 0] 42)=w4 from hw.symm];have hb:Below w3.heap.size w3 w4:=by rw[hw];exact eC _ _
     have z4:Hid (w4.heap.size=w3.heap.size+1):=by rw[Hid,hw];simp
     replace h4:=eB hb h4
     have h5:w4.heap[w3.heap.size]? =some (gW (false,0)):=by rw[hw];exact ai _ _
     clear hw;refine⟨Or.inr ⟨⟨_,Q3.ext hb⟩,rfl⟩,?_⟩
     try simp only[Act.put,ae,ah,ag]
     have Q4:=Q3.ext hb;clear hb;have y2:=z2.out;have y4:=z4.out;have b0:=Q4.1.size;have bb0:=Q0.1.size;refine eO 18 (by kernel_rfl) ?_;refine eE rfl rfl ?_;refine aE 42 _ _ rfl (w1.heap.size) #[.bool p1.1,.int .i64 p1.2] rfl rfl 42 _ h4 gL rfl (by simp[Value.oneCell']) ?_;have h5':(w4.setRow (w1.heap.size) #[.bool p1.1,.int .i64 p1.2]).heap[w3.heap.size]? =some (gW (false,0)):=(aY _ _ _ _ (by omega)).trans h5;refine⟨Or.inr ⟨⟨_,CQ.setRow Q4 (by omega) (by intro t ht;simp only[aH,a7,bW] at ht;rcases ht with rfl|rfl<;>(simp only;omega))⟩,rfl⟩,?_⟩
     try simp only[Act.put,ae,ah,ag]
     refine eO 19 (by kernel_rfl) ?_;refine eE rfl rfl ?_;refine aE 42 _ _ rfl (w3.heap.size) #[.bool p2.1,.int .i64 p2.2] rfl rfl 42 _ h5' gL rfl (by simp[Value.oneCell']) ?_;refine⟨Or.inl (by kernel_rfl),?_⟩
     try simp only[Act.put,ae,ah,ag]
     refine fJ (by kernel_rfl) ?_
     go_wp2_with fail
     go_meet
     exact⟨w1.heap.size,w3.heap.size,rfl,rfl,by omega,by omega,by omega,(aY _ _ _ _ (by omega)).trans (aG _ _ _ _ _ _ h4),aG _ _ _ _ _ _ h5',aA (aA Q4.1 (by omega) _) (by omega) _⟩
    .refine eE rfl rfl ?_;go_simp;obtain⟨w3,hw⟩:∃x,x=w2.alloc (gW (false,0)):=⟨_,rfl⟩
     rw[show w2.alloc (Obj.cells #[.bool false,.int .i64 0] 42)=w3 from hw.symm];have hb:Below w2.heap.size w2 w3:=by rw[hw];exact eC _ _
     have z3:Hid (w3.heap.size=w2.heap.size+1):=by rw[Hid,hw];simp
     replace h4:=eB hb h4
     have h5:w3.heap[w2.heap.size]? =some (gW (false,0)):=by rw[hw];exact ai _ _
     clear hw;refine⟨Or.inr ⟨⟨_,Q2.ext hb⟩,rfl⟩,?_⟩
     try simp only[Act.put,ae,ah,ag]
     have Q3:=Q2.ext hb;clear hb;refine eO 13 (by kernel_rfl) ?_;refine eE rfl rfl ?_;go_simp;refine(jI m r.d a1 a2 r.aa n1 c1 n2 c2 r.na r.ca w3 HM.out.2.2.2.2.2.2.2 HOK.out.2.2.2.1 HKD.out).mono ?_;rintro e w4 ⟨la2,lc2,rfl,⟨hl,hf⟩,hb⟩;rw[HP2.out] at hl|-;obtain⟨p',q2,u2,e0,rfl,d0,d1⟩:=gK hl (k:=0) (by simp);obtain rfl:p2=p':=by simpa using e0
     simp only[bx,bz,aN,aV,aW] at d0 d1|-;have f2:w3.heap.size<=q2:=hf q2 u2 none rfl;have g2:q2<w4.heap.size:=aF _ _ d0;have s4:=hb.size
     replace h4:=eB hb h4
     replace h5:=eB hb h5
     refine⟨Or.inr ⟨⟨_,Q3.ext hb⟩,rfl⟩,?_⟩
     try simp only[Act.put,ae,ah,ag]
     have Q4:CQ W [(q2,u2,p2),(q1,u1,p1)] w4:=CQ.cons (Q3.ext hb) d0 d1;refine lY (S':=λw'=>∃n:fP (CQ W [(q2,u2,p2),(q1,u1,p1)]),w'=n.val) (λw' ⟨n,e⟩=>⟨⟨w',by rw[e];exact CQ.tail n.prop⟩,rfl⟩) ?_;have hne:Nonempty (fP (CQ W [(q2,u2,p2),(q1,u1,p1)])):=⟨⟨_,Q4⟩⟩
     have r0:∀n:fP (CQ W [(q2,u2,p2),(q1,u1,p1)]),n.val.cell? ⟨q2,u2,none⟩=some (.bool p2.1):=λn=>(n.prop.2 _ (aM ..)).1;have r1:∀n:fP (CQ W [(q2,u2,p2),(q1,u1,p1)]),n.val.cell? ⟨q2,u2+1,none⟩=some (.int .i64 p2.2):=λn=>(n.prop.2 _ (aM ..)).2;clear hb hl hf d0 d1 e0;refine eK 14 2 (by kernel_rfl) ⟨⟨_,Q4⟩,rfl⟩ ?_;simp only[ak,aq,aj,ap]
     repeat (go_big_quiet_step (fail))
     refine ar ?_;have y2:=z2.out;have y3:=z3.out;have b0:=Q4.1.size;have bb0:=Q0.1.size;refine eO 18 (by kernel_rfl) ?_;refine eE rfl rfl ?_;refine aE 42 _ _ rfl (w1.heap.size) #[.bool p1.1,.int .i64 p1.2] rfl rfl 42 _ h4 gL rfl (by simp[Value.oneCell']) ?_;have h5':(w4.setRow (w1.heap.size) #[.bool p1.1,.int .i64 p1.2]).heap[w2.heap.size]? =some (gW (false,0)):=(aY _ _ _ _ (by omega)).trans h5;refine⟨Or.inr ⟨⟨_,CQ.setRow Q4 (by omega) (by intro t ht;simp only[aH,a7,bW] at ht;rcases ht with rfl|rfl<;>(simp only;omega))⟩,rfl⟩,?_⟩
     try simp only[Act.put,ae,ah,ag]
     refine eO 19 (by kernel_rfl) ?_;refine eE rfl rfl ?_;refine aE 42 _ _ rfl (w2.heap.size) #[.bool p2.1,.int .i64 p2.2] rfl rfl 42 _ h5' gL rfl (by simp[Value.oneCell']) ?_;refine⟨Or.inl (by kernel_rfl),?_⟩
     try simp only[Act.put,ae,ah,ag]
     refine fJ (by kernel_rfl) ?_
     go_wp2_with fail
     go_meet
     exact⟨w1.heap.size,w2.heap.size,rfl,rfl,by omega,by omega,by omega,(aY _ _ _ _ (by omega)).trans (aG _ _ _ _ _ _ h4),aG _ _ _ _ _ _ h5',aA (aA Q4.1 (by omega) _) (by omega) _⟩
   .refine eE rfl rfl ?_;go_simp;obtain⟨w2,hw⟩:∃x,x=w1.alloc (gW (false,0)):=⟨_,rfl⟩
    rw[show w1.alloc (Obj.cells #[.bool false,.int .i64 0] 42)=w2 from hw.symm];have hb:Below w1.heap.size w1 w2:=by rw[hw];exact eC _ _
    have z2:Hid (w2.heap.size=w1.heap.size+1):=by rw[Hid,hw];simp
    have h5:w2.heap[w1.heap.size]? =some (gW (false,0)):=by rw[hw];exact ai _ _
    clear hw;refine⟨Or.inr ⟨⟨_,Q1.ext hb⟩,rfl⟩,?_⟩
    try simp only[Act.put,ae,ah,ag]
    have Q2:=Q1.ext hb;clear hb;refine lU 13 16 (by kernel_rfl) ?_ ?_
    .refine eE rfl rfl ?_;go_simp;refine(jI m r.d a1 a2 r.aa n1 c1 n2 c2 r.na r.ca w2 HM.out.2.2.2.2.2.2.2 HOK.out.2.2.2.1 HKD.out).mono ?_;rintro e w3 ⟨la2,lc2,rfl,⟨hl,hf⟩,hb⟩;rw[HP2.out] at hl|-;obtain⟨p',q2,u2,e0,rfl,d0,d1⟩:=gK hl (k:=0) (by simp);obtain rfl:p2=p':=by simpa using e0
     simp only[bx,bz,aN,aV,aW] at d0 d1|-;have f2:w2.heap.size<=q2:=hf q2 u2 none rfl;have g2:q2<w3.heap.size:=aF _ _ d0;have s3:=hb.size
     replace h5:=eB hb h5
     refine⟨Or.inr ⟨⟨_,Q2.ext hb⟩,rfl⟩,?_⟩
     try simp only[Act.put,ae,ah,ag]
     have Q3:CQ W [(q2,u2,p2),(q1,u1,p1)] w3:=CQ.cons (Q2.ext hb) d0 d1;refine lY (S':=λw'=>∃n:fP (CQ W [(q2,u2,p2),(q1,u1,p1)]),w'=n.val) (λw' ⟨n,e⟩=>⟨⟨w',by rw[e];exact CQ.tail n.prop⟩,rfl⟩) ?_;have hne:Nonempty (fP (CQ W [(q2,u2,p2),(q1,u1,p1)])):=⟨⟨_,Q3⟩⟩
     have r0:∀n:fP (CQ W [(q2,u2,p2),(q1,u1,p1)]),n.val.cell? ⟨q2,u2,none⟩=some (.bool p2.1):=λn=>(n.prop.2 _ (aM ..)).1;have r1:∀n:fP (CQ W [(q2,u2,p2),(q1,u1,p1)]),n.val.cell? ⟨q2,u2+1,none⟩=some (.int .i64 p2.2):=λn=>(n.prop.2 _ (aM ..)).2;clear hb hl hf d0 d1 e0;refine eK 14 2 (by kernel_rfl) ⟨⟨_,Q3⟩,rfl⟩ ?_;simp only[ak,aq,aj,ap]
     repeat (go_big_quiet_step (fail))
     refine ar ?_;refine eO 16 (by kernel_rfl) ?_;refine eE rfl rfl ?_;go_simp;obtain⟨w4,hw⟩:∃x,x=w3.alloc (gW (false,0)):=⟨_,rfl⟩
     rw[show w3.alloc (Obj.cells #[.bool false,.int .i64 0] 42)=w4 from hw.symm];have hb:Below w3.heap.size w3 w4:=by rw[hw];exact eC _ _
     have z4:Hid (w4.heap.size=w3.heap.size+1):=by rw[Hid,hw];simp
     replace h5:=eB hb h5
     have h4:w4.heap[w3.heap.size]? =some (gW (false,0)):=by rw[hw];exact ai _ _
     clear hw;refine⟨Or.inr ⟨⟨_,Q3.ext hb⟩,rfl⟩,?_⟩
     try simp only[Act.put,ae,ah,ag]
     have Q4:=Q3.ext hb;clear hb;have y2:=z2.out;have y4:=z4.out;have b0:=Q4.1.size;have bb0:=Q0.1.size;refine eO 18 (by kernel_rfl) ?_;refine eE rfl rfl ?_;refine aE 42 _ _ rfl (w3.heap.size) #[.bool p1.1,.int .i64 p1.2] rfl rfl 42 _ h4 gL rfl (by simp[Value.oneCell']) ?_;have h5':(w4.setRow (w3.heap.size) #[.bool p1.1,.int .i64 p1.2]).heap[w1.heap.size]? =some (gW (false,0)):=(aY _ _ _ _ (by omega)).trans h5;refine⟨Or.inr ⟨⟨_,CQ.setRow Q4 (by omega) (by intro t ht;simp only[aH,a7,bW] at ht;rcases ht with rfl|rfl<;>(simp only;omega))⟩,rfl⟩,?_⟩
     try simp only[Act.put,ae,ah,ag]
     refine eO 19 (by kernel_rfl) ?_;refine eE rfl rfl ?_;refine aE 42 _ _ rfl (w1.heap.size) #[.bool p2.1,.int .i64 p2.2] rfl rfl 42 _ h5' gL rfl (by simp[Value.oneCell']) ?_;refine⟨Or.inl (by kernel_rfl),?_⟩
     try simp only[Act.put,ae,ah,ag]
     refine fJ (by kernel_rfl) ?_
     go_wp2_with fail
     go_meet
     exact⟨w3.heap.size,w1.heap.size,rfl,rfl,by omega,by omega,by omega,(aY _ _ _ _ (by omega)).trans (aG _ _ _ _ _ _ h4),aG _ _ _ _ _ _ h5',aA (aA Q4.1 (by omega) _) (by omega) _⟩
    .refine eE rfl rfl ?_;go_simp;obtain⟨w3,hw⟩:∃x,x=w2.alloc (gW (false,0)):=⟨_,rfl⟩
     rw[show w2.alloc (Obj.cells #[.bool false,.int .i64 0] 42)=w3 from hw.symm];have hb:Below w2.heap.size w2 w3:=by rw[hw];exact eC _ _
     have z3:Hid (w3.heap.size=w2.heap.size+1):=by rw[Hid,hw];simp
     replace h5:=eB hb h5
     have h4:w3.heap[w2.heap.size]? =some (gW (false,0)):=by rw[hw];exact ai _ _
     clear hw;refine⟨Or.inr ⟨⟨_,Q2.ext hb⟩,rfl⟩,?_⟩
     try simp only[Act.put,ae,ah,ag]
     have Q3:=Q2.ext hb;clear hb;refine eO 13 (by kernel_rfl) ?_;refine eE rfl rfl ?_;go_simp;refine(jI m r.d a1 a2 r.aa n1 c1 n2 c2 r.na r.ca w3 HM.out.2.2.2.2.2.2.2 HOK.out.2.2.2.1 HKD.out).mono ?_;rintro e w4 ⟨la2,lc2,rfl,⟨hl,hf⟩,hb⟩;rw[HP2.out] at hl|-;obtain⟨p',q2,u2,e0,rfl,d0,d1⟩:=gK hl (k:=0) (by simp);obtain rfl:p2=p':=by simpa using e0
     simp only[bx,bz,aN,aV,aW] at d0 d1|-;have f2:w3.heap.size<=q2:=hf q2 u2 none rfl;have g2:q2<w4.heap.size:=aF _ _ d0;have s4:=hb.size
     replace h4:=eB hb h4
     replace h5:=eB hb h5
     refine⟨Or.inr ⟨⟨_,Q3.ext hb⟩,rfl⟩,?_⟩
     try simp only[Act.put,ae,ah,ag]
     have Q4:CQ W [(q2,u2,p2),(q1,u1,p1)] w4:=CQ.cons (Q3.ext hb) d0 d1;refine lY (S':=λw'=>∃n:fP (CQ W [(q2,u2,p2),(q1,u1,p1)]),w'=n.val) (λw' ⟨n,e⟩=>⟨⟨w',by rw[e];exact CQ.tail n.prop⟩,rfl⟩) ?_;have hne:Nonempty (fP (CQ W [(q2,u2,p2),(q1,u1,p1)])):=⟨⟨_,Q4⟩⟩
     have r0:∀n:fP (CQ W [(q2,u2,p2),(q1,u1,p1)]),n.val.cell? ⟨q2,u2,none⟩=some (.bool p2.1):=λn=>(n.prop.2 _ (aM ..)).1;have r1:∀n:fP (CQ W [(q2,u2,p2),(q1,u1,p1)]),n.val.cell? ⟨q2,u2+1,none⟩=some (.int .i64 p2.2):=λn=>(n.prop.2 _ (aM ..)).2;clear hb hl hf d0 d1 e0;refine eK 14 2 (by kernel_rfl) ⟨⟨_,Q4⟩,rfl⟩ ?_;simp only[ak,aq,aj,ap]
     repeat (go_big_quiet_step (fail))
     refine ar ?_;have y2:=z2.out;have y3:=z3.out;have b0:=Q4.1.size;have bb0:=Q0.1.size;refine eO 18 (by kernel_rfl) ?_;refine eE rfl rfl ?_;refine aE 42 _ _ rfl (w2.heap.size) #[.bool p1.1,.int .i64 p1.2] rfl rfl 42 _ h4 gL rfl (by simp[Value.oneCell']) ?_;have h5':(w4.setRow (w2.heap.size) #[.bool p1.1,.int .i64 p1.2]).heap[w1.heap.size]? =some (gW (false,0)):=(aY _ _ _ _ (by omega)).trans h5;refine⟨Or.inr ⟨⟨_,CQ.setRow Q4 (by omega) (by intro t ht;simp only[aH,a7,bW] at ht;rcases ht with rfl|rfl<;>(simp only;omega))⟩,rfl⟩,?_⟩
     try simp only[Act.put,ae,ah,ag]
     refine eO 19 (by kernel_rfl) ?_;refine eE rfl rfl ?_;refine aE 42 _ _ rfl (w1.heap.size) #[.bool p2.1,.int .i64 p2.2] rfl rfl 42 _ h5' gL rfl (by simp[Value.oneCell']) ?_;refine⟨Or.inl (by kernel_rfl),?_⟩
     try simp only[Act.put,ae,ah,ag]
     refine fJ (by kernel_rfl) ?_
     go_wp2_with fail
     go_meet
     exact⟨w2.heap.size,w1.heap.size,rfl,rfl,by omega,by omega,by omega,(aY _ _ _ _ (by omega)).trans (aG _ _ _ _ _ _ h4),aG _ _ _ _ _ _ h5',aA (aA Q4.1 (by omega) _) (by omega) _⟩
  .refine eE rfl rfl ?_;go_simp;obtain⟨w1,hw⟩:∃x,x=w0.alloc (gW (false,0)):=⟨_,rfl⟩
   rw[show w0.alloc (Obj.cells #[.bool false,.int .i64 0] 42)=w1 from hw.symm];have hb:Below w0.heap.size w0 w1:=by rw[hw];exact eC _ _
   have z1:Hid (w1.heap.size=w0.heap.size+1):=by rw[Hid,hw];simp
   have h4:w1.heap[w0.heap.size]? =some (gW (false,0)):=by rw[hw];exact ai _ _
   clear hw;refine⟨Or.inr ⟨⟨_,Q0.ext hb⟩,rfl⟩,?_⟩
   try simp only[Act.put,ae,ah,ag]
   have Q1:=Q0.ext hb;clear hb;refine lU 5 17 (by kernel_rfl) ?_ ?_
   .refine eE rfl rfl ?_;go_simp;refine(sG m r.d a1 a2 r.aa n1 c1 n2 c2 r.na r.ca w1 ((HM.out.ext (eA HB.out Q1.1)).1) HM.out.2.2.2.2.1 HM.out.2.2.1 HOK.out.2.2.2.2.1 HOK.out.2.2.2.2.2.1 HOK.out.2.2.2.2.2.2.2.2 HKD.out).mono ?_;rintro e w2 ⟨la1,lc1,rfl,⟨hl,hf⟩,hb⟩;rw[HP1.out] at hl|-;obtain⟨p',q1,u1,e0,rfl,d0,d1⟩:=gK hl (k:=0) (by simp);obtain rfl:p1=p':=by simpa using e0
    simp only[bx,bz,aN,aV,aW] at d0 d1|-;have f1:w1.heap.size<=q1:=hf q1 u1 none rfl;have g1:q1<w2.heap.size:=aF _ _ d0;have s2:=hb.size
    replace h4:=eB hb h4
    refine⟨Or.inr ⟨⟨_,Q1.ext hb⟩,rfl⟩,?_⟩
    try simp only[Act.put,ae,ah,ag]
    have Q2:CQ W [(q1,u1,p1)] w2:=CQ.cons (Q1.ext hb) d0 d1;refine lY (S':=λw'=>∃n:fP (CQ W [(q1,u1,p1)]),w'=n.val) (λw' ⟨n,e⟩=>⟨⟨w',by rw[e];exact CQ.tail n.prop⟩,rfl⟩) ?_;have hne:Nonempty (fP (CQ W [(q1,u1,p1)])):=⟨⟨_,Q2⟩⟩
    have r0:∀n:fP (CQ W [(q1,u1,p1)]),n.val.cell? ⟨q1,u1,none⟩=some (.bool p1.1):=λn=>(n.prop.2 _ (aM ..)).1;have r1:∀n:fP (CQ W [(q1,u1,p1)]),n.val.cell? ⟨q1,u1+1,none⟩=some (.int .i64 p1.2):=λn=>(n.prop.2 _ (aM ..)).2;clear hb hl hf d0 d1 e0;refine eK 6 2 (by kernel_rfl) ⟨⟨_,Q2⟩,rfl⟩ ?_;simp only[ak,aq,aj,ap]
    repeat (go_big_quiet_step (fail))
    refine ar ?_;refine lU 13 17 (by kernel_rfl) ?_ ?_
    .refine eE rfl rfl ?_;go_simp;refine(jI m r.d a1 a2 r.aa n1 c1 n2 c2 r.na r.ca w2 HM.out.2.2.2.2.2.2.2 HOK.out.2.2.2.1 HKD.out).mono ?_;rintro e w3 ⟨la2,lc2,rfl,⟨hl,hf⟩,hb⟩;rw[HP2.out] at hl|-;obtain⟨p',q2,u2,e0,rfl,d0,d1⟩:=gK hl (k:=0) (by simp);obtain rfl:p2=p':=by simpa using e0
     simp only[bx,bz,aN,aV,aW] at d0 d1|-;have f2:w2.heap.size<=q2:=hf q2 u2 none rfl;have g2:q2<w3.heap.size:=aF _ _ d0;have s3:=hb.size
     replace h4:=eB hb h4
     refine⟨Or.inr ⟨⟨_,Q2.ext hb⟩,rfl⟩,?_⟩
     try simp only[Act.put,ae,ah,ag]
     have Q3:CQ W [(q2,u2,p2),(q1,u1,p1)] w3:=CQ.cons (Q2.ext hb) d0 d1;refine lY (S':=λw'=>∃n:fP (CQ W [(q2,u2,p2),(q1,u1,p1)]),w'=n.val) (λw' ⟨n,e⟩=>⟨⟨w',by rw[e];exact CQ.tail n.prop⟩,rfl⟩) ?_;have hne:Nonempty (fP (CQ W [(q2,u2,p2),(q1,u1,p1)])):=⟨⟨_,Q3⟩⟩
     have r0:∀n:fP (CQ W [(q2,u2,p2),(q1,u1,p1)]),n.val.cell? ⟨q2,u2,none⟩=some (.bool p2.1):=λn=>(n.prop.2 _ (aM ..)).1;have r1:∀n:fP (CQ W [(q2,u2,p2),(q1,u1,p1)]),n.val.cell? ⟨q2,u2+1,none⟩=some (.int .i64 p2.2):=λn=>(n.prop.2 _ (aM ..)).2;clear hb hl hf d0 d1 e0;refine eK 14 2 (by kernel_rfl) ⟨⟨_,Q3⟩,rfl⟩ ?_;simp only[ak,aq,aj,ap]
     repeat (go_big_quiet_step (fail))
     refine ar ?_;refine eO 17 (by kernel_rfl) ?_;refine eE rfl rfl ?_;go_simp;obtain⟨w4,hw⟩:∃x,x=w3.alloc (gW (false,0)):=⟨_,rfl⟩
     rw[show w3.alloc (Obj.cells #[.bool false,.int .i64 0] 42)=w4 from hw.symm];have hb:Below w3.heap.size w3 w4:=by rw[hw];exact eC _ _
     have z4:Hid (w4.heap.size=w3.heap.size+1):=by rw[Hid,hw];simp
     replace h4:=eB hb h4
     have h5:w4.heap[w3.heap.size]? =some (gW (false,0)):=by rw[hw];exact ai _ _
     clear hw;refine⟨Or.inr ⟨⟨_,Q3.ext hb⟩,rfl⟩,?_⟩
     try simp only[Act.put,ae,ah,ag]
     have Q4:=Q3.ext hb;clear hb;have y1:=z1.out;have y4:=z4.out;have b0:=Q4.1.size;have bb0:=Q0.1.size;refine eO 18 (by kernel_rfl) ?_;refine eE rfl rfl ?_;refine aE 42 _ _ rfl (w0.heap.size) #[.bool p1.1,.int .i64 p1.2] rfl rfl 42 _ h4 gL rfl (by simp[Value.oneCell']) ?_;have h5':(w4.setRow (w0.heap.size) #[.bool p1.1,.int .i64 p1.2]).heap[w3.heap.size]? =some (gW (false,0)):=(aY _ _ _ _ (by omega)).trans h5;refine⟨Or.inr ⟨⟨_,CQ.setRow Q4 (by omega) (by intro t ht;simp only[aH,a7,bW] at ht;rcases ht with rfl|rfl<;>(simp only;omega))⟩,rfl⟩,?_⟩
     try simp only[Act.put,ae,ah,ag]
     refine eO 19 (by kernel_rfl) ?_;refine eE rfl rfl ?_;refine aE 42 _ _ rfl (w3.heap.size) #[.bool p2.1,.int .i64 p2.2] rfl rfl 42 _ h5' gL rfl (by simp[Value.oneCell']) ?_;refine⟨Or.inl (by kernel_rfl),?_⟩
     try simp only[Act.put,ae,ah,ag]
     refine fJ (by kernel_rfl) ?_
     go_wp2_with fail
     go_meet
     exact⟨w0.heap.size,w3.heap.size,rfl,rfl,by omega,by omega,by omega,(aY _ _ _ _ (by omega)).trans (aG _ _ _ _ _ _ h4),aG _ _ _ _ _ _ h5',aA (aA Q4.1 (by omega) _) (by omega) _⟩
    .refine eE rfl rfl ?_;go_simp;obtain⟨w3,hw⟩:∃x,x=w2.alloc (gW (false,0)):=⟨_,rfl⟩
     rw[show w2.alloc (Obj.cells #[.bool false,.int .i64 0] 42)=w3 from hw.symm];have hb:Below w2.heap.size w2 w3:=by rw[hw];exact eC _ _
     have z3:Hid (w3.heap.size=w2.heap.size+1):=by rw[Hid,hw];simp
     replace h4:=eB hb h4
     have h5:w3.heap[w2.heap.size]? =some (gW (false,0)):=by rw[hw];exact ai _ _
     clear hw;refine⟨Or.inr ⟨⟨_,Q2.ext hb⟩,rfl⟩,?_⟩
     try simp only[Act.put,ae,ah,ag]
     have Q3:=Q2.ext hb;clear hb;refine eO 13 (by kernel_rfl) ?_;refine eE rfl rfl ?_;go_simp;refine(jI m r.d a1 a2 r.aa n1 c1 n2 c2 r.na r.ca w3 HM.out.2.2.2.2.2.2.2 HOK.out.2.2.2.1 HKD.out).mono ?_;rintro e w4 ⟨la2,lc2,rfl,⟨hl,hf⟩,hb⟩;rw[HP2.out] at hl|-;obtain⟨p',q2,u2,e0,rfl,d0,d1⟩:=gK hl (k:=0) (by simp);obtain rfl:p2=p':=by simpa using e0
     simp only[bx,bz,aN,aV,aW] at d0 d1|-;have f2:w3.heap.size<=q2:=hf q2 u2 none rfl;have g2:q2<w4.heap.size:=aF _ _ d0;have s4:=hb.size
     replace h4:=eB hb h4
     replace h5:=eB hb h5
     refine⟨Or.inr ⟨⟨_,Q3.ext hb⟩,rfl⟩,?_⟩
     try simp only[Act.put,ae,ah,ag]
     have Q4:CQ W [(q2,u2,p2),(q1,u1,p1)] w4:=CQ.cons (Q3.ext hb) d0 d1;refine lY (S':=λw'=>∃n:fP (CQ W [(q2,u2,p2),(q1,u1,p1)]),w'=n.val) (λw' ⟨n,e⟩=>⟨⟨w',by rw[e];exact CQ.tail n.prop⟩,rfl⟩) ?_;have hne:Nonempty (fP (CQ W [(q2,u2,p2),(q1,u1,p1)])):=⟨⟨_,Q4⟩⟩
     have r0:∀n:fP (CQ W [(q2,u2,p2),(q1,u1,p1)]),n.val.cell? ⟨q2,u2,none⟩=some (.bool p2.1):=λn=>(n.prop.2 _ (aM ..)).1;have r1:∀n:fP (CQ W [(q2,u2,p2),(q1,u1,p1)]),n.val.cell? ⟨q2,u2+1,none⟩=some (.int .i64 p2.2):=λn=>(n.prop.2 _ (aM ..)).2;clear hb hl hf d0 d1 e0;refine eK 14 2 (by kernel_rfl) ⟨⟨_,Q4⟩,rfl⟩ ?_;simp only[ak,aq,aj,ap]
     repeat (go_big_quiet_step (fail))
     refine ar ?_;have y1:=z1.out;have y3:=z3.out;have b0:=Q4.1.size;have bb0:=Q0.1.size;refine eO 18 (by kernel_rfl) ?_;refine eE rfl rfl ?_;refine aE 42 _ _ rfl (w0.heap.size) #[.bool p1.1,.int .i64 p1.2] rfl rfl 42 _ h4 gL rfl (by simp[Value.oneCell']) ?_;have h5':(w4.setRow (w0.heap.size) #[.bool p1.1,.int .i64 p1.2]).heap[w2.heap.size]? =some (gW (false,0)):=(aY _ _ _ _ (by omega)).trans h5;refine⟨Or.inr ⟨⟨_,CQ.setRow Q4 (by omega) (by intro t ht;simp only[aH,a7,bW] at ht;rcases ht with rfl|rfl<;>(simp only;omega))⟩,rfl⟩,?_⟩
     try simp only[Act.put,ae,ah,ag]
     refine eO 19 (by kernel_rfl) ?_;refine eE rfl rfl ?_;refine aE 42 _ _ rfl (w2.heap.size) #[.bool p2.1,.int .i64 p2.2] rfl rfl 42 _ h5' gL rfl (by simp[Value.oneCell']) ?_;refine⟨Or.inl (by kernel_rfl),?_⟩
     try simp only[Act.put,ae,ah,ag]
     refine fJ (by kernel_rfl) ?_
     go_wp2_with fail
     go_meet
     exact⟨w0.heap.size,w2.heap.size,rfl,rfl,by omega,by omega,by omega,(aY _ _ _ _ (by omega)).trans (aG _ _ _ _ _ _ h4),aG _ _ _ _ _ _ h5',aA (aA Q4.1 (by omega) _) (by omega) _⟩
   .refine eE rfl rfl ?_;go_simp;obtain⟨w2,hw⟩:∃x,x=w1.alloc (gW (false,0)):=⟨_,rfl⟩
    rw[show w1.alloc (Obj.cells #[.bool false,.int .i64 0] 42)=w2 from hw.symm];have hb:Below w1.heap.size w1 w2:=by rw[hw];exact eC _ _
    have z2:Hid (w2.heap.size=w1.heap.size+1):=by rw[Hid,hw];simp
    replace h4:=eB hb h4
    have h5:w2.heap[w1.heap.size]? =some (gW (false,0)):=by rw[hw];exact ai _ _
    clear hw;refine⟨Or.inr ⟨⟨_,Q1.ext hb⟩,rfl⟩,?_⟩
    try simp only[Act.put,ae,ah,ag]
    have Q2:=Q1.ext hb;clear hb;refine eO 5 (by kernel_rfl) ?_;refine eE rfl rfl ?_;go_simp;refine(sG m r.d a1 a2 r.aa n1 c1 n2 c2 r.na r.ca w2 ((HM.out.ext (eA HB.out Q2.1)).1) HM.out.2.2.2.2.1 HM.out.2.2.1 HOK.out.2.2.2.2.1 HOK.out.2.2.2.2.2.1 HOK.out.2.2.2.2.2.2.2.2 HKD.out).mono ?_;rintro e w3 ⟨la1,lc1,rfl,⟨hl,hf⟩,hb⟩;rw[HP1.out] at hl|-;obtain⟨p',q1,u1,e0,rfl,d0,d1⟩:=gK hl (k:=0) (by simp);obtain rfl:p1=p':=by simpa using e0
    simp only[bx,bz,aN,aV,aW] at d0 d1|-;have f1:w2.heap.size<=q1:=hf q1 u1 none rfl;have g1:q1<w3.heap.size:=aF _ _ d0;have s3:=hb.size
    replace h4:=eB hb h4
    replace h5:=eB hb h5
    refine⟨Or.inr ⟨⟨_,Q2.ext hb⟩,rfl⟩,?_⟩
    try simp only[Act.put,ae,ah,ag]
    have Q3:CQ W [(q1,u1,p1)] w3:=CQ.cons (Q2.ext hb) d0 d1;refine lY (S':=λw'=>∃n:fP (CQ W [(q1,u1,p1)]),w'=n.val) (λw' ⟨n,e⟩=>⟨⟨w',by rw[e];exact CQ.tail n.prop⟩,rfl⟩) ?_;have hne:Nonempty (fP (CQ W [(q1,u1,p1)])):=⟨⟨_,Q3⟩⟩
    have r0:∀n:fP (CQ W [(q1,u1,p1)]),n.val.cell? ⟨q1,u1,none⟩=some (.bool p1.1):=λn=>(n.prop.2 _ (aM ..)).1;have r1:∀n:fP (CQ W [(q1,u1,p1)]),n.val.cell? ⟨q1,u1+1,none⟩=some (.int .i64 p1.2):=λn=>(n.prop.2 _ (aM ..)).2;clear hb hl hf d0 d1 e0;refine eK 6 2 (by kernel_rfl) ⟨⟨_,Q3⟩,rfl⟩ ?_;simp only[ak,aq,aj,ap]
    repeat (go_big_quiet_step (fail))
    refine ar ?_;refine eO 13 (by kernel_rfl) ?_;refine eE rfl rfl ?_;go_simp;refine(jI m r.d a1 a2 r.aa n1 c1 n2 c2 r.na r.ca w3 HM.out.2.2.2.2.2.2.2 HOK.out.2.2.2.1 HKD.out).mono ?_;rintro e w4 ⟨la2,lc2,rfl,⟨hl,hf⟩,hb⟩;rw[HP2.out] at hl|-;obtain⟨p',q2,u2,e0,rfl,d0,d1⟩:=gK hl (k:=0) (by simp);obtain rfl:p2=p':=by simpa using e0
    simp only[bx,bz,aN,aV,aW] at d0 d1|-;have f2:w3.heap.size<=q2:=hf q2 u2 none rfl;have g2:q2<w4.heap.size:=aF _ _ d0;have s4:=hb.size
    replace h4:=eB hb h4
    replace h5:=eB hb h5
    refine⟨Or.inr ⟨⟨_,Q3.ext hb⟩,rfl⟩,?_⟩
    try simp only[Act.put,ae,ah,ag]
    have Q4:CQ W [(q2,u2,p2),(q1,u1,p1)] w4:=CQ.cons (Q3.ext hb) d0 d1;refine lY (S':=λw'=>∃n:fP (CQ W [(q2,u2,p2),(q1,u1,p1)]),w'=n.val) (λw' ⟨n,e⟩=>⟨⟨w',by rw[e];exact CQ.tail n.prop⟩,rfl⟩) ?_;have hne:Nonempty (fP (CQ W [(q2,u2,p2),(q1,u1,p1)])):=⟨⟨_,Q4⟩⟩
    have r0:∀n:fP (CQ W [(q2,u2,p2),(q1,u1,p1)]),n.val.cell? ⟨q2,u2,none⟩=some (.bool p2.1):=λn=>(n.prop.2 _ (aM ..)).1;have r1:∀n:fP (CQ W [(q2,u2,p2),(q1,u1,p1)]),n.val.cell? ⟨q2,u2+1,none⟩=some (.int .i64 p2.2):=λn=>(n.prop.2 _ (aM ..)).2;clear hb hl hf d0 d1 e0;refine eK 14 2 (by kernel_rfl) ⟨⟨_,Q4⟩,rfl⟩ ?_;simp only[ak,aq,aj,ap]
    repeat (go_big_quiet_step (fail))
    refine ar ?_;have y1:=z1.out;have y2:=z2.out;have b0:=Q4.1.size;have bb0:=Q0.1.size;refine eO 18 (by kernel_rfl) ?_;refine eE rfl rfl ?_;refine aE 42 _ _ rfl (w0.heap.size) #[.bool p1.1,.int .i64 p1.2] rfl rfl 42 _ h4 gL rfl (by simp[Value.oneCell']) ?_;have h5':(w4.setRow (w0.heap.size) #[.bool p1.1,.int .i64 p1.2]).heap[w1.heap.size]? =some (gW (false,0)):=(aY _ _ _ _ (by omega)).trans h5;refine⟨Or.inr ⟨⟨_,CQ.setRow Q4 (by omega) (by intro t ht;simp only[aH,a7,bW] at ht;rcases ht with rfl|rfl<;>(simp only;omega))⟩,rfl⟩,?_⟩
    try simp only[Act.put,ae,ah,ag]
    refine eO 19 (by kernel_rfl) ?_;refine eE rfl rfl ?_;refine aE 42 _ _ rfl (w1.heap.size) #[.bool p2.1,.int .i64 p2.2] rfl rfl 42 _ h5' gL rfl (by simp[Value.oneCell']) ?_;refine⟨Or.inl (by kernel_rfl),?_⟩
    try simp only[Act.put,ae,ah,ag]
    refine fJ (by kernel_rfl) ?_
    go_wp2_with fail
    go_meet
    exact⟨w0.heap.size,w1.heap.size,rfl,rfl,by omega,by omega,by omega,(aY _ _ _ _ (by omega)).trans (aG _ _ _ _ _ _ h4),aG _ _ _ _ _ _ h5',aA (aA Q4.1 (by omega) _) (by omega) _⟩
  .refine eE rfl rfl ?_;go_simp;obtain⟨w1,hw⟩:∃x,x=w0.alloc (gW (false,0)):=⟨_,rfl⟩
   rw[show w0.alloc (Obj.cells #[.bool false,.int .i64 0] 42)=w1 from hw.symm];have hb:Below w0.heap.size w0 w1:=by rw[hw];exact eC _ _
   have z1:Hid (w1.heap.size=w0.heap.size+1):=by rw[Hid,hw];simp
   have h5:w1.heap[w0.heap.size]? =some (gW (false,0)):=by rw[hw];exact ai _ _
   clear hw;refine⟨Or.inr ⟨⟨_,Q0.ext hb⟩,rfl⟩,?_⟩
   try simp only[Act.put,ae,ah,ag]
   have Q1:=Q0.ext hb;clear hb;refine lU 5 16 (by kernel_rfl) ?_ ?_
   .refine eE rfl rfl ?_;go_simp;refine(sG m r.d a1 a2 r.aa n1 c1 n2 c2 r.na r.ca w1 ((HM.out.ext (eA HB.out Q1.1)).1) HM.out.2.2.2.2.1 HM.out.2.2.1 HOK.out.2.2.2.2.1 HOK.out.2.2.2.2.2.1 HOK.out.2.2.2.2.2.2.2.2 HKD.out).mono ?_;rintro e w2 ⟨la1,lc1,rfl,⟨hl,hf⟩,hb⟩;rw[HP1.out] at hl|-;obtain⟨p',q1,u1,e0,rfl,d0,d1⟩:=gK hl (k:=0) (by simp);obtain rfl:p1=p':=by simpa using e0
    simp only[bx,bz,aN,aV,aW] at d0 d1|-;have f1:w1.heap.size<=q1:=hf q1 u1 none rfl;have g1:q1<w2.heap.size:=aF _ _ d0;have s2:=hb.size
    replace h5:=eB hb h5
    refine⟨Or.inr ⟨⟨_,Q1.ext hb⟩,rfl⟩,?_⟩
    try simp only[Act.put,ae,ah,ag]
    have Q2:CQ W [(q1,u1,p1)] w2:=CQ.cons (Q1.ext hb) d0 d1;refine lY (S':=λw'=>∃n:fP (CQ W [(q1,u1,p1)]),w'=n.val) (λw' ⟨n,e⟩=>⟨⟨w',by rw[e];exact CQ.tail n.prop⟩,rfl⟩) ?_;have hne:Nonempty (fP (CQ W [(q1,u1,p1)])):=⟨⟨_,Q2⟩⟩
    have r0:∀n:fP (CQ W [(q1,u1,p1)]),n.val.cell? ⟨q1,u1,none⟩=some (.bool p1.1):=λn=>(n.prop.2 _ (aM ..)).1;have r1:∀n:fP (CQ W [(q1,u1,p1)]),n.val.cell? ⟨q1,u1+1,none⟩=some (.int .i64 p1.2):=λn=>(n.prop.2 _ (aM ..)).2;clear hb hl hf d0 d1 e0;refine eK 6 2 (by kernel_rfl) ⟨⟨_,Q2⟩,rfl⟩ ?_;simp only[ak,aq,aj,ap]
    repeat (go_big_quiet_step (fail))
    refine ar ?_;refine lU 13 16 (by kernel_rfl) ?_ ?_
    .refine eE rfl rfl ?_;go_simp;refine(jI m r.d a1 a2 r.aa n1 c1 n2 c2 r.na r.ca w2 HM.out.2.2.2.2.2.2.2 HOK.out.2.2.2.1 HKD.out).mono ?_;rintro e w3 ⟨la2,lc2,rfl,⟨hl,hf⟩,hb⟩;rw[HP2.out] at hl|-;obtain⟨p',q2,u2,e0,rfl,d0,d1⟩:=gK hl (k:=0) (by simp);obtain rfl:p2=p':=by simpa using e0
     simp only[bx,bz,aN,aV,aW] at d0 d1|-;have f2:w2.heap.size<=q2:=hf q2 u2 none rfl;have g2:q2<w3.heap.size:=aF _ _ d0;have s3:=hb.size
     replace h5:=eB hb h5
     refine⟨Or.inr ⟨⟨_,Q2.ext hb⟩,rfl⟩,?_⟩
     try simp only[Act.put,ae,ah,ag]
     have Q3:CQ W [(q2,u2,p2),(q1,u1,p1)] w3:=CQ.cons (Q2.ext hb) d0 d1;refine lY (S':=λw'=>∃n:fP (CQ W [(q2,u2,p2),(q1,u1,p1)]),w'=n.val) (λw' ⟨n,e⟩=>⟨⟨w',by rw[e];exact CQ.tail n.prop⟩,rfl⟩) ?_;have hne:Nonempty (fP (CQ W [(q2,u2,p2),(q1,u1,p1)])):=⟨⟨_,Q3⟩⟩
     have r0:∀n:fP (CQ W [(q2,u2,p2),(q1,u1,p1)]),n.val.cell? ⟨q2,u2,none⟩=some (.bool p2.1):=λn=>(n.prop.2 _ (aM ..)).1;have r1:∀n:fP (CQ W [(q2,u2,p2),(q1,u1,p1)]),n.val.cell? ⟨q2,u2+1,none⟩=some (.int .i64 p2.2):=λn=>(n.prop.2 _ (aM ..)).2;clear hb hl hf d0 d1 e0;refine eK 14 2 (by kernel_rfl) ⟨⟨_,Q3⟩,rfl⟩ ?_;simp only[ak,aq,aj,ap]
     repeat (go_big_quiet_step (fail))
     refine ar ?_;refine eO 16 (by kernel_rfl) ?_;refine eE rfl rfl ?_;go_simp;obtain⟨w4,hw⟩:∃x,x=w3.alloc (gW (false,0)):=⟨_,rfl⟩
     rw[show w3.alloc (Obj.cells #[.bool false,.int .i64 0] 42)=w4 from hw.symm];have hb:Below w3.heap.size w3 w4:=by rw[hw];exact eC _ _
     have z4:Hid (w4.heap.size=w3.heap.size+1):=by rw[Hid,hw];simp
     replace h5:=eB hb h5
     have h4:w4.heap[w3.heap.size]? =some (gW (false,0)):=by rw[hw];exact ai _ _
     clear hw;refine⟨Or.inr ⟨⟨_,Q3.ext hb⟩,rfl⟩,?_⟩
     try simp only[Act.put,ae,ah,ag]
     have Q4:=Q3.ext hb;clear hb;have y1:=z1.out;have y4:=z4.out;have b0:=Q4.1.size;have bb0:=Q0.1.size;refine eO 18 (by kernel_rfl) ?_;refine eE rfl rfl ?_;refine aE 42 _ _ rfl (w3.heap.size) #[.bool p1.1,.int .i64 p1.2] rfl rfl 42 _ h4 gL rfl (by simp[Value.oneCell']) ?_;have h5':(w4.setRow (w3.heap.size) #[.bool p1.1,.int .i64 p1.2]).heap[w0.heap.size]? =some (gW (false,0)):=(aY _ _ _ _ (by omega)).trans h5;refine⟨Or.inr ⟨⟨_,CQ.setRow Q4 (by omega) (by intro t ht;simp only[aH,a7,bW] at ht;rcases ht with rfl|rfl<;>(simp only;omega))⟩,rfl⟩,?_⟩
     try simp only[Act.put,ae,ah,ag]
     refine eO 19 (by kernel_rfl) ?_;refine eE rfl rfl ?_;refine aE 42 _ _ rfl (w0.heap.size) #[.bool p2.1,.int .i64 p2.2] rfl rfl 42 _ h5' gL rfl (by simp[Value.oneCell']) ?_;refine⟨Or.inl (by kernel_rfl),?_⟩
     try simp only[Act.put,ae,ah,ag]
     refine fJ (by kernel_rfl) ?_
     go_wp2_with fail
     go_meet
     exact⟨w3.heap.size,w0.heap.size,rfl,rfl,by omega,by omega,by omega,(aY _ _ _ _ (by omega)).trans (aG _ _ _ _ _ _ h4),aG _ _ _ _ _ _ h5',aA (aA Q4.1 (by omega) _) (by omega) _⟩
    .refine eE rfl rfl ?_;go_simp;obtain⟨w3,hw⟩:∃x,x=w2.alloc (gW (false,0)):=⟨_,rfl⟩
     rw[show w2.alloc (Obj.cells #[.bool false,.int .i64 0] 42)=w3 from hw.symm];have hb:Below w2.heap.size w2 w3:=by rw[hw];exact eC _ _
     have z3:Hid (w3.heap.size=w2.heap.size+1):=by rw[Hid,hw];simp
     replace h5:=eB hb h5
     have h4:w3.heap[w2.heap.size]? =some (gW (false,0)):=by rw[hw];exact ai _ _
     clear hw;refine⟨Or.inr ⟨⟨_,Q2.ext hb⟩,rfl⟩,?_⟩
     try simp only[Act.put,ae,ah,ag]
     have Q3:=Q2.ext hb;clear hb;refine eO 13 (by kernel_rfl) ?_;refine eE rfl rfl ?_;go_simp;refine(jI m r.d a1 a2 r.aa n1 c1 n2 c2 r.na r.ca w3 HM.out.2.2.2.2.2.2.2 HOK.out.2.2.2.1 HKD.out).mono ?_;rintro e w4 ⟨la2,lc2,rfl,⟨hl,hf⟩,hb⟩;rw[HP2.out] at hl|-;obtain⟨p',q2,u2,e0,rfl,d0,d1⟩:=gK hl (k:=0) (by simp);obtain rfl:p2=p':=by simpa using e0
     simp only[bx,bz,aN,aV,aW] at d0 d1|-;have f2:w3.heap.size<=q2:=hf q2 u2 none rfl;have g2:q2<w4.heap.size:=aF _ _ d0;have s4:=hb.size
     replace h4:=eB hb h4
     replace h5:=eB hb h5
     refine⟨Or.inr ⟨⟨_,Q3.ext hb⟩,rfl⟩,?_⟩
     try simp only[Act.put,ae,ah,ag]
     have Q4:CQ W [(q2,u2,p2),(q1,u1,p1)] w4:=CQ.cons (Q3.ext hb) d0 d1;refine lY (S':=λw'=>∃n:fP (CQ W [(q2,u2,p2),(q1,u1,p1)]),w'=n.val) (λw' ⟨n,e⟩=>⟨⟨w',by rw[e];exact CQ.tail n.prop⟩,rfl⟩) ?_;have hne:Nonempty (fP (CQ W [(q2,u2,p2),(q1,u1,p1)])):=⟨⟨_,Q4⟩⟩
     have r0:∀n:fP (CQ W [(q2,u2,p2),(q1,u1,p1)]),n.val.cell? ⟨q2,u2,none⟩=some (.bool p2.1):=λn=>(n.prop.2 _ (aM ..)).1;have r1:∀n:fP (CQ W [(q2,u2,p2),(q1,u1,p1)]),n.val.cell? ⟨q2,u2+1,none⟩=some (.int .i64 p2.2):=λn=>(n.prop.2 _ (aM ..)).2;clear hb hl hf d0 d1 e0;refine eK 14 2 (by kernel_rfl) ⟨⟨_,Q4⟩,rfl⟩ ?_;simp only[ak,aq,aj,ap]
     repeat (go_big_quiet_step (fail))
     refine ar ?_;have y1:=z1.out;have y3:=z3.out;have b0:=Q4.1.size;have bb0:=Q0.1.size;refine eO 18 (by kernel_rfl) ?_;refine eE rfl rfl ?_;refine aE 42 _ _ rfl (w2.heap.size) #[.bool p1.1,.int .i64 p1.2] rfl rfl 42 _ h4 gL rfl (by simp[Value.oneCell']) ?_;have h5':(w4.setRow (w2.heap.size) #[.bool p1.1,.int .i64 p1.2]).heap[w0.heap.size]? =some (gW (false,0)):=(aY _ _ _ _ (by omega)).trans h5;refine⟨Or.inr ⟨⟨_,CQ.setRow Q4 (by omega) (by intro t ht;simp only[aH,a7,bW] at ht;rcases ht with rfl|rfl<;>(simp only;omega))⟩,rfl⟩,?_⟩
     try simp only[Act.put,ae,ah,ag]
     refine eO 19 (by kernel_rfl) ?_;refine eE rfl rfl ?_;refine aE 42 _ _ rfl (w0.heap.size) #[.bool p2.1,.int .i64 p2.2] rfl rfl 42 _ h5' gL rfl (by simp[Value.oneCell']) ?_;refine⟨Or.inl (by kernel_rfl),?_⟩
     try simp only[Act.put,ae,ah,ag]
     refine fJ (by kernel_rfl) ?_
     go_wp2_with fail
     go_meet
     exact⟨w2.heap.size,w0.heap.size,rfl,rfl,by omega,by omega,by omega,(aY _ _ _ _ (by omega)).trans (aG _ _ _ _ _ _ h4),aG _ _ _ _ _ _ h5',aA (aA Q4.1 (by omega) _) (by omega) _⟩
   .refine eE rfl rfl ?_;go_simp;obtain⟨w2,hw⟩:∃x,x=w1.alloc (gW (false,0)):=⟨_,rfl⟩
    rw[show w1.alloc (Obj.cells #[.bool false,.int .i64 0] 42)=w2 from hw.symm];have hb:Below w1.heap.size w1 w2:=by rw[hw];exact eC _ _
    have z2:Hid (w2.heap.size=w1.heap.size+1):=by rw[Hid,hw];simp
    replace h5:=eB hb h5
    have h4:w2.heap[w1.heap.size]? =some (gW (false,0)):=by rw[hw];exact ai _ _
    clear hw;refine⟨Or.inr ⟨⟨_,Q1.ext hb⟩,rfl⟩,?_⟩
    try simp only[Act.put,ae,ah,ag]
    have Q2:=Q1.ext hb;clear hb;refine eO 5 (by kernel_rfl) ?_;refine eE rfl rfl ?_;go_simp;refine(sG m r.d a1 a2 r.aa n1 c1 n2 c2 r.na r.ca w2 ((HM.out.ext (eA HB.out Q2.1)).1) HM.out.2.2.2.2.1 HM.out.2.2.1 HOK.out.2.2.2.2.1 HOK.out.2.2.2.2.2.1 HOK.out.2.2.2.2.2.2.2.2 HKD.out).mono ?_;rintro e w3 ⟨la1,lc1,rfl,⟨hl,hf⟩,hb⟩;rw[HP1.out] at hl|-;obtain⟨p',q1,u1,e0,rfl,d0,d1⟩:=gK hl (k:=0) (by simp);obtain rfl:p1=p':=by simpa using e0
    simp only[bx,bz,aN,aV,aW] at d0 d1|-;have f1:w2.heap.size<=q1:=hf q1 u1 none rfl;have g1:q1<w3.heap.size:=aF _ _ d0;have s3:=hb.size
    replace h4:=eB hb h4
    replace h5:=eB hb h5
    refine⟨Or.inr ⟨⟨_,Q2.ext hb⟩,rfl⟩,?_⟩
    try simp only[Act.put,ae,ah,ag]
    have Q3:CQ W [(q1,u1,p1)] w3:=CQ.cons (Q2.ext hb) d0 d1;refine lY (S':=λw'=>∃n:fP (CQ W [(q1,u1,p1)]),w'=n.val) (λw' ⟨n,e⟩=>⟨⟨w',by rw[e];exact CQ.tail n.prop⟩,rfl⟩) ?_;have hne:Nonempty (fP (CQ W [(q1,u1,p1)])):=⟨⟨_,Q3⟩⟩
    have r0:∀n:fP (CQ W [(q1,u1,p1)]),n.val.cell? ⟨q1,u1,none⟩=some (.bool p1.1):=λn=>(n.prop.2 _ (aM ..)).1;have r1:∀n:fP (CQ W [(q1,u1,p1)]),n.val.cell? ⟨q1,u1+1,none⟩=some (.int .i64 p1.2):=λn=>(n.prop.2 _ (aM ..)).2;clear hb hl hf d0 d1 e0;refine eK 6 2 (by kernel_rfl) ⟨⟨_,Q3⟩,rfl⟩ ?_;simp only[ak,aq,aj,ap]
    repeat (go_big_quiet_step (fail))
    refine ar ?_;refine eO 13 (by kernel_rfl) ?_;refine eE rfl rfl ?_;go_simp;refine(jI m r.d a1 a2 r.aa n1 c1 n2 c2 r.na r.ca w3 HM.out.2.2.2.2.2.2.2 HOK.out.2.2.2.1 HKD.out).mono ?_;rintro e w4 ⟨la2,lc2,rfl,⟨hl,hf⟩,hb⟩;rw[HP2.out] at hl|-;obtain⟨p',q2,u2,e0,rfl,d0,d1⟩:=gK hl (k:=0) (by simp);obtain rfl:p2=p':=by simpa using e0
    simp only[bx,bz,aN,aV,aW] at d0 d1|-;have f2:w3.heap.size<=q2:=hf q2 u2 none rfl;have g2:q2<w4.heap.size:=aF _ _ d0;have s4:=hb.size
    replace h4:=eB hb h4
    replace h5:=eB hb h5
    refine⟨Or.inr ⟨⟨_,Q3.ext hb⟩,rfl⟩,?_⟩
    try simp only[Act.put,ae,ah,ag]
    have Q4:CQ W [(q2,u2,p2),(q1,u1,p1)] w4:=CQ.cons (Q3.ext hb) d0 d1;refine lY (S':=λw'=>∃n:fP (CQ W [(q2,u2,p2),(q1,u1,p1)]),w'=n.val) (λw' ⟨n,e⟩=>⟨⟨w',by rw[e];exact CQ.tail n.prop⟩,rfl⟩) ?_;have hne:Nonempty (fP (CQ W [(q2,u2,p2),(q1,u1,p1)])):=⟨⟨_,Q4⟩⟩
    have r0:∀n:fP (CQ W [(q2,u2,p2),(q1,u1,p1)]),n.val.cell? ⟨q2,u2,none⟩=some (.bool p2.1):=λn=>(n.prop.2 _ (aM ..)).1;have r1:∀n:fP (CQ W [(q2,u2,p2),(q1,u1,p1)]),n.val.cell? ⟨q2,u2+1,none⟩=some (.int .i64 p2.2):=λn=>(n.prop.2 _ (aM ..)).2;clear hb hl hf d0 d1 e0;refine eK 14 2 (by kernel_rfl) ⟨⟨_,Q4⟩,rfl⟩ ?_;simp only[ak,aq,aj,ap]
    repeat (go_big_quiet_step (fail))
    refine ar ?_;have y1:=z1.out;have y2:=z2.out;have b0:=Q4.1.size;have bb0:=Q0.1.size;refine eO 18 (by kernel_rfl) ?_;refine eE rfl rfl ?_;refine aE 42 _ _ rfl (w1.heap.size) #[.bool p1.1,.int .i64 p1.2] rfl rfl 42 _ h4 gL rfl (by simp[Value.oneCell']) ?_;have h5':(w4.setRow (w1.heap.size) #[.bool p1.1,.int .i64 p1.2]).heap[w0.heap.size]? =some (gW (false,0)):=(aY _ _ _ _ (by omega)).trans h5;refine⟨Or.inr ⟨⟨_,CQ.setRow Q4 (by omega) (by intro t ht;simp only[aH,a7,bW] at ht;rcases ht with rfl|rfl<;>(simp only;omega))⟩,rfl⟩,?_⟩
    try simp only[Act.put,ae,ah,ag]
    refine eO 19 (by kernel_rfl) ?_;refine eE rfl rfl ?_;refine aE 42 _ _ rfl (w0.heap.size) #[.bool p2.1,.int .i64 p2.2] rfl rfl 42 _ h5' gL rfl (by simp[Value.oneCell']) ?_;refine⟨Or.inl (by kernel_rfl),?_⟩
    try simp only[Act.put,ae,ah,ag]
    refine fJ (by kernel_rfl) ?_
    go_wp2_with fail
    go_meet
    exact⟨w1.heap.size,w0.heap.size,rfl,rfl,by omega,by omega,by omega,(aY _ _ _ _ (by omega)).trans (aG _ _ _ _ _ _ h4),aG _ _ _ _ _ _ h5',aA (aA Q4.1 (by omega) _) (by omega) _⟩
 case rest=>
  obtain⟨p4,p5,rfl,rfl,hp4,hp5,hne45,h4,h5,hb1⟩:=hcut;obtain⟨w1,rfl⟩:∃w1,w1=wc:=⟨_,rfl⟩
  have HW1:=ac (HW.out.ext hb1);have H4:=ac h4;have H5:=ac h5;have HB1:=ac (eA HB.out hb1);have hsz1:=hb1.size;have HSL:=ac hsz1;have HLB:=ac HW.out.lt;clear hb1 h4 h5 hsz1 C1 C2 C3 C4 HI HM HOK HP1 HP2 HW;go_upto_region 2 with (fail)
  have hne:Nonempty (eH w1):=⟨⟨w1,ao _ _⟩⟩
  have g0:∀n:eH w1,n.val.cell? ⟨g,0,none⟩=some (.map (some b)):=λn=>eH.cell HW1.out.cells.1 n;have g1:∀n:eH w1,n.val.cell? ⟨p4,0,none⟩=some (.bool p1.1):=λn=>cR (eB n.ext H4.out) rfl;have g2:∀n:eH w1,n.val.cell? ⟨p4,1,none⟩=some (.int .i64 p1.2):=λn=>cR (eB n.ext H4.out) rfl;refine gJ (λw'=>∃n':eH w1,w'=n'.val) [(0,5,some (5,true)),(6,1,none)] (by kernel_rfl) (by kernel_rfl) ⟨⟨_,eS (ao _ _) 1⟩,rfl⟩ ?_;simp only[lR,ak,aq,aj,ap]
  repeat (go_big_quiet_step (fail))
  refine ar ?_;refine eE rfl rfl ?_;go_simp;refine(CY m a1 a2 n1 c1 n2 c2 U hU g b K fe p1 w1.drew HW1.out).mono ?_;rintro e w2 ⟨vl,Out,rfl,ho,hn,hm,hb2⟩;have hb2:Below w1.heap.size w1 w2:=jV hb2;refine⟨⟨⟨w2,hb2⟩,rfl⟩,?_⟩;obtain⟨av,cv,rfl⟩:=ho.form;have HO:=ac (show qA w2 w1.heap.size (.slice av Out.length cv) Out from ho);have HMm:Hid (∀y,y∈Out↔K y=true/\y.2=p1):=λy=>(hm y).trans (and_congr_right λ_=>iE _ _);have HW2:=ac (HW1.out.ext hb2);have HB2:=ac (eA HB1.out hb2);have H42:=ac (eB hb2 H4.out);have H52:=ac (eB hb2 H5.out);have HLen:Hid (Out.length<=1000000000000):=by
   obtain⟨L,hS,hm',hD⟩:=HW1.out.2;exact bP (iU hn λx hx=>(hm' x).2 ((hm x).1 hx).1) (KS.len hU hS hD)
  clear ho hm hn hb2 H4 H5 HB1
  try simp only[Act.put,ae,ah,ag]
  repeat (go_big_quiet_step (fail))
  refine ar ?_;refine bQ ?_;clear g0 g1 g2 hne
  go_upto_if 33 with (fail)
  go_cut [] (λwx=>Hid (WS m a1 n1 c1 a2 n2 c2 U g b K fe2 wx)/\Hid (Chg (WT g b) w2 wx))
  case first=>
   by_cases h0:Out.length=0
   .have HE:Hid (fe2=rU fe 14):=by
     rw[Hid,HFE.out,atV,aC];rintro⟨y,hy⟩;have:=(HMm.out y).2 hy;rw[bB h0] at this;cases this
    have h0':((Out.length:Int)==0)=true:=by simp[h0]
    clear h0
    go_wp2_with (
     (go_at_call 61
      refine(JP m a1 a2 n1 c1 n2 c2 U g b K fe 14 w2 HW2.out).mono ?_;rintro e w3 ⟨rfl,hs3,hc3⟩;have HS3:=ac hs3;have HC3:=ac hc3
      clear hs3 hc3))
    go_meet
    exact⟨by rw[Hid,HE.out];exact HS3.out,HC3⟩
   .have HE:Hid (fe2=fe):=by
     obtain⟨y,hy⟩:∃y,y∈Out:=by
      cases Out with
      |nil=>exact absurd rfl h0
      |cons y l=>exact⟨y,by simp⟩
     rw[Hid,HFE.out,atV,aX ⟨y,(HMm.out y).1 hy⟩]
    have h0':((Out.length:Int)==0)=false:=beq_eq_false_iff_ne.2 (by omega);clear h0;go_wp2
    go_meet
    exact⟨by rw[Hid,HE.out];exact HW2.out,Chg.refl _ _⟩
  case rest=>
   obtain⟨HW3,HC3⟩:=hcut;obtain⟨w3,rfl⟩:∃w3,w3=wc:=⟨_,rfl⟩
   clear HW2 HFE;have hlt2:=HLB.out;have NW:Hid (∀q,W.heap.size<=q->¬WT g b q):=λq hq h=>by rcases h with h|h<;>omega
   clear hlt2;have H43:Hid (w3.heap[p4]? =some (gW p1)):=(HC3.out.block p4 (am.1 H42.out).1 (NW.out _ hp4)).trans H42.out;have H53:Hid (w3.heap[p5]? =some (gW p2)):=(HC3.out.block p5 (am.1 H52.out).1 (NW.out _ hp5)).trans H52.out;have HOB:Hid (∀q o,av=some ⟨q,o,none⟩->W.heap.size<=q):=λq o e=>by
    have h1:=(HO.out.low (k:=q) (by rw[e];rfl)).1;have h2:=HSL.out;omega
   have HF3:Hid (qS w3 av Out.length Out):=rZ (HO.out.recs fO) HC3.out λq o e=>NW.out q (HOB.out q o e);have HCw:Hid (Chg (WT g b) w w3):=((Chg.refl (WT g b) w).of_ext HB2.out).trans HC3.out;have hl4:p4<w3.heap.size:=(am.1 H43.out).1;have hl5:p5<w3.heap.size:=(am.1 H53.out).1;clear HC3 H42 H52 HO HB2;obtain⟨g10,g11⟩:=qR H43.out rfl;obtain⟨g20,g21⟩:=qR H53.out rfl
   go_upto_if 38 with (fail)
   clear g10 g11 g20 g21;cases hpp:mY (p1.1,p1.2) (p2.1,p2.2) with
   |true=>
    have h12:p1=p2:=(iE _ _).1 hpp;subst h12;clear hpp;go_wp2;refine aD (results_none rfl _ _ _) rfl ?_;refine⟨rfl,HW3.out.congr λx=>?_,HCw.out⟩;unfold uC
    split
    .rename_i h
     rw[<-(iE _ _).1 h]
    .rfl
   |false=>
    have h12:p1≠p2:=λc=>by rw[c,(iE (p2.1,p2.2) (p2.1,p2.2)).2 rfl] at hpp;cases hpp
    have H12:=ac h12;clear hpp h12;go_upto_region 6 with (fail)
    have hne:Nonempty (eH w3):=⟨⟨w3,ao _ _⟩⟩
    have g0:∀n:eH w3,n.val.cell? ⟨g,0,none⟩=some (.map (some b)):=λn=>eH.cell HW3.out.cells.1 n;have g1:∀n:eH w3,n.val.cell? ⟨p5,0,none⟩=some (.bool p2.1):=λn=>cR (eB n.ext H53.out) rfl;have g2:∀n:eH w3,n.val.cell? ⟨p5,1,none⟩=some (.int .i64 p2.2):=λn=>cR (eB n.ext H53.out) rfl;refine gJ (λw'=>∃n':eH w3,w'=n'.val) [(0,9,some (9,true)),(10,0,some (10,false))] (by kernel_rfl) (by kernel_rfl) ⟨⟨_,eS (ao _ _) 1⟩,rfl⟩ ?_;simp only[lR,ak,aq,aj,ap]
    repeat (go_big_quiet_step (fail))
    refine ar ?_;refine eE rfl rfl ?_;go_simp;refine(CY m a1 a2 n1 c1 n2 c2 U hU g b K fe2 p2 w3.drew HW3.out).mono ?_;rintro e w4 ⟨vl4,Out4,rfl,ho4,hn4,hm4,hb4⟩;have hb4:Below w3.heap.size w3 w4:=jV hb4;refine⟨⟨⟨w4,hb4⟩,rfl⟩,?_⟩;obtain⟨av4,cv4,rfl⟩:=ho4.form;refine ar ?_;refine eE rfl rfl ?_;go_simp;refine(pI m a1 a2 n1 c1 n2 c2 U g b K fe2 av4 _ cv4 Out4 w4 (HW3.out.ext hb4) (ho4.recs fO)).mono ?_;rintro e w5 ⟨rfl,hs5,hc5⟩;have HK5:Hid (WS m a1 n1 c1 a2 n2 c2 U g b (sO K Out4) fe2 w5):=hs5;have hc5':Chg (WT g b) w4 w5:=hc5.mono λk hk=>.inr hk;have HFR:Hid (∀y:Fct,y∈Out4↔K y=true/\y.2=p2):=λy=>(hm4 y).trans (and_congr_right λ_=>iE _ _);have h55:=eB hb4 H53.out;have H55:Hid (w5.heap[p5]? =some (gW p2)):=(hc5'.block p5 (am.1 h55).1 (NW.out _ hp5)).trans h55;have HF5:Hid (qS w5 av Out.length Out):=rZ (HF3.out.ext fO hb4) hc5' λq o e=>NW.out q (HOB.out q o e);have HCw5:Hid (Chg (WT g b) w w5):=(HCw.out.of_ext hb4).trans hc5';have hl55:p5<w5.heap.size:=(am.1 H55.out).1;have HW3':=ac HW3.out.2;clear ho4 hn4 hm4 hb4 hs5 hc5 hc5' h55 g0 g1 g2 hne HF3 HCw H43 H53 HW3;refine bQ ?_;have hn:=HLen.out;go_wp2
    go_loopw [8,52] (λ_ i wr=>∃k,k<=Out.length/\i=.int .i64 (k:Nat)/\Hid (WS m a1 n1 c1 a2 n2 c2 U g b (DE (sO K Out4) (Out.take k) λf=>(f.1,p2)) fe2 wr)/\Hid (Chg (WT g b) w5 wr)) (λ_ i _=>Out.length-(intOf i).toNat)
    case atStart=>exact⟨0,by omega,rfl,by rw[Hid,aq,OT];exact HK5.out,Chg.refl _ _⟩
    case round=>
     obtain⟨k,hk,rfl,HKr,HCr⟩:=hrel;by_cases hkl:k<Out.length
     .obtain⟨x,q,o,hx,rfl,c0,c1,c2⟩:=lG (rZ HF5.out HCr.out λq o e=>NW.out q (HOB.out q o e)) hkl;have HX:=ac hx;have hk1:(k:Int)<(Out.length:Int):=by omega
      have HXM:=ac ((HMm.out x).1 (aK hx)).1;have H5r:Hid (wr.heap[p5]? =some (gW p2)):=(HCr.out.block p5 hl55 (NW.out _ hp5)).trans H55.out;clear hx;obtain⟨xv,xs,xn⟩:=x;go_upto_region 10 with (fail)
      obtain⟨w6,hw6⟩:∃w6,w6=wr.alloc (nC xv xs xn):=⟨_,rfl⟩
      rw[show wr.alloc (Obj.cells #[.int .i64 xv,.bool xs,.int .i64 xn] 44)=w6 from hw6.symm];have hb6:Below wr.heap.size wr w6:=by rw[hw6];exact eC _ _
      have hx6:w6.heap[wr.heap.size]? =some (nC xv xs xn):=by rw[hw6];exact ai _ _
      clear hw6 c0 c1 c2;have HK6:=ac (HKr.out.ext hb6);have HC6:=ac (HCr.out.of_ext hb6);have h56:=eB hb6 H5r.out;have hne:Nonempty (eH w6):=⟨⟨w6,ao _ _⟩⟩
      have g0:∀n:eH w6,n.val.cell? ⟨g,0,none⟩=some (.map (some b)):=λn=>eH.cell HK6.out.cells.1 n;have g1:∀n:eH w6,n.val.cell? ⟨wr.heap.size,0,none⟩=some (.int .i64 xv):=λn=>cR (eB n.ext hx6) rfl;have g2:∀n:eH w6,n.val.cell? ⟨p5,0,none⟩=some (.bool p2.1):=λn=>cR (eB n.ext h56) rfl;have g3:∀n:eH w6,n.val.cell? ⟨p5,1,none⟩=some (.int .i64 p2.2):=λn=>cR (eB n.ext h56) rfl;clear hb6;refine gJ (λw'=>∃n':eH w6,w'=n'.val) [(0,8,some (8,false))] (by kernel_rfl) (by kernel_rfl) ⟨⟨_,eS (ao _ _) 1⟩,rfl⟩ ?_;simp only[lR,ak,aq,aj,ap]
      repeat (go_big_quiet_step (fail))
      refine ar ?_;refine eE rfl rfl ?_;obtain⟨_,L,hS,hm,hD⟩:=HK6.out;refine KU _ _ _ rfl VN zU (show mJ w6.drew b L from hS) rfl (xv,p2.1,p2.2) rfl rfl ?_;intro w7 L7 hs7 hm7 hg7 hz7;have hg7:w6.grownBy w7 (some b):=⟨hg7.os,hg7.tape,hg7.output,hg7.size,hg7.block⟩
      have HK7:Hid (WS m a1 n1 c1 a2 n2 c2 U g b (DE (sO K Out4) (Out.take (k+1)) λf=>(f.1,p2)) fe2 w7):=by
       have hxU:xv∈U.V:=by
        obtain⟨L0,_,hm0,hD0⟩:=HW3'.out;exact(hD0 _ ((hm0 _).2 HXM.out)).1
       refine HK6.out.put hm hD hs7 hm7 ⟨hxU,hP⟩ hg7 λy=>?_;have e:Out.take (k+1)=Out.take k++ [(xv,xs,xn)]:=by rw[bo,HX.out];rfl
       rw[e,JZ]
      have HC7:Hid (Chg (WT g b) w5 w7):=HC6.out.grown hg7 λj e=>by injection e with e;exact .inl (.inr e.symm)
      clear hS hm hD hs7 hm7 hg7 hz7 g0 g1 g2 g3 hx6 h56
      try simp only[Act.put,ae,ah,ag]
      refine bQ ?_;go_wp2
      go_roundw
      case rel=>exact⟨k+1,by omega,by go_num,HK7,HC7⟩
      case measure=>simp[intOf];omega
     .obtain rfl:k=Out.length:=by omega
      go_wp2
      go_end0
      refine⟨rfl,HKr.out.congr λy=>?_,HCw5.out.trans HCr.out⟩;rw[cg,cp];unfold uC DE sO;simp only[bZ,az,cm,bA,List.any_eq_true,aR];constructor
      .intro h;by_cases hy:y.2=p2
       .rw[aX ((iE _ _).2 hy)] at h;refine .inr ⟨(y.1,p1),(HMm.out _).2 ⟨h,rfl⟩,?_⟩;rw[<-hy]
       .rw[aC (λc=>hy ((iE _ _).1 c))] at h;exact .inl ⟨h,λc=>hy ((HFR.out y).1 c).2⟩
      .rintro(⟨h1,h2⟩|⟨f,hf,rfl⟩)
       .by_cases hy:y.2=p2
        .exact absurd ((HFR.out y).2 ⟨h1,hy⟩) h2
        .rw[aC (λc=>hy ((iE _ _).1 c))];exact h1
       .have h1:=(HMm.out f).1 hf;rw[aX ((iE _ _).2 rfl),<-h1.2];exact h1.1
end
end Go.Proofs.YtchdkjenhppleaaGreat
