/-
 (walker).done.
-/
import Derived.Test.YtchdkjenhppleaaGreatA0
import Derived.Test.YtchdkjenhppleaaGreatZedMono
import Derived.Test.YtchdkjenhppleaaGreatKI
import Derived.Test.YtchdkjenhppleaaGreatFP
import Derived.Test.YtchdkjenhppleaaGreatKH
import Derived.Shelf.SlMaps.Clone
namespace Go.Proofs.YtchdkjenhppleaaGreat
set_option linter.unusedSimpArgs false
set_option linter.unusedVariables false
set_option linter.unusedSectionVars false
set_option maxRecDepth 100000
set_option maxHeartbeats 40000000
section
open Go.RowKit
def CZ(vs:List Int)(ps:List (Bool×Int)):List Fct:=vs.zip ps
def pQ(K:Fct->Bool)(l:List Int):Fct->Bool:=λy=>K y&& !(!y.2.1&&decide (y.2.2∈l))
def RB(K:Fct->Bool)(v:Int):Fct->Bool:=λy=>K y&& !(decide (0<v)&&y.1==v)
def GD(v:Int)(K:Fct->Bool)(p:Bool×Int):Fct->Bool:=λy=>if y.2=p then decide (0<v)&&(y.1==v) else K y
def tN(v:Int)(ps:List (Bool×Int))(K:Fct->Bool):Fct->Bool:=ps.foldl (λK p=>GD v K p) K
theorem SF(v:Int)(ps:List (Bool×Int))(p:Bool×Int)(K:Fct->Bool):tN v (ps++ [p]) K=GD v (tN v ps K) p:=by simp[tN,List.foldl_append]
def BC(m:eY)(s t:mI)(K:Fct->Bool):Fct->Bool:=tN (oB s) (fU m t) (RB (if s.op=13 then pQ K (xJ m) else K) (oB s))
def KJ(m:eY)(s t:mI)(K:Fct->Bool)(fe:Int):Int:=mM K (CZ (lA s) (gN m t)) fe 14
theorem VS(m:eY)(t:mI):(fU m t).length<=1:=by
 unfold fU
 repeat' split
 all_goals simp
theorem SP(K:Fct->Bool)(l:List Int)(r:Int)(Out:List Fct)(h:∀y,y∈Out↔pQ K l y=true/\mY y.2 (false,r)=true)(y:Fct):pQ K (l++ [r]) y=sO (pQ K l) Out y:=by
 have hy:=h y
 rw[iE] at hy
 unfold sO
 by_cases e:y.2=(false,r)
 .have h1:pQ K (l++ [r]) y=false:=by simp[pQ,e]
  rw[h1];cases h2:pQ K l y with
  |false=>rfl
  |true=>rw[dm (hy.2 ⟨h2,e⟩)];rfl
 .have h1:pQ K (l++ [r]) y=pQ K l y:=by
   obtain⟨yv,ys,yn⟩:=y;unfold pQ;cases ys with
   |true=>rfl
   |false=>
    have:yn≠r:=λc=>e (by rw[c]);simp[this]
  rw[h1,dd (λc=>e (hy.1 c).2)];simp
theorem YP(K:Fct->Bool)(v:Int)(hv:0<v)(Out:List Fct)(h:∀y,y∈Out↔K y=true/\(y.1==v)=true)(y:Fct):RB K v y=sO K Out y:=by
 have hy:=h y
 unfold sO RB
 rw[dm hv,cJ]
 cases h1:K y with
 |false=>rfl
 |true=>
  cases h2:(y.1==v) with
  |true=>rw[dm (hy.2 ⟨h1,h2⟩)];try rfl
  |false=>rw[dd (λc=>by have:=(hy.1 c).2;rw[h2] at this;cases this)];try rfl
theorem YQ(K:Fct->Bool)(v:Int)(hv:¬0<v)(y:Fct):RB K v y=K y:=by
 unfold RB
 rw[dd hv]
 simp
theorem XB(K:Fct->Bool)(v:Int)(hv:¬0<v)(p:Bool×Int)(Out:List Fct)(h:∀y,y∈Out↔K y=true/\mY y.2 p=true)(y:Fct):GD v K p y=sO K Out y:=by
 have hy:=h y
 rw[iE] at hy
 unfold sO GD
 rw[dd hv,dL]
 by_cases e:y.2=p
 .rw[aX e];cases h1:K y with
  |false=>rfl
  |true=>rw[dm (hy.2 ⟨h1,e⟩)];rfl
 .rw[aC e,dd (λc=>e (hy.1 c).2)];simp
theorem XA(K:Fct->Bool)(v:Int)(hv:0<v)(p:Bool×Int)(Out:List Fct)(h:∀y,y∈Out↔K y=true/\mY y.2 p=true)(y:Fct):GD v K p y=true↔sO K Out y=true\/y=(v,p):=by
 have hy:=h y
 rw[iE] at hy
 unfold sO GD
 rw[dm hv,cJ]
 by_cases e:y.2=p
 .rw[aX e];constructor
  .intro h1;refine .inr (Prod.ext (by simpa using h1) e)
  .rintro(h1|rfl)
   .rw[az] at h1;have:=hy.2 ⟨h1.1,e⟩;simp[this] at h1
   .simp
 .rw[aC e,dd (λc=>e (hy.1 c).2)];simp only[Bool.not_false,Bool.and_true];constructor
  .exact .inl
  .rintro(h1|rfl)
   .exact h1
   .exact absurd rfl e
theorem jz{W:World}{q:Nat}{r:fW}(h:W.heap[q]? =some (kY r.d r.aa r.na r.ca)):W.cell? ⟨q,0,none⟩=some (.int .i64 r.d.op):=cR h rfl
theorem WS.nobool{m:eY}{a1 a2:Option Addr}{n1 c1 n2 c2:Nat}{U:lT}{g b:Nat}{K:Fct->Bool}{fe:Int}{W:World}(h:WS m a1 n1 c1 a2 n2 c2 U g b K fe W){q o:Nat}{x:Bool}(hc:W.cell? ⟨q,o,none⟩=some (.bool x)):¬WT g b q:=by
 rintro(rfl|rfl)
 .rw[bd _ _ _ _ _ _ h.1] at hc
  match o,hc with
  |0,hc=>cases hc
  |1,hc=>cases hc
  |2,hc=>cases hc
  |3,hc=>cases hc
  |4,hc=>cases hc
  |5,hc=>cases hc
  |n+6,hc=>simp at hc
 .obtain⟨L,hS,_⟩:=h.2;exact hS.nocell hc rfl
theorem ip{m:eY}{a1 a2:Option Addr}{n1 c1 n2 c2:Nat}{U:lT}{g b:Nat}{K:Fct->Bool}{fe:Int}{W W':World}(h:WS m a1 n1 c1 a2 n2 c2 U g b K fe W){a:Option Addr}{n:Nat}{ls:List (Bool×Int)}(hl:MQ W a n ls)(hc:Chg (WT g b) W W'):MQ W' a n ls:=
 ⟨hl.1,hl.2.1,λj x hx=>by
  obtain⟨q,o,e,hcell⟩:=hl.2.2 j x hx;have h0:W.cell? ⟨q,o+j*2+0,none⟩=some (.bool x.1):=hcell 0 (by omega);have hn:=h.nobool h0;refine⟨q,o,e,λi hi=>?_⟩;rw[<-hcell i hi]
  exact oO (hc.block q (aF W _ h0) hn)⟩
theorem iw{S:Nat->Prop}{W W':World}{a:Option Addr}{n:Nat}{xs:List Int}(hl:fR W a n xs)(hc:Chg S W W')(hn:∀q o,a=some ⟨q,o,none⟩->¬S q):fR W' a n xs:=
 ⟨hl.1,hl.2.1,λk hk=>by
  obtain⟨q,o,e,hcell,hi⟩:=hl.2.2 k hk
  exact⟨q,o,e,(oO (hc.block q (aF W _ hcell) (hn q o e))).trans hcell,hi⟩⟩
theorem SQ{b:Nat}{L:List Fct}{W W':World}(h:mJ W b L){a:Option Addr}{n:Nat}{ls:List (Bool×Int)}(hl:MQ W a n ls)(hc:Chg (λk=>k=b) W W'):MQ W' a n ls:=
 ⟨hl.1,hl.2.1,λj x hx=>by
  obtain⟨q,o,e,hcell⟩:=hl.2.2 j x hx;have h0:W.cell? ⟨q,o+j*2+0,none⟩=some (.bool x.1):=hcell 0 (by omega);refine⟨q,o,e,λi hi=>?_⟩;rw[<-hcell i hi]
  exact oO (hc.block q (aF W _ h0) λe=>h.nocell h0 e)⟩
theorem TB{b:Nat}{L:List Fct}{W W':World}(h:mJ W b L){a:Option Addr}{n:Nat}{xs:List Int}(hl:fR W a n xs)(hc:Chg (λk=>k=b) W W'):fR W' a n xs:=
 ⟨hl.1,hl.2.1,λk hk=>by
  obtain⟨q,o,e,hcell,hi⟩:=hl.2.2 k hk
  exact⟨q,o,e,(oO (hc.block q (aF W _ hcell) λe=>h.nocell hcell e)).trans hcell,hi⟩⟩
theorem YL(m:eY)(a1 a2:Option Addr)(n1 c1 n2 c2:Nat)(U:lT)(hU:U.ok)(g b:Nat)(K:Fct->Bool)(fe:Int)(s t:fW)(w0 w:World)(hm:lB w0 m a1 n1 c1 a2 n2 c2)(hs:qF w0 s)(ht:qF w0 t)(hna:s.na<=1000000)
  (hb0:Below w0.heap.size w0 w) (hg0:w0.heap.size<=g) (hbb0:w0.heap.size<=b) (hw:WS m a1 n1 c1 a2 n2 c2 U g b K fe w) (hle:(lA s.d).length<=(gN m t.d).length) (hV:0<oB s.d->oB s.d∈U.V) (hP:∀p∈fU m t.d,p∈U.P):
  Calls Tryz.prog 36 #[.pointer (some ⟨g,0,none⟩),qB s,qB t] w λe w'=>e=.returned (.tuple #[])/\WS m a1 n1 c1 a2 n2 c2 U g b (BC m s.d t.d K) (KJ m s.d t.d K fe) w'/\Chg (WT g b) w w':=by
 have hlt:=hw.lt
 have HG:Hid (∀W,Chg (WT g b) w W->Below w0.heap.size w0 W):=λW hc=>hb0.trans (hc.below hb0.size (λk hk=>by rcases hk with rfl|rfl<;>assumption))
 have HM:=ac hm
 have HS:=ac hs
 have HT:=ac ht
 have HLE:=ac hle
 have HPP:=ac hP
 have HVV:=ac hV
 obtain⟨fe1,hfe1⟩:∃x,x=KJ m s.d t.d K fe:=⟨_,rfl⟩
 obtain⟨K9,hK9⟩:∃x,x=BC m s.d t.d K:=⟨_,rfl⟩
 rw[<-hfe1,<-hK9]
 have HFE:=ac hfe1
 have HK9:=ac hK9
 clear hfe1 hK9 hm hs ht hle hP hV hb0
 go_enter Tryz.func36,Tryz.ntmps36
 go_upto_region 1 with (fail)
 obtain⟨W,hW⟩:∃W,W=(w.alloc (kY s.d s.aa s.na s.ca)).alloc (kY t.d t.aa t.na t.ca):=⟨_,rfl⟩
 have hr1:W.heap[w.heap.size]? =some (kY s.d s.aa s.na s.ca):=by rw[hW];exact eB (eC _ _) (ai _ _)
 have hr2:W.heap[w.heap.size+1]? =some (kY t.d t.aa t.na t.ca):=by
  rw[hW];have:=ai (w.alloc (kY s.d s.aa s.na s.ca)) (kY t.d t.aa t.na t.ca);simpa using this
 have hB:Below w.heap.size w W:=by rw[hW];exact eA (eC _ _) (eC _ _)
 rw[<-hW]
 have HW:=ac (hw.ext hB)
 have HB:=ac hB
 have HC0:Hid (Chg (WT g b) w W):=(Chg.refl _ _).of_ext hB
 have H1:=ac hr1
 have H2:=ac hr2
 have h1l:=(am.1 hr1).1
 have h2l:=(am.1 hr2).1
 clear hW hr1 hr2 hB hw
 have HN1:Hid (¬WT g b w.heap.size):=λh=>by rcases h with h|h<;>omega
 have HN2:Hid (¬WT g b (w.heap.size+1)):=λh=>by rcases h with h|h<;>omega
 have hne:Nonempty (eH W):=⟨⟨W,ao _ _⟩⟩
 have k1:∀n:eH W,n.val.cell? ⟨g,1,none⟩=some (.int .i64 m.regs):=λn=>eH.cell HW.out.cells.2.1 n
 have k2:∀n:eH W,n.val.cell? ⟨g,2,none⟩=some (.slice a1 n1 c1):=λn=>eH.cell HW.out.cells.2.2.1 n
 have k3:∀n:eH W,n.val.cell? ⟨g,3,none⟩=some (.int .i64 m.ret):=λn=>eH.cell HW.out.cells.2.2.2.1 n
 have k4:∀n:eH W,n.val.cell? ⟨g,4,none⟩=some (.slice a2 n2 c2):=λn=>eH.cell HW.out.cells.2.2.2.2.1 n
 have k5:∀w',(∃n:eH W,w'=n.val)->w'.heap[w.heap.size+1]? =some (kY t.d t.aa t.na t.ca):=λw' ⟨n,e⟩=>by rw[e];exact eB n.ext H2.out
 refine gJ (λw'=>∃n':eH W,w'=n'.val) [(0,5,some (5,true)),(6,1,none)] (by kernel_rfl) (by kernel_rfl) ⟨⟨_,eS (ao _ _) 1⟩,rfl⟩ ?_
 simp only[lR,ak,aq,aj,ap]
 repeat (first
  |(refine eP (o:=⟨some 18,.load 62 _,_,_,_,_⟩) (by rfl) 62 _ rfl (w.heap.size+1) rfl 62 _ (0,0) _ k5 bT rfl pB ?_;simp only[Act.put,ae,ah,ag])
  |go_big_quiet_step (fail))
 refine ar ?_
 refine eE rfl rfl ?_
 go_simp
 refine(WP m t.d a1 a2 t.aa n1 c1 n2 c2 t.na t.ca W.drew ((HM.out.ext ((HG.out W HC0.out).drew)).1) HM.out.2.2.2.2.1 HM.out.2.2.1 HT.out.2.2.2.2.1 HT.out.2.2.2.2.2.1 HT.out.2.2.2.2.2.2.2.2).mono ?_
 rintro e w1 ⟨la,lc,rfl,hl,hb1⟩
 have hb1:Below W.heap.size W w1:=jV hb1
 refine⟨⟨⟨w1,hb1⟩,rfl⟩,?_⟩
 try simp only[Act.put,ae,ah,ag]
 repeat (go_big_quiet_step (fail))
 refine ar ?_
 refine bQ ?_
 have HPL:=ac hl
 have HW1:=ac (HW.out.ext hb1)
 have HC1:=ac (HC0.out.of_ext hb1)
 have H11:=ac (eB hb1 H1.out)
 have H21:=ac (eB hb1 H2.out)
 have HSZ1:=ac hb1.size
 clear hl hb1 k1 k2 k3 k4 k5 hne HW HC0 H1 H2 HB
 go_wp2_with (first
  |((with_reducible show wpList _ _ _ (⟨some 20,_,_,_,_,_⟩ :: _) _ _);refine ay (o:=⟨some 20,.load 62 _,_,_,_,_⟩) rfl 62 _ rfl w.heap.size rfl 62 _ (0,0) _ H11.out bT rfl pB ?_)
  |(go_at_call 64
    refine(SD s.d s.aa s.na s.ca w1 ((HS.out.ext (HG.out _ HC1.out)).1) HS.out.2.2.2.2.1 HS.out.2.2.2.2.2.1 HS.out.2.2.2.2.2.2.1 HS.out.2.2.2.2.2.2.2.1 hna).mono ?_;rintro e w2 ⟨ra,rc,rfl,hri,hb2,hfr⟩;have HFR:=ac hfr;have HRI:=ac hri;have HPL2:=ac (HPL.out.ext yC hb2);have HW2:=ac (HW1.out.ext hb2);have HC2:=ac (HC1.out.of_ext hb2);have H12:=ac (eB hb2 H11.out);have H22:=ac (eB hb2 H21.out);have HSZ2:=ac hb2.size
    clear hri hb2 hfr HPL HW1 HC1 H11 H21))
 have hrl:=HLE.out
 have hPl2:=HPL2.out.1
 generalize hvs:lA s.d=vs at*
 generalize hps:gN m t.d=ps at*
 have HE1:Hid (fe1=mM K (CZ vs ps) fe 14):=by rw[Hid,HFE.out,KJ,hvs,hps]
 clear hvs hps HFE hPl2
 have hvl:=HRI.out.2.1
 have HRN:Hid (∀q o,ra=some ⟨q,o,none⟩->¬WT g b q):=λq o e h=>by
  have h1:=HFR.out q o none e;have h2:=HSZ1.out;rcases h with h|h<;>omega
 have HL12:=(am.1 H12.out).1
 have HL22:=(am.1 H22.out).1
 have HZL:Hid ((CZ vs ps).length=vs.length):=by rw[Hid,CZ,List.length_zip];omega
 clear HFR HSZ1 HSZ2
 go_loopw [7,8,23] (λ_ _ i wr=>∃k,k<=vs.length/\i=.int .i64 (k:Nat)/\Hid (WS m a1 n1 c1 a2 n2 c2 U g b K (mM K ((CZ vs ps).take k) fe 14) wr)/\Hid (Chg (WT g b) w2 wr)) (λ_ _ i _=>vs.length-(intOf i).toNat)
 case atStart=>exact⟨0,by omega,rfl,by rw[Hid,aq];exact HW2.out,Chg.refl _ _⟩
 case round=>
  obtain⟨k,hk,rfl,HKr,HCr⟩:=hrel;by_cases hkl:k<vs.length
  .obtain⟨q,o,rfl,hcv,hvi⟩:=(iw HRI.out HCr.out HRN.out).2.2 k hkl;have hkp:k<ps.length:=by omega
   obtain⟨p,q2,o2,hp,rfl,d0,d1⟩:=gK (ip HW2.out HPL2.out HCr.out) hkp;have hz:(CZ vs ps)[k]? =some (vs.getD k 0,p):=by
    rw[CZ,List.getElem?_zip_eq_some];exact⟨by rw[au hkl,ax,au hkl];rfl,hp⟩
   have HZ:=ac hz;have hk1:(k:Int)<(vs.length:Int):=by omega
   have hk2:(k:Int)<(ps.length:Int):=by omega
   obtain⟨hv1,hv2⟩:=hvi;clear hz hp;generalize vs.getD k 0=v at *;obtain⟨ps1,ps2⟩:=p
   go_wp2_with (
    (go_at_call 65
     refine(yB m a1 a2 n1 c1 n2 c2 U g b K (mM K ((CZ vs ps).take k) fe 14) 14 v (ps1,ps2) wr HKr.out).mono ?_;rintro e w3 ⟨rfl,hs3,hc3⟩
     have HS3:Hid (WS m a1 n1 c1 a2 n2 c2 U g b K (mM K ((CZ vs ps).take (k+1)) fe 14) w3):=(by
      have e:(CZ vs ps).take (k+1)=(CZ vs ps).take k++ [(v,ps1,ps2)]:=(by rw[bo,HZ.out];rfl)
      rw[Hid,e,BP]
      exact hs3)
     have HC3:=ac (HCr.out.trans hc3)
     clear hs3 hc3))
   go_roundw
   case rel=>exact⟨k+1,by omega,by go_num,HS3,HC3⟩
   case measure=>simp[intOf];omega
  .obtain rfl:k=vs.length:=by omega
   have HK3:Hid (WS m a1 n1 c1 a2 n2 c2 U g b K fe1 wr):=by
    have:=HKr.out;rw[<-HZL.out,cg] at this;rw[Hid,HE1.out];exact this
   have HC3:Hid (Chg (WT g b) w wr):=HC2.out.trans HCr.out;have H13:Hid (wr.heap[w.heap.size]? =some (kY s.d s.aa s.na s.ca)):=(HCr.out.block _ HL12 HN1.out).trans H12.out;have H23:Hid (wr.heap[w.heap.size+1]? =some (kY t.d t.aa t.na t.ca)):=(HCr.out.block _ HL22 HN2.out).trans H22.out;clear HKr HCr HRI HPL2 HW2 HC2 H12 H22 HZL HE1 HRN;obtain⟨w3,rfl⟩:∃w3,w3=wr:=⟨_,rfl⟩
   have i0:=jz H13.out;have hl13:=(am.1 H13.out).1
   go_upto_if 38 with (fail)
   obtain⟨K1,hK1⟩:∃x,x=(if s.d.op=13 then pQ K (xJ m) else K):=⟨_,rfl⟩
   have HK1:=ac hK1;clear hK1
   go_cut [] (λwx=>Hid (WS m a1 n1 c1 a2 n2 c2 U g b K1 fe1 wx)/\Hid (Chg (λk=>k=b) w3 wx))
   case first=>
    by_cases h13:s.d.op=13
    .have HE:Hid (K1=pQ K (xJ m)):=by rw[Hid,HK1.out,aX h13]
     have hb13:(s.d.op==13)=true:=by simpa using h13
     clear h13 HK1;obtain⟨j0,j1,j2,j3,j4,_⟩:=HK3.out.cells
     go_wp2_with (
      (go_at_call 66
       refine(im m a1 a2 n1 c1 n2 c2 w3 (HM.out.ext (HG.out _ HC3.out))).mono ?_;rintro e w4 ⟨la4,lc4,rfl,hlc4,hil4,hb4⟩;have HIL:=ac hil4;have HK4:=ac (HK3.out.ext hb4);have HC4:Hid (Chg (λk=>k=b) w3 w4):=((Chg.refl _ _).of_ext hb4)
       clear hil4 hb4 j0 j1 j2 j3 j4 i0))
     have hll:=HIL.out.2.1;generalize hlm:xJ m=ls at *;clear hlm
     go_loopw [10,45] (λ_ i wr=>∃j,j<=ls.length/\i=.int .i64 (j:Nat)/\Hid (WS m a1 n1 c1 a2 n2 c2 U g b (pQ K (ls.take j)) fe1 wr)/\Hid (Chg (λk=>k=b) w4 wr)) (λ_ i _=>ls.length-(intOf i).toNat)
     case atStart=>exact⟨0,by omega,rfl,HK4.out.congr λy=>by simp[pQ],Chg.refl _ _⟩
     case round=>
      obtain⟨j,hj,rfl,HKr,HCr⟩:=hrel;by_cases hjl:j<ls.length
      .obtain⟨q,o,rfl,hcv,hvi⟩:=(by
        obtain⟨_,L,hS,_⟩:=HK4.out
        exact(TB hS HIL.out HCr.out).2.2 j hjl:∃q o,la4=some ⟨q,o,none⟩/\wr.cell? ⟨q,o+j,none⟩=some (.int .i64 (ls.getD j 0))/\I64 (ls.getD j 0))
       have hk1:(j:Int)<(ls.length:Int):=by omega
       have HX:Hid (ls.take (j+1)=ls.take j++ [ls.getD j 0]):=DF ls j 0 hjl;generalize ls.getD j 0=r at *;clear hvi;go_upto_region 11 with (fail)
       have hne:Nonempty (eH wr):=⟨⟨wr,ao _ _⟩⟩
       have g0:∀n:eH wr,n.val.cell? ⟨g,0,none⟩=some (.map (some b)):=λn=>eH.cell HKr.out.cells.1 n;refine gJ (λw'=>∃n':eH wr,w'=n'.val) [(0,10,some (10,true)),(11,0,some (11,false))] (by kernel_rfl) (by kernel_rfl) ⟨⟨_,eS (ao _ _) 1⟩,rfl⟩ ?_;simp only[lR,ak,aq,aj,ap]
       repeat (go_big_quiet_step (fail))
       refine ar ?_;refine eE rfl rfl ?_;go_simp;refine(CY m a1 a2 n1 c1 n2 c2 U hU g b _ fe1 (false,r) wr.drew HKr.out).mono ?_;rintro e w5 ⟨vl5,Out5,rfl,ho5,hn5,hm5,hb5⟩;have hb5:Below wr.heap.size wr w5:=jV hb5;refine⟨⟨⟨w5,hb5⟩,rfl⟩,?_⟩;obtain⟨av5,cv5,rfl⟩:=ho5.form;refine ar ?_;refine eE rfl rfl ?_;go_simp;refine(pI m a1 a2 n1 c1 n2 c2 U g b _ fe1 av5 _ cv5 Out5 w5 (HKr.out.ext hb5) (ho5.recs fO)).mono ?_;rintro e w6 ⟨rfl,hs6,hc6⟩;have HK6:Hid (WS m a1 n1 c1 a2 n2 c2 U g b (pQ K (ls.take (j+1))) fe1 w6):=by
        refine hs6.congr λy=>?_;rw[HX.out];exact SP K _ r Out5 hm5 y
       have HC6:Hid (Chg (λk=>k=b) w4 w6):=(HCr.out.of_ext hb5).trans hc6;clear ho5 hn5 hm5 hb5 hs6 hc6 g0 hne hcv;refine bQ ?_;go_wp2
       go_roundw
       case rel=>exact⟨j+1,by omega,by go_num,HK6,HC6⟩
       case measure=>simp[intOf];omega
      .obtain rfl:j=ls.length:=by omega
       go_wp2
       go_meet
       refine⟨?_,HC4.out.trans HCr.out⟩;have:=HKr.out;rw[cg] at this;rw[Hid,HE.out];exact this
    .have HE:Hid (K1=K):=by rw[Hid,HK1.out,aC h13]
     have hb13:(s.d.op==13)=false:=by simpa using h13
     clear h13;go_wp2
     go_meet
     exact⟨by rw[Hid,HE.out];exact HK3.out,Chg.refl _ _⟩
   case rest=>
    obtain⟨HK4,HC4⟩:=hcut;obtain⟨w4,rfl⟩:∃w4,w4=wc:=⟨_,rfl⟩
    have HC4w:Hid (Chg (WT g b) w w4):=HC3.out.trans (HC4.out.mono λk hk=>.inr hk);have H14:Hid (w4.heap[w.heap.size]? =some (kY s.d s.aa s.na s.ca)):=(HC4.out.block _ hl13 (λh=>HN1.out (.inr h))).trans H13.out;have H24:Hid (w4.heap[w.heap.size+1]? =some (kY t.d t.aa t.na t.ca)):=(HC4.out.block _ (am.1 H23.out).1 (λh=>HN2.out (.inr h))).trans H23.out;clear HC4 HC3 H13 H23 HK3 i0 hl13;obtain⟨v,hv⟩:∃v,v=oB s.d:=⟨_,rfl⟩
    have HVE:=ac hv;have HVV2:Hid (0<v->v∈U.V):=by rw[Hid,hv];exact HVV.out
    have HDF:Hid (Calls Tryz.prog 67 #[qB s] w4 λe w'=>e=.returned (.int .i64 v)/\Below w4.heap.size w4 w'):=by
     rw[Hid,hv];exact QJ s.d s.aa s.na s.ca w4 ((HS.out.ext (HG.out _ HC4w.out)).1) HS.out.2.2.2.2.1 HS.out.2.2.2.2.2.1 HS.out.2.2.2.2.2.2.1 HS.out.2.2.2.2.2.2.2.1
    clear hv HVV
    go_upto_if 65 with (first
     |((with_reducible show wpList _ _ _ (⟨some 62,_,_,_,_,_⟩ :: _) _ _);refine ay (o:=⟨some 62,.load 62 _,_,_,_,_⟩) rfl 62 _ rfl w.heap.size rfl 62 _ (0,0) _ H14.out bT rfl pB ?_)
     |(go_at_call 67
       refine HDF.out.mono ?_;rintro e w5 ⟨rfl,hb5⟩;have HK5:=ac (HK4.out.ext hb5);have HC5:=ac (HC4w.out.of_ext hb5);have H25:=ac (eB hb5 H24.out)
       clear hb5))
    clear HK4 HC4w H14 H24 HDF;have HL25:=(am.1 H25.out).1;obtain⟨K2,hK2⟩:∃x,x=RB K1 v:=⟨_,rfl⟩
    have HK2:=ac hK2;clear hK2
    go_cut [] (λwx=>Hid (WS m a1 n1 c1 a2 n2 c2 U g b K2 fe1 wx)/\Hid (Chg (λk=>k=b) w5 wx))
    case first=>
     by_cases hv0:0<v
     .have hb:decide (0<v)=true:=by simpa using hv0
      go_upto_region 15 with (fail)
      have hne:Nonempty (eH w5):=⟨⟨w5,ao _ _⟩⟩
      have g0:∀n:eH w5,n.val.cell? ⟨g,0,none⟩=some (.map (some b)):=λn=>eH.cell HK5.out.cells.1 n;refine gJ (λw'=>∃n':eH w5,w'=n'.val) [(0,9,some (9,true)),(10,0,some (10,false))] (by kernel_rfl) (by kernel_rfl) ⟨⟨_,eS (ao _ _) 1⟩,rfl⟩ ?_;simp only[lR,ak,aq,aj,ap]
      repeat (go_big_quiet_step (fail))
      refine ar ?_;refine eE rfl rfl ?_;go_simp;refine(KV m a1 a2 n1 c1 n2 c2 U hU g b K1 fe1 v w5.drew HK5.out).mono ?_;rintro e w6 ⟨vl6,Out6,rfl,ho6,hn6,hm6,hb6⟩;have hb6:Below w5.heap.size w5 w6:=jV hb6;refine⟨⟨⟨w6,hb6⟩,rfl⟩,?_⟩;obtain⟨av6,cv6,rfl⟩:=ho6.form;refine ar ?_;refine eE rfl rfl ?_;go_simp;refine(pI m a1 a2 n1 c1 n2 c2 U g b K1 fe1 av6 _ cv6 Out6 w6 (HK5.out.ext hb6) (ho6.recs fO)).mono ?_;rintro e w7 ⟨rfl,hs7,hc7⟩;have HK7:Hid (WS m a1 n1 c1 a2 n2 c2 U g b K2 fe1 w7):=hs7.congr λy=>by rw[HK2.out];exact YP K1 v hv0 Out6 hm6 y
      have HC7:Hid (Chg (λk=>k=b) w5 w7):=((Chg.refl _ _).of_ext hb6).trans hc7;clear ho6 hn6 hm6 hb6 hs7 hc7 g0 hne;refine bQ ?_;go_wp2
      go_meet
      exact⟨HK7,HC7⟩
     .have hb:decide (0<v)=false:=by simpa using hv0
      have HK7:Hid (WS m a1 n1 c1 a2 n2 c2 U g b K2 fe1 w5):=HK5.out.congr λy=>by rw[HK2.out];exact YQ K1 v hv0 y
      go_wp2
      go_meet
      exact⟨HK7,Chg.refl _ _⟩
    case rest=>
     obtain⟨HK6,HC6⟩:=hcut;obtain⟨w6,rfl⟩:∃w6,w6=wc:=⟨_,rfl⟩
     have HC6w:Hid (Chg (WT g b) w w6):=HC5.out.trans (HC6.out.mono λk hk=>.inr hk);have H26:Hid (w6.heap[w.heap.size+1]? =some (kY t.d t.aa t.na t.ca)):=(HC6.out.block _ HL25 (λh=>HN2.out (.inr h))).trans H25.out;have HE9:Hid (K9=tN v (fU m t.d) K2):=by rw[Hid,HK9.out,BC,HK2.out,HK1.out,HVE.out]
     clear HC6 HC5 H25 HL25 HK5 HK9 HK2 HK1 HVE;go_upto_region 16 with (fail)
     have hne:Nonempty (eH w6):=⟨⟨w6,ao _ _⟩⟩
     have k1:∀n:eH w6,n.val.cell? ⟨g,1,none⟩=some (.int .i64 m.regs):=λn=>eH.cell HK6.out.cells.2.1 n;have k2:∀n:eH w6,n.val.cell? ⟨g,2,none⟩=some (.slice a1 n1 c1):=λn=>eH.cell HK6.out.cells.2.2.1 n;have k3:∀n:eH w6,n.val.cell? ⟨g,3,none⟩=some (.int .i64 m.ret):=λn=>eH.cell HK6.out.cells.2.2.2.1 n;have k4:∀n:eH w6,n.val.cell? ⟨g,4,none⟩=some (.slice a2 n2 c2):=λn=>eH.cell HK6.out.cells.2.2.2.2.1 n;have k5:∀w',(∃n:eH w6,w'=n.val)->w'.heap[w.heap.size+1]? =some (kY t.d t.aa t.na t.ca):=λw' ⟨n,e⟩=>by rw[e];exact eB n.ext H26.out
     refine gJ (λw'=>∃n':eH w6,w'=n'.val) [(0,5,none),(7,1,some (5,true)),(6,1,none)] (by kernel_rfl) (by kernel_rfl) ⟨⟨_,eS (ao _ _) 1⟩,rfl⟩ ?_;simp only[lR,ak,aq,aj,ap]
     repeat (first
      |(refine eP (o:=⟨some 81,.load 62 _,_,_,_,_⟩) (by rfl) 62 _ rfl (w.heap.size+1) rfl 62 _ (0,0) _ k5 bT rfl pB ?_;simp only[Act.put,ae,ah,ag])
      |refine ar ?_
      |go_big_quiet_step (fail))
     refine eE rfl rfl ?_;go_simp;refine(RP m t.d a1 a2 t.aa n1 c1 n2 c2 t.na t.ca w6.drew HM.out.2.2.2.2.2.2.2 HT.out.2.2.2.1).mono ?_;rintro e w7 ⟨la7,lc7,rfl,hl7,hb7⟩;have hb7:Below w6.heap.size w6 w7:=jV hb7;refine⟨⟨⟨w7,hb7⟩,rfl⟩,?_⟩;have HPL:=ac hl7;have HK7:=ac (HK6.out.ext hb7);have HC7:=ac (HC6w.out.of_ext hb7);generalize hws:fU m t.d=ws at *;clear hws
     try simp only[Act.put,ae,ah,ag]
     repeat (go_big_quiet_step (fail))
     refine ar ?_;refine bQ ?_;clear hl7 hb7 k1 k2 k3 k4 k5 hne HK6 HC6w H26;have hwl:=HPL.out.2.1;go_wp2
     go_loopw [13,84] (λ_ i wr=>∃j,j<=ws.length/\i=.int .i64 (j:Nat)/\Hid (WS m a1 n1 c1 a2 n2 c2 U g b (tN v (ws.take j) K2) fe1 wr)/\Hid (Chg (λk=>k=b) w7 wr)) (λ_ i _=>ws.length-(intOf i).toNat)
     case atStart=>exact⟨0,by omega,rfl,HK7,Chg.refl _ _⟩
     case round=>
      obtain⟨j,hj,rfl,HKr,HCr⟩:=hrel;by_cases hjl:j<ws.length
      .obtain⟨p,q,o,hp,rfl,d0,d1⟩:=(by
        obtain⟨_,L,hS,_⟩:=HK7.out
        exact gK (SQ hS HPL.out HCr.out) hjl:∃r b o,ws[j]? =some r/\la7=some ⟨b,o,none⟩/\wr.cell? ⟨b,o+j*2,none⟩=some (.bool r.1)/\wr.cell? ⟨b,o+j*2+1,none⟩=some (.int .i64 r.2))
       have hk1:(j:Int)<(ws.length:Int):=by omega
       have HX:Hid (tN v (ws.take (j+1)) K2=GD v (tN v (ws.take j) K2) p):=by
        have e:ws.take (j+1)=ws.take j++ [p]:=by rw[bo,hp];rfl
        rw[Hid,e,SF]
       have HPU:=ac (HPP.out p (aK hp));generalize hK4:tN v (ws.take (j+1)) K2=K4 at *;have HX4:=ac hK4;clear hK4;generalize tN v (ws.take j) K2=K3 at *;obtain⟨ps1,ps2⟩:=p;clear hp;go_upto_region 19 with (fail)
       obtain⟨w8,hw8⟩:∃w8,w8=wr.alloc (gW (ps1,ps2)):=⟨_,rfl⟩
       rw[show wr.alloc (Obj.cells #[.bool ps1,.int .i64 ps2] 42)=w8 from hw8.symm];have hb8:Below wr.heap.size wr w8:=by rw[hw8];exact eC _ _
       have hx8:w8.heap[wr.heap.size]? =some (gW (ps1,ps2)):=by rw[hw8];exact ai _ _
       have HK8:=ac (HKr.out.ext hb8);have HC8:Hid (Chg (λk=>k=b) w7 w8):=HCr.out.of_ext hb8;have HX8:=ac hx8;have hlr:wr.heap.size<w8.heap.size:=(am.1 hx8).1;have HBR:Hid (b<wr.heap.size):=HKr.out.lt.2.1;clear hw8 hb8 hx8 d0 d1 HKr HCr;have hne:Nonempty (eH w8):=⟨⟨w8,ao _ _⟩⟩
       have g0:∀n:eH w8,n.val.cell? ⟨g,0,none⟩=some (.map (some b)):=λn=>eH.cell HK8.out.cells.1 n;have g1:∀n:eH w8,n.val.cell? ⟨wr.heap.size,0,none⟩=some (.bool ps1):=λn=>cR (eB n.ext HX8.out) rfl;have g2:∀n:eH w8,n.val.cell? ⟨wr.heap.size,1,none⟩=some (.int .i64 ps2):=λn=>cR (eB n.ext HX8.out) rfl;refine gJ (λw'=>∃n':eH w8,w'=n'.val) [(0,9,some (9,true)),(10,0,some (10,false))] (by kernel_rfl) (by kernel_rfl) ⟨⟨_,eS (ao _ _) 1⟩,rfl⟩ ?_;simp only[lR,ak,aq,aj,ap]
       repeat (go_big_quiet_step (fail))
       refine ar ?_;refine eE rfl rfl ?_;go_simp;refine(CY m a1 a2 n1 c1 n2 c2 U hU g b K3 fe1 (ps1,ps2) w8.drew HK8.out).mono ?_;rintro e w9 ⟨vl9,Out9,rfl,ho9,hn9,hm9,hb9⟩;have hb9:Below w8.heap.size w8 w9:=jV hb9;refine⟨⟨⟨w9,hb9⟩,rfl⟩,?_⟩;obtain⟨av9,cv9,rfl⟩:=ho9.form;refine ar ?_;refine eE rfl rfl ?_;go_simp;refine(pI m a1 a2 n1 c1 n2 c2 U g b K3 fe1 av9 _ cv9 Out9 w9 (HK8.out.ext hb9) (ho9.recs fO)).mono ?_;rintro e w10 ⟨rfl,hs10,hc10⟩;have HK10:Hid (WS m a1 n1 c1 a2 n2 c2 U g b (sO K3 Out9) fe1 w10):=hs10;have HC10:Hid (Chg (λk=>k=b) w7 w10):=(HC8.out.of_ext hb9).trans hc10;have HX10:Hid (w10.heap[wr.heap.size]? =some (gW (ps1,ps2))):=(hc10.block _ (cZ hlr hb9.size) (λh=>by have:=HBR.out;omega)).trans (eB hb9 HX8.out);have HM9:=ac hm9;clear ho9 hn9 hm9 hb9 hs10 hc10 g0 g1 g2 hne HX8 HC8 HK8 hlr;refine bQ ?_;by_cases hv0:0<v
       .have hbv:decide (0<v)=true:=by simpa using hv0
        go_upto_region 21 with (fail)
        have hne:Nonempty (eH w10):=⟨⟨w10,ao _ _⟩⟩
        have g0:∀n:eH w10,n.val.cell? ⟨g,0,none⟩=some (.map (some b)):=λn=>eH.cell HK10.out.cells.1 n;have g1:∀n:eH w10,n.val.cell? ⟨wr.heap.size,0,none⟩=some (.bool ps1):=λn=>cR (eB n.ext HX10.out) rfl;have g2:∀n:eH w10,n.val.cell? ⟨wr.heap.size,1,none⟩=some (.int .i64 ps2):=λn=>cR (eB n.ext HX10.out) rfl;refine gJ (λw'=>∃n':eH w10,w'=n'.val) [(0,7,some (7,false))] (by kernel_rfl) (by kernel_rfl) ⟨⟨_,eS (ao _ _) 1⟩,rfl⟩ ?_;simp only[lR,ak,aq,aj,ap]
        repeat (go_big_quiet_step (fail))
        refine ar ?_;refine eE rfl rfl ?_;obtain⟨_,L,hS,hm',hD⟩:=HK10.out;refine KU _ _ _ rfl VN zU (show mJ w10.drew b L from hS) rfl (v,ps1,ps2) rfl rfl ?_;intro w11 L11 hs11 hm11 hg11 hz11;have hg11:w10.grownBy w11 (some b):=⟨hg11.os,hg11.tape,hg11.output,hg11.size,hg11.block⟩
        have HK11:Hid (WS m a1 n1 c1 a2 n2 c2 U g b K4 fe1 w11):=HK10.out.put hm' hD hs11 hm11 ⟨HVV2.out hv0,HPU.out⟩ hg11 λy=>by rw[HX.out];exact XA K3 v hv0 (ps1,ps2) Out9 HM9.out y
        have HC11:Hid (Chg (λk=>k=b) w7 w11):=HC10.out.grown hg11 λj e=>by injection e with e;exact .inl e.symm
        clear hS hm' hD hs11 hm11 hg11 hz11 g0 g1 g2 hne
        try simp only[Act.put,ae,ah,ag]
        refine bQ ?_;go_wp2
        go_roundw
        case rel=>exact⟨j+1,by omega,by go_num,by rw[Hid,HX4.out];exact HK11.out,HC11⟩
        case measure=>simp[intOf];omega
       .have hbv:decide (0<v)=false:=by simpa using hv0
        have HK11:Hid (WS m a1 n1 c1 a2 n2 c2 U g b K4 fe1 w10):=HK10.out.congr λy=>by rw[HX.out];exact XB K3 v hv0 (ps1,ps2) Out9 HM9.out y
        go_wp2
        go_roundw
        case rel=>exact⟨j+1,by omega,by go_num,by rw[Hid,HX4.out];exact HK11.out,HC10⟩
        case measure=>simp[intOf];omega
      .obtain rfl:j=ws.length:=by omega
       go_wp2
       go_end0
       refine⟨rfl,?_,HC7.out.trans (HCr.out.mono λk hk=>.inr hk)⟩;have:=HKr.out;rw[cg] at this;rw[HE9.out];exact this
end

section
open Go.RowKit
abbrev KF:=(Fct->Bool)×Int
noncomputable def AZ (m:eY) (x:KF) (r:fW):KF:=(uC (MW (gN m r.d)) (MW (fU m r.d)) x.1,atV x.1 (MW (gN m r.d)) x.2)
noncomputable def pL (m:eY) (l:List fW) (x:KF):KF:=l.foldl (AZ m) x
abbrev o5(g:Nat):Obj:=.cells #[.pointer (some ⟨g,0,none⟩)] 65
abbrev nj(k:Nat):Obj:=.cells #[.int .i64 (k:Int)] 3
def WJ(m:eY)(a1:Option Addr)(n1 c1:Nat)(a2:Option Addr)(n2 c2:Nat)(U:lT)(g b:Nat)(t:mP)(ta:Option Addr)(nt ct:Nat)(pt p9 p10 k:Nat)(x:KF)(W:World):Prop:=
 W.heap[pt]? =some (pK t ta nt ct)/\W.heap[p9]? =some (o5 g)/\W.heap[p10]? =some (nj k)/\WS m a1 n1 c1 a2 n2 c2 U g b x.1 x.2 W
def WU(g b p10:Nat)(k:Nat):Prop:=k=p10\/WT g b k
section
variable {m:eY} {a1:Option Addr} {n1 c1:Nat} {a2:Option Addr} {n2 c2:Nat} {U:lT} {g b:Nat} {t:mP} {ta:Option Addr} {nt ct pt p9 p10 k:Nat} {x:KF} {W W':World}
theorem WJ.ext(h:WJ m a1 n1 c1 a2 n2 c2 U g b t ta nt ct pt p9 p10 k x W)(hb:Below W.heap.size W W'):WJ m a1 n1 c1 a2 n2 c2 U g b t ta nt ct pt p9 p10 k x W':=
 ⟨eB hb h.1,eB hb h.2.1,eB hb h.2.2.1,h.2.2.2.ext hb⟩
theorem WJ.ne(h:WJ m a1 n1 c1 a2 n2 c2 U g b t ta nt ct pt p9 p10 k x W):pt≠p10/\p9≠p10/\¬WT g b pt/\¬WT g b p9/\¬WT g b p10:=by
 obtain⟨h1,h2,h3,h4,L,⟨es,c,h5,_⟩,_⟩:=h
 refine⟨λe=>?_,λe=>?_,?_,?_,?_⟩
 .rw[e,h3] at h1;cases h1
 .rw[e,h3] at h2;cases h2
 .rintro(e|e)
  .rw[e,h4] at h1;cases h1
  .rw[e,h5] at h1;cases h1
 .rintro(e|e)
  .rw[e,h4] at h2;cases h2
  .rw[e,h5] at h2;cases h2
 .rintro(e|e)
  .rw[e,h4] at h3;cases h3
  .rw[e,h5] at h3;cases h3
theorem WJ.step(h:WJ m a1 n1 c1 a2 n2 c2 U g b t ta nt ct pt p9 p10 k x W){x':KF}(hs:WS m a1 n1 c1 a2 n2 c2 U g b x'.1 x'.2 W')(hc:Chg (WT g b) W W'):WJ m a1 n1 c1 a2 n2 c2 U g b t ta nt ct pt p9 p10 k x' W':=by
 obtain⟨_,_,n3,n4,n5⟩:=h.ne
 have lt:∀{q:Nat} {o:Obj},W.heap[q]? =some o->q<W.heap.size:=λh=>(am.1 h).1
 exact⟨(hc.block _ (lt h.1) n3).trans h.1,(hc.block _ (lt h.2.1) n4).trans h.2.1,(hc.block _ (lt h.2.2.1) n5).trans h.2.2.1,hs⟩
theorem WJ.next(h:WJ m a1 n1 c1 a2 n2 c2 U g b t ta nt ct pt p9 p10 k x W)(k':Nat):WJ m a1 n1 c1 a2 n2 c2 U g b t ta nt ct pt p9 p10 k' x (W.setCell ⟨p10,0,none⟩ (.int .i64 (k':Int))):=by
 obtain⟨n1,n2,n3,n4,n5⟩:=h.ne
 refine⟨(dE _ _ _ _ n1).trans h.1,(dE _ _ _ _ n2).trans h.2.1,aO _ _ 0 _ _ _ h.2.2.1,?_,?_⟩
 .exact(dE _ _ _ _ (λe=>n5 (.inl e.symm))).trans h.2.2.2.1
 .obtain⟨L,h1,h2⟩:=h.2.2.2.2;exact⟨L,h1.setCell _ _,h2⟩
end
theorem iy(r:fW)(h:eQ r=true):hZ r.d.op=3\/hZ r.d.op=18\/hZ r.d.op=17:=AO r h
theorem IL(m:eY)(a1 a2:Option Addr)(n1 c1 n2 c2:Nat)(U:lT)(hU:U.ok)(g b:Nat)(t:mP)(ta:Option Addr)(nt ct pt p9 p10 k0:Nat)(x0:KF)(w0 w:World)(hm:lB w0 m a1 n1 c1 a2 n2 c2)(ht:oH w0 t ta nt ct)(hb0:Below w0.heap.size w0 w)
  (hg0:w0.heap.size<=g) (hbb0:w0.heap.size<=b) (hp0:w0.heap.size<=p10) (hk0:k0<=nt) (hJ:WJ m a1 n1 c1 a2 n2 c2 U g b t ta nt ct pt p9 p10 k0 x0 w) (hP:∀r∈t.ins,eQ r=true->MW (fU m r.d)∈U.P):
  Calls Tryz.prog 33 #[.pointer (some ⟨p10,0,none⟩),.pointer (some ⟨pt,0,none⟩),.pointer (some ⟨p9,0,none⟩)] w
   λe w'=>e=.returned (.tuple #[])/\WJ m a1 n1 c1 a2 n2 c2 U g b t ta nt ct pt p9 p10 (k0+((t.ins.drop k0).takeWhile eQ).length) (pL m ((t.ins.drop k0).takeWhile eQ) x0) w'/\Chg (WU g b p10) w w':=by
 have HG:Hid (∀W,Chg (WU g b p10) w W->Below w0.heap.size w0 W):=λW hc=>hb0.trans (hc.below hb0.size (λk hk=>by rcases hk with rfl|rfl|rfl<;>assumption))
 have HM:=ac hm
 have HT:=ac ht
 have HJ:=ac hJ
 have HPP:=ac hP
 have HLt:=ac ht.1.1.1
 have q3:=ht.2.1
 clear hm ht hJ hP hb0
 go_enter Tryz.func33,Tryz.ntmps33
 go_wp2
 go_loopg [3] nt (λgg _ wr=>∃(k:Nat) (x:KF),k<=nt/\k0<=k/\nt-k<=gg/\Hid (WJ m a1 n1 c1 a2 n2 c2 U g b t ta nt ct pt p9 p10 k x wr)/\Hid (k0+((t.ins.drop k0).takeWhile eQ).length=k+((t.ins.drop k).takeWhile eQ).length)/\Hid (pL m ((t.ins.drop k0).takeWhile eQ) x0=pL m ((t.ins.drop k).takeWhile eQ) x)/\Hid (Chg (WU g b p10) w wr))
 case atStart=>exact⟨k0,x0,hk0,aw _,by omega,HJ,rfl,rfl,Chg.refl _ _⟩
 case round=>
  obtain⟨k,x,hk,hkk,hgg,HE,HN,HL,HC⟩:=hrel;obtain⟨b1,b2,b3,b4⟩:=HE.out;have x0':=cK 0 b3 rfl;have t0:=cK 0 b1 rfl;have HB2:=ac b2;have HB7:=ac (HG.out _ HC.out);clear b1 b2 b3 b4;by_cases hlt:k<nt
  .obtain⟨r,q,o,hr,hok,rfl,g0,g1,g2,g3,g4,g5,g6,g7⟩:=((HT.out.1.ext HB7.out)).cells hlt;cases hq:eQ r with
   |false=>
    have hI:QY r.d.op=false:=hq;have HE0:Hid (((t.ins.drop k).takeWhile eQ)= []):=by rw[Hid,vN hr];simp[hq]
    clear hr hok
    go_wp2_with (go_at_call 23;refine(tJ _ _).mono ?_;rw[hI];rintro e w' ⟨rfl,rfl⟩)
    go_end0
    refine⟨rfl,?_,HC.out⟩;rw[HN.out,HL.out,HE0.out];exact HE.out
   |true=>
    have hI:QY r.d.op=true:=hq;have hi0:(0:Int)<=(k:Int):=by omega
    have hi1:(k:Int)<(nt:Int):=by omega
    have HGr:=ac hr;have HOK:=ac hok;have HKD:=ac (iy r hq);obtain⟨p1,hp1⟩:=XX m r hq;obtain⟨p2,hp2⟩:=EZ m r hq;have HP1:=ac hp1;have HP2:=ac hp2;have HPU:Hid (p2∈U.P):=by have:=HPP.out r (aK hr) hq;rw[hp2] at this;exact this
    clear hr hok hp1 hp2
    go_wp2_with (go_at_call 23;refine(tJ _ _).mono ?_;rw[hI];rintro e w' ⟨rfl,rfl⟩)
    have kp9:∀n:eH wr,n.val.cell? ⟨p9,0,none⟩=some (.pointer (some ⟨g,0,none⟩)):=λn=>cR (eB n.ext HB2.out) rfl;have kt0:∀n:eH wr,n.val.cell? ⟨pt,0,none⟩=some (.slice (some ⟨q,o,none⟩) nt ct):=λn=>eN n.ext t0;have kx0:∀n:eH wr,n.val.cell? ⟨p10,0,none⟩=some (.int .i64 (k:Int)):=λn=>eN n.ext x0';have kg0:∀n:eH wr,n.val.cell? ⟨q,o+k*8,none⟩=some (.int .i64 r.d.op):=λn=>eN n.ext g0;have kg1:∀n:eH wr,n.val.cell? ⟨q,o+k*8+1,none⟩=some (.int .i64 r.d.dst):=λn=>eN n.ext g1;have kg2:∀n:eH wr,n.val.cell? ⟨q,o+k*8+2,none⟩=some (.int .i64 r.d.a):=λn=>eN n.ext g2;have kg3:∀n:eH wr,n.val.cell? ⟨q,o+k*8+3,none⟩=some (.int .i64 r.d.b):=λn=>eN n.ext g3;have kg4:∀n:eH wr,n.val.cell? ⟨q,o+k*8+4,none⟩=some (.int .i64 r.d.imm):=λn=>eN n.ext g4;have kg5:∀n:eH wr,n.val.cell? ⟨q,o+k*8+5,none⟩=some (.int .i64 r.d.callee):=λn=>eN n.ext g5;have kg6:∀n:eH wr,n.val.cell? ⟨q,o+k*8+6,none⟩=some (.slice r.aa r.na r.ca):=λn=>eN n.ext g6;have kg7:∀n:eH wr,n.val.cell? ⟨q,o+k*8+7,none⟩=some (.int .i64 r.d.many):=λn=>eN n.ext g7;clear x0' t0 g0 g1 g2 g3 g4 g5 g6 g7;refine gJ (λw'=>∃n':eH wr,w'=n'.val) [(0,6,some (6,false))] (by kernel_rfl) (by kernel_rfl) ⟨⟨_,eS (ao _ _) 1⟩,rfl⟩ ?_;simp only[lR,ak,aq,aj,ap]
    repeat (go_big_quiet_step (fail))
    refine ar ?_;refine eE rfl rfl ?_;go_simp;refine(GO m a1 a2 n1 c1 n2 c2 U hU g b x.1 x.2 r p1 p2 wr.drew ((HM.out.ext HB7.out).ext (eS (ao _ _) 1)) (HOK.out.ext (eS (ao _ _) 1)) HKD.out HP1.out HP2.out HE.out.2.2.2 HPU.out).mono ?_;rintro e w3 ⟨rfl,hs3,hc3⟩;have hc3:Chg (WT g b) wr w3:=⟨hc3.os,hc3.tape,hc3.output,hc3.size,hc3.block⟩
    have HE3:Hid (WJ m a1 n1 c1 a2 n2 c2 U g b t (some ⟨q,o,none⟩) nt ct pt p9 p10 k (AZ m x r) w3):=HE.out.step (x':=AZ m x r) (by unfold AZ;rw[HP1.out,HP2.out];exact hs3) hc3;have HC3:Hid (Chg (WU g b p10) w w3):=HC.out.trans (hc3.mono λk hk=>.inr hk);clear hs3 hc3 kp9 kt0 kx0 kg0 kg1 kg2 kg3 kg4 kg5 kg6 kg7 HE HC HB2
    try simp only[Act.put,ae,ah,ag]
    refine bQ ?_;obtain⟨b1,b2,b3,b4⟩:=HE3.out;obtain⟨x4,x5⟩:=cz 0 b3 rfl;clear b1 b2 b3 b4;go_wp2
    go_roundg (nt-(k+1))
    case measure=>omega
    case rel=>
     have hdr:=vN HGr.out;have hat:=HE3.out.next (k+1)
     refine⟨k+1,AZ m x r,by omega,by omega,aw _,?_,?_,?_,HC3.out.setCell (Or.inl (Or.inl rfl)) _⟩
     .rw[show((k+1:Nat):Int)=(k:Int)+1 by omega] at hat;exact hat
     .rw[Hid,HN.out,hdr,List.takeWhile_cons,hq];simp;omega
     .rw[Hid,HL.out,hdr,List.takeWhile_cons,hq];rfl
  .obtain rfl:k=nt:=by omega
   have HE0:Hid (((t.ins.drop k).takeWhile eQ)= []):=by rw[Hid,cO (by rw[HLt.out];omega)];rfl
   go_wp2
   go_end0
   refine⟨rfl,?_,HC.out⟩;rw[HN.out,HL.out,HE0.out];exact HE.out
end

section
open Go.RowKit
theorem FO(b:Nat)(L:List Fct)(w:World)(h:mJ w b L):
  Calls Tryz.prog 32 #[.map (some b)] w λe w'=>e=.returned (.map (some w.heap.size))/\mJ w' w.heap.size L/\Below w.heap.size w w':=by
 obtain⟨es,clock,hb,hc⟩:=h.copy
 have HC:=ac hc
 have hq:=λw=>run_eql_map_nil_sl (P:=Tryz.prog) w 68 _ _ (some b) zU
 clear h hc
 go_enter Tryz.func32,Tryz.ntmps32
 go_wp2
 rw[run_callFunc_extern Tryz.func57 (by kernel_rfl) (by kernel_rfl) (by kernel_rfl) (e:=Extern.MapsClone.clone) (by kernel_rfl),run_maps_clone_sl w 68 hb]
 simp only[Result.andThen]
 rw[Oper.upon_value]
 go_wp2
 rw[run_typeAssert_map_sl _ 68 20 _ _ _ zU]
 simp only[Result.andThen]
 rw[Oper.upon_value]
 go_wp2
 go_ret
 exact⟨rfl,HC.out,eC _ _⟩
end
end Go.Proofs.YtchdkjenhppleaaGreat
