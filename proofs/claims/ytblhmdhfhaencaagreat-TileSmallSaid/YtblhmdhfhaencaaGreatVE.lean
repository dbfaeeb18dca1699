/-
 TileTells:the law's walk. (Printed by gen_tells.py.)
-/
import Derived.Test.YtblhmdhfhaencaaGreatVA
import Derived.Test.YtblhmdhfhaencaaGreatTW
import Derived.Test.YtblhmdhfhaencaaGreatRO
import Derived.Test.YtblhmdhfhaencaaGreatAI2
import Derived.Test.YtblhmdhfhaencaaGreatRU
namespace Go.Proofs.YtblhmdhfhaencaaGreat
set_option linter.unusedSimpArgs false
set_option linter.unusedVariables false
set_option linter.unusedSectionVars false
set_option maxRecDepth 100000
set_option maxHeartbeats 40000000
section
open Go.RowKit Go.Shelf
attribute [local go_sem] Oper.semAt_some cT bM cC bG
def UI(x y z:Value):Nat→Value
 |0=>x
 |1=>y
 |_=>z
def ZU(x y z:Nat):Nat→Nat
 |0=>x
 |1=>y
 |_=>z
theorem oO(f:jE)(hpn:f.pn≤17592186044416)(a:Option Addr)(n c:Nat)(ls:List bK)(k:Int)(hk:I64 k)(w:World)(h:jH w f)(ht:cM w a n ls):
  Calls Tryz.prog 7 #[eO f,.slice a n c,.int .i64 k] w fun e w'=>e=.returned (.bool true)∧Below w.heap.size w w':=by
 have H:=aBO h
 have HT:=aBO ht
 have HKI:=aBO hk
 have HLB:Hid (f.bs.length=f.bn):=h.2.1.1
 clear h ht hk
 go_enter Tryz.func7,Tryz.ntmps7
 go_upto_region 1 with (fail)
 obtain⟨W,hW⟩:∃W,W=w.alloc (bO f.pa f.pn f.pc f.ba f.bn f.bc):=⟨_,rfl⟩
 rw[←hW]
 have hk0:W.heap[w.heap.size]? =some (bO f.pa f.pn f.pc f.ba f.bn f.bc):=by rw[hW];exact aBS _ _
 have hB:Below w.heap.size w W:=by rw[hW];exact aD _ _
 have HK:=aBO hk0
 have HB:=aBO hB
 clear hW hk0 hB
 go_upto_region 3 with (first
  |(refine wpList_load_row (o:=⟨some 15,.load 25 _,_,_,_,_⟩) rfl 25 _ rfl w.heap.size rfl 25 _ (0,0) _ HK.out Tryz.underlying25 rfl aS ?_)
  |(go_at_call 32
    refine(wJ f.pa f.pn f.pc hpn f.ba f.bn f.bc f.bs a n c ls W (H.out.2.ext HB.out) (HT.out.ext HB.out)).mono ?_;rintro e w1 ⟨gb,rfl,hb,hgr⟩;have HK1:=aBO (aB hb HK.out);have HB1:=aBO (aA HB.out hb);have HGR:=aBO hgr;clear hb hgr
    cases gb)
  |(go_at_call 33
    refine(nD w1).mono ?_;rintro e w2 ⟨rfl,hb⟩;have HB2:=aBO (aA HB1.out hb)
    clear hb))
 all_goals first|(go_ret;exact⟨rfl,HB2.out⟩)|skip
 clear HK HB
 obtain⟨_,g0,g1,g2,g3⟩:=HGR.out (by trivial)
 have HNA:Hid (uB f):=KD (bn:=f.bn) rfl rfl HLB.out g1 g2 g3
 have HTOT:Hid (gZ (aJ ls)≤1000000):=by rw[Hid];omega
 have HTB:Hid (gZ (aJ ls)≤120):=by rw[Hid];omega
 have hn90:n≤1000000:=by omega
 have HTNA:Hid (∀r∈ls,kV r):=fun r hr=>by
  have h1:=sX ls r hr;have h2:=(HT.out.2 r hr).1.1;have h3:=HTOT.out;unfold kV;omega
 clear HGR g0 g1 g2 g3
 obtain⟨w0,rfl⟩:∃w0:World,w0=w1:=⟨_,rfl⟩
 go_upto_region 4 with (first
  |(refine wpList_load_row (o:=⟨some 19,.load 25 _,_,_,_,_⟩) rfl 25 _ rfl w.heap.size rfl 25 _ (0,0) _ HK1.out Tryz.underlying25 rfl aS ?_)
  |(go_at_call 11
    refine(wH f w0 (H.out.ext HB1.out) HNA.out).mono ?_;rintro e w2 ⟨r,rfl,hl,hb⟩;have HLF0:=aBO hl;have HRO0:=aBO (hl.ok (H.out.ext (aA HB1.out hb)) HNA.out);have HK2:=aBO (aB hb HK1.out);have HB2:=aBO (aA HB1.out hb)
    clear hl hb)
  |(go_at_call 12
    refine(DE a n c ls w2 (HT.out.ext HB2.out) hn90 HTNA.out).mono ?_;rintro e w2b ⟨tv,rs,rfl,hl,hb⟩
    obtain⟨tg,tc,rfl,hl2⟩:∃tg tc,tv=.slice (some ⟨tg,0,none⟩) n tc∧mK w2b w2.heap.size (.slice (some ⟨tg,0,none⟩) n tc) ls rs:=(by
     obtain⟨tg,tc,e1,h2,h3⟩:=hl;rw[HT.out.1.1] at e1;refine⟨tg,tc,e1,tg,tc,?_,h2,h3⟩
     rw[HT.out.1.1])
    have HLT0:=aBO hl2;have HLFb:=aBO (iO.ext HLF0.out hb);have HROb:=aBO (HRO0.out.ext hb);have HKb:=aBO (aB hb HK2.out);have HBb:=aBO (aA HB2.out hb)
    clear hl hl2 hb HLF0 HRO0 HK2)
  |(refine eC rfl 25 _ _ rfl w2b.heap.size #[.slice r.pa r.pn r.pc,.slice r.ba r.bn r.bc] rfl rfl 25 _ (aBS w2b _) aS rfl (by simp[Value.oneCell']) w2b.heap.size w2b (aD w2b _) (aBV _) ?_
    intro w3 hb3 hx3;have HKI3:=aBO hx3;have HB23:=aBO hb3;have HB3:=aBO (aA HBb.out hb3);have HKF3:=aBO (aB hb3 HKb.out)
    clear hb3 hx3))
 have hokS:=HLT0.out.okS (HT.out.ext HBb.out) hn90 HTNA.out
 have HTS:Hid (aG (hOf r.bs)=aG (hOf f.bs)):=QP HLFb.out.sd.2.2
 have HTD:Hid (aJ rs=aJ ls):=YN hokS.2.2.2.2.2
 have HRN:Hid (r.bn=f.bn):=HLFb.out.sd.2.1
 have HT3:Hid (cM w3 (some ⟨tg,0,none⟩) n rs):=hokS.2.1.ext HB23.out
 have HF3:Hid (dU w3 r.ba r.bn (hOf r.bs)):=(HROb.out.ext HB23.out).2.x.1
 have HFF3:=aBO (H.out.ext HB3.out)
 have HFB3:Hid (dU w3 f.ba f.bn (hOf f.bs)):=HFF3.out.2.x.1
 have HTT3:=aBO (HT.out.ext HB3.out)
 have HLF3:=aBO (iO.ext HLFb.out HB23.out)
 have HLT3:Hid (mK w3 w2.heap.size (.slice (some ⟨tg,0,none⟩) n tc) ls rs):=jD.ext gR HLT0.out HB23.out
 have HTOT2:Hid (gZ (aJ rs)≤1000000):=by rw[Hid,HTD.out];exact HTOT.out
 clear hokS HK1 HB1 HB2 HLT0 HLFb HROb HKb HBb HB23
 go_upto_region 5 with (first
  |(refine wpList_load_row (o:=⟨some 24,.load 25 _,_,_,_,_⟩) rfl 25 _ rfl w2b.heap.size rfl 25 _ (0,0) _ HKI3.out Tryz.underlying25 rfl aS ?_)
  |(go_at_call 37
    refine(VF r.pa r.pn r.pc r.ba r.bn r.bc (hOf r.bs) (some ⟨tg,0,none⟩) n tc rs w3 HF3.out HT3.out).mono ?_;intro e w4 hpost;obtain⟨va,rfl,hb,hg⟩:=hpost.g;rw[HTS.out,HTD.out,HRN.out] at hg;rw[HTS.out,HTD.out,HRN.out];obtain⟨aa,ac,hva⟩:=hg.form;subst hva;have HOA:=aBO hg;have HKI4:=aBO (aB hb HKI3.out);have HKF4:=aBO (aB hb HKF3.out);have HE4:=aBO hb
    clear hpost hb hg))
 go_upto_region 6 with (first
  |(refine wpList_load_row (o:=⟨some 30,.load 25 _,_,_,_,_⟩) rfl 25 _ rfl w.heap.size rfl 25 _ (0,0) _ HKF4.out Tryz.underlying25 rfl aS ?_)
  |(go_at_call 38
    refine(EK f.pa f.pn f.pc f.ba f.bn f.bc (hOf f.bs) a n c ls w4 (HFB3.out.ext HE4.out) (HTT3.out.ext HE4.out) HTOT.out).mono ?_;intro e w5 hpost;obtain⟨vb,rfl,hb,hg⟩:=hpost.g;obtain⟨ba,bc,hvb⟩:=hg.form;subst hvb;have HOB:=aBO hg;have HS5:=aBO hb;have HE5:Hid (Below w3.heap.size w3 w5):=aA HE4.out hb
    clear hpost hb hg))
 go_upto_region 7 with (
  (go_at_call 39
   first
    |(refine(uY (some ⟨tg,0,none⟩) n tc rs k w6 (HT3.out.ext HE6.out) HKI.out HTOT2.out).mono ?_
      rintro e w7 ⟨vd,rfl,ho,hb⟩;rw[HTD.out] at ho;obtain⟨da,dc,hvd⟩:=ho.form;subst hvd;have HOD:=aBO ho;have HS7:=aBO hb;have HE7:Hid (Below w3.heap.size w3 w7):=aA HE6.out hb
      clear ho hb)
    |(refine(uY (some ⟨tg,0,none⟩) n tc rs k w5 (HT3.out.ext HE5.out) HKI.out HTOT2.out).mono ?_
      rintro e w6 ⟨vc,rfl,ho,hb⟩;rw[HTD.out] at ho;obtain⟨ca,cc,hvc⟩:=ho.form;subst hvc;have HOC:=aBO ho;have HS6:=aBO hb;have HE6:Hid (Below w3.heap.size w3 w6):=aA HE5.out hb
      clear ho hb)))
 have HKI6:=aBO (aB HE7.out HKI3.out)
 have HKF6:=aBO (aB HE7.out HKF3.out)
 have HBI:Hid (dU w7 r.ba r.bn (hOf r.bs)):=HF3.out.ext HE7.out
 have HTI:Hid (cM w7 (some ⟨tg,0,none⟩) n rs):=HT3.out.ext HE7.out
 have HBF:Hid (dU w7 f.ba f.bn (hOf f.bs)):=HFB3.out.ext HE7.out
 have HTF:Hid (cM w7 a n ls):=HTT3.out.ext HE7.out
 have HOA7:=aBO (HOA.out.ext (aA HS5.out (aA HS6.out HS7.out)))
 have HOB7:=aBO (HOB.out.ext (aA HS6.out HS7.out))
 have HOC7:=aBO (HOC.out.ext HS7.out)
 obtain⟨fb,hfb⟩:∃b,bU (aG (hOf f.bs))=b:=⟨_,rfl⟩
 obtain⟨rb,hrb⟩:∃b,cZ (aG (hOf f.bs)) (aJ ls)=b:=⟨_,rfl⟩
 obtain⟨en,hen⟩:∃b,XZ (aG (hOf f.bs)) (aJ ls) f.bn=b:=⟨_,rfl⟩
 obtain⟨AO,hAO⟩:∃x,UE (aG (hOf f.bs)) (aJ ls) f.bn=x:=⟨_,rfl⟩
 have HFB:=aBO hfb
 have HRB:=aBO hrb
 rw[hAO] at HOA HOB HOA7 HOB7⊢
 rw[hen]
 obtain⟨al,hal⟩:∃x,AO.length=x:=⟨_,rfl⟩
 obtain⟨cl,hcl⟩:∃x,(fK (aJ ls) k).length=x:=⟨_,rfl⟩
 rw[hal] at HOA HOB HOA7 HOB7⊢
 rw[hcl] at HOC HOD HOC7⊢
 have HIA:Hid (dY w7 aa al AO):=HOA7.out.ints
 have HIB:Hid (dY w7 ba al AO):=HOB7.out.ints
 have HIC:Hid (dY w7 ca cl (fK (aJ ls) k)):=HOC7.out.ints
 have HAL:=aBO hal
 have HCL:=aBO hcl
 have HALb:Hid (al≤1000000):=by
  rw[Hid,←hal,←hAO];unfold UE
  split
  ·rw[vE];exact HNA.out.2.1
  ·simp
 have HCLb:Hid (cl≤1000000):=by
  rw[Hid,←hcl];have h1:=IR (aJ ls) k.toNat (aJ ls).length (aBV _);have h2:=HTB.out;unfold fK
  split
  ·have:=ST (nW (aJ ls) k.toNat (aJ ls).length);omega
  ·simp
 have z3:w3.heap.size≤w4.heap.size:=HE4.out.size
 have z4:w4.heap.size≤w5.heap.size:=HS5.out.size
 have z5:w5.heap.size≤w6.heap.size:=HS6.out.size
 have z6:w6.heap.size≤w7.heap.size:=HS7.out.size
 clear hfb hrb hen hAO hal hcl HOB HOB7 HS5 HKI4 HKF4 HE4 HE5 HE6
 refine dL 45 [some 41,some 42,some 43,some 44,some 45,some 46,some 47,some 48,some 49,some 50,some 51,some 52,some 53,some 54,some 55,some 56,some 57,some 58,some 59,some 60,some 61,some 62,some 63,some 64,some 65,some 66,some 67,some 68,some 69,some 70,some 71,some 72,some 73,some 74,some 75,some 76,some 77,some 78,some 79,some 80,some 81,some 82,some 83,some 84,some 85] (by kernel_rfl) (by kernel_rfl) (dV [.val (eO r),.val (.bool fb),.val (eO f),.val (.bool fb),.val (.bool false),.val (.bool false),.val (eO r),.val (.slice (some ⟨tg,0,none⟩) n tc),.val (.bool rb),.val (eO f),.val (.slice a n c),.val (.bool rb),.val (.bool false),.val (.bool false),.val (.bool false),.val (.int .i64 en),.val (.int .i64 en),.val (.bool false),.val (.bool false),.val (.bool false),.val (.slice aa al ac),.val (.slice ba al bc),.val (.bool true),.val (.bool false),.val (.bool false),.val (.bool false),.val (.slice ca cl cc),.val (.slice a n c),.val (.int .i64 k),(.any fun v lo hi W=>∃a9 c9,v=.slice a9 (fK (aJ ls) k).length c9∧dY W a9 (fK (aJ ls) k).length (fK (aJ ls) k)),.val (.bool true),.val (.bool false),.val (.bool false),.val (.bool false),.val (eO r),.val (.slice (some ⟨tg,0,none⟩) n tc),.val (.int .i64 k),(.any fun v lo hi W=>∃a9 c9,v=.slice a9 (CY (aG (hOf f.bs)) (aJ ls) k).length c9∧dY W a9 (CY (aG (hOf f.bs)) (aJ ls) k).length (CY (aG (hOf f.bs)) (aJ ls) k)),.val (eO f),.val (.slice a n c),.val (.int .i64 k),(.any fun v lo hi W=>∃a9 c9,v=.slice a9 (CY (aG (hOf f.bs)) (aJ ls) k).length c9∧dY W a9 (CY (aG (hOf f.bs)) (aJ ls) k).length (CY (aG (hOf f.bs)) (aJ ls) k)),.val (.bool true),.val (.bool false),.val (.bool false)]) (dN ?_) ?_ ?_
 ·intro k hk;simp only[List.mem_cons,List.not_mem_nil,or_false] at hk;rcases hk with rfl|rfl|rfl|rfl|rfl|rfl|rfl|rfl|rfl|rfl|rfl|rfl|rfl|rfl|rfl|rfl|rfl|rfl|rfl|rfl|rfl|rfl|rfl|rfl|rfl|rfl|rfl|rfl|rfl|rfl|rfl|rfl|rfl|rfl|rfl|rfl|rfl|rfl|rfl|rfl|rfl|rfl|rfl|rfl|rfl
  ·exact trivial
  ·exact trivial
  ·exact trivial
  ·exact trivial
  ·exact trivial
  ·exact trivial
  ·exact trivial
  ·exact trivial
  ·exact trivial
  ·exact trivial
  ·exact trivial
  ·exact trivial
  ·exact trivial
  ·exact trivial
  ·exact trivial
  ·exact trivial
  ·exact trivial
  ·exact trivial
  ·exact trivial
  ·exact trivial
  ·exact trivial
  ·exact trivial
  ·exact trivial
  ·exact trivial
  ·exact trivial
  ·exact trivial
  ·exact trivial
  ·exact trivial
  ·exact trivial
  ·intro v lo hi w w' hb ⟨a9,c9,e,ho⟩;exact⟨a9,c9,e,ho.ext hb⟩
  ·exact trivial
  ·exact trivial
  ·exact trivial
  ·exact trivial
  ·exact trivial
  ·exact trivial
  ·exact trivial
  ·intro v lo hi w w' hb ⟨a9,c9,e,ho⟩;exact⟨a9,c9,e,ho.ext hb⟩
  ·exact trivial
  ·exact trivial
  ·exact trivial
  ·intro v lo hi w w' hb ⟨a9,c9,e,ho⟩;exact⟨a9,c9,e,ho.ext hb⟩
  ·exact trivial
  ·exact trivial
  ·exact trivial
 ·intro i hi ν lo hi' w1 K hB hD hK;have hcase:i=0∨i=1∨i=2∨i=3∨i=4∨i=5∨i=6∨i=7∨i=8∨i=9∨i=10∨i=11∨i=12∨i=13∨i=14∨i=15∨i=16∨i=17∨i=18∨i=19∨i=20∨i=21∨i=22∨i=23∨i=24∨i=25∨i=26∨i=27∨i=28∨i=29∨i=30∨i=31∨i=32∨i=33∨i=34∨i=35∨i=36∨i=37∨i=38∨i=39∨i=40∨i=41∨i=42∨i=43∨i=44:=by omega
  clear hi;rcases hcase with rfl|rfl|rfl|rfl|rfl|rfl|rfl|rfl|rfl|rfl|rfl|rfl|rfl|rfl|rfl|rfl|rfl|rfl|rfl|rfl|rfl|rfl|rfl|rfl|rfl|rfl|rfl|rfl|rfl|rfl|rfl|rfl|rfl|rfl|rfl|rfl|rfl|rfl|rfl|rfl|rfl|rfl|rfl|rfl|rfl
  ·clear hD;refine aC rfl rfl ?_;simp only[zA,zB,zC,zD,zE,zF,zJ,zK,zG,zH,zI] at hK⊢;refine wp_load_row 25 _ rfl w2b.heap.size rfl 25 _ (0,0) _ (aB hB HKI6.out) Tryz.underlying25 rfl aS ?_;exact hK _ _ (aBQ _ _) rfl
  ·have e0:=hD 0 (by kernel_rfl)
   replace e0:ν 0=(eO r):=e0
   clear hD;refine aC rfl rfl ?_;simp only[zA,zB,zC,zD,zE,zF,zJ,zK,zG,zH,zI,e0] at hK⊢;go_simp;refine(RM r.pa r.pn r.pc r.ba r.bn r.bc (hOf r.bs) w1 (HBI.out.ext hB)).mono ?_;rintro e w3 ⟨rfl,hb3⟩;rw[HTS.out,HFB.out] at *;exact hK _ _ hb3 rfl
  ·clear hD;refine aC rfl rfl ?_;simp only[zA,zB,zC,zD,zE,zF,zJ,zK,zG,zH,zI] at hK⊢;refine wp_load_row 25 _ rfl w.heap.size rfl 25 _ (0,0) _ (aB hB HKF6.out) Tryz.underlying25 rfl aS ?_;exact hK _ _ (aBQ _ _) rfl
  ·have e1:=hD 1 (by kernel_rfl)
   replace e1:ν 1=(.bool fb):=e1
   have e2:=hD 2 (by kernel_rfl)
   replace e2:ν 2=(eO f):=e2
   clear hD;refine aC rfl rfl ?_;simp only[zA,zB,zC,zD,zE,zF,zJ,zK,zG,zH,zI,e1,e2] at hK⊢;go_simp;refine(kX f.pa f.pn f.pc f.ba f.bn f.bc (hOf f.bs) w1 (HBF.out.ext hB)).mono ?_;rintro e w3 ⟨rfl,hb3⟩;rw[HFB.out] at *;exact hK _ _ hb3 rfl
  ·have e1:=hD 1 (by kernel_rfl)
   replace e1:ν 1=(.bool fb):=e1
   have e3:=hD 3 (by kernel_rfl)
   replace e3:ν 3=(.bool fb):=e3
   clear hD;refine aC rfl rfl ?_;simp only[zA,zB,zC,zD,zE,zF,zJ,zK,zG,zH,zI,e1,e3] at hK⊢;cases fb<;>(go_simp;exact hK _ _ (aBQ _ _) rfl)
  ·have e3:=hD 3 (by kernel_rfl)
   replace e3:ν 3=(.bool fb):=e3
   have e4:=hD 4 (by kernel_rfl)
   replace e4:ν 4=(.bool false):=e4
   clear hD;refine aC rfl rfl ?_;simp only[zA,zB,zC,zD,zE,zF,zJ,zK,zG,zH,zI,e3,e4] at hK⊢;go_simp;exact hK _ _ (aBQ _ _) rfl
  ·have e5:=hD 5 (by kernel_rfl)
   replace e5:ν 5=(.bool false):=e5
   clear hD;simp only[zA,zB,zC,zD,zE,zF,zJ,zK,zG,zH,zI,e5] at hK⊢;refine bH rfl (by rfl) ?_;have kq:=aB hB HKI6.out;have kq0:w1.cell? ⟨w2b.heap.size,0,none⟩=some (.slice r.pa r.pn r.pc):=(by rw[aBP _ _ _ _ _ _ kq];rfl)
   have kq1:w1.cell? ⟨w2b.heap.size,1,none⟩=some (.slice r.ba r.bn r.bc):=(by rw[aBP _ _ _ _ _ _ kq];rfl)
   clear kq;go_simp;exact hK _ _ (aBQ _ _) rfl
  ·have e5:=hD 5 (by kernel_rfl)
   replace e5:ν 5=(.bool false):=e5
   clear hD;simp only[zA,zB,zC,zD,zE,zF,zJ,zK,zG,zH,zI,e5] at hK⊢;refine bH rfl (by rfl) ?_;go_simp;exact hK _ _ (aBQ _ _) rfl
  ·have e5:=hD 5 (by kernel_rfl)
   replace e5:ν 5=(.bool false):=e5
   have e6:=hD 6 (by kernel_rfl)
   replace e6:ν 6=(eO r):=e6
   have e7:=hD 7 (by kernel_rfl)
   replace e7:ν 7=(.slice (some ⟨tg,0,none⟩) n tc):=e7
   clear hD;simp only[zA,zB,zC,zD,zE,zF,zJ,zK,zG,zH,zI,e5,e6,e7] at hK⊢;refine bH rfl (by rfl) ?_;go_simp;refine(BD r.pa r.pn r.pc r.ba r.bn r.bc (hOf r.bs) (some ⟨tg,0,none⟩) n tc rs w1 (HBI.out.ext hB) (HTI.out.ext hB) HTOT2.out).mono ?_;rintro e w3 ⟨rfl,hb3⟩;rw[HTS.out,HTD.out,HRB.out] at *;exact hK _ _ hb3 rfl
  ·have e5:=hD 5 (by kernel_rfl)
   replace e5:ν 5=(.bool false):=e5
   clear hD;simp only[zA,zB,zC,zD,zE,zF,zJ,zK,zG,zH,zI,e5] at hK⊢;refine bH rfl (by rfl) ?_;have kq:=aB hB HKF6.out;have kq0:w1.cell? ⟨w.heap.size,0,none⟩=some (.slice f.pa f.pn f.pc):=(by rw[aBP _ _ _ _ _ _ kq];rfl)
   have kq1:w1.cell? ⟨w.heap.size,1,none⟩=some (.slice f.ba f.bn f.bc):=(by rw[aBP _ _ _ _ _ _ kq];rfl)
   clear kq;go_simp;exact hK _ _ (aBQ _ _) rfl
  ·have e5:=hD 5 (by kernel_rfl)
   replace e5:ν 5=(.bool false):=e5
   clear hD;simp only[zA,zB,zC,zD,zE,zF,zJ,zK,zG,zH,zI,e5] at hK⊢;refine bH rfl (by rfl) ?_;go_simp;exact hK _ _ (aBQ _ _) rfl
  ·have e5:=hD 5 (by kernel_rfl)
   replace e5:ν 5=(.bool false):=e5
   have e8:=hD 8 (by kernel_rfl)
   replace e8:ν 8=(.bool rb):=e8
   have e9:=hD 9 (by kernel_rfl)
   replace e9:ν 9=(eO f):=e9
   have e10:=hD 10 (by kernel_rfl)
   replace e10:ν 10=(.slice a n c):=e10
   clear hD;simp only[zA,zB,zC,zD,zE,zF,zJ,zK,zG,zH,zI,e5,e8,e9,e10] at hK⊢;refine bH rfl (by rfl) ?_;go_simp;refine(LG f.pa f.pn f.pc f.ba f.bn f.bc (hOf f.bs) a n c ls w1 (HBF.out.ext hB) (HTF.out.ext hB) HTOT.out).mono ?_;rintro e w3 ⟨rfl,hb3⟩;rw[HRB.out] at *;exact hK _ _ hb3 rfl
  ·have e5:=hD 5 (by kernel_rfl)
   replace e5:ν 5=(.bool false):=e5
   have e8:=hD 8 (by kernel_rfl)
   replace e8:ν 8=(.bool rb):=e8
   have e11:=hD 11 (by kernel_rfl)
   replace e11:ν 11=(.bool rb):=e11
   clear hD;simp only[zA,zB,zC,zD,zE,zF,zJ,zK,zG,zH,zI,e5,e8,e11] at hK⊢;refine bH rfl (by rfl) ?_;cases rb<;>(go_simp;exact hK _ _ (aBQ _ _) rfl)
  ·have e5:=hD 5 (by kernel_rfl)
   replace e5:ν 5=(.bool false):=e5
   have e12:=hD 12 (by kernel_rfl)
   replace e12:ν 12=(.bool false):=e12
   clear hD;refine aC rfl rfl ?_;simp only[zA,zB,zC,zD,zE,zF,zJ,zK,zG,zH,zI,e5,e12] at hK⊢;go_simp;exact hK _ _ (aBQ _ _) rfl
  ·have e11:=hD 11 (by kernel_rfl)
   replace e11:ν 11=(.bool rb):=e11
   have e13:=hD 13 (by kernel_rfl)
   replace e13:ν 13=(.bool false):=e13
   clear hD;refine aC rfl rfl ?_;simp only[zA,zB,zC,zD,zE,zF,zJ,zK,zG,zH,zI,e11,e13] at hK⊢;go_simp;exact hK _ _ (aBQ _ _) rfl
  ·have e14:=hD 14 (by kernel_rfl)
   replace e14:ν 14=(.bool false):=e14
   clear hD;simp only[zA,zB,zC,zD,zE,zF,zJ,zK,zG,zH,zI,e14] at hK⊢;refine bH rfl (by rfl) ?_;go_simp;exact hK _ _ (aBQ _ _) rfl
  ·have e14:=hD 14 (by kernel_rfl)
   replace e14:ν 14=(.bool false):=e14
   clear hD;simp only[zA,zB,zC,zD,zE,zF,zJ,zK,zG,zH,zI,e14] at hK⊢;refine bH rfl (by rfl) ?_;go_simp;exact hK _ _ (aBQ _ _) rfl
  ·have e14:=hD 14 (by kernel_rfl)
   replace e14:ν 14=(.bool false):=e14
   have e15:=hD 15 (by kernel_rfl)
   replace e15:ν 15=(.int .i64 en):=e15
   have e16:=hD 16 (by kernel_rfl)
   replace e16:ν 16=(.int .i64 en):=e16
   clear hD;simp only[zA,zB,zC,zD,zE,zF,zJ,zK,zG,zH,zI,e14,e15,e16] at hK⊢;refine bH rfl (by rfl) ?_;go_simp;exact hK _ _ (aBQ _ _) rfl
  ·have e14:=hD 14 (by kernel_rfl)
   replace e14:ν 14=(.bool false):=e14
   have e17:=hD 17 (by kernel_rfl)
   replace e17:ν 17=(.bool false):=e17
   clear hD;refine aC rfl rfl ?_;simp only[zA,zB,zC,zD,zE,zF,zJ,zK,zG,zH,zI,e14,e17] at hK⊢;go_simp;exact hK _ _ (aBQ _ _) rfl
  ·have e14:=hD 14 (by kernel_rfl)
   replace e14:ν 14=(.bool false):=e14
   have e18:=hD 18 (by kernel_rfl)
   replace e18:ν 18=(.bool false):=e18
   clear hD;refine aC rfl rfl ?_;simp only[zA,zB,zC,zD,zE,zF,zJ,zK,zG,zH,zI,e14,e18] at hK⊢;go_simp;exact hK _ _ (aBQ _ _) rfl
  ·have e19:=hD 19 (by kernel_rfl)
   replace e19:ν 19=(.bool false):=e19
   clear hD;simp only[zA,zB,zC,zD,zE,zF,zJ,zK,zG,zH,zI,e19] at hK⊢;refine bH rfl (by rfl) ?_;go_simp;exact hK _ _ (aBQ _ _) rfl
  ·have e19:=hD 19 (by kernel_rfl)
   replace e19:ν 19=(.bool false):=e19
   clear hD;simp only[zA,zB,zC,zD,zE,zF,zJ,zK,zG,zH,zI,e19] at hK⊢;refine bH rfl (by rfl) ?_;go_simp;exact hK _ _ (aBQ _ _) rfl
  ·have e19:=hD 19 (by kernel_rfl)
   replace e19:ν 19=(.bool false):=e19
   have e20:=hD 20 (by kernel_rfl)
   replace e20:ν 20=(.slice aa al ac):=e20
   have e21:=hD 21 (by kernel_rfl)
   replace e21:ν 21=(.slice ba al bc):=e21
   clear hD;simp only[zA,zB,zC,zD,zE,zF,zJ,zK,zG,zH,zI,e19,e20,e21] at hK⊢;refine bH rfl (by rfl) ?_;go_simp;refine(kG aa ba al al ac bc _ _ w1 (HIA.out.ext hB) (HIB.out.ext hB)).mono ?_;rintro e w3 ⟨he,q,rfl⟩;rw[decide_eq_true rfl] at he;subst he;exact hK _ _ (bZ (aBQ _ _) q) rfl
  ·have e19:=hD 19 (by kernel_rfl)
   replace e19:ν 19=(.bool false):=e19
   have e22:=hD 22 (by kernel_rfl)
   replace e22:ν 22=(.bool true):=e22
   clear hD;simp only[zA,zB,zC,zD,zE,zF,zJ,zK,zG,zH,zI,e19,e22] at hK⊢;refine bH rfl (by rfl) ?_;go_simp;exact hK _ _ (aBQ _ _) rfl
  ·have e19:=hD 19 (by kernel_rfl)
   replace e19:ν 19=(.bool false):=e19
   have e23:=hD 23 (by kernel_rfl)
   replace e23:ν 23=(.bool false):=e23
   clear hD;refine aC rfl rfl ?_;simp only[zA,zB,zC,zD,zE,zF,zJ,zK,zG,zH,zI,e19,e23] at hK⊢;go_simp;exact hK _ _ (aBQ _ _) rfl
  ·have e22:=hD 22 (by kernel_rfl)
   replace e22:ν 22=(.bool true):=e22
   have e24:=hD 24 (by kernel_rfl)
   replace e24:ν 24=(.bool false):=e24
   clear hD;refine aC rfl rfl ?_;simp only[zA,zB,zC,zD,zE,zF,zJ,zK,zG,zH,zI,e22,e24] at hK⊢;go_simp;exact hK _ _ (aBQ _ _) rfl
  ·have e25:=hD 25 (by kernel_rfl)
   replace e25:ν 25=(.bool false):=e25
   clear hD;simp only[zA,zB,zC,zD,zE,zF,zJ,zK,zG,zH,zI,e25] at hK⊢;refine bH rfl (by rfl) ?_;go_simp;exact hK _ _ (aBQ _ _) rfl
  ·have e25:=hD 25 (by kernel_rfl)
   replace e25:ν 25=(.bool false):=e25
   clear hD;simp only[zA,zB,zC,zD,zE,zF,zJ,zK,zG,zH,zI,e25] at hK⊢;refine bH rfl (by rfl) ?_;go_simp;exact hK _ _ (aBQ _ _) rfl
  ·have e25:=hD 25 (by kernel_rfl)
   replace e25:ν 25=(.bool false):=e25
   clear hD;simp only[zA,zB,zC,zD,zE,zF,zJ,zK,zG,zH,zI,e25] at hK⊢;refine bH rfl (by rfl) ?_;go_simp;exact hK _ _ (aBQ _ _) rfl
  ·have e25:=hD 25 (by kernel_rfl)
   replace e25:ν 25=(.bool false):=e25
   have e27:=hD 27 (by kernel_rfl)
   replace e27:ν 27=(.slice a n c):=e27
   have e28:=hD 28 (by kernel_rfl)
   replace e28:ν 28=(.int .i64 k):=e28
   clear hD;simp only[zA,zB,zC,zD,zE,zF,zJ,zK,zG,zH,zI,e25,e27,e28] at hK⊢;refine bH rfl (by rfl) ?_;go_simp;refine(uP a n c ls k w1 (HTF.out.ext hB) HKI.out HTOT.out).mono ?_;rintro e w3 ⟨v,rfl,ho,hb3⟩;obtain⟨a9,c9,rfl⟩:=ho.form;exact hK _ _ hb3 ⟨a9,c9,rfl,ho.ints⟩
  ·have e25:=hD 25 (by kernel_rfl)
   replace e25:ν 25=(.bool false):=e25
   have e26:=hD 26 (by kernel_rfl)
   replace e26:ν 26=(.slice ca cl cc):=e26
   have e29:=hD 29 (by kernel_rfl);unfold dV at e29;simp only[List.getD_cons_zero,List.getD_cons_succ,gG] at e29;clear hD;simp only[zA,zB,zC,zD,zE,zF,zJ,zK,zG,zH,zI,e25,e26] at hK⊢;refine bH rfl (by rfl) ?_;obtain⟨ma,mc,e29',ho9⟩:=e29;simp only[e29'] at hK⊢;go_simp;refine(kG ca ma cl _ cc mc _ _ w1 (HIC.out.ext hB) ho9).mono ?_;rintro e w3 ⟨he,q,rfl⟩;rw[decide_eq_true rfl] at he;subst he;exact hK _ _ (bZ (aBQ _ _) q) rfl
  ·have e25:=hD 25 (by kernel_rfl)
   replace e25:ν 25=(.bool false):=e25
   have e30:=hD 30 (by kernel_rfl)
   replace e30:ν 30=(.bool true):=e30
   clear hD;simp only[zA,zB,zC,zD,zE,zF,zJ,zK,zG,zH,zI,e25,e30] at hK⊢;refine bH rfl (by rfl) ?_;go_simp;exact hK _ _ (aBQ _ _) rfl
  ·have e25:=hD 25 (by kernel_rfl)
   replace e25:ν 25=(.bool false):=e25
   have e31:=hD 31 (by kernel_rfl)
   replace e31:ν 31=(.bool false):=e31
   clear hD;refine aC rfl rfl ?_;simp only[zA,zB,zC,zD,zE,zF,zJ,zK,zG,zH,zI,e25,e31] at hK⊢;go_simp;exact hK _ _ (aBQ _ _) rfl
  ·have e30:=hD 30 (by kernel_rfl)
   replace e30:ν 30=(.bool true):=e30
   have e32:=hD 32 (by kernel_rfl)
   replace e32:ν 32=(.bool false):=e32
   clear hD;refine aC rfl rfl ?_;simp only[zA,zB,zC,zD,zE,zF,zJ,zK,zG,zH,zI,e30,e32] at hK⊢;go_simp;exact hK _ _ (aBQ _ _) rfl
  ·have e33:=hD 33 (by kernel_rfl)
   replace e33:ν 33=(.bool false):=e33
   clear hD;simp only[zA,zB,zC,zD,zE,zF,zJ,zK,zG,zH,zI,e33] at hK⊢;refine bH rfl (by rfl) ?_;have kq:=aB hB HKI6.out;have kq0:w1.cell? ⟨w2b.heap.size,0,none⟩=some (.slice r.pa r.pn r.pc):=(by rw[aBP _ _ _ _ _ _ kq];rfl)
   have kq1:w1.cell? ⟨w2b.heap.size,1,none⟩=some (.slice r.ba r.bn r.bc):=(by rw[aBP _ _ _ _ _ _ kq];rfl)
   clear kq;go_simp;exact hK _ _ (aBQ _ _) rfl
  ·have e33:=hD 33 (by kernel_rfl)
   replace e33:ν 33=(.bool false):=e33
   clear hD;simp only[zA,zB,zC,zD,zE,zF,zJ,zK,zG,zH,zI,e33] at hK⊢;refine bH rfl (by rfl) ?_;go_simp;exact hK _ _ (aBQ _ _) rfl
  ·have e33:=hD 33 (by kernel_rfl)
   replace e33:ν 33=(.bool false):=e33
   clear hD;simp only[zA,zB,zC,zD,zE,zF,zJ,zK,zG,zH,zI,e33] at hK⊢;refine bH rfl (by rfl) ?_;go_simp;exact hK _ _ (aBQ _ _) rfl
  ·have e33:=hD 33 (by kernel_rfl)
   replace e33:ν 33=(.bool false):=e33
   have e34:=hD 34 (by kernel_rfl)
   replace e34:ν 34=(eO r):=e34
   have e35:=hD 35 (by kernel_rfl)
   replace e35:ν 35=(.slice (some ⟨tg,0,none⟩) n tc):=e35
   have e36:=hD 36 (by kernel_rfl)
   replace e36:ν 36=(.int .i64 k):=e36
   clear hD;simp only[zA,zB,zC,zD,zE,zF,zJ,zK,zG,zH,zI,e33,e34,e35,e36] at hK⊢;refine bH rfl (by rfl) ?_;go_simp;refine(GD r.pa r.pn r.pc r.ba r.bn r.bc (hOf r.bs) (some ⟨tg,0,none⟩) n tc rs k w1 (HBI.out.ext hB) (HTI.out.ext hB) HKI.out HTOT2.out).mono ?_;intro e w3 hp;obtain⟨v,rfl,hb3,ho⟩:=hp.g;rw[HTS.out,HTD.out] at ho;obtain⟨a9,c9,rfl⟩:=ho.form;exact hK _ _ hb3 ⟨a9,c9,rfl,ho.ints⟩
  ·have e33:=hD 33 (by kernel_rfl)
   replace e33:ν 33=(.bool false):=e33
   clear hD;simp only[zA,zB,zC,zD,zE,zF,zJ,zK,zG,zH,zI,e33] at hK⊢;refine bH rfl (by rfl) ?_;have kq:=aB hB HKF6.out;have kq0:w1.cell? ⟨w.heap.size,0,none⟩=some (.slice f.pa f.pn f.pc):=(by rw[aBP _ _ _ _ _ _ kq];rfl)
   have kq1:w1.cell? ⟨w.heap.size,1,none⟩=some (.slice f.ba f.bn f.bc):=(by rw[aBP _ _ _ _ _ _ kq];rfl)
   clear kq;go_simp;exact hK _ _ (aBQ _ _) rfl
  ·have e33:=hD 33 (by kernel_rfl)
   replace e33:ν 33=(.bool false):=e33
   clear hD;simp only[zA,zB,zC,zD,zE,zF,zJ,zK,zG,zH,zI,e33] at hK⊢;refine bH rfl (by rfl) ?_;go_simp;exact hK _ _ (aBQ _ _) rfl
  ·have e33:=hD 33 (by kernel_rfl)
   replace e33:ν 33=(.bool false):=e33
   clear hD;simp only[zA,zB,zC,zD,zE,zF,zJ,zK,zG,zH,zI,e33] at hK⊢;refine bH rfl (by rfl) ?_;go_simp;exact hK _ _ (aBQ _ _) rfl
  ·have e33:=hD 33 (by kernel_rfl)
   replace e33:ν 33=(.bool false):=e33
   have e37:=hD 37 (by kernel_rfl);unfold dV at e37;simp only[List.getD_cons_zero,List.getD_cons_succ,gG] at e37;have e38:=hD 38 (by kernel_rfl)
   replace e38:ν 38=(eO f):=e38
   have e39:=hD 39 (by kernel_rfl)
   replace e39:ν 39=(.slice a n c):=e39
   have e40:=hD 40 (by kernel_rfl)
   replace e40:ν 40=(.int .i64 k):=e40
   clear hD;simp only[zA,zB,zC,zD,zE,zF,zJ,zK,zG,zH,zI,e33,e38,e39,e40] at hK⊢;refine bH rfl (by rfl) ?_;go_simp;refine(PC f.pa f.pn f.pc f.ba f.bn f.bc (hOf f.bs) a n c ls k w1 (HBF.out.ext hB) (HTF.out.ext hB) HKI.out HTOT.out).mono ?_;rintro e w3 ⟨v,rfl,hb3,ho⟩;obtain⟨a9,c9,rfl⟩:=ho.form;exact hK _ _ hb3 ⟨a9,c9,rfl,ho.ints⟩
  ·have e33:=hD 33 (by kernel_rfl)
   replace e33:ν 33=(.bool false):=e33
   have e37:=hD 37 (by kernel_rfl);unfold dV at e37;simp only[List.getD_cons_zero,List.getD_cons_succ,gG] at e37;have e41:=hD 41 (by kernel_rfl);unfold dV at e41;simp only[List.getD_cons_zero,List.getD_cons_succ,gG] at e41;clear hD;simp only[zA,zB,zC,zD,zE,zF,zJ,zK,zG,zH,zI,e33] at hK⊢;refine bH rfl (by rfl) ?_;obtain⟨ma,mc,e37',ho7⟩:=e37;obtain⟨na,nc,e41',ho1⟩:=e41;simp only[e37',e41'] at hK⊢;go_simp;refine(kG ma na _ _ mc nc _ _ w1 ho7 ho1).mono ?_;rintro e w3 ⟨he,q,rfl⟩;rw[decide_eq_true rfl] at he;subst he;exact hK _ _ (bZ (aBQ _ _) q) rfl
  ·have e33:=hD 33 (by kernel_rfl)
   replace e33:ν 33=(.bool false):=e33
   have e42:=hD 42 (by kernel_rfl)
   replace e42:ν 42=(.bool true):=e42
   clear hD;simp only[zA,zB,zC,zD,zE,zF,zJ,zK,zG,zH,zI,e33,e42] at hK⊢;refine bH rfl (by rfl) ?_;go_simp;exact hK _ _ (aBQ _ _) rfl
  ·have e33:=hD 33 (by kernel_rfl)
   replace e33:ν 33=(.bool false):=e33
   have e43:=hD 43 (by kernel_rfl)
   replace e43:ν 43=(.bool false):=e43
   clear hD;refine aC rfl rfl ?_;simp only[zA,zB,zC,zD,zE,zF,zJ,zK,zG,zH,zI,e33,e43] at hK⊢;go_simp;exact hK _ _ (aBQ _ _) rfl
 ·intro ν lo hi w1 hB hS hI hD;have e0:ν 0=(eO r):=hS 0 (by omega);have e1:ν 1=(.bool fb):=hS 1 (by omega);have e2:ν 2=(eO f):=hS 2 (by omega);have e3:ν 3=(.bool fb):=hS 3 (by omega);have e4:ν 4=(.bool false):=hS 4 (by omega);have e5:ν 5=(.bool false):=hS 5 (by omega);have e6:ν 6=(eO r):=hS 6 (by omega);have e7:ν 7=(.slice (some ⟨tg,0,none⟩) n tc):=hS 7 (by omega);have e8:ν 8=(.bool rb):=hS 8 (by omega);have e9:ν 9=(eO f):=hS 9 (by omega);have e10:ν 10=(.slice a n c):=hS 10 (by omega);have e11:ν 11=(.bool rb):=hS 11 (by omega);have e12:ν 12=(.bool false):=hS 12 (by omega);have e13:ν 13=(.bool false):=hS 13 (by omega);have e14:ν 14=(.bool false):=hS 14 (by omega);have e15:ν 15=(.int .i64 en):=hS 15 (by omega);have e16:ν 16=(.int .i64 en):=hS 16 (by omega);have e17:ν 17=(.bool false):=hS 17 (by omega);have e18:ν 18=(.bool false):=hS 18 (by omega);have e19:ν 19=(.bool false):=hS 19 (by omega);have e20:ν 20=(.slice aa al ac):=hS 20 (by omega);have e21:ν 21=(.slice ba al bc):=hS 21 (by omega);have e22:ν 22=(.bool true):=hS 22 (by omega);have e23:ν 23=(.bool false):=hS 23 (by omega);have e24:ν 24=(.bool false):=hS 24 (by omega);have e25:ν 25=(.bool false):=hS 25 (by omega);have e26:ν 26=(.slice ca cl cc):=hS 26 (by omega);have e27:ν 27=(.slice a n c):=hS 27 (by omega);have e28:ν 28=(.int .i64 k):=hS 28 (by omega);have e29:=hS 29 (by omega);unfold dV at e29;simp only[List.getD_cons_zero,List.getD_cons_succ,gG] at e29;have e30:ν 30=(.bool true):=hS 30 (by omega);have e31:ν 31=(.bool false):=hS 31 (by omega);have e32:ν 32=(.bool false):=hS 32 (by omega);have e33:ν 33=(.bool false):=hS 33 (by omega);have e34:ν 34=(eO r):=hS 34 (by omega);have e35:ν 35=(.slice (some ⟨tg,0,none⟩) n tc):=hS 35 (by omega);have e36:ν 36=(.int .i64 k):=hS 36 (by omega);have e37:=hS 37 (by omega);unfold dV at e37;simp only[List.getD_cons_zero,List.getD_cons_succ,gG] at e37;have e38:ν 38=(eO f):=hS 38 (by omega);have e39:ν 39=(.slice a n c):=hS 39 (by omega);have e40:ν 40=(.int .i64 k):=hS 40 (by omega);have e41:=hS 41 (by omega);unfold dV at e41;simp only[List.getD_cons_zero,List.getD_cons_succ,gG] at e41;have e42:ν 42=(.bool true):=hS 42 (by omega);have e43:ν 43=(.bool false):=hS 43 (by omega);have e44:ν 44=(.bool false):=hS 44 (by omega);clear hS;simp only[List.drop_succ_cons,List.drop_zero,zA,zB,zC,zD,zE,zF,zJ,zK,zG,zH,zI,e0,e1,e2,e3,e4,e5,e6,e7,e8,e9,e10,e11,e12,e13,e14,e15,e16,e17,e18,e19,e20,e21,e22,e23,e24,e25,e26,e27,e28,e30,e31,e32,e33,e34,e35,e36,e38,e39,e40,e42,e43,e44];have HB7:=aBO hB;have HKI7:=aBO (aB hB HKI6.out);have HKF7:=aBO (aB hB HKF6.out);clear hI hD hB e0 e1 e2 e3 e4 e5 e6 e7 e8 e9 e10 e11 e12 e13 e14 e15 e16 e17 e18 e19 e20 e21 e22 e23 e24 e25 e26 e27 e28 e30 e31 e32 e33 e34 e35 e36 e38 e39 e40 e42 e43 e44 e29 e37 e41;obtain⟨w8,hw8⟩:∃w8,w8=w1.alloc (.cells #[.slice aa al ac,.slice ca cl cc,.slice da cl dc] 22):=⟨_,rfl⟩
  have hb8:Below w7.heap.size w7 w8:=by rw[hw8];exact aA HB7.out (aD _ _)
  have hr8:w8.heap[w1.heap.size]? =some (.cells #[.slice aa al ac,.slice ca cl cc,.slice da cl dc] 22 (0,0)):=by rw[hw8];exact aBS _ _
  have oA:=HOA7.out.ext hb8;have oC:=HOC7.out.ext hb8;have oD:=HOD.out.ext hb8;have z1:w3.heap.size≤w8.heap.size:=by have:=hb8.size;omega
  have HE8:Hid (Below w3.heap.size w3 w8):=aA HE7.out hb8;have HAP:Hid (Calls Tryz.prog 48 #[.slice (some ⟨w1.heap.size,0,none⟩) 3 3] w8 fun e w'=>e=.returned (.bool true)∧Chg (SB 3 (UI (.slice aa al ac) (.slice ca cl cc) (.slice da cl dc))) w8 w'):=by
   refine DR w8 (some ⟨w1.heap.size,0,none⟩) 3 3 w3.heap.size (UI (.slice aa al ac) (.slice ca cl cc) (.slice da cl dc)) (ZU al cl cl) ?_ ?_ ?_ (by omega) ?_ z1
   ·intro j hj;refine⟨w1.heap.size,0,rfl,?_⟩;rw[aBP _ _ _ _ _ _ hr8,Nat.zero_add]
    match j,hj with
    |0,_=>rfl
    |1,_=>rfl
    |2,_=>rfl
   ·intro j hj
    match j,hj with
    |0,_=>exact⟨_,by have h:=oA.1;rw[HAL.out] at h;exact h⟩
    |1,_=>exact⟨_,by have h:=(oC.mono (show w3.heap.size≤w5.heap.size by omega)).1;rw[HCL.out] at h;exact h⟩
    |2,_=>exact⟨_,by have h:=(oD.mono (show w3.heap.size≤w6.heap.size by omega)).1;rw[HCL.out] at h;exact h⟩
   ·have k1:∀q,(Value.slice aa al ac).ownBlock=some q→q<w4.heap.size:=fun q hq=>(HOA.out.low hq).2;have k2:∀q,(Value.slice ca cl cc).ownBlock=some q→w5.heap.size≤q∧q<w6.heap.size:=fun q hq=>HOC.out.low hq;have k3:∀q,(Value.slice da cl dc).ownBlock=some q→w6.heap.size≤q:=fun q hq=>(HOD.out.low hq).1;intro i j hi hj hij g h1 h2
    match i,j,hi,hj with
    |0,0,_,_=>exact hij rfl
    |1,1,_,_=>exact hij rfl
    |2,2,_,_=>exact hij rfl
    |0,1,_,_=>have:=k1 g h1;have:=k2 g h2;omega
    |0,2,_,_=>have:=k1 g h1;have:=k3 g h2;omega
    |1,0,_,_=>have:=k2 g h1;have:=k1 g h2;omega
    |1,2,_,_=>have:=k2 g h1;have:=k3 g h2;omega
    |2,0,_,_=>have:=k3 g h1;have:=k1 g h2;omega
    |2,1,_,_=>have:=k3 g h1;have:=k2 g h2;omega
   ·have b1:=HALb.out;have b2:=HCLb.out;intro j hj
    match j,hj with
    |0,_=>exact b1
    |1,_=>exact b2
    |2,_=>exact b2
  have HSB:Hid (∀q,SB 3 (UI (.slice aa al ac) (.slice ca cl cc) (.slice da cl dc)) q→w3.heap.size≤q):=by
   rintro q ⟨j,hj,hq⟩
   match j,hj with
   |0,_=>exact(HOA.out.low hq).1
   |1,_=>have:=(HOC.out.low hq).1;omega
   |2,_=>have:=(HOD.out.low hq).1;omega
  clear hb8 hr8 oA oC oD HB7 HKI7 HKF7
  go_wp2_with (first
   |(refine bS (o:=⟨some 92,.load 25 _,_,_,_,_⟩) (by rfl) 25 _ rfl w2b.heap.size rfl 25 _ (0,0) _ HKI9.out Tryz.underlying25 rfl aS ?_)
   |(refine bS (o:=⟨some 93,.load 25 _,_,_,_,_⟩) (by rfl) 25 _ rfl w.heap.size rfl 25 _ (0,0) _ HKF9.out Tryz.underlying25 rfl aS ?_)
   |(go_at_call 33
     refine(nD w11).mono ?_;rintro e w12 ⟨rfl,hb⟩;have HE12:Hid (Below w3.heap.size w3 w12):=aA HE11.out hb
     clear hb)
   |(go_at_call 22
     refine(DH w2.heap.size tg tc a n c ls rs w10 (jD.ext gR HLT3.out HE10.out) (HTT3.out.ext HE10.out) hn90 HTNA.out).mono ?_;rintro e w11 ⟨rfl,hb⟩;have HE11:Hid (Below w3.heap.size w3 w11):=aA HE10.out hb
     clear hb)
   |(go_at_call 21
     refine(wI r f w0.heap.size w9 (iO.ext HLF3.out HE9.out) (HFF3.out.ext HE9.out) HNA.out).mono ?_;rintro e w10 ⟨rfl,hb⟩;have HE10:Hid (Below w3.heap.size w3 w10):=aA HE9.out hb
     clear hb)
   |(go_at_call 48
     rw[←hw8];refine HAP.out.mono ?_;rintro e w9 ⟨rfl,hch⟩;have HE9:Hid (Below w3.heap.size w3 w9):=HE8.out.trans (hch.below (B:=w3.heap.size) z1 HSB.out);have HKI9:=aBO (aB HE9.out HKI3.out);have HKF9:=aBO (aB HE9.out HKF3.out)
     clear hch))
  go_ret
  exact⟨rfl,aA HB3.out HE12.out⟩
end
end Go.Proofs.YtblhmdhfhaencaaGreat
