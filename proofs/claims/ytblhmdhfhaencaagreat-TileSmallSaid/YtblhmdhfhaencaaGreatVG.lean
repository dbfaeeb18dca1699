/-
 What is built is right,and small,plain. No program in sight.
-/
import Derived.Test.YtblhmdhfhaencaaGreatCR
import Derived.Test.YtblhmdhfhaencaaGreatQR
import Derived.Test.YtblhmdhfhaencaaGreatTL
import Derived.Test.YtblhmdhfhaencaaGreatAT
import Derived.Test.YtblhmdhfhaencaaGreatEF
import Derived.Test.YtblhmdhfhaencaaGreatTW
import Derived.Test.YtblhmdhfhaencaaGreatVA
import Derived.Test.YtblhmdhfhaencaaGreatAI2
import Derived.Test.YtblhmdhfhaencaaGreatRU
import Derived.Test.YtblhmdhfhaencaaGreatRF
import Derived.Test.YtblhmdhfhaencaaGreatTR
import Derived.Test.YtblhmdhfhaencaaGreatDF
import Derived.IntWalk
namespace Go.Proofs.YtblhmdhfhaencaaGreat
set_option linter.unusedSimpArgs false
set_option linter.unusedVariables false
set_option linter.unusedSectionVars false
set_option maxRecDepth 100000
set_option maxHeartbeats 40000000
section
theorem PT:∀(l:List bI) (m:Nat),(∀t∈l,t.blocks.length≤m)→gZ l≤l.length*m
 | [],m,_=>by simp[gZ]
 |t :: l,m,h=>by
  have h1:=PT l m fun s hs=>h s (by simp[hs]);have h2:=h t (by simp);simp only[gZ,List.map_cons,List.sum_cons,List.length_cons,Nat.add_mul] at h1⊢;omega
theorem sR(n:Nat)(qs:List aI)(j:Nat):(fV n qs j).length≤n:=by
 unfold fV aO
 rw[List.length_map]
 have:=List.length_filter_le (fun x=>dF qs x qs.length==j) (List.range n)
 rwa [List.length_range] at this
theorem NN{ts:List aT}{qs:List aI}(hf:bU ts=true)(h:zR ts qs):(dQ ts.length qs).length≤ts.length∧gZ (dQ ts.length qs)≤40000:=by
 have hl:=(bQ hf).2.1.2
 have h1:=pV hf
 rw[h.1.length_eq] at h1
 have h2:(dQ ts.length qs).length≤ts.length:=by rw[eT];exact h1
 refine⟨h2,?_⟩
 have h3:=PT (dQ ts.length qs) ts.length fun t ht=>by
  unfold dQ at ht;rcases List.mem_cons.1 ht with rfl|ht
  ·exact sR _ _ _
  ·obtain⟨k,_,rfl⟩:=List.mem_map.1 ht;exact sR _ _ _
 have h4:(dQ ts.length qs).length*ts.length≤200*200:=Nat.mul_le_mul (by omega) (by omega)
 omega
end

section
open Go.RowKit Go.Shelf
attribute [local go_sem] Oper.semAt_some cT bM cC bG
def enB(ts:List aT):Int:=if bU ts then 0 else 2
def tlB(ts:List aT):List bI:=if bU ts then dQ ts.length (tA ts.length (dR ts)) else []
def GA(ts:List aT)(w:World)(e:Ending)(w':World):Prop:=∃v ls,e=.returned (.tuple #[v,.int .i64 (enB ts)])∧dG w' w.heap.size v ls∧aJ ls=tlB ts∧Below w.heap.size w w'
theorem dG.nil(w:World)(base:Nat):dG w base iY []:=⟨cK.nil _ _ _ _ _,(fun t ht=>by cases ht),(fun t ht=>by cases ht),List.Pairwise.nil⟩
theorem EL{ts:List aT}{qs:List aI}(hf:bU ts=true)(h:zR ts qs):tA ts.length (dR ts)=qs:=
 ZW (bQ hf).2.1.2 (lN hf) h.1 (fun i j hij hj=>h.2 i j hij hj)
theorem DW{ts:List aT}(h:bU ts=true→∃qs,zR ts qs):(tlB ts).length≤200∧gZ (tlB ts)≤40000:=by
 unfold tlB
 cases hf:bU ts with
 |false=>simp[gZ]
 |true=>
  obtain⟨qs,hq⟩:=h hf;have h1:=NN hf hq;rw[if_pos rfl,EL hf hq];have:=(bQ hf).2.1.2;omega
theorem EZ(pa:Option Addr)(pn pc:Nat)(ba:Option Addr)(bn bc:Nat)(bs:List gS)(w:World)(h:dU w ba bn bs)(hbn40:bn≤40∨200<bn):
  Calls Tryz.prog 34 #[dX pa pn pc ba bn bc] w fun e w'=>GA (aG bs) w e w'∧(tlB (aG bs)).length≤200∧gZ (tlB (aG bs))≤40000:=
 (FC pa pn pc ba bn bc bs w h hbn40).mono fun e w' ⟨h0,h1,hb⟩=>by
   cases hf:bU (aG bs) with
   |false=>exact⟨⟨iY,[],by rw[h0 hf,enB,hf];rfl,dG.nil _ _,by rw[tlB,hf];rfl,hb⟩,DW (fun h=>by rw[hf] at h;cases h)⟩
   |true=>
    obtain⟨v,ls,qs,he,hok,ht,hd⟩:=h1 hf;exact⟨⟨v,ls,by rw[he,enB,hf];rfl,ht,by rw[hd,tlB,hf,if_pos rfl,EL hf hok],hb⟩,DW (fun _=>⟨qs,hok⟩)⟩
theorem MT(pa:Option Addr)(pn pc:Nat)(ba:Option Addr)(bn bc:Nat)(bs:List gS)(w:World)(h:dU w ba bn bs):
  Calls Tryz.prog 31 #[dX pa pn pc ba bn bc] w (GA (aG bs) w):=
 (yR pa pn pc ba bn bc bs w h).mono fun e w' ⟨h0,h1,hb⟩=>by
   unfold GA enB tlB;cases hf:bU (aG bs) with
   |false=>exact⟨iY,[],by rw[h0 hf];rfl,dG.nil _ _,rfl,hb⟩
   |true=>
    obtain⟨v,ls,he,ht,hd⟩:=h1 hf;exact⟨v,ls,by rw[he];rfl,ht,by rw[hd,if_pos rfl],hb⟩
def two{α:Type}(x y:α):Nat→α:=fun j=>if j=0 then x else y
theorem nK(f:jE)(hpn:f.pn≤17592186044416)(w:World)(h:jH w f):
  Calls Tryz.prog 6 #[eO f] w fun e w'=>e=.returned (.bool true)∧Below w.heap.size w w':=by
 have H:=aBO h
 have HLB:Hid (f.bs.length=f.bn):=h.2.1.1
 clear h
 go_enter Tryz.func6,Tryz.ntmps6
 go_upto_region 1 with (fail)
 obtain⟨W,hW⟩:∃W,W=w.alloc (bO f.pa f.pn f.pc f.ba f.bn f.bc):=⟨_,rfl⟩
 rw[←hW]
 have hk0:W.heap[w.heap.size]? =some (bO f.pa f.pn f.pc f.ba f.bn f.bc):=by rw[hW];exact aBS _ _
 have hB:Below w.heap.size w W:=by rw[hW];exact aD _ _
 have HK:=aBO hk0
 have HB:=aBO hB
 clear hW hk0 hB
 go_upto_region 3 with (first
  |((with_reducible show wpList _ _ _ (⟨some 10,_,_,_,_,_⟩ :: _) _ _);refine wpList_load_row (o:=⟨some 10,.load 25 _,_,_,_,_⟩) rfl 25 _ rfl w.heap.size rfl 25 _ (0,0) _ HK.out Tryz.underlying25 rfl aS ?_)
  |(go_at_call 32
    refine(wJ f.pa f.pn f.pc hpn f.ba f.bn f.bc f.bs none 0 0 [] W (H.out.2.ext HB.out) ⟨kM.nil 3 cN W,by simp⟩).mono ?_;rintro e w1 ⟨gb,rfl,hb,hgr⟩;have HK1:=aBO (aB hb HK.out);have HB1:=aBO (aA HB.out hb);have HGR:=aBO hgr;clear hb hgr
    cases gb)
  |(go_at_call 33
    refine(nD w1).mono ?_;rintro e w2 ⟨rfl,hb⟩;have HB2:=aBO (aA HB1.out hb)
    clear hb))
 all_goals first|(go_ret;exact⟨rfl,HB2.out⟩)|skip
 clear HK HB
 obtain⟨hbn40,g0,g1,g2,g3⟩:=HGR.out (by trivial)
 have HNA:Hid (uB f):=KD (bn:=f.bn) rfl rfl HLB.out g1 g2 g3
 have HBN:=aBO hbn40
 clear HGR g0 g1 g2 g3 hbn40
 obtain⟨w0,rfl⟩:∃w0:World,w0=w1:=⟨_,rfl⟩
 go_upto_region 4 with (first
  |((with_reducible show wpList _ _ _ (⟨some 13,_,_,_,_,_⟩ :: _) _ _);refine wpList_load_row (o:=⟨some 13,.load 25 _,_,_,_,_⟩) rfl 25 _ rfl w.heap.size rfl 25 _ (0,0) _ HK1.out Tryz.underlying25 rfl aS ?_)
  |(go_at_call 11
    refine(wH f w0 (H.out.ext HB1.out) HNA.out).mono ?_;rintro e w2 ⟨r,rfl,hl,hb⟩;have HLF0:=aBO hl;have HRO0:=aBO (hl.ok (H.out.ext (aA HB1.out hb)) HNA.out);have HK2:=aBO (aB hb HK1.out);have HB2:=aBO (aA HB1.out hb)
    clear hl hb)
  |(refine eC rfl 25 _ _ rfl w2.heap.size #[.slice r.pa r.pn r.pc,.slice r.ba r.bn r.bc] rfl rfl 25 _ (aBS w2 _) aS rfl (by simp[Value.oneCell']) w2.heap.size w2 (aD w2 _) (aBV _) ?_
    intro w3 hb3 hx3;have HKI3:=aBO hx3;have HB23:=aBO hb3;have HB3:=aBO (aA HB2.out hb3);have HKF3:=aBO (aB hb3 HK2.out)
    clear hb3 hx3))
 have HTS:Hid (aG (hOf r.bs)=aG (hOf f.bs)):=QP HLF0.out.sd.2.2
 have HRN:Hid (r.bn=f.bn):=HLF0.out.sd.2.1
 have HF3:Hid (dU w3 r.ba r.bn (hOf r.bs)):=(HRO0.out.ext HB23.out).2.x.1
 have HFF3:=aBO (H.out.ext HB3.out)
 have HFB3:Hid (dU w3 f.ba f.bn (hOf f.bs)):=HFF3.out.2.x.1
 have HLF3:=aBO (iO.ext HLF0.out HB23.out)
 have HRB:Hid (r.bn≤40∨200<r.bn):=by rw[Hid,HRN.out];exact HBN.out
 clear HK1 HB1 HB2 HLF0 HRO0 HB23 HK2
 obtain⟨TS,hTS⟩:∃t,t=aG (hOf f.bs):=⟨_,rfl⟩
 rw[←hTS] at HTS
 have HTSE:=aBO hTS
 obtain⟨en,hen⟩:∃x,x=enB TS:=⟨_,rfl⟩
 have HEN:=aBO hen
 clear hTS hen
 go_upto_region 5 with (first
  |((with_reducible show wpList _ _ _ (⟨some 16,_,_,_,_,_⟩ :: _) _ _);refine wpList_load_row (o:=⟨some 16,.load 25 _,_,_,_,_⟩) rfl 25 _ rfl w2.heap.size rfl 25 _ (0,0) _ HKI3.out Tryz.underlying25 rfl aS ?_)
  |(go_at_call 34
    refine(EZ r.pa r.pn r.pc r.ba r.bn r.bc (hOf r.bs) w3 HF3.out HRB.out).mono ?_;rintro e w4 ⟨⟨v1,l1,rfl,ht1,hd1,hb4⟩,hs1,hs2⟩;rw[HTS.out] at hd1 hs1 hs2⊢;rw[←HEN.out];have HT1:=aBO ht1;have HSM:=aBO (And.intro hs1 hs2);have HD1:=aBO hd1;have HB4:=aBO hb4;have HKI4:=aBO (aB hb4 HKI3.out);have HKF4:=aBO (aB hb4 HKF3.out)
    clear ht1 hd1 hb4 hs1 hs2))
 go_upto_region 6 with (first
  |((with_reducible show wpList _ _ _ (⟨some 21,_,_,_,_,_⟩ :: _) _ _);refine wpList_load_row (o:=⟨some 21,.load 25 _,_,_,_,_⟩) rfl 25 _ rfl w.heap.size rfl 25 _ (0,0) _ HKF4.out Tryz.underlying25 rfl aS ?_)
  |(go_at_call 31
    refine(MT f.pa f.pn f.pc f.ba f.bn f.bc (hOf f.bs) w4 (HFB3.out.ext HB4.out)).mono ?_;rintro e w5 ⟨v2,l2,rfl,ht2,hd2,hb5⟩;rw[←HTSE.out] at hd2⊢;rw[←HEN.out];have HT2:=aBO ht2;have HD2:=aBO hd2;have HB45:=aBO hb5;have HB5:=aBO (aA HB4.out hb5);have HKI5:=aBO (aB hb5 HKI4.out);have HKF5:=aBO (aB hb5 HKF4.out)
    clear ht2 hd2 hb5))
 go_upto_region 7 with (first
  |((with_reducible show wpList _ _ _ (⟨some 26,_,_,_,_,_⟩ :: _) _ _);refine wpList_load_row (o:=⟨some 26,.load 25 _,_,_,_,_⟩) rfl 25 _ rfl w2.heap.size rfl 25 _ (0,0) _ HKI5.out Tryz.underlying25 rfl aS ?_)
  |(go_at_call 34
    refine(EZ r.pa r.pn r.pc r.ba r.bn r.bc (hOf r.bs) w5 (HF3.out.ext HB5.out) HRB.out).mono ?_;rintro e w6 ⟨⟨v3,l3,rfl,ht3,hd3,hb6⟩,-,-⟩;rw[HTS.out] at hd3⊢;rw[←HEN.out];have HT3:=aBO ht3;have HD3:=aBO hd3;have HB56:=aBO hb6;have HB6:=aBO (aA HB5.out hb6);have HKI6:=aBO (aB hb6 HKI5.out);have HKF6:=aBO (aB hb6 HKF5.out)
    clear ht3 hd3 hb6))
 have hlen:∀{l:List bK},aJ l=tlB TS→l.length=(tlB TS).length:=fun h=>by rw[←h,cQ]
 obtain⟨n,hn⟩:∃n,n=(tlB TS).length:=⟨_,rfl⟩
 have hn200:n≤200:=by rw[hn];exact HSM.out.1
 obtain⟨a1,c1,e1⟩:=HT1.out.own.form
 obtain⟨a2,c2,e2⟩:=HT2.out.own.form
 obtain⟨a3,c3,e3⟩:=HT3.out.own.form
 have hl1:l1.length=n:=by rw[hn];exact hlen HD1.out
 have hl2:l2.length=n:=by rw[hn];exact hlen HD2.out
 have hl3:l3.length=n:=by rw[hn];exact hlen HD3.out
 rw[hl1] at e1
 rw[hl2] at e2
 rw[hl3] at e3
 subst e1 e2 e3
 have HNA2:Hid (∀r∈l2,kV r):=fun r hr=>by
  have h1:=sX l2 r hr;rw[HD2.out] at h1;have h2:=HSM.out.2;have h3:=(HT2.out.ok.2 r hr).1.1;unfold kV;omega
 have HBLK:Hid (∀t∈qB (two l1 l3) 2,t.d.blocks.length≤1000000):=fun t ht=>by
  have e:qB (two l1 l3) 2=l1++l3:=by simp[qB,two,List.range_succ]
  rw[e] at ht;have h2:=HSM.out.2;rcases aCA.1 ht with h|h
  ·have h1:=sX l1 t h;rw[HD1.out] at h1;omega
  ·have h1:=sX l3 t h;rw[HD3.out] at h1;omega
 have z34:=HB4.out.size
 have z45:=HB45.out.size
 have z56:=HB56.out.size
 have ht1:dG w6 w3.heap.size (.slice a1 n c1) l1:=(HT1.out.ext HB45.out).ext HB56.out
 have ht2:dG w6 w4.heap.size (.slice a2 n c2) l2:=HT2.out.ext HB56.out
 have HTA:=aBO ht1
 have HTB:=aBO ht2
 have k1:∀q,(Value.slice a1 n c1).ownBlock=some q→w3.heap.size≤q∧q<w4.heap.size:=fun q hq=>HT1.out.own.low hq
 have k3:∀q,(Value.slice a3 n c3).ownBlock=some q→w5.heap.size≤q:=fun q hq=>(HT3.out.own.low hq).1
 have b1:∀t∈l1,∀q,(bsV t).ownBlock=some q→w3.heap.size≤q∧q<w4.heap.size:=fun t ht q hq=>(HT1.out.each t ht).1.low hq
 have b3:∀t∈l3,∀q,(bsV t).ownBlock=some q→w5.heap.size≤q:=fun t ht q hq=>((HT3.out.each t ht).1.low hq).1
 have HAP:Hid (∀w7,Below w6.heap.size w6 w7→Calls Tryz.prog 36 #[.slice (some ⟨w7.heap.size,0,none⟩) 2 2] (w7.alloc (.cells #[.slice a1 n c1,.slice a3 n c3] 26)) fun e w'=>e=.returned (.bool true)∧Below w3.heap.size w7 w'):=fun w7 hb7=>by
  have e:qB (two l1 l3) 2=l1++l3:=by simp[qB,two,List.range_succ]
  have hr8:=aBS w7 (.cells #[.slice a1 n c1,.slice a3 n c3] 26);have hb8:=aD w7 (.cells #[.slice a1 n c1,.slice a3 n c3] 26);have h1:=(ht1.ext hb7).ext hb8;have h3:=((HT3.out.ext hb7).ext hb8).mono (show w3.heap.size≤w5.heap.size by omega);have hsz:=hb7.size;have hsz8:=hb8.size;refine(CS _ (some ⟨w7.heap.size,0,none⟩) 2 2 w3.heap.size (two (.slice a1 n c1) (.slice a3 n c3)) (two l1 l3) ?_ ?_ ?_ ?_ ?_ (by omega) ?_ HBLK.out (by omega)).mono fun e' w' ⟨he,hc⟩=>⟨he,?_⟩
  ·intro j hj;refine⟨w7.heap.size,0,rfl,?_⟩;rw[aBP _ _ _ _ _ _ hr8,Nat.zero_add]
   match j,hj with
   |0,_=>rfl
   |1,_=>rfl
  ·intro j hj
   match j,hj with
   |0,_=>exact h1.own
   |1,_=>exact h3.own
  ·intro i j hi hj hij g g1 g2
   match i,j,hi,hj with
   |0,0,_,_=>exact hij rfl
   |1,1,_,_=>exact hij rfl
   |0,1,_,_=>have:=k1 g g1;have:=k3 g g2;omega
   |1,0,_,_=>have:=k3 g g1;have:=k1 g g2;omega
  ·intro t ht;rw[e] at ht;rcases aCA.1 ht with h|h
   ·exact(h1.each t h).1
   ·exact(h3.each t h).1
  ·rw[e,List.pairwise_append];refine⟨h1.pw,h3.pw,fun s hs t ht g g1 g2=>?_⟩;have:=b1 s hs g g1;have:=b3 t ht g g2;omega
  ·intro j hj
   match j,hj with
   |0,_=>show l1.length≤1000;omega
   |1,_=>show l3.length≤1000;omega
  ·refine(hb8.mono (show w3.heap.size≤w7.heap.size by omega)).trans (hc.below (B:=w3.heap.size) (by omega) fun g hg=>?_);rcases hg with ⟨t,ht,hg⟩|⟨j,hj,hg⟩
   ·rw[e] at ht;rcases aCA.1 ht with h|h
    ·exact(b1 t h g hg).1
    ·have:=b3 t h g hg;omega
   ·match j,hj with
    |0,_=>exact(k1 g hg).1
    |1,_=>have:=k3 g hg;omega
 have d0:(en==en)=true:=by simp
 have HN:=aBO hn
 have HLL1:=aBO hl1
 have HLL2:=aBO hl2
 clear ht1 ht2 k1 k3 b1 b3 hlen hn hl1 hl2 hl3
 go_wp2_with (first
  |(go_at_call 35
    refine(tG a1 a2 n c1 c2 l1 l2 w6 HTA.out.ok HTB.out.ok (QA (by rw[HD1.out,HD2.out])) HNA2.out).mono ?_;rintro e w7 ⟨rfl,hb⟩;have HB7:=aBO hb;have HE7:=aBO (aA HB6.out hb)
    clear hb)
  |(go_at_call 36
    refine(HAP.out w7 HB7.out).mono ?_;rintro e w9 ⟨rfl,hch⟩;have HE9:Hid (Below w3.heap.size w3 w9):=HE7.out.trans hch;have HKI9:=aBO (aB HE9.out HKI3.out);have HKF9:=aBO (aB HE9.out HKF3.out)
    clear hch)
  |((with_reducible show wpList _ _ _ (⟨some 45,_,_,_,_,_⟩ :: _) _ _);refine bS (o:=⟨some 45,.load 25 _,_,_,_,_⟩) (by kernel_rfl) 25 _ rfl w2.heap.size rfl 25 _ (0,0) _ HKI9.out Tryz.underlying25 rfl aS ?_)
  |((with_reducible show wpList _ _ _ (⟨some 46,_,_,_,_,_⟩ :: _) _ _);refine bS (o:=⟨some 46,.load 25 _,_,_,_,_⟩) (by kernel_rfl) 25 _ rfl w.heap.size rfl 25 _ (0,0) _ HKF9.out Tryz.underlying25 rfl aS ?_)
  |(go_at_call 21
    refine(wI r f w0.heap.size w9 (iO.ext HLF3.out HE9.out) (HFF3.out.ext HE9.out) HNA.out).mono ?_;rintro e w10 ⟨rfl,hb⟩;have HE10:Hid (Below w3.heap.size w3 w10):=aA HE9.out hb
    clear hb)
  |(go_at_call 33
    refine(nD w10).mono ?_;rintro e w12 ⟨rfl,hb⟩;have HE12:Hid (Below w3.heap.size w3 w12):=aA HE10.out hb
    clear hb))
 go_ret
 exact⟨rfl,aA HB3.out HE12.out⟩
end

section
open Go.RowKit Go.Shelf
attribute [local go_sem] Oper.semAt_some cT bM cC bG
theorem gD{W:World}{B:Nat}{rs:List SlR}{vs:Array Value}{t:TypeId}(h:W.heap[B]? =some (.cells vs t (0,0)))(hv:vs.toList=rs.flatMap csL)(hr:∀r∈rs,dY W r.sa r.xs.length r.xs)(hl:rs.length≤1000:=by simp):iR W (some ⟨B,0,none⟩) rs.length rs:=by
 refine⟨⟨rfl,by omega,fun k x hx=>⟨B,0,rfl,fun j hj=>?_⟩⟩,hr⟩
 have hl2:∀l:List SlR,(l.flatMap csL)[k]? =(l[k]?).map (fun r=>Value.slice r.sa r.xs.length r.sc):=by
  intro l;have:l.flatMap csL=l.map (fun r=>Value.slice r.sa r.xs.length r.sc):=by
   induction l with
   |nil=>rfl
   |cons x l ih=>simp[csL] at ih⊢;exact ih
  rw[this,List.getElem?_map]
 obtain rfl:j=0:=by omega
 rw[aBP _ _ _ _ _ _ h,show 0+k*1+0=k by omega]
 have:vs[k]? =vs.toList[k]?:=by simp
 rw[this,hv,hl2,hx]
 rfl
def fOf(pa:Option Addr)(pc:Nat)(ba:Option Addr)(bc:Nat)(L:List (List Int)):jE:=⟨pa,1,pc,[1],ba,L.length,bc,L.map fun l=>⟨dO l,[]⟩⟩
theorem QZ{L:List (List Int)}{w:World}{base:Nat}{pa:Option Addr}{pc:Nat}{ba:Option Addr}{bc:Nat}(hL:∀l∈L,∀x∈l,I64 x)(ho:cK 73 5 iZ w base (.slice ba L.length bc) (L.map dO))(hp:bN w base (.slice pa 1 pc) [1]):jH w (fOf pa pc ba bc L):=by
 have hbk:=KU ho hL
 refine⟨hp.ints,⟨by simp[fOf],by have:=hbk.1.2.1;simpa[fOf] using this,fun k r hr=>?_⟩,fun b hb=>?_⟩
 ·simp only[fOf,List.getElem?_map,Option.map_eq_some_iff] at hr;obtain⟨l,hl,rfl⟩:=hr;exact hbk.1.2.2 k (dO l) (by rw[List.getElem?_map,hl];rfl)
 ·obtain⟨l,hl,rfl⟩:=List.mem_map.1 hb;exact⟨hbk.2 _ (List.mem_map.2 ⟨l,hl,rfl⟩),kM.nil _ _ _,fun r hr=>by cases hr⟩
theorem ET(w:World)(g:Nat)(cs:Array Value):w.grownBy (w.setRow g cs) (some g):=⟨rfl,rfl,rfl,by simp,fun q hq hn=>setRow_other _ _ _ _ (fun e=>hn (by rw[e]))⟩
theorem DY(w:World):cM w none 0 []:=⟨kM.nil 3 cN w,by simp⟩
theorem aBJ(w W:World)(h:W=(((((((w.alloc (.cells #[.int .i64 1] 3)).alloc (.cells #[.int .i64 2] 3)).alloc (.cells #[.int .i64 3] 3)).alloc (.cells #[.int .i64 1,.int .i64 2] 3)).alloc (.cells #[.int .i64 2,.int .i64 3] 3)).alloc (.cells #[.int .i64 3,.int .i64 1] 3)).alloc (.cells #[.int .i64 1,.int .i64 1] 3)).alloc (.cells #[.slice none 0 0,.slice (some ⟨w.heap.size,0,none⟩) 1 1,.slice (some ⟨w.heap.size+1,0,none⟩) 1 1,.slice (some ⟨w.heap.size+1+1,0,none⟩) 1 1,.slice (some ⟨w.heap.size+1+1+1,0,none⟩) 2 2,.slice (some ⟨w.heap.size+1+1+1+1,0,none⟩) 2 2,.slice (some ⟨w.heap.size+1+1+1+1+1,0,none⟩) 2 2,.slice (some ⟨w.heap.size+1+1+1+1+1+1,0,none⟩) 2 2] 22)):
  iR W (some ⟨w.heap.size+1+1+1+1+1+1+1,0,none⟩) 8 [⟨[],none,0⟩,⟨[1],some ⟨w.heap.size,0,none⟩,1⟩,⟨[2],some ⟨w.heap.size+1,0,none⟩,1⟩,⟨[3],some ⟨w.heap.size+1+1,0,none⟩,1⟩,⟨[1,2],some ⟨w.heap.size+1+1+1,0,none⟩,2⟩,⟨[2,3],some ⟨w.heap.size+1+1+1+1,0,none⟩,2⟩,⟨[3,1],some ⟨w.heap.size+1+1+1+1+1,0,none⟩,2⟩,⟨[1,1],some ⟨w.heap.size+1+1+1+1+1+1,0,none⟩,2⟩]∧Below w.heap.size w W:=by
 have h0:W.heap[w.heap.size]? =some (.cells #[.int .i64 1] 3 (0,0)):=by
  rw[h];rw[aBR _ _ _ (by simp<;>omega),aBR _ _ _ (by simp<;>omega),aBR _ _ _ (by simp<;>omega),aBR _ _ _ (by simp<;>omega),aBR _ _ _ (by simp<;>omega),aBR _ _ _ (by simp<;>omega),aBR _ _ _ (by simp<;>omega)];exact aU _ _ _ (by simp)
 have h1:W.heap[w.heap.size+1]? =some (.cells #[.int .i64 2] 3 (0,0)):=by
  rw[h];rw[aBR _ _ _ (by simp<;>omega),aBR _ _ _ (by simp<;>omega),aBR _ _ _ (by simp<;>omega),aBR _ _ _ (by simp<;>omega),aBR _ _ _ (by simp<;>omega),aBR _ _ _ (by simp<;>omega)];exact aU _ _ _ (by simp)
 have h2:W.heap[w.heap.size+1+1]? =some (.cells #[.int .i64 3] 3 (0,0)):=by
  rw[h];rw[aBR _ _ _ (by simp<;>omega),aBR _ _ _ (by simp<;>omega),aBR _ _ _ (by simp<;>omega),aBR _ _ _ (by simp<;>omega),aBR _ _ _ (by simp<;>omega)];exact aU _ _ _ (by simp)
 have h3:W.heap[w.heap.size+1+1+1]? =some (.cells #[.int .i64 1,.int .i64 2] 3 (0,0)):=by
  rw[h];rw[aBR _ _ _ (by simp<;>omega),aBR _ _ _ (by simp<;>omega),aBR _ _ _ (by simp<;>omega),aBR _ _ _ (by simp<;>omega)];exact aU _ _ _ (by simp)
 have h4:W.heap[w.heap.size+1+1+1+1]? =some (.cells #[.int .i64 2,.int .i64 3] 3 (0,0)):=by
  rw[h];rw[aBR _ _ _ (by simp<;>omega),aBR _ _ _ (by simp<;>omega),aBR _ _ _ (by simp<;>omega)];exact aU _ _ _ (by simp)
 have h5:W.heap[w.heap.size+1+1+1+1+1]? =some (.cells #[.int .i64 3,.int .i64 1] 3 (0,0)):=by
  rw[h];rw[aBR _ _ _ (by simp<;>omega),aBR _ _ _ (by simp<;>omega)];exact aU _ _ _ (by simp)
 have h6:W.heap[w.heap.size+1+1+1+1+1+1]? =some (.cells #[.int .i64 1,.int .i64 1] 3 (0,0)):=by
  rw[h];rw[aBR _ _ _ (by simp<;>omega)];exact aU _ _ _ (by simp)
 have hr:W.heap[w.heap.size+1+1+1+1+1+1+1]? =some (.cells #[.slice none 0 0,.slice (some ⟨w.heap.size,0,none⟩) 1 1,.slice (some ⟨w.heap.size+1,0,none⟩) 1 1,.slice (some ⟨w.heap.size+1+1,0,none⟩) 1 1,.slice (some ⟨w.heap.size+1+1+1,0,none⟩) 2 2,.slice (some ⟨w.heap.size+1+1+1+1,0,none⟩) 2 2,.slice (some ⟨w.heap.size+1+1+1+1+1,0,none⟩) 2 2,.slice (some ⟨w.heap.size+1+1+1+1+1+1,0,none⟩) 2 2] 22 (0,0)):=by rw[h];exact aU _ _ _ (by simp)
 refine⟨gD hr rfl ?_,?_⟩
 ·intro r hm;simp only[List.mem_cons,List.not_mem_nil,or_false] at hm;rcases hm with rfl|rfl|rfl|rfl|rfl|rfl|rfl|rfl
  ·exact(bN.nil W 0).ints
  ·exact cL (xs:= [1]) h0 rfl (dJ [1]) (by simp)
  ·exact cL (xs:= [2]) h1 rfl (dJ [2]) (by simp)
  ·exact cL (xs:= [3]) h2 rfl (dJ [3]) (by simp)
  ·exact cL (xs:= [1,2]) h3 rfl (dJ [1,2]) (by simp)
  ·exact cL (xs:= [2,3]) h4 rfl (dJ [2,3]) (by simp)
  ·exact cL (xs:= [3,1]) h5 rfl (dJ [3,1]) (by simp)
  ·exact cL (xs:= [1,1]) h6 rfl (dJ [1,1]) (by simp)
 ·rw[h];refine Below.alloc ?_ (by simp<;>omega) _;refine Below.alloc ?_ (by simp<;>omega) _;refine Below.alloc ?_ (by simp<;>omega) _;refine Below.alloc ?_ (by simp<;>omega) _;refine Below.alloc ?_ (by simp<;>omega) _;refine Below.alloc ?_ (by simp<;>omega) _;refine Below.alloc ?_ (by simp<;>omega) _;refine Below.alloc ?_ (by simp<;>omega) _;exact aBQ _ _
theorem aBK(w W:World)(h:W=(((((w.alloc (.cells #[.int .i64 1] 3)).alloc (.cells #[.int .i64 2,.int .i64 5] 3)).alloc (.cells #[.int .i64 3] 3)).alloc (.cells #[.int .i64 2,.int .i64 4] 3)).alloc (.cells #[.int .i64 1] 3)).alloc (.cells #[.slice (some ⟨w.heap.size,0,none⟩) 1 1,.slice (some ⟨w.heap.size+1,0,none⟩) 2 2,.slice (some ⟨w.heap.size+1+1,0,none⟩) 1 1,.slice (some ⟨w.heap.size+1+1+1,0,none⟩) 2 2,.slice (some ⟨w.heap.size+1+1+1+1,0,none⟩) 1 1,.slice none 0 0] 22)):
  iR W (some ⟨w.heap.size+1+1+1+1+1,0,none⟩) 6 [⟨[1],some ⟨w.heap.size,0,none⟩,1⟩,⟨[2,5],some ⟨w.heap.size+1,0,none⟩,2⟩,⟨[3],some ⟨w.heap.size+1+1,0,none⟩,1⟩,⟨[2,4],some ⟨w.heap.size+1+1+1,0,none⟩,2⟩,⟨[1],some ⟨w.heap.size+1+1+1+1,0,none⟩,1⟩,⟨[],none,0⟩]∧Below w.heap.size w W:=by
 have h0:W.heap[w.heap.size]? =some (.cells #[.int .i64 1] 3 (0,0)):=by
  rw[h];rw[aBR _ _ _ (by simp<;>omega),aBR _ _ _ (by simp<;>omega),aBR _ _ _ (by simp<;>omega),aBR _ _ _ (by simp<;>omega),aBR _ _ _ (by simp<;>omega)];exact aU _ _ _ (by simp)
 have h1:W.heap[w.heap.size+1]? =some (.cells #[.int .i64 2,.int .i64 5] 3 (0,0)):=by
  rw[h];rw[aBR _ _ _ (by simp<;>omega),aBR _ _ _ (by simp<;>omega),aBR _ _ _ (by simp<;>omega),aBR _ _ _ (by simp<;>omega)];exact aU _ _ _ (by simp)
 have h2:W.heap[w.heap.size+1+1]? =some (.cells #[.int .i64 3] 3 (0,0)):=by
  rw[h];rw[aBR _ _ _ (by simp<;>omega),aBR _ _ _ (by simp<;>omega),aBR _ _ _ (by simp<;>omega)];exact aU _ _ _ (by simp)
 have h3:W.heap[w.heap.size+1+1+1]? =some (.cells #[.int .i64 2,.int .i64 4] 3 (0,0)):=by
  rw[h];rw[aBR _ _ _ (by simp<;>omega),aBR _ _ _ (by simp<;>omega)];exact aU _ _ _ (by simp)
 have h4:W.heap[w.heap.size+1+1+1+1]? =some (.cells #[.int .i64 1] 3 (0,0)):=by
  rw[h];rw[aBR _ _ _ (by simp<;>omega)];exact aU _ _ _ (by simp)
 have hr:W.heap[w.heap.size+1+1+1+1+1]? =some (.cells #[.slice (some ⟨w.heap.size,0,none⟩) 1 1,.slice (some ⟨w.heap.size+1,0,none⟩) 2 2,.slice (some ⟨w.heap.size+1+1,0,none⟩) 1 1,.slice (some ⟨w.heap.size+1+1+1,0,none⟩) 2 2,.slice (some ⟨w.heap.size+1+1+1+1,0,none⟩) 1 1,.slice none 0 0] 22 (0,0)):=by rw[h];exact aU _ _ _ (by simp)
 refine⟨gD hr rfl ?_,?_⟩
 ·intro r hm;simp only[List.mem_cons,List.not_mem_nil,or_false] at hm;rcases hm with rfl|rfl|rfl|rfl|rfl|rfl
  ·exact cL (xs:= [1]) h0 rfl (dJ [1]) (by simp)
  ·exact cL (xs:= [2,5]) h1 rfl (dJ [2,5]) (by simp)
  ·exact cL (xs:= [3]) h2 rfl (dJ [3]) (by simp)
  ·exact cL (xs:= [2,4]) h3 rfl (dJ [2,4]) (by simp)
  ·exact cL (xs:= [1]) h4 rfl (dJ [1]) (by simp)
  ·exact(bN.nil W 0).ints
 ·rw[h];refine Below.alloc ?_ (by simp<;>omega) _;refine Below.alloc ?_ (by simp<;>omega) _;refine Below.alloc ?_ (by simp<;>omega) _;refine Below.alloc ?_ (by simp<;>omega) _;refine Below.alloc ?_ (by simp<;>omega) _;refine Below.alloc ?_ (by simp<;>omega) _;exact aBQ _ _
theorem vQ{W:World}{a:Option Addr}{n:Nat}{xs:List Int}(h:dY W a n xs):∀x∈xs,I64 x:=fun x hx=>by
 obtain⟨k,hk,rfl⟩:=List.mem_iff_getElem.1 hx
 obtain⟨_,_,_,_,h1⟩:=h.2.2 k (by rw[←h.1];exact hk)
 simpa[aBT,hk] using h1
theorem yY{W:World}{A n:Nat}{rs:List SlR}(h:iR W (some ⟨A,0,none⟩) n rs){k:Nat}(hk:k<n):∃r:SlR,W.cell? ⟨A,k,none⟩=some (.slice r.sa r.xs.length r.sc)∧dY W r.sa r.xs.length r.xs:=by
 obtain⟨r,b,o,_,e,hc,hi⟩:=h.cells hk
 injection e with e
 injection e with e1 e2
 subst e1 e2
 rw[Nat.zero_add] at hc
 exact⟨r,hc,hi⟩
abbrev fO(f:jE):Obj:=bO f.pa f.pn f.pc f.ba f.bn f.bc
abbrev aAM:jE:=⟨none,0,0,[],none,0,0,[]⟩
end
end Go.Proofs.YtblhmdhfhaencaaGreat
