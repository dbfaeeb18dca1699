/-
 Tile:Right.
-/
import Derived.Test.YtblhmdhfhaencaaGreatTR
import Derived.Test.YtblhmdhfhaencaaGreatTU
import Derived.Test.YtblhmdhfhaencaaGreatTL
import Derived.Test.YtblhmdhfhaencaaGreatTF
import Derived.Deep.LoopGhost
import Derived.Deep.DeepAppendRoom
import Derived.Maps.AppendAt
import Derived.Test.YtblhmdhfhaencaaGreatBR
import Derived.Deep.Onto
namespace Go.Proofs.YtblhmdhfhaencaaGreat
set_option linter.unusedSimpArgs false
set_option linter.unusedVariables false
set_option linter.unusedSectionVars false
set_option maxRecDepth 100000
set_option maxHeartbeats 40000000
section
open Go.RowKit Go.Shelf
attribute [local go_sem] Oper.semAt_some cT bM cC bG
theorem LR{f:Nat→Bool}{b:Nat}{l:List Nat}(h:aZ f=b :: l){x:Nat}(hx:x∈aZ f):b≤x:=by
 have hp:(aZ f).Pairwise (· < ·):=List.pairwise_lt_range.filter _
 rw[h] at hp hx
 rcases List.mem_cons.1 hx with rfl|hx
 ·exact aBV _
 ·have:=(List.pairwise_cons.1 hp).1 x hx;omega
theorem aAC{l:List bI}{k:Nat}(h:mB l k=false):(l.getD k fC).blocks.length≠0:=by
 simp only[mB,Bool.or_eq_false_iff] at h
 have:=h.1.2
 simpa using this
theorem vZ{n:Nat}{l:List bI}{k:Nat}(hk:k<l.length)(hp:cD l=true)(hn:n≤200)(h:eV n l k=true):
  (∀x∈(l.getD k fC).blocks,0≤x∧x<n)∧∀b r,aZ (iH l k)=b :: r→b<n:=by
 rw[uE,Bool.and_eq_true] at h
 have h1:=aAC (by simpa using h.1)
 have h2:=(oJ _ _).1 h.2
 have h3:∀x∈(l.getD k fC).blocks,0≤x∧x<n:=fun x hx=>by
  obtain⟨i,hi,rfl⟩:=List.getElem_of_mem hx;have:=(h2 i hi).1;rw[aBT (l:=(l.getD k fC).blocks),aBU hi] at this;exact this
 refine⟨h3,fun b r hb=>?_⟩
 obtain⟨x,r',hx⟩:∃x r',(l.getD k fC).blocks=x :: r':=by
  cases e:(l.getD k fC).blocks with
  |nil=>rw[e] at h1;simp at h1
  |cons x r'=>exact⟨x,r',rfl⟩
 have hx1:=h3 x (by rw[hx];simp)
 have hm:x∈fK l k:=(vM l k hk hp x).2 ⟨k,hk,jV l k,by rw[eW,hx];simp⟩
 have hs:iH l k x.toNat=true:=by
  simp only[iH,ofS,Bool.and_eq_true,decide_eq_true_eq];refine⟨by omega,?_⟩;rw[show((x.toNat:Nat):Int)=x by omega];simpa using hm
 have:=LR hb ((eG (AM _) _).2 hs)
 omega
theorem BD(pa:Option Addr)(pn pc:Nat)(ba:Option Addr)(bn bc:Nat)(bs:List gS)(a:Option Addr)(n c:Nat)(ls:List bK)(w:World)(h:dU w ba bn bs)(ht:cM w a n ls)(hT:gZ (aJ ls)≤1000000):
  Calls Tryz.prog 42 #[dX pa pn pc ba bn bc,.slice a n c] w fun e w'=>e=.returned (.bool (cZ (aG bs) (aJ ls)))∧Below w.heap.size w w':=by
 have hn:=ht.1.2.1
 have HLN:=aBO ht.1.1
 have H:=aBO h
 have HT:=aBO ht
 have HTOT:=aBO hT
 clear h ht hT
 go_enter Tryz.func42,Tryz.ntmps42
 go_upto_region 1 with (fail)
 obtain⟨W,hW⟩:∃W,W=w.alloc (bO pa pn pc ba bn bc):=⟨_,rfl⟩
 rw[←hW]
 have hk0:W.heap[w.heap.size]? =some (bO pa pn pc ba bn bc):=by rw[hW];exact aBS _ _
 have hB:Below w.heap.size w W:=by rw[hW];exact aD _ _
 have HK:=aBO hk0
 have HB:=aBO hB
 clear hW hk0 hB
 cases hf:bU (aG bs) with
 |false=>
  have HE:Hid (cZ (aG bs) (aJ ls)=false):=by simp[Hid,cZ,hf]
  have HF:=aBO hf;clear hf
  go_wp2_with (first
   |(refine wpList_load_row (o:=⟨some 10,.load 25 _,_,_,_,_⟩) rfl 25 _ rfl w.heap.size rfl 25 _ (0,0) _ HK.out Tryz.underlying25 rfl aS ?_)
   |(go_at_call 78
     refine(lO pa pn pc ba bn bc bs W (H.out.ext HB.out)).mono ?_;rintro e w2 ⟨cs,rfl,hcs,hall,hb,hokk⟩;rw[HF.out];have HB2:=aBO (aA HB.out hb);have HCS:=aBO hcs;have HALL:=aBO hall
     clear hb hokk hcs hall)
   |(refine wpList_store_row rfl 116 _ _ rfl w2.heap.size cs rfl rfl 116 _ (aBS w2 zV) (by rw[HCS.out];exact bD) (by rw[HCS.out];rfl) HALL.out ?_))
  go_ret
  exact⟨(congrArg (fun b=>Ending.returned (Value.bool b)) HE.out).symm,below_setRow (HB2.out.alloc HB2.out.size _) HB2.out.size _⟩
 |true=>
  have HF:=aBO hf;have hgood:=(cY _).1 (kF hf);have hbn:(aG bs).length=bn:=by rw[dD];exact H.out.1.1
  have hbn1:1≤bn:=by rw[←hbn];exact hgood.1.1
  have hbn2:bn≤200:=by rw[←hbn];exact hgood.1.2
  have HBN:Hid (bn≤200):=hbn2;have HTL:Hid ((aG bs).length=bn):=hbn;clear hf hgood hbn
  go_upto_region 2 with (first
   |(refine wpList_load_row (o:=⟨some 10,.load 25 _,_,_,_,_⟩) rfl 25 _ rfl w.heap.size rfl 25 _ (0,0) _ HK.out Tryz.underlying25 rfl aS ?_)
   |(go_at_call 78
     refine(lO pa pn pc ba bn bc bs W (H.out.ext HB.out)).mono ?_;rintro e w2 ⟨cs,rfl,hcs,hall,hb,hokk⟩;rw[HF.out];obtain⟨ta,tc,fa,fc,hcv,hwk⟩:=hokk HF.out;injection hcv with hcv;subst hcv;have HB2:=aBO (aA HB.out hb);have HWK:=aBO hwk
     clear hb hokk hcs hall hwk)
   |(refine wpList_store_row rfl 116 _ _ rfl w2.heap.size #[.slice pa pn pc,.slice ba bn bc,.slice ta bn tc,.slice fa bn fc] rfl rfl 116 _ (aBS w2 zV) bD rfl rfl ?_))
  obtain⟨W3,hW3⟩:∃W3,W3=w2.alloc (kK ⟨pa,pn,pc,ba,bn,bc,ta,tc,fa,fc⟩):=⟨_,rfl⟩
  rw[←hW3];have hw3:W3.heap[w2.heap.size]? =some (kK ⟨pa,pn,pc,ba,bn,bc,ta,tc,fa,fc⟩):=by rw[hW3];exact aBS _ _
  have HW3:=aBO hw3;have HB3':Below w2.heap.size w2 W3:=by rw[hW3];exact aD _ _
  have HB3:=aBO (aA HB2.out HB3');have HWK3:=aBO (HWK.out.ext HB3');have hPW:w.heap.size≤w2.heap.size:=HB2.out.size;clear hW3 hw3 HB3' HWK HB2;generalize w2.heap.size=PW at *;by_cases hl:n≤200
  ·have dl:decide ((n:Int)>200)=false:=by simp;omega
   have dl2:decide ((200:Int)<(n:Int))=false:=by simp;omega
   cases hpar:cD (aJ ls) with
   |false=>
    have HE:Hid (cZ (aG bs) (aJ ls)=false):=by simp[Hid,cZ,hpar]
    have HPAR:=aBO hpar;clear hpar
    go_wp2_with (go_at_call 92
                 refine(oY a n c ls W3 (HT.out.ext HB3.out)).mono ?_;rintro e w4 ⟨rfl,hb4⟩;rw[HPAR.out];have HB4:=aBO (aA HB3.out hb4)
                 clear hb4)
    go_ret
    exact⟨(congrArg (fun b=>Ending.returned (Value.bool b)) HE.out).symm,HB4.out⟩
   |true=>
    have HPAR:=aBO hpar;clear hpar
    go_upto_region 4 with (go_at_call 92
                           refine(oY a n c ls W3 (HT.out.ext HB3.out)).mono ?_;rintro e w4 ⟨rfl,hb4⟩;rw[HPAR.out];have HB4:=aBO (aA HB3.out hb4);have HW4:=aBO (aB hb4 HW3.out);have HWK4:=aBO (HWK3.out.ext hb4)
                           clear hb4)
    clear HW3 HWK3 HB3
    go_upto_region 5 with (first
     |(refine wpList_load_row (o:=⟨some 26,.load 116 _,_,_,_,_⟩) rfl 116 _ rfl PW rfl 116 _ (0,0) _ HW4.out Tryz.underlying116 rfl bD ?_)
     |(go_at_call 91
       refine(QD ⟨pa,pn,pc,ba,bn,bc,ta,tc,fa,fc⟩ hbn1 hbn2 a n c ls w4 (HT.out.ext HB4.out)).mono ?_;rintro e w5 ⟨v,rfl,hb5,ho1,ho2⟩;have HB5:=aBO (aA HB4.out hb5);have HW5:=aBO (aB hb5 HW4.out);have HWK5:=aBO (HWK4.out.ext hb5);have HO1:=aBO ho1;have HO2:=aBO ho2
       clear hb5 ho1 ho2))
    clear HW4 HWK4 HB4;cases hob:lU (aJ ls) bn with
    |false=>
     have hv:v=.slice none 0 0:=HO2.out hob;subst hv;have HE:Hid (cZ (aG bs) (aJ ls)=false):=by simp[Hid,cZ,HTL.out,hob]
     clear hob HO1 HO2;have hq:=fun w n c n' c'=>Lib.run_eql_slice_nil (P:=Tryz.prog) w 22 3 none n c n' c' Tryz.underlying22;go_wp2
     go_ret
     exact⟨(congrArg (fun b=>Ending.returned (Value.bool b)) HE.out).symm,HB5.out⟩
    |true=>
     obtain⟨g,cc,rfl,ho⟩:=HO1.out hob;have HOB:=aBO hob;obtain⟨b0,o0,e0,hc0,_⟩:=ho.ints.2.2 0 (by omega);injection e0 with e0;injection e0 with e1 e2;subst e1 e2;have hv0:(nL (aJ ls) bn).getD 0 0=(rA (aJ ls) 0:Int):=by
      have:(List.range bn)[0]? =some 0:=by rw[List.getElem?_range (by omega)]
      simp[nL,aBT,this]
     rw[hv0] at hc0;clear hob HO1 HO2 ho hv0;have hq:=fun w n c n' c'=>Lib.run_eql_slice_nil (P:=Tryz.prog) w 22 3 (some ⟨g,0,none⟩) n c n' c' Tryz.underlying22;by_cases hz:rA (aJ ls) 0=0
     ·rw[hz] at hc0;have HZ:=aBO hz;clear hz;go_wp2
      go_loopw [8,39] (fun _ i wr=>∃(k:Nat),k≤n∧i=.int .i64 k∧Hid (∀j,j<k→(eV bn (aJ ls) j&&dC (aG bs) ((aJ ls).getD j fC) (iH (aJ ls) j))=true)∧Hid (wr.heap[PW]? =some (kK ⟨pa,pn,pc,ba,bn,bc,ta,tc,fa,fc⟩))∧Hid (gH wr ⟨pa,pn,pc,ba,bn,bc,ta,tc,fa,fc⟩ (aG bs))∧Hid (Below w.heap.size w wr)) (fun _ i _=>n-(intOf i).toNat)
      case atStart=>exact⟨0,by omega,rfl,fun j hj=>absurd hj (by omega),HW5,HWK5,HB5⟩
      case round=>
       obtain⟨k,hk,rfl,HR,HW4,HWK4,HB4⟩:=hrel;have HB50:=HB5;clear HB5 HW5 HWK5 hc0;by_cases hlt:k<n
       ·have hkl:k<(aJ ls).length:=by rw[cQ,HLN.out];exact hlt
        obtain⟨t,b,o,hlk,⟨hI,hcap,hI1,hI2⟩,rfl,c0,c1,c2⟩:=(HT.out.ext HB4.out).cells hlt;have htd:=iM ls k t hlk;have C0:=aBO c0;have C1:=aBO c1;have C2:=aBO c2;have HKD:Hid (I64 t.d.kind):=hI1;have HNO:Hid ((eV bn (aJ ls) k&&dC (aG bs) t.d (iH (aJ ls) k))=false→cZ (aG bs) (aJ ls)=false):=fun h=>by
         rw[Bool.eq_false_iff];intro h2;simp only[cZ,Bool.and_eq_true,List.all_eq_true,List.mem_range] at h2;have h3:=h2.2 k hkl;rw[htd,HTL.out] at h3;rw[h3.1,h3.2] at h;cases h
        have HYES:Hid ((eV bn (aJ ls) k&&dC (aG bs) t.d (iH (aJ ls) k))=true→Hid (∀j,j<k+1→(eV bn (aJ ls) j&&dC (aG bs) ((aJ ls).getD j fC) (iH (aJ ls) j))=true)):=fun h j hj=>by
         by_cases e:j=k
         ·subst e;rw[htd];exact h
         ·exact HR.out j (by omega)
        clear c0 c1 c2 hlk hI1 hI2 hcap HR;cases hst:eV bn (aJ ls) k with
        |false=>
         have HE:=aBO (HNO.out (by rw[hst];rfl));have HSTD:=aBO hst;have HSQ:Hid (∀n':aY wr,Calls Tryz.prog 100 #[dK ⟨pa,pn,pc,ba,bn,bc,ta,tc,fa,fc⟩,.slice (some ⟨b,o,none⟩) n c,.int .i64 (k:Int)] n'.val fun e w''=>e=.returned (.bool false)∧∃m:aY wr,w''=m.val):=fun n'=>by
          have:=BG ⟨pa,pn,pc,ba,bn,bc,ta,tc,fa,fc⟩ HBN.out (some ⟨b,o,none⟩) n c ls k n'.val (HT.out.ext (aA HB4.out n'.ext)) hlt HPAR.out;rw[HSTD.out] at this;exact cG this
         clear hst htd hI;go_upto_region 10 with (fail)
         refine bB (by kernel_rfl) (by kernel_rfl) ?_
         repeat (first
          |go_big_quiet_skip
          |(refine aW (o:=⟨some 42,.load 116 _,_,_,_,_⟩) (by rfl) 116 _ rfl PW rfl 116 #[.slice pa pn pc,.slice ba bn bc,.slice ta bn tc,.slice fa bn fc] (0,0) _ (by rintro _ ⟨n,rfl⟩;exact aB n.ext HW4.out) Tryz.underlying116 rfl bD ?_;simp only[zJ,zG,zH,zI])
          |go_big_quiet_step (first
           |(go_at_call 100;exact HSQ.out _)))
         refine wpQuiet_nil ?_;intro _ hw';obtain⟨n',rfl⟩:=hw';go_wp2
         go_ret
         exact⟨(congrArg (fun b=>Ending.returned (Value.bool b)) HE.out).symm,aA HB4.out n'.ext⟩
        |true=>
         have hsf:=vZ hkl HPAR.out HBN.out hst;rw[htd] at hsf;have HBLK:=aBO hsf.1;have HLE:=aBO hsf.2;have HIN:=aBO hI;have HSTD:=aBO hst;clear hst htd hI hsf;go_upto_region 10 with (fail)
         refine dL 18 [some 42,some 43,some 44,some 45,some 46,some 47,some 48,some 49,some 50,some 51,some 52,some 53,some 54,some 55,some 56,some 57,some 58,some 59] (by kernel_rfl) (by kernel_rfl) (dV [.val (dK ⟨pa,pn,pc,ba,bn,bc,ta,tc,fa,fc⟩),.val (.slice (some ⟨b,o,none⟩) n c),.val (.int .i64 (k:Int)),.val (.bool true),.val (.bool false),.val (.bool false),.val (dK ⟨pa,pn,pc,ba,bn,bc,ta,tc,fa,fc⟩),.val (.slice (some ⟨b,o,none⟩) n c),.val (.int .i64 (k:Int)),.val (.pointer (some ⟨b,o+k*3,none⟩)),.val (PP t),.val (.slice (some ⟨b,o,none⟩) n c),.val (.int .i64 (k:Int)),(.any fun v lo hi W=>∃al cl,v=.slice al (fK (aJ ls) (k:Int)).length cl∧bN W lo v (fK (aJ ls) (k:Int))),.val (.agg (aQ (iH (aJ ls) k))),.val (.bool (dC (aG bs) t.d (iH (aJ ls) k))),.val (.bool (!dC (aG bs) t.d (iH (aJ ls) k))),.val (.bool (!dC (aG bs) t.d (iH (aJ ls) k)))]) (dN ?_) ?_ ?_
         ·intro k hk;simp only[List.mem_cons,List.not_mem_nil,or_false] at hk;rcases hk with rfl|rfl|rfl|rfl|rfl|rfl|rfl|rfl|rfl|rfl|rfl|rfl|rfl|rfl|rfl|rfl|rfl|rfl
          ·exact trivial
          ·exact trivial
          ·exact trivial
          ·exact trivial
          ·exact trivial
          ·exact trivial
          ·exact trivial
          ·exact trivial
          ·exact trivial
          ·exact trivial
          ·exact trivial
          ·exact trivial
          ·exact trivial
          ·intro v lo hi w w' hb ⟨al,cl,e,ho⟩;exact⟨al,cl,e,ho.ext hb⟩
          ·exact trivial
          ·exact trivial
          ·exact trivial
          ·exact trivial
         ·intro i hi ν lo hi' w1 K hB hD hK;have hcase:i=0∨i=1∨i=2∨i=3∨i=4∨i=5∨i=6∨i=7∨i=8∨i=9∨i=10∨i=11∨i=12∨i=13∨i=14∨i=15∨i=16∨i=17:=by omega
          clear hi;rcases hcase with rfl|rfl|rfl|rfl|rfl|rfl|rfl|rfl|rfl|rfl|rfl|rfl|rfl|rfl|rfl|rfl|rfl|rfl
          ·clear hD;refine aC rfl rfl ?_;simp only[zA,zB,zC,zD,zE,zF,zJ,zK,zG,zH,zI] at hK⊢;refine wp_load_row 116 _ rfl PW rfl 116 _ (0,0) _ (aB hB HW4.out) Tryz.underlying116 rfl bD ?_;exact hK _ _ (aBQ _ _) rfl
          ·clear hD;refine aC rfl rfl ?_;simp only[zA,zB,zC,zD,zE,zF,zJ,zK,zG,zH,zI] at hK⊢;go_simp;exact hK _ _ (aBQ _ _) rfl
          ·clear hD;refine aC rfl rfl ?_;simp only[zA,zB,zC,zD,zE,zF,zJ,zK,zG,zH,zI] at hK⊢;go_simp;exact hK _ _ (aBQ _ _) rfl
          ·have e0:=hD 0 (by kernel_rfl)
           replace e0:ν 0=(dK ⟨pa,pn,pc,ba,bn,bc,ta,tc,fa,fc⟩):=e0
           have e1:=hD 1 (by kernel_rfl)
           replace e1:ν 1=(.slice (some ⟨b,o,none⟩) n c):=e1
           have e2:=hD 2 (by kernel_rfl)
           replace e2:ν 2=(.int .i64 (k:Int)):=e2
           clear hD;refine aC rfl rfl ?_;simp only[zA,zB,zC,zD,zE,zF,zJ,zK,zG,zH,zI,e0,e1,e2] at hK⊢;go_simp;refine(BG ⟨pa,pn,pc,ba,bn,bc,ta,tc,fa,fc⟩ HBN.out (some ⟨b,o,none⟩) n c ls k w1 (HT.out.ext (aA HB4.out hB)) hlt HPAR.out).mono ?_;rintro e w3 ⟨rfl,hb3⟩;rw[HSTD.out];exact hK _ _ hb3 rfl
          ·have e3:=hD 3 (by kernel_rfl)
           replace e3:ν 3=(.bool true):=e3
           clear hD;refine aC rfl rfl ?_;simp only[zA,zB,zC,zD,zE,zF,zJ,zK,zG,zH,zI,e3] at hK⊢;go_simp;exact hK _ _ (aBQ _ _) rfl
          ·have e3:=hD 3 (by kernel_rfl)
           replace e3:ν 3=(.bool true):=e3
           have e4:=hD 4 (by kernel_rfl)
           replace e4:ν 4=(.bool false):=e4
           clear hD;refine aC rfl rfl ?_;simp only[zA,zB,zC,zD,zE,zF,zJ,zK,zG,zH,zI,e3,e4] at hK⊢;go_simp;exact hK _ _ (aBQ _ _) rfl
          ·have e5:=hD 5 (by kernel_rfl)
           replace e5:ν 5=(.bool false):=e5
           clear hD;simp only[zA,zB,zC,zD,zE,zF,zJ,zK,zG,zH,zI,e5] at hK⊢;refine bH rfl (by rfl) ?_;refine wp_load_row 116 _ rfl PW rfl 116 _ (0,0) _ (aB hB HW4.out) Tryz.underlying116 rfl bD ?_;exact hK _ _ (aBQ _ _) rfl
          ·have e5:=hD 5 (by kernel_rfl)
           replace e5:ν 5=(.bool false):=e5
           clear hD;simp only[zA,zB,zC,zD,zE,zF,zJ,zK,zG,zH,zI,e5] at hK⊢;refine bH rfl (by rfl) ?_;go_simp;exact hK _ _ (aBQ _ _) rfl
          ·have e5:=hD 5 (by kernel_rfl)
           replace e5:ν 5=(.bool false):=e5
           clear hD;simp only[zA,zB,zC,zD,zE,zF,zJ,zK,zG,zH,zI,e5] at hK⊢;refine bH rfl (by rfl) ?_;go_simp;exact hK _ _ (aBQ _ _) rfl
          ·have e5:=hD 5 (by kernel_rfl)
           replace e5:ν 5=(.bool false):=e5
           have e7:=hD 7 (by kernel_rfl)
           replace e7:ν 7=(.slice (some ⟨b,o,none⟩) n c):=e7
           have e8:=hD 8 (by kernel_rfl)
           replace e8:ν 8=(.int .i64 (k:Int)):=e8
           clear hD;simp only[zA,zB,zC,zD,zE,zF,zJ,zK,zG,zH,zI,e5,e7,e8] at hK⊢;refine bH rfl (by rfl) ?_;go_simp;exact hK _ _ (aBQ _ _) rfl
          ·have e5:=hD 5 (by kernel_rfl)
           replace e5:ν 5=(.bool false):=e5
           have e9:=hD 9 (by kernel_rfl)
           replace e9:ν 9=(.pointer (some ⟨b,o+k*3,none⟩)):=e9
           clear hD;simp only[zA,zB,zC,zD,zE,zF,zJ,zK,zG,zH,zI,e5,e9] at hK⊢;refine bH rfl (by rfl) ?_;have c0':=aH hB C0.out;have c1':=aH hB C1.out;have c2':=aH hB C2.out;go_simp;exact hK _ _ (aBQ _ _) rfl
          ·have e5:=hD 5 (by kernel_rfl)
           replace e5:ν 5=(.bool false):=e5
           clear hD;simp only[zA,zB,zC,zD,zE,zF,zJ,zK,zG,zH,zI,e5] at hK⊢;refine bH rfl (by rfl) ?_;go_simp;exact hK _ _ (aBQ _ _) rfl
          ·have e5:=hD 5 (by kernel_rfl)
           replace e5:ν 5=(.bool false):=e5
           clear hD;simp only[zA,zB,zC,zD,zE,zF,zJ,zK,zG,zH,zI,e5] at hK⊢;refine bH rfl (by rfl) ?_;go_simp;exact hK _ _ (aBQ _ _) rfl
          ·have e5:=hD 5 (by kernel_rfl)
           replace e5:ν 5=(.bool false):=e5
           have e11:=hD 11 (by kernel_rfl)
           replace e11:ν 11=(.slice (some ⟨b,o,none⟩) n c):=e11
           have e12:=hD 12 (by kernel_rfl)
           replace e12:ν 12=(.int .i64 (k:Int)):=e12
           clear hD;simp only[zA,zB,zC,zD,zE,zF,zJ,zK,zG,zH,zI,e5,e11,e12] at hK⊢;refine bH rfl (by rfl) ?_;go_simp;refine(uY (some ⟨b,o,none⟩) n c ls (k:Int) w1 (HT.out.ext (aA HB4.out hB)) (by unfold I64;omega) HTOT.out).mono ?_;rintro e w3 ⟨v,rfl,ho,hb3⟩;obtain⟨al,cl,rfl⟩:=ho.form;exact hK _ _ hb3 ⟨al,cl,rfl,ho⟩
          ·have e5:=hD 5 (by kernel_rfl)
           replace e5:ν 5=(.bool false):=e5
           have e13:=hD 13 (by kernel_rfl);unfold dV at e13;simp only[List.getD_cons_zero,List.getD_cons_succ,gG] at e13;clear hD;simp only[zA,zB,zC,zD,zE,zF,zJ,zK,zG,zH,zI,e5] at hK⊢;refine bH rfl (by rfl) ?_;obtain⟨al,cl,e13',ho3⟩:=e13;simp only[e13'] at hK⊢;rw[e13'] at ho3;go_simp;refine(UT al _ cl (fK (aJ ls) (k:Int)) w1 ho3.ints).mono ?_;rintro e w3 ⟨rfl,hb3⟩;exact hK _ _ hb3 rfl
          ·have e5:=hD 5 (by kernel_rfl)
           replace e5:ν 5=(.bool false):=e5
           have e6:=hD 6 (by kernel_rfl)
           replace e6:ν 6=(dK ⟨pa,pn,pc,ba,bn,bc,ta,tc,fa,fc⟩):=e6
           have e10:=hD 10 (by kernel_rfl)
           replace e10:ν 10=(PP t):=e10
           have e14:=hD 14 (by kernel_rfl)
           replace e14:ν 14=(.agg (aQ (iH (aJ ls) k))):=e14
           clear hD;simp only[zA,zB,zC,zD,zE,zF,zJ,zK,zG,zH,zI,e5,e6,e10,e14] at hK⊢;refine bH rfl (by rfl) ?_;go_simp;refine(SY ⟨pa,pn,pc,ba,bn,bc,ta,tc,fa,fc⟩ (aG bs) t (iH (aJ ls) k) w1 (HWK4.out.ext hB) (kF HF.out) (AM _) (HIN.out.ext hB) HKD.out HBLK.out HLE.out).mono ?_;rintro e w3 ⟨rfl,hb3⟩;exact hK _ _ hb3 rfl
          ·have e5:=hD 5 (by kernel_rfl)
           replace e5:ν 5=(.bool false):=e5
           have e15:=hD 15 (by kernel_rfl)
           replace e15:ν 15=(.bool (dC (aG bs) t.d (iH (aJ ls) k))):=e15
           clear hD;simp only[zA,zB,zC,zD,zE,zF,zJ,zK,zG,zH,zI,e5,e15] at hK⊢;refine bH rfl (by rfl) ?_;go_simp;exact hK _ _ (aBQ _ _) rfl
          ·have e5:=hD 5 (by kernel_rfl)
           replace e5:ν 5=(.bool false):=e5
           have e16:=hD 16 (by kernel_rfl)
           replace e16:ν 16=(.bool (!dC (aG bs) t.d (iH (aJ ls) k))):=e16
           clear hD;refine aC rfl rfl ?_;simp only[zA,zB,zC,zD,zE,zF,zJ,zK,zG,zH,zI,e5,e16] at hK⊢;go_simp;exact hK _ _ (aBQ _ _) rfl
         ·intro ν lo hi w1 hB hS hI hD;have e0:ν 0=(dK ⟨pa,pn,pc,ba,bn,bc,ta,tc,fa,fc⟩):=hS 0 (by omega);have e1:ν 1=(.slice (some ⟨b,o,none⟩) n c):=hS 1 (by omega);have e2:ν 2=(.int .i64 (k:Int)):=hS 2 (by omega);have e3:ν 3=(.bool true):=hS 3 (by omega);have e4:ν 4=(.bool false):=hS 4 (by omega);have e5:ν 5=(.bool false):=hS 5 (by omega);have e6:ν 6=(dK ⟨pa,pn,pc,ba,bn,bc,ta,tc,fa,fc⟩):=hS 6 (by omega);have e7:ν 7=(.slice (some ⟨b,o,none⟩) n c):=hS 7 (by omega);have e8:ν 8=(.int .i64 (k:Int)):=hS 8 (by omega);have e9:ν 9=(.pointer (some ⟨b,o+k*3,none⟩)):=hS 9 (by omega);have e10:ν 10=(PP t):=hS 10 (by omega);have e11:ν 11=(.slice (some ⟨b,o,none⟩) n c):=hS 11 (by omega);have e12:ν 12=(.int .i64 (k:Int)):=hS 12 (by omega);have e13:=hS 13 (by omega);unfold dV at e13;simp only[List.getD_cons_zero,List.getD_cons_succ,gG] at e13;have e14:ν 14=(.agg (aQ (iH (aJ ls) k))):=hS 14 (by omega);have e15:ν 15=(.bool (dC (aG bs) t.d (iH (aJ ls) k))):=hS 15 (by omega);have e16:ν 16=(.bool (!dC (aG bs) t.d (iH (aJ ls) k))):=hS 16 (by omega);have e17:ν 17=(.bool (!dC (aG bs) t.d (iH (aJ ls) k))):=hS 17 (by omega);clear hS;simp only[List.drop_succ_cons,List.drop_zero,zA,zB,zC,zD,zE,zF,zJ,zK,zG,zH,zI,e0,e1,e2,e3,e4,e5,e6,e7,e8,e9,e10,e11,e12,e14,e15,e16,e17];have HB5:=aBO (aA HB4.out hB);have HW5:=aBO (aB hB HW4.out);have HWK5:=aBO (HWK4.out.ext hB);clear hI hD hB e0 e1 e2 e3 e4 e5 e6 e7 e8 e9 e10 e11 e12 e13 e14 e15 e16 e17;cases hh:dC (aG bs) t.d (iH (aJ ls) k) with
          |false=>
           have hE:=aBO (HNO.out (by rw[HSTD.out,hh];rfl));simp only[hh,Bool.not_false];clear hh;go_wp2
           go_ret
           exact⟨(congrArg (fun b=>Ending.returned (Value.bool b)) hE.out).symm,HB5.out⟩
          |true=>
           have hE:=aBO (HYES.out (by rw[HSTD.out,hh];rfl));simp only[hh,Bool.not_true];clear hh;go_wp2
           go_roundw
           case rel=>exact⟨k+1,by omega,by go_num,hE,HW5,HWK5,HB5⟩
           case measure=>simp[intOf];omega
       ·obtain rfl:k=n:=by omega
        have HE:Hid (cZ (aG bs) (aJ ls)=true):=by
         have h1:∀k,k<(aJ ls).length→eV bn (aJ ls) k=true∧dC (aG bs) ((aJ ls).getD k fC) (iH (aJ ls) k)=true:=fun j hj=>by
          rw[cQ,HLN.out] at hj;have:=HR.out j hj
          rwa [Bool.and_eq_true] at this
         simp only[Hid,cZ,Bool.and_eq_true,List.all_eq_true,List.mem_range,HTL.out,decide_eq_true_eq];exact⟨⟨⟨⟨⟨HF.out,by rw[cQ,HLN.out];exact hl⟩,HPAR.out⟩,HOB.out⟩,by rw[HZ.out];rfl⟩,h1⟩
        clear HR;go_wp2
        go_ret
        exact⟨(congrArg (fun b=>Ending.returned (Value.bool b)) HE.out).symm,HB4.out⟩
     ·have HE:Hid (cZ (aG bs) (aJ ls)=false):=by simp[Hid,cZ,hz]
      have dz:(((rA (aJ ls) 0:Nat):Int) != 0)=true:=by simpa using hz
      clear hz;go_wp2
      go_ret
      exact⟨(congrArg (fun b=>Ending.returned (Value.bool b)) HE.out).symm,HB5.out⟩
  ·have dl:decide ((n:Int)>200)=true:=by simp;omega
   have dl2:decide ((200:Int)<(n:Int))=true:=by simp;omega
   have HE:Hid (cZ (aG bs) (aJ ls)=false):=by
    have:¬(aJ ls).length≤200:=by rw[cQ,HLN.out];exact hl
    simp[Hid,cZ,this]
   clear hl;go_wp2
   go_ret
   exact⟨(congrArg (fun b=>Ending.returned (Value.bool b)) HE.out).symm,HB3.out⟩
end

section
open Go.RowKit
structure aAR where
 op:Int
 dst:Int
 a:Int
 b:Int
 imm:Int
 callee:Int
 args:List Int
 many:Int
abbrev aBL(i:aAR)(aa:Option Addr)(na ca:Nat):Value:=.agg #[.int .i64 i.op,.int .i64 i.dst,.int .i64 i.a,.int .i64 i.b,.int .i64 i.imm,.int .i64 i.callee,.slice aa na ca,.int .i64 i.many]
structure mC where
 d:aAR
 aa:Option Addr
 na:Nat
 ca:Nat
def yV(r:mC):List Value:= [.int .i64 r.d.op,.int .i64 r.d.dst,.int .i64 r.d.a,.int .i64 r.d.b,.int .i64 r.d.imm,.int .i64 r.d.callee,.slice r.aa r.na r.ca,.int .i64 r.d.many]
theorem AS(r:mC):(yV r).length=8:=rfl
def lZ(w:World)(r:mC):Prop:=dY w r.aa r.na r.d.args∧r.na≤r.ca∧I64 r.d.op∧I64 r.d.dst∧I64 r.d.a∧I64 r.d.b∧I64 r.d.imm∧I64 r.d.callee∧I64 r.d.many
theorem lZ.ext{w w':World}{r:mC}(h:lZ w r)(hb:Below w.heap.size w w'):lZ w' r:=⟨h.1.ext hb,h.2⟩
def uR(w:World)(a:Option Addr)(n:Nat)(rs:List mC):Prop:=kM 8 yV w a n rs∧∀r∈rs,lZ w r
theorem uR.ext{w w':World}{a:Option Addr}{n:Nat}{rs:List mC}(h:uR w a n rs)(hb:Below w.heap.size w w'):uR w' a n rs:=
 ⟨h.1.ext AS hb,fun r hr=>(h.2 r hr).ext hb⟩
theorem uR.cells{w:World}{a:Option Addr}{n:Nat}{rs:List mC}(h:uR w a n rs){k:Nat}(hk:k<n):∃r b o,rs[k]? =some r∧lZ w r∧a=some ⟨b,o,none⟩∧
  w.cell? ⟨b,o+k*8,none⟩=some (.int .i64 r.d.op)∧w.cell? ⟨b,o+k*8+1,none⟩=some (.int .i64 r.d.dst)∧w.cell? ⟨b,o+k*8+2,none⟩=some (.int .i64 r.d.a)∧w.cell? ⟨b,o+k*8+3,none⟩=some (.int .i64 r.d.b)∧
  w.cell? ⟨b,o+k*8+4,none⟩=some (.int .i64 r.d.imm)∧w.cell? ⟨b,o+k*8+5,none⟩=some (.int .i64 r.d.callee)∧w.cell? ⟨b,o+k*8+6,none⟩=some (.slice r.aa r.na r.ca)∧w.cell? ⟨b,o+k*8+7,none⟩=some (.int .i64 r.d.many):=by
 have hk':k<rs.length:=by rw[h.1.1];exact hk
 obtain⟨r,hr⟩:∃r,rs[k]? =some r:=⟨rs[k],aBU hk'⟩
 obtain⟨b,o,e,hc⟩:=h.1.2.2 k r hr
 exact⟨r,b,o,hr,h.2 r (aBY hr),e,hc 0 (by omega),hc 1 (by omega),hc 2 (by omega),hc 3 (by omega),hc 4 (by omega),hc 5 (by omega),hc 6 (by omega),hc 7 (by omega)⟩
abbrev xP(r:mC):Value:=aBL r.d r.aa r.na r.ca
end

section
open Go.RowKit
def aBG(w:World)(a:Option Addr)(n:Nat)(bs:List gS):Prop:=dU w a n bs∧∀b∈bs,∃rs,uR w b.ia b.n rs
end

section
open Go.RowKit
attribute [local go_sem] Oper.semAt_some cT bM cC bG
def CU(ls:List bK)(i:Nat):Nat:=((ls.take i).map fun t=>t.bn).sum
theorem RK(ls:List bK)(i:Nat)(t:bK)(h:ls[i]? =some t):CU ls (i+1)=CU ls i+t.bn:=by
 rw[CU,CU,List.take_add_one,h,Option.toList_some,List.map_append,List.sum_append];simp
theorem VG{w:World}{a:Option Addr}{n:Nat}{ls:List bK}(h:cM w a n ls):CU ls n=gZ (aJ ls):=by
 rw[CU,gZ,aJ,aCB (by rw[h.1.1];omega),List.map_map]
 congr 1
 refine List.map_congr_left fun t ht=>?_
 exact((h.2 t ht).1.1).symm
end

section
open Go.RowKit
attribute [local go_sem] Oper.semAt_some cT bM cC bG
structure iQ where
 h:gS
 rs:List mC
abbrev qX(b:iQ):List Value:=iZ b.h
theorem xM(b:iQ):(qX b).length=5:=rfl
def iU(w:World)(b:iQ):Prop:=qE b.h.t∧uR w b.h.ia b.h.n b.rs
theorem iU.ext{w w':World}{b:iQ}(h:iU w b)(hb:Below w.heap.size w w'):iU w' b:=⟨h.1,h.2.ext hb⟩
def mA(w:World)(a:Option Addr)(n:Nat)(bs:List iQ):Prop:=kM 5 qX w a n bs∧∀b∈bs,iU w b
theorem mA.ext{w w':World}{a:Option Addr}{n:Nat}{bs:List iQ}(h:mA w a n bs)(hb:Below w.heap.size w w'):mA w' a n bs:=⟨h.1.ext xM hb,fun b hx=>(h.2 b hx).ext hb⟩
def hOf(bs:List iQ):List gS:=bs.map (·.h)
theorem mA.x{w:World}{a:Option Addr}{n:Nat}{bs:List iQ}(h:mA w a n bs):aBG w a n (hOf bs):=by
 refine⟨⟨⟨by simp[hOf,h.1.1],h.1.2.1,fun k r hr=>?_⟩,fun b hb=>?_⟩,fun b hb=>?_⟩
 ·simp only[hOf,List.getElem?_map,Option.map_eq_some_iff] at hr;obtain⟨x,hx,rfl⟩:=hr;exact h.1.2.2 k x hx
 ·simp only[hOf,List.mem_map] at hb;obtain⟨x,hx,rfl⟩:=hb;exact(h.2 x hx).1
 ·simp only[hOf,List.mem_map] at hb;obtain⟨x,hx,rfl⟩:=hb;exact⟨x.rs,(h.2 x hx).2⟩
def xW(most:Int)(b:iQ):Prop:=(b.h.n:Int)≤most∧∀r∈b.rs,(r.na:Int)≤most
def NC(bs:List iQ)(most:Int)(w:World)(e:Ending)(w':World):Prop:=∃v:Int,e=.returned (.int .i64 v)∧0≤v∧v≤35184372088841∧(v≤most→(bs.length:Int)≤most∧∀b∈bs,xW most b)∧w=w'
theorem DP(a:Option Addr)(n c:Nat)(bs:List iQ)(most:Int)(h0:0≤most)(h1:most≤10000)(w:World)(h:mA w a n bs):
  Calls Tryz.prog 111 #[.slice a n c,.int .i64 most] w (NC bs most w):=by
 have H:=aBO h
 have HL:=aBO h.1.1
 have hn:=h.1.2.1
 clear h
 go_enter Tryz.func111,Tryz.ntmps111
 go_wp2
 go_loopg [5,6,7] n (fun gg s5 s6 _ wr=>∃(i:Nat) (acc:Int),s6=.int .i64 i∧s5=.int .i64 acc∧i≤n∧n-i≤gg∧(i:Int)≤acc∧acc≤35184372088841∧Hid (acc≤most→∀b∈bs.take i,xW most b)∧wr=w)
 case atStart=>exact⟨0,0,rfl,rfl,by omega,by omega,by omega,by omega,fun _ b hb=>by simp at hb,rfl⟩
 case round=>
  obtain⟨i,acc,rfl,rfl,hi,hgg,ha0,ha1,HR,rfl⟩:=hrel;by_cases hlt:i<n
  ·by_cases hm:acc≤most
   ·have hir:i<bs.length:=by rw[HL.out];exact hlt
    obtain⟨b,hb⟩:∃b,bs[i]? =some b:=⟨bs[i],aBU hir⟩
    obtain⟨B,o,rfl,hc⟩:=H.out.1.2.2 i b hb;have g0:=hc 0 (by omega);rw[Nat.add_zero] at g0;have hI:=(H.out.2 b (aBY hb)).2;have HI:=aBO hI;have hbn:=hI.1.2.1;have HB:=aBO hb;have g0':wr.cell? ⟨B,o+i*5,none⟩=some (.slice b.h.ia b.h.n b.h.c):=g0;have hmr:=HR.out hm;have HMR:=aBO hmr;clear hb hc hI g0 hmr;have hlt':(i:Int)<(n:Int):=by omega
    go_wp2;obtain⟨wo,rfl⟩:∃wo:World,wo=wr:=⟨_,rfl⟩
    have HT:Hid (∀acc2:Int,acc+1+b.h.n≤acc2→acc2≤most→(∀r∈b.rs,(r.na:Int)≤most)→∀x∈bs.take (i+1),xW most x):=fun acc2 h1 h2 h3 x hx=>by
     rw[List.take_add_one,HB.out,aCA] at hx;rcases hx with hx|hx
     ·exact HMR.out x hx
     ·simp at hx;subst hx;exact⟨by omega,h3⟩
    go_loopg [5,7] b.h.n (fun gg2 s5 s7 wi=>∃(k:Nat) (acc2:Int),s7=.int .i64 k∧s5=.int .i64 acc2∧k≤b.h.n∧b.h.n-k≤gg2∧acc+1+b.h.n≤acc2∧acc2≤35184372088841∧Hid (acc2≤most→∀r∈b.rs.take k,(r.na:Int)≤most)∧wi=wo)
    case atStart=>exact⟨0,acc+1+b.h.n,rfl,rfl,by omega,by omega,by omega,by omega,fun _ r hr=>by simp at hr,rfl⟩
    case round=>
     obtain⟨k,acc2,rfl,rfl,hk,hgg2,hb1,hb2,HRk,rfl⟩:=hrel;by_cases hk2:k<b.h.n
     ·by_cases hm2:acc2≤most
      ·obtain⟨r,bb,oo,hr,hok,hia,c0,c1,c2,c3,c4,c5,c6,c7⟩:=HI.out.cells hk2;have hna:=hok.1.2.1;rw[hia] at g0';have hkz:(k:Int)<(b.h.n:Int):=by omega
       have HRk2:Hid (acc2+r.na≤most→∀q∈b.rs.take (k+1),(q.na:Int)≤most):=fun h q hq=>by
        rw[List.take_add_one,hr,aCA] at hq;rcases hq with hq|hq
        ·exact HRk.out (by omega) q hq
        ·simp at hq;subst hq;omega
       clear hr hok c0 c1 c2 c3 c4 c5 c7 hia;go_wp2
       go_roundg (b.h.n-(k+1))
       case measure=>omega
       case rel=>exact⟨k+1,acc2+r.na,by go_num,rfl,by omega,aBV _,by omega,by omega,HRk2,rfl⟩
      ·have hkz:(k:Int)<(b.h.n:Int):=by omega
       have hm3:most<acc2:=by omega
       go_wp2
       go_roundg (n-(i+1))
       case measure=>omega
       case rel=>exact⟨i+1,acc2,by go_num,rfl,by omega,aBV _,by omega,by omega,fun h=>absurd h (by omega),rfl⟩
     ·have hkz:¬(k:Int)<(b.h.n:Int):=by omega
      have HRk3:Hid (acc2≤most→∀r∈b.rs,(r.na:Int)≤most):=fun h=>by
       have:=HRk.out h
       rwa [aCB (by rw[HI.out.1.1];omega)] at this
      go_wp2
      go_roundg (n-(i+1))
      case measure=>omega
      case rel=>exact⟨i+1,acc2,by go_num,rfl,by omega,aBV _,by omega,by omega,fun h=>HT.out acc2 hb1 h (HRk3.out h),rfl⟩
   ·have hm3:most<acc:=by omega
    have hlt':(i:Int)<(n:Int):=by omega
    go_wp2
    go_ret
    exact⟨acc,rfl,by omega,ha1,fun h=>absurd h (by omega),rfl⟩
  ·obtain rfl:i=n:=by omega
   have HT:Hid (bs.take i=bs):=aCB (by rw[HL.out];omega);go_wp2
   go_ret
   exact⟨acc,rfl,by omega,ha1,fun h=>⟨by rw[HL.out];omega,by have:=HR.out h;rw[HT.out] at this;exact this⟩,rfl⟩
def NA(pn:Nat)(bs:List iQ)(most:Int)(w:World)(e:Ending)(w':World):Prop:=∃z:Int,e=.returned (.int .i64 z)∧0≤z∧z≤70368744177664∧(z≤most→(pn:Int)≤most∧(bs.length:Int)≤most∧∀b∈bs,xW most b)∧Below w.heap.size w w'
theorem gW(pa:Option Addr)(pn pc:Nat)(hpn:pn≤17592186044416)(ba:Option Addr)(bn bc:Nat)(bs:List iQ)(most:Int)(h0:0≤most)(h1:most≤10000)(w:World)(h:mA w ba bn bs):
  Calls Tryz.prog 51 #[dX pa pn pc ba bn bc,.int .i64 most] w (NA pn bs most w):=by
 have HX:=aBO h
 clear h
 go_enter Tryz.func51,Tryz.ntmps51
 go_upto_region 1 with (fail)
 obtain⟨W,hW⟩:∃W,W=w.alloc (bO pa pn pc ba bn bc):=⟨_,rfl⟩
 rw[←hW]
 have hk0:W.heap[w.heap.size]? =some (bO pa pn pc ba bn bc):=by rw[hW];exact aBS _ _
 have hB:Below w.heap.size w W:=by rw[hW];exact aD _ _
 have HK:=aBO hk0
 have HB:=aBO hB
 clear hW hk0 hB
 refine dL 8 [some 5,some 6,some 7,some 8,some 9,some 10,some 11,some 12] (by kernel_rfl) (by kernel_rfl) (dV [.val (.pointer (some ⟨w.heap.size,0,none⟩)),.val (.slice pa pn pc),.val (.int .i64 (pn:Int)),.val (.pointer (some ⟨w.heap.size,1,none⟩)),.val (.slice ba bn bc),.val (.int .i64 most),(.any fun v lo hi W=>∃z:Int,v=.int .i64 z∧0≤z∧z≤35184372088841∧(z≤most→(bs.length:Int)≤most∧∀b∈bs,xW most b)),(.any fun v lo hi W=>∃z:Int,v=.int .i64 z∧0≤z∧z≤70368744177664∧(z≤most→(pn:Int)≤most∧(bs.length:Int)≤most∧∀b∈bs,xW most b))]) (dN ?_) ?_ ?_
 ·intro k hk;simp only[List.mem_cons,List.not_mem_nil,or_false] at hk;rcases hk with rfl|rfl|rfl|rfl|rfl|rfl|rfl|rfl
  ·exact trivial
  ·exact trivial
  ·exact trivial
  ·exact trivial
  ·exact trivial
  ·exact trivial
  ·intro v lo hi w w' _ h;exact h
  ·intro v lo hi w w' _ h;exact h
 ·intro i hi ν lo hi' w1 K hB hD hK;have hcase:i=0∨i=1∨i=2∨i=3∨i=4∨i=5∨i=6∨i=7:=by omega
  clear hi;rcases hcase with rfl|rfl|rfl|rfl|rfl|rfl|rfl|rfl
  ·clear hD;refine aC rfl rfl ?_;simp only[zA,zB,zC,zD,zE,zF,zJ,zK,zG,zH,zI] at hK⊢;go_simp;exact hK _ _ (aBQ _ _) rfl
  ·have e0:=hD 0 (by kernel_rfl)
   replace e0:ν 0=(.pointer (some ⟨w.heap.size,0,none⟩)):=e0
   clear hD;refine aC rfl rfl ?_;simp only[zA,zB,zC,zD,zE,zF,zJ,zK,zG,zH,zI,e0] at hK⊢;have hcl:w1.cell? ⟨w.heap.size,0,none⟩=some (.slice pa pn pc):=(by rw[aBP _ _ _ _ _ _ (aB hB HK.out)];rfl)
   go_simp;exact hK _ _ (aBQ _ _) rfl
  ·have e1:=hD 1 (by kernel_rfl)
   replace e1:ν 1=(.slice pa pn pc):=e1
   clear hD;refine aC rfl rfl ?_;simp only[zA,zB,zC,zD,zE,zF,zJ,zK,zG,zH,zI,e1] at hK⊢;go_simp;exact hK _ _ (aBQ _ _) rfl
  ·clear hD;refine aC rfl rfl ?_;simp only[zA,zB,zC,zD,zE,zF,zJ,zK,zG,zH,zI] at hK⊢;go_simp;exact hK _ _ (aBQ _ _) rfl
  ·have e3:=hD 3 (by kernel_rfl)
   replace e3:ν 3=(.pointer (some ⟨w.heap.size,1,none⟩)):=e3
   clear hD;refine aC rfl rfl ?_;simp only[zA,zB,zC,zD,zE,zF,zJ,zK,zG,zH,zI,e3] at hK⊢;have hcl:w1.cell? ⟨w.heap.size,1,none⟩=some (.slice ba bn bc):=(by rw[aBP _ _ _ _ _ _ (aB hB HK.out)];rfl)
   go_simp;exact hK _ _ (aBQ _ _) rfl
  ·clear hD;refine aC rfl rfl ?_;simp only[zA,zB,zC,zD,zE,zF,zJ,zK,zG,zH,zI] at hK⊢;go_simp;exact hK _ _ (aBQ _ _) rfl
  ·have e4:=hD 4 (by kernel_rfl)
   replace e4:ν 4=(.slice ba bn bc):=e4
   have e5:=hD 5 (by kernel_rfl)
   replace e5:ν 5=(.int .i64 most):=e5
   clear hD;refine aC rfl rfl ?_;simp only[zA,zB,zC,zD,zE,zF,zJ,zK,zG,zH,zI,e4,e5] at hK⊢;go_simp;refine(DP ba bn bc bs most h0 h1 w1 (HX.out.ext (aA HB.out hB))).mono ?_;rintro e w3 ⟨z,rfl,hz0,hz1,hz2,rfl⟩;exact hK _ _ (aBQ _ _) ⟨z,rfl,hz0,hz1,hz2⟩
  ·have e2:=hD 2 (by kernel_rfl)
   replace e2:ν 2=(.int .i64 (pn:Int)):=e2
   have e6:=hD 6 (by kernel_rfl);unfold dV at e6;simp only[List.getD_cons_zero,List.getD_cons_succ,gG] at e6;clear hD;refine aC rfl rfl ?_;simp only[zA,zB,zC,zD,zE,zF,zJ,zK,zG,zH,zI,e2] at hK⊢;obtain⟨z,hz,hz0,hz1,hz2⟩:=e6;simp only[hz] at hK⊢;go_simp;exact hK _ _ (aBQ _ _) ⟨(pn:Int)+z,by rw[IntKind.wrap_i64];congr 1;omega,by omega,by omega,fun h=>⟨by omega,hz2 (by omega)⟩⟩
 ·intro ν lo hi w1 hB hS hI hD;have e0:ν 0=(.pointer (some ⟨w.heap.size,0,none⟩)):=hS 0 (by omega);have e1:ν 1=(.slice pa pn pc):=hS 1 (by omega);have e2:ν 2=(.int .i64 (pn:Int)):=hS 2 (by omega);have e3:ν 3=(.pointer (some ⟨w.heap.size,1,none⟩)):=hS 3 (by omega);have e4:ν 4=(.slice ba bn bc):=hS 4 (by omega);have e5:ν 5=(.int .i64 most):=hS 5 (by omega);have e6:=hS 6 (by omega);unfold dV at e6;simp only[List.getD_cons_zero,List.getD_cons_succ,gG] at e6;have e7:=hS 7 (by omega);unfold dV at e7;simp only[List.getD_cons_zero,List.getD_cons_succ,gG] at e7;clear hS;simp only[List.drop_succ_cons,List.drop_zero,zA,zB,zC,zD,zE,zF,zJ,zK,zG,zH,zI,e0,e1,e2,e3,e4,e5];clear e0 e1 e2 e3 e4 e5 e6;obtain⟨z,hz,hz0,hz1,hz2⟩:=e7;rw[hz];have HZ2:=aBO hz2;have HB9:=aBO (aA HB.out hB);clear hI hD hB hz2;go_wp2
  go_ret
  exact⟨z,rfl,hz0,hz1,HZ2.out,HB9.out⟩
def PO(bn:Nat)(pn:Nat)(bs:List iQ)(n:Nat)(ls:List bK)(most:Nat)(w:World)(e:Ending)(w':World):Prop:=
 ∃b,e=.returned (.bool b)∧Below w.heap.size w w'∧(b=false→(bn≤most∨200<bn)∧n+gZ (aJ ls)≤3*most∧(pn:Int)≤2000∧(bs.length:Int)≤2000∧∀b∈bs,xW 2000 b)
end

section
open Go.RowKit
structure Chg(S:Nat→Prop)(w w':World):Prop where
 os:w'.os=w.os
 tape:w'.tape=w.tape
 output:w'.output=w.output
 size:w.heap.size≤w'.heap.size
 block:∀k,k<w.heap.size→¬S k→w'.heap[k]? =w.heap[k]?
theorem Chg.refl(S:Nat→Prop)(w:World):Chg S w w:=⟨rfl,rfl,rfl,aBV _,fun _ _ _=>rfl⟩
theorem Chg.trans{S:Nat→Prop}{a b c:World}(h:Chg S a b)(k:Chg S b c):Chg S a c:=
 ⟨k.os.trans h.os,k.tape.trans h.tape,k.output.trans h.output,aCD h.size k.size,fun i hi hn=>(k.block i (Nat.lt_of_lt_of_le hi h.size) hn).trans (h.block i hi hn)⟩
theorem Chg.drewN{S:Nat→Prop}{a w:World}(h:Chg S a w)(n:Nat):Chg S a (w.drewN n):=⟨h.os,h.tape,h.output,h.size,h.block⟩
theorem Chg.grown{S:Nat→Prop}{a w w':World}{row:Option Nat}(h:Chg S a w)(hg:w.grownBy w' row)(hr:∀k,row=some k→S k∨a.heap.size≤k):Chg S a w':=
 ⟨hg.os.trans h.os,hg.tape.trans h.tape,hg.output.trans h.output,aCD h.size hg.size,fun k hk hn=>(hg.block k (Nat.lt_of_lt_of_le hk h.size) (fun e=>by
  rcases hr k e.symm with h1|h1
  ·exact hn h1
  ·omega)).trans (h.block k hk hn)⟩
theorem Chg.setCell{S:Nat→Prop}{a w:World}(h:Chg S a w){p:Addr}(hp:S p.block∨a.heap.size≤p.block)(u:Value):Chg S a (w.setCell p u):=
 ⟨h.os,h.tape,h.output,aCD h.size (by simp[World.setCell]),fun k hk hn=>(Below.heap_setCell w p u k (fun e=>by
  subst e;rcases hp with h1|h1
  ·exact hn h1
  ·omega)).trans (h.block k hk hn)⟩
theorem Chg.mono{S T:Nat→Prop}{a w:World}(h:Chg S a w)(hs:∀k,S k→T k):Chg T a w:=⟨h.os,h.tape,h.output,h.size,fun k hk hn=>h.block k hk (fun hk'=>hn (hs k hk'))⟩
theorem Chg.below{S:Nat→Prop}{a w:World}{B:Nat}(h:Chg S a w)(hB:B≤a.heap.size)(hs:∀k,S k→B≤k):Below B a w:=
 ⟨h.os,h.tape,h.output,h.size,fun k hk=>h.block k (by omega) (fun hk'=>by have:=hs k hk';omega)⟩
theorem Chg.of_ext{S:Nat→Prop}{a b c:World}(h:Chg S a b)(hb:Below b.heap.size b c):Chg S a c:=h.trans ⟨hb.os,hb.tape,hb.output,hb.size,fun k hk _=>hb.block k hk⟩
theorem fY{S:Nat→Prop}{w w':World}{base:Nat}{e:TypeId}{size:Nat}{v:Value}{n:Nat}{xs:List Value}(h:w.ownsRow base e size v n xs)(hc:Chg S w w')(hn:∀g,v.ownBlock=some g→¬S g):w'.ownsRow base e size v n xs:=by
 refine⟨h.1,?_⟩
 rcases h.2 with h2|⟨g,cap,cur,rfl,hb,hh,r⟩
 ·exact .inl h2
 ·exact .inr ⟨g,cap,cur,rfl,hb,(hc.block g (aBW.1 hh).1 (hn g rfl)).trans hh,r⟩
theorem gL{w:World}{base base':Nat}{e e':TypeId}{size size':Nat}{v v':Value}{n n':Nat}{xs xs':List Value}(h:w.ownsRow base e size v n xs)(h':w.ownsRow base' e' size' v' n' xs')(hne:e≠e'):
  ∀g,v.ownBlock=some g→v'.ownBlock≠some g:=by
 intro g hg hg'
 rcases h.2 with ⟨rfl,_⟩|⟨b,cap,cur,rfl,_,hh,_⟩
 ·simp[Value.ownBlock] at hg
 ·rcases h'.2 with ⟨rfl,_⟩|⟨b',cap',cur',rfl,_,hh',_⟩
  ·simp[Value.ownBlock] at hg'
  ·simp only[Value.ownBlock,Option.some.injEq] at hg hg';subst hg;subst hg';rw[hh] at hh';injection hh' with hh';injection hh' with _ ht;exact hne ht
theorem tY{w:World}{base:Nat}{e:TypeId}{size:Nat}{v:Value}{n:Nat}{xs:List Value}(h:w.ownsRow base e size v n xs):∀g,v.ownBlock=some g→base≤g∧g<w.heap.size:=h.lt
def IF(e:TypeId)(size:Nat)(v:Value)(n:Nat)(w w':World):Prop:=
 ∀(base0:Nat) (v0:Value) (n0:Nat) (xs0:List Value),w.ownsRow base0 e size v0 n0 xs0→(∀g,v0.ownBlock=some g→v.ownBlock=some g→n0≤n)→w'.ownsRow base0 e size v0 n0 xs0
section
variable {P:Program} {Q:Exit→Act→World→Prop}
theorem yS(w:World)(base:Nat)(t ty e:TypeId)(i:TypeInfo)(z:Value)(size bytes:Nat)(ht:P.underlying t=some (.slice e))(hi:P.info? e=some i)(hz:i.zero=some z)
  (hsize:i.size=size) (hby:i.bytes=bytes) (hzs:z.cells.size=size) (hsz:0<size)
  (v:Value) (n:Nat) (xs:List Value) (hown:w.ownsRow base e size v n xs)
  (a:Addr) (m c:Nat) (news:List Value) (hl:news.length=m*size) (hnews:∀j u,news[j]? =some u→w.cell? (a.add j)=some u) (h1:∀u∈news,u.oneCell'=true)
  (h63:n+m≤maxLen) (hbytes:(n+m)*bytes≤140737488355328) (hbase:base≤w.heap.size):
  ∃v' w',(Builtin.append_ #[t,t] ty #[v,.slice (some a) m c]).run P w=.ok v' w'∧w'.ownsRow base e size v' (n+m) (xs++news)∧w.grownBy w' v.ownBlock∧
   (v'.ownBlock=v.ownBlock∨v'.ownBlock=some w.heap.size)∧IF e size v n w w':=by
 obtain⟨v',w',hrun,h2,h3,h4,h5⟩:=run_append_own_at (P:=P) w base t ty e i z size bytes ht hi hz hsize hby hzs hsz v n xs hown a m c news hl hnews h1 h63 hbytes hbase
 refine⟨v',w',hrun,h2,h3,h5,?_⟩
 intro base0 v0 n0 xs0 h0 hle
 rcases h0.2 with ⟨hv0,hn0⟩|⟨g0,cap0,cur0,hv0,hb0,hh0,hnc0,hcm0,hcs0,htake0⟩
 ·exact⟨h0.1,.inl ⟨hv0,hn0⟩⟩
 ·subst hv0;by_cases hblk:v.ownBlock=some g0
  ·have hn0:=hle g0 rfl hblk;rcases hown.2 with ⟨rfl,_⟩|⟨g,cap,cur,rfl,hbg,hg,hnc,hcm,hcs,htake⟩
   ·simp[Value.ownBlock] at hblk
   ·simp only[Value.ownBlock,Option.some.injEq] at hblk;subst hblk;rw[hg] at hh0;injection hh0 with hh0;injection hh0 with hcc _;subst hcc;have hcap:cap=cap0:=Nat.eq_of_mul_eq_mul_right hsz (hcs.symm.trans hcs0);subst hcap;have hle2:n0*size≤n*size:=Nat.mul_le_mul_right _ hn0;have hxs0:xs0=xs.take (n0*size):=by
     rw[←htake0,←htake,List.take_take,Nat.min_eq_left hle2]
    by_cases hroom:n+m≤cap
    ·obtain⟨w'',hr,h6,h7⟩:=run_append_own_spare (P:=P) w base t ty e i size ht hi hsize g n cap xs hown a m c news hl hnews h1 hroom;rw[hrun] at hr;injection hr with e1 e2;subst e1;subst e2;rcases h6.2 with ⟨hbad,_⟩|⟨g',cap',cur',hv',hb',hh',hnc',hcm',hcs',htake'⟩
     ·cases hbad
     ·injection hv' with e1 e2 e3;injection e1 with e1;injection e1 with e1 _ _;subst e1;subst e3;refine⟨h0.1,.inr ⟨g,cap,cur',rfl,hb0,hh',hnc0,hcm0,hcs',?_⟩⟩;have:cur'.toList.take (n0*size)=(cur'.toList.take ((n+m)*size)).take (n0*size):=by
       rw[List.take_take,Nat.min_eq_left (Nat.mul_le_mul_right _ (by omega))]
      rw[this,htake',hxs0,List.take_append_of_le_length (by rw[hown.1];exact hle2)]
    ·have holds:∀j u,xs[j]? =some u→w.cell? ((⟨g,0,none⟩:Addr).add j)=some u:=hown.cells (g:=g) rfl;subst hsize;have hr:=run_append_grow (P:=P) w t ty e i z ht hi hz ⟨g,0,none⟩ n cap xs hown.1 holds a m c news hl hnews (by omega) (by simp only[maxLen] at h63;omega) (growslice_fits (by omega) (by rw[hby];exact hbytes));rw[hrun] at hr;injection hr with e1 e2;subst e2;refine⟨h0.1,.inr ⟨g,cap,cur,rfl,hb0,?_,hnc0,hcm0,hcs,htake0⟩⟩;exact(aBR _ _ _ (by simpa using (aBW.1 hg).1)).trans hg
  ·exact h0.kept h3 (.inr (fun e=>hblk e.symm))
theorem iT{ops:Array Oper}{rest:List Oper}{o:Oper}{a:Act}(hgd:o.guard=none)(w0:World)(s x:Operand)(t e:TypeId)(ho:o.op=.call {callee:=.builtin .append,args:=#[s,x],argTypes:=#[t,t]})
  (base:Nat) (z:Value) (size bytes:Nat) (ht:P.underlying t=some (.slice e)) (hinfo:(P.info? e).map (fun i=>(i.zero,i.size,i.bytes))=some (some z,size,bytes)) (hzs:z.cells.size=size) (hsz:0<size)
  (v:Value) (n:Nat) (xs news:List Value) (hs:a.eval s=v) (hown:w0.ownsRow base e size v n xs) (H:Nat) (hH:w0.heap.size=H) (hx:a.eval x=.slice (some ⟨H,0,none⟩) 1 1) (hl:news.length=size) (h1:∀u∈news,u.oneCell'=true)
  (h63:n+1≤maxLen) (hbytes:(n+1)*bytes≤140737488355328) (hbase:base≤w0.heap.size)
  (h:∀g cap w',w'.ownsRow base e size (.slice (some ⟨g,0,none⟩) (n+1) cap) (n+1) (xs++news)→w0.grownBy w' v.ownBlock→(some g=v.ownBlock∨g=H+1)→IF e size v n w0 w'→wpList P ops Q rest (a.put o.dst (.slice (some ⟨g,0,none⟩) (n+1) cap)) w'):
  wpList P ops Q (o :: rest) a (w0.alloc (.cells news.toArray e)):=by
 refine wpList_plain hgd fun K hK=>?_
 subst hH
 obtain⟨i,hi,hz,hsize,hby⟩:=info_parts hinfo
 have hnews:∀j u,news[j]? =some u→(w0.alloc (.cells news.toArray e)).cell? ((⟨w0.heap.size,0,none⟩:Addr).add j)=some u:=by
  intro j u hu;have hadd:(⟨w0.heap.size,0,none⟩:Addr).add j=⟨w0.heap.size,j,none⟩:=by unfold Addr.add;split<;>simp_all
  rw[hadd,aBP _ _ _ _ _ _ (World.alloc_heap_new w0 _)];simpa using hu
 obtain⟨v',w',hrun,h2,h3,h5,h6⟩:=yS (P:=P) (w0.alloc (.cells news.toArray e)) base t o.type e i z size bytes ht hi hz hsize hby hzs hsz v n xs (hown.alloc _) ⟨w0.heap.size,0,none⟩ 1 1 news (by omega) hnews h1 h63 hbytes (by simp;omega)
 obtain⟨g,cap,rfl⟩:∃g cap,v'=.slice (some ⟨g,0,none⟩) (n+1) cap:=by
  rcases h2.2 with ⟨_,h0⟩|⟨g,cap,cur,hv,_⟩
  ·omega
  ·exact⟨g,cap,hv⟩
 have hg:w0.grownBy w' v.ownBlock:=by
  refine⟨h3.os,h3.tape,h3.output,aCD (by simp) h3.size,fun k hk hne=>?_⟩;rw[h3.block k (by simp;omega) hne];exact aBR _ _ _ hk
 unfold Oper.wp execOp
 simp only[ho,resolve,invoke,builtin,Sem.run_bind,Sem.run_pure,Result.andThen_ok,List.map_toArray,List.map_cons,List.map_nil,hs,hx,hrun]
 refine hK _ _ (h g cap w' h2 hg ?_ (fun b0 v0 n0 xs0 h0 hle=>h6 b0 v0 n0 xs0 (h0.alloc _) hle))
 rcases h5 with h5|h5
 ·exact Or.inl (by simpa[Value.ownBlock] using h5)
 ·exact Or.inr (by simpa[Value.ownBlock] using h5)
theorem rZ{ops:Array Oper}{rest:List Oper}{o:Oper}{a:Act}(hgd:o.guard=none)(w:World)(s x:Operand)(t e:TypeId)(ho:o.op=.call {callee:=.builtin .append,args:=#[s,x],argTypes:=#[t,t]})
  (base:Nat) (z:Value) (size bytes:Nat) (ht:P.underlying t=some (.slice e)) (hinfo:(P.info? e).map (fun i=>(i.zero,i.size,i.bytes))=some (some z,size,bytes)) (hzs:z.cells.size=size) (hsz:0<size)
  (v:Value) (n:Nat) (xs:List Value) (hs:a.eval s=v) (hown:w.ownsRow base e size v n xs) (M m c:Nat) (news:List Value) (hx:a.eval x=.slice (some ⟨M,0,none⟩) m c) (hm:w.ownsRow base e size (.slice (some ⟨M,0,none⟩) m c) m news) (h1:∀u∈news,u.oneCell'=true)
  (h63:n+m≤maxLen) (hbytes:(n+m)*bytes≤140737488355328) (hbase:base≤w.heap.size)
  (h:∀v' w',w'.ownsRow base e size v' (n+m) (xs++news)→w.grownBy w' v.ownBlock→(v'.ownBlock=v.ownBlock∨v'.ownBlock=some w.heap.size)→IF e size v n w w'→wpList P ops Q rest (a.put o.dst v') w'):
  wpList P ops Q (o :: rest) a w:=by
 refine wpList_plain hgd fun K hK=>?_
 obtain⟨i,hi,hz,hsize,hby⟩:=info_parts hinfo
 obtain⟨v',w',hrun,h2,h3,h5,h6⟩:=yS (P:=P) w base t o.type e i z size bytes ht hi hz hsize hby hzs hsz v n xs hown ⟨M,0,none⟩ m c news hm.1 (hm.cells (g:=M) rfl) h1 h63 hbytes hbase
 unfold Oper.wp execOp
 simp only[ho,resolve,invoke,builtin,Sem.run_bind,Sem.run_pure,Result.andThen_ok,List.map_toArray,List.map_cons,List.map_nil,hs,hx,hrun]
 exact hK _ _ (h v' w' h2 h3 h5 h6)
end
def rC(v v':Value):Prop:=∀g,v.ownBlock=some g→v'.ownBlock≠some g
theorem rC.symm{v v':Value}(h:rC v v'):rC v' v:=fun g h1 h2=>h g h2 h1
def pA(mk:Nat→Nat→List Value)(k n:Nat):List Value:=(List.range n).flatMap (mk k)
theorem nU(mk:Nat→Nat→List Value)(k n:Nat):pA mk k (n+1)=pA mk k n++mk k n:=by simp[pA,List.range_succ]
theorem vL(mk:Nat→Nat→List Value)(size:Nat)(hs:∀k i,(mk k i).length=size)(k n:Nat):(pA mk k n).length=n*size:=by
 induction n with
 |zero=>simp[pA]
 |succ n ih=>rw[nU,List.length_append,ih,hs,Nat.add_mul,Nat.one_mul]
theorem zM(mk:Nat→Nat→List Value)(hs:∀k i,(mk k i).length=1)(k n i:Nat)(hi:i<n):(pA mk k n)[i]? =(mk k i)[0]?:=by
 induction n with
 |zero=>omega
 |succ n ih=>
  have hl:=vL mk 1 hs k n;rw[nU];by_cases h:i<n
  ·rw[aCC (by omega),ih h]
  ·have:i=n:=by omega
   subst this;rw[List.getElem?_append_right (by omega)]
   congr 1
   omega
theorem tH{α:Type}(K:Nat)(f:Nat→α)(k:Nat)(x:α):((List.range K).map f).set k x=(List.range K).map (fun j=>if j=k then x else f j):=by
 refine List.ext_getElem (by simp) fun i h1 h2=>?_
 simp only[List.getElem_set,List.getElem_map,List.getElem_range]
 by_cases e:k=i
 ·subst e;simp
 ·rw[if_neg e,if_neg (fun h=>e h.symm)]
end

section
open Go.RowKit
theorem sV:(Tryz.prog.info? 3).map (fun i=>(i.zero,i.size,i.bytes))=some (some (.int .i64 0),1,8):=by kernel_rfl
def marks:List Int:=(List.range 12).map fun(i:Nat)=>fI 1 (i:Int)
theorem xB:marks.length=12:=by simp[marks]
theorem JE(k:Nat)(h:k<12):marks.getD k 0=fI 1 (k:Int):=by simp[marks,List.getD,h]
def gI(xs:List Int):List Value:=xs.map (Value.int .i64)
theorem wG(xs:List Int):(gI xs).length=xs.length:=by simp[gI]
theorem GP(xs:List Int):∀u∈gI xs,u.oneCell'=true:=by
 intro u hu
 simp only[gI,List.mem_map] at hu
 obtain⟨x,_,rfl⟩:=hu
 rfl
def nZ(w:World)(base:Nat)(v:Value)(xs:List Int):Prop:=
 ∃g cap,v=.slice (some ⟨g,0,none⟩) xs.length cap∧w.ownsRow base 3 1 (.slice (some ⟨g,0,none⟩) (xs.length+12) cap) (xs.length+12) (gI (xs++marks))
def XY(w:World)(xs:List Int)(e:Ending)(w':World):Prop:=∃v,e=.returned v∧nZ w' w.heap.size v xs∧Below w.heap.size w w'
theorem nZ.ext{w w':World}{base:Nat}{v:Value}{xs:List Int}(h:nZ w base v xs)(hb:Below w.heap.size w w'):nZ w' base v xs:=by
 obtain⟨g,cap,rfl,hown⟩:=h
 exact⟨g,cap,rfl,(aR.ownsRow w.heap.size _ _ _ _ _ _).ext hown hb⟩
theorem nZ.cells{w:World}{base:Nat}{v:Value}{xs:List Int}(h:nZ w base v xs):∃g cap,v=.slice (some ⟨g,0,none⟩) xs.length cap∧xs.length+12≤cap∧cap≤maxLen∧
  (∀k,k<xs.length→w.cell? ⟨g,k,none⟩=some (.int .i64 (xs.getD k 0)))∧(∀k,k<12→w.cell? ⟨g,xs.length+k,none⟩=some (.int .i64 (fI 1 (k:Int)))):=by
 obtain⟨g,cap,rfl,hown⟩:=h
 have hadd:∀k,(⟨g,0,none⟩:Addr).add k=⟨g,k,none⟩:=fun k=>by unfold Addr.add;split<;>simp_all
 have hc:xs.length+12≤cap∧cap≤maxLen:=by
  rcases hown.2 with ⟨h0,_⟩|⟨g',cap',cur,hv,_,_,h1,h2,_⟩
  ·cases h0
  ·injection hv with _ _ hcc;subst hcc;exact⟨h1,h2⟩
 refine⟨g,cap,rfl,hc.1,hc.2,fun k hk=>?_,fun k hk=>?_⟩
 ·have:=hown.cells (g:=g) rfl k (.int .i64 (xs.getD k 0)) (by rw[gI,List.map_append,aCC (by simpa using hk)];simp[List.getD,hk])
  rwa [hadd] at this
 ·have:=hown.cells (g:=g) rfl (xs.length+k) (.int .i64 (marks.getD k 0)) (by
   have hk':k<marks.length:=by rw[xB];exact hk
   simp[gI,List.getElem?_append_right,List.getD,hk'])
  rw[JE k hk,hadd] at this;exact this
theorem nZ.ints{w:World}{base:Nat}{v:Value}{xs:List Int}(h:nZ w base v xs)(hl:xs.length≤17592186044416)(hw:∀x∈xs,I64 x):∃a c,v=.slice a xs.length c∧dY w a xs.length xs:=by
 obtain⟨g,cap,rfl,_,_,h1,_⟩:=h.cells
 exact⟨_,_,rfl,rfl,hl,fun k hk=>⟨g,0,rfl,by simpa using h1 k hk,hw _ (by simp[List.getD,hk])⟩⟩
theorem qR(a:Option Addr)(n c:Nat)(xs:List Int)(w:World)(h:dY w a n xs)(hn:n≤1000000):
  Calls Tryz.prog 52 #[.slice a n c] w (XY w xs):=by
 obtain⟨i0,hi,hz0,hz1,hz2⟩:=info_parts (P:=Tryz.prog) sV
 have HL:=aBO h.1
 have H:=aBO h
 clear h
 go_enter Tryz.func52,Tryz.ntmps52
 go_wp2_with (first
  |(at_make
    refine wpList_make_own _ rfl _ _ 22 rfl w.heap.size 3 i0 (.int .i64 0) 1 Tryz.underlying22 hi hz0 hz1 .i64 .i64 _ (n+12) rfl rfl (by omega) (by rw[hz2];omega) (by simp only[maxLen];omega) (aBV _) ?_;intro w1 hown1 hg1;have HO1:=aBO hown1;have HB1:Hid (Below w.heap.size w w1):=(aBQ _ _).grown hg1 (aBV _) (by simp)
    clear hown1 hg1)
  |(at_builtin
    refine CD _ rfl (.tmp 9) (.tmp 10) 22 3 rfl w.heap.size (.int .i64 0) 8 Tryz.underlying22 sV rfl _ 0 [] rfl HO1.out a n c rfl (gI xs) (by rw[wG,HL.out]) (by
     intro j u hu;have hj:j<n:=by
      have:=(aBX.1 hu).1
      rwa [wG,HL.out] at this
     obtain⟨b,o,rfl,hc,_⟩:=(H.out.ext HB1.out).2.2 j hj;refine⟨_,rfl,?_⟩;have hadd:(⟨b,o,none⟩:Addr).add j=⟨b,o+j,none⟩:=by unfold Addr.add;split<;>simp_all
     rw[hadd,hc];have hj':j<xs.length:=by rw[HL.out];exact hj
     simp[gI,hj'] at hu
     simp[List.getD,hj',hu]) (GP xs) (by simp only[maxLen];omega) (by omega) HB1.out.size ?_
    intro v2 w2 hown2 hg2 hat2;have HO2:=aBO hown2;have HB2:Hid (Below w.heap.size w w2):=HB1.out.grown hg2 HB1.out.size (fun k e=>(HO1.out.lt k e).1)
    clear hown2 hg2 hat2))
 have HO3:Hid (w2.ownsRow w.heap.size 3 1 v2 (n+0) (gI (xs++marks.take 0))):=by
  have:=HO2.out;rw[Hid];simpa using this
 clear HO2 HO1 HB1
 go_loopw [3,4] (fun v i wr=>∃(k:Nat),k≤12∧i=.int .i64 k∧Hid (wr.ownsRow w.heap.size 3 1 v (n+k) (gI (xs++marks.take k)))∧Hid (Below w.heap.size w wr)) (fun _ i _=>12-(intOf i).toNat)
 case atStart=>exact⟨0,by omega,rfl,HO3,HB2⟩
 case round=>
  clear HO3 HB2;obtain⟨k,hk,rfl,HO,HB⟩:=hrel;by_cases hlt:k<12
  ·have HS:Hid (gI (xs++marks.take (k+1))=gI (xs++marks.take k)++ [.int .i64 (fI 1 (k:Int))]):=by
    rw[Hid,IE marks k 0 (by rw[xB];exact hlt),JE k hlt,←List.append_assoc,gI,List.map_append];rfl
   go_wp2_with (first
    |(go_at_call 112;refine(iS _ _ _ (by omega) (by omega)).mono ?_;rintro e w' ⟨rfl,rfl⟩)
    |(at_builtin
      refine bV rfl wr (.tmp 16) (.tmp 19) 22 3 rfl w.heap.size _ 1 8 Tryz.underlying22 sV rfl (by omega) u3 (n+k) _ [.int .i64 (fI 1 (k:Int))] rfl HO.out wr.heap.size rfl rfl rfl (by simp[Value.oneCell']) (by simp only[maxLen];omega) (by omega) HB.out.size ?_;intro g cap w2 hown2 hg2 hat2;have HO2:Hid (w2.ownsRow w.heap.size 3 1 (.slice (some ⟨g,0,none⟩) (n+k+1) cap) (n+k+1) (gI (xs++marks.take (k+1)))):=by rw[Hid,HS.out];exact hown2
      have HB2:Hid (Below w.heap.size w w2):=HB.out.grown hg2 HB.out.size (fun j e=>(HO.out.lt j e).1)
      clear hown2 hat2 hg2))
   go_roundw
   case rel=>exact⟨k+1,by omega,by go_num,HO2,HB2⟩
   case measure=>simp[intOf];omega
  ·obtain rfl:k=12:=by omega
   have hown:=HO.out;have hform:∃g cap,u3=.slice (some ⟨g,0,none⟩) (n+12) cap∧n+12≤cap∧cap≤maxLen:=by
    rcases hown.2 with ⟨_,h0⟩|⟨g',cap',cur,hv,_,_,h1,h2,_⟩
    ·omega
    ·exact⟨_,_,hv,h1,h2⟩
   obtain⟨g,cap,rfl,hc1,hc2⟩:=hform;clear hown;unfold maxLen at hc2;go_wp2
   go_ret
   refine⟨_,rfl,⟨g,cap,by rw[HL.out];rfl,?_⟩,HB.out⟩;have:=HO.out;rw[HL.out];rw[aCB (by rw[xB];omega)] at this;exact this
theorem lS{P:Program}{f:FuncId}{args:Array Value}{w:World}{a n:Nat}{v:Value}
  (h:Calls P f args (w.drewN (a+n)) fun e w'=>e=.returned v∧w.drewN (a+n)=w'):
  Calls P f args (w.drewN (a+n)) fun e w''=>e=.returned v∧∃m,w''=w.drewN (a+m):=
 h.mono fun _ _ ⟨he,hm⟩=>⟨he,n,hm.symm⟩
theorem qS(base:Nat)(v:Value)(a:Option Addr)(n c:Nat)(xs:List Int)(w:World)(hL:nZ w base v xs)(h:dY w a n xs)(hn:n≤1000000):
  Calls Tryz.prog 63 #[v,.slice a n c] w fun e w'=>e=.returned (.bool true)∧∃q,w'=w.drewN q:=by
 obtain⟨g,cap,rfl,hc1,hc2,hx,hm⟩:=hL.cells
 obtain⟨hl,_,hc⟩:=h
 rw[hl] at hc1 hx hm⊢
 have HX:=aBO hx
 have HM:=aBO hm
 have HC:=aBO hc
 clear hx hm hc hL hl
 unfold maxLen at hc2
 have b0:((n:Int) != (n:Int))=false:=by simp
 go_enter Tryz.func63,Tryz.ntmps63
 go_wp2
 go_loopw [6] (fun i wr=>∃(k q:Nat),k≤n+12∧i=.int .i64 k∧wr=w.drewN q) (fun i _=>n+12-(intOf i).toNat)
 case atStart=>exact⟨0,0,by omega,rfl,rfl⟩
 case round=>
  obtain⟨k,q,hk,rfl,rfl⟩:=hrel;by_cases hlt:k<n+12
  ·by_cases hkn:k<n
   ·obtain⟨b,o,rfl,hcell,_⟩:=HC.out k hkn;have hcell':=HX.out k hkn;have d1:decide (k<n)=true:=by simpa using hkn
    have d2:decide (n≤k)=false:=by simp;omega
    generalize xs.getD k 0=x at *;go_wp2
    go_quiet (fail)
    go_wp2
    go_roundw
    case rel=>exact⟨k+1,_,by omega,by go_num,rfl⟩
    case measure=>simp[intOf];omega
   ·obtain⟨j,rfl⟩:∃j,k=n+j:=⟨k-n,by omega⟩
    have hcell':=HM.out j (by omega);have hj:j<12:=by omega
    have d1:decide (n+j<n)=false:=by simp
    have d2:decide (n≤n+j)=true:=by simp
    have d3:decide ((n:Int)+(j:Int)<(n:Int))=false:=by simp;omega
    have d4:decide ((n:Int)≤(n:Int)+(j:Int))=true:=by simp;omega
    have d5:IntKind.i64.wrap ((n:Int)+(j:Int)-(n:Int))=(j:Int):=by rw[IntKind.wrap_i64];omega
    clear hkn;go_wp2
    go_quiet ((go_at_call 112;exact lS (iS 1 (j:Int) _ (by omega) (by omega))))
    go_wp2
    go_roundw
    case rel=>exact⟨n+j+1,_,by omega,by go_num,rfl⟩
    case measure=>simp[intOf];omega
  ·go_wp2
   go_ret
   exact⟨rfl,_,rfl⟩
end

section
open Go.RowKit
theorem UF(w:World)(o1 o2:Obj)(W:World)(h:Below ((w.alloc o1).alloc o2).heap.size ((w.alloc o1).alloc o2) W):W.heap[w.heap.size]? =some o1∧W.heap[w.heap.size+1]? =some o2∧Below w.heap.size w W:=by
 refine⟨?_,?_,aA (aA (aD w o1) (aD _ o2)) h⟩
 ·rw[h.block _ (by simp;omega),aBR _ _ _ (by simp)];exact aBS w o1
 ·rw[h.block _ (by simp)];have:=aBS (w.alloc o1) o2;simpa using this
theorem rD(w:World)(o1 o2:Obj):∃W0,Hid (Below w.heap.size w W0)∧W0.heap[w.heap.size]? =some o1∧W0.heap[w.heap.size+1]? =some o2∧(w.alloc o1).alloc o2=W0:=by
 obtain⟨x1,x2,x3⟩:=UF w o1 o2 _ (aBQ _ _)
 exact⟨_,x3,x1,x2,rfl⟩
theorem PG(w:World)(g:Nat)(cs:Array Value):Chg (fun k=>k=g) w (w.setRow g cs):=
 ⟨rfl,rfl,rfl,by rw[size_setRow];exact aBV _,fun k _ hn=>setRow_other w g k cs hn⟩
theorem gX(w:World)(b o:Nat)(u:Value):Chg (fun k=>k=b) w (w.setCell ⟨b,o,none⟩ u):=(Chg.refl (fun k=>k=b) w).setCell (p:=⟨b,o,none⟩) (Or.inl rfl) u
theorem Chg.row{S:Nat→Prop}{w w':World}(h:Chg S w w'){k:Nat}{o:Obj}(hk:w.heap[k]? =some o)(hn:¬S k):w'.heap[k]? =some o:=(h.block k (aBW.1 hk).1 hn).trans hk
theorem sW{w w':World}(h:Below w.heap.size w w'):Chg (fun _=>False) w w':=⟨h.os,h.tape,h.output,h.size,fun k hk _=>h.block k hk⟩
section
variable {P:Program} {Q:Exit→Act→World→Prop}
theorem iW{ops:Array Oper}{rest:List Oper}{o:Oper}{a:Act}{w:World}(hgd:o.guard=none)(ty:TypeId)(x y:Operand)(ho:o.op=.store ty x y)
  (g:Nat) (cells:Array Value) (hx:a.eval x=.pointer (some ⟨g,0,none⟩)) (hy:a.eval y=.agg cells)
  (t:TypeId) (old:Array Value) (hg:w.heap[g]? =some (.cells old t (0,0))) (hi:(P.info? ty).map (·.size)=some cells.size)
  (hold:old.size=cells.size) (h1:cells.all (·.oneCell')=true)
  (h:∀W',Chg (fun k=>k=g) w W'→W'.heap[g]? =some (.cells cells t (0,0))→wpList P ops Q rest (a.put o.dst undef) W'):wpList P ops Q (o :: rest) a w:=
 wpList_store_row hgd ty x y ho g cells hx hy t old hg hi hold h1 (h _ (PG _ _ _) (setRow_heap _ _ _ _ _ _ hg))
end
def pE{α:Type}(SD:α→α→Prop)(rs ss:List α):Prop:=rs.length=ss.length∧∀(k:Nat) r s,rs[k]? =some r→ss[k]? =some s→SD r s
end

section
open Go.RowKit
theorem nZ.chg{S:Nat→Prop}{w w':World}{base:Nat}{v:Value}{xs:List Int}(h:nZ w base v xs)(hc:Chg S w w')(hn:∀k,S k→k<base):nZ w' base v xs:=by
 obtain⟨g,cap,rfl,hown⟩:=h
 exact⟨g,cap,rfl,fY hown hc (fun k hk hs=>by have:=(hown.lt k hk).1;have:=hn k hs;omega)⟩
theorem nZ.mono{w:World}{base base':Nat}{v:Value}{xs:List Int}(h:nZ w base v xs)(hb:base'≤base):nZ w base' v xs:=by
 obtain⟨g,cap,rfl,hown⟩:=h
 exact⟨g,cap,rfl,hown.mono hb⟩
theorem nZ.form{w:World}{base:Nat}{v:Value}{xs:List Int}(h:nZ w base v xs):∃g cap,v=.slice (some ⟨g,0,none⟩) xs.length cap:=by
 obtain⟨g,cap,rfl,_⟩:=h
 exact⟨g,cap,rfl⟩
theorem nZ.grown{w w':World}{base base':Nat}{v vr:Value}{e:TypeId}{size n:Nat}{xs:List Int}{ys:List Value}(he:3≠e)(h:nZ w base v xs)(ho:w.ownsRow base' e size vr n ys)(hg:w.grownBy w' vr.ownBlock):nZ w' base v xs:=by
 obtain⟨g,cap,rfl,hown⟩:=h
 exact⟨g,cap,rfl,hown.kept hg (Or.inr (fun e2=>gL hown ho he g rfl e2.symm))⟩
structure kR{α:Type}(tys:List TypeId)(LX:World→Nat→α→α→Prop):Prop where
 chg:∀{S:Nat→Prop} {w w':World} {base:Nat} {r r':α},LX w base r r'→Chg S w w'→(∀k,S k→k<base)→LX w' base r r'
 mono:∀{w:World} {base base':Nat} {r r':α},base'≤base→LX w base r r'→LX w base' r r'
 grown:∀{w w':World} {base base':Nat} {r r':α} {e:TypeId} {size:Nat} {vr:Value} {n:Nat} {ys:List Value},e∉tys→LX w base r r'→w.ownsRow base' e size vr n ys→w.grownBy w' vr.ownBlock→LX w' base r r'
theorem kR.ext{α:Type}{tys:List TypeId}{LX:World→Nat→α→α→Prop}(L:kR tys LX){w w':World}{base:Nat}{r r':α}(h:LX w base r r')(hb:Below w.heap.size w w'):LX w' base r r':=
 L.chg h (sW hb) fun k hk=>hk.elim
section
variable {α:Type} (cs:α→List Value) (size:Nat) (ty:TypeId) (LX:World→Nat→α→α→Prop) (mk:Nat→α)
def dS(w:World)(base:Nat)(rs rs':List α):Prop:=rs'.length=rs.length∧∀(k:Nat) r r',rs[k]? =some r→rs'[k]? =some r'→LX w base r r'
def jC:List α:=(List.range 12).map mk
def jD(w:World)(base:Nat)(v:Value)(rs rs':List α):Prop:=
 ∃g cap,v=.slice (some ⟨g,0,none⟩) rs.length cap∧w.ownsRow base ty size (.slice (some ⟨g,0,none⟩) (rs.length+12) cap) (rs.length+12) ((rs'++jC mk).flatMap cs)∧dS LX w base rs rs'
theorem pW:(jC mk).length=12:=by simp[jC]
theorem vN(k:Nat)(h:k<12):(jC mk)[k]? =some (mk k):=by simp[jC,h]
theorem uK(k:Nat)(h:k<12):(jC mk).take (k+1)=(jC mk).take k++ [mk k]:=by
 rw[List.take_add_one,vN mk k h]
 rfl
end
section
variable {α:Type} {cs:α→List Value} {size:Nat} {ty:TypeId} {LX:World→Nat→α→α→Prop} {mk:Nat→α} {tys:List TypeId}
theorem dS.nil(w:World)(base:Nat):dS LX w base [] []:=⟨rfl,fun k r r' h=>by simp at h⟩
theorem dS.snoc{w:World}{base:Nat}{rs rs':List α}{r r':α}(h:dS LX w base rs rs')(hr:LX w base r r'):dS LX w base (rs++ [r]) (rs'++ [r']):=by
 refine⟨by simp[h.1],fun k x x' h1 h2=>?_⟩
 by_cases hk:k<rs.length
 ·rw[aCC hk] at h1;rw[aCC (by rw[h.1];exact hk)] at h2;exact h.2 k x x' h1 h2
 ·have hk1:=(aBX.1 h1).1;rw[List.length_append,List.length_singleton] at hk1;obtain rfl:k=rs.length:=by omega
  rw[List.getElem?_append_right (aBV _),Nat.sub_self] at h1;rw[←h.1,List.getElem?_append_right (aBV _),Nat.sub_self] at h2;simp only[List.getElem?_cons_zero,Option.some.injEq] at h1 h2;subst h1;subst h2;exact hr
theorem dS.map{w w':World}{base base':Nat}{rs rs':List α}(h:dS LX w base rs rs')(f:∀r r',LX w base r r'→LX w' base' r r'):dS LX w' base' rs rs':=⟨h.1,fun k r r' h1 h2=>f _ _ (h.2 k r r' h1 h2)⟩
theorem dS.ext(L:kR tys LX){w w':World}{base:Nat}{rs rs':List α}(h:dS LX w base rs rs')(hb:Below w.heap.size w w'):dS LX w' base rs rs':=h.map fun _ _ h=>L.ext h hb
theorem dS.grown(L:kR tys LX){w w':World}{base base':Nat}{rs rs':List α}{e:TypeId}{size:Nat}{vr:Value}{n:Nat}{ys:List Value}(he:e∉tys)(h:dS LX w base rs rs')(ho:w.ownsRow base' e size vr n ys)(hg:w.grownBy w' vr.ownBlock):dS LX w' base rs rs':=h.map fun _ _ h=>L.grown he h ho hg
theorem dS.same{w:World}{base:Nat}{rs rs':List α}{SD:α→α→Prop}(h:dS LX w base rs rs')(f:∀r r',LX w base r r'→SD r' r):pE SD rs' rs:=⟨h.1,fun k r s hr hs=>f _ _ (h.2 k s r hs hr)⟩
theorem jD.chg(L:kR tys LX){S:Nat→Prop}{w w':World}{base:Nat}{v:Value}{rs rs':List α}(h:jD cs size ty LX mk w base v rs rs')(hc:Chg S w w')(hn:∀k,S k→k<base):jD cs size ty LX mk w' base v rs rs':=by
 obtain⟨g,cap,rfl,hown,hl⟩:=h
 exact⟨g,cap,rfl,fY hown hc (fun k hk hs=>by have:=(hown.lt k hk).1;have:=hn k hs;omega),hl.map fun _ _ h=>L.chg h hc hn⟩
theorem jD.ext(L:kR tys LX){w w':World}{base:Nat}{v:Value}{rs rs':List α}(h:jD cs size ty LX mk w base v rs rs')(hb:Below w.heap.size w w'):jD cs size ty LX mk w' base v rs rs':=h.chg L (sW hb) fun k hk=>hk.elim
theorem jD.mono(L:kR tys LX){w:World}{base base':Nat}{v:Value}{rs rs':List α}(h:jD cs size ty LX mk w base v rs rs')(hb:base'≤base):jD cs size ty LX mk w base' v rs rs':=by
 obtain⟨g,cap,rfl,hown,hl⟩:=h
 exact⟨g,cap,rfl,hown.mono hb,hl.map fun _ _ h=>L.mono hb h⟩
theorem jD.grown(L:kR tys LX){w w':World}{base base':Nat}{v vr:Value}{rs rs':List α}{e:TypeId}{size' n:Nat}{ys:List Value}(he:e∉ty :: tys)(h:jD cs size ty LX mk w base v rs rs')(ho:w.ownsRow base' e size' vr n ys)(hg:w.grownBy w' vr.ownBlock):jD cs size ty LX mk w' base v rs rs':=by
 simp only[List.mem_cons,not_or] at he
 obtain⟨g,cap,rfl,hown,hl⟩:=h
 exact⟨g,cap,rfl,hown.kept hg (Or.inr (fun e2=>gL hown ho (fun e3=>he.1 e3.symm) g rfl e2.symm)),hl.map fun _ _ h=>L.grown he.2 h ho hg⟩
theorem jD.form{w:World}{base:Nat}{v:Value}{rs rs':List α}(h:jD cs size ty LX mk w base v rs rs'):∃g cap,v=.slice (some ⟨g,0,none⟩) rs.length cap:=by
 obtain⟨g,cap,rfl,_⟩:=h
 exact⟨g,cap,rfl⟩
theorem jD.recs(hcs:∀x,(cs x).length=size)(hs0:0<size){w:World}{base:Nat}{g n cap:Nat}{rs rs':List α}(h:jD cs size ty LX mk w base (.slice (some ⟨g,0,none⟩) n cap) rs rs')(hn:n≤1000000):
  kM size cs w (some ⟨g,0,none⟩) (n+12) (rs'++jC mk)∧rs.length=n∧rs'.length=n∧n+12≤cap∧cap≤maxLen∧dS LX w base rs rs':=by
 obtain⟨g',cap',e,hown,hl⟩:=h
 injection e with e1 e2 e3
 injection e1 with e1
 injection e1 with e1 _ _
 subst e1
 subst e3
 have hrl:rs.length=n:=e2.symm
 have hlen:rs'.length=n:=by rw[hl.1,hrl]
 have hll:(rs'++jC mk).length=n+12:=by rw[List.length_append,pW,hlen]
 have hc:n+12≤cap∧cap≤maxLen:=by
  rcases hown.2 with ⟨_,h0⟩|⟨g',cap',cur,hv,_,_,h1,h2,_⟩
  ·omega
  ·injection hv with _ _ hcc;subst hcc;rw[hrl] at h1;exact⟨h1,h2⟩
 rw[hrl,←hll] at hown
 obtain⟨a2,c2,e,hr,_⟩:=yD hcs hown (by rw[hll];omega)
 injection e with e1 _ _
 subst e1
 rw[hll] at hr
 exact⟨hr,hrl,hlen,hc.1,hc.2,hl⟩
theorem kM.takeN{w:World}{a:Option Addr}{n m:Nat}{rs:List α}(h:kM size cs w a n rs)(hm:m≤n):kM size cs w a m (rs.take m):=
 ⟨by rw[List.length_take,h.1];omega,by have:=h.2.1;omega,fun j x hx=>by
  refine h.2.2 j x ?_;have hj:=(aBX.1 hx).1;rw[List.length_take] at hj
  rwa [List.getElem?_take,if_pos (by omega)] at hx⟩
theorem jD.recsN(hcs:∀x,(cs x).length=size)(hs0:0<size){w:World}{base:Nat}{g n cap:Nat}{rs rs':List α}(h:jD cs size ty LX mk w base (.slice (some ⟨g,0,none⟩) n cap) rs rs')(hn:n≤1000000):kM size cs w (some ⟨g,0,none⟩) n rs':=by
 obtain⟨h1,_,h2,_⟩:=h.recs hcs hs0 hn
 have:=h1.takeN (m:=n) (by omega)
 rwa [List.take_append_of_le_length (by omega),aCB (by omega)] at this
theorem xC{OK:α→Prop}(h:∀k,k<12→OK (mk k)):∀r∈jC mk,OK r:=fun r hm=>by
 obtain⟨k,hk,e⟩:=List.mem_iff_getElem.1 hm
 rw[pW] at hk
 have:r=mk k:=by rw[←e];simp[jC]
 rw[this]
 exact h k hk
end
end
end Go.Proofs.YtblhmdhfhaencaaGreat
