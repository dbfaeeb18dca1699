/-
 The document's answer to layer 17:Right. (Printed by gen_right17.py,which reads XTU.)
-/
import Derived.Test.YtblhmdhfhaencaaGreatRO
import Derived.Test.YtblhmdhfhaencaaGreatLentG
import Derived.Test.YtblhmdhfhaencaaGreatRC
import Derived.Test.YtblhmdhfhaencaaGreatBR
import Derived.StillTailTactics
import Derived.Deep.Onto
namespace Go.Proofs.YtblhmdhfhaencaaGreat
set_option linter.unusedSimpArgs false
set_option linter.unusedVariables false
set_option linter.unusedSectionVars false
set_option maxRecDepth 100000
set_option maxHeartbeats 40000000
section
open Go.RowKit
theorem UC{n:Nat}{l:List bI}(hp:cD l=true)(hn:n≤200)(h:∀j,j<l.length→eV n l j=true)(k:Nat)(hk:k<l.length):(∀x∈eW l k,0≤x∧x<n)∧∀b,iH l k b=true→b<n:=by
 have h1:∀j,j<l.length→∀x∈eW l j,0≤x∧x<n:=fun j hj=>(vZ hj hp hn (h j hj)).1
 refine⟨h1 k hk,fun b hb=>?_⟩
 simp only[iH,ofS,Bool.and_eq_true,decide_eq_true_eq,List.contains_iff_mem] at hb
 obtain⟨m,hm,_,hx⟩:=(vM l k hk hp _).1 hb.2
 have:=h1 m hm _ hx
 omega
theorem LG(pa:Option Addr)(pn pc:Nat)(ba:Option Addr)(bn bc:Nat)(bs:List gS)(a:Option Addr)(n c:Nat)(ls:List bK)(w:World)(h:dU w ba bn bs)(ht:cM w a n ls)(hT:gZ (aJ ls)≤1000000):
  Calls Tryz.prog 43 #[dX pa pn pc ba bn bc,.slice a n c] w fun e w'=>e=.returned (.bool (cZ (aG bs) (aJ ls)))∧Below w.heap.size w w':=by
 have hn:=ht.1.2.1
 have HLN:=aBO ht.1.1
 have H:=aBO h
 have HT:=aBO ht
 have HTOT:=aBO hT
 clear h ht hT
 go_enter Tryz.func43,Tryz.ntmps43
 go_upto_region 1 with (fail)
 obtain⟨W,hW⟩:∃W,W=w.alloc (bO pa pn pc ba bn bc):=⟨_,rfl⟩
 rw[←hW]
 have hk0:W.heap[w.heap.size]? =some (bO pa pn pc ba bn bc):=by rw[hW];exact aBS _ _
 have hB:Below w.heap.size w W:=by rw[hW];exact aD _ _
 have HK:=aBO hk0
 have HB:=aBO hB
 clear hW hk0 hB
 go_upto_region 2 with (first
  |(refine wpList_load_row (o:=⟨some 12,.load 25 _,_,_,_,_⟩) rfl 25 _ rfl w.heap.size rfl 25 _ (0,0) _ HK.out Tryz.underlying25 rfl aS ?_)
  |(go_at_call 38
    refine(EK pa pn pc ba bn bc bs a n c ls W (H.out.ext HB.out) (HT.out.ext HB.out) HTOT.out).mono ?_;rintro e w2 ⟨v,en,rfl,hb,ho1,ho2,ho3⟩;have HK2:=aBO (aB hb HK.out);have HB2:=aBO (aA HB.out hb);have HO1:=aBO ho1;have HO2:=aBO ho2;have HO3:=aBO (fun h1 h2=>(ho3 h1 h2).imp id fun h=>h.mono (show w.heap.size≤W.heap.size from HB.out.size))
    clear hb ho1 ho2 ho3))
 cases hf:bU (aG bs) with
 |false=>
  have HE:Hid (cZ (aG bs) (aJ ls)=false):=by simp[Hid,cZ,hf]
  obtain⟨rfl,rfl⟩:=HO1.out hf;clear hf HO1 HO2 HO3;go_wp2
  go_ret
  exact⟨by rw[HE.out];rfl,HB2.out⟩
 |true=>
  have HF:=aBO hf;have hgood:=(cY _).1 (kF hf);have hbn:(aG bs).length=bn:=by rw[dD];exact H.out.1.1
  have hbn1:1≤bn:=by rw[←hbn];exact hgood.1.1
  have hbn2:bn≤200:=by rw[←hbn];exact hgood.1.2
  have HBN:Hid (bn≤200):=hbn2;have HTL:Hid ((aG bs).length=bn):=hbn;clear hf hgood hbn HO1;cases hob:lU (aJ ls) bn with
  |false=>
   have HE:Hid (cZ (aG bs) (aJ ls)=false):=by simp[Hid,cZ,HTL.out,hob]
   obtain⟨rfl,rfl⟩:=HO2.out HF.out hob;clear hob HO2 HO3;go_wp2
   go_ret
   exact⟨by rw[HE.out];rfl,HB2.out⟩
  |true=>
   obtain⟨rfl,ho⟩:=HO3.out HF.out hob;obtain⟨va,vc,rfl⟩:=ho.form;have HOB:=aBO hob;obtain⟨b0,o0,e0,hc0,_⟩:=ho.ints.2.2 0 (by rw[vE];omega);subst e0;have hv0:(nL (aJ ls) bn).getD 0 0=(rA (aJ ls) 0:Int):=by
    have:(List.range bn)[0]? =some 0:=by rw[List.getElem?_range (by omega)]
    simp[nL,aBT,this]
   rw[hv0] at hc0;have hc1:w2.cell? ⟨b0,o0,none⟩=some (.int .i64 (rA (aJ ls) 0:Int)):=hc0;have hol:=vE (aJ ls) bn;rw[hol];clear hob HO2 HO3 ho hv0 hc0 hol;by_cases hl:n≤200
   ·have dl:decide ((n:Int)>200)=false:=by simp;omega
    have dl2:decide ((200:Int)<(n:Int))=false:=by simp;omega
    cases hpar:cD (aJ ls) with
    |false=>
     have HE:Hid (cZ (aG bs) (aJ ls)=false):=by simp[Hid,cZ,hpar]
     have HPAR:=aBO hpar;clear hpar
     go_wp2_with (go_at_call 103
                  refine(kQ a n c ls w2 (HT.out.ext HB2.out)).mono ?_;rintro e w4 ⟨rfl,rfl⟩
                  rw[HPAR.out])
     go_ret
     exact⟨by rw[HE.out];rfl,HB2.out⟩
    |true=>
     have HPAR:=aBO hpar;clear hpar;by_cases hz:rA (aJ ls) 0=0
     ·have HZ:=aBO hz;rw[hz] at hc1;clear hz
      go_wp2_with (go_at_call 103
                   refine(kQ a n c ls w2 (HT.out.ext HB2.out)).mono ?_;rintro e w4 ⟨rfl,rfl⟩
                   rw[HPAR.out])
      go_loopw [7,8,9] (fun s7 _ _ wr=>∃k:Nat,k≤n∧s7=.int .i64 (k:Int)∧Hid (∀j,j<k→eV bn (aJ ls) j=true)∧Hid (wr.heap[w.heap.size]? =some (bO pa pn pc ba bn bc))∧Hid (Below w.heap.size w wr)) (fun s7 _ _ _=>n-(intOf s7).toNat)
      case atStart=>exact⟨0,by omega,by go_num,fun j hj=>absurd hj (by omega),HK2,HB2⟩
      case round=>
       obtain⟨k,hk,rfl,HR,HKr,HBr⟩:=hrel;clear HK2 HB2 hc1;by_cases hlt:k<n
       ·have hlt':(k:Int)<(n:Int):=by omega
        have hkl:k<(aJ ls).length:=by rw[cQ,HLN.out];exact hlt
        obtain⟨t,b,o,hlk,⟨hI,hcap,hI1,hI2⟩,rfl,c0,c1,c2⟩:=(HT.out.ext HBr.out).cells hlt;have htd:=iM ls k t hlk;have hpk:=(dH _).1 HPAR.out k hkl;rw[fJ,htd] at hpk;have HST:=aBO (uE bn (aJ ls) k);rw[htd] at HST;have HM:Hid (mB (aJ ls) k=(((k==0) != (t.d.kind==1))||((k==0) != (t.d.parent== -1))||(t.d.blocks.length==0)||(decide (0<k)&&(((aJ ls).getD t.d.parent.toNat fC).kind==3)))):=by
         rw[Hid,mB,htd]
        have HLn:=aBO hI.1;have hbl:=hI.2.1;have HI:=aBO hI;have HNO:Hid (eV bn (aJ ls) k=false→cZ (aG bs) (aJ ls)=false):=fun h=>by
         rw[Bool.eq_false_iff];intro h2;simp only[cZ,Bool.and_eq_true,List.all_eq_true,List.mem_range] at h2;have h3:=h2.2 k hkl;rw[HTL.out] at h3;rw[h3.1] at h;cases h
        have HYES:Hid (eV bn (aJ ls) k=true→∀j,j<k+1→eV bn (aJ ls) j=true):=fun h j hj=>by
         by_cases e:j=k
         ·subst e;exact h
         ·exact HR.out j (by omega)
        clear hlk hI htd HR;go_upto_region 8 with (fail)
        obtain⟨g,hg⟩:∃g,g=wr.heap.size:=⟨_,rfl⟩
        obtain⟨W2,hW2⟩:∃W2,W2=wr.alloc (kZ t):=⟨_,rfl⟩
        rw[←hW2,←hg];have hB2:Below w.heap.size w W2:=by rw[hW2];exact HBr.out.alloc HBr.out.size _
        have hB3:Below wr.heap.size wr W2:=by rw[hW2];exact aD _ _
        have ht2:W2.heap[g]? =some (kZ t):=by rw[hW2,hg];exact aBS _ _
        have HK2:=aBO (aB hB3 HKr.out);have HB2:=aBO hB2;have HT2:=aBO ht2;have HI2:=aBO (HI.out.ext hB3);clear hW2 hB2 hB3 ht2 c0 c1 c2 HKr HBr hg
        go_cut [77] (fun s77 wr=>s77=.bool (mB (aJ ls) k)∧wr=W2)
        case first=>
         have t0:W2.cell? ⟨g,0,none⟩=some (.int .i64 t.d.kind):=by rw[aBP _ _ _ _ _ _ HT2.out];rfl
         have t1:W2.cell? ⟨g,1,none⟩=some (.int .i64 t.d.parent):=by rw[aBP _ _ _ _ _ _ HT2.out];rfl
         have t2:W2.cell? ⟨g,2,none⟩=some (.slice t.ba t.bn t.bc):=by rw[aBP _ _ _ _ _ _ HT2.out];rfl
         by_cases hk0:k=0
         ·have fk:((k:Int)==0)=true:=by simp[hk0]
          have fkp:decide (0<(k:Int))=false:=by simp[hk0]
          have fkn:decide (0<k)=false:=by simp[hk0]
          by_cases ha:t.d.kind=1
          ·have fa:(t.d.kind==1)=true:=by simp[ha]
           have hpe:t.d.parent= -1:=by omega
           have fp:(t.d.parent== -1)=true:=by simp[hpe]
           by_cases hl:t.bn=0
           ·have fl:((t.bn:Int)==0)=true:=by simp[hl]
            have hE:Hid (mB (aJ ls) k=true):=by rw[Hid,HM.out];simp[HLn.out,hk0,ha,hpe,hl]
            clear hk0 ha hpe hl hpk;go_wp2
            go_meet
            exact⟨(congrArg Value.bool hE.out).symm,rfl⟩
           ·have fl:((t.bn:Int)==0)=false:=by simp[hl]
            have hE:Hid (mB (aJ ls) k=false):=by rw[Hid,HM.out];simp[HLn.out,hk0,ha,hpe,hl]
            clear hk0 ha hpe hl hpk;go_wp2
            go_meet
            exact⟨(congrArg Value.bool hE.out).symm,rfl⟩
          ·have fa:(t.d.kind==1)=false:=by simp[ha]
           have hE:Hid (mB (aJ ls) k=true):=by rw[Hid,HM.out];simp[HLn.out,hk0,ha]
           clear hk0 ha hpk;go_wp2
           go_meet
           exact⟨(congrArg Value.bool hE.out).symm,rfl⟩
         ·have fk:((k:Int)==0)=false:=by simp[hk0]
          have fkp:decide (0<(k:Int))=true:=by simp;omega
          have fkn:decide (0<k)=true:=by simp;omega
          by_cases ha:t.d.kind=1
          ·have fa:(t.d.kind==1)=true:=by simp[ha]
           have hE:Hid (mB (aJ ls) k=true):=by rw[Hid,HM.out];simp[HLn.out,hk0,ha]
           clear hk0 ha hpk;go_wp2
           go_meet
           exact⟨(congrArg Value.bool hE.out).symm,rfl⟩
          ·have fa:(t.d.kind==1)=false:=by simp[ha]
           by_cases hpe:t.d.parent= -1
           ·have fp:(t.d.parent== -1)=true:=by simp[hpe]
            have hE:Hid (mB (aJ ls) k=true):=by rw[Hid,HM.out];simp[HLn.out,hk0,ha,hpe]
            clear hk0 ha hpe hpk;go_wp2
            go_meet
            exact⟨(congrArg Value.bool hE.out).symm,rfl⟩
           ·have fp:(t.d.parent== -1)=false:=by simp[hpe]
            have hp0:0≤t.d.parent:=by omega
            have hpn:t.d.parent<(n:Int):=by omega
            by_cases hl:t.bn=0
            ·have fl:((t.bn:Int)==0)=true:=by simp[hl]
             have hE:Hid (mB (aJ ls) k=true):=by rw[Hid,HM.out];simp[HLn.out,hk0,ha,hpe,hl]
             clear hk0 ha hpe hl hpk;go_wp2
             go_meet
             exact⟨(congrArg Value.bool hE.out).symm,rfl⟩
            ·have fl:((t.bn:Int)==0)=false:=by simp[hl]
             obtain⟨t',b',o',hl',_,hab,l0,_,_⟩:=(HT.out.ext HB2.out).cells (k:=t.d.parent.toNat) (by omega);injection hab with hab;injection hab with hab1 hab2 _;subst hab1 hab2;have htd':=iM ls _ t' hl';by_cases he:t'.d.kind=3
             ·have fe:(t'.d.kind==3)=true:=by simp[he]
              have fkb:(k==0)=false:=by simp[hk0]
              have flb:(t.bn==0)=false:=by simp[hl]
              have hE:Hid (mB (aJ ls) k=true):=by rw[Hid,HM.out,htd',fkb,fa,fp,HLn.out,flb,fkn,fe];rfl
              clear fkb flb;clear hk0 ha hpe hl hpk he hl' htd';go_wp2
              go_meet
              exact⟨(congrArg Value.bool hE.out).symm,rfl⟩
             ·have fe:(t'.d.kind==3)=false:=by simp[he]
              have fkb:(k==0)=false:=by simp[hk0]
              have flb:(t.bn==0)=false:=by simp[hl]
              have hE:Hid (mB (aJ ls) k=false):=by rw[Hid,HM.out,htd',fkb,fa,fp,HLn.out,flb,fkn,fe];rfl
              clear fkb flb;clear hk0 ha hpe hl hpk he hl' htd';go_wp2
              go_meet
              exact⟨(congrArg Value.bool hE.out).symm,rfl⟩
        case rest=>
         obtain⟨rfl,rfl⟩:=hcut;cases hm:mB (aJ ls) k with
         |true=>
          have HE:Hid (cZ (aG bs) (aJ ls)=false):=HNO.out (by rw[HST.out,hm];rfl);clear hm;go_wp2
          go_ret
          exact⟨by rw[HE.out];rfl,HB2.out⟩
         |false=>
          have HSE:Hid (eV bn (aJ ls) k=iN bn t.d.blocks):=by rw[Hid,HST.out,hm];rfl
          clear hm;have t2:wc.cell? ⟨g,2,none⟩=some (.slice t.ba t.bn t.bc):=by rw[aBP _ _ _ _ _ _ HT2.out];rfl
          generalize t.ba=ba2 at *;go_wp2
          go_loopw [9] (fun s9 wi=>∃(m:Nat),m≤t.bn∧s9=.int .i64 m∧Hid (wT bn t.d.blocks m)∧Hid (Below wc.heap.size wc wi)) (fun s9 _=>t.bn-(intOf s9).toNat)
          case atStart=>exact⟨0,by omega,rfl,fun j hj=>absurd hj (by omega),aBQ _ _⟩
          case round=>
           obtain⟨m,hm,rfl,HRI,HBi⟩:=hrel;have t2':=aH HBi.out t2;have q2:∀n':aY wr,n'.val.cell? ⟨g,2,none⟩=some (.slice ba2 t.bn t.bc):=fun n'=>aH n'.ext t2';clear t2;by_cases hmt:m<t.bn
           ·obtain⟨bb,ob,rfl,hc,hw1,hw2⟩:=HI2.out.2.2 m hmt;have hmx:m<t.d.blocks.length:=by rw[HLn.out];exact hmt
            have hmt':(m:Int)<(t.bn:Int):=by omega
            have HRS:Hid (iN bn t.d.blocks=true→(0≤t.d.blocks.getD m 0∧t.d.blocks.getD m 0<bn)∧(m=0∨t.d.blocks.getD (m-1) 0<t.d.blocks.getD m 0)):=fun h=>(oJ _ _).1 h m hmx;have HRN:Hid (0≤t.d.blocks.getD m 0→t.d.blocks.getD m 0<bn→(m=0∨t.d.blocks.getD (m-1) 0<t.d.blocks.getD m 0)→wT bn t.d.blocks (m+1)):=fun h1 h2 h3 j hj=>by
             by_cases e:j=m
             ·subst e;exact⟨⟨h1,h2⟩,h3⟩
             ·exact HRI.out j (by omega)
            have w1:∀n':aY wr,n'.val.cell? ⟨w.heap.size,1,none⟩=some (.slice ba bn bc):=fun n'=>aH (aA HBi.out n'.ext) (by rw[aBP _ _ _ _ _ _ HK2.out];rfl);have qc:∀n':aY wr,n'.val.cell? ⟨bb,ob+m,none⟩=some (.int .i64 (t.d.blocks.getD m 0)):=fun n'=>aH (aA HBi.out n'.ext) hc;clear hc;have HBAD:Hid (iN bn t.d.blocks=false→cZ (aG bs) (aJ ls)=false):=fun h=>HNO.out (by rw[HSE.out];exact h);by_cases h0:t.d.blocks.getD m 0<0
            ·have HE:Hid (cZ (aG bs) (aJ ls)=false):=HBAD.out (by
              rw[Bool.eq_false_iff];intro h;have:=(HRS.out h).1;omega)
             clear hmx;generalize t.d.blocks.getD m 0=x at *;have d0:decide (x<0)=true:=by simpa using h0
             go_wp2;refine bB (by kernel_rfl) (by kernel_rfl) ?_
             repeat (first
              |go_big_quiet_skip
              |go_big_quiet_step (fail))
             refine wpQuiet_nil ?_;intro _ hw';obtain⟨n',rfl⟩:=hw';have HBn:Hid (Below wc.heap.size wc n'.val):=aA HBi.out n'.ext;generalize n'.val=W8 at *;go_wp2
             go_ret
             exact⟨by rw[HE.out];rfl,aA HB2.out HBn.out⟩
            ·by_cases h1:t.d.blocks.getD m 0<bn
             ·by_cases hm0:m=0
              ·have HR2:=aBO (HRN.out (by omega) h1 (.inl hm0));have hmz:decide ((m:Int)>0)=false:=by simp[hm0]
               have hmz2:decide ((0:Int)<(m:Int))=false:=by simp[hm0]
               have hmz3:decide (0<m)=false:=by simp[hm0]
               clear hm0 hmx;generalize t.d.blocks.getD m 0=x at *;have d0:decide (x<0)=false:=by simp;omega
               have d1:decide (x≥(bn:Int))=false:=by simp;omega
               have d2:decide ((bn:Int)≤x)=false:=by simp;omega
               go_wp2;refine bB (by kernel_rfl) (by kernel_rfl) ?_
               repeat (first
                |go_big_quiet_skip
                |go_big_quiet_step (fail))
               refine wpQuiet_nil ?_;intro _ hw';obtain⟨n',rfl⟩:=hw';have HBn:Hid (Below wc.heap.size wc n'.val):=aA HBi.out n'.ext;generalize n'.val=W8 at *;go_wp2
               go_roundw
               case rel=>exact⟨m+1,by omega,by go_num,HR2,HBn⟩
               case measure=>simp[intOf];omega
              ·obtain⟨bb',ob',ee,hc',hw1',hw2'⟩:=HI2.out.2.2 (m-1) (by omega);injection ee with ee;injection ee with ee1 ee2 _;subst ee1 ee2;have qd:∀n':aY wr,n'.val.cell? ⟨bb,ob+(m-1),none⟩=some (.int .i64 (t.d.blocks.getD (m-1) 0)):=fun n'=>aH (aA HBi.out n'.ext) hc';clear hc';have HM0:Hid (m≠0):=hm0;have hmz:decide ((m:Int)>0)=true:=by simp;omega
               have hmz2:decide ((0:Int)<(m:Int))=true:=by simp;omega
               have hmz3:decide (0<m)=true:=by simp;omega
               have hmi:((m:Int)-1).toNat=m-1:=by omega
               have hmj:(0:Int)≤(m:Int)-1:=by omega
               have hmk:(m:Int)-1<(t.bn:Int):=by omega
               clear hm0;by_cases h2:t.d.blocks.getD (m-1) 0<t.d.blocks.getD m 0
               ·have HR2:=aBO (HRN.out (by omega) h1 (.inr h2));clear hmx;generalize t.d.blocks.getD m 0=x at *;generalize t.d.blocks.getD (m-1) 0=y at *;have d0:decide (x<0)=false:=by simp;omega
                have d1:decide (x≥(bn:Int))=false:=by simp;omega
                have d2:decide ((bn:Int)≤x)=false:=by simp;omega
                have d3:decide (y≥x)=false:=by simp;omega
                have d4:decide (x≤y)=false:=by simp;omega
                go_wp2;refine bB (by kernel_rfl) (by kernel_rfl) ?_
                repeat (first
                 |go_big_quiet_skip
                 |go_big_quiet_step (fail))
                refine wpQuiet_nil ?_;intro _ hw';obtain⟨n',rfl⟩:=hw';have HBn:Hid (Below wc.heap.size wc n'.val):=aA HBi.out n'.ext;generalize n'.val=W8 at *;go_wp2
                go_roundw
                case rel=>exact⟨m+1,by omega,by go_num,HR2,HBn⟩
                case measure=>simp[intOf];omega
               ·have HE:Hid (cZ (aG bs) (aJ ls)=false):=HBAD.out (by
                 rw[Bool.eq_false_iff];intro h;rcases(HRS.out h).2 with h3|h3
                 ·exact HM0.out h3
                 ·exact h2 h3)
                clear hmx;generalize t.d.blocks.getD m 0=x at *;generalize t.d.blocks.getD (m-1) 0=y at *;have d0:decide (x<0)=false:=by simp;omega
                have d1:decide (x≥(bn:Int))=false:=by simp;omega
                have d2:decide ((bn:Int)≤x)=false:=by simp;omega
                have d3:decide (y≥x)=true:=by simp;omega
                have d4:decide (x≤y)=true:=by simp;omega
                go_wp2;refine bB (by kernel_rfl) (by kernel_rfl) ?_
                repeat (first
                 |go_big_quiet_skip
                 |go_big_quiet_step (fail))
                refine wpQuiet_nil ?_;intro _ hw';obtain⟨n',rfl⟩:=hw';have HBn:Hid (Below wc.heap.size wc n'.val):=aA HBi.out n'.ext;generalize n'.val=W8 at *;go_wp2
                go_ret
                exact⟨by rw[HE.out];rfl,aA HB2.out HBn.out⟩
             ·have HE:Hid (cZ (aG bs) (aJ ls)=false):=HBAD.out (by
               rw[Bool.eq_false_iff];intro h;have:=(HRS.out h).1;omega)
              clear hmx;generalize t.d.blocks.getD m 0=x at *;have d0:decide (x<0)=false:=by simp;omega
              have d1:decide (x≥(bn:Int))=true:=by simp;omega
              have d2:decide ((bn:Int)≤x)=true:=by simp;omega
              go_wp2;refine bB (by kernel_rfl) (by kernel_rfl) ?_
              repeat (first
               |go_big_quiet_skip
               |go_big_quiet_step (fail))
              refine wpQuiet_nil ?_;intro _ hw';obtain⟨n',rfl⟩:=hw';have HBn:Hid (Below wc.heap.size wc n'.val):=aA HBi.out n'.ext;generalize n'.val=W8 at *;go_wp2
              go_ret
              exact⟨by rw[HE.out];rfl,aA HB2.out HBn.out⟩
           ·obtain rfl:m=t.bn:=by omega
            have HR2:=aBO (HYES.out (by rw[HSE.out,oJ,HLn.out];exact HRI.out));have HK3:=aBO (aB HBi.out HK2.out);have HB3:=aBO (aA HB2.out HBi.out);clear HRI;go_wp2
            go_roundw
            case rel=>exact⟨k+1,by omega,by go_num,HR2,HK3,HB3⟩
            case measure=>simp[intOf];omega
       ·obtain rfl:k=n:=by omega
        have HALL:Hid (∀j,j<k→(∀x∈eW (aJ ls) j,0≤x∧x<bn)∧∀b,iH (aJ ls) j b=true→b<bn):=fun j hj=>UC HPAR.out HBN.out (fun i hi=>HR.out i (by rw[cQ,HLN.out] at hi;exact hi)) j (by rw[cQ,HLN.out];exact hj);go_wp2
        go_loopw [10] (fun s10 wi=>∃j:Nat,j≤k∧s10=.int .i64 (j:Int)∧Hid (∀i,i<j→dC (aG bs) ((aJ ls).getD i fC) (iH (aJ ls) i)=true)∧Hid (wi.heap[w.heap.size]? =some (bO pa pn pc ba bn bc))∧Hid (Below w.heap.size w wi)) (fun s10 _=>k-(intOf s10).toNat)
        case atStart=>exact⟨0,by omega,by go_num,fun j hj=>absurd hj (by omega),HKr,HBr⟩
        case round=>
         obtain⟨j,hj,rfl,HH,HK3,HB3⟩:=hrel;clear HKr HBr;by_cases hjk:j<k
         ·have hjk':(j:Int)<(k:Int):=by omega
          cases hh:dC (aG bs) ((aJ ls).getD j fC) (iH (aJ ls) j) with
          |false=>
           have HE:Hid (cZ (aG bs) (aJ ls)=false):=by
            rw[Hid,Bool.eq_false_iff];intro h2;simp only[cZ,Bool.and_eq_true,List.all_eq_true,List.mem_range] at h2;have h3:=(h2.2 j (by rw[cQ,HLN.out];exact hjk)).2;rw[hh] at h3;cases h3
           have HHH:=aBO hh;clear hh
           go_wp2_with (first
            |(refine wpList_load_row (o:=⟨some 126,.load 25 _,_,_,_,_⟩) rfl 25 _ rfl w.heap.size rfl 25 _ (0,0) _ HK3.out Tryz.underlying25 rfl aS ?_)
            |(go_at_call 104
              refine(yK pa pn pc ba bn bc bs a k c ls j wr (H.out.ext HB3.out) (HT.out.ext HB3.out) hjk HTOT.out (kF HF.out) (HALL.out j hjk).1 (HALL.out j hjk).2).mono ?_;rintro e w5 ⟨rfl,hb⟩;rw[HHH.out];have HB5:=aBO (aA HB3.out hb)
              clear hb))
           go_ret
           exact⟨by rw[HE.out];rfl,HB5.out⟩
          |true=>
           have HH2:Hid (∀i,i<j+1→dC (aG bs) ((aJ ls).getD i fC) (iH (aJ ls) i)=true):=fun i hi=>by
            by_cases e:i=j
            ·subst e;exact hh
            ·exact HH.out i (by omega)
           have HHH:=aBO hh;clear hh
           go_wp2_with (first
            |(refine wpList_load_row (o:=⟨some 126,.load 25 _,_,_,_,_⟩) rfl 25 _ rfl w.heap.size rfl 25 _ (0,0) _ HK3.out Tryz.underlying25 rfl aS ?_)
            |(go_at_call 104
              refine(yK pa pn pc ba bn bc bs a k c ls j wr (H.out.ext HB3.out) (HT.out.ext HB3.out) hjk HTOT.out (kF HF.out) (HALL.out j hjk).1 (HALL.out j hjk).2).mono ?_;rintro e w5 ⟨rfl,hb⟩;rw[HHH.out];have HK5:=aBO (aB hb HK3.out);have HB5:=aBO (aA HB3.out hb)
              clear hb))
           go_roundw
           case rel=>exact⟨j+1,by omega,by go_num,HH2,HK5,HB5⟩
           case measure=>simp[intOf];omega
         ·obtain rfl:j=k:=by omega
          have HE:Hid (cZ (aG bs) (aJ ls)=true):=by
           simp only[Hid,cZ,Bool.and_eq_true,List.all_eq_true,List.mem_range,HTL.out,decide_eq_true_eq];refine⟨⟨⟨⟨⟨HF.out,by rw[cQ,HLN.out];exact hl⟩,HPAR.out⟩,HOB.out⟩,by rw[HZ.out];rfl⟩,fun i hi=>?_⟩;rw[cQ,HLN.out] at hi;exact⟨HR.out i hi,HH.out i hi⟩
          go_wp2
          go_ret
          exact⟨by rw[HE.out];rfl,HB3.out⟩
     ·have HE:Hid (cZ (aG bs) (aJ ls)=false):=by simp[Hid,cZ,hz]
      have dz:(((rA (aJ ls) 0:Nat):Int) != 0)=true:=by simpa using hz
      clear hz
      go_wp2_with (go_at_call 103
                   refine(kQ a n c ls w2 (HT.out.ext HB2.out)).mono ?_;rintro e w4 ⟨rfl,rfl⟩
                   rw[HPAR.out])
      go_ret
      exact⟨by rw[HE.out];rfl,HB2.out⟩
   ·have dl:decide ((n:Int)>200)=true:=by simp;omega
    have dl2:decide ((200:Int)<(n:Int))=true:=by simp;omega
    have HE:Hid (cZ (aG bs) (aJ ls)=false):=by
     have:¬(aJ ls).length≤200:=by rw[cQ,HLN.out];exact hl
     simp[Hid,cZ,this]
    clear hl;go_wp2
    go_ret
    exact⟨by rw[HE.out];rfl,HB2.out⟩
end

section
open Go.RowKit
structure jE where
 pa:Option Addr
 pn:Nat
 pc:Nat
 ps:List Int
 ba:Option Addr
 bn:Nat
 bc:Nat
 bs:List iQ
abbrev eO(f:jE):Value:=dX f.pa f.pn f.pc f.ba f.bn f.bc
def jH(w:World)(f:jE):Prop:=dY w f.pa f.pn f.ps∧mA w f.ba f.bn f.bs
theorem jH.ext{w w':World}{f:jE}(h:jH w f)(hb:Below w.heap.size w w'):jH w' f:=⟨h.1.ext hb,h.2.ext hb⟩
def uB(f:jE):Prop:=f.pn≤1000000∧f.bn≤1000000∧∀b∈f.bs,tD b
def UY(r s:jE):Prop:=r.ps=s.ps∧r.bn=s.bn∧pE AA r.bs s.bs
def uA(w:World)(base:Nat)(r r':jE):Prop:=r'.ps=r.ps∧r'.pn=r.pn∧r'.bn=r.bn∧nZ w base (.slice r'.pa r'.pn r'.pc) r.ps∧oM w base (.slice r'.ba r'.bn r'.bc) r.bs r'.bs
theorem uA.sd{w:World}{base:Nat}{r r':jE}(h:uA w base r r'):UY r' r:=by
 obtain⟨h1,_,h2,_,_,_,_,_,h3⟩:=h
 exact⟨h1,h2,h3.same fun _ _ h=>h.sd⟩
theorem iO:kR [3,73,216,3] uA where
 chg:=fun h hc hn=>⟨h.1,h.2.1,h.2.2.1,h.2.2.2.1.chg hc hn,h.2.2.2.2.chg fB hc hn⟩
 mono:=fun hb h=>⟨h.1,h.2.1,h.2.2.1,h.2.2.2.1.mono hb,h.2.2.2.2.mono fB hb⟩
 grown:=fun he h ho hg=>⟨h.1,h.2.1,h.2.2.1,h.2.2.2.1.grown (fun e=>he (by simp[e])) ho hg,h.2.2.2.2.grown fB (fun e=>he (List.mem_cons_of_mem _ e)) ho hg⟩
theorem uA.ok{w:World}{base:Nat}{r r':jE}(h:uA w base r r')(hr:jH w r)(hna:uB r):jH w r':=by
 obtain⟨pa,pn,pc,ps,ba,bn,bc,bs⟩:=r'
 obtain⟨h1,h2,h3,h4,h5⟩:=h
 obtain⟨g,cap,e⟩:=h5.form
 injection e with e1 e2 e3
 obtain rfl:ba=some ⟨g,0,none⟩:=e1
 obtain rfl:bn=r.bn:=h3
 obtain rfl:ps=r.ps:=h1
 obtain⟨a,c,e,hi⟩:=h4.ints (by rw[hr.1.1];exact hr.1.2.1) hr.1.mem
 injection e with e1 e2' e3
 refine⟨?_,(h5.okS hr.2 hna.2.1 hna.2.2).2.1⟩
 show dY w pa pn r.ps
 have e4:pa=a:=e1
 have e5:pn=r.ps.length:=e2'
 rw[e4,e5]
 exact hi
theorem wH(r:jE)(w:World)(h:jH w r)(hn:uB r):
  Calls Tryz.prog 11 #[eO r] w fun e w'=>∃r',e=.returned (eO r')∧uA w' w.heap.size r r'∧Below w.heap.size w w':=by
 have H:=aBO h
 have HN:=aBO hn
 clear h hn
 go_enter Tryz.func11,Tryz.ntmps11
 go_wp2_with (first
  |(go_at_call 53
    refine(CO r.ba r.bn r.bc r.bs W1 (H.out.2.ext HX1.out) HN.out.2.1 HN.out.2.2).mono ?_;rintro e w1 ⟨v,rs1,rfl,hL,hb⟩;obtain⟨g1,cap1,rfl⟩:=hL.form;have x1:=aB hb HK1.out;have x2:=aB hb HZ1.out;have x3:=aA HX1.out hb;have hl0:=HL1_0.out.ext hb;have y6:w1.cell? ⟨w.heap.size,1,none⟩=some (.slice r.ba r.bn r.bc):=by rw[aBP _ _ _ _ _ _ x1];rfl
    have z6:w1.frozen? ⟨w.heap.size,1,none⟩=false:=frozen_of_row _ _ _ _ _ x1;obtain⟨W2,hW2⟩:∃W,w1.setCell ⟨w.heap.size,1,none⟩ (.slice (some ⟨g1,0,none⟩) r.bs.length cap1)=W:=⟨_,rfl⟩
    have c2:Chg (fun k=>k=w.heap.size) w1 W2:=by rw[←hW2];exact gX _ _ _ _
    have hsz:=x3.size;have HL2_1:=aBO (hL.chg fB c2 (fun k hk=>by have:=HX1.out.size;have:=(aBW.1 HK1.out).1;omega));have HL2_0:=aBO (hl0.chg c2 (fun k hk=>by simp;omega));have X1:W2.heap[w.heap.size]? =some (.cells #[.slice (some ⟨g0,0,none⟩) r.ps.length cap0,.slice (some ⟨g1,0,none⟩) r.bs.length cap1] 25 (0,0)):=by rw[←hW2,heap_setCell_same _ _ 1 _ _ _ x1];rfl
    have HK2:=aBO X1;have HZ2:=aBO (c2.row x2 (by omega));have HX2:=aBO (x3.trans (c2.below (B:=w.heap.size) x3.size (fun k hk=>by omega)));have i2_0:W2.cell? ⟨w.heap.size,0,none⟩=some (.slice (some ⟨g0,0,none⟩) r.ps.length cap0):=by rw[aBP _ _ _ _ _ _ X1];rfl
    have i2_1:W2.cell? ⟨w.heap.size,1,none⟩=some (.slice (some ⟨g1,0,none⟩) r.bs.length cap1):=by rw[aBP _ _ _ _ _ _ X1];rfl
    clear hL x1 x2 x3 hb c2 X1 i1_0 i1_1)
  |(go_at_call 52
    refine(qR r.pa r.pn r.pc r.ps _ (H.out.1.ext (aA (aD _ _) (aD _ _))) HN.out.1).mono ?_;rintro e w1 ⟨v,rfl,hL,hb⟩;obtain⟨g0,cap0,rfl⟩:=hL.form;obtain⟨x1,x2,x3⟩:=UF w (.cells #[.slice r.pa r.pn r.pc,.slice r.ba r.bn r.bc] 25) (.cells #[.slice none 0 0,.slice none 0 0] 25) w1 hb;have y6:w1.cell? ⟨w.heap.size,0,none⟩=some (.slice r.pa r.pn r.pc):=by rw[aBP _ _ _ _ _ _ x1];rfl
    have z6:w1.frozen? ⟨w.heap.size,0,none⟩=false:=frozen_of_row _ _ _ _ _ x1;obtain⟨W1,hW2⟩:∃W,w1.setCell ⟨w.heap.size,0,none⟩ (.slice (some ⟨g0,0,none⟩) r.ps.length cap0)=W:=⟨_,rfl⟩
    have c2:Chg (fun k=>k=w.heap.size) w1 W1:=by rw[←hW2];exact gX _ _ _ _
    have HL1_0:=aBO (hL.chg c2 (fun k hk=>by simp;omega));have X1:W1.heap[w.heap.size]? =some (.cells #[.slice (some ⟨g0,0,none⟩) r.ps.length cap0,.slice r.ba r.bn r.bc] 25 (0,0)):=by rw[←hW2,heap_setCell_same _ _ 0 _ _ _ x1];rfl
    have HK1:=aBO X1;have HZ1:=aBO (c2.row x2 (by omega));have HX1:=aBO (x3.trans (c2.below (B:=w.heap.size) x3.size (fun k hk=>by omega)));have i1_0:W1.cell? ⟨w.heap.size,0,none⟩=some (.slice (some ⟨g0,0,none⟩) r.ps.length cap0):=by rw[aBP _ _ _ _ _ _ X1];rfl
    have i1_1:W1.cell? ⟨w.heap.size,1,none⟩=some (.slice r.ba r.bn r.bc):=by rw[aBP _ _ _ _ _ _ X1];rfl
    clear hL x1 x2 x3 hb c2 X1)
  |(refine iW rfl 25 _ _ rfl (w.heap.size+1) #[.slice (some ⟨g0,0,none⟩) r.ps.length cap0,.slice (some ⟨g1,0,none⟩) r.bs.length cap1] rfl rfl 25 _ HZ2.out (by kernel_rfl) rfl (by simp[Value.oneCell']) ?_
    intro W9 c3 X3;have HL9_0:=aBO (HL2_0.out.chg c3 (fun k hk=>by simp;omega));have HL9_1:=aBO (HL2_1.out.chg fB c3 (fun k hk=>by have:=(aBW.1 HZ1.out).1;omega));have HX9:=aBO (HX2.out.trans (c3.below (B:=w.heap.size) HX2.out.size (fun k hk=>by omega)));have j0:W9.cell? ⟨w.heap.size+1,0,none⟩=some (.slice (some ⟨g0,0,none⟩) r.ps.length cap0):=by rw[aBP _ _ _ _ _ _ X3];rfl
    have j1:W9.cell? ⟨w.heap.size+1,1,none⟩=some (.slice (some ⟨g1,0,none⟩) r.bs.length cap1):=by rw[aBP _ _ _ _ _ _ X3];rfl
    clear c3 X3))
 refine bodyPost_ret (v:=.agg #[.slice (some ⟨g0,0,none⟩) r.ps.length cap0,.slice (some ⟨g1,0,none⟩) r.bs.length cap1]) (by simp[results,Tryz.results11,go_sem,j0,j1]) rfl ⟨⟨some ⟨g0,0,none⟩,r.ps.length,cap0,r.ps,some ⟨g1,0,none⟩,r.bs.length,cap1,rs1⟩,rfl,?_,HX9.out⟩
 exact⟨rfl,H.out.1.1,H.out.2.1.1,HL9_0.out.mono (by simp;omega),HL9_1.out.mono fB (by have:=HX1.out.size;omega)⟩
theorem GJ(r s:jE)(w:World)(hd:UY r s)(hr:jH w r)(hs:jH w s)(hna:uB s):
  Calls Tryz.prog 62 #[eO r,eO s] w fun e w'=>e=.returned (.bool true)∧Below w.heap.size w w':=by
 obtain⟨rpa,rpn,rpc,rps,rba,rbn,rbc,rbs⟩:=r
 obtain⟨h1,h2,h3⟩:=hd
 obtain rfl:rps=s.ps:=h1
 obtain rfl:rbn=s.bn:=h2
 have HR:=aBO hr
 have HS:=aBO hs
 have HSD:Hid (pE AA rbs s.bs):=h3
 have HNA:=aBO hna.2.2
 clear hr hs hna h3
 obtain⟨W0,HW0,hR,hS,hW0⟩:=rD w (.cells #[.slice rpa rpn rpc,.slice rba s.bn rbc] 25) (.cells #[.slice s.pa s.pn s.pc,.slice s.ba s.bn s.bc] 25)
 have x0:∀w',Below W0.heap.size W0 w'→w'.cell? ⟨w.heap.size,0,none⟩=some (.slice rpa rpn rpc):=fun w' hb=>by rw[aBP _ _ _ _ _ _ (aB hb hR)];rfl
 have x1:∀w',Below W0.heap.size W0 w'→w'.cell? ⟨w.heap.size,1,none⟩=some (.slice rba s.bn rbc):=fun w' hb=>by rw[aBP _ _ _ _ _ _ (aB hb hR)];rfl
 have y0:∀w',Below W0.heap.size W0 w'→w'.cell? ⟨w.heap.size+1,0,none⟩=some (.slice s.pa s.pn s.pc):=fun w' hb=>by rw[aBP _ _ _ _ _ _ (aB hb hS)];rfl
 have y1:∀w',Below W0.heap.size W0 w'→w'.cell? ⟨w.heap.size+1,1,none⟩=some (.slice s.ba s.bn s.bc):=fun w' hb=>by rw[aBP _ _ _ _ _ _ (aB hb hS)];rfl
 have E0:Below W0.heap.size W0 W0:=aBQ _ _
 clear hR hS
 go_enter Tryz.func62,Tryz.ntmps62
 go_wp2_with (first
  |(go_at_call 118
    refine(CK rba s.ba s.bn rbc s.bc rbs s.bs w1 ((HR.out.2.ext HW0.out).ext E1) ((HS.out.2.ext HW0.out).ext E1) HSD.out HNA.out).mono ?_;rintro e w2 ⟨rfl,hb2⟩
    have E2:Below W0.heap.size W0 w2:=aA E1 hb2)
  |(go_at_call 44
    refine(kG rpa s.pa rpn s.pn rpc s.pc s.ps s.ps W0 ((HR.out.1.ext HW0.out).ext E0) ((HS.out.1.ext HW0.out).ext E0)).mono ?_;rw[decide_eq_true rfl];rintro e w1 ⟨rfl,q1,hq1⟩;have E1:Below W0.heap.size W0 w1:=by rw[hq1];exact bZ E0 q1
    clear hq1))
 go_ret
 exact⟨rfl,aA HW0.out E2⟩
theorem wI(r s:jE)(base:Nat)(w:World)(h:uA w base s r)(hs:jH w s)(hn:uB s):
  Calls Tryz.prog 21 #[eO r,eO s] w fun e w'=>e=.returned (.bool true)∧Below w.heap.size w w':=by
 obtain⟨rpa,rpn,rpc,rps,rba,rbn,rbc,rbs⟩:=r
 obtain⟨g,cap,e⟩:=h.2.2.2.2.form
 injection e with e1 e2 e3
 obtain rfl:rba=some ⟨g,0,none⟩:=e1
 obtain rfl:rbc=cap:=e3
 obtain rfl:rbn=s.bn:=h.2.2.1
 clear e2
 have HR:=aBO (h.ok hs hn)
 have HS:=aBO hs
 have HH:=aBO h
 have HN:=aBO hn
 have HD:=aBO h.sd
 clear hs h hn
 obtain⟨W0,HW0,hR,hS,hW0⟩:=rD w (.cells #[.slice rpa rpn rpc,.slice (some ⟨g,0,none⟩) s.bn rbc] 25) (.cells #[.slice s.pa s.pn s.pc,.slice s.ba s.bn s.bc] 25)
 have x0:∀w',Below W0.heap.size W0 w'→w'.cell? ⟨w.heap.size,0,none⟩=some (.slice rpa rpn rpc):=fun w' hb=>by rw[aBP _ _ _ _ _ _ (aB hb hR)];rfl
 have x1:∀w',Below W0.heap.size W0 w'→w'.cell? ⟨w.heap.size,1,none⟩=some (.slice (some ⟨g,0,none⟩) s.bn rbc):=fun w' hb=>by rw[aBP _ _ _ _ _ _ (aB hb hR)];rfl
 have y0:∀w',Below W0.heap.size W0 w'→w'.cell? ⟨w.heap.size+1,0,none⟩=some (.slice s.pa s.pn s.pc):=fun w' hb=>by rw[aBP _ _ _ _ _ _ (aB hb hS)];rfl
 have y1:∀w',Below W0.heap.size W0 w'→w'.cell? ⟨w.heap.size+1,1,none⟩=some (.slice s.ba s.bn s.bc):=fun w' hb=>by rw[aBP _ _ _ _ _ _ (aB hb hS)];rfl
 have E0:Below W0.heap.size W0 W0:=aBQ _ _
 clear hR hS
 go_enter Tryz.func21,Tryz.ntmps21
 go_wp2_with (first
  |(go_at_call 64
    refine(CQ base _ _ s.ba s.bn s.bc s.bs rbs w2 (iO.ext (iO.ext HH.out HW0.out) E2).2.2.2.2 ((HS.out.ext HW0.out).ext E2).2 HN.out.2.1 HN.out.2.2).mono ?_;rintro e w3 ⟨rfl,hb3⟩
    have E3:Below W0.heap.size W0 w3:=aA E2 hb3)
  |(go_at_call 63
    refine(qS base _ s.pa s.pn s.pc s.ps w1 (iO.ext (iO.ext HH.out HW0.out) E1).2.2.2.1 ((HS.out.ext HW0.out).ext E1).1 HN.out.1).mono ?_;rintro e w2 ⟨rfl,q2,hq2⟩;have E2:Below W0.heap.size W0 w2:=by rw[hq2];exact bZ E1 q2
    clear hq2)
  |(go_at_call 62
    refine(GJ ⟨rpa,rpn,rpc,rps,some ⟨g,0,none⟩,s.bn,rbc,rbs⟩ s W0 HD.out (HR.out.ext HW0.out) (HS.out.ext HW0.out) HN.out).mono ?_
    rintro e w1 ⟨rfl,E1⟩))
 go_ret
 exact⟨rfl,aA HW0.out E3⟩
end

section
open Go.RowKit
structure FIn(e eo:TypeId)(size base K:Nat)(vo:Value)(rv:Nat→Value)(L:Nat→Nat)(w:World):Prop where
 outer:w.ownsRow base eo 1 vo K ((List.range K).map rv)
 rows:∀j,j<K→∃X,w.ownsRow base e size (rv j) (L j) X
 sep:∀i j,i<K→j<K→i≠j→rC (rv i) (rv j)
def SB(K:Nat)(rv:Nat→Value):Nat→Prop:=fun g=>∃j,j<K∧(rv j).ownBlock=some g
structure FA(e eo:TypeId)(size:Nat)(mk:Nat→Nat→List Value)(base K:Nat)(vo:Value)(rv:Nat→Value)(L:Nat→Nat)(w0:World)(k i:Nat)(w:World):Prop where
 outer:w.ownsRow base eo 1 vo K ((List.range K).map rv)
 rows:∀j,j<K→∃X,w.ownsRow base e size (rv j) (L j) X∧(j<k→X=pA mk j (L j))∧(j=k→X.take (i*size)=pA mk k i)
 chg:Chg (SB K rv) w0 w
structure FB(e eo:TypeId)(size:Nat)(mk:Nat→Nat→List Value)(base K:Nat)(vo:Value)(rv:Nat→Value)(L:Nat→Nat)(w0:World)(G k:Nat)(gv:Nat→Value)(w:World):Prop where
 outer:w.ownsRow base eo 1 vo K ((List.range K).map rv)
 rows:∀j,j<K→w.ownsRow base e size (rv j) (L j) (pA mk j (L j))
 gs:w.ownsRow base eo 1 (.slice (some ⟨G,0,none⟩) K K) K ((List.range K).map fun j=>if j<k then gv j else .slice none 0 0)
 gne:vo.ownBlock≠some G
 gnew:w0.heap.size≤G
 grow:∀j,j<k→w.ownsRow base e size (gv j) (L j+64) (pA mk j (L j+64))
 sep1:∀i j,i<K→j<k→i≠j→rC (rv i) (gv j)
 chg:Chg (SB K rv) w0 w
structure FBi(e eo:TypeId)(size:Nat)(mk:Nat→Nat→List Value)(base K:Nat)(vo:Value)(rv:Nat→Value)(L:Nat→Nat)(w0:World)(G k i:Nat)(gv:Nat→Value)(g:Value)(w:World):Prop where
 fb:FB e eo size mk base K vo rv L w0 G k gv w
 row:w.ownsRow base e size g (L k+i) (pA mk k (L k+i))
 s1:∀j,j<K→j≠k→rC (rv j) g
 s2:∀j,j<k→rC (gv j) g
 blk:∀b,g.ownBlock=some b→SB K rv b∨w0.heap.size≤b
structure FD(e eo:TypeId)(size:Nat)(mk:Nat→Nat→List Value)(base K:Nat)(vo:Value)(rv:Nat→Value)(L:Nat→Nat)(w0:World)(G k:Nat)(gl:Nat→Value)(w:World):Prop where
 outer:w.ownsRow base eo 1 vo K ((List.range K).map rv)
 rows:∀j,j<K→w.ownsRow base e size (rv j) (L j) (pA mk j (L j))
 gs:w.ownsRow base eo 1 (.slice (some ⟨G,0,none⟩) K K) K ((List.range K).map gl)
 gne:vo.ownBlock≠some G
 gnew:w0.heap.size≤G
 grow:∀j,j<k→∃Z,w.ownsRow base e size (gl j) (L j+64) (pA mk j (L j)++Z)
 sep1:∀i j,i<K→j<k→i≠j→rC (rv i) (gl j)
 chg:Chg (SB K rv) w0 w
structure FDi(e eo:TypeId)(size:Nat)(mk:Nat→Nat→List Value)(base K:Nat)(vo:Value)(rv:Nat→Value)(L:Nat→Nat)(w0:World)(G k:Nat)(gl:Nat→Value)(M:Nat)(w:World):Prop where
 fd:FD e eo size mk base K vo rv L w0 G k gl w
 many:∃Y,w.ownsRow base e size (.slice (some ⟨M,0,none⟩) 64 64) 64 Y∧∀u∈Y,u.oneCell'=true
 m1:∀j,j<K→(rv j).ownBlock≠some M
 m2:∀j,j<k→(gl j).ownBlock≠some M
 mnew:w0.heap.size≤M
section
variable {e eo:TypeId} {size:Nat} {mk:Nat→Nat→List Value} {base K:Nat} {vo:Value} {rv:Nat→Value} {L:Nat→Nat} {w0 w:World} {G k i:Nat} {gv gl:Nat→Value} {g:Value}
theorem FIn.start(h:FIn e eo size base K vo rv L w0):FA e eo size mk base K vo rv L w0 0 0 w0:=
 ⟨h.outer,fun j hj=>by
  obtain⟨X,hX⟩:=h.rows j hj
  exact⟨X,hX,fun h=>absurd h (by omega),fun _=>by simp[pA]⟩,Chg.refl _ _⟩
theorem FA.drewN(h:FA e eo size mk base K vo rv L w0 k i w)(q:Nat):FA e eo size mk base K vo rv L w0 k i (w.drewN q):=⟨h.outer,h.rows,h.chg.drewN q⟩
theorem FA.next(h:FA e eo size mk base K vo rv L w0 k (L k) w):FA e eo size mk base K vo rv L w0 (k+1) 0 w:=
 ⟨h.outer,fun j hj=>by
  obtain⟨X,hX,h1,h2⟩:=h.rows j hj;refine⟨X,hX,fun hlt=>?_,fun _=>by simp[pA]⟩;by_cases hjk:j=k
  ·have:=h2 hjk;subst hjk
   rwa [aCB (by rw[hX.1];exact aBV _)] at this
  ·exact h1 (by omega),h.chg⟩
theorem FA.row(h:FA e eo size mk base K vo rv L w0 k i w)(hk:k<K):∃a c,rv k=.slice a (L k) c∧L k≤c∧c≤maxLen:=by
 obtain⟨X,hX,_⟩:=h.rows k hk
 rcases hX.2 with ⟨e1,e2⟩|⟨g,cap,cur,e1,_,_,h1,h2,_⟩
 ·exact⟨none,0,by rw[e1,e2],by omega,by omega⟩
 ·exact⟨_,cap,e1,h1,h2⟩
theorem FA.cell(h:FA e eo 1 mk base K vo rv L w0 k i w)(hk:k<K)(hi:i<L k):
  ∃b cap,rv k=.slice (some ⟨b,0,none⟩) (L k) cap∧cap≤maxLen∧L k≤cap∧(∃u,w.cell? ⟨b,i,none⟩=some u)∧w.frozen? ⟨b,i,none⟩=false∧b<w.heap.size:=by
 obtain⟨X,hX,_⟩:=h.rows k hk
 rcases hX.2 with ⟨e1,e2⟩|⟨b,cap,cur,e1,_,hh,h1,h2,h3,h4⟩
 ·omega
 ·rw[e1] at hX;refine⟨b,cap,e1,h2,h1,?_,World.ownsRow.frozenAt hX i,(aBW.1 hh).1⟩;rw[World.ownsRow.cellAt hX i (by omega)];exact⟨X[i]'(by rw[hX.1];omega),aBU _⟩
theorem FA.store(h:FA e eo 1 mk base K vo rv L w0 k i w)(hne:e≠eo)(hsep:∀i j,i<K→j<K→i≠j→rC (rv i) (rv j))(hk:k<K)(hi:i<L k){b cap:Nat}(hb:rv k=.slice (some ⟨b,0,none⟩) (L k) cap)(u:Value)(hu:mk k i= [u]):
  FA e eo 1 mk base K vo rv L w0 k (i+1) (w.setCell ⟨b,i,none⟩ u):=by
 obtain⟨X,hX,hX1,hX2⟩:=h.rows k hk
 rw[hb] at hX
 obtain⟨hs,hg⟩:=World.ownsRow.stored hX i u
 have hkb:(rv k).ownBlock=some b:=by rw[hb];rfl
 refine⟨h.outer.kept hg (.inr (fun e=>?_)),fun j hj=>?_,h.chg.setCell (.inl ⟨k,hk,hkb⟩) u⟩
 ·exact gL hX h.outer hne b rfl e
 ·by_cases hjk:j=k
  ·subst hjk;refine⟨X.set i u,by rw[hb];exact hs,fun hlt=>absurd hlt (by omega),fun _=>?_⟩;have hlen:i<X.length:=by rw[hX.1];omega
   have:=hX2 rfl;rw[Nat.mul_one] at this⊢;rw[nU,hu,←this,List.take_set,List.take_add_one,List.set_append,if_neg (by simp;omega),aBU hlen];simp[Nat.min_eq_left (Nat.le_of_lt hlen)]
  ·obtain⟨Y,hY,hY1,hY2⟩:=h.rows j hj;refine⟨Y,hY.kept hg (.inr (fun e=>hsep k j hk hj (fun h=>hjk h.symm) b hkb e)),hY1,fun e=>absurd e hjk⟩
theorem FA.made(h:FA e eo size mk base K vo rv L w0 K 0 w){w':World}(hg:w.grownBy w' none)(hm:w'.ownsRow base eo 1 (.slice (some ⟨w.heap.size,0,none⟩) K K) K (List.replicate K (.slice none 0 0))):
  FB e eo size mk base K vo rv L w0 w.heap.size 0 (fun _=>.slice none 0 0) w':=by
 have kp:∀{base:Nat} {e:TypeId} {size:Nat} {v:Value} {n:Nat} {xs:List Value},w.ownsRow base e size v n xs→w'.ownsRow base e size v n xs:=fun {_ _ _ v _ _} h=>h.kept hg (by
  cases hv:v.ownBlock with
  |none=>exact .inl rfl
  |some b=>exact .inr (fun e=>by cases e))
 refine⟨kp h.outer,fun j hj=>?_,?_,?_,h.chg.size,fun j hj=>absurd hj (by omega),fun i j _ hj=>absurd hj (by omega),h.chg.grown hg (fun k e=>by cases e)⟩
 ·obtain⟨X,hX,h1,_⟩:=h.rows j hj;rw[←h1 hj];exact kp hX
 ·have:((List.range K).map fun j=>if j<0 then (Value.slice none 0 0) else .slice none 0 0)=List.replicate K (.slice none 0 0):=by
   refine List.ext_getElem (by simp) fun i h1 h2=>by simp
  rw[this];exact hm
 ·intro e;have:=(tY h.outer _ e).2;omega
theorem FB.start(h:FB e eo size mk base K vo rv L w0 G k gv w)(hsep:∀i j,i<K→j<K→i≠j→rC (rv i) (rv j))(hk:k<K):FBi e eo size mk base K vo rv L w0 G k 0 gv (rv k) w:=
 ⟨h,h.rows k hk,fun j hj hne=>hsep j k hj hk hne,fun j hj=>(h.sep1 k j hk hj (by omega)).symm,fun b hb=>.inl ⟨k,hk,hb⟩⟩
theorem FB.row(h:FB e eo size mk base K vo rv L w0 G k gv w){j:Nat}(hj:j<K):∃a c,rv j=.slice a (L j) c∧L j≤c∧c≤maxLen:=by
 rcases(h.rows j hj).2 with ⟨e1,e2⟩|⟨g,cap,cur,e1,_,_,h1,h2,_⟩
 ·exact⟨none,0,by rw[e1,e2],by omega,by omega⟩
 ·exact⟨_,cap,e1,h1,h2⟩
theorem FBi.step(h:FBi e eo size mk base K vo rv L w0 G k i gv g w)(hne:e≠eo)(hk:k<K){g':Value}{w':World}{b' H:Nat}(hrow:w'.ownsRow base e size g' (L k+i+1) (pA mk k (L k+i)++mk k (L k+i)))
  (hg:w.grownBy w' g.ownBlock) (hb':g'.ownBlock=some b') (hat:some b'=g.ownBlock∨b'=H) (hH:w.heap.size≤H) (hkeep:IF e size g (L k+i) w w'):FBi e eo size mk base K vo rv L w0 G k (i+1) gv g' w':=by
 have oth:∀{v:Value} {xs:List Value},w.ownsRow base eo 1 v K xs→w'.ownsRow base eo 1 v K xs:=fun {v xs} ho=>ho.kept hg (by
  cases hv:v.ownBlock with
  |none=>exact .inl rfl
  |some b=>exact .inr (fun e=>gL ho h.row (fun h=>hne h.symm) b hv e.symm))
 have hrw:∀j,j<K→w'.ownsRow base e size (rv j) (L j) (pA mk j (L j)):=fun j hj=>hkeep _ _ _ _ (h.fb.rows j hj) (fun b h1 h2=>by
  by_cases hjk:j=k
  ·subst hjk;omega
  ·exact absurd h2 (h.s1 j hj hjk b h1))
 have hgr:∀j,j<k→w'.ownsRow base e size (gv j) (L j+64) (pA mk j (L j+64)):=fun j hj=>hkeep _ _ _ _ (h.fb.grow j hj) (fun b h1 h2=>absurd h2 (h.s2 j hj b h1))
 have sp:∀{v:Value},rC v g→(∀b,v.ownBlock=some b→b<w.heap.size)→rC v g':=fun {v} hs hlt b h1 h2=>by
  rw[hb'] at h2;injection h2 with h2;subst h2;rcases hat with hat|hat
  ·exact hs _ h1 hat.symm
  ·have:=hlt _ h1;omega
 refine⟨⟨oth h.fb.outer,hrw,oth h.fb.gs,h.fb.gne,h.fb.gnew,hgr,h.fb.sep1,h.fb.chg.grown hg h.blk⟩,?_,?_,?_,?_⟩
 ·have:=nU mk k (L k+i);rw[←this] at hrow;exact hrow
 ·intro j hj hjk;exact sp (h.s1 j hj hjk) (fun b hb=>(tY (h.fb.rows j hj) b hb).2)
 ·intro j hj;exact sp (h.s2 j hj) (fun b hb=>(tY (h.fb.grow j hj) b hb).2)
 ·intro b hb;rw[hb'] at hb;injection hb with hb;subst hb;rcases hat with hat|hat
  ·exact h.blk _ hat.symm
  ·have:=h.fb.chg.size;exact .inr (by omega)
theorem FBi.fin(h:FBi e eo size mk base K vo rv L w0 G k 64 gv g w)(hne:e≠eo)(hk:k<K):FB e eo size mk base K vo rv L w0 G (k+1) (fun j=>if j=k then g else gv j) (w.setCell ⟨G,k,none⟩ g):=by
 obtain⟨hs,hg⟩:=World.ownsRow.stored h.fb.gs k g
 have oth:∀{v:Value} {n:Nat} {xs:List Value},w.ownsRow base e size v n xs→(w.setCell ⟨G,k,none⟩ g).ownsRow base e size v n xs:=fun {v n xs} ho=>ho.kept hg (by
  cases hv:v.ownBlock with
  |none=>exact .inl rfl
  |some b=>exact .inr (fun e=>gL ho h.fb.gs hne b hv (by rw[e];rfl)))
 refine⟨h.fb.outer.kept hg (.inr h.fb.gne),fun j hj=>oth (h.fb.rows j hj),?_,h.fb.gne,h.fb.gnew,fun j hj=>?_,fun i j hi hj hij=>?_,h.fb.chg.setCell (.inr h.fb.gnew) g⟩
 ·rw[tH] at hs;have:(fun j=>if j=k then g else if j<k then gv j else (Value.slice none 0 0))=(fun j=>if j<k+1 then (if j=k then g else gv j) else .slice none 0 0):=by
   funext j
   by_cases h1:j=k
   ·subst h1;simp
   ·by_cases h2:j<k
    ·simp[h1,h2,show j<k+1 by omega]
    ·simp[h1,h2,show¬j<k+1 by omega]
  rw[this] at hs;exact hs
 ·by_cases hjk:j=k
  ·subst hjk;simp only[if_true];exact oth h.row
  ·simp only[hjk,if_false];exact oth (h.fb.grow j (by omega))
 ·by_cases hjk:j=k
  ·subst hjk;simp only[if_true];exact h.s1 i hi hij
  ·simp only[hjk,if_false];exact h.fb.sep1 i j hi (by omega) hij
theorem FB.outs(h:FB e eo size mk base K vo rv L w0 G k gv w){j:Nat}(hj:j<K):∃O c,vo=.slice (some ⟨O,0,none⟩) K c∧w.cell? ⟨O,j,none⟩=some (rv j)∧w.cell? ⟨G,j,none⟩=some (if j<k then gv j else .slice none 0 0)∧w.frozen? ⟨G,j,none⟩=false:=by
 rcases h.outer.2 with ⟨_,e2⟩|⟨O,c,cur,e1,_⟩
 ·omega
 ·have ho:=h.outer;rw[e1] at ho;refine⟨O,c,e1,?_,?_,World.ownsRow.frozenAt h.gs j⟩
  ·rw[World.ownsRow.cellAt ho j (by omega)];simp[hj]
  ·rw[World.ownsRow.cellAt h.gs j (by omega)];simp[hj]
theorem FA.outs(h:FA e eo size mk base K vo rv L w0 k i w){j:Nat}(hj:j<K):∃O c,vo=.slice (some ⟨O,0,none⟩) K c∧w.cell? ⟨O,j,none⟩=some (rv j):=by
 rcases h.outer.2 with ⟨_,e2⟩|⟨O,c,cur,e1,_⟩
 ·omega
 ·have ho:=h.outer;rw[e1] at ho;refine⟨O,c,e1,?_⟩;rw[World.ownsRow.cellAt ho j (by omega)];simp[hj]
theorem vB{w:World}{base:Nat}{e:TypeId}{v:Value}{n:Nat}{xs:List Value}(h:w.ownsRow base e 1 v n xs){i:Nat}(hi:i<n){u:Value}(hu:xs[i]? =some u):
  ∃b c,v=.slice (some ⟨b,0,none⟩) n c∧w.cell? ⟨b,i,none⟩=some u:=by
 rcases h.2 with ⟨_,e2⟩|⟨b,c,cur,rfl,_⟩
 ·omega
 ·exact⟨b,c,rfl,by rw[World.ownsRow.cellAt h i (by omega)];exact hu⟩
theorem FB.toD(h:FB e eo size mk base K vo rv L w0 G K gv w):FD e eo size mk base K vo rv L w0 G 0 (fun j=>if j<K then gv j else .slice none 0 0) w:=
 ⟨h.outer,h.rows,h.gs,h.gne,h.gnew,fun j hj=>absurd hj (by omega),fun i j _ hj=>absurd hj (by omega),h.chg⟩
theorem FD.drewN(h:FD e eo size mk base K vo rv L w0 G k gl w)(q:Nat):FD e eo size mk base K vo rv L w0 G k gl (w.drewN q):=⟨h.outer,h.rows,h.gs,h.gne,h.gnew,h.grow,h.sep1,h.chg.drewN q⟩
theorem FD.made(h:FD e eo size mk base K vo rv L w0 G k gl w){w':World}(hg:w.grownBy w' none){Y:List Value}(hm:w'.ownsRow base e size (.slice (some ⟨w.heap.size,0,none⟩) 64 64) 64 Y)(hY:∀u∈Y,u.oneCell'=true)(hk:k≤K):
  FDi e eo size mk base K vo rv L w0 G k gl w.heap.size w':=by
 have kp:∀{base:Nat} {e:TypeId} {size:Nat} {v:Value} {n:Nat} {xs:List Value},w.ownsRow base e size v n xs→w'.ownsRow base e size v n xs:=fun {_ _ _ v _ _} h=>h.kept hg (by
  cases hv:v.ownBlock with
  |none=>exact .inl rfl
  |some b=>exact .inr (fun e=>by cases e))
 refine⟨⟨kp h.outer,fun j hj=>kp (h.rows j hj),kp h.gs,h.gne,h.gnew,fun j hj=>?_,h.sep1,h.chg.grown hg (fun k e=>by cases e)⟩,⟨Y,hm,hY⟩,fun j hj e=>?_,fun j hj e=>?_,h.chg.size⟩
 ·obtain⟨Z,hZ⟩:=h.grow j hj;exact⟨Z,kp hZ⟩
 ·have:=(tY (h.rows j hj) _ e).2;omega
 ·obtain⟨Z,hZ⟩:=h.grow j hj;have:=(tY hZ _ e).2;omega
theorem FDi.set_{M:Nat}(h:FDi e eo size mk base K vo rv L w0 G k gl M w)(hne:e≠eo)(i:Nat)(u:Value)(hu:u.oneCell'=true):FDi e eo size mk base K vo rv L w0 G k gl M (w.setCell ⟨M,i,none⟩ u):=by
 obtain⟨Y,hY,hY1⟩:=h.many
 obtain⟨hs,hg⟩:=World.ownsRow.stored hY i u
 refine⟨⟨h.fd.outer.kept hg (.inr (fun e=>gL hY h.fd.outer hne M rfl e)),fun j hj=>(h.fd.rows j hj).kept hg (.inr (h.m1 j hj)),h.fd.gs.kept hg (.inr (fun e=>gL hY h.fd.gs hne M rfl e)),h.fd.gne,h.fd.gnew,fun j hj=>?_,h.fd.sep1,h.fd.chg.setCell (.inr h.mnew) u⟩,⟨_,hs,fun v hv=>?_⟩,h.m1,h.m2,h.mnew⟩
 ·obtain⟨Z,hZ⟩:=h.fd.grow j hj;exact⟨Z,hZ.kept hg (.inr (h.m2 j hj))⟩
 ·rcases List.mem_or_eq_of_mem_set hv with hv|hv
  ·exact hY1 v hv
  ·rw[hv];exact hu
theorem FDi.fin{M:Nat}(h:FDi e eo size mk base K vo rv L w0 G k gl M w)(hne:e≠eo)(hsep:∀i j,i<K→j<K→i≠j→rC (rv i) (rv j))(hk:k<K){v':Value}{w':World}{Y:List Value}(hrow:w'.ownsRow base e size v' (L k+64) (pA mk k (L k)++Y))
  (hg:w.grownBy w' (rv k).ownBlock) (hat:v'.ownBlock=(rv k).ownBlock∨v'.ownBlock=some w.heap.size) (hkeep:IF e size (rv k) (L k) w w'):FD e eo size mk base K vo rv L w0 G (k+1) (fun j=>if j=k then v' else gl j) (w'.setCell ⟨G,k,none⟩ v'):=by
 have oth:∀{v:Value} {xs:List Value},w.ownsRow base eo 1 v K xs→w'.ownsRow base eo 1 v K xs:=fun {v xs} ho=>ho.kept hg (by
  cases hv:v.ownBlock with
  |none=>exact .inl rfl
  |some b=>exact .inr (fun e=>gL ho (h.fd.rows k hk) (fun h=>hne h.symm) b hv e.symm))
 obtain⟨hs,hg2⟩:=World.ownsRow.stored (oth h.fd.gs) k v'
 have oth2:∀{v:Value} {n:Nat} {xs:List Value},w'.ownsRow base e size v n xs→(w'.setCell ⟨G,k,none⟩ v').ownsRow base e size v n xs:=fun {v n xs} ho=>ho.kept hg2 (by
  cases hv:v.ownBlock with
  |none=>exact .inl rfl
  |some b=>exact .inr (fun e=>gL ho (oth h.fd.gs) hne b hv (by rw[e];rfl)))
 refine⟨(oth h.fd.outer).kept hg2 (.inr h.fd.gne),fun j hj=>oth2 (hkeep _ _ _ _ (h.fd.rows j hj) (fun b h1 h2=>?_)),?_,h.fd.gne,h.fd.gnew,fun j hj=>?_,fun i j hi hj hij=>?_,(h.fd.chg.grown hg (fun b hb=>.inl ⟨k,hk,hb⟩)).setCell (.inr h.fd.gnew) v'⟩
 ·by_cases hjk:j=k
  ·subst hjk;exact aBV _
  ·exact absurd h2 (hsep j k hj hk hjk b h1)
 ·rw[tH] at hs;exact hs
 ·by_cases hjk:j=k
  ·subst hjk;simp only[if_true];exact⟨Y,oth2 hrow⟩
  ·simp only[hjk,if_false];obtain⟨Z,hZ⟩:=h.fd.grow j (by omega);exact⟨Z,oth2 (hkeep _ _ _ _ hZ (fun b h1 h2=>absurd h1 (h.fd.sep1 k j hk (by omega) (fun h=>hjk h.symm) b h2)))⟩
 ·by_cases hjk:j=k
  ·subst hjk;simp only[if_true];intro b h1 h2;rcases hat with hat|hat
   ·exact hsep i j hi hk hij b h1 (by rw[←hat];exact h2)
   ·rw[hat] at h2;injection h2 with h2;have:=(tY (h.fd.rows i hi) b h1).2;omega
  ·simp only[hjk,if_false];exact h.fd.sep1 i j hi (by omega) hij
theorem FD.outs(h:FD e eo size mk base K vo rv L w0 G k gl w){j:Nat}(hj:j<K):∃O c,vo=.slice (some ⟨O,0,none⟩) K c∧w.cell? ⟨O,j,none⟩=some (rv j)∧w.cell? ⟨G,j,none⟩=some (gl j)∧w.frozen? ⟨G,j,none⟩=false∧O<w.heap.size∧G<w.heap.size:=by
 rcases h.outer.2 with ⟨_,e2⟩|⟨O,c,cur,e1,_,hh,_⟩
 ·omega
 ·have ho:=h.outer;rw[e1] at ho;refine⟨O,c,e1,?_,?_,World.ownsRow.frozenAt h.gs j,(aBW.1 hh).1,(tY h.gs G rfl).2⟩
  ·rw[World.ownsRow.cellAt ho j (by omega)];simp[hj]
  ·rw[World.ownsRow.cellAt h.gs j (by omega)];simp[hj]
theorem FD.row(h:FD e eo size mk base K vo rv L w0 G k gl w){j:Nat}(hj:j<K):∃a c,rv j=.slice a (L j) c∧L j≤c∧c≤maxLen:=by
 rcases(h.rows j hj).2 with ⟨e1,e2⟩|⟨g,cap,cur,e1,_,_,h1,h2,_⟩
 ·exact⟨none,0,by rw[e1,e2],by omega,by omega⟩
 ·exact⟨_,cap,e1,h1,h2⟩
end
end

section
open Go.RowKit
theorem NI:(Tryz.prog.info? 3).map (fun i=>(i.zero,i.size,i.bytes))=some (some (.int .i64 0),1,8):=by kernel_rfl
def mkI(k i:Nat):List Value:= [.int .i64 (fI (k:Int) (i:Int))]
theorem uV(k i:Nat):(mkI k i).length=1:=rfl
abbrev FAI:=FA 3 22 1 mkI
abbrev FBI:=FB 3 22 1 mkI
abbrev aAT:=FBi 3 22 1 mkI
abbrev FDI:=FD 3 22 1 mkI
abbrev aBN:=FDi 3 22 1 mkI
theorem fH{W:World}{base:Nat}{e:TypeId}{size:Nat}{v:Value}{k:Nat}{xs:List Value}(h:W.ownsRow base e size v k xs):∃a c,v=.slice a k c:=by
 rcases h.2 with ⟨rfl,rfl⟩|⟨g,cap,cur,rfl,_⟩
 ·exact⟨none,0,rfl⟩
 ·exact⟨_,_,rfl⟩
theorem OF(k i:Int)(w:World)(hk:0≤k∧k≤1000000000)(hi:0≤i∧i≤100000000000000):
  Calls Tryz.prog 112 #[.int .i64 k,.int .i64 i] w fun e w'=>e=.returned (.int .i64 (fI k i))∧w'=w:=
 (iS k i w hk hi).mono fun _ _ ⟨h1,h2⟩=>⟨h1,h2.symm⟩
theorem NH:(Tryz.prog.info? 22).map (fun i=>(i.zero,i.size,i.bytes))=some (some (.slice none 0 0),1,24):=by kernel_rfl
theorem wM(a:Option Addr)(K c base:Nat)(rv:Nat→Value)(L:Nat→Nat)(w:World)(h:FIn 3 22 1 base K (.slice a K c) rv L w)(hK:K≤1000000)(hL:∀j,j<K→L j≤1000000)(hbase:base≤w.heap.size):
  Calls Tryz.prog 143 #[.slice a K c] w fun e w'=>e=.returned (.bool true)∧Chg (SB K rv) w w':=by
 have HS:=aBO h.sep
 have HL:=aBO hL
 have HF0:Hid (FAI base K (.slice a K c) rv L w 0 0 w):=h.start
 clear h hL
 go_enter Tryz.func143,Tryz.ntmps143
 go_wp2
 go_loopw [3,4] (fun kk ii wr=>∃(k:Nat),k≤K∧kk=.int .i64 k∧Hid (FAI base K (.slice a K c) rv L w k 0 wr)) (fun kk _ _=>K-(intOf kk).toNat)
 case atStart=>exact⟨0,by omega,rfl,HF0⟩
 case round=>
  obtain⟨k,hk,rfl,HF⟩:=hrel;by_cases hlt:k<K
  ·obtain⟨O,cO,e0,hO⟩:=HF.out.outs hlt;obtain⟨ar,cr,e1,hc1,hc2⟩:=HF.out.row hlt;simp only[Value.slice.injEq,true_and] at e0;obtain⟨rfl,rfl⟩:=e0;rw[e1] at hO;have hLk:=HL.out k hlt;have HE1:=aBO e1;clear e1;unfold maxLen at hc2;go_wp2
   go_loopw [4] (fun ii wr=>∃(i:Nat),i≤L k∧ii=.int .i64 i∧Hid (FAI base K (.slice (some ⟨O,0,none⟩) K c) rv L w k i wr)) (fun ii _=>L k-(intOf ii).toNat)
   case atStart=>exact⟨0,by omega,rfl,HF⟩
   case round=>
    clear HF hO;obtain⟨i,hi,rfl,HF⟩:=hrel;obtain⟨O',cO',e0,hO⟩:=HF.out.outs hlt;simp only[Value.slice.injEq,true_and,Option.some.injEq,Addr.mk.injEq,and_true] at e0;obtain⟨rfl,rfl⟩:=e0;rw[HE1.out] at hO;by_cases hlt2:i<L k
    ·obtain⟨b,cap,e1,hcp1,hcp2,⟨u,hcell⟩,hfz,hbl⟩:=HF.out.cell hlt hlt2;have HE2:=aBO e1;rw[HE1.out] at e1;simp only[Value.slice.injEq,true_and] at e1;obtain⟨rfl,rfl⟩:=e1;go_wp2;refine wp_region_still_tail 9 (by kernel_rfl) (by kernel_rfl) ?_;simp only[List.take_succ_cons,List.take_zero,List.drop_succ_cons,List.drop_zero]
     repeat (first|still_step|still_call (OF _ _ _ ⟨by omega,by omega⟩ ⟨by omega,by omega⟩))
     refine wpStill_nil ?_;change wpList _ _ _ _ _ wr.drew;go_wp2
     go_roundw
     case rel=>exact⟨i+1,by omega,by go_num,(HF.out.drewN 1).store (by decide) HS.out hlt hlt2 HE2.out _ rfl⟩
     case measure=>simp[intOf];omega
    ·obtain rfl:i=L k:=by omega
     go_wp2
     go_roundw
     case rel=>exact⟨k+1,by omega,by go_num,HF.out.next⟩
     case measure=>simp[intOf];omega
  ·obtain rfl:k=K:=by omega
   obtain⟨i0,hi,hz0,hz1,hz2⟩:=info_parts (P:=Tryz.prog) NH
   go_wp2_with (first
    |(at_make
      refine wpList_make_full wr rfl _ _ 53 rfl base 22 i0 (.slice none 0 0) 1 Tryz.underlying53 hi hz0 hz1 .i64 .i64 _ _ k rfl rfl rfl rfl (by rw[hz2];omega) (by simp only[maxLen];omega) (by have:=HF.out.chg.size;omega) ?_;intro w3 hown3 hg3
      have HB0:=aBO (HF.out.made hg3 (by
       have e:(madeCells (Value.slice none 0 0).cells (k*1)).toList=List.replicate k (.slice none 0 0):=by
        have:(Value.slice none 0 0).cells= #[.slice none 0 0]:=rfl;rw[this,toList_madeCells_one,Nat.mul_one]
       rw[e] at hown3
       exact hown3))
      clear hown3 hg3))
   clear hi hz0 hz1 hz2;generalize wr.heap.size=G at *;clear HF HF0
   go_loopw [6,7,8] (fun kk gg ii wr=>∃(j:Nat) (gv:Nat→Value),j≤k∧kk=.int .i64 j∧Hid (FBI base k (.slice a k c) rv L w G j gv wr)) (fun kk _ _ _=>k-(intOf kk).toNat)
   case atStart=>exact⟨0,_,by omega,rfl,HB0⟩
   case round=>
    clear HB0;obtain⟨j,gv,hj,rfl,HF⟩:=hrel;by_cases hlt2:j<k
    ·obtain⟨O,cO,e0,hO,hG,hfz⟩:=HF.out.outs hlt2;obtain⟨ar,cr,e1,hc1,hc2⟩:=HF.out.row hlt2;simp only[Value.slice.injEq,true_and] at e0;obtain⟨rfl,rfl⟩:=e0;rw[e1] at hO;have hLk:=HL.out j hlt2;have HI0:=aBO (HF.out.start HS.out hlt2);rw[e1] at HI0;have HE1:=aBO e1;clear e1;unfold maxLen at hc2;go_wp2
     go_loopw [7,8] (fun gg ii wr=>∃(i:Nat),i≤64∧ii=.int .i64 i∧Hid (aAT base k (.slice (some ⟨O,0,none⟩) k c) rv L w G j i gv gg wr)) (fun _ ii _=>64-(intOf ii).toNat)
     case atStart=>exact⟨0,by omega,rfl,HI0⟩
     case round=>
      clear HI0 HF hO hG hfz;obtain⟨i,hi,rfl,HI⟩:=hrel;obtain⟨O',cO',e0,hO,hG,hfz⟩:=HI.out.fb.outs hlt2;simp only[Value.slice.injEq,true_and,Option.some.injEq,Addr.mk.injEq,and_true] at e0;obtain⟨rfl,rfl⟩:=e0;rw[HE1.out] at hO;by_cases hlt3:i<64
      ·go_wp2_with (first
        |(go_at_call 112;refine(iS _ _ _ (by omega) (by omega)).mono ?_;rintro e w' ⟨rfl,rfl⟩)
        |(at_builtin
          refine iT rfl wr (.tmp 57) (.tmp 67) 22 3 rfl base _ 1 8 Tryz.underlying22 NI rfl (by omega) u7 (L j+i) _ [.int .i64 (fI (j:Int) ((L j:Int)+(i:Int)))] rfl HI.out.row wr.heap.size rfl rfl rfl (by simp[Value.oneCell']) (by simp only[maxLen];omega) (by omega) (by have:=HI.out.fb.chg.size;omega) ?_;intro g cap w2 hown2 hg2 hat2 hkeep2;have HI2:Hid (aAT base k (.slice (some ⟨O,0,none⟩) k c) rv L w G j (i+1) gv (.slice (some ⟨g,0,none⟩) (L j+i+1) cap) w2):=HI.out.step (by decide) hlt2 hown2 hg2 rfl hat2 (by omega) hkeep2
          clear hown2 hat2 hg2 hkeep2))
       go_roundw
       case rel=>exact⟨i+1,by omega,by go_num,HI2⟩
       case measure=>simp[intOf];omega
      ·obtain rfl:i=64:=by omega
       obtain⟨ag,cg,eg⟩:=fH HI.out.row;subst eg;go_wp2
       go_roundw
       case rel=>exact⟨j+1,_,by omega,by go_num,HI.out.fin (by decide) hlt2⟩
       case measure=>simp[intOf];omega
    ·obtain rfl:j=k:=by omega
     clear hj hk hlt hlt2;go_wp2
     go_loopw [9,10] (fun kk ii wz=>∃(k q:Nat),k≤j∧kk=.int .i64 k∧wz=wr.drewN q) (fun kk _ _=>j-(intOf kk).toNat)
     case atStart=>exact⟨0,0,by omega,rfl,rfl⟩
     case round=>
      obtain⟨k,q,hk,rfl,rfl⟩:=hrel;by_cases hlt:k<j
      ·obtain⟨O,cO,e0,hO,hG,hfz⟩:=HF.out.outs hlt;obtain⟨ar,cr,e1,hc1,hc2⟩:=HF.out.row hlt;simp only[Value.slice.injEq,true_and] at e0;obtain⟨rfl,rfl⟩:=e0;rw[if_pos hlt] at hG;rw[e1] at hO;obtain⟨ag,cg,eg⟩:=fH (HF.out.grow k hlt);rw[eg] at hG;have HE1:=aBO e1;have HEG:=aBO eg;clear e1 eg;have hLk:=HL.out k hlt;unfold maxLen at hc2;go_wp2
       go_loopw [10] (fun ii wz=>∃(i q:Nat),i≤L k+64∧ii=.int .i64 i∧wz=wr.drewN q) (fun ii _=>L k+64-(intOf ii).toNat)
       case atStart=>exact⟨0,q,by omega,rfl,rfl⟩
       case round=>
        obtain⟨i,q2,hi,rfl,rfl⟩:=hrel;by_cases hlt2:i<L k+64
        ·obtain⟨bg,cg',e2,hcg⟩:=vB (HF.out.grow k hlt) hlt2 (u:=.int .i64 (fI (k:Int) (i:Int))) (by rw[zM mkI uV _ _ _ hlt2];rfl);rw[HEG.out] at e2;simp only[Value.slice.injEq,true_and] at e2;obtain⟨rfl,rfl⟩:=e2;by_cases hlt3:i<L k
         ·obtain⟨br,cr',e3,hcr⟩:=vB (HF.out.rows k hlt) hlt3 (u:=.int .i64 (fI (k:Int) (i:Int))) (by rw[zM mkI uV _ _ _ hlt3];rfl);rw[HE1.out] at e3;simp only[Value.slice.injEq,true_and] at e3;obtain⟨rfl,rfl⟩:=e3;have d1:decide (i<L k)=true:=by simpa using hlt3
          go_wp2
          go_quiet ((go_at_call 112;exact lS (iS _ _ _ ⟨by omega,by omega⟩ ⟨by omega,by omega⟩)))
          go_wp2
          go_roundw
          case rel=>exact⟨i+1,_,by omega,by go_num,rfl⟩
          case measure=>simp[intOf];omega
         ·have d1:decide (i<L k)=false:=by simpa using hlt3
          go_wp2
          go_quiet ((go_at_call 112;exact lS (iS _ _ _ ⟨by omega,by omega⟩ ⟨by omega,by omega⟩)))
          go_wp2
          go_roundw
          case rel=>exact⟨i+1,_,by omega,by go_num,rfl⟩
          case measure=>simp[intOf];omega
        ·obtain rfl:i=L k+64:=by omega
         go_wp2
         go_roundw
         case rel=>exact⟨k+1,_,by omega,by go_num,rfl⟩
         case measure=>simp[intOf];omega
      ·obtain rfl:k=j:=by omega
       have HD0:=aBO (HF.out.toD.drewN q);clear HF hk hlt;obtain⟨i0,hi,hz0,hz1,hz2⟩:=info_parts (P:=Tryz.prog) NI;go_wp2
       go_loopw [11,12,13] (fun kk mm ii wz=>∃(j:Nat) (gl:Nat→Value),j≤k∧kk=.int .i64 j∧Hid (FDI base k (.slice a k c) rv L w G j gl wz)) (fun kk _ _ _=>k-(intOf kk).toNat)
       case atStart=>exact⟨0,_,by omega,rfl,HD0⟩
       case round=>
        clear HD0;obtain⟨j,gl,hj,rfl,HD⟩:=hrel;by_cases hlt:j<k
        ·have hLk:=HL.out j hlt
         go_wp2_with (first
          |(at_make
            refine wpList_make_full wr rfl _ _ 22 rfl base 3 i0 (.int .i64 0) 1 Tryz.underlying22 hi hz0 hz1 .i64 .i64 _ _ 64 rfl rfl rfl rfl (by rw[hz2];omega) (by simp only[maxLen];omega) (by have:=HD.out.chg.size;omega) ?_;intro w3 hown3 hg3
            have HM0:=aBO (HD.out.made hg3 hown3 (by
             have e:(madeCells (Value.int .i64 0).cells (64*1)).toList=List.replicate 64 (.int .i64 0):=by
              have:(Value.int .i64 0).cells= #[.int .i64 0]:=rfl;rw[this,toList_madeCells_one,Nat.mul_one]
             rw[e];intro u hu;rw[List.eq_of_mem_replicate hu]
             rfl) (by omega))
            clear hown3 hg3))
         generalize wr.heap.size=M at*
         go_loopw [13] (fun ii wz=>∃(i:Nat),i≤64∧ii=.int .i64 i∧Hid (aBN base k (.slice a k c) rv L w G j gl M wz)) (fun ii _=>64-(intOf ii).toNat)
         case atStart=>exact⟨0,by omega,rfl,HM0⟩
         case round=>
          clear HM0 HD;obtain⟨i,hi2,rfl,HM⟩:=hrel;by_cases hlt2:i<64
          ·obtain⟨Y,hY,hY1⟩:=HM.out.many;have hcell:=World.ownsRow.cellAt hY i (by omega);have hlen:=hY.1;rw[aBU (by omega)] at hcell;have hfz:=World.ownsRow.frozenAt hY i;clear hY hY1
           go_wp2_with (first
            |(go_at_call 112;refine(iS _ _ _ (by omega) (by omega)).mono ?_;rintro e w' ⟨rfl,rfl⟩))
           go_roundw
           case rel=>exact⟨i+1,by omega,by go_num,HM.out.set_ (by decide) i _ rfl⟩
           case measure=>simp[intOf];omega
          ·obtain⟨O,cO,e0,hO,hG,hfz,_,_⟩:=HM.out.fd.outs hlt;obtain⟨ar,cr,e1,hc1,hc2⟩:=HM.out.fd.row hlt;simp only[Value.slice.injEq,true_and] at e0;obtain⟨rfl,rfl⟩:=e0;rw[e1] at hO;have hrow:=HM.out.fd.rows j hlt;rw[e1] at hrow;have HROW:=aBO hrow;have HE1:=aBO e1;clear e1 hrow;obtain⟨Y,hY,hY1⟩:=HM.out.many;have HY:=aBO hY;have HY1:=aBO hY1;clear hY hY1;unfold maxLen at hc2
           go_wp2_with (first
            |(at_builtin
              refine rZ rfl wr (.tmp 148) (.tmp 149) 22 3 rfl base (.int .i64 0) 1 8 Tryz.underlying22 NI rfl (by omega) (.slice ar (L j) cr) (L j) _ rfl HROW.out M 64 64 Y rfl HY.out HY1.out (by simp only[maxLen];omega) (by omega) (by have:=HM.out.fd.chg.size;omega) ?_;intro v2 w2 hown2 hg2 hat2 hkeep2;obtain⟨a2,c2,e2⟩:=fH hown2;subst e2;have hG2:w2.ownsRow base 22 1 (.slice (some ⟨G,0,none⟩) k k) k ((List.range k).map gl):=HM.out.fd.gs.kept hg2 (.inr (fun e=>gL HM.out.fd.gs HROW.out (by decide) G rfl e.symm));have hG3:=World.ownsRow.cellAt hG2 j (by omega);have hG4:=World.ownsRow.frozenAt hG2 j;have hlen:((List.range k).map gl).length=k:=by simp
              rw[aBU (by omega)] at hG3;obtain⟨ug,hug⟩:∃u,w2.cell? ⟨G,j,none⟩=some u:=⟨_,hG3⟩
              clear hG3;have HD2:Hid (FDI base k (.slice (some ⟨O,0,none⟩) k c) rv L w G (j+1) (fun i=>if i=j then (.slice a2 (L j+64) c2) else gl i) (w2.setCell ⟨G,j,none⟩ (.slice a2 (L j+64) c2))):=by
               have e:=HE1.out;refine HM.out.fin (by decide) HS.out hlt hown2 (by rw[e];exact hg2) (by rw[e];exact hat2) (by rw[e];exact hkeep2)
              clear hown2 hg2 hat2 hkeep2 hG2 hlen))
           go_roundw
           case rel=>exact⟨j+1,_,by omega,by go_num,HD2⟩
           case measure=>simp[intOf];omega
        ·obtain rfl:j=k:=by omega
         clear hj hlt;go_wp2
         go_loopw [14,15] (fun kk ii wz=>∃(k q:Nat),k≤j∧kk=.int .i64 k∧wz=wr.drewN q) (fun kk _ _=>j-(intOf kk).toNat)
         case atStart=>exact⟨0,0,by omega,rfl,rfl⟩
         case round=>
          obtain⟨k,q3,hk,rfl,rfl⟩:=hrel;by_cases hlt:k<j
          ·obtain⟨O,cO,e0,hO,hG,hfz,_,_⟩:=HD.out.outs hlt;obtain⟨ar,cr,e1,hc1,hc2⟩:=HD.out.row hlt;simp only[Value.slice.injEq,true_and] at e0;obtain⟨rfl,rfl⟩:=e0;rw[e1] at hO;obtain⟨Z,hZ⟩:=HD.out.grow k hlt;have HZ:=aBO hZ;obtain⟨ag,cg,eg⟩:=fH hZ;rw[eg] at hG;have HE1:=aBO e1;have HEG:=aBO eg;clear e1 eg hZ;have hLk:=HL.out k hlt;unfold maxLen at hc2;go_wp2
           go_loopw [15] (fun ii wz=>∃(i q:Nat),i≤L k∧ii=.int .i64 i∧wz=wr.drewN q) (fun ii _=>L k-(intOf ii).toNat)
           case atStart=>exact⟨0,q3,by omega,rfl,rfl⟩
           case round=>
            obtain⟨i,q2,hi2,rfl,rfl⟩:=hrel;by_cases hlt3:i<L k
            ·obtain⟨bg,cg',e2,hcg⟩:=vB HZ.out (show i<L k+64 by omega) (u:=.int .i64 (fI (k:Int) (i:Int))) (by rw[aCC (by rw[vL mkI 1 uV];omega),zM mkI uV _ _ _ hlt3];rfl);rw[HEG.out] at e2;simp only[Value.slice.injEq,true_and] at e2;obtain⟨rfl,rfl⟩:=e2;obtain⟨br,cr',e3,hcr⟩:=vB (HD.out.rows k hlt) hlt3 (u:=.int .i64 (fI (k:Int) (i:Int))) (by rw[zM mkI uV _ _ _ hlt3];rfl);rw[HE1.out] at e3;simp only[Value.slice.injEq,true_and] at e3;obtain⟨rfl,rfl⟩:=e3;go_wp2
             go_quiet ((go_at_call 112;exact lS (iS _ _ _ ⟨by omega,by omega⟩ ⟨by omega,by omega⟩)))
             go_wp2
             go_roundw
             case rel=>exact⟨i+1,_,by omega,by go_num,rfl⟩
             case measure=>simp[intOf];omega
            ·obtain rfl:i=L k:=by omega
             go_wp2
             go_roundw
             case rel=>exact⟨k+1,_,by omega,by go_num,rfl⟩
             case measure=>simp[intOf];omega
          ·go_wp2
           go_ret
           exact⟨rfl,HD.out.chg.drewN _⟩
end

section
open Go.RowKit
theorem OO:(Tryz.prog.info? 225).map (fun i=>(i.zero,i.size,i.bytes))=some (some (.slice none 0 0),1,24):=by kernel_rfl
theorem tO(w:World):Calls Tryz.prog 141 #[.slice none 0 0] w fun e w'=>e=.returned (.bool true)∧Below w.heap.size w w':=by
 obtain⟨i0,hi,hz0,hz1,hz2⟩:=info_parts (P:=Tryz.prog) OO
 go_enter Tryz.func141,Tryz.ntmps141
 go_wp2
 refine wp_loop_rounds 1 ?_
 rw[rounds_succ]
 go_wp2_with (first
  |(at_make
    refine wpList_make_full w rfl _ _ 137 rfl w.heap.size 225 i0 (.slice none 0 0) 1 Tryz.underlying137 hi hz0 hz1 .i64 .i64 _ _ 0 rfl rfl rfl rfl (by rw[hz2];omega) (by simp only[maxLen];omega) (aBV _) ?_;intro w3 hown3 hg3;have HB:=aBO ((aBQ w.heap.size w).grown hg3 (aBV _) (by simp))
    clear hown3 hg3))
 refine wp_loop_rounds 1 ?_
 rw[rounds_succ]
 go_wp2
 refine wp_loop_rounds 1 ?_
 rw[rounds_succ]
 go_wp2
 refine wp_loop_rounds 1 ?_
 rw[rounds_succ]
 go_wp2
 refine wp_loop_rounds 1 ?_
 rw[rounds_succ]
 go_wp2
 go_ret
 exact⟨rfl,HB.out⟩
theorem OI:(Tryz.prog.info? 227).map (fun i=>(i.zero,i.size,i.bytes))=some (some (.slice none 0 0),1,24):=by kernel_rfl
theorem tL(w:World):Calls Tryz.prog 142 #[.slice none 0 0] w fun e w'=>e=.returned (.bool true)∧Below w.heap.size w w':=by
 obtain⟨i0,hi,hz0,hz1,hz2⟩:=info_parts (P:=Tryz.prog) OI
 go_enter Tryz.func142,Tryz.ntmps142
 go_wp2
 refine wp_loop_rounds 1 ?_
 rw[rounds_succ]
 go_wp2_with (first
  |(at_make
    refine wpList_make_full w rfl _ _ 138 rfl w.heap.size 227 i0 (.slice none 0 0) 1 Tryz.underlying138 hi hz0 hz1 .i64 .i64 _ _ 0 rfl rfl rfl rfl (by rw[hz2];omega) (by simp only[maxLen];omega) (aBV _) ?_;intro w3 hown3 hg3;have HB:=aBO ((aBQ w.heap.size w).grown hg3 (aBV _) (by simp))
    clear hown3 hg3))
 refine wp_loop_rounds 1 ?_
 rw[rounds_succ]
 go_wp2
 refine wp_loop_rounds 1 ?_
 rw[rounds_succ]
 go_wp2
 refine wp_loop_rounds 1 ?_
 rw[rounds_succ]
 go_wp2
 refine wp_loop_rounds 1 ?_
 rw[rounds_succ]
 go_wp2
 go_ret
 exact⟨rfl,HB.out⟩
theorem ON:(Tryz.prog.info? 229).map (fun i=>(i.zero,i.size,i.bytes))=some (some (.slice none 0 0),1,24):=by kernel_rfl
theorem tN(w:World):Calls Tryz.prog 144 #[.slice none 0 0] w fun e w'=>e=.returned (.bool true)∧Below w.heap.size w w':=by
 obtain⟨i0,hi,hz0,hz1,hz2⟩:=info_parts (P:=Tryz.prog) ON
 go_enter Tryz.func144,Tryz.ntmps144
 go_wp2
 refine wp_loop_rounds 1 ?_
 rw[rounds_succ]
 go_wp2_with (first
  |(at_make
    refine wpList_make_full w rfl _ _ 139 rfl w.heap.size 229 i0 (.slice none 0 0) 1 Tryz.underlying139 hi hz0 hz1 .i64 .i64 _ _ 0 rfl rfl rfl rfl (by rw[hz2];omega) (by simp only[maxLen];omega) (aBV _) ?_;intro w3 hown3 hg3;have HB:=aBO ((aBQ w.heap.size w).grown hg3 (aBV _) (by simp))
    clear hown3 hg3))
 refine wp_loop_rounds 1 ?_
 rw[rounds_succ]
 go_wp2
 refine wp_loop_rounds 1 ?_
 rw[rounds_succ]
 go_wp2
 refine wp_loop_rounds 1 ?_
 rw[rounds_succ]
 go_wp2
 refine wp_loop_rounds 1 ?_
 rw[rounds_succ]
 go_wp2
 go_ret
 exact⟨rfl,HB.out⟩
theorem OM:(Tryz.prog.info? 230).map (fun i=>(i.zero,i.size,i.bytes))=some (some (.slice none 0 0),1,24):=by kernel_rfl
theorem tM(w:World):Calls Tryz.prog 145 #[.slice none 0 0] w fun e w'=>e=.returned (.bool true)∧Below w.heap.size w w':=by
 obtain⟨i0,hi,hz0,hz1,hz2⟩:=info_parts (P:=Tryz.prog) OM
 go_enter Tryz.func145,Tryz.ntmps145
 go_wp2
 refine wp_loop_rounds 1 ?_
 rw[rounds_succ]
 go_wp2_with (first
  |(at_make
    refine wpList_make_full w rfl _ _ 140 rfl w.heap.size 230 i0 (.slice none 0 0) 1 Tryz.underlying140 hi hz0 hz1 .i64 .i64 _ _ 0 rfl rfl rfl rfl (by rw[hz2];omega) (by simp only[maxLen];omega) (aBV _) ?_;intro w3 hown3 hg3;have HB:=aBO ((aBQ w.heap.size w).grown hg3 (aBV _) (by simp))
    clear hown3 hg3))
 refine wp_loop_rounds 1 ?_
 rw[rounds_succ]
 go_wp2
 refine wp_loop_rounds 1 ?_
 rw[rounds_succ]
 go_wp2
 refine wp_loop_rounds 1 ?_
 rw[rounds_succ]
 go_wp2
 refine wp_loop_rounds 1 ?_
 rw[rounds_succ]
 go_wp2
 go_ret
 exact⟨rfl,HB.out⟩
theorem OT:(Tryz.prog.info? 232).map (fun i=>(i.zero,i.size,i.bytes))=some (some (.slice none 0 0),1,24):=by kernel_rfl
theorem tT(w:World):Calls Tryz.prog 146 #[.slice none 0 0] w fun e w'=>e=.returned (.bool true)∧Below w.heap.size w w':=by
 obtain⟨i0,hi,hz0,hz1,hz2⟩:=info_parts (P:=Tryz.prog) OT
 go_enter Tryz.func146,Tryz.ntmps146
 go_wp2
 refine wp_loop_rounds 1 ?_
 rw[rounds_succ]
 go_wp2_with (first
  |(at_make
    refine wpList_make_full w rfl _ _ 141 rfl w.heap.size 232 i0 (.slice none 0 0) 1 Tryz.underlying141 hi hz0 hz1 .i64 .i64 _ _ 0 rfl rfl rfl rfl (by rw[hz2];omega) (by simp only[maxLen];omega) (aBV _) ?_;intro w3 hown3 hg3;have HB:=aBO ((aBQ w.heap.size w).grown hg3 (aBV _) (by simp))
    clear hown3 hg3))
 refine wp_loop_rounds 1 ?_
 rw[rounds_succ]
 go_wp2
 refine wp_loop_rounds 1 ?_
 rw[rounds_succ]
 go_wp2
 refine wp_loop_rounds 1 ?_
 rw[rounds_succ]
 go_wp2
 refine wp_loop_rounds 1 ?_
 rw[rounds_succ]
 go_wp2
 go_ret
 exact⟨rfl,HB.out⟩
theorem MB:(Tryz.prog.info? 234).map (fun i=>(i.zero,i.size,i.bytes))=some (some (.slice none 0 0),1,24):=by kernel_rfl
theorem sE(w:World):Calls Tryz.prog 147 #[.slice none 0 0] w fun e w'=>e=.returned (.bool true)∧Below w.heap.size w w':=by
 obtain⟨i0,hi,hz0,hz1,hz2⟩:=info_parts (P:=Tryz.prog) MB
 go_enter Tryz.func147,Tryz.ntmps147
 go_wp2
 refine wp_loop_rounds 1 ?_
 rw[rounds_succ]
 go_wp2_with (first
  |(at_make
    refine wpList_make_full w rfl _ _ 142 rfl w.heap.size 234 i0 (.slice none 0 0) 1 Tryz.underlying142 hi hz0 hz1 .i64 .i64 _ _ 0 rfl rfl rfl rfl (by rw[hz2];omega) (by simp only[maxLen];omega) (aBV _) ?_;intro w3 hown3 hg3;have HB:=aBO ((aBQ w.heap.size w).grown hg3 (aBV _) (by simp))
    clear hown3 hg3))
 refine wp_loop_rounds 1 ?_
 rw[rounds_succ]
 go_wp2
 refine wp_loop_rounds 1 ?_
 rw[rounds_succ]
 go_wp2
 refine wp_loop_rounds 1 ?_
 rw[rounds_succ]
 go_wp2
 refine wp_loop_rounds 1 ?_
 rw[rounds_succ]
 go_wp2
 go_ret
 exact⟨rfl,HB.out⟩
theorem WS:(Tryz.prog.info? 71).map (fun i=>(i.zero,i.size,i.bytes))=some (some (.slice none 0 0),1,24):=by kernel_rfl
theorem yM(w:World):Calls Tryz.prog 148 #[.slice none 0 0] w fun e w'=>e=.returned (.bool true)∧Below w.heap.size w w':=by
 obtain⟨i0,hi,hz0,hz1,hz2⟩:=info_parts (P:=Tryz.prog) WS
 go_enter Tryz.func148,Tryz.ntmps148
 go_wp2
 refine wp_loop_rounds 1 ?_
 rw[rounds_succ]
 go_wp2_with (first
  |(at_make
    refine wpList_make_full w rfl _ _ 143 rfl w.heap.size 71 i0 (.slice none 0 0) 1 Tryz.underlying143 hi hz0 hz1 .i64 .i64 _ _ 0 rfl rfl rfl rfl (by rw[hz2];omega) (by simp only[maxLen];omega) (aBV _) ?_;intro w3 hown3 hg3;have HB:=aBO ((aBQ w.heap.size w).grown hg3 (aBV _) (by simp))
    clear hown3 hg3))
 refine wp_loop_rounds 1 ?_
 rw[rounds_succ]
 go_wp2
 refine wp_loop_rounds 1 ?_
 rw[rounds_succ]
 go_wp2
 refine wp_loop_rounds 1 ?_
 rw[rounds_succ]
 go_wp2
 refine wp_loop_rounds 1 ?_
 rw[rounds_succ]
 go_wp2
 go_ret
 exact⟨rfl,HB.out⟩
theorem MC:(Tryz.prog.info? 23).map (fun i=>(i.zero,i.size,i.bytes))=some (some (.slice none 0 0),1,24):=by kernel_rfl
theorem sF(w:World):Calls Tryz.prog 149 #[.slice none 0 0] w fun e w'=>e=.returned (.bool true)∧Below w.heap.size w w':=by
 obtain⟨i0,hi,hz0,hz1,hz2⟩:=info_parts (P:=Tryz.prog) MC
 go_enter Tryz.func149,Tryz.ntmps149
 go_wp2
 refine wp_loop_rounds 1 ?_
 rw[rounds_succ]
 go_wp2_with (first
  |(at_make
    refine wpList_make_full w rfl _ _ 144 rfl w.heap.size 23 i0 (.slice none 0 0) 1 Tryz.underlying144 hi hz0 hz1 .i64 .i64 _ _ 0 rfl rfl rfl rfl (by rw[hz2];omega) (by simp only[maxLen];omega) (aBV _) ?_;intro w3 hown3 hg3;have HB:=aBO ((aBQ w.heap.size w).grown hg3 (aBV _) (by simp))
    clear hown3 hg3))
 refine wp_loop_rounds 1 ?_
 rw[rounds_succ]
 go_wp2
 refine wp_loop_rounds 1 ?_
 rw[rounds_succ]
 go_wp2
 refine wp_loop_rounds 1 ?_
 rw[rounds_succ]
 go_wp2
 refine wp_loop_rounds 1 ?_
 rw[rounds_succ]
 go_wp2
 go_ret
 exact⟨rfl,HB.out⟩
theorem OP:(Tryz.prog.info? 66).map (fun i=>(i.zero,i.size,i.bytes))=some (some (.slice none 0 0),1,24):=by kernel_rfl
theorem tP(w:World):Calls Tryz.prog 150 #[.slice none 0 0] w fun e w'=>e=.returned (.bool true)∧Below w.heap.size w w':=by
 obtain⟨i0,hi,hz0,hz1,hz2⟩:=info_parts (P:=Tryz.prog) OP
 go_enter Tryz.func150,Tryz.ntmps150
 go_wp2
 refine wp_loop_rounds 1 ?_
 rw[rounds_succ]
 go_wp2_with (first
  |(at_make
    refine wpList_make_full w rfl _ _ 145 rfl w.heap.size 66 i0 (.slice none 0 0) 1 Tryz.underlying145 hi hz0 hz1 .i64 .i64 _ _ 0 rfl rfl rfl rfl (by rw[hz2];omega) (by simp only[maxLen];omega) (aBV _) ?_;intro w3 hown3 hg3;have HB:=aBO ((aBQ w.heap.size w).grown hg3 (aBV _) (by simp))
    clear hown3 hg3))
 refine wp_loop_rounds 1 ?_
 rw[rounds_succ]
 go_wp2
 refine wp_loop_rounds 1 ?_
 rw[rounds_succ]
 go_wp2
 refine wp_loop_rounds 1 ?_
 rw[rounds_succ]
 go_wp2
 refine wp_loop_rounds 1 ?_
 rw[rounds_succ]
 go_wp2
 go_ret
 exact⟨rfl,HB.out⟩
theorem GT:(Tryz.prog.info? 238).map (fun i=>(i.zero,i.size,i.bytes))=some (some (.slice none 0 0),1,24):=by kernel_rfl
theorem qZ(w:World):Calls Tryz.prog 151 #[.slice none 0 0] w fun e w'=>e=.returned (.bool true)∧Below w.heap.size w w':=by
 obtain⟨i0,hi,hz0,hz1,hz2⟩:=info_parts (P:=Tryz.prog) GT
 go_enter Tryz.func151,Tryz.ntmps151
 go_wp2
 refine wp_loop_rounds 1 ?_
 rw[rounds_succ]
 go_wp2_with (first
  |(at_make
    refine wpList_make_full w rfl _ _ 146 rfl w.heap.size 238 i0 (.slice none 0 0) 1 Tryz.underlying146 hi hz0 hz1 .i64 .i64 _ _ 0 rfl rfl rfl rfl (by rw[hz2];omega) (by simp only[maxLen];omega) (aBV _) ?_;intro w3 hown3 hg3;have HB:=aBO ((aBQ w.heap.size w).grown hg3 (aBV _) (by simp))
    clear hown3 hg3))
 refine wp_loop_rounds 1 ?_
 rw[rounds_succ]
 go_wp2
 refine wp_loop_rounds 1 ?_
 rw[rounds_succ]
 go_wp2
 refine wp_loop_rounds 1 ?_
 rw[rounds_succ]
 go_wp2
 refine wp_loop_rounds 1 ?_
 rw[rounds_succ]
 go_wp2
 go_ret
 exact⟨rfl,HB.out⟩
theorem DK:(Tryz.prog.info? 243).map (fun i=>(i.zero,i.size,i.bytes))=some (some (.slice none 0 0),1,24):=by kernel_rfl
theorem qA(w:World):Calls Tryz.prog 152 #[.slice none 0 0] w fun e w'=>e=.returned (.bool true)∧Below w.heap.size w w':=by
 obtain⟨i0,hi,hz0,hz1,hz2⟩:=info_parts (P:=Tryz.prog) DK
 go_enter Tryz.func152,Tryz.ntmps152
 go_wp2
 refine wp_loop_rounds 1 ?_
 rw[rounds_succ]
 go_wp2_with (first
  |(at_make
    refine wpList_make_full w rfl _ _ 147 rfl w.heap.size 243 i0 (.slice none 0 0) 1 Tryz.underlying147 hi hz0 hz1 .i64 .i64 _ _ 0 rfl rfl rfl rfl (by rw[hz2];omega) (by simp only[maxLen];omega) (aBV _) ?_;intro w3 hown3 hg3;have HB:=aBO ((aBQ w.heap.size w).grown hg3 (aBV _) (by simp))
    clear hown3 hg3))
 refine wp_loop_rounds 1 ?_
 rw[rounds_succ]
 go_wp2
 refine wp_loop_rounds 1 ?_
 rw[rounds_succ]
 go_wp2
 refine wp_loop_rounds 1 ?_
 rw[rounds_succ]
 go_wp2
 refine wp_loop_rounds 1 ?_
 rw[rounds_succ]
 go_wp2
 go_ret
 exact⟨rfl,HB.out⟩
theorem SU:(Tryz.prog.info? 248).map (fun i=>(i.zero,i.size,i.bytes))=some (some (.slice none 0 0),1,24):=by kernel_rfl
theorem wL(w:World):Calls Tryz.prog 153 #[.slice none 0 0] w fun e w'=>e=.returned (.bool true)∧Below w.heap.size w w':=by
 obtain⟨i0,hi,hz0,hz1,hz2⟩:=info_parts (P:=Tryz.prog) SU
 go_enter Tryz.func153,Tryz.ntmps153
 go_wp2
 refine wp_loop_rounds 1 ?_
 rw[rounds_succ]
 go_wp2_with (first
  |(at_make
    refine wpList_make_full w rfl _ _ 148 rfl w.heap.size 248 i0 (.slice none 0 0) 1 Tryz.underlying148 hi hz0 hz1 .i64 .i64 _ _ 0 rfl rfl rfl rfl (by rw[hz2];omega) (by simp only[maxLen];omega) (aBV _) ?_;intro w3 hown3 hg3;have HB:=aBO ((aBQ w.heap.size w).grown hg3 (aBV _) (by simp))
    clear hown3 hg3))
 refine wp_loop_rounds 1 ?_
 rw[rounds_succ]
 go_wp2
 refine wp_loop_rounds 1 ?_
 rw[rounds_succ]
 go_wp2
 refine wp_loop_rounds 1 ?_
 rw[rounds_succ]
 go_wp2
 refine wp_loop_rounds 1 ?_
 rw[rounds_succ]
 go_wp2
 go_ret
 exact⟨rfl,HB.out⟩
theorem OQ:(Tryz.prog.info? 252).map (fun i=>(i.zero,i.size,i.bytes))=some (some (.slice none 0 0),1,24):=by kernel_rfl
theorem tQ(w:World):Calls Tryz.prog 154 #[.slice none 0 0] w fun e w'=>e=.returned (.bool true)∧Below w.heap.size w w':=by
 obtain⟨i0,hi,hz0,hz1,hz2⟩:=info_parts (P:=Tryz.prog) OQ
 go_enter Tryz.func154,Tryz.ntmps154
 go_wp2
 refine wp_loop_rounds 1 ?_
 rw[rounds_succ]
 go_wp2_with (first
  |(at_make
    refine wpList_make_full w rfl _ _ 149 rfl w.heap.size 252 i0 (.slice none 0 0) 1 Tryz.underlying149 hi hz0 hz1 .i64 .i64 _ _ 0 rfl rfl rfl rfl (by rw[hz2];omega) (by simp only[maxLen];omega) (aBV _) ?_;intro w3 hown3 hg3;have HB:=aBO ((aBQ w.heap.size w).grown hg3 (aBV _) (by simp))
    clear hown3 hg3))
 refine wp_loop_rounds 1 ?_
 rw[rounds_succ]
 go_wp2
 refine wp_loop_rounds 1 ?_
 rw[rounds_succ]
 go_wp2
 refine wp_loop_rounds 1 ?_
 rw[rounds_succ]
 go_wp2
 refine wp_loop_rounds 1 ?_
 rw[rounds_succ]
 go_wp2
 go_ret
 exact⟨rfl,HB.out⟩
theorem OR:(Tryz.prog.info? 50).map (fun i=>(i.zero,i.size,i.bytes))=some (some (.slice none 0 0),1,24):=by kernel_rfl
theorem tR(w:World):Calls Tryz.prog 155 #[.slice none 0 0] w fun e w'=>e=.returned (.bool true)∧Below w.heap.size w w':=by
 obtain⟨i0,hi,hz0,hz1,hz2⟩:=info_parts (P:=Tryz.prog) OR
 go_enter Tryz.func155,Tryz.ntmps155
 go_wp2
 refine wp_loop_rounds 1 ?_
 rw[rounds_succ]
 go_wp2_with (first
  |(at_make
    refine wpList_make_full w rfl _ _ 150 rfl w.heap.size 50 i0 (.slice none 0 0) 1 Tryz.underlying150 hi hz0 hz1 .i64 .i64 _ _ 0 rfl rfl rfl rfl (by rw[hz2];omega) (by simp only[maxLen];omega) (aBV _) ?_;intro w3 hown3 hg3;have HB:=aBO ((aBQ w.heap.size w).grown hg3 (aBV _) (by simp))
    clear hown3 hg3))
 refine wp_loop_rounds 1 ?_
 rw[rounds_succ]
 go_wp2
 refine wp_loop_rounds 1 ?_
 rw[rounds_succ]
 go_wp2
 refine wp_loop_rounds 1 ?_
 rw[rounds_succ]
 go_wp2
 refine wp_loop_rounds 1 ?_
 rw[rounds_succ]
 go_wp2
 go_ret
 exact⟨rfl,HB.out⟩
theorem OL:(Tryz.prog.info? 26).map (fun i=>(i.zero,i.size,i.bytes))=some (some (.slice none 0 0),1,24):=by kernel_rfl
theorem DN(w:World):Calls Tryz.prog 156 #[.slice none 0 0] w fun e w'=>e=.returned (.bool true)∧Below w.heap.size w w':=by
 obtain⟨i0,hi,hz0,hz1,hz2⟩:=info_parts (P:=Tryz.prog) OL
 go_enter Tryz.func156,Tryz.ntmps156
 go_wp2
 refine wp_loop_rounds 1 ?_
 rw[rounds_succ]
 go_wp2_with (first
  |(at_make
    refine wpList_make_full w rfl _ _ 58 rfl w.heap.size 26 i0 (.slice none 0 0) 1 Tryz.underlying58 hi hz0 hz1 .i64 .i64 _ _ 0 rfl rfl rfl rfl (by rw[hz2];omega) (by simp only[maxLen];omega) (aBV _) ?_;intro w3 hown3 hg3;have HB:=aBO ((aBQ w.heap.size w).grown hg3 (aBV _) (by simp))
    clear hown3 hg3))
 refine wp_loop_rounds 1 ?_
 rw[rounds_succ]
 go_wp2
 refine wp_loop_rounds 1 ?_
 rw[rounds_succ]
 go_wp2
 refine wp_loop_rounds 1 ?_
 rw[rounds_succ]
 go_wp2
 refine wp_loop_rounds 1 ?_
 rw[rounds_succ]
 go_wp2
 go_ret
 exact⟨rfl,HB.out⟩
theorem OS:(Tryz.prog.info? 257).map (fun i=>(i.zero,i.size,i.bytes))=some (some (.slice none 0 0),1,24):=by kernel_rfl
theorem tS(w:World):Calls Tryz.prog 157 #[.slice none 0 0] w fun e w'=>e=.returned (.bool true)∧Below w.heap.size w w':=by
 obtain⟨i0,hi,hz0,hz1,hz2⟩:=info_parts (P:=Tryz.prog) OS
 go_enter Tryz.func157,Tryz.ntmps157
 go_wp2
 refine wp_loop_rounds 1 ?_
 rw[rounds_succ]
 go_wp2_with (first
  |(at_make
    refine wpList_make_full w rfl _ _ 151 rfl w.heap.size 257 i0 (.slice none 0 0) 1 Tryz.underlying151 hi hz0 hz1 .i64 .i64 _ _ 0 rfl rfl rfl rfl (by rw[hz2];omega) (by simp only[maxLen];omega) (aBV _) ?_;intro w3 hown3 hg3;have HB:=aBO ((aBQ w.heap.size w).grown hg3 (aBV _) (by simp))
    clear hown3 hg3))
 refine wp_loop_rounds 1 ?_
 rw[rounds_succ]
 go_wp2
 refine wp_loop_rounds 1 ?_
 rw[rounds_succ]
 go_wp2
 refine wp_loop_rounds 1 ?_
 rw[rounds_succ]
 go_wp2
 refine wp_loop_rounds 1 ?_
 rw[rounds_succ]
 go_wp2
 go_ret
 exact⟨rfl,HB.out⟩
end

section
open Go.RowKit
abbrev aP:Value:=.slice none 0 0
def pC(w:World)(B:Nat)(v:Value):Prop:=w.heap[B]? =some (.cells #[aP,aP,v,aP,aP,aP,aP,aP,aP,aP,aP,aP,aP,aP,aP,aP,aP] 153 (0,0))
theorem pC.cell{w:World}{B:Nat}{v:Value}(h:pC w B v)(i:Nat):w.cell? ⟨B,i,none⟩=(#[aP,aP,v,aP,aP,aP,aP,aP,aP,aP,aP,aP,aP,aP,aP,aP,aP]:Array Value)[i]?:=aBP w B i _ _ _ h
theorem pC.frozen{w:World}{B:Nat}{v:Value}(h:pC w B v)(i:Nat):w.frozen? ⟨B,i,none⟩=false:=by
 unfold pC at h
 simp[World.frozen?,h]
theorem pC.lt{w:World}{B:Nat}{v:Value}(h:pC w B v):B<w.heap.size:=(aBW.1 h).1
theorem pC.set_{w:World}{B:Nat}{v:Value}(h:pC w B v)(v':Value):pC (w.setCell ⟨B,2,none⟩ v') B v':=by
 unfold pC at h⊢
 simp[World.setCell,Array.getElem?_modify,h]
theorem pC.ne{w:World}{B:Nat}{v:Value}(h:pC w B v){base:Nat}{e:TypeId}{size:Nat}{v':Value}{n:Nat}{xs:List Value}(ho:w.ownsRow base e size v' n xs)(hne:e≠153):v'.ownBlock≠some B:=by
 intro hg
 rcases ho.2 with ⟨rfl,_⟩|⟨b,cap,cur,rfl,_,hh,_⟩
 ·simp[Value.ownBlock] at hg
 ·simp only[Value.ownBlock,Option.some.injEq] at hg;subst hg;unfold pC at h;rw[h] at hh;injection hh with hh;injection hh with _ ht;exact hne ht.symm
theorem FIn.ext{e eo:TypeId}{size base K:Nat}{vo:Value}{rv:Nat→Value}{L:Nat→Nat}{w w':World}(h:FIn e eo size base K vo rv L w)(hb:Below w.heap.size w w'):FIn e eo size base K vo rv L w':=
 ⟨(aR.ownsRow w.heap.size _ _ _ _ _ _).ext h.outer hb,fun j hj=>by
   obtain⟨X,hX⟩:=h.rows j hj
   exact⟨X,(aR.ownsRow w.heap.size _ _ _ _ _ _).ext hX hb⟩,h.sep⟩
def ZH(w:World)(B k:Nat)(xs:List Value)(lv:Value)(e:Ending)(w':World):Prop:=
 (∃r,e=.returned r)∧∃v',pC w' B v'∧w'.ownsRow (B+1) 22 1 v' (k+1) (xs++ [lv])∧Below B w w'
theorem LK(w:World)(B k:Nat)(v:Value)(xs:List Value)(a:Option Addr)(n c:Nat)(h:pC w B v)(ho:w.ownsRow (B+1) 22 1 v k xs)(hk:k≤1000000):
  Calls Tryz.prog 109 #[.pointer (some ⟨B,0,none⟩),.slice a n c] w (ZH w B k xs (.slice a n c)):=by
 have h2:=h.cell 2
 have hlt:=h.lt
 have hfz:=h.frozen 2
 have hb:=aBO h
 have HO:=aBO ho
 have hne:=h.ne ho (by decide)
 have HNE:=aBO hne
 obtain⟨av,cv,rfl⟩:=fH ho
 clear h ho hne
 simp at h2
 go_enter Tryz.func109,Tryz.ntmps109
 go_wp2_with (first
  |(at_builtin
    refine iT rfl w (.tmp 8) (.tmp 10) 53 22 rfl (B+1) _ 1 24 Tryz.underlying53 NH rfl (by omega) (.slice av k cv) k xs [.slice a n c] rfl HO.out w.heap.size rfl rfl rfl (by simp[Value.oneCell']) (by simp only[maxLen];omega) (by omega) (by omega) ?_;intro g cap w2 hown2 hg2 hat2 _;have HB2:Hid (pC w2 B (.slice av k cv)):=(hg2.block B hlt (fun e=>HNE.out e.symm)).trans hb.out;have HO2:=aBO hown2;have HG2:Hid (Below B w w2):=(aBQ B w).grown hg2 (by omega) (fun j e=>by have:=(HO.out.lt j e).1;omega);have hc2:=HB2.out.cell 2;have hf2:=HB2.out.frozen 2;clear hown2 hg2 hat2
    simp at hc2))
 go_end0
 refine⟨⟨_,rfl⟩,_,HB2.out.set_ _,?_,HG2.out.setCell (p:=⟨B,2,none⟩) (aBV _) _⟩
 have hgg:=(HO2.out.lt g rfl).1
 exact fY (S:=fun k=>k=B) HO2.out ((Chg.refl (fun k=>k=B) w2).setCell (p:=⟨B,2,none⟩) (.inl rfl) _) (fun b e=>by
  simp only[Value.ownBlock,Option.some.injEq] at e
  omega)
theorem MX(w:World)(B K base:Nat)(a:Option Addr)(c:Nat)(rv:Nat→Value)(L:Nat→Nat)(hB:pC w B (.slice a K c))(h:FIn 3 22 1 base K (.slice a K c) rv L w)(hK:K≤1000000)(hL:∀j,j<K→L j≤1000000)(hbase:base≤w.heap.size):
  Calls Tryz.prog 90 #[.pointer (some ⟨B,0,none⟩)] w fun e w'=>e=.returned (.bool true)∧Chg (SB K rv) w w':=by
 have HFI:=aBO h
 have HKL:=aBO hL
 have HBR:Hid (∀j,j<K→(rv j).ownBlock≠some B):=fun j hj=>by
  obtain⟨X,hX⟩:=h.rows j hj;exact hB.ne hX (by decide)
 have HB:=aBO hB
 have HALL:Hid (∀V:World,Chg (SB K rv) w V→pC V B (.slice a K c)):=fun V hV=>(hV.block B hB.lt (fun⟨j,hj,e⟩=>HBR.out j hj e)).trans HB.out
 have HC:Hid (∀(V:World) (i:Nat),Chg (SB K rv) w V→V.cell? ⟨B,i,none⟩=(#[aP,aP,.slice a K c,aP,aP,aP,aP,aP,aP,aP,aP,aP,aP,aP,aP,aP,aP]:Array Value)[i]?):=fun V i hV=>(HALL.out V hV).cell i
 have c0:w.cell? ⟨B,0,none⟩=some aP:=(HC.out w 0 (Chg.refl _ _)).trans rfl
 clear h hL hB
 go_enter Tryz.func90,Tryz.ntmps90
 go_wp2_with (first
  |(go_at_call 141;refine(tO _).mono ?_;rintro e w0 ⟨rfl,hb0⟩
    have E0:=aBO ((Chg.refl (SB K rv) w).of_ext hb0);have F0:=aBO (show Below w.heap.size w w0 from hb0);clear hb0;have c1:w0.cell? ⟨B,1,none⟩=some aP:=(HC.out w0 1 E0.out).trans rfl)
  |(go_at_call 142;refine(tL _).mono ?_;rintro e w1 ⟨rfl,hb1⟩
    have E1:=aBO (E0.out.of_ext hb1);have F1:=aBO (aA F0.out hb1);clear hb1;have c2:w1.cell? ⟨B,2,none⟩=some (.slice a K c):=(HC.out w1 2 E1.out).trans rfl)
  |(go_at_call 143;refine(wM a K c base rv L _ (HFI.out.ext F1.out) hK HKL.out (by have:=F1.out.size;omega)).mono ?_;rintro e w2 ⟨rfl,hb2⟩
    have E2:=aBO (E1.out.trans hb2);clear hb2;have c3:w2.cell? ⟨B,3,none⟩=some aP:=(HC.out w2 3 E2.out).trans rfl)
  |(go_at_call 144;refine(tN _).mono ?_;rintro e w3 ⟨rfl,hb3⟩
    have E3:=aBO (E2.out.of_ext hb3);clear hb3;have c4:w3.cell? ⟨B,4,none⟩=some aP:=(HC.out w3 4 E3.out).trans rfl)
  |(go_at_call 145;refine(tM _).mono ?_;rintro e w4 ⟨rfl,hb4⟩
    have E4:=aBO (E3.out.of_ext hb4);clear hb4;have c5:w4.cell? ⟨B,5,none⟩=some aP:=(HC.out w4 5 E4.out).trans rfl)
  |(go_at_call 146;refine(tT _).mono ?_;rintro e w5 ⟨rfl,hb5⟩
    have E5:=aBO (E4.out.of_ext hb5);clear hb5;have c6:w5.cell? ⟨B,6,none⟩=some aP:=(HC.out w5 6 E5.out).trans rfl)
  |(go_at_call 147;refine(sE _).mono ?_;rintro e w6 ⟨rfl,hb6⟩
    have E6:=aBO (E5.out.of_ext hb6);clear hb6;have c7:w6.cell? ⟨B,7,none⟩=some aP:=(HC.out w6 7 E6.out).trans rfl)
  |(go_at_call 148;refine(yM _).mono ?_;rintro e w7 ⟨rfl,hb7⟩
    have E7:=aBO (E6.out.of_ext hb7);clear hb7;have c8:w7.cell? ⟨B,8,none⟩=some aP:=(HC.out w7 8 E7.out).trans rfl)
  |(go_at_call 149;refine(sF _).mono ?_;rintro e w8 ⟨rfl,hb8⟩
    have E8:=aBO (E7.out.of_ext hb8);clear hb8;have c9:w8.cell? ⟨B,9,none⟩=some aP:=(HC.out w8 9 E8.out).trans rfl)
  |(go_at_call 150;refine(tP _).mono ?_;rintro e w9 ⟨rfl,hb9⟩
    have E9:=aBO (E8.out.of_ext hb9);clear hb9;have c10:w9.cell? ⟨B,10,none⟩=some aP:=(HC.out w9 10 E9.out).trans rfl)
  |(go_at_call 151;refine(qZ _).mono ?_;rintro e w10 ⟨rfl,hb10⟩
    have E10:=aBO (E9.out.of_ext hb10);clear hb10;have c11:w10.cell? ⟨B,11,none⟩=some aP:=(HC.out w10 11 E10.out).trans rfl)
  |(go_at_call 152;refine(qA _).mono ?_;rintro e w11 ⟨rfl,hb11⟩
    have E11:=aBO (E10.out.of_ext hb11);clear hb11;have c12:w11.cell? ⟨B,12,none⟩=some aP:=(HC.out w11 12 E11.out).trans rfl)
  |(go_at_call 153;refine(wL _).mono ?_;rintro e w12 ⟨rfl,hb12⟩
    have E12:=aBO (E11.out.of_ext hb12);clear hb12;have c13:w12.cell? ⟨B,13,none⟩=some aP:=(HC.out w12 13 E12.out).trans rfl)
  |(go_at_call 154;refine(tQ _).mono ?_;rintro e w13 ⟨rfl,hb13⟩
    have E13:=aBO (E12.out.of_ext hb13);clear hb13;have c14:w13.cell? ⟨B,14,none⟩=some aP:=(HC.out w13 14 E13.out).trans rfl)
  |(go_at_call 155;refine(tR _).mono ?_;rintro e w14 ⟨rfl,hb14⟩
    have E14:=aBO (E13.out.of_ext hb14);clear hb14;have c15:w14.cell? ⟨B,15,none⟩=some aP:=(HC.out w14 15 E14.out).trans rfl)
  |(go_at_call 156;refine(DN _).mono ?_;rintro e w15 ⟨rfl,hb15⟩
    have E15:=aBO (E14.out.of_ext hb15);clear hb15;have c16:w15.cell? ⟨B,16,none⟩=some aP:=(HC.out w15 16 E15.out).trans rfl)
  |(go_at_call 157;refine(tS _).mono ?_;rintro e w16 ⟨rfl,hb16⟩
    have E16:=aBO (E15.out.of_ext hb16);clear hb16))
 go_ret
 exact⟨rfl,E16.out⟩
theorem DR(w:World)(a:Option Addr)(K c base:Nat)(rv:Nat→Value)(L:Nat→Nat)(hcell:∀j,j<K→∃b o,a=some ⟨b,o,none⟩∧w.cell? ⟨b,o+j,none⟩=some (rv j))
  (hrow:∀j,j<K→∃X,w.ownsRow base 3 1 (rv j) (L j) X) (hsep:∀i j,i<K→j<K→i≠j→rC (rv i) (rv j)) (hK:K≤1000000) (hL:∀j,j<K→L j≤1000000) (hbase:base≤w.heap.size):
  Calls Tryz.prog 48 #[.slice a K c] w fun e w'=>e=.returned (.bool true)∧Chg (SB K rv) w w':=by
 have HC:=aBO hcell
 have HR:=aBO hrow
 have HS:=aBO hsep
 have HL:=aBO hL
 clear hcell hrow hsep hL
 go_enter Tryz.func48,Tryz.ntmps48
 go_wp2
 have HB0:Hid (pC (w.alloc (.cells #[aP,aP,aP,aP,aP,aP,aP,aP,aP,aP,aP,aP,aP,aP,aP,aP,aP] 153)) w.heap.size aP):=World.alloc_heap_new w _
 have HE0:=aBO (aD w (.cells #[aP,aP,aP,aP,aP,aP,aP,aP,aP,aP,aP,aP,aP,aP,aP,aP,aP] 153))
 go_loopw [4] (fun kk wr=>∃(k:Nat) (v:Value),k≤K∧kk=.int .i64 k∧Hid (pC wr w.heap.size v)∧Hid (wr.ownsRow (w.heap.size+1) 22 1 v k ((List.range k).map rv))∧Hid (Below w.heap.size w wr)) (fun kk _=>K-(intOf kk).toNat)
 case atStart=>exact⟨0,aP,by omega,rfl,HB0,World.ownsRow_nil _ _ _ _,HE0⟩
 case round=>
  clear HB0 HE0;obtain⟨k,v,hk,rfl,HB,HO,HE⟩:=hrel;by_cases hlt:k<K
  ·obtain⟨b,o,rfl,hc⟩:=HC.out k hlt;have hc':=aH HE.out hc;obtain⟨X,hX⟩:=HR.out k hlt;obtain⟨ar,cr,er⟩:=fH hX;clear hc hX;have HER:=aBO er;rw[er] at hc';clear er
   go_wp2_with (first
    |(go_at_call 109;refine(LK _ w.heap.size k v _ ar (L k) cr HB.out HO.out (by omega)).mono ?_;rintro e w2 ⟨⟨r,rfl⟩,v2,hb2,ho2,he2⟩
      have HB2:=aBO hb2;have HO2:=aBO ho2;have HE2:=aBO (HE.out.trans he2)
      clear hb2 ho2 he2))
   go_roundw
   case rel=>exact⟨k+1,v2,by omega,by go_num,HB2,by
    have e:=HO2.out;rw[←HER.out] at e;rw[List.range_succ,List.map_append]
    exact e,HE2⟩
   case measure=>simp[intOf];omega
  ·obtain rfl:k=K:=by omega
   obtain⟨av,cv,ev⟩:=fH HO.out;subst ev
   have HFI:Hid (FIn 3 22 1 base k (.slice av k cv) rv L wr):=⟨HO.out.mono (by omega),fun j hj=>by
    obtain⟨X,hX⟩:=HR.out j hj
    exact⟨X,(aR.ownsRow w.heap.size _ _ _ _ _ _).ext hX HE.out⟩,HS.out⟩
   go_wp2_with (first
    |(go_at_call 90;refine(MX _ w.heap.size k base av cv rv L HB.out HFI.out hK HL.out (by have:=HE.out.size;omega)).mono ?_;rintro e w2 ⟨rfl,hc2⟩
      have HC2:=aBO hc2
      clear hc2))
   go_ret
   refine⟨rfl,?_⟩;have:=(Chg.refl (SB k rv) w).of_ext HE.out;exact this.trans HC2.out
end
end Go.Proofs.YtblhmdhfhaencaaGreat
