/-
 The document's answer to layer 17:Build.
-/
import Derived.Test.YtblhmdhfhaencaaGreatDF
import Derived.Test.YtblhmdhfhaencaaGreatDH
import Derived.Test.YtblhmdhfhaencaaGreatRM
import Derived.Test.YtblhmdhfhaencaaGreatQR
import Derived.Test.YtblhmdhfhaencaaGreatRC
import Derived.Test.YtblhmdhfhaencaaGreatBR
import Derived.Test.YtblhmdhfhaencaaGreatLentG
import Derived.Test.YtblhmdhfhaencaaGreatTL
namespace Go.Proofs.YtblhmdhfhaencaaGreat
set_option linter.unusedSimpArgs false
set_option linter.unusedVariables false
set_option linter.unusedSectionVars false
set_option maxRecDepth 100000
set_option maxHeartbeats 40000000
section
open Go.RowKit
attribute [local go_sem] Oper.semAt_some cT bM cC bG
def nE(ts:List aT)(w:World)(e:Ending)(w':World):Prop:=
 (bU ts=false→e=.returned (.tuple #[iY,.int .i64 2]))∧(bU ts=true→∃v ls,e=.returned (.tuple #[v,.int .i64 0])∧dG w' w.heap.size v ls∧aJ ls=dQ ts.length (tA ts.length (dR ts)))∧Below w.heap.size w w'
theorem PJ(pa:Option Addr)(pn pc:Nat)(ba:Option Addr)(bn bc:Nat)(bs:List gS)(w:World)(h:dU w ba bn bs)(hf:bU (aG bs)=false):
  Calls Tryz.prog 31 #[dX pa pn pc ba bn bc] w (nE (aG bs) w):=by
 have H:=aBO h
 have HF:=aBO hf
 clear h hf
 go_enter Tryz.func31,Tryz.ntmps31
 go_upto_region 1 with (fail)
 obtain⟨W,hW⟩:∃W,W=w.alloc (bO pa pn pc ba bn bc):=⟨_,rfl⟩
 rw[←hW]
 have hk0:W.heap[w.heap.size]? =some (bO pa pn pc ba bn bc):=by rw[hW];exact aBS _ _
 have hB:Below w.heap.size w W:=by rw[hW];exact aD _ _
 have HK:=aBO hk0
 have HB:=aBO hB
 clear hW hk0 hB
 go_wp2_with (first
  |((with_reducible show wpList _ _ _ (⟨some 16,_,_,_,_,_⟩ :: _) _ _);refine wpList_load_row (o:=⟨some 16,.load 25 _,_,_,_,_⟩) rfl 25 _ rfl w.heap.size rfl 25 _ (0,0) _ HK.out Tryz.underlying25 rfl aS ?_)
  |(go_at_call 41
    refine(kX pa pn pc ba bn bc bs W (H.out.ext HB.out)).mono ?_;rintro e w2 ⟨rfl,hb⟩;rw[HF.out];have HB2:=aBO (aA HB.out hb)
    clear hb))
 refine bodyPost_ret (v:=.tuple #[iY,.int .i64 2]) (by simp[results,Tryz.results31,go_sem,Act.put]) rfl ?_
 unfold nE
 refine⟨fun _=>rfl,?_,HB2.out⟩
 intro h
 rw[HF.out] at h
 cases h
theorem wE{ts:List aT}{L qs:List aI}(P:gU ts L)(hl:ts.length≤200)(hq:qs=tA ts.length L)(hp:qs.Perm L):zQ qs:=by
 intro i j hij hj
 have h1:=BP (n:=ts.length) (L:=L) (by omega)
 rw[←hq] at h1
 have hi:i<qs.length:=by omega
 have hPP:=iI hl P
 have hm:∀{a},a<qs.length→qs.getD a aE∈L:=fun h=>hp.mem_iff.1 (by simp[aBT,h])
 have h2:=(List.pairwise_iff_getElem.1 h1) i j hi hj hij
 have e1:qs[i]=qs.getD i aE:=by simp[aBT,hi]
 have e2:qs[j]=qs.getD j aE:=by simp[aBT,hj]
 rw[e1,e2,tB,tB] at h2
 rw[iL hp,iL hp]
 have f1:=(hPP _ (hm hi)).2.1
 have f2:=(hPP _ (hm hj)).2.1
 omega
theorem JT(f:Nat→Bool):(aZ f).length≤200:=by
 have:=List.length_filter_le f (List.range 200)
 simpa[aZ] using this
theorem MS(pa:Option Addr)(pn pc:Nat)(ba:Option Addr)(bn bc:Nat)(bs:List gS)(w:World)(h:dU w ba bn bs)(hf:bU (aG bs)=true):
  Calls Tryz.prog 31 #[dX pa pn pc ba bn bc] w (nE (aG bs) w):=by
 have HG:Hid (fS (aG bs)=true):=(bQ hf).1
 have hgg:=(cY _).1 HG.out
 have hbn:bn≤200:=by have:=hgg.1.2;rw[dD,h.1.1] at this;exact this
 have hbn1:1≤bn:=by have:=hgg.1.1;rw[dD,h.1.1] at this;exact this
 have HTL:Hid ((aG bs).length=bn):=by rw[Hid,dD,h.1.1]
 have H:=aBO h
 have HF:=aBO hf
 have HPL:Hid ((dR (aG bs)).length+1≤bn):=by rw[Hid,←HTL.out];exact pV hf
 have HLF:=aBO (xD hf 201 (aL (aG bs).length) (eJ (by rw[HTL.out];exact hbn)) (fun y hy=>by simpa[aL] using hy) (by have:=JT (aL (aG bs).length);omega))
 have HPO:=aBO (lN hf)
 clear h hf hgg
 go_enter Tryz.func31,Tryz.ntmps31
 go_upto_region 1 with (fail)
 obtain⟨W,hW⟩:∃W,W=w.alloc (bO pa pn pc ba bn bc):=⟨_,rfl⟩
 rw[←hW]
 have hk0:W.heap[w.heap.size]? =some (bO pa pn pc ba bn bc):=by rw[hW];exact aBS _ _
 have hB:Below w.heap.size w W:=by rw[hW];exact aD _ _
 have HK:=aBO hk0
 have HB:=aBO hB
 clear hW hk0 hB
 go_upto_region 3 with (first
  |((with_reducible show wpList _ _ _ (⟨some 16,_,_,_,_,_⟩ :: _) _ _);refine wpList_load_row (o:=⟨some 16,.load 25 _,_,_,_,_⟩) rfl 25 _ rfl w.heap.size rfl 25 _ (0,0) _ HK.out Tryz.underlying25 rfl aS ?_)
  |(go_at_call 41
    refine(kX pa pn pc ba bn bc bs W (H.out.ext HB.out)).mono ?_;rintro e w2 ⟨rfl,hb⟩;rw[HF.out];have HK2:=aBO (aB hb HK.out);have HB2:=aBO (aA HB.out hb)
    clear hb))
 clear HK HB
 obtain⟨LP,hLP⟩:∃l,l=dZ (aG bs) 201 (aL (aG bs).length):=⟨_,rfl⟩
 have hPP:dR (aG bs)=LP++lH (aG bs) LP:=by rw[hLP];rfl
 rw[←hLP] at HLF
 have HLPE:=aBO hLP
 obtain⟨CP,hCP⟩:∃l,l=lH (aG bs) LP:=⟨_,rfl⟩
 rw[←hCP] at hPP
 have HCPE:=aBO hCP
 have hlc:LP.length+CP.length+1≤bn:=by have:=HPL.out;rw[hPP,List.length_append] at this;exact this
 have HPP:=aBO hPP
 clear hLP hCP hPP
 have q9:∀w',(∃n':aY w2,w'=n'.val)→w'.heap[w.heap.size]? =some (bO pa pn pc ba bn bc):=fun w' ⟨n',e⟩=>by rw[e];exact aB n'.ext HK2.out
 refine qK (fun w'=>∃n':aY w2,w'=n'.val) [(0,2,some (2,true)),(3,0,some (3,true)),(4,1,none)] (by kernel_rfl) (by kernel_rfl) ⟨⟨_,bZ (aBQ _ _) 1⟩,rfl⟩ ?_
 simp only[lW,List.take_succ_cons,List.take_zero,List.drop_succ_cons,List.drop_zero]
 repeat (first
  |go_big_quiet_skip
  |(refine aW (o:=⟨some 19,.load 25 _,_,_,_,_⟩) (by rfl) 25 _ rfl w.heap.size rfl 25 _ (0,0) _ q9 Tryz.underlying25 rfl aS ?_;simp only[zJ,zG,zH,zI])
  |(refine aW (o:=⟨some 20,.load 25 _,_,_,_,_⟩) (by rfl) 25 _ rfl w.heap.size rfl 25 _ (0,0) _ q9 Tryz.underlying25 rfl aS ?_;simp only[zJ,zG,zH,zI])
  |go_big_quiet_step (fail))
 refine wpQuiet_nil ?_
 refine dP rfl rfl ?_
 go_simp
 refine(oV pa pn pc ba bn bc hbn w2.drew).mono ?_
 rintro e w3 ⟨rfl,hb3⟩
 have hb3:=nN hb3
 refine⟨⟨⟨w3,hb3⟩,rfl⟩,?_⟩
 refine wpQuiet_nil ?_
 refine dP rfl rfl ?_
 go_simp
 have HB3:=aBO (aA HB2.out hb3)
 have HK3:=aBO (aB hb3 HK2.out)
 clear q9
 refine(LO pa pn pc ba bn bc bs HF.out 201 (aL bn) w3 (H.out.ext HB3.out) (eJ hbn) (fun y hy=>by simpa[aL] using hy) (by have:=HLPE.out;rw[HTL.out] at this;rw[←this];omega) (by have:=JT (aL bn);omega)).mono ?_
 rintro e w4 ⟨v4,rfl,hp4,hb4⟩
 have e4:dZ (aG bs) 201 (aL bn)=LP:=by rw[HLPE.out,HTL.out]
 rw[e4] at hp4
 refine⟨⟨⟨w4,aA hb3 hb4⟩,rfl⟩,?_⟩
 obtain⟨la,lc,rfl⟩:=hp4.form
 obtain⟨ln,hln⟩:∃k,k=LP.length:=⟨_,rfl⟩
 rw[←hln] at hp4 hlc⊢
 have HLN:=aBO hln
 have hp4':=eD.mono hp4 (show w.heap.size+1≤w3.heap.size from by have:=aN HK3.out;omega)
 have HP4:=aBO hp4'
 have HB4:=aBO (aA HB3.out hb4)
 have HK4:=aBO (aB hb4 HK3.out)
 clear hln hp4 hp4' hb3 hb4 e4 HB3 HK3 HB2 HK2
 repeat (go_big_quiet_step (fail))
 refine wpQuiet_nil ?_
 refine NoPanic.normal ?_
 have hsz4:=aN HK4.out
 have hownL:∀k,(Value.slice la ln lc).ownBlock=some k→k<w4.heap.size:=fun k hk=>(cK.low HP4.out hk).2
 go_upto_region 5 with (first
  |((with_reducible show wpList _ _ _ (⟨some 24,_,_,_,_,_⟩ :: _) _ _);refine wpList_load_row (o:=⟨some 24,.load 25 _,_,_,_,_⟩) rfl 25 _ rfl w.heap.size rfl 25 _ (0,0) _ HK4.out Tryz.underlying25 rfl aS ?_)
  |(go_at_call 74
    refine(MK pa pn pc ba bn bc bs la ln lc (w.heap.size+1) LP w4 (H.out.ext HB4.out) HF.out HLF.out HP4.out (by omega)).mono ?_;rintro e w5 ⟨v5,rfl,hp5,hb5⟩;rw[←HCPE.out] at hp5;obtain⟨ca,cc,rfl⟩:=hp5.form;obtain⟨cn,hcn⟩:∃k,k=CP.length:=⟨_,rfl⟩
    rw[←hcn] at hp5 hlc⊢;have HCN:=aBO hcn;have HP5:=aBO hp5;have HL5:=aBO (eD.ext HP4.out hb5);have HB5:=aBO (aA HB4.out hb5);have HK5:=aBO (aB hb5 HK4.out);have hsz5:=hb5.size
    clear hcn hp5 hb5)
  |((with_reducible show wpList _ _ _ (⟨some 27,_,_,_,_,_⟩ :: _) _ _);refine fN (o:=⟨some 27,.call _,_,_,_,_⟩) w5 rfl (.tmp 23) (.tmp 26) 104 112 rfl (w.heap.size+1) _ 202 216 Tryz.underlying104 wU (by kernel_rfl) (by omega) (.slice la ln lc) ln _ rfl (by have:=HL5.out.1;rw[←HLN.out] at this;exact this) ca cn cc rfl (CP.flatMap ptC) (by rw[HCN.out];exact jY ptC 202 kD CP) (kM.news (cK.recs kD HP5.out) kD (by omega)) (fun u hu=>by obtain⟨p,_,hp⟩:=List.mem_flatMap.1 hu;exact sI p u hp) (by simp only[maxLen];omega) (by omega) (by omega) ?_
    intro v6 w6 hown6 hg6 hat6;have hp6:eD w6 (w.heap.size+1) v6 (dR (aG bs)):=⟨(by rw[HPP.out,List.length_append,List.flatMap_append,←HLN.out,←HCN.out];exact hown6),(by rw[HPP.out,List.length_append,←HLN.out,←HCN.out];omega)⟩
    have HP6:=aBO hp6;have HK6:=aBO (aK hg6 HK5.out (fun e=>by have:=(cK.low HL5.out e).1;omega));have HB6:=aBO (HB5.out.grown hg6 (by omega) (fun q e=>by have:=(cK.low HL5.out e).1;omega))
    clear hown6 hg6 hat6 hp6))
 clear HP4 HB4 HK4 HP5 HL5 HB5 HK5 hownL HLPE HCPE HPP HLN HCN hlc
 obtain⟨L,hL⟩:∃L,L=dR (aG bs):=⟨_,rfl⟩
 rw[←hL] at HP6 HPL HPO
 have HLE:=aBO hL
 obtain⟨pa6,pc6,rfl⟩:=HP6.out.form
 obtain⟨n,hn⟩:∃n,n=L.length:=⟨_,rfl⟩
 rw[←hn] at HP6 HPL⊢
 have HN:=aBO hn
 have hn200:n+1≤bn:=HPL.out
 clear hL hn HPL
 have hfirst:∀p∈L,aZ p.s≠[]∧cI p<bn:=fun p hp=>by
  have:=iI (by rw[HTL.out];exact hbn) HPO.out p hp;rw[HTL.out] at this;exact⟨this.1,this.2.2.2.1⟩
 have HFI:=aBO hfirst
 have HOL:Hid (∀d b k,d≤n→b<bn→k≤n→(lE bn L d b k).length≤n):=fun d b k h1 h2 h3=>by
  rw[HN.out] at h1 h3⊢;exact VV (fun p hp=>(HFI.out p hp).2) h1 h2 h3
 have hsz6:=aN HK6.out
 clear hfirst
 go_wp2
 go_loopw [5,6,7,8] (fun s5 s6 _ _ wr=>∃d:Nat,d≤n+1∧s6=.int .i64 (d:Int)∧Hid (eD wr w6.heap.size s5 (lE bn L d 0 0))∧Hid (Below w6.heap.size w6 wr)) (fun _ s6 _ _ _=>n+1-(intOf s6).toNat)
 case atStart=>exact⟨0,by omega,rfl,by rw[Hid,OC];exact cK.nil _ _ _ _ _,aBQ _ _⟩
 case round=>
  obtain⟨d,hd,rfl,HOd,HBd⟩:=hrel;by_cases hdl:d≤n
  ·have hdl':(d:Int)≤(n:Int):=by omega
   go_wp2
   go_loopw [5,7,8] (fun s5 s7 _ wi=>∃b:Nat,b≤bn∧s7=.int .i64 (b:Int)∧Hid (eD wi w6.heap.size s5 (lE bn L d b 0))∧Hid (Below w6.heap.size w6 wi)) (fun _ s7 _ _=>bn-(intOf s7).toNat)
   case atStart=>exact⟨0,by omega,rfl,HOd,HBd⟩
   case round=>
    obtain⟨b,hb,rfl,HOb,HBb⟩:=hrel;clear HOd HBd;have k1:wr.cell? ⟨w.heap.size,1,none⟩=some (.slice ba bn bc):=by rw[aBP _ _ _ _ _ _ (aB HBb.out HK6.out)];rfl
    by_cases hbl:b<bn
    ·have hbl':(b:Int)<(bn:Int):=by omega
     go_wp2;clear k1
     go_loopw [5,8] (fun s5 s8 wj=>∃k:Nat,k≤n∧s8=.int .i64 (k:Int)∧Hid (eD wj w6.heap.size s5 (lE bn L d b k))∧Hid (Below w6.heap.size w6 wj)) (fun _ s8 _=>n-(intOf s8).toNat)
     case atStart=>exact⟨0,by omega,rfl,HOb,HBb⟩
     case round=>
      obtain⟨k,hk,rfl,HOk,HBk⟩:=hrel;clear HOb HBb;by_cases hkl:k<n
      ·have hkl':(k:Int)<(n:Int):=by omega
       have hform:∃g,pa6=some ⟨g,0,none⟩:=by
        obtain⟨g,c',e⟩:=eI HP6.out.1 (by have:=HN.out;omega);injection e with e _ _;exact⟨g,e⟩
       obtain⟨gg,rfl⟩:=hform;have HSTEP:=aBO (ZX (n:=bn) (L:=L) (d:=d) (b:=b) (k:=k) (by rw[←HN.out];exact hkl));have HLEN:=aBO (HOL.out d b k hdl hbl hk);have hmem:L.getD k aE∈L:=by rw[aBT,aBU (by rw[←HN.out];exact hkl)];exact aBZ _
       have hne:=(HFI.out _ hmem).1;obtain⟨va,vc,hvf⟩:=HOk.out.form;obtain⟨m,hm⟩:∃m,m=(lE bn L d b k).length:=⟨_,rfl⟩
       rw[←hm] at hvf HLEN;subst hvf;have hm200:m≤n:=HLEN.out;obtain⟨pk,hpk⟩:∃p,p=L.getD k aE:=⟨_,rfl⟩
       obtain⟨ar,har⟩:∃a,a=bE L (L.getD k aE):=⟨_,rfl⟩
       have hST2:=HSTEP.out;rw[←har,←hpk] at hST2;rw[←hpk] at hne;have HST:=aBO hST2;have HPK:=aBO hpk;have HAR:=aBO har;have HMM:=aBO hm;have HNE:=aBO hne;clear hST2 HSTEP hpk har hm hmem hne HLEN;go_upto_region 15 with (fail)
       by_cases hA:ar=d
       rotate_left
       ·have dA:((ar:Int)==(d:Int))=false:=by simp;omega
        have HN1:Hid (lE bn L d b (k+1)=lE bn L d b k):=by rw[Hid,HST.out,if_neg (fun h=>hA h.1),List.append_nil]
        clear hA
        go_wp2_with (
         (go_at_call 75
          refine(yO (some ⟨gg,0,none⟩) n pc6 (w.heap.size+1) (aG bs) (by rw[HTL.out];exact hbn) L HPO.out k hkl wr (eD.ext HP6.out HBk.out) (by omega)).mono ?_;rintro e w8 ⟨rfl,hb8⟩;rw[←HAR.out];have HB8:=aBO (aA HBk.out hb8);have HO8:=aBO (eD.ext HOk.out hb8)
          clear hb8))
        go_roundw
        case rel=>exact⟨k+1,by omega,by go_num,by rw[HN1.out];exact HO8,HB8⟩
        case measure=>simp[intOf];omega
       have dA:((ar:Int)==(d:Int))=true:=by simp;omega
       obtain⟨fp,hfp⟩:∃x,x=cI pk:=⟨_,rfl⟩
       have HFP:=aBO hfp;have HAD:=aBO hA;clear hfp hA
       go_upto_if 63 with (first
        |(go_at_call 75
          refine(yO (some ⟨gg,0,none⟩) n pc6 (w.heap.size+1) (aG bs) (by rw[HTL.out];exact hbn) L HPO.out k hkl wr (eD.ext HP6.out HBk.out) (by omega)).mono ?_;rintro e w8 ⟨rfl,hb8⟩;rw[←HAR.out];have HB8:=aBO (aA HBk.out hb8);have HO8:=aBO (eD.ext HOk.out hb8);obtain⟨_,rk8,_,_⟩:=jL ((eD.ext HP6.out HB8.out).range hkl);rw[←HPK.out] at rk8;have HRK8:=aBO rk8
          clear hb8 rk8)
        |((with_reducible show wpList _ _ _ (⟨some 57,_,_,_,_,_⟩ :: _) _ _);refine gF (o:=⟨some 57,.load 107 _,_,_,_,_⟩) (by kernel_rfl) 107 _ rfl gg (k*202+1) rfl (aQ pk.s).toList _ HRK8.out Tryz.underlying107 rfl (by rw[Array.length_toList,aF];exact aV) ?_)
        |(go_at_call 76
          refine(uL pk.s w8).mono ?_;rintro e w9 ⟨v9,rfl,ho9,hb9⟩;obtain⟨lg,l9,lc9,rfl,hl9,hc9⟩:=vD ho9 HNE.out;have hl9':(0:Int)<(l9:Int):=(by omega)
          have hc9':w9.cell? ⟨lg,0,none⟩=some (.int .i64 (fp:Int)):=(by rw[hc9,HFP.out];rfl)
          have HB9:=aBO (aA HB8.out hb9);have HO9:=aBO (eD.ext HO8.out hb9)
          clear hb9 ho9 hc9))
       by_cases hB:fp=b
       rotate_left
       ·have dB:((fp:Int)==(b:Int))=false:=by simp;omega
        have HN1:Hid (lE bn L d b (k+1)=lE bn L d b k):=by rw[Hid,HST.out,if_neg (fun h=>hB (by rw[HFP.out];exact h.2)),List.append_nil]
        clear hB;go_wp2
        go_roundw
        case rel=>exact⟨k+1,by omega,by go_num,by rw[HN1.out];exact HO9,HB9⟩
        case measure=>simp[intOf];omega
       have dB:((fp:Int)==(b:Int))=true:=by simp;omega
       have HN1:Hid (lE bn L d b (k+1)=lE bn L d b k++ [pk]):=by rw[Hid,HST.out,if_pos ⟨HAD.out,by rw[←HFP.out];exact hB⟩]
       have hrk9:=(eD.ext HP6.out HB9.out).range hkl;rw[←HPK.out] at hrk9;have HRK9:=aBO hrk9;have hown9:=HO9.out.1;rw[←HMM.out] at hown9;have HOWN9:=aBO hown9;have hb9:w6.heap.size≤w9.heap.size:=HB9.out.size;clear hB hrk9 hown9
       go_wp2_with (first
        |((with_reducible show wpList _ _ _ (⟨some 68,_,_,_,_,_⟩ :: _) _ _);refine wpList_load_mid (op:=⟨some 68,.load 112 _,_,_,_,_⟩) rfl 112 _ rfl gg (k*202) rfl (ptC pk) _ HRK9.out Tryz.underlying112 rfl (VL _) ?_)
        |((with_reducible show wpList _ _ _ (⟨some 69,_,_,_,_,_⟩ :: _) _ _);refine qQ (o:=⟨some 69,.buildSlice _ _ _,_,_,_,_⟩) rfl _ pk rfl rfl ?_)
        |((with_reducible show wpList _ _ _ (⟨some 70,_,_,_,_,_⟩ :: _) _ _);refine bV (o:=⟨some 70,.call _,_,_,_,_⟩) rfl w9 (.tmp 64) (.tmp 69) 104 112 rfl w6.heap.size _ 202 216 Tryz.underlying104 wU (by kernel_rfl) (by omega) (.slice va m vc) m _ (ptC pk) rfl HOWN9.out w9.heap.size rfl rfl (kD _) (sI _) (by simp only[maxLen];omega) (by omega) hb9 ?_
          intro g cap w10 hown10 hg10 hat10;have hp10:eD w10 w6.heap.size (.slice (some ⟨g,0,none⟩) (m+1) cap) (lE bn L d b k++ [pk]):=⟨(by rw[List.length_append,List.flatMap_append,←HMM.out];simpa using hown10),(by rw[List.length_append,←HMM.out];simp;omega)⟩
          have HP10:=aBO hp10;have HB10:=aBO (HB9.out.grown hg10 (by omega) (fun q e=>(cK.low HO9.out e).1))
          clear hown10 hg10 hat10 hp10))
       go_roundw
       case rel=>exact⟨k+1,by omega,by go_num,by rw[HN1.out];exact HP10,HB10⟩
       case measure=>simp[intOf];omega
      ·obtain rfl:k=n:=by omega
       have HE:Hid (lE bn L d b k=lE bn L d (b+1) 0):=by rw[Hid,HN.out];exact ZZ _ _ _ _
       go_wp2
       go_roundw
       case rel=>exact⟨b+1,by omega,by go_num,by rw[←HE.out];exact HOk,HBk⟩
       case measure=>simp[intOf];omega
    ·obtain rfl:b=bn:=by omega
     have HE:Hid (lE b L d b 0=lE b L (d+1) 0 0):=ZY _ _ _;go_wp2
     go_roundw
     case rel=>exact⟨d+1,by omega,by go_num,by rw[←HE.out];exact HOb,HBb⟩
     case measure=>simp[intOf];omega
  ·obtain rfl:d=n+1:=by omega
   have hdl':¬((n+1:Nat):Int)≤(n:Int):=by omega
   obtain⟨qs,hqs⟩:∃q,q=tA bn L:=⟨_,rfl⟩
   have hOq:eD wr w6.heap.size u5 qs:=by
    rw[hqs,←VW];have:=HOd.out;rw[HN.out] at this;exact this
   have HQS:=aBO hqs;have HPRM:Hid (qs.Perm L):=by rw[Hid,hqs];exact rJ (fun p hp=>(HFI.out p hp).2)
   have hql:qs.length=n:=by rw[HPRM.out.length_eq,HN.out]
   have HQP:Hid (gU (aG bs) qs):=HPO.out.perm HPRM.out.symm;have HQL:=aBO hql;obtain⟨qa,qc,hqf⟩:=hOq.form;rw[hql] at hqf;subst hqf;have HOQ:=aBO hOq;have HBW:=aBO (aA HB6.out HBd.out);have HKW:=aBO (aB HBd.out HK6.out);clear hqs hOq hql HOd HBd HOL HFI HK6 HB6 HP6;obtain⟨W7,hW7⟩:∃W,W=wr:=⟨_,rfl⟩
   rw[←hW7] at HOQ HBW HKW⊢;clear hW7;go_upto_region 17 with (fail)
   have hno:∀i j,i<j→j<qs.length→¬eK (qs.getD i aE).s (qs.getD j aE).s:=AL (by rw[HTL.out];exact hbn) HQP.out (wE HPO.out (by rw[HTL.out];exact hbn) (by rw[HTL.out];exact HQS.out) HPRM.out);have HNO:=aBO hno;clear hno;go_wp2;obtain⟨W8,hW8⟩:∃W,W=W7.alloc (.cells #[.int .i64 1,.int .i64 (-1),.slice none 0 0] 76):=⟨_,rfl⟩
   rw[←hW8];have ht8:dG W8 W7.heap.size (.slice (some ⟨W7.heap.size,0,none⟩) 1 1) [⟨⟨1,-1,[]⟩,none,0,0⟩]:=DX W8 W7.heap.size ⟨⟨1,-1,[]⟩,none,0,0⟩ (by rw[hW8];exact aBS _ _) _ (aBV _) (bN.nil _ _) ⟨by unfold I64;constructor<;>simp,by unfold I64;constructor<;>simp⟩ (by simp[bsV,Value.ownBlock]);have HT8:=aBO ht8;have HB8:Hid (Below W7.heap.size W7 W8):=by rw[Hid,hW8];exact aD _ _
   clear hW8 ht8
   go_loopw [9,10,11,12] (fun s9 s10 _ _ wr=>∃(k:Nat) (ls:List bK),k≤n∧s10=.int .i64 (k:Int)∧Hid (dG wr W7.heap.size s9 ls)∧Hid (aJ ls=pD qs k)∧Hid (Below W7.heap.size W7 wr)) (fun _ s10 _ _ _=>n-(intOf s10).toNat)
   case atStart=>exact⟨0,_,by omega,rfl,HT8,rfl,HB8⟩
   case round=>
    obtain⟨k,ls,hk,rfl,HTI,HTD,HBk⟩:=hrel;clear HT8 HB8;obtain⟨Wk,hWk⟩:∃W,W=wr:=⟨_,rfl⟩
    rw[←hWk] at HTI HBk⊢;clear hWk;by_cases hkl:k<n
    ·have hkl':(k:Int)<(n:Int):=by omega
     have hform:∃g,qa=some ⟨g,0,none⟩:=by
      obtain⟨g,c',e⟩:=eI HOQ.out.1 (by have:=HQL.out;omega);injection e with e _ _;exact⟨g,e⟩
     obtain⟨gg,rfl⟩:=hform;have hql:k<qs.length:=by rw[HQL.out];exact hkl
     have hmem:qs.getD k aE∈qs:=by rw[aBT,aBU hql];exact aBZ _
     have hkind:=HQP.out.kind _ hmem;have HPAR:Hid (uQ qs k k=dF qs (cI (qs.getD k aE)) k):=VS (by rw[HTL.out];exact hbn) HQP.out HNO.out hql k (aBV _);obtain⟨ck,_,_,_⟩:=jL ((eD.ext HOQ.out HBk.out).range hkl);obtain⟨pk,hpk⟩:∃p,p=qs.getD k aE:=⟨_,rfl⟩
     obtain⟨kd,hkd⟩:∃d,d=pk.kind:=⟨_,rfl⟩
     rw[←hpk,←hkd] at ck hkind;have HPK:=aBO hpk;have HKD:=aBO hkd;have HKI:=aBO hkind;clear hpk hkd hkind hmem hql;obtain⟨oa,oc,hof⟩:=HTI.out.own.form;have hll:ls.length=k+1:=by have:=congrArg List.length HTD.out;rw[qI] at this;simpa[aJ] using this
     rw[hll] at hof;subst hof;have HLL:=aBO hll;clear hll;go_upto_region 22 with (fail)
     clear ck;obtain⟨B,hB⟩:∃B,B=Wk.heap.size:=⟨_,rfl⟩
     obtain⟨W9,hW9⟩:∃W,W=Wk.alloc (.cells #[.int .i64 kd,.int .i64 0,.slice none 0 0] 76):=⟨_,rfl⟩
     rw[←hW9,←hB];have hr9:W9.heap[B]? =some (.cells #[.int .i64 kd,.int .i64 ((uQ qs k 0:Nat):Int),.slice none 0 0] 76 (0,0)):=by rw[hW9,hB];exact aBS _ _
     have hb9:Below Wk.heap.size Wk W9:=by rw[hW9];exact aD _ _
     have HR9:=aBO hr9;have HB9:=aBO hb9;have HBB:=aBO hB;clear hW9 hB hr9 hb9;go_wp2
     go_loopw [12] (fun s12 wi=>∃i:Nat,i≤k∧s12=.int .i64 (i:Int)∧Hid (wi.heap[B]? =some (.cells #[.int .i64 kd,.int .i64 ((uQ qs k i:Nat):Int),.slice none 0 0] 76 (0,0)))∧Hid (Below Wk.heap.size Wk wi)) (fun s12 _=>k-(intOf s12).toNat)
     case atStart=>exact⟨0,by omega,rfl,HR9,HB9⟩
     case round=>
      obtain⟨i,hi,rfl,HRB,HBI⟩:=hrel;clear HR9 HB9;by_cases hil:i<k
      ·have hil':(i:Int)<(k:Int):=by omega
       have hin:i<n:=by omega
       have hin':(i:Int)<(n:Int):=by omega
       have hpt:=eD.ext HOQ.out (aA HBk.out HBI.out);obtain⟨_,rk,_,_⟩:=jL (hpt.range hkl);obtain⟨_,ri,_,_⟩:=jL (hpt.range hin);have hst:uQ qs k (i+1)=if cS (qs.getD k aE).s (qs.getD i aE).s||eqS (qs.getD i aE).s (qs.getD k aE).s then i+1 else uQ qs k i:=rfl
       obtain⟨pi,hpi⟩:∃p,p=qs.getD i aE:=⟨_,rfl⟩
       obtain⟨pv9,hpv⟩:∃p,p=uQ qs k i:=⟨_,rfl⟩
       rw[←HPK.out] at rk hst;rw[←hpi] at ri hst;rw[←hpv] at HRB hst;have HPV:=aBO hpv;have HRK:=aBO rk;have HRI:=aBO ri;clear rk ri hpt hpi hpv;obtain⟨V,hV⟩:∃V,V=wr:=⟨_,rfl⟩
       rw[←hV] at HRK HRI HRB HBI⊢;clear hV;have q1:True:=trivial;have Q3:Hid (∀w',(∃n':aY V,w'=n'.val)→w'.rangeAt gg (i*202+1) (aQ pi.s).toList):=fun w' ⟨n',e⟩=>by rw[e];exact lD n'.ext HRI.out
       have Q4:Hid (∀w',(∃n':aY V,w'=n'.val)→w'.rangeAt gg (k*202+1) (aQ pk.s).toList):=fun w' ⟨n',e⟩=>by rw[e];exact lD n'.ext HRK.out
       clear HRK HRI;have HNE:Nonempty (aY V):=⟨⟨V,aBQ _ _⟩⟩
       have HIN:Hid (∀n':aY V,Calls Tryz.prog 77 #[.agg (aQ pk.s),.agg (aQ pi.s)] n'.val fun e w''=>e=.returned (.bool (cS pk.s pi.s))∧∃m:aY V,w''=m.val):=fun n'=>cG (KA pk.s pi.s n'.val);obtain⟨wi,hwi⟩:∃b,b=cS pk.s pi.s:=⟨_,rfl⟩
       rw[←hwi] at HIN hst;obtain⟨qe,hqe⟩:∃b,b=eqS pi.s pk.s:=⟨_,rfl⟩
       rw[←hqe] at hst;have heq:∀w9,(binOp .eql 107 (.agg (aQ pi.s)) (.agg (aQ pk.s))).run Tryz.prog w9=.ok (.bool qe) w9:=fun w9=>by rw[hqe];exact KK w9 _ _
       have HST:=aBO hst;clear hwi hqe hst;go_upto_region 25 with (fail)
       cases wi with
       |true=>
        clear heq;refine bB (by kernel_rfl) (by kernel_rfl) ?_
        repeat (first
         |go_big_quiet_skip
         |(refine aX (o:=⟨some 94,.load 107 _,_,_,_,_⟩) (by rfl) 107 _ rfl gg (k*202+1) rfl (aQ pk.s).toList _ Q4.out Tryz.underlying107 rfl (by rw[Array.length_toList,aF];exact aV) ?_;simp only[zJ,zG,zH,zI,Array.toArray_toList])
         |(refine aX (o:=⟨some 99,.load 107 _,_,_,_,_⟩) (by rfl) 107 _ rfl gg (i*202+1) rfl (aQ pi.s).toList _ Q3.out Tryz.underlying107 rfl (by rw[Array.length_toList,aF];exact aV) ?_;simp only[zJ,zG,zH,zI,Array.toArray_toList])
         |go_big_quiet_step (first|(go_at_call 77;exact HIN.out _)))
        refine wpQuiet_nil ?_;rintro _ ⟨n',rfl⟩;have HN1:Hid (uQ qs k (i+1)=i+1):=by rw[Hid,HST.out];simp
        have HRB8:=aBO (aB n'.ext HRB.out);have HBI8:=aBO (aA HBI.out n'.ext);have c8:n'.val.cell? ⟨B,1,none⟩=some (.int .i64 (pv9:Int)):=by rw[aBP _ _ _ _ _ _ HRB8.out];rfl
        have f8:n'.val.frozen? ⟨B,1,none⟩=false:=frozen_of_row _ _ _ _ _ HRB8.out;have l8:=aN HRB8.out;have HRB9:Hid ((n'.val.setCell ⟨B,1,none⟩ (.int .i64 ((i:Int)+1))).heap[B]? =some (.cells #[.int .i64 kd,.int .i64 ((i+1:Nat):Int),.slice none 0 0] 76 (0,0))):=by
         rw[Hid,heap_setCell_same _ _ _ _ _ _ HRB8.out];simp
        have HBI9:=aBO (HBI8.out.setCell (p:=⟨B,1,none⟩) (by show Wk.heap.size≤B;rw[HBB.out];exact aBV _) (.int .i64 ((i:Int)+1)));clear q1 HIN;go_wp2
        go_roundw
        case rel=>exact⟨i+1,by omega,by go_num,by rw[HN1.out];exact HRB9,HBI9⟩
        case measure=>simp[intOf];omega
       |false=>
        cases qe with
        |false=>
         refine bB (by kernel_rfl) (by kernel_rfl) ?_
         repeat (first
          |go_big_quiet_skip
          |(refine aX (o:=⟨some 94,.load 107 _,_,_,_,_⟩) (by rfl) 107 _ rfl gg (k*202+1) rfl (aQ pk.s).toList _ Q4.out Tryz.underlying107 rfl (by rw[Array.length_toList,aF];exact aV) ?_;simp only[zJ,zG,zH,zI,Array.toArray_toList])
          |(refine aX (o:=⟨some 99,.load 107 _,_,_,_,_⟩) (by rfl) 107 _ rfl gg (i*202+1) rfl (aQ pi.s).toList _ Q3.out Tryz.underlying107 rfl (by rw[Array.length_toList,aF];exact aV) ?_;simp only[zJ,zG,zH,zI,Array.toArray_toList])
          |(refine aX (o:=⟨some 106,.load 107 _,_,_,_,_⟩) (by rfl) 107 _ rfl gg (i*202+1) rfl (aQ pi.s).toList _ Q3.out Tryz.underlying107 rfl (by rw[Array.length_toList,aF];exact aV) ?_;simp only[zJ,zG,zH,zI,Array.toArray_toList])
          |(refine aX (o:=⟨some 111,.load 107 _,_,_,_,_⟩) (by rfl) 107 _ rfl gg (k*202+1) rfl (aQ pk.s).toList _ Q4.out Tryz.underlying107 rfl (by rw[Array.length_toList,aF];exact aV) ?_;simp only[zJ,zG,zH,zI,Array.toArray_toList])
          |go_big_quiet_step (first|(go_at_call 77;exact HIN.out _)))
         refine wpQuiet_nil ?_;rintro _ ⟨n',rfl⟩;clear heq;have HN1:Hid (uQ qs k (i+1)=uQ qs k i):=by rw[Hid,HST.out,←HPV.out];simp
         have HRB8:=aBO (aB n'.ext HRB.out);have HBI8:=aBO (aA HBI.out n'.ext);clear q1 HIN;go_wp2
         go_roundw
         case rel=>exact⟨i+1,by omega,by go_num,by rw[HN1.out,←HPV.out];exact HRB8,HBI8⟩
         case measure=>simp[intOf];omega
        |true=>
         refine bB (by kernel_rfl) (by kernel_rfl) ?_
         repeat (first
          |go_big_quiet_skip
          |(refine aX (o:=⟨some 94,.load 107 _,_,_,_,_⟩) (by rfl) 107 _ rfl gg (k*202+1) rfl (aQ pk.s).toList _ Q4.out Tryz.underlying107 rfl (by rw[Array.length_toList,aF];exact aV) ?_;simp only[zJ,zG,zH,zI,Array.toArray_toList])
          |(refine aX (o:=⟨some 99,.load 107 _,_,_,_,_⟩) (by rfl) 107 _ rfl gg (i*202+1) rfl (aQ pi.s).toList _ Q3.out Tryz.underlying107 rfl (by rw[Array.length_toList,aF];exact aV) ?_;simp only[zJ,zG,zH,zI,Array.toArray_toList])
          |(refine aX (o:=⟨some 106,.load 107 _,_,_,_,_⟩) (by rfl) 107 _ rfl gg (i*202+1) rfl (aQ pi.s).toList _ Q3.out Tryz.underlying107 rfl (by rw[Array.length_toList,aF];exact aV) ?_;simp only[zJ,zG,zH,zI,Array.toArray_toList])
          |(refine aX (o:=⟨some 111,.load 107 _,_,_,_,_⟩) (by rfl) 107 _ rfl gg (k*202+1) rfl (aQ pk.s).toList _ Q4.out Tryz.underlying107 rfl (by rw[Array.length_toList,aF];exact aV) ?_;simp only[zJ,zG,zH,zI,Array.toArray_toList])
          |go_big_quiet_step (first|(go_at_call 77;exact HIN.out _)))
         refine wpQuiet_nil ?_;rintro _ ⟨n',rfl⟩;clear heq;have HN1:Hid (uQ qs k (i+1)=i+1):=by rw[Hid,HST.out];simp
         have HRB8:=aBO (aB n'.ext HRB.out);have HBI8:=aBO (aA HBI.out n'.ext);have c8:n'.val.cell? ⟨B,1,none⟩=some (.int .i64 (pv9:Int)):=by rw[aBP _ _ _ _ _ _ HRB8.out];rfl
         have f8:n'.val.frozen? ⟨B,1,none⟩=false:=frozen_of_row _ _ _ _ _ HRB8.out;have l8:=aN HRB8.out;have HRB9:Hid ((n'.val.setCell ⟨B,1,none⟩ (.int .i64 ((i:Int)+1))).heap[B]? =some (.cells #[.int .i64 kd,.int .i64 ((i+1:Nat):Int),.slice none 0 0] 76 (0,0))):=by
          rw[Hid,heap_setCell_same _ _ _ _ _ _ HRB8.out];simp
         have HBI9:=aBO (HBI8.out.setCell (p:=⟨B,1,none⟩) (by show Wk.heap.size≤B;rw[HBB.out];exact aBV _) (.int .i64 ((i:Int)+1)));clear q1 HIN;go_wp2
         go_roundw
         case rel=>exact⟨i+1,by omega,by go_num,by rw[HN1.out];exact HRB9,HBI9⟩
         case measure=>simp[intOf];omega
      ·obtain rfl:i=k:=by omega
       have HPV:Hid (uQ qs i i=dF qs (cI pk) i):=by rw[Hid,HPK.out];exact HPAR.out
       rw[HPV.out] at HRB;obtain⟨lp,hlp⟩:∃x,x=dF qs (cI pk) i:=⟨_,rfl⟩
       rw[←hlp] at HRB;have hlpi:lp≤i:=by rw[hlp];exact iE _ _ _
       have HLP:=aBO hlp;have hti:=HTI.out.ext HBI.out;have hown:=hti.own.1;rw[HLL.out] at hown;have HTI2:=aBO hti;have HOWN:=aBO hown;have HBW2:=aBO (aA HBk.out HBI.out);have hsz2:W7.heap.size≤wr.heap.size:=HBW2.out.size;clear hlp hti hown HPV
       go_wp2_with (first
        |((with_reducible show wpList _ _ _ (⟨some 118,_,_,_,_,_⟩ :: _) _ _);refine wpList_load_row (o:=⟨some 118,.load 76 _,_,_,_,_⟩) rfl 76 _ rfl B rfl 76 _ (0,0) _ HRB.out Tryz.underlying76 rfl (by kernel_rfl) ?_)
        |((with_reducible show wpList _ _ _ (⟨some 120,_,_,_,_,_⟩ :: _) _ _);refine bV (o:=⟨some 120,.call _,_,_,_,_⟩) rfl wr (.tmp 117) (.tmp 119) 26 76 rfl W7.heap.size _ 3 40 Tryz.underlying26 nV rfl (by omega) (.slice oa (i+1) oc) (i+1) _ [.int .i64 kd,.int .i64 (lp:Int),.slice none 0 0] rfl HOWN.out wr.heap.size rfl rfl rfl (fun u hu=>by simp at hu;rcases hu with rfl|rfl|rfl<;>rfl) (by simp only[maxLen];omega) (by omega) hsz2 ?_
          intro g cap w10 hown10 hg10 hat10;have ik:I64 kd:=(by unfold I64;rcases HKI.out with h|h|h<;>rw[h]<;>omega)
          have il:I64 (lp:Int):=(by unfold I64;omega)
          have hta:=HTI2.out.add (v':=.slice (some ⟨g,0,none⟩) (i+1+1) cap) ⟨⟨kd,(lp:Int),[]⟩,none,0,0⟩ rfl rfl rfl rfl ⟨ik,il⟩ hg10 (by rw[HLL.out];exact hown10) (by
           rcases hat10 with h|h
           ·exact .inl h
           ·exact .inr ⟨g,rfl,by omega⟩) (by have:=HLL.out;omega)
          have HTA:=aBO hta;have HBA:=aBO (HBW2.out.grown hg10 (by omega) (fun q e=>(HTI2.out.own.low e).1))
          have HTDA:Hid (aJ (ls++ [(⟨⟨kd,(lp:Int),[]⟩,none,0,0⟩:bK)])=pD qs (i+1)):=(by
           rw[Hid,UR,HTD.out,xY,DT,←HPK.out,←HLP.out,HKD.out])
          clear hown10 hg10 hat10 ik il hta))
       go_roundw
       case rel=>exact⟨i+1,_,by omega,by go_num,HTA,HTDA,HBA⟩
       case measure=>simp[intOf];omega
    ·obtain rfl:k=n:=by omega
     obtain⟨oa,oc,hof⟩:=HTI.out.own.form;have hll:ls.length=k+1:=by have:=congrArg List.length HTD.out;rw[qI] at this;simpa[aJ] using this
     rw[hll] at hof;subst hof;obtain⟨tg,rfl⟩:∃g,oa=some ⟨g,0,none⟩:=by
      obtain⟨g,c',e⟩:=eI HTI.out.own.1 (by omega);injection e with e _ _;exact⟨g,e⟩
     have HTJ0:Hid (aJ ls=fU qs 0):=by rw[Hid,xZ,HQL.out];exact HTD.out
     clear hll HTD;go_wp2
     go_loopw [13,14,15] (fun s13 _ _ wr=>∃(b:Nat) (ls:List bK),b≤bn∧s13=.int .i64 (b:Int)∧Hid (dG wr W7.heap.size (.slice (some ⟨tg,0,none⟩) (k+1) oc) ls)∧Hid (aJ ls=fU qs b)∧Hid (Below W7.heap.size W7 wr)) (fun s13 _ _ _=>bn-(intOf s13).toNat)
     case atStart=>exact⟨0,ls,by omega,by go_num,HTI,HTJ0,HBk⟩
     case round=>
      obtain⟨b,ls2,hb,rfl,HTB,HTJ,HBb⟩:=hrel;clear HTI HTJ0 HBk;have k1:wr.cell? ⟨w.heap.size,1,none⟩=some (.slice ba bn bc):=by rw[aBP _ _ _ _ _ _ (aB HBb.out HKW.out)];rfl
      obtain⟨Wb,hWb⟩:∃W,W=wr:=⟨_,rfl⟩
      rw[←hWb] at HTB HBb k1⊢;clear hWb;by_cases hbl:b<bn
      ·have hbl':(b:Int)<(bn:Int):=by omega
       go_wp2;clear k1
       go_loopw [14,15] (fun s14 s15 wi=>∃i:Nat,i≤k∧s15=.int .i64 (i:Int)∧s14=.int .i64 ((dF qs b i:Nat):Int)∧Hid (wi=Wb)) (fun _ s15 _=>k-(intOf s15).toNat)
       case atStart=>exact⟨0,by omega,rfl,rfl,rfl⟩
       case round=>
        obtain⟨i,hi,rfl,rfl,HWE⟩:=hrel;obtain rfl:=HWE.out.symm;by_cases hil:i<k
        ·have hil':(i:Int)<(k:Int):=by omega
         have hform:∃g,qa=some ⟨g,0,none⟩:=by
          obtain⟨g,c',e⟩:=eI HOQ.out.1 (by have:=HQL.out;omega);injection e with e _ _;exact⟨g,e⟩
         obtain⟨gg,rfl⟩:=hform;obtain⟨_,_,_,cb⟩:=jL ((eD.ext HOQ.out HBb.out).range hil);have cbb:=cb b (by omega);have hst:dF qs b (i+1)=if (qs.getD i aE).s b then i+1 else dF qs b i:=rfl
         obtain⟨sb,hsb⟩:∃x,x=(qs.getD i aE).s b:=⟨_,rfl⟩
         rw[←hsb] at cbb hst;have HST:=aBO hst;clear cb hsb hst;have hb200:(b:Int)<200:=by omega
         cases sb with
         |true=>
          have HN1:Hid (dF qs b (i+1)=i+1):=HST.out;generalize dF qs b i=lpi at *;go_wp2
          go_roundw
          case rel=>exact⟨i+1,by omega,by go_num,by rw[HN1.out];go_num,trivial⟩
          case measure=>simp[intOf];omega
         |false=>
          have HN1:Hid (dF qs b (i+1)=dF qs b i):=HST.out;go_wp2
          go_roundw
          case rel=>exact⟨i+1,by omega,by go_num,by rw[HN1.out],trivial⟩
          case measure=>simp[intOf];omega
        ·obtain rfl:i=k:=by omega
         obtain⟨lp,hlp⟩:∃x,x=dF qs b i:=⟨_,rfl⟩
         have hlpk:lp≤i:=by rw[hlp];exact iE qs b i
         have hlpq:dF qs b qs.length=lp:=by rw[HQL.out,hlp]
         rw[←hlp];obtain⟨t,b9,o9,ht,_,e9,_,_,cB⟩:=HTB.out.ok.cells (k:=lp) (by omega);injection e9 with e9;injection e9 with e1 e2;subst e1 e2;rw[Nat.zero_add] at cB;have hlpk':(lp:Int)<((i+1:Nat):Int):=by omega
         have HBT:=aBO (HTB.out.each t (aBY ht)).1;have htd:(fU qs b)[lp]? =some t.d:=by rw[←HTJ.out,aJ,List.getElem?_map,ht];rfl
         have HTN:Hid (fU qs (b+1)=(fU qs b).set lp ⟨t.d.kind,t.d.parent,t.d.blocks++ [(b:Int)]⟩):=by
          have:=yA qs b t.d (by rw[hlpq];exact htd);rw[hlpq] at this;exact this.symm
         have HTBL:Hid (t.d.blocks.length≤b):=tE qs b lp t.d htd;have HLPQ:=aBO ht;obtain⟨tcur,htg⟩:∃cur,Wb.heap[tg]? =some (.cells cur 76 (0,0)):=by
          rcases HTB.out.own.1.2 with ⟨h1,_⟩|⟨g4,cap4,cur4,h1,_,hg4,_⟩
          ·cases h1
          ·injection h1 with h1;injection h1 with h1;injection h1 with h1;subst h1;exact⟨cur4,hg4⟩
         have hbne:(bsV t).ownBlock≠some tg:=cH HBT.out.1 htg (by decide);have HTG:=aBO htg;have HBN:=aBO hbne;have HCB:=aBO cB;have hszb:W7.heap.size≤Wb.heap.size:=HBb.out.size;clear hlp hlpq htd ht htg hbne
         go_wp2_with (
          (at_builtin
           go_loud (refine kS rfl Wb (.tmp 149) (.tmp 151) 22 rfl W7.heap.size _ 8 Tryz.underlying22 lY rfl (bsV t) t.d.blocks rfl HBT.out (b:Int) (by unfold I64;omega) Wb.heap.size rfl rfl (by have:=HTBL.out;omega) (by omega) hszb ?_)
           intro g9 cap9 w9 ho9 hg9 hat9;have htg9:=aK hg9 HTG.out HBN.out;have c9:w9.cell? ⟨tg,lp*3+2,none⟩=some (.slice t.ba t.bn t.bc):=(by rw[aBP _ _ _ _ _ _ htg9,←aBP _ _ _ _ _ _ HTG.out];exact HCB.out)
           have f9:w9.frozen? ⟨tg,lp*3+2,none⟩=false:=frozen_of_row _ _ _ _ _ htg9;obtain⟨t',ht'⟩:∃x:bK,x=⟨⟨t.d.kind,t.d.parent,t.d.blocks++ [(b:Int)]⟩,some ⟨g9,0,none⟩,t.d.blocks.length+1,cap9⟩:=⟨_,rfl⟩
           have hbv:bsV t'=.slice (some ⟨g9,0,none⟩) (t.d.blocks.length+1) cap9:=(by rw[ht'])
           have hj9:=HTB.out.turn (t':=t') HLPQ.out hg9 (by rw[hbv,ht'];exact ho9) (by rw[ht'];exact⟨rfl,rfl⟩) (by
            rw[hbv];rcases hat9 with h|h
            ·exact .inl h
            ·exact .inr ⟨g9,rfl,by omega⟩)
           rw[hbv] at hj9;have HJ9:=aBO hj9;have HT9:Hid (aJ (ls2.set lp t')=fU qs (b+1)):=(by rw[Hid,UQ,HTJ.out,HTN.out,ht'])
           have hbb9:=(HBb.out.grown hg9 hszb (fun q e=>(HBT.out.1.lt q e).1)).setCell (p:=⟨tg,lp*3+2,none⟩) (HTB.out.own.low (k:=tg) rfl).1 (.slice (some ⟨g9,0,none⟩) (t.d.blocks.length+1) cap9);have HBB9:=aBO hbb9
           clear ho9 hg9 hat9 htg9 ht' hbv hj9 hbb9))
         go_roundw
         case rel=>exact⟨b+1,_,by omega,by go_num,HJ9,HT9,HBB9⟩
         case measure=>simp[intOf];omega
      ·obtain rfl:b=bn:=by omega
       have HFIN:Hid (aJ ls2=dQ (aG bs).length (tA (aG bs).length (dR (aG bs)))):=by rw[Hid,HTJ.out,BE,HTL.out,HQS.out,HLE.out]
       go_wp2;refine bodyPost_ret (v:=.tuple #[.slice (some ⟨tg,0,none⟩) (k+1) oc,.int .i64 0]) (by simp[results,Tryz.results31,go_sem,Act.put]) rfl ?_;unfold nE;refine⟨fun hf=>?_,fun _=>⟨_,ls2,rfl,HTB.out.mono HBW.out.size,HFIN.out⟩,aA HBW.out HBb.out⟩;rw[HF.out] at hf;cases hf
theorem yR(pa:Option Addr)(pn pc:Nat)(ba:Option Addr)(bn bc:Nat)(bs:List gS)(w:World)(h:dU w ba bn bs):
  Calls Tryz.prog 31 #[dX pa pn pc ba bn bc] w (nE (aG bs) w):=by
 by_cases hf:bU (aG bs)=true
 ·exact MS pa pn pc ba bn bc bs w h hf
 ·exact PJ pa pn pc ba bn bc bs w h (by simpa using hf)
end

section
open Go.RowKit Go.Shelf
attribute [local go_sem] Oper.semAt_some cT bM cC bG
theorem rT{a b:World}(h:Below a.heap.size a b)(row:Option Nat):a.grownBy b row:=⟨h.os,h.tape,h.output,h.size,fun k hk _=>h.block k hk⟩
theorem GV(w:World)(g:Nat)(cs:Array Value):w.grownBy (w.setRow g cs) (some g):=⟨rfl,rfl,rfl,by simp[World.setRow],fun k _ hne=>setRow_other w g k cs (fun e=>hne (by rw[e]))⟩
end
end Go.Proofs.YtblhmdhfhaencaaGreat
