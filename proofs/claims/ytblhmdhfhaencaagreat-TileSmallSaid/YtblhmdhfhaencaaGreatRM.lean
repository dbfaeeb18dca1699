/-
 The document's answer to layer 17:Fits.
-/
import Derived.Test.YtblhmdhfhaencaaGreatRC
import Derived.Test.YtblhmdhfhaencaaGreatTL
import Derived.Test.YtblhmdhfhaencaaGreatTR
import Derived.Test.YtblhmdhfhaencaaGreatBR
import Derived.Test.YtblhmdhfhaencaaGreatTF
namespace Go.Proofs.YtblhmdhfhaencaaGreat
set_option linter.unusedSimpArgs false
set_option linter.unusedVariables false
set_option linter.unusedSectionVars false
set_option maxRecDepth 100000
set_option maxHeartbeats 40000000
section
open Go.RowKit
attribute [local go_sem] Oper.semAt_some cT bM cC bG
def IG(n:Nat)(t:aT):Prop:=eH t=true∧∀x∈toD t,1≤x∧x<n
theorem EU(ts:List aT):fS ts=true↔(1≤ts.length∧ts.length≤200)∧∀k,k<ts.length→IG ts.length (ts.getD k fP):=by
 rw[cY]
 constructor
 ·rintro⟨h1,h2⟩;exact⟨h1,fun k hk=>h2 _ (by rw[aBT,aBU hk];exact aBZ _)⟩
 ·rintro⟨h1,h2⟩;refine⟨h1,fun t ht=>?_⟩;obtain⟨k,hk,e⟩:=List.mem_iff_getElem.1 ht;have:=h2 k hk;rw[aBT,aBU hk,e] at this;exact this
theorem FV{ts:List aT}(h:fS ts=false):bU ts=false:=by rw[bU,h];rfl
theorem XC{ts:List aT}{k:Nat}(hk:k<ts.length)(h:¬IG ts.length (ts.getD k fP)):bU ts=false:=FV (by
 rw[Bool.eq_false_iff]
 intro hg
 exact h (((EU ts).1 hg).2 k hk))
theorem KS(f:Nat→Bool):∀n,fZ f n=n↔∀k,k<n→f k=true
 |0=>by simp[fZ]
 |n+1=>by
  have ih:=KS f n;have hl:=RD f n;rw[xL];cases h:f n with
  |true=>
   simp only[if_true,Nat.add_right_cancel_iff];rw[ih];constructor
   ·intro h1 k hk;by_cases e:k=n
    ·rw[e];exact h
    ·exact h1 k (by omega)
   ·intro h1 k hk;exact h1 k (by omega)
  |false=>
   simp only[Bool.false_eq_true,if_false,Nat.add_zero];constructor
   ·intro e;omega
   ·intro h1;rw[h1 n (by omega)] at h;cases h
theorem XL(f:Nat→Bool)(n:Nat)(h:∀k,f k=true→k<n):∀m,n≤m→fZ f m=fZ f n:=by
 intro m
 induction m with
 |zero=>intro hm;rw[show n=0 by omega]
 |succ m ih=>
  intro hm;by_cases e:n=m+1
  ·rw[e]
  ·rw[xL,ih (by omega)];cases hf:f m with
   |true=>have:=h m hf;omega
   |false=>rfl
theorem OY{ts:List aT}(hg:fS ts=true):bU ts=((fZ (fun k=>if k=0 then true else bL (nx ts) (aL ts.length) 0 k) 200:Int)==(ts.length:Int)):=by
 have hl:=((cY ts).1 hg).1
 rw[bU,hg,Bool.true_and,Bool.eq_iff_iff]
 rw[XL _ ts.length (fun k hk=>by
  by_cases e:k=0
  ·omega
  ·rw[if_neg e,fG (eJ hl.2)] at hk;have:=hk.2.inn
   simpa[aL] using this) 200 hl.2]
 simp only[List.all_eq_true,List.mem_range,Bool.or_eq_true,beq_iff_eq]
 have h:=KS (fun k=>if k=0 then true else bL (nx ts) (aL ts.length) 0 k) ts.length
 constructor
 ·intro h1;have:=h.2 fun k hk=>by
   by_cases e:k=0
   ·rw[if_pos e]
   ·rw[if_neg e];exact(h1 k hk).resolve_left e
  omega
 ·intro h1 k hk;by_cases e:k=0
  ·exact .inl e
  ·have:=h.1 (by omega) k hk;rw[if_neg e] at this;exact .inr this
theorem kX(pa:Option Addr)(pn pc:Nat)(ba:Option Addr)(bn bc:Nat)(bs:List gS)(w:World)(h:dU w ba bn bs):
  Calls Tryz.prog 41 #[dX pa pn pc ba bn bc] w fun e w'=>e=.returned (.bool (bU (aG bs)))∧Below w.heap.size w w':=by
 have hbl:(aG bs).length=bn:=by rw[dD];exact h.1.1
 have H:=aBO h
 clear h
 go_enter Tryz.func41,Tryz.ntmps41
 go_upto_region 1 with (fail)
 obtain⟨W,hW⟩:∃W,W=w.alloc (bO pa pn pc ba bn bc):=⟨_,rfl⟩
 rw[←hW]
 have hk0:W.heap[w.heap.size]? =some (bO pa pn pc ba bn bc):=by rw[hW];exact aBS _ _
 have hB:Below w.heap.size w W:=by rw[hW];exact aD _ _
 have k1:W.cell? ⟨w.heap.size,1,none⟩=some (.slice ba bn bc):=by rw[aBP _ _ _ _ _ _ hk0];rfl
 have HK:=aBO hk0
 have HB:=aBO hB
 clear hW hk0 hB
 by_cases hn0:bn<1
 ·have d0:(bn:Int)<1:=by omega
  have HE:Hid (bU (aG bs)=false):=FV (by rw[Bool.eq_false_iff];intro hg;have:=((cY _).1 hg).1;omega);go_wp2
  go_ret
  exact⟨lM HE.out.symm,HB.out⟩
 ·have d0:¬(bn:Int)<1:=by omega
  by_cases hn1:200<bn
  ·have d1:(200:Int)<(bn:Int):=by omega
   have HE:Hid (bU (aG bs)=false):=FV (by rw[Bool.eq_false_iff];intro hg;have:=((cY _).1 hg).1;omega);go_wp2
   go_ret
   exact⟨lM HE.out.symm,HB.out⟩
  ·have d1:¬(200:Int)<(bn:Int):=by omega
   go_wp2;clear k1
   go_loopw [3,4,5] (fun i _ _ wr=>∃k:Nat,k≤bn∧i=.int .i64 k∧Hid (∀j,j<k→IG bn ((aG bs).getD j fP))∧Hid (Below W.heap.size W wr)) (fun i _ _ _=>bn-(intOf i).toNat)
   case atStart=>exact⟨0,by omega,rfl,fun j hj=>absurd hj (by omega),aBQ _ _⟩
   case round=>
    obtain⟨k,hk,rfl,HR,HBr⟩:=hrel;have HKr:=aBO (aB HBr.out HK.out);have kf:=HKr.out;have k1:wr.cell? ⟨w.heap.size,1,none⟩=some (.slice ba bn bc):=by rw[aBP _ _ _ _ _ _ kf];rfl
    clear kf;by_cases hlt:k<bn
    ·have hlt':(k:Int)<(bn:Int):=by omega
     obtain⟨x,b0,o0,hx,htm,hbe,_,c1,c2,c3,c4⟩:=(H.out.ext (aA HB.out HBr.out)).cells hlt;have hxt:=FP _ _ _ hx;obtain⟨t,ht⟩:∃t,t=x.t:=⟨_,rfl⟩
     rw[←ht] at hxt htm c1 c2 c3 c4;have HXT:=aBO hxt;have HTM:=aBO htm;have C1:=aBO c1;have C2:=aBO c2;have C3:=aBO c3;have C4:=aBO c4;have HBE:=aBO hbe;clear hx ht hxt htm c1 c2 c3 c4 hbe;have HNO:Hid (¬IG bn t→bU (aG bs)=false):=fun hno=>by
      refine XC (k:=k) (by omega) ?_;rw[HXT.out,hbl];exact hno
     cases hTB:eH t with
     |false=>
      have HE:Hid (bU (aG bs)=false):=HNO.out fun h=>by have h1:=h.1;rw[hTB] at h1;cases h1
      have HTB:=aBO hTB;clear hTB
      go_wp2_with (first
       |(refine wpList_load_row (o:=⟨some 24,.load 25 _,_,_,_,_⟩) rfl 25 _ rfl w.heap.size rfl 25 _ (0,0) _ HKr.out Tryz.underlying25 rfl aS ?_)
       |(go_at_call 96
         refine(rG pa pn pc ba bn bc bs k wr (H.out.ext (aA HB.out HBr.out)) hlt).mono ?_;rintro e w1 ⟨v,rfl,ho,hb⟩;have hbe:=HBE.out;subst hbe;have d1':=aH hb C1.out;have d2':=aH hb C2.out;have d3':=aH hb C3.out;have d4':=aH hb C4.out;have kf1:=aB hb HKr.out;have k11:w1.cell? ⟨w.heap.size,1,none⟩=some (.slice (some ⟨b0,o0,none⟩) bn bc):=(by rw[aBP _ _ _ _ _ _ kf1];rfl)
         have HB1:=aBO (aA HB.out (aA HBr.out hb))
         clear ho hb k1 kf1)
       |(go_at_call 97
         refine(kH t _).mono ?_;rintro e w2 ⟨rfl,hb⟩;rw[HTB.out];have HB2:=aBO (aA HB1.out hb)
         clear hb))
      go_ret
      exact⟨lM HE.out.symm,HB2.out⟩
     |true=>
      have HTB:=aBO hTB;clear hTB
      go_wp2_with (first
       |(refine wpList_load_row (o:=⟨some 24,.load 25 _,_,_,_,_⟩) rfl 25 _ rfl w.heap.size rfl 25 _ (0,0) _ HKr.out Tryz.underlying25 rfl aS ?_)
       |(go_at_call 96
         refine(rG pa pn pc ba bn bc bs k wr (H.out.ext (aA HB.out HBr.out)) hlt).mono ?_;rintro e w1 ⟨v,rfl,ho,hb⟩;rw[HXT.out] at ho;obtain⟨va,vc,rfl⟩:=ho.form;have HNX:=aBO (ho.ints.ext (aBQ _ _));have hbe:=HBE.out;subst hbe;have d1':=aH hb C1.out;have d2':=aH hb C2.out;have d3':=aH hb C3.out;have d4':=aH hb C4.out;have kf1:=aB hb HKr.out;have k11:w1.cell? ⟨w.heap.size,1,none⟩=some (.slice (some ⟨b0,o0,none⟩) bn bc):=(by rw[aBP _ _ _ _ _ _ kf1];rfl)
         have HB1:=aBO (aA HBr.out hb)
         clear ho hb k1 kf1)
       |(go_at_call 97
         refine(kH t _).mono ?_;rintro e w2 ⟨rfl,hb⟩;rw[HTB.out];have HNX2:=aBO (HNX.out.ext hb);have HB2:=aBO (aA HB1.out hb);have kf2:=aB HB2.out HK.out;have k12:w2.cell? ⟨w.heap.size,1,none⟩=some (.slice (some ⟨b0,o0,none⟩) bn bc):=(by rw[aBP _ _ _ _ _ _ kf2];rfl)
         clear hb d1' d2' d3' d4' k11 kf2))
      obtain⟨wq,rfl⟩:∃wq:World,wq=wr:=⟨_,rfl⟩
      have hl2:(toD t).length≤2:=sG t
      go_loopw [5] (fun j wi=>∃j' q:Nat,j=.int .i64 (j':Int)∧j'≤(toD t).length∧Hid (∀q,q<j'→1≤(toD t).getD q 0∧(toD t).getD q 0<bn)∧wi=w2.drewN q) (fun j _=>(toD t).length-(intOf j).toNat)
      case atStart=>exact⟨0,0,rfl,by omega,fun q hq=>absurd hq (by omega),rfl⟩
      case round=>
       obtain⟨j',q,rfl,hj,HRj,rfl⟩:=hrel;by_cases hjl:j'<(toD t).length
       ·obtain⟨b3,o3,rfl,hcy,_⟩:=HNX2.out.2.2 j' hjl;have hmem:(toD t).getD j' 0∈toD t:=by rw[aBT,aBU hjl];exact aBZ _
        have HM:=aBO hmem;have hjl':(j':Int)<((toD t).length:Int):=by omega
        have HRj2:Hid (1≤(toD t).getD j' 0∧(toD t).getD j' 0<bn→∀q,q<j'+1→1≤(toD t).getD q 0∧(toD t).getD q 0<bn):=fun h q hq=>by
         by_cases e:q=j'
         ·subst e;exact h
         ·exact HRj.out q (by omega)
        clear hmem;generalize (toD t).getD j' 0=y at *;by_cases hy1:y<1
        ·have HE:Hid (bU (aG bs)=false):=HNO.out fun h=>by have:=h.2 y HM.out;omega
         go_wp2
         go_quiet (fail)
         go_wp2
         go_ret
         exact⟨lM HE.out.symm,bZ (bZ (aA HB.out HB2.out) _) _⟩
        ·by_cases hy2:(bn:Int)≤y
         ·have HE:Hid (bU (aG bs)=false):=HNO.out fun h=>by have:=h.2 y HM.out;omega
          go_wp2
          go_quiet (fail)
          go_wp2
          go_ret
          exact⟨lM HE.out.symm,bZ (bZ (aA HB.out HB2.out) _) _⟩
         ·go_wp2
          go_quiet (fail)
          go_wp2
          go_roundw
          case rel=>exact⟨j'+1,_,by go_num,by omega,HRj2.out (by omega),rfl⟩
          case measure=>simp[intOf];omega
       ·obtain rfl:j'=(toD t).length:=by omega
        have HGT:Hid (∀j,j<k+1→IG bn ((aG bs).getD j fP)):=fun j hj=>by
         by_cases e:j=k
         ·subst e;rw[HXT.out];refine⟨HTB.out,fun x hx=>?_⟩;obtain⟨q,hq,e⟩:=List.mem_iff_getElem.1 hx;have:=HRj.out q hq;rw[aBT,aBU hq,e] at this;exact this
         ·exact HR.out j (by omega)
        go_wp2
        go_roundw
        case rel=>exact⟨k+1,by omega,by go_num,HGT,bZ HB2.out _⟩
        case measure=>simp[intOf];omega
    ·obtain rfl:k=bn:=by omega
     have HG:Hid (fS (aG bs)=true):=(EU _).2 ⟨by omega,fun j hj=>by rw[hbl];exact HR.out j (by omega)⟩;obtain⟨bn,rfl⟩:∃b,b=k:=⟨_,rfl⟩
     go_upto_region 14 with (fail)
     refine dL 5 [some 56,some 57,some 58,some 59,some 6] (by kernel_rfl) (by kernel_rfl) (dV [.val (dX pa pn pc ba bn bc),.val (dX pa pn pc ba bn bc),.val (.agg (aQ (aL bn))),.val (.agg (aQ (bL (nx (aG bs)) (aL bn) 0))),.new (bY fun _=>false)]) (dN ?_) ?_ ?_
     ·intro k hk;simp only[List.mem_cons,List.not_mem_nil,or_false] at hk;rcases hk with rfl|rfl|rfl|rfl|rfl
      ·exact trivial
      ·exact trivial
      ·exact trivial
      ·exact trivial
      ·exact trivial
     ·intro i hi ν lo hi' w1 K hB hD hK;have hcase:i=0∨i=1∨i=2∨i=3∨i=4:=by omega
      clear hi;rcases hcase with rfl|rfl|rfl|rfl|rfl
      ·clear hD;refine aC rfl rfl ?_;simp only[zA,zB,zC,zD,zE,zF,zJ,zK,zG,zH,zI] at hK⊢;refine wp_load_row 25 _ rfl w.heap.size rfl 25 _ (0,0) _ (aB hB HKr.out) Tryz.underlying25 rfl aS ?_;exact hK _ _ (aBQ _ _) rfl
      ·clear hD;refine aC rfl rfl ?_;simp only[zA,zB,zC,zD,zE,zF,zJ,zK,zG,zH,zI] at hK⊢;refine wp_load_row 25 _ rfl w.heap.size rfl 25 _ (0,0) _ (aB hB HKr.out) Tryz.underlying25 rfl aS ?_;exact hK _ _ (aBQ _ _) rfl
      ·have e1:=hD 1 (by kernel_rfl)
       replace e1:ν 1=(dX pa pn pc ba bn bc):=e1
       clear hD;refine aC rfl rfl ?_;simp only[zA,zB,zC,zD,zE,zF,zJ,zK,zG,zH,zI,e1] at hK⊢;go_simp;refine(oV pa pn pc ba bn bc (by omega) w1).mono ?_;rintro e w3 ⟨rfl,hb3⟩;exact hK _ _ hb3 rfl
      ·have e0:=hD 0 (by kernel_rfl)
       replace e0:ν 0=(dX pa pn pc ba bn bc):=e0
       have e2:=hD 2 (by kernel_rfl)
       replace e2:ν 2=(.agg (aQ (aL bn))):=e2
       clear hD;refine aC rfl rfl ?_;simp only[zA,zB,zC,zD,zE,zF,zJ,zK,zG,zH,zI,e0,e2] at hK⊢;go_simp;refine(gY pa pn pc ba bn bc bs 0 (aL bn) w1 (H.out.ext (aA HB.out (aA HBr.out hB))) HG.out (by omega) (eJ (by omega)) (fun _=>by omega)).mono ?_;rintro e w3 ⟨rfl,hb3⟩;exact hK _ _ hb3 rfl
      ·clear hD;refine aC rfl rfl ?_;simp only[zA,zB,zC,zD,zE,zF,zJ,zK,zG,zH,zI] at hK⊢;go_simp;refine hK _ _ (aD _ _) ⟨rfl,by simp,?_⟩;rw[aBS,gQ]
     ·intro ν lo hi w1 hB hS hI hD;have e0:ν 0=(dX pa pn pc ba bn bc):=hS 0 (by omega);have e1:ν 1=(dX pa pn pc ba bn bc):=hS 1 (by omega);have e2:ν 2=(.agg (aQ (aL bn))):=hS 2 (by omega);have e3:ν 3=(.agg (aQ (bL (nx (aG bs)) (aL bn) 0))):=hS 3 (by omega);obtain⟨e4,l4,h4⟩:=hS 4 (by omega);clear hS;simp only[List.drop_succ_cons,List.drop_zero,zA,zB,zC,zD,zE,zF,zJ,zK,zG,zH,zI,e0,e1,e2,e3,e4];have i4:=hI 4 (by omega);have HBw:Hid (Below W.heap.size W w1):=aA HBr.out hB;have hk1:=aB hB HKr.out;have hwl:=aN HKr.out;have hsw:=HBr.out.size;have hkl:=aN HK.out;generalize lo 4=p6 at *;have H4:=aBO h4;have HK1:=aBO hk1;clear hI hD hB e0 e1 e2 e3 e4 h4 hk1
      go_wp2_with (
       (refine wpList_store_row rfl 107 _ _ rfl p6 (aQ (bL (nx (aG bs)) (aL bn) 0)) rfl rfl 107 _ H4.out (by rw[aF];exact aV) rfl (dE _) ?_
        go_loud (
         have h5:(w1.setRow p6 (aQ (bL (nx (aG bs)) (aL bn) 0))).heap[p6]? =some (bY (bL (nx (aG bs)) (aL bn) 0)):=setRow_heap _ _ _ _ _ _ H4.out;have hcz:=cX h5 0 (by omega);have hfz:=gC h5 0;have H5:=aBO h5;have HB5:Hid (Below W.heap.size W (w1.setRow p6 (aQ (bL (nx (aG bs)) (aL bn) 0)))):=below_setRow HBw.out (by omega) _;have HK5:Hid ((w1.setRow p6 (aQ (bL (nx (aG bs)) (aL bn) 0))).heap[w.heap.size]? =some (bO pa pn pc ba bn bc)):=(setRow_other _ _ _ _ (by omega)).trans HK1.out;generalize w1.setRow p6 (aQ (bL (nx (aG bs)) (aL bn) 0))=W5 at *;generalize bL (nx (aG bs)) (aL bn) 0 0=z0 at*
         clear h5)))
      have HS6:=aBO (kC (h:=fun k=>if k=0 then true else bL (nx (aG bs)) (aL bn) 0 k) (b:=true) H5.out (by omega) rfl);have HB6:Hid (Below W.heap.size W (W5.setCell ⟨p6,0,none⟩ (.bool true))):=HB5.out.setCell (by simp;omega) _;have HK6:Hid ((W5.setCell ⟨p6,0,none⟩ (.bool true)).heap[w.heap.size]? =some (bO pa pn pc ba bn bc)):=aK (bA _ _ _ _) HK5.out (by simp;omega);generalize W5.setCell ⟨p6,0,none⟩ (.bool true)=W6 at *;have hk6:=HK6.out;have q1:∀n':aY W6,n'.val.cell? ⟨w.heap.size,1,none⟩=some (.slice ba bn bc):=fun n'=>aH n'.ext (by rw[aBP _ _ _ _ _ _ hk6];rfl);have qs:∀w',(∃n:aY W6,w'=n.val)→w'.heap[p6]? =some (bY fun k=>if k=0 then true else bL (nx (aG bs)) (aL bn) 0 k):=fun w' ⟨n,e⟩=>by rw[e];exact aB n.ext HS6.out
      have HMANY:Hid (∀n':aY W6,Calls Tryz.prog 99 #[.agg (aQ fun k=>if k=0 then true else bL (nx (aG bs)) (aL bn) 0 k)] n'.val fun e w''=>e=.returned (.int .i64 (fZ (fun k=>if k=0 then true else bL (nx (aG bs)) (aL bn) 0 k) 200:Nat))∧∃m:aY W6,w''=m.val):=fun n'=>cG (mN _ _);have HE:Hid (bU (aG bs)=((fZ (fun k=>if k=0 then true else bL (nx (aG bs)) (aL bn) 0 k) 200:Int)==(bn:Int))):=by rw[Hid];subst hbl;exact OY HG.out
      have HNE:Nonempty (aY W6):=⟨⟨W6,aBQ _ _⟩⟩
      generalize (fun k=>if k=0 then true else bL (nx (aG bs)) (aL bn) 0 k)=sf at *;clear hk6 hcz hfz H5 HB5 HK5 HS6 HK6;refine bB (by kernel_rfl) (by kernel_rfl) ?_;refine aW (o:=⟨some 61,.load 107 _,_,_,_,_⟩) (by rfl) 107 _ rfl p6 rfl 107 _ (0,0) _ qs Tryz.underlying107 rfl (by rw[aF];exact aV) ?_;simp only[zJ,zG,zH,zI]
      repeat (first
       |go_big_quiet_skip
       |go_big_quiet_step (first
        |(go_at_call 99;exact HMANY.out _)))
      refine wpQuiet_nil ?_;intro _ hw';obtain⟨n',rfl⟩:=hw';have HB8:Hid (Below w.heap.size w n'.val):=aA HB.out (HB6.out.trans (n'.ext.mono HB6.out.size));generalize n'.val=W8 at *;clear q1 qs HMANY;go_wp2
      go_ret
      exact⟨lM HE.out.symm,HB8.out⟩
end

section
open Go.RowKit
theorem yB(a:Option Addr)(n c:Nat)(xs:List Int)(w:World)(h:dY w a n xs):Calls Tryz.prog 108 #[.slice a n c] w (lK w (ofS xs)):=by
 have HL:=aBO h.1
 have hn:=h.2.1
 have H:=aBO h
 clear h
 go_enter Tryz.func108,Tryz.ntmps108
 go_wp2
 go_loopw [4] (fun i wr=>∃(k:Nat),k≤n∧i=.int .i64 k∧Hid (wr.heap[w.heap.size]? =some (bY fun _=>false))∧Hid (wr.heap[w.heap.size+1]? =some (bY (ofS (xs.take k))))∧Hid (Below w.heap.size w wr)) (fun i _=>n-(intOf i).toNat)
 case atStart=>
  refine⟨0,by omega,rfl,?_,?_,(aD _ _).alloc (by simp) _⟩
  ·rw[Hid,aBR _ _ _ (by simp),aBS,gQ]
  ·rw[Hid,aU _ _ _ (by simp),gQ];congr 3;funext j;simp[ofS]
 case round=>
  obtain⟨k,hk,rfl,HR,HS,HB⟩:=hrel;by_cases hlt:k<n
  ·obtain⟨b,o,rfl,hc,hw1,hw2⟩:=(H.out.ext HB.out).2.2 k hlt;have hkx:k<xs.length:=by rw[HL.out];exact hlt
   have hlt':(k:Int)<(n:Int):=by omega
   by_cases h0:0≤xs.getD k 0
   ·by_cases h1:xs.getD k 0<200
    ·have hx:(xs.getD k 0).toNat<200:=by omega
     have hcell:=cX HS.out _ hx;have hfr:=gC HS.out (xs.getD k 0).toNat;have HS2:=aBO (kC HS.out hx (QK xs k hkx h0 h1));have HR2:=aBO (aK (bA wr (w.heap.size+1) (xs.getD k 0).toNat (.bool true)) HR.out (by simp));have hl:=aN HS.out;generalize xs.getD k 0=x at *;generalize ofS (xs.take k) x.toNat=bb at *;go_wp2
     go_roundw
     case rel=>exact⟨k+1,by omega,by go_num,HR2,HS2,HB.out.setCell (by simp) _⟩
     case measure=>simp[intOf];omega
    ·have HS2:Hid (wr.heap[w.heap.size+1]? =some (bY (ofS (xs.take (k+1))))):=by rw[Hid,←vH xs k hkx (.inr (by omega))];exact HS.out
     generalize xs.getD k 0=x at *;go_wp2
     go_roundw
     case rel=>exact⟨k+1,by omega,by go_num,HR,HS2,HB⟩
     case measure=>simp[intOf];omega
   ·have HS2:Hid (wr.heap[w.heap.size+1]? =some (bY (ofS (xs.take (k+1))))):=by rw[Hid,←vH xs k hkx (.inl (by omega))];exact HS.out
    generalize xs.getD k 0=x at *;go_wp2
    go_roundw
    case rel=>exact⟨k+1,by omega,by go_num,HR,HS2,HB⟩
    case measure=>simp[intOf];omega
  ·obtain rfl:k=n:=by omega
   have HT:Hid (xs.take k=xs):=aCB (by rw[HL.out];omega);have HSx:Hid (wr.heap[w.heap.size+1]? =some (bY (ofS xs))):=by have:=HS.out;rwa [HT.out] at this
   go_wp2_with (first
    |(refine wpList_load_row rfl 107 _ rfl (w.heap.size+1) rfl 107 _ (0,0) _ HSx.out Tryz.underlying107 rfl (by rw[aF];exact aV) ?_)
    |(refine wpList_store_row rfl 107 _ _ rfl w.heap.size (aQ (ofS xs)) rfl rfl 107 _ HR.out (by rw[aF];exact aV) rfl (dE _) ?_))
   exact bodyPost_ret (v:=.agg (aQ (ofS xs))) (by simp[results,Tryz.results108,asAddr,Act.put,pX (setRow_heap _ _ _ _ _ _ HR.out)]) rfl ⟨rfl,below_setRow HB.out (by omega) _⟩
theorem LQ(f:Nat→Bool)(k:Nat):(List.range (k+1)).filter f=(List.range k).filter f++if f k then [k] else []:=by
 rw[List.range_succ,List.filter_append]
 cases h:f k<;>simp[h]
theorem uL(f:Nat→Bool)(w:World):Calls Tryz.prog 76 #[.agg (aQ f)] w (gV w (aO (aZ f))):=by
 have HK0:Hid ((w.alloc (bY f)).heap[w.heap.size]? =some (bY f)):=aBS _ _
 go_enter Tryz.func76,Tryz.ntmps76
 go_wp2
 go_loopw [3,4] (fun s3 i wr=>∃(k:Nat),k≤200∧i=.int .i64 k∧Hid (bN wr (w.heap.size+1) s3 (aO ((List.range k).filter f)))∧Hid (wr.heap[w.heap.size]? =some (bY f))∧Hid (Below w.heap.size w wr)) (fun _ i _=>200-(intOf i).toNat)
 case atStart=>exact⟨0,by omega,rfl,bN.nil _ _,HK0,aD _ _⟩
 case round=>
  obtain⟨k,hk,rfl,HO,HK,HB⟩:=hrel;obtain⟨va,vc,rfl⟩:=HO.out.form;have HST:=aBO (LQ f k);have hlen:(aO ((List.range k).filter f)).length≤200:=by
   have:=List.length_filter_le f (List.range k);simp[aO] at this⊢;omega
  by_cases hlt:k<200
  ·have hcell:=cX HK.out k hlt;have hl:=aN HK.out;cases hf:f k with
   |true=>
    rw[hf] at hcell HST;have HST2:Hid (aO ((List.range (k+1)).filter f)=aO ((List.range k).filter f)++ [(k:Int)]):=by rw[Hid,HST.out];simp[aO]
    clear HST hf;generalize aO ((List.range k).filter f)=xs at*
    go_wp2_with (
     (at_builtin
      refine bV rfl wr (.tmp 12) (.tmp 14) 22 3 rfl (w.heap.size+1) _ 1 8 Tryz.underlying22 lY rfl (by omega) (.slice va xs.length vc) xs.length _ [.int .i64 (k:Int)] rfl HO.out.1 wr.heap.size rfl rfl rfl (by simp[Value.oneCell']) (by simp only[maxLen];omega) (by omega) (by omega) ?_;intro g cap w2 hown2 hg2 hat2
      have HO2:Hid (bN w2 (w.heap.size+1) (.slice (some ⟨g,0,none⟩) (xs.length+1) cap) (xs++ [(k:Int)])):=(by
       refine⟨?_,fun z hz=>?_,by simp;omega⟩
       ·have e4:bC (xs++ [(k:Int)])=bC xs++ [.int .i64 (k:Int)]:=by simp[bC]
        rw[e4,List.length_append];exact hown2
       ·rcases aCA.1 hz with h|h
        ·exact HO.out.2.1 z h
        ·simp only[List.mem_singleton] at h;subst h;unfold I64
         omega)
      have HK2:=aBO (aK hg2 HK.out (fun e=>by have:=(HO.out.1.lt _ e).1;omega));have HB2:=aBO (HB.out.grown hg2 (by omega) (fun q e=>by have:=(HO.out.1.lt q e).1;omega))
      clear hown2 hg2 hat2))
    go_roundw
    case rel=>exact⟨k+1,by omega,by go_num,by rw[HST2.out];exact HO2,HK2,HB2⟩
    case measure=>simp[intOf];omega
   |false=>
    rw[hf] at hcell HST;have HST2:Hid (aO ((List.range (k+1)).filter f)=aO ((List.range k).filter f)):=by rw[Hid,HST.out];simp
    clear HST hf;go_wp2
    go_roundw
    case rel=>exact⟨k+1,by omega,by go_num,by rw[HST2.out];exact HO,HK,HB⟩
    case measure=>simp[intOf];omega
  ·obtain rfl:k=200:=by omega
   go_wp2
   go_ret
   exact⟨_,rfl,HO.out.mono (by omega),HB.out⟩
theorem kQ(a:Option Addr)(n c:Nat)(ls:List bK)(w:World)(h:cM w a n ls):
  Calls Tryz.prog 103 #[.slice a n c] w fun e w'=>e=.returned (.bool (cD (aJ ls)))∧w=w':=by
 have hn:=h.1.2.1
 have HL:=aBO h.1.1
 have H:=aBO h
 clear h
 go_enter Tryz.func103,Tryz.ntmps103
 go_wp2
 go_loopw [3] (fun i wr=>∃(k:Nat),k≤n∧i=.int .i64 k∧Hid (∀j,j<k→-1≤fJ (aJ ls) j∧fJ (aJ ls) j<j)∧Hid (wr=w)) (fun i _=>n-(intOf i).toNat)
 case atStart=>exact⟨0,by omega,rfl,fun j hj=>absurd hj (by omega),rfl⟩
 case round=>
  obtain⟨k,hk,rfl,HR,HW⟩:=hrel;obtain rfl:wr=w:=HW.out;by_cases hlt:k<n
  ·obtain⟨t,b,o,hlk,hok,rfl,c0,c1,c2⟩:=H.out.cells hlt;obtain⟨_,_,_,hp1,hp2⟩:=hok;have htd:=iM ls k t hlk;have HTD:Hid (fJ (aJ ls) k=t.d.parent):=by rw[Hid,fJ,htd]
   clear hlk htd;have hlt':(k:Int)<(n:Int):=by omega
   by_cases hg1:t.d.parent< -1
   ·have HE:Hid (cD (aJ ls)=false):=by
     rw[Hid,Bool.eq_false_iff];intro h;have:=(dH _).1 h k (by rw[cQ,HL.out];exact hlt);rw[HTD.out] at this;omega
    go_wp2
    go_ret
    exact⟨by rw[HE.out];rfl,rfl⟩
   ·by_cases hg2:t.d.parent<k
    ·have HR2:Hid (∀j,j<k+1→-1≤fJ (aJ ls) j∧fJ (aJ ls) j<j):=fun j hj=>by
      by_cases e:j=k
      ·subst e;rw[HTD.out];omega
      ·exact HR.out j (by omega)
     go_wp2
     go_roundw
     case rel=>exact⟨k+1,by omega,by go_num,HR2,trivial⟩
     case measure=>simp[intOf];omega
    ·have HE:Hid (cD (aJ ls)=false):=by
      rw[Hid,Bool.eq_false_iff];intro h;have:=(dH _).1 h k (by rw[cQ,HL.out];exact hlt);rw[HTD.out] at this;omega
     go_wp2
     go_ret
     exact⟨by rw[HE.out];rfl,rfl⟩
  ·obtain rfl:k=n:=by omega
   have HE:Hid (cD (aJ ls)=true):=by
    rw[Hid,dH,cQ,HL.out];exact HR.out
   go_wp2
   go_ret
   exact⟨by rw[HE.out];rfl,rfl⟩
theorem YT(l:List Int)(n:Int)(k:Nat)(h:k<l.length)(he:l.getD k 0=n):l.contains n=true:=by
 rw[List.contains_iff_mem,←he,aBT,aBU h]
 exact aBZ _
theorem aAF(l:List Int)(n:Int)(h:∀k,k<l.length→l.getD k 0≠n):l.contains n=false:=by
 rw[Bool.eq_false_iff]
 intro hc
 rw[List.contains_iff_mem] at hc
 obtain⟨j,hj,e⟩:=List.getElem_of_mem hc
 have:=h j hj
 rw[aBT,aBU hj,Option.getD_some] at this
 exact this e
theorem SZ(a:Option Addr)(n c:Nat)(xs:List Int)(x:Int)(w:World)(h:dY w a n xs):
  Calls Tryz.prog 165 #[.slice a n c,.int .i64 x] w fun e w'=>e=.returned (.bool (xs.contains x))∧w=w':=by
 obtain⟨hl,hn,hc⟩:=h
 have HL:=aBO hl
 have HC:=aBO hc
 clear hl hc
 go_enter Tryz.func165,Tryz.ntmps165
 go_wp2
 go_loopw [5] (fun i wr=>∃(k:Nat),k≤n∧i=.int .i64 k∧wr=w∧Hid (∀j,j<k→xs.getD j 0≠x)) (fun i _=>n-(intOf i).toNat)
 case atStart=>exact⟨0,by omega,rfl,rfl,fun j hj=>absurd hj (by omega)⟩
 case round=>
  obtain⟨k,hk,rfl,rfl,HR⟩:=hrel;by_cases hlt:k<n
  ·obtain⟨b,o,rfl,hcell,_⟩:=HC.out k hlt;by_cases he:xs.getD k 0=x
   ·have HE:Hid (xs.contains x=true):=YT xs x k (by rw[HL.out];exact hlt) he;rw[he] at hcell;clear he;go_wp2
    go_ret
    exact⟨by rw[HE.out];rfl,rfl⟩
   ·have HE:Hid (∀j,j<k+1→xs.getD j 0≠x):=fun j hj=>by
     by_cases hjk:j=k
     ·subst hjk;exact he
     ·exact HR.out j (by omega)
    generalize xs.getD k 0=y at *;go_wp2
    go_roundw
    case rel=>exact⟨k+1,by omega,by go_num,trivial,HE⟩
    case measure=>simp[intOf];omega
  ·have HE:Hid (xs.contains x=false):=aAF xs x fun j h1=>HR.out j (by rw[HL.out] at h1;omega);go_wp2
   go_ret
   exact⟨by rw[HE.out];rfl,rfl⟩
end

section
def fQ(l:List bI)(k m:Nat):List Nat:=(List.range m).filter fun i=>decide (k<i)&&(fJ l i==(k:Int))
def FH(l:List bI):Nat→Nat→List Nat
 |0,k=> [k]
 |f+1,k=>k :: (fQ l k l.length).flatMap (FH l f)
def nX(l:List bI)(f k:Nat):List Int:=(FH l f k).flatMap (eW l)
theorem MQ(l:List bI)(k m:Nat):fQ l k (m+1)=fQ l k m++if (decide (k<m)&&(fJ l m==(k:Int)))=true then [m] else []:=by
 rw[fQ,fQ,List.range_succ,List.filter_append]
 cases h:(decide (k<m)&&(fJ l m==(k:Int)))<;>simp[h]
theorem MP(l:List bI)(k:Nat):fQ l k (k+1)= []:=by
 rw[fQ,List.filter_eq_nil_iff]
 intro i hi
 rw[List.mem_range] at hi
 simp;omega
theorem ED(l:List bI)(f k:Nat):nX l (f+1) k=eW l k++(fQ l k l.length).flatMap (nX l f):=by
 rw[nX,FH,List.flatMap_cons]
 congr 1
 simp only[List.flatMap_assoc]
 rfl
theorem oH(l:List bI)(k m i:Nat):i∈fQ l k m↔i<m∧k<i∧fJ l i=(k:Int):=by
 simp[fQ]
section
variable {l:List bI} (hp:cD l=true)
include hp
theorem zN:∀(f k n:Nat),k<l.length→l.length-k≤f→(n∈FH l f k↔n<l.length∧fX l k n=true):=by
 intro f
 induction f with
 |zero=>intro k n hk hf;omega
 |succ f ih=>
  intro k n hk hf;rw[FH,List.mem_cons,List.mem_flatMap];constructor
  ·rintro(rfl|⟨i,hi,hn⟩)
   ·exact⟨hk,jV l n⟩
   ·obtain⟨h1,h2,h3⟩:=(oH l k _ i).1 hi;obtain⟨h4,h5⟩:=(ih i n h1 (by omega)).1 hn;refine⟨h4,MI hp k i ?_ n h4 h5⟩;rw[iF hp k i h1,h3,Int.toNat_natCast,jV];simp
  ·rintro⟨h1,h2⟩;by_cases e:n=k
   ·exact .inl e
   ·right;have key:∀n,n<l.length→n≠k→fX l k n=true→∃i,i∈fQ l k l.length∧fX l i n=true:=by
     intro n
     induction n using Nat.strongRecOn with
     |_ n ihn=>
      intro hn hne hd;rw[iF hp k n hn] at hd;have hp1:=(dH l).1 hp n hn;simp only[Bool.or_eq_true,beq_iff_eq,Bool.and_eq_true,decide_eq_true_eq] at hd;obtain⟨h0,hd⟩:=hd.resolve_left hne;by_cases e:(fJ l n).toNat=k
      ·have hkn:k<n:=by omega
       exact⟨n,(oH l k _ n).2 ⟨hn,hkn,by omega⟩,jV l n⟩
      ·obtain⟨i,hi,hdi⟩:=ihn (fJ l n).toNat (by omega) (by omega) e hd;refine⟨i,hi,?_⟩;rw[iF hp i n hn,hdi,decide_eq_true h0];simp
    obtain⟨i,hi,hd⟩:=key n h1 e h2;obtain⟨h3,h4,_⟩:=(oH l k _ i).1 hi;exact⟨i,hi,(ih i n h3 (by omega)).2 ⟨h1,hd⟩⟩
theorem SO:∀(f k:Nat),k<l.length→l.length-k≤f→(FH l f k).Nodup:=by
 intro f
 induction f with
 |zero=>intro k hk hf;omega
 |succ f ih=>
  intro k hk hf;have hge:∀i,i∈fQ l k l.length→∀n,n∈FH l f i→i≤n∧n<l.length∧fX l i n=true:=fun i hi n hn=>by
   obtain⟨h1,h2,_⟩:=(oH l k _ i).1 hi;obtain⟨h3,h4⟩:=(zN hp f i n h1 (by omega)).1 hn;exact⟨pR hp i n h3 h4,h3,h4⟩
  rw[FH,List.nodup_cons];refine⟨fun hm=>?_,?_⟩
  ·obtain⟨i,hi,hn⟩:=List.mem_flatMap.1 hm;have:=(hge i hi k hn).1;have:=((oH l k _ i).1 hi).2.1;omega
  ·have hsub:∀L:List Nat,L.Pairwise (· < ·)→(∀i∈L,i∈fQ l k l.length)→(L.flatMap (FH l f)).Nodup:=by
    intro L
    induction L with
    |nil=>intro _ _;simp
    |cons i L ihL=>
     intro hs hL;obtain⟨hs1,hs2⟩:=List.pairwise_cons.1 hs;rw[List.flatMap_cons,List.nodup_append];have hi:=hL i (by simp);obtain⟨h1,h2,h3⟩:=(oH l k _ i).1 hi;refine⟨ih i h1 (by omega),ihL hs2 (fun j hj=>hL j (by simp[hj])),fun x hx y hy e=>?_⟩;subst e;obtain⟨j,hj,hy⟩:=List.mem_flatMap.1 hy;have hij:=hs1 j hj;obtain⟨g1,g2,g3⟩:=(oH l k _ j).1 (hL j (by simp[hj]));obtain⟨_,hx1,hx2⟩:=hge i hi x hx;obtain⟨_,_,hy2⟩:=hge j (hL j (by simp[hj])) x hy;have hd:=MJ hp i j (by omega) x hx1 hx2 hy2;rw[iF hp i j g1,g3] at hd;simp only[Bool.or_eq_true,beq_iff_eq,Bool.and_eq_true,decide_eq_true_eq,Int.toNat_natCast] at hd;rcases hd with hd|⟨_,hd⟩
     ·omega
     ·have:=pR hp i k hk hd;omega
   refine hsub _ ?_ (fun i hi=>hi);exact List.Pairwise.filter _ List.pairwise_lt_range
theorem WH{k:Nat}(hk:k<l.length)(f:Nat)(hf:l.length-k≤f)(x:Int):x∈nX l f k↔x∈nW l k l.length:=by
 rw[JC l k hk,nX,List.mem_flatMap]
 constructor
 ·rintro⟨n,hn,hx⟩;obtain⟨h1,h2⟩:=(zN hp f k n hk hf).1 hn;exact⟨n,h1,h2,hx⟩
 ·rintro⟨n,h1,h2,hx⟩;exact⟨n,(zN hp f k n hk hf).2 ⟨h1,h2⟩,hx⟩
end
theorem DZ{g:Nat→Nat}{x:Nat}:∀{L:List Nat},x∈L→(L.map g).sum=g x+((L.erase x).map g).sum
 |y :: L,h=>by
  by_cases e:y=x
  ·subst e;simp
  ·have h2:x∈L:=by
    rcases List.mem_cons.1 h with h|h
    ·exact absurd h.symm e
    ·exact h
   have:=DZ (g:=g) h2;rw[List.erase_cons_tail (by simpa using e)];simp only[List.map_cons,List.sum_cons];omega
theorem RP(g:Nat→Nat):∀(N:Nat) (L:List Nat),L.Nodup→(∀x∈L,x<N)→(L.map g).sum≤((List.range N).map g).sum:=by
 intro N
 induction N with
 |zero=>
  intro L _ h;cases L with
  |nil=>simp
  |cons x L=>have:=h x (by simp);omega
 |succ N ih=>
  intro L hn h;rw[List.range_succ,List.map_append,List.sum_append];simp only[List.map_cons,List.map_nil,List.sum_cons,List.sum_nil,Nat.add_zero];by_cases hm:N∈L
  ·rw[DZ hm]
   have:=ih (L.erase N) (hn.erase N) (fun x hx=>by
    have h1:=h x (List.mem_of_mem_erase hx);have h2:x≠N:=fun e=>by subst e;exact absurd hx (hn.not_mem_erase)
    omega)
   omega
  ·have:=ih L hn (fun x hx=>by
    have h1:=h x hx;have h2:x≠N:=fun e=>by subst e;exact hm hx
    omega)
   omega
theorem JU(g:Nat→List Int):∀L:List Nat,(L.flatMap g).length=(L.map fun n=>(g n).length).sum
 | []=>rfl
 |x :: L=>by simp[JU g L]
theorem IT(l:List bI):((List.range l.length).map fun n=>(eW l n).length).sum=gZ l:=by
 rw[gZ]
 congr 1
 apply List.ext_getElem?
 intro k
 simp only[List.getElem?_map]
 by_cases hk:k<l.length
 ·rw[List.getElem?_range hk,aBU hk];simp[eW,aBT,hk]
 ·rw[List.getElem?_eq_none (by simp;omega),List.getElem?_eq_none (by omega)];rfl
theorem IS{l:List bI}(hp:cD l=true){k:Nat}(hk:k<l.length)(f:Nat)(hf:l.length-k≤f):(nX l f k).length≤gZ l:=by
 rw[nX,JU,←IT]
 exact RP _ _ _ (SO hp f k hk hf) fun x hx=>((zN hp f k x hk hf).1 hx).1
theorem EE{l:List bI}(hp:cD l=true){k m:Nat}(hk:k<l.length)(hm:m≤l.length)(f:Nat)(hf:l.length-k≤f+1):(eW l k++(fQ l k m).flatMap (nX l f)).length≤gZ l:=by
 have h:=IS hp hk (f+1) hf
 rw[ED,List.length_append] at h
 rw[List.length_append]
 have e:List.range l.length=List.range m++List.range' m (l.length-m):=by
  rw[List.range_eq_range',List.range_eq_range',show l.length=m+(l.length-m) by omega,←List.range'_append];simp
 have e2:fQ l k l.length=fQ l k m++(List.range' m (l.length-m)).filter fun i=>decide (k<i)&&(fJ l i==(k:Int)):=by
  rw[fQ,fQ,e,List.filter_append]
 rw[e2,List.flatMap_append,List.length_append] at h
 omega
end

section
theorem ES(l:List bI)(b:Nat):(iC l b).length≤gZ l:=by
 rw[←IT,iC,List.length_flatMap]
 have:∀L:List Nat,(L.map fun k=>(((eW l k).filter fun x=>x==(b:Int)).map fun _=>k).length).sum≤(L.map fun n=>(eW l n).length).sum:=by
  intro L
  induction L with
  |nil=>simp
  |cons x L ih=>
   simp only[List.map_cons,List.sum_cons,List.length_map] at ih⊢;have:=List.length_filter_le (fun x=>x==(b:Int)) (eW l x);omega
 exact this _
theorem yJ(l:List bI)(k i b:Nat)(hk:k≤l.length)(hi:k=l.length→i=0):(bX l k i b).length≤gZ l:=by
 by_cases h:k<l.length
 ·obtain⟨r,hr⟩:=BS l k i b h;have:=ES l b;rw[hr,List.length_append] at this;omega
 ·have e:k=l.length:=by omega
  rw[hi e,e,jX];exact ES l b
theorem SF{l:List bI}{b:Nat}(h:(iC l b).length=1):nL l (b+1)=nL l b++aO (iC l b):=by
 have:aO (iC l b)= [(rA l b:Int)]:=by
  match e:iC l b,h with
  | [x],_=>simp[aO,rA,e]
 rw[this,nL,nL,List.range_succ,List.map_append]
 rfl
theorem vE(l:List bI)(n:Nat):(nL l n).length=n:=by simp[nL]
theorem VU{l:List bI}{n:Nat}(h:∀b,b<n→(iC l b).length=1):lU l n=true:=by
 simp only[lU,List.all_eq_true,List.mem_range,beq_iff_eq]
 exact h
def fW(ts:List aT)(s:Nat→Bool)(i k:Nat):Nat→Bool:=fun y=>s y&&(gN ts i k y).any fun x=> !s x
theorem PA(ts:List aT)(s:Nat→Bool):fW ts s 0 0=fun _=>false:=by
 funext y;simp[fW,sO]
theorem BX(ts:List aT)(s:Nat→Bool)(i k:Nat)(h:(nx ts i).length≤k):fW ts s i k=fW ts s (i+1) 0:=by
 funext y;rw[fW,fW,wY ts i k y h]
theorem XG(ts:List aT)(s:Nat→Bool)(i:Nat)(hi:s i=true):fW ts s i 0=fW ts s (i+1) 0:=by
 rw[←BX ts s i (nx ts i).length (aBV _)]
 have:∀k,k≤(nx ts i).length→fW ts s i 0=fW ts s i k:=by
  intro k
  induction k with
  |zero=>intro _;rfl
  |succ k ih=>
   intro hk;rw[ih (by omega)]
   funext y
   rw[fW,fW,pU ts i k _ (aBU (by omega)) y]
   split
   ·simp[hi]
   ·rfl
 exact this _ (aBV _)
theorem TI(ts:List aT)(s:Nat→Bool)(i k:Nat)(hk:k<(nx ts i).length)(hi:s i=false)(hs:s ((nx ts i).getD k 0)=true):(fun y=>if y=(nx ts i).getD k 0 then true else fW ts s i k y)=fW ts s i (k+1):=by
 have hg:(nx ts i)[k]? =some ((nx ts i).getD k 0):=by simp[aBT,hk]
 funext y
 rw[fW,fW,pU ts i k _ hg y]
 by_cases e:y=(nx ts i).getD k 0
 ·rw[if_pos e,if_pos e,e,hs];simp[hi]
 ·rw[if_neg e,if_neg e]
theorem PB(ts:List aT)(s:Nat→Bool)(i k:Nat)(hk:k<(nx ts i).length)(hs:s ((nx ts i).getD k 0)=false):fW ts s i k=fW ts s i (k+1):=by
 have hg:(nx ts i)[k]? =some ((nx ts i).getD k 0):=by simp[aBT,hk]
 funext y
 rw[fW,fW,pU ts i k _ hg y]
 by_cases e:y=(nx ts i).getD k 0
 ·rw[if_pos e,e,hs];simp
 ·rw[if_neg e]
theorem TJ{ts:List aT}(hg:fS ts=true)(s:Nat→Bool):aZ (fW ts s ts.length 0)=aM ts s:=by
 rw[aM,aZ,aZ,List.filter_filter]
 refine List.filter_congr fun y _=>?_
 rw[fW,vC]
 cases h:((pv ts y).any fun x=> !s x) with
 |false=>simp
 |true=>
  obtain⟨x,hx,_⟩:=List.any_eq_true.1 h;have:=lJ hg ((nJ ts y x).1 hx);simp[this.2]
section
variable {l:List bI} (hp:cD l=true)
include hp
end
end

section
open Go.RowKit
theorem bN.low{w:World}{base k:Nat}{v:Value}{xs:List Int}(h:bN w base v xs)(hk:v.ownBlock=some k):base≤k∧k<w.heap.size:=⟨(h.1.lt k hk).1,(h.1.lt k hk).2⟩
section
variable {P:Program} {Q:Exit→Act→World→Prop}
theorem kS{ops:Array Oper}{rest:List Oper}{o:Oper}{a:Act}(hgd:o.guard=none)(w0:World)(s x:Operand)(t:TypeId)(ho:o.op=.call {callee:=.builtin .append,args:=#[s,x],argTypes:=#[t,t]})
  (base:Nat) (z:Value) (bytes:Nat) (ht:P.underlying t=some (.slice 3)) (hinfo:(P.info? 3).map (fun i=>(i.zero,i.size,i.bytes))=some (some z,1,bytes)) (hzs:z.cells.size=1)
  (v:Value) (xs:List Int) (hs:a.eval s=v) (hown:bN w0 base v xs) (y:Int) (hy:I64 y) (H:Nat) (hH:w0.heap.size=H) (hx:a.eval x=.slice (some ⟨H,0,none⟩) 1 1) (hlen:xs.length≤100000000) (hb8:bytes≤16) (hbase:base≤w0.heap.size)
  (h:∀g cap w',bN w' base (.slice (some ⟨g,0,none⟩) (xs.length+1) cap) (xs++ [y])→w0.grownBy w' v.ownBlock→(some g=v.ownBlock∨g=w0.heap.size+1)→wpList P ops Q rest (a.put o.dst (.slice (some ⟨g,0,none⟩) (xs.length+1) cap)) w'):
  wpList P ops Q (o :: rest) a (w0.alloc (.cells #[.int .i64 y] 3)):=by
 subst hH
 refine bV hgd w0 s x t 3 ho base z 1 bytes ht hinfo hzs (by omega) v xs.length _ [.int .i64 y] hs hown.1 w0.heap.size rfl hx rfl (by simp[Value.oneCell']) (by simp only[maxLen];omega) (by
  have:(xs.length+1)*bytes≤(xs.length+1)*16:=Nat.mul_le_mul_left _ hb8
  omega) hbase fun g cap w' h2 h3 h4=>h g cap w' ⟨?_,fun q hq=>?_,by simp;omega⟩ h3 h4
 ·have e:bC (xs++ [y])=bC xs++ [.int .i64 y]:=by simp[bC]
  rw[e,List.length_append];exact h2
 ·rcases aCA.1 hq with hq|hq
  ·exact hown.2.1 q hq
  ·simp at hq;subst hq;exact hy
end
end

section
open Go.RowKit
def BB(ts:List aT)(l:List bI)(n:Nat)(w:World)(e:Ending)(w':World):Prop:=
 ∃v en,e=.returned (.tuple #[v,.int .i64 en])∧Below w.heap.size w w'∧(bU ts=false→v=iY∧en=2)∧(bU ts=true→lU l n=false→v=iY∧en=12)∧
  (bU ts=true→lU l n=true→en=0∧bN w' w.heap.size v (nL l n))
theorem EK(pa:Option Addr)(pn pc:Nat)(ba:Option Addr)(bn bc:Nat)(bs:List gS)(a:Option Addr)(n c:Nat)(ls:List bK)(w:World)(h:dU w ba bn bs)(ht:cM w a n ls)(hT:gZ (aJ ls)≤1000000):
  Calls Tryz.prog 38 #[dX pa pn pc ba bn bc,.slice a n c] w (BB (aG bs) (aJ ls) bn w):=by
 have hn:=ht.1.2.1
 have hbn:=h.1.2.1
 have HLN:Hid ((aJ ls).length=n):=by rw[Hid,cQ,ht.1.1]
 have HTL:Hid ((aG bs).length=bn):=by rw[Hid,dD,h.1.1]
 have H:=aBO h
 have HT:=aBO ht
 have HTOT:=aBO hT
 clear h ht hT
 go_enter Tryz.func38,Tryz.ntmps38
 go_upto_region 1 with (fail)
 obtain⟨W,hW⟩:∃W,W=w.alloc (bO pa pn pc ba bn bc):=⟨_,rfl⟩
 rw[←hW]
 have hk0:W.heap[w.heap.size]? =some (bO pa pn pc ba bn bc):=by rw[hW];exact aBS _ _
 have hB:Below w.heap.size w W:=by rw[hW];exact aD _ _
 have hWs:W.heap.size=w.heap.size+1:=by rw[hW];simp
 have HK:=aBO hk0
 have HB:=aBO hB
 clear hW hk0 hB
 cases hf:bU (aG bs) with
 |false=>
  have HF:=aBO hf;clear hf
  go_wp2_with (first
   |(refine wpList_load_row (o:=⟨some 11,.load 25 _,_,_,_,_⟩) rfl 25 _ rfl w.heap.size rfl 25 _ (0,0) _ HK.out Tryz.underlying25 rfl aS ?_)
   |(go_at_call 41
     refine(kX pa pn pc ba bn bc bs W (H.out.ext HB.out)).mono ?_;rintro e w2 ⟨rfl,hb⟩;rw[HF.out];have HB2:=aBO (aA HB.out hb)
     clear hb))
  exact bodyPost_ret (v:=.tuple #[iY,.int .i64 2]) (by simp[results,Tryz.results38,go_sem,Act.put]) rfl ⟨_,_,rfl,HB2.out,fun _=>⟨rfl,rfl⟩,(fun h=>by rw[HF.out] at h;cases h),(fun h=>by rw[HF.out] at h;cases h)⟩
 |true=>
  have HF:=aBO hf;have hbn2:bn≤200:=by rw[←HTL.out];exact((cY _).1 (kF hf)).1.2
  clear hf
  go_wp2_with (first
   |(refine wpList_load_row (o:=⟨some 11,.load 25 _,_,_,_,_⟩) rfl 25 _ rfl w.heap.size rfl 25 _ (0,0) _ HK.out Tryz.underlying25 rfl aS ?_)
   |(go_at_call 41
     refine(kX pa pn pc ba bn bc bs W (H.out.ext HB.out)).mono ?_;rintro e w2 ⟨rfl,hb⟩;rw[HF.out];have HB2:=aBO (aA HB.out hb);have HK2:=aBO (aB hb HK.out);have hW2:w.heap.size+1≤w2.heap.size:=by have:=hb.size;omega
     clear hb))
  go_loopw [6,7,8,9,10] (fun s6 s7 _ _ _ wr=>∃b:Nat,b≤bn∧s7=.int .i64 (b:Int)∧Hid (∀x,x<b→(iC (aJ ls) x).length=1)∧Hid (bN wr (w.heap.size+1) s6 (nL (aJ ls) b))∧Hid (wr.heap[w.heap.size]? =some (bO pa pn pc ba bn bc))∧Hid (Below w.heap.size w wr)∧w.heap.size+1≤wr.heap.size) (fun _ s7 _ _ _ _=>bn-(intOf s7).toNat)
  case atStart=>exact⟨0,by omega,by go_num,fun x hx=>absurd hx (by omega),bN.nil _ _,HK2,HB2,hW2⟩
  case round=>
   obtain⟨b,hb,rfl,HR,HO,HKb,HBb,hsb⟩:=hrel;clear HK HB HK2 HB2 hWs hW2;have kf:=HKb.out;have k1:wr.cell? ⟨w.heap.size,1,none⟩=some (.slice ba bn bc):=by rw[aBP _ _ _ _ _ _ kf];rfl
   clear kf;by_cases hlt:b<bn
   ·have hlt':(b:Int)<(bn:Int):=by omega
    obtain⟨oa,oc,rfl⟩:=HO.out.form;go_wp2
    go_loopw [6,8,9,10] (fun s6 s8 s9 _ wi=>∃k:Nat,k≤n∧s9=.int .i64 (k:Int)∧s8=.int .i64 ((bX (aJ ls) k 0 b).length:Nat)∧Hid (bN wi (w.heap.size+1) s6 (nL (aJ ls) b++aO (bX (aJ ls) k 0 b)))∧Hid (wi.heap[w.heap.size]? =some (bO pa pn pc ba bn bc))∧Hid (Below w.heap.size w wi)∧w.heap.size+1≤wi.heap.size) (fun _ _ s9 _ _=>n-(intOf s9).toNat)
    case atStart=>exact⟨0,by omega,by go_num,by rw[nP];go_num,by rw[nP];simpa[Hid,aO] using HO.out,HKb,HBb,hsb⟩
    case round=>
     obtain⟨k,hk,rfl,rfl,HO1,HK1,HB1,hs1⟩:=hrel;clear HO HKb HBb k1 hsb;obtain⟨X,hX⟩:∃X,X=nL (aJ ls) b++aO (bX (aJ ls) k 0 b):=⟨_,rfl⟩
     rw[←hX] at HO1;have HX:=aBO hX;clear hX;obtain⟨va,vc,rfl⟩:=HO1.out.form;have hlen:=yJ (aJ ls) k 0 b (by rw[HLN.out];exact hk) (fun _=>rfl);have hto:=HTOT.out;by_cases hkl:k<n
     ·obtain⟨t,b0,o0,hlk,hok,rfl,c0,c1,c2⟩:=(HT.out.ext HB1.out).cells hkl;have HTK:Hid (eW (aJ ls) k=t.d.blocks):=by rw[Hid,eW,iM ls k t hlk]
      have htl:t.bn=t.d.blocks.length:=hok.1.1.symm;have hkl':(k:Int)<(n:Int):=by omega
      have hbl17:=hok.1.2.1;have HLK:=aBO hlk;clear hlk hok c0 c1 c2;go_wp2
      go_loopw [6,8,10] (fun s6 s8 s10 wi=>∃i:Nat,i≤t.bn∧s10=.int .i64 (i:Int)∧s8=.int .i64 ((bX (aJ ls) k i b).length:Nat)∧Hid (bN wi (w.heap.size+1) s6 (nL (aJ ls) b++aO (bX (aJ ls) k i b)))∧Hid (wi.heap[w.heap.size]? =some (bO pa pn pc ba bn bc))∧Hid (Below w.heap.size w wi)∧w.heap.size+1≤wi.heap.size) (fun _ _ s10 _=>t.bn-(intOf s10).toNat)
      case atStart=>exact⟨0,by omega,by go_num,rfl,by rw[←HX.out];exact HO1,HK1,HB1,hs1⟩
      case round=>
       obtain⟨i,hi,rfl,rfl,HO2,HK2,HB2,hs2⟩:=hrel;clear HO1 HK1 HB1 hs1 hlen HX;obtain⟨X,hX⟩:∃X,X=nL (aJ ls) b++aO (bX (aJ ls) k i b):=⟨_,rfl⟩
       rw[←hX] at HO2;have HX:=aBO hX;have HXL:Hid (X.length=b+(bX (aJ ls) k i b).length):=by rw[Hid,hX,List.length_append,vE];simp[aO]
       clear hX;obtain⟨ua,uc,rfl⟩:=HO2.out.form;obtain⟨t',b1,o1,hlk,hok,e0,c0,c1,c2⟩:=(HT.out.ext HB2.out).cells hkl;injection e0 with e0;injection e0 with e0 e1;subst e0 e1;rw[HLK.out] at hlk;injection hlk with hlk;subst hlk;have hlen2:=yJ (aJ ls) k i b (by rw[HLN.out];omega) (fun e=>by rw[HLN.out] at e;omega);clear c0 c1;by_cases hil:i<t.bn
       ·obtain⟨b2,o2,e2,hc2,hx1,hx2⟩:=hok.1.2.2 i hil;have hil':(i:Int)<(t.bn:Int):=by omega
        have hxe:t.d.blocks[i]? =some (t.d.blocks.getD i 0):=by rw[aBT,aBU (by omega)];rfl
        have HST:=aBO (iP (aJ ls) k i (t.d.blocks.getD i 0) (by rw[HTK.out];exact hxe) b);clear hxe hok;generalize t.ba=ba2 at *;subst e2;generalize t.d.blocks.getD i 0=x at *;by_cases hxb:x=(b:Int)
        ·subst hxb;have HST2:Hid (bX (aJ ls) k (i+1) b=bX (aJ ls) k i b++ [k]):=by rw[Hid,HST.out,if_pos rfl]
         have hl5:X.length≤100000000:=by have:=HXL.out;omega
         have HX2:Hid (X++ [(k:Int)]=nL (aJ ls) b++aO (bX (aJ ls) k (i+1) b)):=by rw[Hid,HST2.out,HX.out];simp[aO]
         clear HST HX HXL;generalize bX (aJ ls) k i b=L at*
         go_wp2_with (
          (at_builtin
           go_loud (
            refine kS rfl wr (.tmp 49) (.tmp 51) 22 rfl (w.heap.size+1) _ 8 Tryz.underlying22 lY rfl (.slice ua X.length uc) X rfl HO2.out (k:Int) (by unfold I64;omega) wr.heap.size rfl rfl hl5 (by omega) (by omega) ?_;intro g cap w5 ho5 hg5 _;have HO5:=aBO ho5;have HK5:=aBO (aK hg5 HK2.out (fun e=>by have:=(HO2.out.low e).1;omega));have HB5:=aBO (HB2.out.grown hg5 HB2.out.size (fun q e=>by have:=(HO2.out.low e).1;omega));have hs5:w.heap.size+1≤w5.heap.size:=aCD hs2 hg5.size
            clear ho5 hg5)))
         go_roundw
         case rel=>exact⟨i+1,by omega,by go_num,by rw[HST2.out];simp,by rw[←HX2.out];exact HO5,HK5,HB5,hs5⟩
         case measure=>simp[intOf];omega
        ·have HST2:Hid (bX (aJ ls) k (i+1) b=bX (aJ ls) k i b):=by rw[Hid,HST.out,if_neg (fun e=>hxb e.symm)]
         have dx:(x==(b:Int))=false:=by simpa using hxb
         clear HST hxb;generalize bX (aJ ls) k i b=L at *;go_wp2
         go_roundw
         case rel=>exact⟨i+1,by omega,by go_num,by rw[HST2.out],by rw[HST2.out,←HX.out];exact HO2,HK2,HB2,hs2⟩
         case measure=>simp[intOf];omega
       ·obtain rfl:i=t.bn:=by omega
        have HNX:Hid (bX (aJ ls) k t.bn b=bX (aJ ls) (k+1) 0 b):=by rw[Hid,htl,←HTK.out];exact nQ _ _ _
        clear hok;go_wp2
        go_roundw
        case rel=>exact⟨k+1,by omega,by go_num,by rw[HNX.out],by rw[←HNX.out,←HX.out];exact HO2,HK2,HB2,hs2⟩
        case measure=>simp[intOf];omega
     ·obtain rfl:k=n:=by omega
      have HNE:Hid (bX (aJ ls) k 0 b=iC (aJ ls) b):=by rw[Hid,←HLN.out];exact jX _ _
      rw[HNE.out] at hlen HX⊢;by_cases h1:(iC (aJ ls) b).length=1
      ·have d1:((((iC (aJ ls) b).length:Nat):Int) != 1)=false:=by simp;omega
       have HR2:Hid (∀x,x<b+1→(iC (aJ ls) x).length=1):=fun x hx=>by
        by_cases e:x=b
        ·subst e;exact h1
        ·exact HR.out x (by omega)
       have HS:=aBO (SF h1);clear h1;generalize iC (aJ ls) b=L at *;go_wp2
       go_roundw
       case rel=>exact⟨b+1,by omega,by go_num,HR2,by rw[HS.out,←HX.out];exact HO1,HK1,HB1,hs1⟩
       case measure=>simp[intOf];omega
      ·have d1:((((iC (aJ ls) b).length:Nat):Int) != 1)=true:=by simp;omega
       have HE:Hid (lU (aJ ls) bn=false):=FR (aJ ls) bn b hlt h1;clear h1;generalize iC (aJ ls) b=L at *;go_wp2;exact bodyPost_ret (v:=.tuple #[iY,.int .i64 12]) (by simp[results,Tryz.results38,go_sem,Act.put]) rfl ⟨_,_,rfl,HB1.out,(fun h=>by rw[HF.out] at h;cases h),fun _ _=>⟨rfl,rfl⟩,(fun _ h=>by rw[HE.out] at h;cases h)⟩
   ·obtain rfl:b=bn:=by omega
    have HE:Hid (lU (aJ ls) b=true):=VU HR.out;obtain⟨oa,oc,rfl⟩:=HO.out.form;go_wp2;exact bodyPost_ret (v:=.tuple #[.slice oa (nL (aJ ls) b).length oc,.int .i64 0]) (by simp[results,Tryz.results38,go_sem,Act.put]) rfl ⟨_,_,rfl,HBb.out,(fun h=>by rw[HF.out] at h;cases h),(fun _ h=>by rw[HE.out] at h;cases h),fun _ _=>⟨rfl,HO.out.mono (by omega)⟩⟩
theorem pH(pa:Option Addr)(pn pc:Nat)(ba:Option Addr)(bn bc:Nat)(bs:List gS)(f:Nat→Bool)(w:World)(h:dU w ba bn bs)(hg:fS (aG bs)=true):
  Calls Tryz.prog 107 #[dX pa pn pc ba bn bc,.agg (aQ f)] w (gV w (aO (aM (aG bs) f))):=by
 have hbn:bn≤200:=by have:=((cY _).1 hg).1.2;rw[dD,h.1.1] at this;exact this
 have HTL:Hid ((aG bs).length=bn):=by rw[Hid,dD,h.1.1]
 have HX:Hid (∀k y,y∈nx (aG bs) k→y<bn):=fun k y hy=>by have:=lJ hg hy;rw[HTL.out] at this;omega
 have H:=aBO h
 have HG:=aBO hg
 clear h hg
 go_enter Tryz.func107,Tryz.ntmps107
 go_upto_region 2 with (fail)
 obtain⟨W,hW⟩:∃W,W=((w.alloc (bO pa pn pc ba bn bc)).alloc (bY f)).alloc (.cells Tryz.zeroCells107 107):=⟨_,rfl⟩
 rw[←hW]
 have ho:W.heap[w.heap.size]? =some (bO pa pn pc ba bn bc):=by rw[hW,aBR _ _ _ (by simp<;>omega),aBR _ _ _ (by simp)];exact aBS _ _
 have hi:W.heap[w.heap.size+1]? =some (bY f):=by rw[hW,aBR _ _ _ (by simp),aU _ _ _ (by simp)]
 have hr:W.heap[w.heap.size+1+1]? =some (bY (fW (aG bs) f 0 0)):=by rw[hW,aU _ _ _ (by simp),gQ,PA]
 have hB:Below w.heap.size w W:=by rw[hW];exact((aD _ _).alloc (by simp) _).alloc (by simp;omega) _
 have hWs:w.heap.size+1+1+1≤W.heap.size:=by rw[hW];simp
 have HO:=aBO ho
 have HI:=aBO hi
 have HR:=aBO hr
 have HB:=aBO hB
 clear hW ho hi hr hB
 go_wp2
 go_loopw [6,7,8] (fun s6 _ _ wr=>∃i:Nat,i≤bn∧s6=.int .i64 (i:Int)∧Hid (wr.heap[w.heap.size]? =some (bO pa pn pc ba bn bc))∧Hid (wr.heap[w.heap.size+1]? =some (bY f))∧Hid (wr.heap[w.heap.size+1+1]? =some (bY (fW (aG bs) f i 0)))∧Hid (Below w.heap.size w wr)) (fun s6 _ _ _=>bn-(intOf s6).toNat)
 case atStart=>exact⟨0,by omega,by go_num,HO,HI,HR,HB⟩
 case round=>
  obtain⟨i,hi,rfl,HO1,HI1,HR1,HB1⟩:=hrel;clear HO HI HR HB hWs;have kf:=HO1.out;have k1:wr.cell? ⟨w.heap.size,1,none⟩=some (.slice ba bn bc):=by rw[aBP _ _ _ _ _ _ kf];rfl
  clear kf;by_cases hlt:i<bn
  ·have hlt':(i:Int)<(bn:Int):=by omega
   have hsz:=aN HR1.out
   go_wp2_with (first
    |(refine wpList_load_row (o:=⟨some 16,.load 25 _,_,_,_,_⟩) rfl 25 _ rfl w.heap.size rfl 25 _ (0,0) _ HO1.out Tryz.underlying25 rfl aS ?_)
    |(go_at_call 96
      refine(rG pa pn pc ba bn bc bs i wr (H.out.ext HB1.out) hlt).mono ?_;rintro e w1 ⟨v,rfl,ho,hb⟩;rw[NF HG.out] at ho;obtain⟨va,vc,rfl⟩:=ho.form;have HNX:=aBO (ho.mono (show w.heap.size+1+1+1≤wr.heap.size from hsz));have HO2:=aBO (aB hb HO1.out);have HI2:=aBO (aB hb HI1.out);have HR2:=aBO (aB hb HR1.out);have HB2:=aBO (aA HB1.out hb)
      clear ho hb k1))
   have hnl:(aO (nx (aG bs) i)).length=(nx (aG bs) i).length:=by simp[aO]
   have hnl2:(nx (aG bs) i).length≤2:=by simp only[nx,List.length_map];exact sG _
   rw[hnl];rw[hnl] at HNX;clear hnl HO1 HI1 HR1 HB1
   go_loopw [8] (fun s8 wi=>∃k:Nat,k≤(nx (aG bs) i).length∧s8=.int .i64 (k:Int)∧(f i=true→k=0)∧Hid (bN wi (w.heap.size+1+1+1) (.slice va (nx (aG bs) i).length vc) (aO (nx (aG bs) i)))∧Hid (wi.heap[w.heap.size]? =some (bO pa pn pc ba bn bc))∧Hid (wi.heap[w.heap.size+1]? =some (bY f))∧Hid (wi.heap[w.heap.size+1+1]? =some (bY (fW (aG bs) f i k)))∧Hid (Below w.heap.size w wi)) (fun s8 _=>(nx (aG bs) i).length-(intOf s8).toNat)
   case atStart=>exact⟨0,by omega,by go_num,fun _=>rfl,HNX,HO2,HI2,HR2,HB2⟩
   case round=>
    obtain⟨k,hk,rfl,hfk,HN,HO3,HI3,HR3,HB3⟩:=hrel;clear HNX HO2 HI2 HR2 HB2;have hci:=cX HI3.out i (by omega);by_cases hkl:k<(nx (aG bs) i).length
    ·have hkl':(k:Int)<((nx (aG bs) i).length:Int):=by omega
     cases hfi:f i with
     |true=>
      obtain rfl:=hfk hfi;rw[hfi] at hci;have HE:Hid (fW (aG bs) f i 0=fW (aG bs) f (i+1) 0):=XG _ _ _ hfi;clear hfi hfk;go_wp2
      go_roundw
      case rel=>exact⟨i+1,by omega,by go_num,HO3,HI3,by rw[←HE.out];exact HR3,HB3⟩
      case measure=>simp[intOf];omega
     |false=>
      rw[hfi] at hci;have hyx:(nx (aG bs) i).getD k 0∈nx (aG bs) i:=by rw[aBT,aBU hkl];exact aBZ _
      have hyb:=HX.out i _ hyx;have hy:(nx (aG bs) i).getD k 0<200:=by omega
      obtain⟨b3,o4,rfl,hcy,_⟩:=HN.out.ints.2.2 k hkl;have hey:(aO (nx (aG bs) i)).getD k 0=(((nx (aG bs) i).getD k 0:Nat):Int):=by simp[aO,aBT,hkl]
      rw[hey] at hcy;have hcs:=cX HI3.out _ hy;have hcr:=cX HR3.out _ hy;have hfr:=gC HR3.out ((nx (aG bs) i).getD k 0);have HFI:=aBO hfi;clear hey hyx hfi hfk;cases hfy:f ((nx (aG bs) i).getD k 0) with
      |true=>
       rw[hfy] at hcs;have hgr:=bA wr (w.heap.size+1+1) ((nx (aG bs) i).getD k 0) (.bool true);have HR4:=aBO (kC (b:=true) HR3.out hy (TI (aG bs) f i k hkl HFI.out hfy));have HO4:=aBO (aK hgr HO3.out (by simp;omega));have HI4:=aBO (aK hgr HI3.out (by simp));have HB4:=aBO (HB3.out.setCell (p:=⟨w.heap.size+1+1,(nx (aG bs) i).getD k 0,none⟩) (by simp;omega) (.bool true));have HN4:=aBO (HN.out.kept hgr (.inr (by simp only[Value.ownBlock,ne_eq,Option.some.injEq];have:=(HN.out.1.lt b3 rfl).1;omega)));clear hgr hfy HN HO3 HI3 HR3 HB3;generalize (nx (aG bs) i).getD k 0=y at *;go_wp2
       go_roundw
       case rel=>exact⟨k+1,by omega,by go_num,fun h=>absurd h (by simp),HN4,HO4,HI4,HR4,HB4⟩
       case measure=>simp[intOf];omega
      |false=>
       rw[hfy] at hcs;have HR4:Hid (wr.heap[w.heap.size+1+1]? =some (bY (fW (aG bs) f i (k+1)))):=by rw[Hid,←PB (aG bs) f i k hkl hfy];exact HR3.out
       clear hfy hcr;generalize (nx (aG bs) i).getD k 0=y at *;go_wp2
       go_roundw
       case rel=>exact⟨k+1,by omega,by go_num,fun h=>absurd h (by simp),HN,HO3,HI3,HR4,HB3⟩
       case measure=>simp[intOf];omega
    ·have hk2:k=(nx (aG bs) i).length:=by omega
     have HE:Hid (fW (aG bs) f i k=fW (aG bs) f (i+1) 0):=BX _ _ _ _ (by omega);have hkl':¬(k:Int)<((nx (aG bs) i).length:Int):=by omega
     clear hfk;go_wp2
     go_roundw
     case rel=>exact⟨i+1,by omega,by go_num,HO3,HI3,by rw[←HE.out];exact HR3,HB3⟩
     case measure=>simp[intOf];omega
  ·obtain rfl:i=bn:=by omega
   have HE:Hid (aZ (fW (aG bs) f i 0)=aM (aG bs) f):=by rw[Hid,←HTL.out];exact TJ HG.out f
   have hsz:=aN HR1.out
   go_wp2_with (first
    |(refine wpList_load_row (o:=⟨some 42,.load 107 _,_,_,_,_⟩) rfl 107 _ rfl (w.heap.size+1+1) rfl 107 _ (0,0) _ HR1.out Tryz.underlying107 rfl (by rw[aF];exact aV) ?_)
    |(go_at_call 76
      refine(uL (fW (aG bs) f i 0) wr).mono ?_;rintro e w1 ⟨v,rfl,ho,hb⟩;rw[HE.out] at ho;have HL:=aBO (ho.mono (show w.heap.size≤wr.heap.size from HB1.out.size));have HB2:=aBO (aA HB1.out hb)
      clear ho hb))
   go_ret
   exact⟨_,rfl,HL.out,HB2.out⟩
end
end Go.Proofs.YtblhmdhfhaencaaGreat
