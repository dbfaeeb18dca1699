/-
 Parts of a function:two sorted runs merged in place (SymMerge),sorted stably. (Printed by gen_sym.py.)
-/
import Derived.Test.YtblhmdhfhaencaaGreatQB
import Derived.Deep.CutBlock
import Derived.Deep.DeepCutAuto
import Derived.Test.YtblhmdhfhaencaaGreatCR
import Derived.Test.YtblhmdhfhaencaaGreatTL
import Derived.Test.YtblhmdhfhaencaaGreatDF
namespace Go.Proofs.YtblhmdhfhaencaaGreat
set_option linter.unusedSimpArgs false
set_option linter.unusedVariables false
set_option linter.unusedSectionVars false
set_option maxRecDepth 100000
set_option maxHeartbeats 40000000
section
open Go.RowKit Go.Shelf
theorem KZ(af:Nat)(cb:Array Value)(cf:aI→aI→Int)(key:aI→Nat)(base g n c:Nat)(J:List aI→World→Prop)(S:uT af cb cf key base g n c J)(hn:n≤1000000)(a m b:Nat)(L:List aI)(w:World)(h:J L w)(ham:a<m)(hmb:m<b)(hbn:b≤n)(hs1:Srt aE key L a m)(hs2:Srt aE key L m b)(h1:m=a+1):
  Calls Tryz.prog 178 #[.slice (some ⟨g,0,none⟩) n c,.int .i64 (a:Int),.int .i64 (m:Int),.int .i64 (b:Int),.func (.func af) #[] cb] w fun e w'=>e=.returned (.tuple #[])∧
   ∃L',J L' w'∧Sh aE L L' a b∧Srt aE key L' a b:=by
 have H:=aBO h
 have HS:=aBO S
 have eF:=S.enter
 have HS1:=aBO hs1
 have HS2:=aBO hs2
 have hlen:=(S.parts _ _ h).len
 have zab:(a:Int)<(m:Int):=by omega
 have zmb:(m:Int)<(b:Int):=by omega
 have zbn:(b:Int)≤1000000:=by omega
 clear h S hs1 hs2
 have S:=HS
 clear HS
 have d1:((m:Int)-(a:Int)==1)=true:=by simp;omega
 go_enter Tryz.func178,Tryz.ntmps178
 go_wp2
 go_loopw [10,11,12] (fun s10 s11 _ wr=>∃i j:Nat,m≤i∧i≤j∧j≤b∧s10=.int .i64 (i:Int)∧s11=.int .i64 (j:Int)∧Hid (i=m∨kAt aE key L (i-1)≤kAt aE key L a)∧Hid (j=b∨kAt aE key L a≤kAt aE key L j)∧Hid (J L wr)) (fun s10 s11 _ _=>(intOf s11).toNat-(intOf s10).toNat)
 case atStart=>exact⟨m,b,by omega,by omega,by omega,rfl,rfl,.inl rfl,.inl rfl,H⟩
 case round=>
  obtain⟨i,j,hi1,hij,hjb,rfl,rfl,HI,HJJ,HJ⟩:=hrel;by_cases hlt:i<j
  ·have hlt':(i:Int)<(j:Int):=by omega
   obtain⟨q,hq⟩:∃q:Nat,q=(i+j)/2:=⟨_,rfl⟩
   have hmid:((i:Int)+(j:Int))/2=(q:Int):=by omega
   have hq1:i≤q:=by omega
   have hq2:q<j:=by omega
   have hqn:(q:Int)<(n:Int):=by omega
   have han:(a:Int)<(n:Int):=by omega
   have zij:(i:Int)+(j:Int)≤2000000:=by omega
   clear hq;have h0:=S.out.parts _ _ HJ.out;have hL2:=h0.len;have hp1:∀w',(∃nn:aY wr,w'=nn.val)→w'.rangeAt g (q*202) (bJ (L.getD q aE)):=fun w' ⟨nn,e⟩=>by rw[e];exact dW (h0.ext nn.ext) (by omega)
   have hp2:∀w',(∃nn:aY wr,w'=nn.val)→w'.rangeAt g (a*202) (bJ (L.getD a aE)):=fun w' ⟨nn,e⟩=>by rw[e];exact dW (h0.ext nn.ext) (by omega)
   have HCM:Hid (∀nn:aY wr,Calls Tryz.prog af (#[kN (L.getD q aE),kN (L.getD a aE)]++cb) nn.val fun e w''=>e=.returned (.int .i64 (cf (L.getD q aE) (L.getD a aE)))∧∃q:aY wr,w''=q.val):=fun nn=>cG (S.out.cmp _ _ (S.out.ext HJ.out nn.ext) _ _ (eZ (by omega)) (eZ (by omega)));have HLS:=aBO (S.out.less _ _ HJ.out _ _ (eZ (L:=L) (k:=q) (by omega)) (eZ (L:=L) (k:=a) (by omega)));obtain⟨cc,hcc⟩:∃cc,cc=cf (L.getD q aE) (L.getD a aE):=⟨_,rfl⟩
   rw[←hcc] at HCM HLS;obtain⟨xj,hxj⟩:∃xj,xj=L.getD q aE:=⟨_,rfl⟩
   obtain⟨xp,hxp⟩:∃xp,xp=L.getD a aE:=⟨_,rfl⟩
   rw[←hxj] at hp1 HCM;rw[←hxp] at hp2 HCM;clear hcc hxj hxp h0;go_wp2;refine bB (by kernel_rfl) (by kernel_rfl) ?_
   repeat (first
    |go_big_quiet_skip
    |(refine aX (o:=⟨some 44,.load 128 _,_,_,_,_⟩) (by rfl) 128 _ rfl g (q*202) rfl (bJ xj) _ hp1 Tryz.underlying128 rfl (cE _) ?_;simp only[zJ,zG,zH,zI])
    |(refine aX (o:=⟨some 48,.load 128 _,_,_,_,_⟩) (by rfl) 128 _ rfl g (a*202) rfl (bJ xp) _ hp2 Tryz.underlying128 rfl (cE _) ?_;simp only[zJ,zG,zH,zI])
    |go_big_quiet_step (first|(go_at_fn af;exact HCM.out _)))
   refine wpQuiet_nil ?_;intro _ hw';obtain⟨n',rfl⟩:=hw';have HJ1:=aBO (S.out.ext HJ.out n'.ext);generalize n'.val=W8 at *;clear hp1 hp2 HCM;by_cases hlv:cc<0
   ·have dcc:decide (cc<0)=true:=by simpa using hlv
    have HI2:Hid (q+1=m∨kAt aE key L (q+1-1)≤kAt aE key L a):=.inr (Nat.le_of_lt (HLS.out.1 hlv));clear HLS;go_wp2
    go_roundw
    case rel=>exact⟨q+1,j,by omega,by omega,hjb,by go_num,rfl,HI2,HJJ,HJ1⟩
    case measure=>simp[intOf];omega
   ·have dcc:decide (cc<0)=false:=by simpa using hlv
    have HJ2:Hid (q=b∨kAt aE key L a≤kAt aE key L q):=.inr (Nat.le_of_not_lt fun h=>hlv (HLS.out.2 h));clear HLS;go_wp2
    go_roundw
    case rel=>exact⟨i,q,hi1,hq1,by omega,rfl,rfl,HI,HJ2,HJ1⟩
    case measure=>simp[intOf];omega
  ·obtain rfl:i=j:=by omega
   have hlt':¬(i:Int)<(i:Int):=by omega
   clear hlt;go_wp2
   go_loopw [13] (fun s13 wi=>∃(k:Nat) (L2:List aI),a≤k∧k+1≤i∧s13=.int .i64 (k:Int)∧Hid (∀x,L2.getD x aE=fT (fun x=>L.getD x aE) a (a+1) (k+1) x)∧Hid (Sh aE L L2 a b)∧Hid (J L2 wi)) (fun s13 _=>i-(intOf s13).toNat)
   case atStart=>exact⟨a,L,by omega,by omega,rfl,fun x=>by rw[XO],Sh.refl _ _ _,HJ⟩
   case round=>
    obtain⟨k,L2,hk1,hk2,rfl,HRT,HSH,HJ2⟩:=hrel;by_cases hki:k+1<i
    ·have hki':(k:Int)<(i:Int)-1:=by omega
     have h9:=S.out.parts _ _ HJ2.out;have hL2:=h9.len;have HRT2:Hid (∀x,(fR aE L2 k (k+1)).getD x aE=fT (fun x=>L.getD x aE) a (a+1) (k+1+1) x):=fun x=>by
      rw[pJ aE L2 (by omega) (by omega),←aAI _ hk1,HRT.out,HRT.out,HRT.out]
     have HSH2:Hid (Sh aE L (fR aE L2 k (k+1)) a b):=HSH.out.trans (Sh.swap L2 (by omega) (by omega) (by omega));have zk1:(k:Int)+1<(n:Int):=by omega
     have zk2:(k:Int)<(n:Int):=by omega
     go_wp2;have h1:=bR.drew h9;have hr1:=dW h1 (k:=k) (by omega);have hr2:=dW h1 (k:=k+1) (by omega);have ht1:=jO h1 (k:=k) (by omega) (L2.getD (k+1) aE);have h2:=mW h1 (k:=k) (by omega) (L2.getD (k+1) aE);have ht2:=jO h2 (k:=k+1) (by omega) (L2.getD (k) aE);have h3:=mW h2 (k:=k+1) (by omega) (L2.getD (k) aE);obtain⟨w8,hw8⟩:∃w8,w8=wr.drew.setCells g ((k)*202) (bJ (L2.getD (k+1) aE)):=⟨_,rfl⟩
     rw[←hw8] at ht2 h3;obtain⟨w9,hw9⟩:∃w9,w9=w8.setCells g ((k+1)*202) (bJ (L2.getD (k) aE)):=⟨_,rfl⟩
     rw[←hw9] at h3;have HSW:Hid (bR w9 base (.slice (some ⟨g,0,none⟩) n c) (fR aE L2 (k) (k+1))):=h3;have HCW:Hid (Chg (fun k=>k=g) wr w9):=by
      rw[Hid,hw9,hw8];exact eB (S:=fun k=>k=g) rfl _ _ _ (eB (S:=fun k=>k=g) rfl _ _ _ ((Chg.refl _ _).drewN 1))
     clear h1 h2 h3;generalize L2.getD (k) aE=xp at *;generalize L2.getD (k+1) aE=xq at *;refine oU (fun _=>True) (by kernel_rfl) ?_;refine cP 0 9 (by kernel_rfl) trivial ?_;simp only[List.take_succ_cons,List.take_zero,List.drop_succ_cons,List.drop_zero]
     repeat (go_big_quiet_step (fail))
     refine wpQuiet_nil ?_;refine cP 10 3 (by kernel_rfl) trivial ?_;simp only[List.take_succ_cons,List.take_zero,List.drop_succ_cons,List.drop_zero]
     repeat (go_big_quiet_step (fail))
     refine wpQuiet_nil ?_;refine IB 9 13 (by kernel_rfl) ?_ ?_
     ·refine aC rfl rfl ?_;refine wp_load_mid 128 _ rfl g ((k+1)*202) rfl (bJ xq) _ hr2 Tryz.underlying128 rfl (cE _) ?_;refine⟨Or.inr trivial,?_⟩;simp only[zJ,zG,zH,zI];refine eQ 13 (by kernel_rfl) ?_;refine aC rfl rfl ?_;refine wp_load_mid 128 _ rfl g ((k)*202) rfl (bJ xp) _ hr1 Tryz.underlying128 rfl (cE _) ?_;refine⟨Or.inr trivial,?_⟩;simp only[zJ,zG,zH,zI];refine cP 14 1 (by kernel_rfl) trivial ?_;simp only[List.take_succ_cons,List.take_zero,List.drop_succ_cons,List.drop_zero]
      repeat (go_big_quiet_step (fail))
      refine wpQuiet_nil ?_;refine eQ 15 (by kernel_rfl) ?_;refine aC rfl rfl ?_;refine wp_store_mid 128 _ _ rfl g ((k)*202) (bJ xq).toArray rfl rfl ht1 (cF _) (all_oneCell_toArray (cV _)) ?_;simp only[cW,cR];rw[←hw8];refine⟨Or.inr trivial,?_⟩;refine cP 16 1 (by kernel_rfl) trivial ?_;simp only[List.take_succ_cons,List.take_zero,List.drop_succ_cons,List.drop_zero]
      repeat (go_big_quiet_step (fail))
      refine wpQuiet_nil ?_;refine eQ 17 (by kernel_rfl) ?_;refine aC rfl rfl ?_;refine wp_store_mid 128 _ _ rfl g ((k+1)*202) (bJ xp).toArray rfl rfl ht2 (cF _) (all_oneCell_toArray (cV _)) ?_;simp only[cW,cR];rw[←hw9];refine⟨Or.inr trivial,?_⟩;refine mE (by kernel_rfl) ?_;clear hw9 hw8;have HJW:Hid (J (fR aE L2 k (k+1)) w9):=S.out.turn _ _ _ _ HJ2.out (kW aE L2 (by omega) (by omega)) HSW.out HCW.out;go_wp2
      go_roundw
      case rel=>exact⟨k+1,_,by omega,by omega,by go_num,HRT2,HSH2,HJW⟩
      case measure=>simp[intOf];omega
     ·refine aC rfl rfl ?_;refine wp_load_mid 128 _ rfl g ((k)*202) rfl (bJ xp) _ hr1 Tryz.underlying128 rfl (cE _) ?_;refine⟨Or.inr trivial,?_⟩;simp only[zJ,zG,zH,zI];refine eQ 9 (by kernel_rfl) ?_;refine aC rfl rfl ?_;refine wp_load_mid 128 _ rfl g ((k+1)*202) rfl (bJ xq) _ hr2 Tryz.underlying128 rfl (cE _) ?_;refine⟨Or.inr trivial,?_⟩;simp only[zJ,zG,zH,zI];refine cP 14 1 (by kernel_rfl) trivial ?_;simp only[List.take_succ_cons,List.take_zero,List.drop_succ_cons,List.drop_zero]
      repeat (go_big_quiet_step (fail))
      refine wpQuiet_nil ?_;refine eQ 15 (by kernel_rfl) ?_;refine aC rfl rfl ?_;refine wp_store_mid 128 _ _ rfl g ((k)*202) (bJ xq).toArray rfl rfl ht1 (cF _) (all_oneCell_toArray (cV _)) ?_;simp only[cW,cR];rw[←hw8];refine⟨Or.inr trivial,?_⟩;refine cP 16 1 (by kernel_rfl) trivial ?_;simp only[List.take_succ_cons,List.take_zero,List.drop_succ_cons,List.drop_zero]
      repeat (go_big_quiet_step (fail))
      refine wpQuiet_nil ?_;refine eQ 17 (by kernel_rfl) ?_;refine aC rfl rfl ?_;refine wp_store_mid 128 _ _ rfl g ((k+1)*202) (bJ xp).toArray rfl rfl ht2 (cF _) (all_oneCell_toArray (cV _)) ?_;simp only[cW,cR];rw[←hw9];refine⟨Or.inr trivial,?_⟩;refine mE (by kernel_rfl) ?_;clear hw9 hw8;have HJW:Hid (J (fR aE L2 k (k+1)) w9):=S.out.turn _ _ _ _ HJ2.out (kW aE L2 (by omega) (by omega)) HSW.out HCW.out;go_wp2
      go_roundw
      case rel=>exact⟨k+1,_,by omega,by omega,by go_num,HRT2,HSH2,HJW⟩
      case measure=>simp[intOf];omega
    ·have hki':¬(k:Int)<(i:Int)-1:=by omega
     have hik:i=k+1:=by omega
     have HF:Hid (Srt aE key L2 a b):=by
      subst hik;refine VR (L:=L) (i:=k+1) (by rw[←h1];exact HS2.out) (by omega) hjb (HI.out.imp (fun h=>by omega) id) HJJ.out HRT.out
     go_wp2
     (try simp only[Exit.inBlock,Exit.then])
     refine bodyPost_ret (results_none rfl _ _ _) rfl ?_;exact⟨rfl,L2,HJ2.out,HSH.out,HF.out⟩
theorem GE(af:Nat)(cb:Array Value)(cf:aI→aI→Int)(key:aI→Nat)(base g n c:Nat)(J:List aI→World→Prop)(S:uT af cb cf key base g n c J)(hn:n≤1000000)(a m b:Nat)(L:List aI)(w:World)(h:J L w)(ham:a<m)(hmb:m<b)(hbn:b≤n)(hs1:Srt aE key L a m)(hs2:Srt aE key L m b)(h1:m≠a+1)(h2:b=m+1):
  Calls Tryz.prog 178 #[.slice (some ⟨g,0,none⟩) n c,.int .i64 (a:Int),.int .i64 (m:Int),.int .i64 (b:Int),.func (.func af) #[] cb] w fun e w'=>e=.returned (.tuple #[])∧
   ∃L',J L' w'∧Sh aE L L' a b∧Srt aE key L' a b:=by
 have H:=aBO h
 have HS:=aBO S
 have eF:=S.enter
 have HS1:=aBO hs1
 have HS2:=aBO hs2
 have hlen:=(S.parts _ _ h).len
 have zab:(a:Int)<(m:Int):=by omega
 have zmb:(m:Int)<(b:Int):=by omega
 have zbn:(b:Int)≤1000000:=by omega
 clear h S hs1 hs2
 have S:=HS
 clear HS
 have d1:((m:Int)-(a:Int)==1)=false:=by simp;omega
 have d2:((b:Int)-(m:Int)==1)=true:=by simp;omega
 clear h1
 go_enter Tryz.func178,Tryz.ntmps178
 go_wp2
 go_loopw [14,15,16] (fun s14 s15 _ wr=>∃i j:Nat,a≤i∧i≤j∧j≤m∧s14=.int .i64 (i:Int)∧s15=.int .i64 (j:Int)∧Hid (i=a∨kAt aE key L (i-1)≤kAt aE key L m)∧Hid (j=m∨kAt aE key L m≤kAt aE key L j)∧Hid (J L wr)) (fun s14 s15 _ _=>(intOf s15).toNat-(intOf s14).toNat)
 case atStart=>exact⟨a,m,by omega,by omega,by omega,rfl,rfl,.inl rfl,.inl rfl,H⟩
 case round=>
  obtain⟨i,j,hi1,hij,hjb,rfl,rfl,HI,HJJ,HJ⟩:=hrel;by_cases hlt:i<j
  ·have hlt':(i:Int)<(j:Int):=by omega
   obtain⟨q,hq⟩:∃q:Nat,q=(i+j)/2:=⟨_,rfl⟩
   have hmid:((i:Int)+(j:Int))/2=(q:Int):=by omega
   have hq1:i≤q:=by omega
   have hq2:q<j:=by omega
   have hqn:(q:Int)<(n:Int):=by omega
   have han:(m:Int)<(n:Int):=by omega
   have zij:(i:Int)+(j:Int)≤2000000:=by omega
   clear hq;have h0:=S.out.parts _ _ HJ.out;have hL2:=h0.len;have hp1:∀w',(∃nn:aY wr,w'=nn.val)→w'.rangeAt g (m*202) (bJ (L.getD m aE)):=fun w' ⟨nn,e⟩=>by rw[e];exact dW (h0.ext nn.ext) (by omega)
   have hp2:∀w',(∃nn:aY wr,w'=nn.val)→w'.rangeAt g (q*202) (bJ (L.getD q aE)):=fun w' ⟨nn,e⟩=>by rw[e];exact dW (h0.ext nn.ext) (by omega)
   have HCM:Hid (∀nn:aY wr,Calls Tryz.prog af (#[kN (L.getD m aE),kN (L.getD q aE)]++cb) nn.val fun e w''=>e=.returned (.int .i64 (cf (L.getD m aE) (L.getD q aE)))∧∃q:aY wr,w''=q.val):=fun nn=>cG (S.out.cmp _ _ (S.out.ext HJ.out nn.ext) _ _ (eZ (by omega)) (eZ (by omega)));have HLS:=aBO (S.out.less _ _ HJ.out _ _ (eZ (L:=L) (k:=m) (by omega)) (eZ (L:=L) (k:=q) (by omega)));obtain⟨cc,hcc⟩:∃cc,cc=cf (L.getD m aE) (L.getD q aE):=⟨_,rfl⟩
   rw[←hcc] at HCM HLS;obtain⟨xj,hxj⟩:∃xj,xj=L.getD m aE:=⟨_,rfl⟩
   obtain⟨xp,hxp⟩:∃xp,xp=L.getD q aE:=⟨_,rfl⟩
   rw[←hxj] at hp1 HCM;rw[←hxp] at hp2 HCM;clear hcc hxj hxp h0;go_wp2;refine bB (by kernel_rfl) (by kernel_rfl) ?_
   repeat (first
    |go_big_quiet_skip
    |(refine aX (o:=⟨some 96,.load 128 _,_,_,_,_⟩) (by rfl) 128 _ rfl g (m*202) rfl (bJ xj) _ hp1 Tryz.underlying128 rfl (cE _) ?_;simp only[zJ,zG,zH,zI])
    |(refine aX (o:=⟨some 100,.load 128 _,_,_,_,_⟩) (by rfl) 128 _ rfl g (q*202) rfl (bJ xp) _ hp2 Tryz.underlying128 rfl (cE _) ?_;simp only[zJ,zG,zH,zI])
    |go_big_quiet_step (first|(go_at_fn af;exact HCM.out _)))
   refine wpQuiet_nil ?_;intro _ hw';obtain⟨n',rfl⟩:=hw';have HJ1:=aBO (S.out.ext HJ.out n'.ext);generalize n'.val=W8 at *;clear hp1 hp2 HCM;by_cases hlv:cc<0
   ·have dcc:decide (cc<0)=true:=by simpa using hlv
    simp only[dcc,Bool.not_true];have HJ2:Hid (q=m∨kAt aE key L m≤kAt aE key L q):=.inr (Nat.le_of_lt (HLS.out.1 hlv));clear HLS;go_wp2
    go_roundw
    case rel=>exact⟨i,q,hi1,hq1,by omega,rfl,rfl,HI,HJ2,HJ1⟩
    case measure=>simp[intOf];omega
   ·have dcc:decide (cc<0)=false:=by simpa using hlv
    simp only[dcc,Bool.not_false];have HI2:Hid (q+1=a∨kAt aE key L (q+1-1)≤kAt aE key L m):=.inr (Nat.le_of_not_lt fun h=>hlv (HLS.out.2 h));clear HLS;go_wp2
    go_roundw
    case rel=>exact⟨q+1,j,by omega,by omega,hjb,by go_num,rfl,HI2,HJJ,HJ1⟩
    case measure=>simp[intOf];omega
  ·obtain rfl:i=j:=by omega
   have hlt':¬(i:Int)<(i:Int):=by omega
   clear hlt;go_wp2
   go_loopw [17] (fun s17 wi=>∃(k:Nat) (L2:List aI),i≤k∧k≤m∧s17=.int .i64 (k:Int)∧Hid (∀x,L2.getD x aE=fT (fun x=>L.getD x aE) k m (m+1) x)∧Hid (Sh aE L L2 a b)∧Hid (J L2 wi)) (fun s17 _=>(intOf s17).toNat)
   case atStart=>exact⟨m,L,by omega,by omega,rfl,fun x=>by rw[TY],Sh.refl _ _ _,HJ⟩
   case round=>
    obtain⟨k,L2,hk1,hk2,rfl,HRT,HSH,HJ2⟩:=hrel;by_cases hki:i<k
    ·have hki':(k:Int)>(i:Int):=by omega
     have hki2:(i:Int)<(k:Int):=by omega
     obtain⟨kp,hkp⟩:∃kp,k=kp+1:=⟨k-1,by omega⟩
     have h9:=S.out.parts _ _ HJ2.out;have hL2:=h9.len;have HRT2:Hid (∀x,(fR aE L2 k (k-1)).getD x aE=fT (fun x=>L.getD x aE) (k-1) m (m+1) x):=fun x=>by
      rw[pJ aE L2 (by omega) (by omega),hkp,Nat.add_sub_cancel,←XP _ (show kp+1≤m by omega),HRT.out,HRT.out,HRT.out,hkp]
     have HSH2:Hid (Sh aE L (fR aE L2 k (k-1)) a b):=HSH.out.trans (Sh.swap L2 (by omega) (by omega) (by omega));have hji:((k:Int)-1).toNat=k-1:=by omega
     have hjj:(0:Int)≤(k:Int)-1:=by omega
     have hjk:(k:Int)-1<(n:Int):=by omega
     have hjl:(k:Int)<(n:Int):=by omega
     clear hkp;go_wp2;have h1:=bR.drew h9;have hr1:=dW h1 (k:=k) (by omega);have hr2:=dW h1 (k:=k-1) (by omega);have ht1:=jO h1 (k:=k) (by omega) (L2.getD (k-1) aE);have h2:=mW h1 (k:=k) (by omega) (L2.getD (k-1) aE);have ht2:=jO h2 (k:=k-1) (by omega) (L2.getD (k) aE);have h3:=mW h2 (k:=k-1) (by omega) (L2.getD (k) aE);obtain⟨w8,hw8⟩:∃w8,w8=wr.drew.setCells g ((k)*202) (bJ (L2.getD (k-1) aE)):=⟨_,rfl⟩
     rw[←hw8] at ht2 h3;obtain⟨w9,hw9⟩:∃w9,w9=w8.setCells g ((k-1)*202) (bJ (L2.getD (k) aE)):=⟨_,rfl⟩
     rw[←hw9] at h3;have HSW:Hid (bR w9 base (.slice (some ⟨g,0,none⟩) n c) (fR aE L2 (k) (k-1))):=h3;have HCW:Hid (Chg (fun k=>k=g) wr w9):=by
      rw[Hid,hw9,hw8];exact eB (S:=fun k=>k=g) rfl _ _ _ (eB (S:=fun k=>k=g) rfl _ _ _ ((Chg.refl _ _).drewN 1))
     clear h1 h2 h3;generalize L2.getD (k) aE=xp at *;generalize L2.getD (k-1) aE=xq at *;refine oU (fun _=>True) (by kernel_rfl) ?_;refine cP 0 9 (by kernel_rfl) trivial ?_;simp only[List.take_succ_cons,List.take_zero,List.drop_succ_cons,List.drop_zero]
     repeat (go_big_quiet_step (fail))
     refine wpQuiet_nil ?_;refine cP 10 3 (by kernel_rfl) trivial ?_;simp only[List.take_succ_cons,List.take_zero,List.drop_succ_cons,List.drop_zero]
     repeat (go_big_quiet_step (fail))
     refine wpQuiet_nil ?_;refine IB 9 13 (by kernel_rfl) ?_ ?_
     ·refine aC rfl rfl ?_;refine wp_load_mid 128 _ rfl g ((k-1)*202) rfl (bJ xq) _ hr2 Tryz.underlying128 rfl (cE _) ?_;refine⟨Or.inr trivial,?_⟩;simp only[zJ,zG,zH,zI];refine eQ 13 (by kernel_rfl) ?_;refine aC rfl rfl ?_;refine wp_load_mid 128 _ rfl g ((k)*202) rfl (bJ xp) _ hr1 Tryz.underlying128 rfl (cE _) ?_;refine⟨Or.inr trivial,?_⟩;simp only[zJ,zG,zH,zI];refine cP 14 1 (by kernel_rfl) trivial ?_;simp only[List.take_succ_cons,List.take_zero,List.drop_succ_cons,List.drop_zero]
      repeat (go_big_quiet_step (fail))
      refine wpQuiet_nil ?_;refine eQ 15 (by kernel_rfl) ?_;refine aC rfl rfl ?_;refine wp_store_mid 128 _ _ rfl g ((k)*202) (bJ xq).toArray rfl rfl ht1 (cF _) (all_oneCell_toArray (cV _)) ?_;simp only[cW,cR];rw[←hw8];refine⟨Or.inr trivial,?_⟩;refine cP 16 1 (by kernel_rfl) trivial ?_;simp only[List.take_succ_cons,List.take_zero,List.drop_succ_cons,List.drop_zero]
      repeat (go_big_quiet_step (fail))
      refine wpQuiet_nil ?_;refine eQ 17 (by kernel_rfl) ?_;refine aC rfl rfl ?_;refine wp_store_mid 128 _ _ rfl g ((k-1)*202) (bJ xp).toArray rfl rfl ht2 (cF _) (all_oneCell_toArray (cV _)) ?_;simp only[cW,cR];rw[←hw9];refine⟨Or.inr trivial,?_⟩;refine mE (by kernel_rfl) ?_;clear hw9 hw8;have HJW:Hid (J (fR aE L2 k (k-1)) w9):=S.out.turn _ _ _ _ HJ2.out (kW aE L2 (by omega) (by omega)) HSW.out HCW.out;go_wp2
      go_roundw
      case rel=>exact⟨k-1,_,by omega,by omega,by go_num,HRT2,HSH2,HJW⟩
      case measure=>simp[intOf];omega
     ·refine aC rfl rfl ?_;refine wp_load_mid 128 _ rfl g ((k)*202) rfl (bJ xp) _ hr1 Tryz.underlying128 rfl (cE _) ?_;refine⟨Or.inr trivial,?_⟩;simp only[zJ,zG,zH,zI];refine eQ 9 (by kernel_rfl) ?_;refine aC rfl rfl ?_;refine wp_load_mid 128 _ rfl g ((k-1)*202) rfl (bJ xq) _ hr2 Tryz.underlying128 rfl (cE _) ?_;refine⟨Or.inr trivial,?_⟩;simp only[zJ,zG,zH,zI];refine cP 14 1 (by kernel_rfl) trivial ?_;simp only[List.take_succ_cons,List.take_zero,List.drop_succ_cons,List.drop_zero]
      repeat (go_big_quiet_step (fail))
      refine wpQuiet_nil ?_;refine eQ 15 (by kernel_rfl) ?_;refine aC rfl rfl ?_;refine wp_store_mid 128 _ _ rfl g ((k)*202) (bJ xq).toArray rfl rfl ht1 (cF _) (all_oneCell_toArray (cV _)) ?_;simp only[cW,cR];rw[←hw8];refine⟨Or.inr trivial,?_⟩;refine cP 16 1 (by kernel_rfl) trivial ?_;simp only[List.take_succ_cons,List.take_zero,List.drop_succ_cons,List.drop_zero]
      repeat (go_big_quiet_step (fail))
      refine wpQuiet_nil ?_;refine eQ 17 (by kernel_rfl) ?_;refine aC rfl rfl ?_;refine wp_store_mid 128 _ _ rfl g ((k-1)*202) (bJ xp).toArray rfl rfl ht2 (cF _) (all_oneCell_toArray (cV _)) ?_;simp only[cW,cR];rw[←hw9];refine⟨Or.inr trivial,?_⟩;refine mE (by kernel_rfl) ?_;clear hw9 hw8;have HJW:Hid (J (fR aE L2 k (k-1)) w9):=S.out.turn _ _ _ _ HJ2.out (kW aE L2 (by omega) (by omega)) HSW.out HCW.out;go_wp2
      go_roundw
      case rel=>exact⟨k-1,_,by omega,by omega,by go_num,HRT2,HSH2,HJW⟩
      case measure=>simp[intOf];omega
    ·have hki':¬(k:Int)>(i:Int):=by omega
     have hki2:¬(i:Int)<(k:Int):=by omega
     have hik:k=i:=by omega
     have HF:Hid (Srt aE key L2 a b):=by
      subst hik;rw[h2];exact RZ (L:=L) HS1.out hi1 hjb HI.out HJJ.out HRT.out
     go_wp2
     (try simp only[Exit.inBlock,Exit.then])
     refine bodyPost_ret (results_none rfl _ _ _) rfl ?_;exact⟨rfl,L2,HJ2.out,by first|exact HSH.out|(rw[←h2];exact HSH.out),by first|exact HF.out|(rw[←h2];exact HF.out)⟩
end

section
open Go.RowKit Go.Shelf
theorem NO(af:Nat)(cb:Array Value)(cf:aI→aI→Int)(key:aI→Nat)(base g n c:Nat)(J:List aI→World→Prop)(S:uT af cb cf key base g n c J)(hn:n≤1000000)(d:Nat)(ih:(∀(a m b:Nat) (L:List aI) (w:World),b-a≤d→J L w→a<m→m<b→b≤n→Srt aE key L a m→Srt aE key L m b→Calls Tryz.prog 178 #[.slice (some ⟨g,0,none⟩) n c,.int .i64 (a:Int),.int .i64 (m:Int),.int .i64 (b:Int),.func (.func af) #[] cb] w fun e w'=>e=.returned (.tuple #[])∧
   ∃L',J L' w'∧Sh aE L L' a b∧Srt aE key L' a b)) (a m b:Nat) (L:List aI) (w:World) (h:J L w) (ham:a<m) (hmb:m<b) (hbn:b≤n) (hs1:Srt aE key L a m) (hs2:Srt aE key L m b) (hd:b-a≤d+1) (h1:m≠a+1) (h2:b≠m+1):
  Calls Tryz.prog 178 #[.slice (some ⟨g,0,none⟩) n c,.int .i64 (a:Int),.int .i64 (m:Int),.int .i64 (b:Int),.func (.func af) #[] cb] w fun e w'=>e=.returned (.tuple #[])∧
   ∃L',J L' w'∧Sh aE L L' a b∧Srt aE key L' a b:=by
 have IH:=aBO ih
 clear ih
 have H:=aBO h
 have HS:=aBO S
 have eF:=S.enter
 have HS1:=aBO hs1
 have HS2:=aBO hs2
 have hlen:=(S.parts _ _ h).len
 have zab:(a:Int)<(m:Int):=by omega
 have zmb:(m:Int)<(b:Int):=by omega
 have zbn:(b:Int)≤1000000:=by omega
 clear h S hs1 hs2
 have S:=HS
 clear HS
 have d1:((m:Int)-(a:Int)==1)=false:=by simp;omega
 have d2:((b:Int)-(m:Int)==1)=false:=by simp;omega
 clear h1 h2
 obtain⟨mid,hmid0⟩:∃mid:Nat,mid=(a+b)/2:=⟨_,rfl⟩
 have hmid:((a:Int)+(b:Int))/2=(mid:Int):=by omega
 obtain⟨b1,b2,b3,b4⟩:=wK ham hmb
 obtain⟨st0,hst0⟩:∃x,x=s0 a m b:=⟨_,rfl⟩
 obtain⟨rr0,hrr0⟩:∃x,x=r0 a m b:=⟨_,rfl⟩
 have HFO:Hid (∀st,st0≤st→st≤rr0→(st=st0∨kAt aE key L (st-1)≤kAt aE key L (mid+m-1-(st-1)))→(st=rr0∨kAt aE key L (mid+m-1-st)≤kAt aE key L st)→Found aE key L a m b st):=fun st q1 q2 q3 q4=>by
  rw[hst0] at q1 q3;rw[hrr0] at q2 q4;rw[hmid0] at q3 q4;exact XA ham hmb HS1.out HS2.out q1 q2 q3 q4
 rw[←hst0,←hrr0] at b2
 rw[←hst0] at b1
 rw[←hrr0] at b3
 rw[←hst0,←hrr0,←hmid0] at b4
 have hs0:(mid<m∧st0+b=mid+m∧rr0=mid)∨(m≤mid∧st0=a∧rr0=m):=by
  unfold s0 at hst0;unfold r0 at hrr0;by_cases hm2:(a+b)/2<m
  ·rw[if_pos hm2] at hst0 hrr0;omega
  ·rw[if_neg hm2] at hst0 hrr0;omega
 have HMI:Hid (mid=(a+b)/2):=hmid0
 have zm1:a<mid:=by omega
 have zm2:mid<b:=by omega
 have zm3:(mid:Int)+(m:Int)≤2000000:=by omega
 have B4:=aBO b4
 have HS0:=aBO hs0
 have hrm:rr0≤m:=b3
 have hsa:a≤st0:=b1
 clear hst0 hrr0 hmid0 b4 hs0
 go_enter Tryz.func178,Tryz.ntmps178
 go_upto_if 140 with (fail)
 go_cut [20,21] (fun s20 s21 wx=>s20=.int .i64 (st0:Int)∧s21=.int .i64 (rr0:Int)∧wx=w)
 case first=>
  rcases HS0.out with ⟨q1,q2,q3⟩|⟨q1,q2,q3⟩
  ·have e1:(mid:Int)+(m:Int)-(b:Int)=(st0:Int):=by omega
   have e2:(mid:Int)=(rr0:Int):=by omega
   have e3:(m:Int)>(mid:Int):=by omega
   have e4:(mid:Int)<(m:Int):=by omega
   clear q2 q3 e2;go_wp2
   go_meet
   exact⟨rfl,congrArg (Value.int .i64) (by have:=HS0.out;omega),rfl⟩
  ·have e3:¬(m:Int)>(mid:Int):=by omega
   have e4:¬(mid:Int)<(m:Int):=by omega
   clear q2 q3;go_wp2
   go_meet
   exact⟨congrArg (Value.int .i64) (by have:=HS0.out;omega),congrArg (Value.int .i64) (by have:=HS0.out;omega),rfl⟩
 case rest=>
  obtain⟨rfl,rfl,rfl⟩:=hcut;go_wp2
  go_loopw [20,21,23] (fun s20 s21 _ wr=>∃st r:Nat,st0≤st∧st≤r∧r≤rr0∧s20=.int .i64 (st:Int)∧s21=.int .i64 (r:Int)∧Hid (st=st0∨kAt aE key L (st-1)≤kAt aE key L (mid+m-1-(st-1)))∧Hid (r=rr0∨kAt aE key L (mid+m-1-r)≤kAt aE key L r)∧Hid (J L wr)) (fun s20 s21 _ _=>(intOf s21).toNat-(intOf s20).toNat)
  case atStart=>exact⟨st0,rr0,by omega,by omega,by omega,rfl,rfl,.inl rfl,.inl rfl,H⟩
  case round=>
   obtain⟨st,r,hi1,hij,hjb,rfl,rfl,HI,HJJ,HJ⟩:=hrel;by_cases hlt:st<r
   ·have hlt':(st:Int)<(r:Int):=by omega
    obtain⟨q,hq⟩:∃q:Nat,q=(st+r)/2:=⟨_,rfl⟩
    have hmq:((st:Int)+(r:Int))/2=(q:Int):=by omega
    have hq1:st≤q:=by omega
    have hq2:q<r:=by omega
    obtain⟨k1,k2,k3⟩:=B4.out q (by omega) (by omega);have hqn:(q:Int)<(n:Int):=by omega
    have zij:(st:Int)+(r:Int)≤2000000:=by omega
    have zp1:((mid:Int)+(m:Int)-1-(q:Int)).toNat=mid+m-1-q:=by omega
    have zp2:(0:Int)≤(mid:Int)+(m:Int)-1-(q:Int):=by omega
    have zp3:(mid:Int)+(m:Int)-1-(q:Int)<(n:Int):=by omega
    clear hq;have h0:=S.out.parts _ _ HJ.out;have hL2:=h0.len;have hp1:∀w',(∃nn:aY wr,w'=nn.val)→w'.rangeAt g ((mid+m-1-q)*202) (bJ (L.getD (mid+m-1-q) aE)):=fun w' ⟨nn,e⟩=>by rw[e];exact dW (h0.ext nn.ext) (by omega)
    have hp2:∀w',(∃nn:aY wr,w'=nn.val)→w'.rangeAt g (q*202) (bJ (L.getD q aE)):=fun w' ⟨nn,e⟩=>by rw[e];exact dW (h0.ext nn.ext) (by omega)
    have HCM:Hid (∀nn:aY wr,Calls Tryz.prog af (#[kN (L.getD (mid+m-1-q) aE),kN (L.getD q aE)]++cb) nn.val fun e w''=>e=.returned (.int .i64 (cf (L.getD (mid+m-1-q) aE) (L.getD q aE)))∧∃q:aY wr,w''=q.val):=fun nn=>cG (S.out.cmp _ _ (S.out.ext HJ.out nn.ext) _ _ (eZ (by omega)) (eZ (by omega)));have HLS:=aBO (S.out.less _ _ HJ.out _ _ (eZ (L:=L) (k:=(mid+m-1-q)) (by omega)) (eZ (L:=L) (k:=q) (by omega)));obtain⟨cc,hcc⟩:∃cc,cc=cf (L.getD (mid+m-1-q) aE) (L.getD q aE):=⟨_,rfl⟩
    rw[←hcc] at HCM HLS;obtain⟨xj,hxj⟩:∃xj,xj=L.getD (mid+m-1-q) aE:=⟨_,rfl⟩
    obtain⟨xp,hxp⟩:∃xp,xp=L.getD q aE:=⟨_,rfl⟩
    rw[←hxj] at hp1 HCM;rw[←hxp] at hp2 HCM;clear hcc hxj hxp h0;go_wp2;refine bB (by kernel_rfl) (by kernel_rfl) ?_
    repeat (first
     |go_big_quiet_skip
     |(refine aX (o:=⟨some 164,.load 128 _,_,_,_,_⟩) (by rfl) 128 _ rfl g ((mid+m-1-q)*202) rfl (bJ xj) _ hp1 Tryz.underlying128 rfl (cE _) ?_;simp only[zJ,zG,zH,zI])
     |(refine aX (o:=⟨some 168,.load 128 _,_,_,_,_⟩) (by rfl) 128 _ rfl g (q*202) rfl (bJ xp) _ hp2 Tryz.underlying128 rfl (cE _) ?_;simp only[zJ,zG,zH,zI])
     |go_big_quiet_step (first|(go_at_fn af;exact HCM.out _)))
    refine wpQuiet_nil ?_;intro _ hw';obtain⟨n',rfl⟩:=hw';have HJ1:=aBO (S.out.ext HJ.out n'.ext);generalize n'.val=W8 at *;clear hp1 hp2 HCM;by_cases hlv:cc<0
    ·have dcc:decide (cc<0)=true:=by simpa using hlv
     have HJ2:Hid (q=rr0∨kAt aE key L (mid+m-1-q)≤kAt aE key L q):=.inr (Nat.le_of_lt (HLS.out.1 hlv));simp only[dcc,Bool.not_true];clear HLS;go_wp2
     go_roundw
     case rel=>exact⟨st,q,hi1,hq1,by omega,rfl,rfl,HI,HJ2,HJ1⟩
     case measure=>simp[intOf];omega
    ·have dcc:decide (cc<0)=false:=by simpa using hlv
     have HI2:Hid (q+1=st0∨kAt aE key L (q+1-1)≤kAt aE key L (mid+m-1-(q+1-1))):=.inr (Nat.le_of_not_lt fun h=>hlv (HLS.out.2 h));simp only[dcc,Bool.not_false];clear HLS;go_wp2
     go_roundw
     case rel=>exact⟨q+1,r,by omega,by omega,hjb,by go_num,rfl,HI2,HJJ,HJ1⟩
     case measure=>simp[intOf];omega
   ·obtain rfl:st=r:=by omega
    have hlt':¬(st:Int)<(st:Int):=by omega
    have HFD:=aBO (HFO.out st hi1 hjb HI.out HJJ.out);obtain⟨⟨f1,f2,f3⟩,⟨f4,f5⟩,_,_⟩:=HFD.out;obtain⟨en,hen⟩:∃en,en=mid+m-st:=⟨_,rfl⟩
    rw[←HMI.out] at f3 f4 f5;rw[←hen] at f4 f5;have HEN:=aBO hen;have ze:(mid:Int)+(m:Int)-(st:Int)=(en:Int):=by omega
    clear hen hlt;go_upto_region 39 with (fail)
    have HP0:=aBO (S.out.parts _ _ HJ.out);obtain⟨bb,hbb⟩:∃bb,bb=(decide (st<m)&&decide (m<en)):=⟨_,rfl⟩
    go_cut [185] (fun sx wx=>sx=.bool bb∧wx=wr)
    case first=>
     by_cases hr1:st<m
     ·have hr1':(st:Int)<(m:Int):=by omega
      by_cases hr2:m<en
      ·have hr2':(m:Int)<(en:Int):=by omega
       go_wp2
       go_meet
       exact⟨by rw[hbb];simp[hr1,hr2],rfl⟩
      ·have hr2':¬(m:Int)<(en:Int):=by omega
       go_wp2
       go_meet
       exact⟨by rw[hbb];simp[hr1,hr2],rfl⟩
     ·have hr1':¬(st:Int)<(m:Int):=by omega
      go_wp2
      go_meet
      exact⟨by rw[hbb];simp[hr1],rfl⟩
    case rest=>as_aux_lemma=>
     obtain⟨rfl,rfl⟩:=hcut
     go_upto_if 185 with (fail)
     go_cut [191] (fun _ wx=>∃L1,Hid (J L1 wx)∧Hid (Sh aE L L1 a b)∧Hid (ZP aE key L1 a st mid en b))
     case first=>
      have HMJ:Hid (∀L1:List aI,(∀x,L1.getD x aE=fT (fun x=>L.getD x aE) st m en x)→ZP aE key L1 a st mid en b):=fun L1 hr=>by
       have:=aAD HS1.out HS2.out HFD.out (L':=L1) (by rw[←HMI.out,←HEN.out];exact hr);rw[←HMI.out,←HEN.out] at this;exact this
      cases bb with
      |true=>
       obtain⟨hr1,hr2⟩:st<m∧m<en:=by simpa using hbb
       clear hbb
       go_wp2_with (
        (go_at_call 212
         refine(NW g n c st m en base (.func (.func af) #[] cb) L wc HP0.out hn hr1 hr2 (by omega)).mono ?_;rintro e w2 ⟨rfl,L1,q1,q2,q3,q4⟩;have HJ2:=aBO (S.out.turn _ _ _ _ HJ.out q2.perm q1 q4);have HQ2:Hid (Sh aE L L1 a b):=q2.mono (by omega) (by omega);have HQ3:=aBO (HMJ.out L1 q3)
         clear q1 q2 q3 q4))
       go_meet
       exact⟨L1,HJ2,HQ2,HQ3⟩
      |false=>
       have hr:¬(st<m∧m<en):=by
        intro h;rw[decide_eq_true h.1,decide_eq_true h.2] at hbb;cases hbb
       have HQ3:=aBO (HMJ.out L (fun x=>by
        unfold fT;by_cases e1:st≤x∧x<st+(en-m)
        ·rw[if_pos e1];congr 1;omega
        ·rw[if_neg e1];by_cases e2:st+(en-m)≤x∧x<en
         ·rw[if_pos e2];congr 1;omega
         ·rw[if_neg e2]))
       clear hbb;go_wp2
       go_meet
       exact⟨L,HJ,Sh.refl _ _ _,HQ3⟩
     case rest=>as_aux_lemma=>
      obtain⟨L1,HJ1,HQ1,HMD⟩:=hcut;clear HJ HP0 HFO B4 HS0;obtain⟨wp,hwp⟩:∃wp:World,wp=wc:=⟨_,rfl⟩
      rw[←hwp];rw[←hwp] at HJ1;clear hwp;go_upto_region 41 with (fail)
      obtain⟨bb,hbb⟩:∃bb,bb=(decide (a<st)&&decide (st<mid)):=⟨_,rfl⟩
      go_cut [199] (fun sx wx=>sx=.bool bb∧wx=wp)
      case first=>
       by_cases hr1:a<st
       ·have hr1':(a:Int)<(st:Int):=by omega
        by_cases hr2:st<mid
        ·have hr2':(st:Int)<(mid:Int):=by omega
         go_wp2
         go_meet
         exact⟨by rw[hbb];simp[hr1,hr2],rfl⟩
        ·have hr2':¬(st:Int)<(mid:Int):=by omega
         go_wp2
         go_meet
         exact⟨by rw[hbb];simp[hr1,hr2],rfl⟩
       ·have hr1':¬(a:Int)<(st:Int):=by omega
        go_wp2
        go_meet
        exact⟨by rw[hbb];simp[hr1],rfl⟩
      case rest=>as_aux_lemma=>
       obtain⟨rfl,rfl⟩:=hcut
       go_upto_if 199 with (fail)
       go_cut [205] (fun _ wx=>∃L2,Hid (J L2 wx)∧Hid (Sh aE L1 L2 a mid)∧Hid (Srt aE key L2 a mid))
       case first=>
        cases bb with
        |true=>
         obtain⟨hr1,hr2⟩:a<st∧st<mid:=by simpa using hbb
         clear hbb
         go_wp2_with (
          (go_at_call 178
           refine(IH.out a st mid L1 wc (by omega) HJ1.out hr1 hr2 (by omega) HMD.out.s1 HMD.out.s2).mono ?_;rintro e w2 ⟨rfl,L2,q1,q2,q3⟩;have HJ2:=aBO q1;have HQ2:=aBO q2;have HQ3:=aBO q3
           clear q1 q2 q3))
         go_meet
         exact⟨L2,HJ2,HQ2,HQ3⟩
        |false=>
         have hr:¬(a<st∧st<mid):=by
          intro h;rw[decide_eq_true h.1,decide_eq_true h.2] at hbb;cases hbb
         have HQ3:Hid (Srt aE key L1 a mid):=by
          by_cases e1:a=st
          ·rw[Hid,e1];exact HMD.out.s2
          ·have e2:mid=st:=by omega
           rw[Hid,e2];exact HMD.out.s1
         clear hbb;go_wp2
         go_meet
         exact⟨L1,HJ1,Sh.refl _ _ _,HQ3⟩
       case rest=>as_aux_lemma=>
        obtain⟨L2,HJ2,HQ2,HSL⟩:=hcut;have HM3:Hid (Srt aE key L2 mid en):=HMD.out.s3.out key HQ2.out (.inr (aBV _));have HM4:Hid (Srt aE key L2 en b):=HMD.out.s4.out key HQ2.out (.inr (by omega))
        have HFIN:Hid (∀L3,Sh aE L2 L3 mid b→Srt aE key L3 mid b→Sh aE L L3 a b∧Srt aE key L3 a b):=fun L3 q1 q2=>
         ⟨HQ1.out.trans ((HQ2.out.mono (aBV _) (by omega)).trans (q1.mono (by omega) (aBV _))),Srt.join HMD.out.cross HQ2.out q1 HSL.out q2⟩
        clear HJ1;by_cases hr1:mid<en
        ·have hr1':(mid:Int)<(en:Int):=by omega
         by_cases hr2:en<b
         ·have hr2':(en:Int)<(b:Int):=by omega
          go_wp2_with (
           (go_at_call 178
            refine(IH.out mid en b L2 wc (by omega) HJ2.out hr1 hr2 hbn HM3.out HM4.out).mono ?_;rintro e w2 ⟨rfl,L3,q1,q2,q3⟩;have HJ3:=aBO q1;have HQ3:=aBO (HFIN.out L3 q2 q3)
            clear q1 q2 q3))
          go_end0
          exact⟨rfl,L3,HJ3.out,HQ3.out⟩
         ·have hr2':¬(en:Int)<(b:Int):=by omega
          have HQ3:=aBO (HFIN.out L2 (Sh.refl _ _ _) (by have:b=en:=(by omega);rw[this];exact HM3.out));go_wp2
          go_end0
          exact⟨rfl,L2,HJ2.out,HQ3.out⟩
        ·have hr1':¬(mid:Int)<(en:Int):=by omega
         have HQ3:=aBO (HFIN.out L2 (Sh.refl _ _ _) (by have:mid=en:=(by omega);rw[this];exact HM4.out));go_wp2
         go_end0
         exact⟨rfl,L2,HJ2.out,HQ3.out⟩
theorem GF(af:Nat)(cb:Array Value)(cf:aI→aI→Int)(key:aI→Nat)(base g n c:Nat)(J:List aI→World→Prop)(S:uT af cb cf key base g n c J)(hn:n≤1000000):
  ∀(d a m b:Nat) (L:List aI) (w:World),b-a≤d→J L w→a<m→m<b→b≤n→Srt aE key L a m→Srt aE key L m b→
  Calls Tryz.prog 178 #[.slice (some ⟨g,0,none⟩) n c,.int .i64 (a:Int),.int .i64 (m:Int),.int .i64 (b:Int),.func (.func af) #[] cb] w fun e w'=>e=.returned (.tuple #[])∧
   ∃L',J L' w'∧Sh aE L L' a b∧Srt aE key L' a b:=by
 intro d
 induction d with
 |zero=>intro a m b L w hd _ h1 h2;omega
 |succ d ih=>
  intro a m b L w hd h ham hmb hbn hs1 hs2;by_cases h1:m=a+1
  ·exact KZ af cb cf key base g n c J S hn a m b L w h ham hmb hbn hs1 hs2 h1
  ·by_cases h2:b=m+1
   ·exact GE af cb cf key base g n c J S hn a m b L w h ham hmb hbn hs1 hs2 h1 h2
   ·exact NO af cb cf key base g n c J S hn d (fun a m b L w=>ih a m b L w) a m b L w h ham hmb hbn hs1 hs2 hd h1 h2
end

section
open Go.RowKit Go.Shelf
section
variable (af:Nat) (cb:Array Value) (cf:aI→aI→Int) (key:aI→Nat) (base g n c:Nat) (J:List aI→World→Prop) (S:uT af cb cf key base g n c J) (hn:n<40)
include S hn
theorem NS(L:List aI)(w:World)(h:J L w):
  Calls Tryz.prog 135 #[.slice (some ⟨g,0,none⟩) n c,.int .i64 (n:Int),.func (.func af) #[] cb] w fun e w'=>e=.returned (.tuple #[])∧∃L',J L' w'∧Sh aE L L' 0 n∧Srt aE key L' 0 n:=by
 have H:=aBO h
 have HS:=aBO S
 clear h S
 have hn2:(n:Int)<40:=by omega
 go_enter Tryz.func135,Tryz.ntmps135
 go_wp2
 go_loopw [7,8] (fun s7 s8 wr=>∃(a0 b0:Nat) (L1:List aI),s7=.int .i64 (a0:Int)∧s8=.int .i64 (b0:Int)∧Hid (b0=a0+20∧(a0=0∨a0=20)∧a0≤n)∧Hid (J L1 wr)∧Hid (Sh aE L L1 0 n)∧Hid (Srt aE key L1 0 a0)) (fun s7 _ _=>40-(intOf s7).toNat)
 case atStart=>exact⟨0,20,L,by go_num,by go_num,⟨rfl,.inl rfl,by omega⟩,H,Sh.refl _ _ _,Srt.one key _ (by omega)⟩
 case round=>
  obtain⟨a0,b0,L1,rfl,rfl,HAB,HJ,HSH,HSR⟩:=hrel;by_cases hlt:b0≤n
  ·have hlt':(b0:Int)≤(n:Int):=by omega
   go_wp2_with (
    (go_at_call 177
     have h5:=HAB.out;refine(tJ af cb cf key base g n c J HS.out a0 b0 L1 wr HJ.out (by omega) (by omega) hlt).mono ?_;rintro e w2 ⟨rfl,L2,q1,q2,q3⟩;have HJ2:=aBO q1;have HSH2:Hid (Sh aE L L2 0 n):=HSH.out.trans (q2.mono (by omega) (by omega));have HAB2:Hid ((b0=0∨b0=20)∧b0≤n):=⟨by omega,hlt⟩
     have HSR2:Hid (Srt aE key L2 0 b0):=by
      have h0:a0=0:=by omega
      rw[h0] at q3;exact q3
     clear q1 q2 q3 h5))
   go_roundw
   case rel=>exact⟨b0,b0+20,L2,rfl,by go_num,⟨rfl,HAB2.out⟩,HJ2,HSH2,HSR2⟩
   case measure=>have h5:=HAB.out;simp[intOf];omega
  ·have hlt':¬(b0:Int)≤(n:Int):=by omega
   go_wp2_with (
    (go_at_call 177
     have h5:=HAB.out;refine(tJ af cb cf key base g n c J HS.out a0 n L1 wr HJ.out (by omega) (by omega) (aBV _)).mono ?_;rintro e w2 ⟨rfl,L2,q1,q2,q3⟩;have HJ2:=aBO q1;have HSH2:Hid (Sh aE L L2 0 n):=HSH.out.trans (q2.mono (by omega) (by omega));have HSA:Hid (Srt aE key L2 0 a0):=HSR.out.out key q2 (.inl (aBV _));have HSB:Hid (Srt aE key L2 a0 n):=q3
     clear q1 q2 q3 h5))
   clear HJ HSH HSR
   go_loopw [6,7,8,9] (fun s6 _ _ _ wi=>∃(bs:Nat) (L3:List aI),s6=.int .i64 (bs:Int)∧Hid (J L3 wi)∧Hid (Sh aE L L3 0 n)∧(bs=20∧Hid (Srt aE key L3 0 a0∧Srt aE key L3 a0 n)∨bs=40∧Hid (Srt aE key L3 0 n))) (fun s6 _ _ _ _=>60-(intOf s6).toNat)
   case atStart=>exact⟨20,L2,by go_num,HJ2,HSH2,.inl ⟨rfl,HSA.out,HSB.out⟩⟩
   case round=>
    obtain⟨bs,L3,rfl,HJ3,HSH3,hbs⟩:=hrel;clear HJ2 HSH2 HSA HSB;by_cases hlt2:bs<n
    ·have hlt2':(bs:Int)<(n:Int):=by omega
     obtain⟨hb,HSS⟩:=hbs.resolve_right (by omega);have h5:=HAB.out;have ha20:a0=20:=by omega
     clear h5;subst hb ha20;clear HAB;have hlt3:(20:Int)<(n:Int):=by omega
     go_wp2
     go_loopw [7,8] (fun s7 s8 wj=>s7=.int .i64 0∧s8=.int .i64 40∧wj=wr) (fun _ _ _=>0)
     case atStart=>exact⟨by go_num,by go_num,rfl⟩
     case round=>
      obtain⟨rfl,rfl,rfl⟩:=hrel;have h40:¬(40:Int)≤(n:Int):=by omega
      go_wp2_with (
       (go_at_call 178
        refine(GF af cb cf key base g n c J HS.out (by omega) n 0 20 n L3 _ (by omega) HJ3.out (by omega) (by omega) (aBV _) HSS.out.1 HSS.out.2).mono ?_;rintro e w5 ⟨rfl,L4,q1,q2,q3⟩;have HJ4:=aBO q1;have HSH4:Hid (Sh aE L L4 0 n):=HSH3.out.trans q2;have HSR4:=aBO q3
        clear q1 q2 q3))
      go_roundw
      case rel=>(repeat apply Exists.intro);exact⟨⟨40,L4,by go_num,HJ4,HSH4,.inr ⟨rfl,HSR4⟩⟩,rfl⟩
      case measure=>simp[intOf]
    ·have hlt2':¬(bs:Int)<(n:Int):=by omega
     have HF:Hid (Srt aE key L3 0 n):=by
      have h5:=HAB.out;rcases hbs with ⟨h1,h2⟩|⟨_,h2⟩
      ·rcases HAB.out.2.1 with h3|h3
       ·subst h3;exact h2.out.2
       ·have:n=20:=by omega
        subst h3;rw[this];exact h2.out.1
      ·exact h2.out
     go_wp2
     go_end0
     exact⟨rfl,L3,HJ3.out,HSH3.out,HF.out⟩
theorem CI(L:List aI)(w:World)(h:J L w):
  Calls Tryz.prog 82 #[.slice (some ⟨g,0,none⟩) n c,.func (.func af) #[] cb] w fun e w'=>e=.returned (.tuple #[])∧∃L',J L' w'∧Sh aE L L' 0 n∧Srt aE key L' 0 n:=by
 have H:=aBO h
 have HS:=aBO S
 clear h S
 go_enter Tryz.func82,Tryz.ntmps82
 go_wp2_with (
  (go_at_call 135
   refine(NS af cb cf key base g n c J HS.out hn L w H.out).mono ?_;rintro e w2 ⟨rfl,L2,q1,q2,q3⟩;have HJ2:=aBO q1;have HQ2:=aBO q2;have HQ3:=aBO q3
   clear q1 q2 q3))
 go_end0
 exact⟨rfl,L2,HJ2.out,HQ2.out,HQ3.out⟩
end
end

section
open Go.RowKit Go.Shelf
theorem TH(args:Array Value)(w:World):(callFunc 83 args).run Tryz.prog w=.ok (.enter 83 args) w:=by kernel_rfl
def PY(qs:List aI):Prop:=∀i j,i<j→j<qs.length→zT qs (qs.getD i aE)≤zT qs (qs.getD j aE)
theorem JY{ps qs:List aI}(h:ps.Perm qs)(p:aI):zT ps p=zT qs p:=by rw[zT,zT,iL h]
theorem MA(fv:Value)(w:World):Calls Tryz.prog 177 #[.slice none 0 0,.int .i64 0,.int .i64 0,fv] w fun e w'=>e=.returned (.tuple #[])∧w=w':=by
 go_enter Tryz.func177,Tryz.ntmps177
 go_wp2
 refine wp_loop_rounds 1 ?_
 rw[rounds_succ]
 go_wp2
 go_end0
 exact⟨rfl,rfl⟩
theorem CH(fv:Value)(w:World):Calls Tryz.prog 135 #[.slice none 0 0,.int .i64 0,fv] w fun e w'=>e=.returned (.tuple #[])∧w=w':=by
 go_enter Tryz.func135,Tryz.ntmps135
 go_wp2
 refine wp_loop_rounds 1 ?_
 rw[rounds_succ]
 go_wp2_with (go_at_call 177;refine(MA _ _).mono ?_;rintro e w1 ⟨rfl,rfl⟩)
 refine wp_loop_rounds 1 ?_
 rw[rounds_succ]
 go_wp2
 go_end0
 exact⟨rfl,rfl⟩
theorem GH(fv:Value)(w:World):Calls Tryz.prog 82 #[.slice none 0 0,fv] w fun e w'=>e=.returned (.tuple #[])∧w=w':=by
 go_enter Tryz.func82,Tryz.ntmps82
 go_wp2_with (go_at_call 135;refine(CH _ _).mono ?_;rintro e w1 ⟨rfl,rfl⟩)
 go_end0
 exact⟨rfl,rfl⟩
theorem DD(P base bv:Nat)(d:fD)(v:Value)(L:List aI)(w:World)(hV:w.heap[bv]? =some (.cells #[.pointer (some ⟨P,0,none⟩)] 119 (0,0)))(hB:w.heap[P]? =some (wQ d v))(hL:bR w base v L)(hn:L.length<40)(hsm:∀p∈L,aZ p.s≠[])(hfi:∀p∈L,cI p<300):
  Calls Tryz.prog 82 #[v,.func (.func 83) #[] #[.pointer (some ⟨bv,0,none⟩)]] w fun e w'=>e=.returned (.tuple #[])∧∃qs,bR w' base v qs∧L.Perm qs∧PY qs∧Chg (fun k=>v.ownBlock=some k) w w':=by
 have hown:=hL.1
 rcases hown.2 with ⟨hv,h0⟩|⟨g,c,cur,hv,_⟩
 ·subst hv;have hL0:L= []:=List.eq_nil_of_length_eq_zero h0;subst hL0;refine(GH _ w).mono ?_;rintro e w' ⟨rfl,rfl⟩;exact⟨rfl,[],hL,List.Perm.refl _,fun i j _ hj=>absurd hj (by simp),Chg.refl _ _⟩
 ·subst hv;have hgP:P≠g:=fun e=>cH hown hB (by decide) (by rw[e];rfl);have hgV:bv≠g:=fun e=>cH hown hV (by decide) (by rw[e];rfl)
  have S:uT 83 #[.pointer (some ⟨bv,0,none⟩)] (cfP L) (zT L) base g L.length c (fun M W=>bR W base (.slice (some ⟨g,0,none⟩) L.length c) M∧M.Perm L∧Chg (fun k=>k=g) w W):={
   enter:=TH
   cmp:=fun M W ⟨h1,h2,h3⟩ p q hp hq=>by
    have h:=ZC P base bv (some ⟨g,0,none⟩) L.length c d M p q W (h3.row hV (fun e=>hgV e)) (h3.row hB (fun e=>hgP e)) h1 (by omega) (hsm p (h2.mem_iff.1 hp)) (hsm q (h2.mem_iff.1 hq));refine h.mono ?_;rintro e w' ⟨rfl,hb⟩;refine⟨?_,hb⟩;rw[cfP,cfP,iL h2,iL h2]
   less:=fun M W ⟨h1,h2,h3⟩ p q hp hq=>ZD L p q (hfi p (h2.mem_iff.1 hp)) (hfi q (h2.mem_iff.1 hq))
   parts:=fun M W h=>h.1
   turn:=fun M M' W W' h hp hP hc=>⟨hP,hp.trans h.2.1,h.2.2.trans hc⟩}
  refine(CI _ _ _ _ base g L.length c _ S hn L w ⟨hL,List.Perm.refl _,Chg.refl _ _⟩).mono ?_;rintro e w' ⟨rfl,qs,⟨h1,h2,h3⟩,h4,h5⟩;refine⟨rfl,qs,h1,h2.symm,fun i j hij hj=>?_,h3.mono fun k hk=>by rw[hk];rfl⟩;have hl:=h2.length_eq;rw[JY h2,JY h2];exact h5 i j (Nat.zero_le _) hij (by omega)
end

section
open Go.RowKit Go.Shelf
theorem pL{W:World}{base og n c:Nat}{xs:List Int}(h:bN W base (.slice (some ⟨og,0,none⟩) n c) xs):∃cur,W.heap[og]? =some (.cells cur 3 (0,0)):=by
 rcases h.1.2 with ⟨h,_⟩|⟨g4,cap4,cur4,h,_,hg4,_⟩
 ·cases h
 ·injection h with h;injection h with h;injection h with h;subst h;exact⟨cur4,hg4⟩
theorem bN.put{W:World}{base og n c:Nat}{xs:List Int}(h:bN W base (.slice (some ⟨og,0,none⟩) n c) xs)(x:Nat){y:Int}(hy:I64 y):bN (W.setCell ⟨og,x,none⟩ (.int .i64 y)) base (.slice (some ⟨og,0,none⟩) n c) (xs.set x y):=by
 obtain⟨h1,h2,h3⟩:=h
 have hn:n=xs.length:=by
  rcases h1.2 with ⟨h,_⟩|⟨g4,cap4,cur4,h,_⟩
  ·cases h
  ·injection h
 subst hn
 refine⟨?_,fun z hz=>?_,by rw[List.length_set];exact h3⟩
 ·have h4:=(h1.stored x (.int .i64 y)).1;rw[List.length_set,show bC (xs.set x y)=(bC xs).set x (.int .i64 y) by simp[bC,List.map_set]];exact h4
 ·rcases List.mem_or_eq_of_mem_set hz with h|h
  ·exact h2 z h
  ·rw[h];exact hy
structure BdJ(W0:World)(base:Nat)(vp:Value)(qs:List aI)(ob og n:Nat)(own:List Int)(out:Value)(ls:List bK)(W:World):Prop where
 parts:bR W base vp qs
 cell:W.heap[ob]? =some (.cells #[.slice (some ⟨og,0,none⟩) n n] 22 (0,0))
 own:bN W base (.slice (some ⟨og,0,none⟩) n n) own
 tiles:dG W base out ls
 sepo:∀t∈ls,(bsV t).ownBlock≠some og
 ext:Below W0.heap.size W0 W
 bs:base≤W.heap.size
 w0:W0.heap.size≤base
section
variable {W0 W W3:World} {base:Nat} {vp:Value} {qs:List aI} {ob og n:Nat} {own:List Int} {out:Value} {ls:List bK}
theorem BdJ.steady{D:Nat}(hD:W0.heap.size≤D):aR D (BdJ W0 base vp qs ob og n own out ls):=fun W W' row h hg hr=>
 ⟨(aR.ownR D base vp qs) W W' row h.parts hg hr,(aR.block D ob rfl) W W' row h.cell hg hr,(aR.ownI D base _ own) W W' row h.own hg hr,(dG.steady (D:=D)) W W' row h.tiles hg hr,h.sepo,(aR.below (aBV _) hD) W W' row h.ext hg hr,aCD h.bs hg.size,h.w0⟩
theorem BdJ.ext'(h:BdJ W0 base vp qs ob og n own out ls W)(hb:Below W.heap.size W W3):BdJ W0 base vp qs ob og n own out ls W3:=
 ⟨bR.ext h.parts hb,aB hb h.cell,h.own.ext hb,h.tiles.ext hb,h.sepo,h.ext.trans (hb.mono (aCD h.w0 h.bs)),aCD h.bs hb.size,h.w0⟩
theorem BdJ.put(h:BdJ W0 base vp qs ob og n own out ls W)(x:Nat){y:Int}(hy:I64 y):BdJ W0 base vp qs ob og n (own.set x y) out ls (W.setCell ⟨og,x,none⟩ (.int .i64 y)):=by
 obtain⟨cur,hg⟩:=pL h.own
 have g:=bA W og x (.int .i64 y)
 have hlow:=(h.own.1.lt og rfl).1
 have n1:vp.ownBlock≠some og:=cH h.parts.1 hg (by decide)
 have n2:out.ownBlock≠some og:=cH h.tiles.own.1 hg (by decide)
 have key:∀v:Value,v.ownBlock≠some og→v.ownBlock=none∨v.ownBlock≠some og:=fun v hv=>.inr hv
 refine⟨cK.kept h.parts g (key _ n1),aK g h.cell fun e=>?_,h.own.put x hy,⟨h.tiles.own.kept g (key _ n2),fun t ht=>⟨(h.tiles.each t ht).1.kept g (key _ (h.sepo t ht)),(h.tiles.each t ht).2⟩,h.tiles.sepv,h.tiles.pw⟩,h.sepo,h.ext.grown g h.ext.size (fun q e=>by injection e with e;have:=h.w0;omega),aCD h.bs (by simp),h.w0⟩
 injection e with e
 subst e
 have:=h.cell
 rw[hg] at this
 injection this with this
 injection this with _ this _
 exact absurd this (by decide)
theorem BdJ.out_low(h:BdJ W0 base vp qs ob og n own out ls W){q:Nat}(hq:out.ownBlock=some q):base≤q:=(h.tiles.own.low hq).1
theorem BdJ.add{v':Value}(h:BdJ W0 base vp qs ob og n own out ls W)(x:bK)(hx:x.ba=none)(hx2:x.bn=0)(hx3:x.bc=0)(hx4:x.d.blocks= [])(hk:I64 x.d.kind∧I64 x.d.parent)(hg:W.grownBy W3 out.ownBlock)
  (ho:W3.ownsRow base 76 3 v' (ls.length+1) (ls.flatMap cN++cN x)) (hat:v'.ownBlock=out.ownBlock∨∃q,v'.ownBlock=some q∧W.heap.size≤q) (hn:ls.length≤1000):BdJ W0 base vp qs ob og n own v' (ls++ [x]) W3:=by
 obtain⟨cur,hgo⟩:=pL h.own
 have n1:out.ownBlock≠some ob:=cH h.tiles.own.1 h.cell (by decide)
 have n2:out.ownBlock≠some og:=cH h.tiles.own.1 hgo (by decide)
 have n3:∀q,out.ownBlock=some q→vp.ownBlock≠some q:=fun q hq e=>by
  rcases h.tiles.own.1.2 with ⟨h1,_⟩|⟨g4,cap4,cur4,h1,_,hg4,_⟩
  ·rw[h1] at hq;cases hq
  ·rw[h1] at hq;simp only[Value.ownBlock,Option.some.injEq] at hq;subst hq;exact cH h.parts.1 hg4 (by decide) e
 have hlow:∀q,out.ownBlock=some q→base≤q:=fun q hq=>h.out_low hq
 have key:∀v:Value,(∀q,out.ownBlock=some q→v.ownBlock≠some q)→v.ownBlock=none∨v.ownBlock≠out.ownBlock:=fun v hv=>by
  cases e:v.ownBlock with
  |none=>exact .inl rfl
  |some q=>exact .inr fun e2=>hv q e2.symm e
 refine⟨cK.kept h.parts hg (key _ n3),aK hg h.cell n1,h.own.kept hg (key _ fun q hq e=>n2 (hq.trans e.symm▸rfl)),h.tiles.add x hx hx2 hx3 hx4 hk hg ho hat hn,fun t ht=>?_,h.ext.grown hg h.ext.size (fun q e=>by have:=hlow q e;have:=h.w0;omega),aCD h.bs hg.size,h.w0⟩
 rcases aCA.1 ht with ht|ht
 ·exact h.sepo t ht
 ·have:t=x:=by simpa using ht
  subst this;rw[bsV,hx];intro e;cases e
theorem BdJ.turn{g m c:Nat}(h:BdJ W0 base vp qs ob og n own (.slice (some ⟨g,0,none⟩) m c) ls W){k:Nat}{t t':bK}(hk:ls[k]? =some t)(hg:W.grownBy W3 (bsV t).ownBlock)(ho:bN W3 base (bsV t') t'.d.blocks)(he:t'.d.kind=t.d.kind∧t'.d.parent=t.d.parent)
  (hat:(bsV t').ownBlock=(bsV t).ownBlock∨∃q,(bsV t').ownBlock=some q∧W.heap.size≤q):BdJ W0 base vp qs ob og n own (.slice (some ⟨g,0,none⟩) m c) (ls.set k t') (W3.setCell ⟨g,k*3+2,none⟩ (bsV t')):=by
 obtain⟨cur,hgo⟩:=pL h.own
 have htm:=aBY hk
 have hbt:=(h.tiles.each t htm).1
 have hglow:=h.out_low (q:=g) rfl
 have hblow:∀q,(bsV t).ownBlock=some q→base≤q∧q<W.heap.size:=fun q hq=>hbt.1.lt q hq
 have hob:=aN h.cell
 have hogl:=aN hgo
 have htile:∃cur,W.heap[g]? =some (.cells cur 76 (0,0)):=by
  rcases h.tiles.own.1.2 with ⟨h1,_⟩|⟨g4,cap4,cur4,h1,_,hg4,_⟩
  ·cases h1
  ·injection h1 with h1;injection h1 with h1;injection h1 with h1;subst h1;exact⟨cur4,hg4⟩
 obtain⟨tcur,htg⟩:=htile
 have hne:∀{a:Nat} {cs:Array Value} {ty:TypeId} {fr:Nat×Nat},W.heap[a]? =some (.cells cs ty fr)→ty≠3→(bsV t).ownBlock≠some a:=fun ha hty=>cH hbt.1 ha hty
 have hgt:W3.heap[g]? =some (.cells tcur 76 (0,0)):=aK hg htg (hne htg (by decide))
 have g2:=bA W3 g (k*3+2) (bsV t')
 have hcell3:=aK hg h.cell (hne h.cell (by decide))
 have gne:∀{a:Nat} {cs:Array Value} {ty:TypeId} {fr:Nat×Nat},W3.heap[a]? =some (.cells cs ty fr)→ty≠76→(some g:Option Nat)≠some a:=fun ha hty e=>by
  injection e with e;subst e;rw[hgt] at ha;injection ha with ha;injection ha with _ ha _;exact hty ha.symm
 have hparts3:bR W3 base vp qs:=cK.kept h.parts hg (by
  cases e:vp.ownBlock with
  |none=>exact .inl rfl
  |some q=>
   refine .inr fun e2=>?_;rcases h.parts.1.2 with ⟨h1,_⟩|⟨g4,cap4,cur4,h1,_,hg4,_⟩
   ·rw[h1] at e;cases e
   ·rw[h1] at e;simp only[Value.ownBlock,Option.some.injEq] at e;subst e
    exact hne hg4 (by decide) e2.symm)
 have hparts4:bR (W3.setCell ⟨g,k*3+2,none⟩ (bsV t')) base vp qs:=cK.kept hparts3 g2 (.inr fun e=>by
  rcases hparts3.1.2 with ⟨h1,_⟩|⟨g4,cap4,cur4,h1,_,hg4,_⟩
  ·rw[h1] at e;cases e
  ·rw[h1] at e;simp only[Value.ownBlock,Option.some.injEq] at e
   exact gne hg4 (by decide) (by rw[e]))
 have hown3:bN W3 base (.slice (some ⟨og,0,none⟩) n n) own:=h.own.kept hg (.inr fun e=>h.sepo t htm (by rw[←e];rfl))
 have hogt:W3.heap[og]? =some (.cells cur 3 (0,0)):=aK hg hgo (fun e=>h.sepo t htm e)
 refine⟨hparts4,aK g2 hcell3 (gne hcell3 (by decide)),hown3.kept g2 (.inr fun e=>gne hogt (by decide) (by rw[←e];rfl)),h.tiles.turn hk hg ho he hat,fun s hs=>?_,(h.ext.grown hg h.ext.size (fun q e=>by have:=(hblow q e).1;have:=h.w0;omega)).setCell (by show W0.heap.size≤g;have:=h.w0;omega) _,aCD h.bs (aCD hg.size (by simp)),h.w0⟩
 rcases List.mem_or_eq_of_mem_set hs with hs|hs
 ·exact h.sepo s hs
 ·rw[hs];rcases hat with e|⟨q,e,hq⟩
  ·rw[e];exact h.sepo t htm
  ·rw[e];intro e2;injection e2 with e2;omega
end
theorem UR(ls:List bK)(x:bK):aJ (ls++ [x])=aJ ls++ [x.d]:=by simp[aJ]
theorem UQ(ls:List bK)(k:Nat)(x:bK):aJ (ls.set k x)=(aJ ls).set k x.d:=by simp[aJ,List.map_set]
end

section
open Go.RowKit
attribute [local go_sem] Oper.semAt_some cT bM cC bG
def upS(K:Nat→Bool)(x:Nat):Nat→Bool:=fun y=>decide (y<x)&&K y
def orS(d K:Nat→Bool)(x:Nat):Nat→Bool:=fun y=>d y||(decide (y<x)&&K y)
theorem VE(K:Nat→Bool):upS K 0=fun _=>false:=by funext y;simp[upS]
theorem VX(d K:Nat→Bool):orS d K 0=d:=by funext y;simp[orS]
theorem IL(K:Nat→Bool)(x:Nat){v:Bool}(hv:v=K x):(fun y=>if y=x then v else upS K x y)=upS K (x+1):=by
 subst hv
 funext y
 simp only[upS]
 by_cases e:y=x
 ·subst e;simp
 ·have:decide (y<x+1)=decide (y<x):=by rw[decide_eq_decide];omega
  rw[if_neg e,this]
theorem VY(d K:Nat→Bool)(x:Nat){v:Bool}(hv:v=(d x||K x)):(fun y=>if y=x then v else orS d K x y)=orS d K (x+1):=by
 subst hv
 funext y
 simp only[orS]
 by_cases e:y=x
 ·subst e;simp
 ·have:decide (y<x+1)=decide (y<x):=by rw[decide_eq_decide];omega
  rw[if_neg e,this]
theorem aAB(d K:Nat→Bool)(x:Nat):orS d K x x=d x:=by simp[orS]
theorem YD{K:Nat→Bool}{n:Nat}(h:∀y,K y=true→y<n):upS K n=K:=by
 funext y
 simp only[upS]
 cases hk:K y with
 |false=>simp
 |true=>simp[h y hk]
theorem YJ{d K e:Nat→Bool}{n:Nat}(h:∀y,K y=true→y<n)(he:∀y,e y=(d y||K y)):orS d K n=e:=by
 funext y
 rw[he]
 simp only[orS]
 cases hk:K y with
 |false=>simp
 |true=>simp[h y hk]
structure LpJ(w:World)(fo:Obj)(inn dn:Nat→Bool)(v:Value)(M:List aI)(W:World):Prop where
 fn:W.heap[w.heap.size]? =some fo
 inn:W.heap[w.heap.size+1]? =some (bY inn)
 done:W.heap[w.heap.size+1+1]? =some (bY dn)
 out:eD W (w.heap.size+1+1+1) v M
 below:Below w.heap.size w W
theorem LpJ.ext{w:World}{fo:Obj}{inn dn:Nat→Bool}{v:Value}{M:List aI}{W W':World}(h:LpJ w fo inn dn v M W)(hb:Below W.heap.size W W'):LpJ w fo inn dn v M W':=
 ⟨aB hb h.fn,aB hb h.inn,aB hb h.done,h.out.ext hb,aA h.below hb⟩
theorem LpJ.mark{w:World}{fo:Obj}{inn dn dn':Nat→Bool}{v:Value}{M:List aI}{W:World}(h:LpJ w fo inn dn v M W){x:Nat}(hx:x<200){b:Bool}(e:(fun k=>if k=x then b else dn k)=dn'):LpJ w fo inn dn' v M (W.setCell ⟨w.heap.size+1+1,x,none⟩ (.bool b)):=by
 have hg:=bA W (w.heap.size+1+1) x (.bool b)
 refine⟨aK hg h.fn (by simp;omega),aK hg h.inn (by simp),kC h.done hx e,h.out.kept hg ?_,h.below.setCell (by simp;omega) _⟩
 cases hv:v.ownBlock with
 |none=>exact .inl rfl
 |some k=>exact .inr (by have:=cK.low h.out hv;simp;omega)
theorem LpJ.other{w:World}{fo:Obj}{inn dn:Nat→Bool}{v:Value}{M:List aI}{W:World}(h:LpJ w fo inn dn v M W){S x:Nat}(hS:w.heap.size+1+1<S)(hv:∀k,v.ownBlock=some k→k<S)(b:Bool):LpJ w fo inn dn v M (W.setCell ⟨S,x,none⟩ (.bool b)):=by
 have hg:=bA W S x (.bool b)
 refine⟨aK hg h.fn (by simp;omega),aK hg h.inn (by simp;omega),aK hg h.done (by simp;omega),h.out.kept hg ?_,h.below.setCell (by simp;omega) _⟩
 cases hb:v.ownBlock with
 |none=>exact .inl rfl
 |some k=>exact .inr (by have:=hv k hb;simp;omega)
theorem LpJ.app{w:World}{fo:Obj}{inn dn:Nat→Bool}{v v':Value}{M:List aI}{m:Nat}{p:aI}{W W':World}(h:LpJ w fo inn dn v M W)(hm:m=M.length)(hm1:m+1≤1000)(ho:W'.ownsRow (w.heap.size+1+1+1) 112 202 v' (m+1) (M.flatMap ptC++ptC p))(hg:W.grownBy W' v.ownBlock):LpJ w fo inn dn v' (M++ [p]) W':=by
 have key:∀k,v.ownBlock=some k→w.heap.size+1+1+1≤k:=fun k hk=>(cK.low h.out hk).1
 have hne:∀k,k<w.heap.size+1+1+1→v.ownBlock≠some k:=fun k hk e=>by have:=key k e;omega
 have hz:=aN h.done
 refine⟨aK hg h.fn (hne _ (by omega)),aK hg h.inn (hne _ (by omega)),aK hg h.done (hne _ (by omega)),⟨?_,?_⟩,h.below.grown hg (by omega) (fun q e=>by have:=key q e;omega)⟩
 ·rw[List.length_append,List.flatMap_append,←hm];simpa using ho
 ·have:=h.out.2;rw[List.length_append];simp;omega
theorem LpJ.appL{w:World}{fo:Obj}{inn dn:Nat→Bool}{v v':Value}{M N:List aI}{m k:Nat}{W W':World}(h:LpJ w fo inn dn v M W)(hm:m=M.length)(hk:k=N.length)(hm1:m+k≤1000)(ho:W'.ownsRow (w.heap.size+1+1+1) 112 202 v' (m+k) (M.flatMap ptC++N.flatMap ptC))(hg:W.grownBy W' v.ownBlock):LpJ w fo inn dn v' (M++N) W':=by
 have key:∀k,v.ownBlock=some k→w.heap.size+1+1+1≤k:=fun k hk=>(cK.low h.out hk).1
 have hne:∀k,k<w.heap.size+1+1+1→v.ownBlock≠some k:=fun k hk e=>by have:=key k e;omega
 have hz:=aN h.done
 refine⟨aK hg h.fn (hne _ (by omega)),aK hg h.inn (hne _ (by omega)),aK hg h.done (hne _ (by omega)),⟨?_,?_⟩,h.below.grown hg (by omega) (fun q e=>by have:=key q e;omega)⟩
 ·rw[List.length_append,List.flatMap_append,←hm,←hk];exact ho
 ·rw[List.length_append];omega
theorem VP{ops:Array Oper}{rest:List Oper}{o:Oper}{a:Act}{C:World→Prop}{Q:Act→Prop}(hw:Region.wanted o (yielded ops a.tmps)=true)(x y z:Operand)(s:Nat→Bool)(kd e:Int)(ho:o.op=.build 112 #[(0,x),(1,y),(2,z)])
  (hx:a.eval x=.int .i64 kd) (hy:a.eval y=.agg (aQ s)) (hz:a.eval z=.int .i64 e) (h:wpQuiet Tryz.prog ops C Q rest (a.put o.dst (ptV ⟨s,kd,e⟩))):wpQuiet Tryz.prog ops C Q (o :: rest) a:=
 BigFrame.wpQuiet_want hw fun _ hK=>⟨ptV ⟨s,kd,e⟩,fun w hC=>by
  unfold Oper.quietAt execOp;simp only[ho,List.map_toArray,List.map_cons,List.map_nil,hx,hy,hz,Sem.run_bind,wD,Result.andThen_ok,Sem.run_pure]
  exact⟨rfl,rfl⟩,hK _ h⟩
theorem LO(pa:Option Addr)(pn pc:Nat)(ba:Option Addr)(bn bc:Nat)(bs:List gS)(hf:bU (aG bs)=true):
  ∀(f:Nat) (inn:Nat→Bool) (w:World),dU w ba bn bs→cA inn→(∀y,inn y=true→y<bn)→(dZ (aG bs) f inn).length≤1000→(aZ inn).length<f→
  Calls Tryz.prog 72 #[dX pa pn pc ba bn bc,.agg (aQ inn)] w (RE w (dZ (aG bs) f inn)):=by
 intro f
 induction f with
 |zero=>intro inn w _ _ _ _ h;omega
 |succ f ih=>
  intro inn w hb hc hin hlen hlt;have hg:fS (aG bs)=true:=(bQ hf).1;have hgg:=(cY _).1 hg;have hbn:bn≤200:=by have:=hgg.1.2;rw[dD,hb.1.1] at this;exact this
  have HTL:Hid ((aG bs).length=bn):=by rw[Hid,dD,hb.1.1]
  have IH:=aBO ih;have H:=aBO hb;have HC:=aBO hc;have HIN:=aBO hin;have HLEN:=aBO hlen;have HLT:=aBO hlt;have HG:=aBO hg;have HF:=aBO hf;clear ih hb hc hin hlen hlt hgg hg
  go_enter Tryz.func72,Tryz.ntmps72
  go_upto_region 3 with (fail)
  obtain⟨W,hW⟩:∃W,W=((w.alloc (bO pa pn pc ba bn bc)).alloc (bY inn)).alloc (.cells Tryz.zeroCells107 107):=⟨_,rfl⟩
  rw[←hW]
  have h0:LpJ w (bO pa pn pc ba bn bc) inn (pB (aG bs) f inn 0) (.slice none 0 0) (lV (aG bs) f inn 0) W:=
   ⟨by rw[hW,aBR _ _ _ (by simp;omega),aBR _ _ _ (by simp)];exact aBS _ _,by rw[hW,aBR _ _ _ (by simp),aU _ _ _ (by simp)],
    by rw[hW,aU _ _ _ (by simp),gQ,PE],cK.nil _ _ _ _ _,by rw[hW];exact((aD _ _).alloc (by simp) _).alloc (by simp;omega) _⟩
  have H0:=aBO h0;clear hW h0;go_wp2
  go_loopw [5,7,8,9,10,11] (fun s5 s7 _ _ _ _ wr=>∃b:Nat,b≤bn∧s7=.int .i64 (b:Int)∧Hid (LpJ w (bO pa pn pc ba bn bc) inn (pB (aG bs) f inn b) s5 (lV (aG bs) f inn b) wr)) (fun _ s7 _ _ _ _ _=>bn-(intOf s7).toNat)
  case atStart=>exact⟨0,by omega,rfl,H0⟩
  case round=>
   obtain⟨b,hb,rfl,HJ⟩:=hrel;clear H0;have kf:=HJ.out.fn;have k1:wr.cell? ⟨w.heap.size,1,none⟩=some (.slice ba bn bc):=by rw[aBP _ _ _ _ _ _ kf];rfl
   clear kf;by_cases hlt:b<bn
   ·have hlt':(b:Int)<(bn:Int):=by omega
    have hb200:b<200:=by omega
    have HSK:Hid (inn b=false∨pB (aG bs) f inn b b=true∨bL (nx (aG bs)) inn b b=false→∀W',Below wr.heap.size wr W'→LpJ w (bO pa pn pc ba bn bc) inn (pB (aG bs) f inn (b+1)) u5 (lV (aG bs) f inn (b+1)) W'):=fun h W' hW'=>by
     obtain⟨e1,e2⟩:=SS HC.out h;rw[e1,e2];exact HJ.out.ext hW'
    have ci:=cX HJ.out.inn b hb200;have cd:=cX HJ.out.done b hb200;obtain⟨ib,hib⟩:∃x,x=inn b:=⟨_,rfl⟩
    rw[←hib] at ci;have HIB:=aBO hib;clear hib;go_upto_region 6 with (fail)
    cases ib with
    |false=>
     have HN:=aBO (HSK.out (.inl HIB.out.symm) wr (aBQ _ _));go_wp2
     go_roundw
     case rel=>exact⟨b+1,by omega,by go_num,HN⟩
     case measure=>simp[intOf];omega
    |true=>
     obtain⟨db,hdb⟩:∃x,x=pB (aG bs) f inn b b:=⟨_,rfl⟩
     rw[←hdb] at cd;have HDB:=aBO hdb;clear hdb;cases db with
     |true=>
      have HN:=aBO (HSK.out (.inr (.inl HDB.out.symm)) wr (aBQ _ _));go_wp2
      go_roundw
      case rel=>exact⟨b+1,by omega,by go_num,HN⟩
      case measure=>simp[intOf];omega
     |false=>
      obtain⟨wb,hwb⟩:∃x,x=bL (nx (aG bs)) inn b b:=⟨_,rfl⟩
      have hix:∀w9,(Instr.index 107 (.agg (aQ (bL (nx (aG bs)) inn b))) (.int .i64 (b:Int))).run Tryz.prog w9=.ok (.bool wb) w9:=fun w9=>by rw[hwb];exact qN w9 _ b hb200
      have HWB:=aBO hwb;clear hwb
      go_upto_if 36 with (first
       |((with_reducible show wpList _ _ _ (⟨some 29,_,_,_,_,_⟩ :: _) _ _);refine bS (o:=⟨some 29,.load 25 _,_,_,_,_⟩) (by kernel_rfl) 25 _ rfl w.heap.size rfl 25 _ (0,0) _ HJ.out.fn Tryz.underlying25 rfl aS ?_)
       |((with_reducible show wpList _ _ _ (⟨some 31,_,_,_,_,_⟩ :: _) _ _);refine bS (o:=⟨some 31,.load 107 _,_,_,_,_⟩) (by kernel_rfl) 107 _ rfl (w.heap.size+1) rfl 107 _ (0,0) _ HJ.out.inn Tryz.underlying107 rfl (by rw[aF];exact aV) ?_)
       |(go_at_call 98
         (with_reducible refine(gY pa pn pc ba bn bc bs b inn wr (H.out.ext HJ.out.below) HG.out hb200 HC.out (HIN.out b)).mono ?_)
         rintro e w2 ⟨rfl,hb2⟩;have HB2:=aBO hb2;have HJ2:=aBO (HJ.out.ext hb2)
         clear hb2))
      clear hix;cases wb with
      |false=>
       have HN:=aBO (HSK.out (.inr (.inr HWB.out.symm)) w2 HB2.out);go_wp2
       go_roundw
       case rel=>exact⟨b+1,by omega,by go_num,HN⟩
       case measure=>simp[intOf];omega
      |true=>
       clear HSK ci cd k1;have hfd:=OG HC.out HIB.out.symm HDB.out.symm HWB.out.symm;have hkt:=fun x=>JW (ts:=aG bs) (b:=b) HC.out x;have hkl:∀y,bT (aG bs) b inn y=true→1≤y∧y<bn:=fun y hy=>by rw[←HTL.out];exact WQ HF.out HC.out hy
       have hkc:cA (bT (aG bs) b inn):=oL HC.out b;have hkb:bT (aG bs) b inn b=true:=by rw[hkt b,←HWB.out];rfl
       obtain⟨K,hK⟩:∃K,K=bT (aG bs) b inn:=⟨_,rfl⟩
       rw[←hK] at hkl hkc hkb;simp only[←hK] at hfd hkt;have HKT:=aBO hkt;have HKL:=aBO hkl;have HKC:=aBO hkc;have HKB:=aBO hkb;have HFD:=aBO hfd;obtain⟨dd,hdd⟩:∃d,d=pB (aG bs) f inn b:=⟨_,rfl⟩
       rw[←hdd] at HJ2 HJ;have HDD:=aBO hdd;clear hkt hkl hkc hkb hK hfd hdd;have hown:∀k,u5.ownBlock=some k→k<w2.heap.size:=fun k hk=>(cK.low HJ2.out.out hk).2;have hSl:w.heap.size+1+1<w2.heap.size:=aN HJ2.out.done;go_upto_region 8 with (fail)
       obtain⟨S,hSd⟩:∃S,S=w2.heap.size:=⟨_,rfl⟩
       obtain⟨W3,hW3⟩:∃W,W=w2.alloc (.cells Tryz.zeroCells107 107):=⟨_,rfl⟩
       rw[←hW3,←hSd];rw[←hSd] at hown hSl;have hj3:LpJ w (bO pa pn pc ba bn bc) inn (orS dd K 0) u5 (lV (aG bs) f inn b) W3:=by rw[VX,hW3];exact HJ2.out.ext (aD _ _)
       have hs3:W3.heap[S]? =some (bY (upS K 0)):=by rw[hW3,hSd,aBS,gQ,VE]
       have HJ3:=aBO hj3;have HSJ3:=aBO hs3;have HOW:=aBO hown;clear hW3 hSd hj3 hs3 hown HJ HJ2 HB2;go_wp2
       go_loopw [9] (fun s9 wi=>∃x:Nat,x≤bn∧s9=.int .i64 (x:Int)∧Hid (LpJ w (bO pa pn pc ba bn bc) inn (orS dd K x) u5 (lV (aG bs) f inn b) wi)∧Hid (wi.heap[S]? =some (bY (upS K x)))) (fun s9 _=>bn-(intOf s9).toNat)
       case atStart=>exact⟨0,by omega,rfl,HJ3,HSJ3⟩
       case round=>
        obtain⟨x,hx,rfl,HJi,HSJi⟩:=hrel;clear HJ3 HSJ3;have kf:=HJi.out.fn;have k1:wr.cell? ⟨w.heap.size,1,none⟩=some (.slice ba bn bc):=by rw[aBP _ _ _ _ _ _ kf];rfl
        clear kf;by_cases hxl:x<bn
        ·have hxl':(x:Int)<(bn:Int):=by omega
         have hx200:x<200:=by omega
         go_upto_region 11 with (fail)
         go_cut [] (fun wx=>Hid (LpJ w (bO pa pn pc ba bn bc) inn (orS dd K x) u5 (lV (aG bs) f inn b) wx)∧Hid (wx.heap[S]? =some (bY (upS K (x+1)))))
         case first=>
          clear k1;have hkx:=HKT.out x;obtain⟨bv,hbv⟩:∃z,z=bL (nx (aG bs)) inn b x:=⟨_,rfl⟩
          obtain⟨cv,hcv⟩:∃z,z=bL (nx (aG bs)) inn x b:=⟨_,rfl⟩
          rw[←hbv,←hcv] at hkx;have hix:∀w9,(Instr.index 107 (.agg (aQ (bL (nx (aG bs)) inn b))) (.int .i64 (x:Int))).run Tryz.prog w9=.ok (.bool bv) w9:=fun w9=>by rw[hbv];exact qN w9 _ x hx200
          have hiy:∀w9,(Instr.index 107 (.agg (aQ (bL (nx (aG bs)) inn x))) (.int .i64 (b:Int))).run Tryz.prog w9=.ok (.bool cv) w9:=fun w9=>by rw[hcv];exact qN w9 _ b hb200
          have HKX:=aBO hkx;clear hbv hcv hkx;cases bv with
          |false=>
           go_wp2_with (first
            |((with_reducible show wpList _ _ _ (⟨some 45,_,_,_,_,_⟩ :: _) _ _);refine bS (o:=⟨some 45,.load 25 _,_,_,_,_⟩) (by kernel_rfl) 25 _ rfl w.heap.size rfl 25 _ (0,0) _ HJi.out.fn Tryz.underlying25 rfl aS ?_)
            |((with_reducible show wpList _ _ _ (⟨some 47,_,_,_,_,_⟩ :: _) _ _);refine bS (o:=⟨some 47,.load 107 _,_,_,_,_⟩) (by kernel_rfl) 107 _ rfl (w.heap.size+1) rfl 107 _ (0,0) _ HJi.out.inn Tryz.underlying107 rfl (by rw[aF];exact aV) ?_)
            |(go_at_call 98
              (with_reducible refine(gY pa pn pc ba bn bc bs b inn wr (H.out.ext HJi.out.below) HG.out hb200 HC.out (HIN.out b)).mono ?_)
              rintro e w4 ⟨rfl,hb9⟩;have HJ4:=aBO (HJi.out.ext hb9);have HSJ4:=aBO (aB hb9 HSJi.out);clear hb9;have hcs:=cX HSJ4.out x hx200
              have hfs:=gC HSJ4.out x))
           go_meet
           exact⟨HJ4.out.other hSl HOW.out false,kC HSJ4.out hx200 (IL K x (by rw[HKX.out];rfl))⟩
          |true=>
           go_wp2_with (first
            |((with_reducible show wpList _ _ _ (⟨some 45,_,_,_,_,_⟩ :: _) _ _);refine bS (o:=⟨some 45,.load 25 _,_,_,_,_⟩) (by kernel_rfl) 25 _ rfl w.heap.size rfl 25 _ (0,0) _ HJi.out.fn Tryz.underlying25 rfl aS ?_)
            |((with_reducible show wpList _ _ _ (⟨some 47,_,_,_,_,_⟩ :: _) _ _);refine bS (o:=⟨some 47,.load 107 _,_,_,_,_⟩) (by kernel_rfl) 107 _ rfl (w.heap.size+1) rfl 107 _ (0,0) _ HJi.out.inn Tryz.underlying107 rfl (by rw[aF];exact aV) ?_)
            |((with_reducible show wpList _ _ _ (⟨some 52,_,_,_,_,_⟩ :: _) _ _);refine bS (o:=⟨some 52,.load 25 _,_,_,_,_⟩) (by kernel_rfl) 25 _ rfl w.heap.size rfl 25 _ (0,0) _ HJ4.out.fn Tryz.underlying25 rfl aS ?_)
            |((with_reducible show wpList _ _ _ (⟨some 54,_,_,_,_,_⟩ :: _) _ _);refine bS (o:=⟨some 54,.load 107 _,_,_,_,_⟩) (by kernel_rfl) 107 _ rfl (w.heap.size+1) rfl 107 _ (0,0) _ HJ4.out.inn Tryz.underlying107 rfl (by rw[aF];exact aV) ?_)
            |(go_at_call 98
              (with_reducible refine(gY pa pn pc ba bn bc bs x inn w4 (H.out.ext HJ4.out.below) HG.out hx200 HC.out (HIN.out x)).mono ?_)
              rintro e w5 ⟨rfl,hb9⟩;have HJ5:=aBO (HJ4.out.ext hb9);have HSJ5:=aBO (aB hb9 HSJ4.out);clear hb9;have hcs:=cX HSJ5.out x hx200
              have hfs:=gC HSJ5.out x)
            |(go_at_call 98
              (with_reducible refine(gY pa pn pc ba bn bc bs b inn wr (H.out.ext HJi.out.below) HG.out hb200 HC.out (HIN.out b)).mono ?_)
              rintro e w4 ⟨rfl,hb9⟩;have HJ4:=aBO (HJi.out.ext hb9);have HSJ4:=aBO (aB hb9 HSJi.out)
              clear hb9))
           go_meet
           exact⟨HJ5.out.other hSl HOW.out cv,kC HSJ5.out hx200 (IL K x (by rw[HKX.out,Bool.true_and]))⟩
         case rest=>
          obtain⟨hj5,hs5⟩:=hcut;have cd:=cX hj5.out.done x hx200;have fd:=gC hj5.out.done x;have cs:=cX hs5.out x hx200;rw[aAB] at cd;rw[show upS K (x+1) x=K x by simp[upS]] at cs;have hsl:=aN hj5.out.done;obtain⟨kx,hkx⟩:∃z,z=K x:=⟨_,rfl⟩
          obtain⟨dx,hdx⟩:∃z,z=dd x:=⟨_,rfl⟩
          rw[←hkx] at cs;rw[←hdx] at cd;have HKX:=aBO hkx;have HDX:=aBO hdx
          have HNX:Hid (∀v,v=(dd x||K x)→LpJ w (bO pa pn pc ba bn bc) inn (orS dd K (x+1)) u5 (lV (aG bs) f inn b) (wc.setCell ⟨w.heap.size+1+1,x,none⟩ (.bool v))∧(wc.setCell ⟨w.heap.size+1+1,x,none⟩ (.bool v)).heap[S]? =some (bY (upS K (x+1)))):=fun v hv=>
           ⟨hj5.out.mark hx200 (VY dd K x hv),aK (bA wc (w.heap.size+1+1) x (.bool v)) hs5.out (by simp;omega)⟩
          clear hkx hdx;cases dx with
          |true=>
           have HN:=aBO (HNX.out true (by rw[←HDX.out];rfl));go_wp2
           go_roundw
           case rel=>exact⟨x+1,by omega,by go_num,HN.out.1,HN.out.2⟩
           case measure=>simp[intOf];omega
          |false=>
           have HN:=aBO (HNX.out kx (by rw[←HDX.out,HKX.out];rfl));go_wp2
           go_roundw
           case rel=>exact⟨x+1,by omega,by go_num,HN.out.1,HN.out.2⟩
           case measure=>simp[intOf];omega
        ·obtain rfl:x=bn:=by omega
         have hj4:LpJ w (bO pa pn pc ba x bc) inn (pB (aG bs) f inn (b+1)) u5 (lV (aG bs) f inn b) wr:=by
          have e:orS dd K x=pB (aG bs) f inn (b+1):=YJ (fun y hy=>(HKL.out y hy).2) (fun y=>by rw[HFD.out.1 y,HDD.out]);rw[←e];exact HJi.out
         have hs4:wr.heap[S]? =some (bY K):=by rw[←YD (K:=K) (n:=x) (fun y hy=>(HKL.out y hy).2)];exact HSJi.out
         have HJ4:=aBO hj4;have HSJ4:=aBO hs4;have HLN2:Hid ((lV (aG bs) f inn (b+1)).length≤1000):=aCD (YI (f:=f) (inn:=inn) (by rw[HTL.out];exact hbn) (by rw[HTL.out];exact HIN.out) (b:=b+1) (by rw[HTL.out];omega)) HLEN.out;have hE0:=FW HF.out HKC.out HKB.out (fun y hy=>by rw[HTL.out];exact HKL.out y hy);have HME:Hid (∀e,e∈aM (aG bs) K→K e=true):=fun e he=>((fM HKC.out e).1 he).1;obtain⟨E,hE⟩:∃E,E=aM (aG bs) K:=⟨_,rfl⟩
         rw[←hE] at hE0 HME;have HEE:=aBO hE;have HFD2:=HFD.out.2;rw[←hE] at HFD2;have HFO:=aBO HFD2;clear hj4 hs4 HJi HSJi hE HFD2 HFD
         go_upto_region 14 with (first
          |(refine wpList_load_row (o:=⟨some 70,.load 25 _,_,_,_,_⟩) rfl 25 _ rfl w.heap.size rfl 25 _ (0,0) _ HJ4.out.fn Tryz.underlying25 rfl aS ?_)
          |(refine wpList_load_row (o:=⟨some 71,.load 107 _,_,_,_,_⟩) rfl 107 _ rfl S rfl 107 _ (0,0) _ HSJ4.out Tryz.underlying107 rfl (by rw[aF];exact aV) ?_)
          |(go_at_call 107
            refine(pH pa pn pc ba x bc bs K wr (H.out.ext HJ4.out.below) HG.out).mono ?_;rintro e w6 ⟨ve,rfl,hoe,hbe⟩;rw[←HEE.out] at hoe;have hel:(aO E).length=E.length:=(by simp[aO])
            obtain⟨ea,ec,rfl⟩:=hoe.form;have hoe2:=hoe.ints;have HOE6:=aBO hoe;rw[hel] at hoe2⊢;have HE6:=aBO hoe2;have HJ6:=aBO (HJ4.out.ext hbe);have HSJ6:=aBO (aB hbe HSJ4.out);have HSZ6:=aBO (aN HSJ4.out)
            clear hoe hoe2 hbe hel))
         clear HJ4 HSJ4;have hel0:0<E.length:=List.length_pos_iff.2 hE0;clear hE0;by_cases h1:1<E.length
         ·have h1':((E.length:Int) != 1)=true:=by simp;omega
          rw[if_pos h1] at HFO;have HFO1:Hid (lV (aG bs) f inn (b+1)=lV (aG bs) f inn b++ [⟨K,3,-1⟩]):=HFO.out;clear HFO;obtain⟨va,vc,rfl⟩:=HJ6.out.out.form;obtain⟨m,hm⟩:∃m,m=(lV (aG bs) f inn b).length:=⟨_,rfl⟩
          have hm1:m+1≤1000:=by have:=HLN2.out;rw[HFO1.out] at this;simp at this;omega
          rw[←hm] at HJ6 HOW⊢;have hown6:=HJ6.out.out.1;rw[←hm] at hown6;have HOWN6:=aBO hown6;have HMM:=aBO hm;have hb6:w.heap.size+1+1+1≤w6.heap.size:=aN HJ6.out.done;clear hm hown6
          go_wp2_with (first
           |(refine wpList_load_row (o:=⟨some 77,.load 107 _,_,_,_,_⟩) rfl 107 _ rfl S rfl 107 _ (0,0) _ HSJ6.out Tryz.underlying107 rfl (by rw[aF];exact aV) ?_)
           |(refine DV (o:=⟨some 78,.build 112 _,_,_,_,_⟩) rfl _ _ _ K 3 (-1) rfl rfl rfl rfl ?_)
           |(refine qQ (o:=⟨some 79,.buildSlice _ _ _,_,_,_,_⟩) rfl _ ⟨K,3,-1⟩ rfl rfl ?_)
           |(refine bV (o:=⟨some 80,.call _,_,_,_,_⟩) rfl w6 (.tmp 76) (.tmp 79) 104 112 rfl (w.heap.size+1+1+1) _ 202 216 Tryz.underlying104 wU (by kernel_rfl) (by omega) (.slice va m vc) m _ (ptC ⟨K,3,-1⟩) rfl HOWN6.out w6.heap.size rfl rfl (kD _) (sI _) (by simp only[maxLen];omega) (by omega) hb6 ?_
             intro g cap w7 hown7 hg7 hat7;have HJ7:=aBO (LpJ.app HJ6.out HMM.out hm1 hown7 hg7)
             clear hown7 hg7 hat7))
          go_roundw
          case rel=>exact⟨b+1,by omega,by go_num,by rw[HFO1.out];exact HJ7⟩
          case measure=>simp[intOf];omega
         ·have hE1:E= [E.headD 0]:=rW (fun e=>by rw[e] at hel0;simp at hel0) h1;obtain⟨e0,he0⟩:∃e0,e0=E.headD 0:=⟨_,rfl⟩
          rw[←he0] at hE1;rw[if_neg h1,←he0] at HFO;have HFO1:Hid (lV (aG bs) f inn (b+1)=lV (aG bs) f inn b++⟨K,2,(e0:Int)⟩ :: dZ (aG bs) f (bW K e0)):=HFO.out;have hKe:K e0=true:=HME.out e0 (by rw[hE1];simp);have he200:e0<200:=HKC.out e0 hKe;subst hE1;have h11: [e0].length=1:=rfl;have HOE:=HOE6.out;rw[h11] at HE6⊢;obtain⟨eb,eo,rfl,hce0,_⟩:=HE6.out.2.2 0 (by simp);have hce:w6.cell? ⟨eb,eo,none⟩=some (.int .i64 (e0:Int)):=hce0;obtain⟨eg,ec',heq⟩:=eI HOE.1 (by simp[aO]);injection heq with heq _ _;injection heq with heq;injection heq with heq1 heq2;subst heq1 heq2;obtain⟨ecur,heg⟩:=pL HOE;have hebl:=(HOE.1.lt eb rfl).1;have HEG:=aBO heg;obtain⟨va,vc,rfl⟩:=HJ6.out.out.form;obtain⟨m,hm⟩:∃m,m=(lV (aG bs) f inn b).length:=⟨_,rfl⟩
          rw[←hm] at HJ6 HOW⊢;have hmr:m+1+(dZ (aG bs) f (bW K e0)).length≤1000:=by have:=HLN2.out;rw[HFO1.out] at this;simp at this;omega
          have hown6:=HJ6.out.out.1;rw[←hm] at hown6;have HOWN6:=aBO hown6;have HMM:=aBO hm;have hb6:w.heap.size+1+1+1≤w6.heap.size:=aN HJ6.out.done;have HNB:Hid ((Value.slice va m vc).ownBlock≠some eb):=fun e=>by have:=HOW.out eb e;have:=HSZ6.out;omega
          have HNS:Hid ((Value.slice va m vc).ownBlock≠some S):=fun e=>by have:=HOW.out S e;omega
          have HSZ:=aBO (aN HSJ6.out);clear hm hown6 HOE hce0 heg he0 h1 hel0 HFO;go_upto_region 16 with (fail)
          have g1:∀n:mD (fun W'=>w6.grownBy W' (Value.slice va m vc).ownBlock),n.val.cell? ⟨eb,0,none⟩=some (.int .i64 (e0:Int)):=fun n=>by
           have h1:=aK n.prop HEG.out HNB.out;rw[aBP _ _ _ _ _ _ h1,←aBP _ _ _ _ _ _ HEG.out];exact hce
          have g3:∀w',(∃n:mD (fun W'=>w6.grownBy W' (Value.slice va m vc).ownBlock),w'=n.val)→w'.heap[S]? =some (bY K):=fun w' ⟨n,e⟩=>by rw[e];exact aK n.prop HSJ6.out HNS.out
          have hne:Nonempty (mD (fun W'=>w6.grownBy W' (Value.slice va m vc).ownBlock)):=wV (qO _ _);clear hce;refine qK (fun w'=>∃n:mD (fun W'=>w6.grownBy W' (Value.slice va m vc).ownBlock),w'=n.val) [(0,6,some (6,true)),(7,0,some (7,true)),(8,1,none)] (by kernel_rfl) (by kernel_rfl) (mG (gK _ _)) ?_;simp only[lW,List.take_succ_cons,List.take_zero,List.drop_succ_cons,List.drop_zero]
          repeat (first
           |go_big_quiet_skip
           |(refine aW (o:=⟨some 82,.load 107 _,_,_,_,_⟩) (by rfl) 107 _ rfl S rfl 107 (aQ K) (0,0) _ g3 Tryz.underlying107 rfl (by rw[aF];exact aV) ?_;simp only[zJ,zG,zH,zI])
           |(refine VP (o:=⟨some 86,.build 112 _,_,_,_,_⟩) (by rfl) _ _ _ K 2 (e0:Int) rfl rfl rfl rfl ?_;simp only[zJ,zG,zH,zI])
           |go_big_quiet_step (fail))
          refine wpQuiet_nil ?_;refine dP rfl rfl ?_;refine JA _ ⟨K,2,(e0:Int)⟩ rfl rfl ?_;simp only[zJ,zG,zH,zI];refine⟨mG (lP (gK _ _) (World.grownBy_alloc _ _ _)),?_⟩;refine wpQuiet_nil ?_;refine dP rfl rfl ?_;refine mM w6.drew (.tmp 81) (.tmp 87) 104 112 rfl (w.heap.size+1+1+1) _ 202 216 Tryz.underlying104 wU (by kernel_rfl) (by omega) (.slice va m vc) m _ (ptC ⟨K,2,(e0:Int)⟩) rfl (by have:=(HJ6.out.out.ext (pQ w6)).1;rwa [←HMM.out] at this) w6.heap.size rfl rfl (kD _) (sI _) (by simp only[maxLen];omega) (by omega) hb6 ?_;intro g cap w7 hown7 hg7 hat7;have hgg:w6.grownBy w7 (Value.slice va m vc).ownBlock:=lP (gK _ _) hg7;have HJ7:=aBO (LpJ.app HJ6.out HMM.out (by omega) hown7 hgg);have HSJ7:=aBO (aK hgg HSJ6.out HNS.out);have HE7:Hid (w7.cell? ⟨eb,0,none⟩=some (.int .i64 (e0:Int))):=by
           have h1:=g1 ⟨w7,hgg⟩;exact h1
          have HS7:=aBO hgg.size;have hown7':=hown7;have HOWN7:=aBO hown7';have HAT7:=aBO hat7;refine⟨mG hgg,?_⟩;simp only[zJ,zG,zH,zI];clear hown7 hown7' hg7 hat7 hgg g1 g3 hne HJ6 HSJ6 HEG HOWN6 HOE6 HE6
          repeat (go_big_quiet_step (fail))
          refine wpQuiet_nil ?_;refine NoPanic.normal ?_;obtain⟨v7,hv7⟩:∃v,v=Value.slice (some ⟨g,0,none⟩) (m+1) cap:=⟨_,rfl⟩
          have hob7:∀k,v7.ownBlock=some k→k<w7.heap.size:=fun k hk=>by
           rw[hv7] at hk;exact(HOWN7.out.lt k hk).2
          have HOB7:=aBO hob7;have HV7:=aBO hv7;clear hv7 hob7;have hne7:=HE7.out;have hsz7:=HS7.out
          go_upto_region 18 with (first
           |((with_reducible show wpList _ _ _ (⟨some 89,_,_,_,_,_⟩ :: _) _ _);refine wpList_load_row (o:=⟨some 89,.load 107 _,_,_,_,_⟩) rfl 107 _ rfl S rfl 107 _ (0,0) _ HSJ7.out Tryz.underlying107 rfl (by rw[aF];exact aV) ?_)
           |((with_reducible show wpList _ _ _ (⟨none,_,_,_,_,_⟩ :: _) _ _);refine wpList_store_row (o:=⟨none,.store 107 _ _,_,_,_,_⟩) rfl 107 _ _ rfl w7.heap.size (aQ K) rfl rfl 107 _ (aBS _ _) (by rw[aF];exact aV) rfl (dE _) ?_))
          obtain⟨R2,hR2⟩:∃R,R=w7.heap.size:=⟨_,rfl⟩
          obtain⟨W8,hW8⟩:∃W,W=(w7.alloc (.cells Tryz.zeroCells107 107)).setRow w7.heap.size (aQ K):=⟨_,rfl⟩
          rw[←hW8,←hR2,cW];have hr8:W8.heap[R2]? =some (bY K):=by rw[hW8,hR2];exact setRow_heap _ _ _ _ _ _ (aBS _ _)
          have hb8:Below w7.heap.size w7 W8:=by rw[hW8];exact below_setRow (aD _ _) (aBV _) _
          have he8:=aH hb8 hne7;have hcR:=cX hr8 e0 he200;have hfR:=gC hr8 e0;have hlR:=aN hr8;have HR8:=aBO hr8;have HB8:=aBO hb8;have HR2:=aBO hR2;rw[hKe] at hcR;clear hW8 hR2 hr8 hb8 hne7 hsz7 HSJ7;go_upto_region 19 with (fail)
          obtain⟨W9,hW9⟩:∃W,W=W8.setCell ⟨R2,e0,none⟩ (.bool false):=⟨_,rfl⟩
          rw[←hW9];have hr9:W9.heap[R2]? =some (bY (bW K e0)):=by rw[hW9];exact kC HR8.out he200 (by funext k;simp only[bW];by_cases e:k=e0<;>simp[e])
          have hb9:Below w7.heap.size w7 W9:=by rw[hW9];exact HB8.out.setCell (by show w7.heap.size≤R2;rw[HR2.out];exact aBV _) _
          have HR9:=aBO hr9;have HB9:=aBO hb9;have HJ9:=aBO (HJ7.out.ext hb9);have hlt9:(aZ (bW K e0)).length<f:=by
           have h1:=AP (s:=K) (inn:=inn) (fun y hy=>by rw[HKT.out y,Bool.and_eq_true] at hy;exact((fG HC.out b y).1 hy.1).2.inn) HC.out hKe;have:=HLT.out;omega
          have HLT9:=aBO hlt9;have HLC9:Hid (cA (bW K e0)):=jQ HKC.out e0;have HLL9:Hid (∀y,bW K e0 y=true→y<x):=fun y hy=>(HKL.out y (oG.1 hy).2).2;clear hW9 hr9 hb9 hlt9 hcR hfR hlR he8 HR8 HB8 HR2;obtain⟨N,hN⟩:∃N,N=dZ (aG bs) f (bW K e0):=⟨_,rfl⟩
          rw[←hN] at hmr;have HNN:=aBO hN;clear hN
          go_wp2_with (first
           |((with_reducible show wpList _ _ _ (⟨some 95,_,_,_,_,_⟩ :: _) _ _);refine wpList_load_row (o:=⟨some 95,.load 25 _,_,_,_,_⟩) rfl 25 _ rfl w.heap.size rfl 25 _ (0,0) _ HJ9.out.fn Tryz.underlying25 rfl aS ?_)
           |((with_reducible show wpList _ _ _ (⟨some 96,_,_,_,_,_⟩ :: _) _ _);refine wpList_load_row (o:=⟨some 96,.load 107 _,_,_,_,_⟩) rfl 107 _ rfl R2 rfl 107 _ (0,0) _ HR9.out Tryz.underlying107 rfl (by rw[aF];exact aV) ?_)
           |(go_at_call 72
             refine(IH.out (bW K e0) W9 (H.out.ext HJ9.out.below) HLC9.out HLL9.out (by rw[←HNN.out];omega) HLT9.out).mono ?_;rintro e w10 ⟨v10,rfl,hp10,hb10⟩;rw[←HNN.out] at hp10;obtain⟨na,nc,rfl⟩:=hp10.form;obtain⟨nl,hnl⟩:∃k,k=N.length:=⟨_,rfl⟩
             rw[←hnl] at hp10 hmr⊢;have HNL:=aBO hnl;have HP10:=aBO hp10;have HJ10:=aBO (HJ9.out.ext hb10);have hb10':w.heap.size+1+1+1≤w10.heap.size:=aN HJ10.out.done
             clear hp10 hb10 hnl)
           |((with_reducible show wpList _ _ _ (⟨some 98,_,_,_,_,_⟩ :: _) _ _);refine fN (o:=⟨some 98,.call _,_,_,_,_⟩) w10 rfl (.tmp 94) (.tmp 97) 104 112 rfl (w.heap.size+1+1+1) _ 202 216 Tryz.underlying104 wU (by kernel_rfl) (by omega) (.slice (some ⟨g,0,none⟩) (m+1) cap) (m+1) _ rfl (by have:=HJ10.out.out.1;rw[List.length_append,←HMM.out] at this;exact this) na nl nc rfl (N.flatMap ptC) (by rw[HNL.out];exact jY ptC 202 kD N) (kM.news (cK.recs kD HP10.out) kD (by omega)) (fun u hu=>by obtain⟨p,_,hp⟩:=List.mem_flatMap.1 hu;exact sI p u hp) (by simp only[maxLen];omega) (by omega) hb10' ?_
             intro v' w11 hown11 hg11 hat11;have HJ11:=aBO (LpJ.appL HJ10.out (by rw[List.length_append,HMM.out];rfl) HNL.out (by omega) hown11 hg11)
             clear hown11 hg11 hat11))
          go_roundw
          case rel=>exact⟨b+1,by omega,by go_num,by rw[HFO1.out,show(⟨K,2,(e0:Int)⟩:aI) :: dZ (aG bs) f (bW K e0)= [⟨K,2,(e0:Int)⟩]++N by rw[HNN.out];rfl,←List.append_assoc];exact HJ11⟩
          case measure=>simp[intOf];omega
   ·obtain rfl:b=bn:=by omega
    have HE:Hid (lV (aG bs) f inn b=dZ (aG bs) (f+1) inn):=by rw[Hid,←HTL.out];exact QH (by rw[HTL.out];exact hbn) (by rw[HTL.out];exact HIN.out)
    obtain⟨va,vc,rfl⟩:=HJ.out.out.form;go_wp2
    go_ret
    exact⟨_,rfl,by rw[←HE.out];exact HJ.out.out.mono (by omega),HJ.out.below⟩
end
end Go.Proofs.YtblhmdhfhaencaaGreat
