/-
 law17's turned:tiles,with each part another one.
-/
import Derived.Test.YtblhmdhfhaencaaGreatVA
import Derived.Test.YtblhmdhfhaencaaGreatVE
import Derived.Test.YtblhmdhfhaencaaGreatTR
import Derived.Test.YtblhmdhfhaencaaGreatDF
import Derived.Test.YtblhmdhfhaencaaGreatTL
import Derived.Deep.CutBlock
import Derived.Deep.CutRange
import Derived.IntWalk
import Derived.Test.YtblhmdhfhaencaaGreatAI2
namespace Go.Proofs.YtblhmdhfhaencaaGreat
set_option linter.unusedSimpArgs false
set_option linter.unusedVariables false
set_option linter.unusedSectionVars false
set_option maxRecDepth 100000
set_option maxHeartbeats 40000000
section
open Go.RowKit Go.Shelf
attribute [local go_sem] Oper.semAt_some cT bM cC bG
theorem vV(f:jE)(hpn:f.pn≤17592186044416)(a:Option Addr)(n c:Nat)(ls:List bK)(N:Nat)(hN:N≤5000)(hn9:n≤900)(w:World)(h:jH w f)(ht:cM w a n ls)(hb1:∀t∈ls,1≤t.bn∧t.bn≤100000):
  Calls Tryz.prog 50 #[eO f,.slice a n c,.int .i64 (N:Int)] w fun e w'=>e=.returned (.bool true)∧Below w.heap.size w w':=by
 have HT0:=aBO ht
 have HF0:=aBO h
 have HNB:=aBO hb1
 clear h ht hb1
 obtain⟨m6,hm6⟩:∃q,q=N%6:=⟨_,rfl⟩
 obtain⟨m5,hm5⟩:∃q,q=N%5:=⟨_,rfl⟩
 obtain⟨m4,hm4⟩:∃q,q=N%4:=⟨_,rfl⟩
 have e6:(N:Int)%6=(m6:Int):=by omega
 have e5:(N:Int)%5=(m5:Int):=by omega
 have e4:(N:Int)%4=(m4:Int):=by omega
 have b6:m6<6:=by omega
 have b5:m5<5:=by omega
 have b4:m4<4:=by omega
 clear hm6 hm5 hm4
 go_enter Tryz.func50,Tryz.ntmps50
 go_upto_region 1 with (fail)
 obtain⟨W,hW⟩:∃W,W=w.alloc (bO f.pa f.pn f.pc f.ba f.bn f.bc):=⟨_,rfl⟩
 rw[←hW]
 have hk0:W.heap[w.heap.size]? =some (bO f.pa f.pn f.pc f.ba f.bn f.bc):=by rw[hW];exact aBS _ _
 have hB:Below w.heap.size w W:=by rw[hW];exact aD _ _
 have HK:=aBO hk0
 have HB:=aBO hB
 have HF:=aBO (HF0.out.ext hB)
 have HT:=aBO (HT0.out.ext hB)
 generalize w.heap.size=F at HK⊢
 clear hW hk0 hB HF0 HT0
 go_wp2
 go_loopw [7,8,9,10] (fun s7 _ _ _ wr=>∃k:Nat,k≤n∧s7=.int .i64 (k:Int)∧Hid (Below W.heap.size W wr)) (fun s7 _ _ _ _=>n-(intOf s7).toNat)
 case atStart=>exact⟨0,by omega,rfl,aBQ _ _⟩
 case round=>
  obtain⟨k,hk,rfl,HBk⟩:=hrel;by_cases hkn:k<n
  ·have hkn':(k:Int)<(n:Int):=by omega
   obtain⟨V,hV⟩:∃V,V=wr:=⟨_,rfl⟩
   rw[←hV] at HBk⊢;clear hV;go_wp2
   go_loopw [8,9,10] (fun s8 _ _ wr=>∃j:Nat,j≤9∧s8=.int .i64 (j:Int)∧Hid (Below V.heap.size V wr)) (fun s8 _ _ _=>9-(intOf s8).toNat)
   case atStart=>exact⟨0,by omega,rfl,aBQ _ _⟩
   case round=>
    obtain⟨j,hj,rfl,HBj⟩:=hrel;by_cases hj9:j<9
    ·have hj9':(j:Int)<9:=by omega
     obtain⟨U,hU⟩:∃U,U=wr:=⟨_,rfl⟩
     rw[←hU] at HBj⊢;clear hU;have HBU:=aBO (aA HBk.out HBj.out);have HTU:=aBO (HT.out.ext HBU.out);have HFU:=aBO (HF.out.ext HBU.out);have HKU:=aBO (aB HBU.out HK.out);obtain⟨t0,b,o,hlk,hok,rfl,c0,c1,c2⟩:=HTU.out.cells hkn;obtain⟨⟨kd,pr,bl⟩,ba,bn,bc⟩:=t0;have hbn:=HNB.out _ (aBY hlk);dsimp only at hbn hok c0 c1 c2;obtain⟨hin,hbc,hikd,hipr⟩:=hok;have HI:=aBO hin;have HC0:=aBO c0;have HC1:=aBO c1;have HC2:=aBO c2;have HLK:=aBO hlk;have HKP:Hid (I64 kd∧I64 pr):=⟨hikd,hipr⟩
     have HOLD:Hid (∀t∈ls,(dY U t.ba t.bn t.d.blocks∧t.bn≤t.bc∧I64 t.d.kind∧I64 t.d.parent)∧1≤t.bn):=fun t h=>⟨HTU.out.2 t h,(HNB.out t h).1⟩;have hbl:bl.length=bn:=hin.1;have HBL:=aBO hbl;clear hlk hin c0 c1 c2 hikd hipr hbl
     go_upto_region 8 with (
      (at_builtin
       go_loud (refine DB U rfl (.tmp 21) (.tmp 22) rfl U.heap.size rfl rfl (some ⟨b,o,none⟩) n c rfl ls HTU.out (by omega) (by omega) ?_)
       intro g cap w1 hb1 ho1;have HX1:=aBO ho1;have HB1:=aBO hb1
       clear hb1 ho1))
     have HRG:Hid (w1.rangeAt b (o+k*3) [.int .i64 kd,.int .i64 pr,.slice ba bn bc]):=US (aH HB1.out HC0.out) (aH HB1.out HC1.out) (aH HB1.out HC2.out)
     go_upto_region 9 with (
      ((with_reducible show wpList _ _ _ (⟨some 27,_,_,_,_,_⟩ :: _) _ _);refine wpList_load_mid (op:=⟨some 27,.load 76 _,_,_,_,_⟩) rfl 76 _ rfl b (o+k*3) rfl [.int .i64 kd,.int .i64 pr,.slice ba bn bc] _ HRG.out Tryz.underlying76 rfl (by kernel_rfl) ?_))
     obtain⟨w2,hw2⟩:∃x,x=w1.alloc (kZ ⟨⟨kd,pr,bl⟩,ba,bn,bc⟩):=⟨_,rfl⟩
     have hob2:w2.heap[w1.heap.size]? =some (kZ ⟨⟨kd,pr,bl⟩,ba,bn,bc⟩):=by rw[hw2];exact aBS _ _
     have hb12:Below w1.heap.size w1 w2:=by rw[hw2];exact aD _ _
     have HOB2:=aBO hob2;have HX2:=aBO (cK.ext HX1.out hb12);have HB2:=aBO (aA HB1.out hb12);have HLOW:Hid (U.heap.size≤w1.heap.size):=HB1.out.size;have HTG:Hid (w1.heap.size≠g):=by have h9:g<w1.heap.size:=(HX1.out.low rfl).2;rw[Hid];omega
     rw[show w1.alloc (Obj.cells #[Value.int .i64 kd,Value.int .i64 pr,Value.slice ba bn bc] 76)=w2 from hw2.symm];generalize w1.heap.size=T at *;clear hw2 hob2 hb12 HX1 HB1 HRG;have HIN2:=aBO (HI.out.ext HB2.out);have c2:=aH (aD w2 (.cells #[] 3)) (aH HB2.out HC2.out);have hUw2:U.heap.size≤w2.heap.size:=HB2.out.size
     go_cut [] (fun wx=>∃gB cB:Nat,Hid (Tn U wx T g n cap gB bn cB ls ⟨kd,pr,bl⟩))
     case first=>
      have hTw:=aN HOB2.out
      go_wp2_with (
       (at_builtin
        go_loud (refine oN _ rfl (.tmp 28) (.tmp 33) 22 rfl U.heap.size _ 8 Tryz.underlying22 lY rfl (by omega) _ [] rfl (mX (W:=w2) (xs:= []) rfl _ hUw2 (fun z hz=>by cases hz) (by simp)) ba bn bc rfl bl (HIN2.out.ext (aD _ _)) (by have:=HBL.out;simp;omega) (by simp;omega) ?_)
        intro v1 w3 ho3 hg3 hat3;rw[List.nil_append] at ho3;obtain⟨gB,cB,hv1⟩:=eI ho3.1 (by have:=HBL.out;omega);rw[HBL.out] at hv1;subst hv1;obtain⟨hob3,htn⟩:=YF HX2.out HOLD.out HOB2.out ho3 hg3 HKP.out HLOW.out HTG.out HB2.out;have HTN:=aBO htn;have c8:w3.cell? ⟨T,2,none⟩=some (.slice ba bn bc):=(by rw[aBP _ _ _ _ _ _ hob3];rfl)
        have f8:w3.frozen? ⟨T,2,none⟩=false:=frozen_of_row _ _ _ _ _ hob3;have l8:=aN hob3
        clear ho3 hg3 hat3 hob3 htn))
      go_meet
      exact⟨gB,cB,HTN⟩
     case rest=>
      obtain⟨gB,cB,HTN⟩:=hcut;clear HX2 HB2 HIN2 c2 hUw2 HOB2 HC0 HC1 HC2 HI HLOW HTG hbc;obtain⟨w9,hw9⟩:∃x,x=wc:=⟨_,rfl⟩
      rw[←hw9] at HTN⊢;clear hw9
      go_upto_block 4 with (fail)
      go_cut [9] (fun s9 wx=>Hid (St U wx T n s9))
      case first=>as_aux_lemma=>
       have c0:w9.cell? ⟨T,0,none⟩=some (.int .i64 kd):=by rw[aBP _ _ _ _ _ _ HTN.out.obj];rfl
       have c1:w9.cell? ⟨T,1,none⟩=some (.int .i64 pr):=by rw[aBP _ _ _ _ _ _ HTN.out.obj];rfl
       have c2:w9.cell? ⟨T,2,none⟩=some (.slice (some ⟨gB,0,none⟩) bn cB):=by rw[aBP _ _ _ _ _ _ HTN.out.obj];rfl
       have f0:w9.frozen? ⟨T,0,none⟩=false:=frozen_of_row _ _ _ _ _ HTN.out.obj;have f1:w9.frozen? ⟨T,1,none⟩=false:=frozen_of_row _ _ _ _ _ HTN.out.obj;have f2:w9.frozen? ⟨T,2,none⟩=false:=frozen_of_row _ _ _ _ _ HTN.out.obj;have lT:=aN HTN.out.obj;have hcb:=FK HTN.out.blk;have hsz:U.heap.size≤w9.heap.size:=HTN.out.below.size;have hjj:j=0∨j=1∨j=2∨j=3∨j=4∨j=5∨j=6∨j=7∨j=8:=by omega
       rcases hjj with rfl|rfl|rfl|rfl|rfl|rfl|rfl|rfl|rfl
       ·go_wp2
        go_meet
        exact HTN.out.turn 0 _ ⟨⟨(m6:Int),pr,bl⟩,some ⟨gB,0,none⟩,bn,cB⟩ rfl ⟨⟨HTN.out.ta.1.1,hcb,(by show I64 (m6:Int);unfold I64;omega),HKP.out.2⟩,HTN.out.ta.2⟩ (fun b o e=>by injection e with e;injection e with e _;rw[←e];exact HTN.out.bt)
       ·go_wp2
        go_meet
        exact HTN.out.turn 1 _ ⟨⟨kd,(m4:Int)-2,bl⟩,some ⟨gB,0,none⟩,bn,cB⟩ rfl ⟨⟨HTN.out.ta.1.1,hcb,HKP.out.1,(by show I64 ((m4:Int)-2);unfold I64;omega)⟩,HTN.out.ta.2⟩ (fun b o e=>by injection e with e;injection e with e _;rw[←e];exact HTN.out.bt)
       ·obtain⟨q,hq⟩:∃q,q=bn-1:=⟨_,rfl⟩
        have eq1:(bn:Int)-1=(q:Int):=by omega
        have hqc:(q:Int)≤(cB:Int):=by omega
        have hqb:q≤bn:=by omega
        clear hq;go_wp2
        go_meet
        exact HTN.out.turn 2 _ ⟨⟨kd,pr,bl.take q⟩,some ⟨gB,0,none⟩,q,cB⟩ rfl ⟨⟨HTN.out.ta.1.1.takeN hqb,(by show q≤cB;omega),HKP.out⟩,HTN.out.ta.2⟩ (fun b o e=>by injection e with e;injection e with e _;rw[←e];exact HTN.out.bt)
       ·have hy:I64 ((m5:Int)-1):=by unfold I64;omega
        go_wp2_with (
         (at_builtin
          go_loud (refine kS (o:=⟨some 66,.call _,_,_,_,_⟩) rfl w9 (.tmp 61) (.tmp 65) 22 rfl U.heap.size _ 8 Tryz.underlying22 lY rfl (.slice (some ⟨gB,0,none⟩) bn cB) bl rfl HTN.out.blk ((m5:Int)-1) hy w9.heap.size rfl rfl (by have:=HBL.out;omega) (by omega) hsz ?_)
          intro g5 c5 w5 ho5 hg5 hat5;have hob5:=aK hg5 HTN.out.obj (fun e=>HTN.out.bt (Option.some.inj e));have c5:w5.cell? ⟨T,2,none⟩=some (.slice (some ⟨gB,0,none⟩) bn cB):=(by rw[aBP _ _ _ _ _ _ hob5];rfl)
          have f5:w5.frozen? ⟨T,2,none⟩=false:=frozen_of_row _ _ _ _ _ hob5;have l5:=aN hob5;have HS5:=aBO (HTN.out.moved hg5 ho5 2 rfl)
          clear ho5 hg5 hat5 hob5))
        go_meet
        exact HS5
       ·obtain⟨v0,k0,k1,k2⟩:=SC HTN.out.blk hbn.1;have hb0:(0:Int)<(bn:Int):=by omega
        go_wp2
        go_meet
        exact HTN.out.put 0 (by unfold I64;omega)
       ·have hrow:=HTN.out.row.1;rw[HTN.out.len] at hrow;have HROW:=aBO hrow;have h1c:(1:Int)≤(cB:Int):=by omega
        have hb1':(1:Int)≤(bn:Int):=by omega
        clear hrow;by_cases hc:cB=1
        ·obtain rfl:bn=1:=by omega
         subst hc
         go_wp2_with (
          (at_builtin
           go_loud (refine bV (o:=⟨some 84,.call _,_,_,_,_⟩) rfl w9 (.tmp 77) (.tmp 83) 26 76 rfl U.heap.size _ 3 40 Tryz.underlying26 nV rfl (by omega) (.slice (some ⟨g,0,none⟩) n cap) n _ [.int .i64 4,.int .i64 (k:Int),.slice (some ⟨gB,0,none⟩) 1 1] rfl HROW.out w9.heap.size rfl rfl rfl (fun u hu=>by simp at hu;rcases hu with rfl|rfl|rfl<;>rfl) (by simp only[maxLen];omega) (by omega) hsz ?_)
           intro g5 c5 w5 hown5 hg5 hat5;have hob5:=aK (k:=T) hg5 HTN.out.obj (fun e=>HTN.out.tg (Option.some.inj e).symm);have c5:w5.cell? ⟨T,2,none⟩=some (.slice (some ⟨gB,0,none⟩) 1 1):=(by rw[aBP _ _ _ _ _ _ hob5];rfl)
           have f5:w5.frozen? ⟨T,2,none⟩=false:=frozen_of_row _ _ _ _ _ hob5;have l5:=aN hob5;have HS5:=aBO (HTN.out.cut hg5 (k:=k) (by omega) hown5 (by omega) (hat5.imp id (fun e=>by omega)) hbn.1 (.slice (some ⟨gB,0,none⟩) 0 0) (by rw[if_pos rfl]))
           clear hown5 hg5 hat5 hob5))
         go_meet
         exact HS5
        ·have hc':¬(cB:Int)=1:=by omega
         go_wp2_with (
          (at_builtin
           go_loud (refine bV (o:=⟨some 84,.call _,_,_,_,_⟩) rfl w9 (.tmp 77) (.tmp 83) 26 76 rfl U.heap.size _ 3 40 Tryz.underlying26 nV rfl (by omega) (.slice (some ⟨g,0,none⟩) n cap) n _ [.int .i64 4,.int .i64 (k:Int),.slice (some ⟨gB,0,none⟩) 1 cB] rfl HROW.out w9.heap.size rfl rfl rfl (fun u hu=>by simp at hu;rcases hu with rfl|rfl|rfl<;>rfl) (by simp only[maxLen];omega) (by omega) hsz ?_)
           intro g5 c5 w5 hown5 hg5 hat5;have hob5:=aK (k:=T) hg5 HTN.out.obj (fun e=>HTN.out.tg (Option.some.inj e).symm);have c5:w5.cell? ⟨T,2,none⟩=some (.slice (some ⟨gB,0,none⟩) bn cB):=(by rw[aBP _ _ _ _ _ _ hob5];rfl)
           have f5:w5.frozen? ⟨T,2,none⟩=false:=frozen_of_row _ _ _ _ _ hob5;have l5:=aN hob5;have HS5:=aBO (HTN.out.cut hg5 (k:=k) (by omega) hown5 (by omega) (hat5.imp id (fun e=>by omega)) hbn.1 (.slice (some ⟨gB,1,none⟩) (bn-1) (cB-1)) (by rw[if_neg hc]))
           clear hown5 hg5 hat5 hob5))
         go_meet
         exact HS5
       ·have hn1:(0:Int)<(n:Int):=by omega
        obtain⟨x0,hx0⟩:∃x,ls[0]? =some x:=⟨_,aBU (by rw[HTN.out.len];omega)⟩
        have htd:Tn U w9.drew T g n cap gB bn cB ls ⟨kd,pr,bl⟩:=⟨HTN.out.row,HTN.out.old,HTN.out.obj,HTN.out.blk,HTN.out.i64,HTN.out.low,bZ HTN.out.below 1,HTN.out.tg⟩
        obtain⟨X,hX⟩:∃X,X=(⟨⟨kd,pr,bl⟩,ba,bn,bc⟩:bK):=⟨_,rfl⟩
        have hlX:=HLK.out;rw[←hX] at hlX;have HS5:=aBO (htd.swap hkn X x0 (aBY hlX) (aBY hx0));have hr1:=htd.row.range dM x0 (k:=k) (by rw[htd.len];exact hkn);have hr2:=htd.row.range dM x0 (k:=0) (by rw[htd.len];omega);rw[aBT,hlX,Option.getD_some] at hr1;rw[aBT,hx0,Option.getD_some,Nat.zero_mul] at hr2;have ht1:w9.drew.there g 0 3:=by have:=htd.row.there dM (k:=0) (by rw[htd.len];omega);rw[Nat.zero_mul] at this;exact this
        have hs1:=htd.xrow.set (k:=0) (t:=X) (by omega) (htd.xrow.each _ (aBY hlX));rw[Nat.zero_mul] at hs1;have ht2:(w9.drew.setCells g 0 (cN X)).there g (k*3) 3:=hs1.row.there dM (k:=k) (by rw[hs1.len];exact hkn);clear hs1 htd hX hlX hx0;go_wp2;obtain⟨w5,hw5⟩:∃x,x=w9.drew.setCells g 0 (cN X):=⟨_,rfl⟩
        rw[←hw5] at HS5 ht2;obtain⟨w6,hw6⟩:∃x,x=w5.setCells g (k*3) (cN x0):=⟨_,rfl⟩
        rw[←hw6] at HS5;refine oU (fun _=>True) (by kernel_rfl) ?_;refine cP 0 6 (by kernel_rfl) trivial ?_;simp only[List.take_succ_cons,List.take_zero,List.drop_succ_cons,List.drop_zero]
        repeat (go_big_quiet_step (fail))
        refine wpQuiet_nil ?_;refine cP 7 2 (by kernel_rfl) trivial ?_;simp only[List.take_succ_cons,List.take_zero,List.drop_succ_cons,List.drop_zero]
        repeat (go_big_quiet_step (fail))
        refine wpQuiet_nil ?_;refine IB 6 9 (by kernel_rfl) ?_ ?_
        ·refine aC rfl rfl ?_;refine wp_load_mid 76 _ rfl g (k*3) rfl (cN X) _ hr1 Tryz.underlying76 rfl (by rw[dM];kernel_rfl) ?_;refine⟨Or.inr trivial,?_⟩;simp only[zJ,zG,zH,zI];refine eQ 9 (by kernel_rfl) ?_;refine aC rfl rfl ?_;refine wp_load_mid 76 _ rfl g (0) rfl (cN x0) _ hr2 Tryz.underlying76 rfl (by rw[dM];kernel_rfl) ?_;refine⟨Or.inr trivial,?_⟩;simp only[zJ,zG,zH,zI];refine cP 10 1 (by kernel_rfl) trivial ?_;simp only[List.take_succ_cons,List.take_zero,List.drop_succ_cons,List.drop_zero]
         repeat (go_big_quiet_step (fail))
         refine wpQuiet_nil ?_;refine eQ 11 (by kernel_rfl) ?_;refine aC rfl rfl ?_;refine wp_store_mid 76 _ _ rfl g (0) (cN X).toArray rfl rfl ht1 (by kernel_rfl) (all_oneCell_toArray (nS _)) ?_;simp only[cW,cR];rw[←hw5];refine⟨Or.inr trivial,?_⟩;refine cP 12 1 (by kernel_rfl) trivial ?_;simp only[List.take_succ_cons,List.take_zero,List.drop_succ_cons,List.drop_zero]
         repeat (go_big_quiet_step (fail))
         refine wpQuiet_nil ?_;refine eQ 13 (by kernel_rfl) ?_;refine aC rfl rfl ?_;refine wp_store_mid 76 _ _ rfl g (k*3) (cN x0).toArray rfl rfl ht2 (by kernel_rfl) (all_oneCell_toArray (nS _)) ?_;simp only[cW,cR];rw[←hw6];refine⟨Or.inr trivial,?_⟩;refine mE (by kernel_rfl) ?_;clear hw5 hw6 hr1 hr2 ht1 ht2
         go_wp2_with fail
         go_meet
         exact HS5
        ·refine aC rfl rfl ?_;refine wp_load_mid 76 _ rfl g (0) rfl (cN x0) _ hr2 Tryz.underlying76 rfl (by rw[dM];kernel_rfl) ?_;refine⟨Or.inr trivial,?_⟩;simp only[zJ,zG,zH,zI];refine eQ 6 (by kernel_rfl) ?_;refine aC rfl rfl ?_;refine wp_load_mid 76 _ rfl g (k*3) rfl (cN X) _ hr1 Tryz.underlying76 rfl (by rw[dM];kernel_rfl) ?_;refine⟨Or.inr trivial,?_⟩;simp only[zJ,zG,zH,zI];refine cP 10 1 (by kernel_rfl) trivial ?_;simp only[List.take_succ_cons,List.take_zero,List.drop_succ_cons,List.drop_zero]
         repeat (go_big_quiet_step (fail))
         refine wpQuiet_nil ?_;refine eQ 11 (by kernel_rfl) ?_;refine aC rfl rfl ?_;refine wp_store_mid 76 _ _ rfl g (0) (cN X).toArray rfl rfl ht1 (by kernel_rfl) (all_oneCell_toArray (nS _)) ?_;simp only[cW,cR];rw[←hw5];refine⟨Or.inr trivial,?_⟩;refine cP 12 1 (by kernel_rfl) trivial ?_;simp only[List.take_succ_cons,List.take_zero,List.drop_succ_cons,List.drop_zero]
         repeat (go_big_quiet_step (fail))
         refine wpQuiet_nil ?_;refine eQ 13 (by kernel_rfl) ?_;refine aC rfl rfl ?_;refine wp_store_mid 76 _ _ rfl g (k*3) (cN x0).toArray rfl rfl ht2 (by kernel_rfl) (all_oneCell_toArray (nS _)) ?_;simp only[cW,cR];rw[←hw6];refine⟨Or.inr trivial,?_⟩;refine mE (by kernel_rfl) ?_;clear hw5 hw6 hr1 hr2 ht1 ht2
         go_wp2_with fail
         go_meet
         exact HS5
       ·have hrow:=HTN.out.row.1;rw[HTN.out.len] at hrow;have HROW:=aBO hrow;clear hrow
        go_wp2_with (first
         |((with_reducible show wpList _ _ _ (⟨some 106,_,_,_,_,_⟩ :: _) _ _);refine wpList_load_row (o:=⟨some 106,.load 76 _,_,_,_,_⟩) rfl 76 _ rfl T rfl 76 _ (0,0) _ HTN.out.obj Tryz.underlying76 rfl (by kernel_rfl) ?_)
         |(at_builtin
           go_loud (refine bV (o:=⟨some 108,.call _,_,_,_,_⟩) rfl w9 (.tmp 105) (.tmp 107) 26 76 rfl U.heap.size _ 3 40 Tryz.underlying26 nV rfl (by omega) (.slice (some ⟨g,0,none⟩) n cap) n _ [.int .i64 kd,.int .i64 pr,.slice (some ⟨gB,0,none⟩) bn cB] rfl HROW.out w9.heap.size rfl rfl rfl (fun u hu=>by simp at hu;rcases hu with rfl|rfl|rfl<;>rfl) (by simp only[maxLen];omega) (by omega) hsz ?_)
           intro g5 c5 w5 hown5 hg5 hat5;have HS5:=aBO (HTN.out.again hg5 hown5 (by omega) (hat5.imp id (fun e=>by omega)))
           clear hown5 hg5 hat5))
        go_meet
        exact HS5
       ·go_wp2
        go_meet
        exact HTN.out.st
      case rest=>
       obtain⟨w8,hw8⟩:∃x,x=wc:=⟨_,rfl⟩
       rw[←hw8] at hcut⊢;clear hw8 HTN;obtain⟨g2,n2,cap2,xs,t,rfl,hx,hob,hta,hn2,hbl⟩:=hcut;have HX:=aBO hx;have HOB:=aBO hob;have HTA:=aBO hta;have HBL8:=aBO hbl;have hk2:(k:Int)<(n2:Int):=by omega
       clear hx hob hta hbl
       go_upto_if 110 with (fail)
       go_cut [] (fun wx=>∃xs',Hid (cM wx (some ⟨g2,0,none⟩) n2 xs')∧Hid (Below U.heap.size U wx))
       case first=>
        by_cases h6:j=6
        ·subst h6;go_wp2
         go_meet
         exact⟨xs,HX.out.ok,HBL8⟩
        ·have h6':¬(j:Int)=6:=by omega
         have hth:=HX.out.row.there dM (k:=k) (by rw[HX.out.len];omega);have hrT:w8.rangeAt T 0 (cN t):=US (by rw[aBP _ _ _ _ _ _ HOB.out];rfl) (by rw[aBP _ _ _ _ _ _ HOB.out];rfl) (by rw[aBP _ _ _ _ _ _ HOB.out];rfl);have HRT:=aBO hrT;have HOK:Hid (cM (w8.setCells g2 (k*3) (cN t)) (some ⟨g2,0,none⟩) n2 (xs.set k t)):=(HX.out.set (k:=k) (by omega) HTA.out).ok;have HBS:Hid (Below U.heap.size U (w8.setCells g2 (k*3) (cN t))):=HX.out.set_below HBL8.out _ _;clear hrT
         go_wp2_with (first
          |((with_reducible show wpList _ _ _ (⟨some 113,_,_,_,_,_⟩ :: _) _ _);refine wpList_load_mid (op:=⟨some 113,.load 76 _,_,_,_,_⟩) rfl 76 _ rfl T 0 rfl (cN t) _ HRT.out Tryz.underlying76 rfl (by rw[dM];kernel_rfl) ?_)
          |((with_reducible show wpList _ _ _ (⟨none,_,_,_,_,_⟩ :: _) _ _);refine wpList_store_mid rfl 76 _ _ rfl g2 (k*3) (cN t).toArray rfl rfl hth (by kernel_rfl) (all_oneCell_toArray (nS _)) ?_))
         go_meet
         exact⟨_,HOK,HBS⟩
       case rest=>
        obtain⟨xs2,HT2,HB2⟩:=hcut;obtain⟨w7,hw7⟩:∃x,x=wc:=⟨_,rfl⟩
        rw[←hw7] at HT2 HB2⊢;clear hw7 HX HOB HTA HBL8;have HF7:=aBO (HFU.out.ext HB2.out);have HK7:=aBO (aB HB2.out HKU.out);have ik:I64 (k:Int):=by unfold I64;omega
        have im:I64 ((m5:Int)-1):=by unfold I64;omega
        have TT:∀(z:Int) (hz:I64 z) (W':World),Below w7.heap.size w7 W'→Calls Tryz.prog 7 #[eO f,.slice (some ⟨g2,0,none⟩) n2 cap2,.int .i64 z] W' fun e w''=>e=.returned (.bool true)∧Below w7.heap.size w7 w'':=fun z hz W' hb=>(oO f hpn (some ⟨g2,0,none⟩) n2 cap2 xs2 z hz W' (HF7.out.ext hb) (HT2.out.ext hb)).mono fun e w'' h=>⟨h.1,aA hb h.2⟩;have HT1:=aBO (TT (k:Int) ik);have HTM:=aBO (TT ((m5:Int)-1) im);have QF:Hid (∀W',Below w7.heap.size w7 W'→W'.heap[F]? =some (bO f.pa f.pn f.pc f.ba f.bn f.bc)):=fun W' hb=>aB hb HK7.out;have hb0:Below w7.heap.size w7 w7:=aBQ _ _;clear TT ik im;go_upto_region 30 with (fail)
        go_cut [128] (fun s128 wx=>s128=.bool false∧Hid (Below w7.heap.size w7 wx))
        case first=>
         go_wp2_with (first
          |((with_reducible show wpList _ _ _ (⟨some 115,_,_,_,_,_⟩ :: _) _ _);refine wpList_load_row (o:=⟨some 115,.load 25 _,_,_,_,_⟩) rfl 25 _ rfl F rfl 25 _ (0,0) _ (QF.out _ (by assumption)) Tryz.underlying25 rfl aS ?_)
          |((with_reducible show wpList _ _ _ (⟨some 121,_,_,_,_,_⟩ :: _) _ _);refine bS (o:=⟨some 121,.load 25 _,_,_,_,_⟩) (by kernel_rfl) 25 _ rfl F rfl 25 _ (0,0) _ (QF.out _ (by assumption)) Tryz.underlying25 rfl aS ?_)
          |(go_at_call 7;(with_reducible refine(HT1.out _ (by assumption)).mono ?_);rintro e wk ⟨rfl,hbk⟩)
          |(go_at_call 7;(with_reducible refine(HTM.out _ (by assumption)).mono ?_);rintro e wk ⟨rfl,hbk⟩))
         go_meet
         exact⟨rfl,by assumption⟩
        case rest=>as_aux_lemma=>
         obtain⟨rfl,HBc⟩:=hcut;have HB9:=aBO (aA HBj.out (aA HB2.out HBc.out));clear HT1 HTM QF HBc;go_wp2
         go_roundw
         case rel=>exact⟨j+1,by omega,by go_num,HB9⟩
         case measure=>simp[intOf];omega
    ·have hj9':¬(j:Int)<9:=by omega
     have HB9:=aBO (aA HBk.out HBj.out);go_wp2
     go_roundw
     case rel=>exact⟨k+1,by omega,by go_num,HB9⟩
     case measure=>simp[intOf];omega
  ·have hkn':¬(k:Int)<(n:Int):=by omega
   have HB9:=aBO (aA HB.out HBk.out);go_wp2
   go_ret
   exact⟨rfl,HB9.out⟩
end

section
open Go.RowKit
theorem nC{w w':World}(hb:Below w.heap.size w w'):w.grownBy w' none:=⟨hb.os,hb.tape,hb.output,hb.size,fun k hk _=>hb.block k hk⟩
theorem eU{w w':World}{base:Nat}{e:TypeId}{size:Nat}{v:Value}{n:Nat}{xs:List Value}(h:w.ownsRow base e size v n xs)(hb:Below w.heap.size w w'):w'.ownsRow base e size v n xs:=h.kept (nC hb) (by
 cases hv:v.ownBlock with
 |none=>exact .inl rfl
 |some b=>exact .inr (fun e=>by cases e))
theorem WY{a b c:World}{row:Option Nat}(h:a.grownBy b row)(k:b.grownBy c row):a.grownBy c row:=
 ⟨k.os.trans h.os,k.tape.trans h.tape,k.output.trans h.output,aCD h.size k.size,fun q hq hn=>(k.block q (Nat.lt_of_lt_of_le hq h.size) hn).trans (h.block q hq hn)⟩
theorem OW(w:World)(b o:Nat)(u:Value):w.grownBy (w.setCell ⟨b,o,none⟩ u) (some b):=by
 refine⟨rfl,rfl,rfl,by simp,fun q hq hn=>?_⟩
 have:q≠b:=fun e=>hn (by rw[e])
 simp[World.setCell,Array.getElem?_modify,this.symm]
theorem AV(b:Nat):∀(vs:List Value) (o:Nat) (w:World),w.grownBy (w.setCells b o vs) (some b)
 | [],_,w=>⟨rfl,rfl,rfl,aBV _,fun _ _ _=>rfl⟩
 |v :: r,o,w=>WY (OW w b o v) (AV b r (o+1) _)
theorem rI{k n size:Nat}(h:k<n):k*size+size≤n*size:=by
 have:(k+1)*size≤n*size:=Nat.mul_le_mul_right _ h
 rw[Nat.add_mul,Nat.one_mul] at this
 exact this
theorem EI{w:World}{base:Nat}{e:TypeId}{size g n c:Nat}{X:List Value}(h:w.ownsRow base e size (.slice (some ⟨g,0,none⟩) n c) n X){k:Nat}(hk:k<n):w.there g (k*size) size:=by
 have hkk:=rI (size:=size) hk
 intro j hj
 refine⟨?_,World.ownsRow.frozenAt h _⟩
 rw[World.ownsRow.cellAt h (k*size+j) (by omega),aBU (by rw[h.1];omega)]
 rfl
theorem WG{mk:Nat→Nat→List Value}{size:Nat}(hs:∀k i,(mk k i).length=size)(k n i:Nat)(hi:i<n)(j:Nat)(hj:j<size):(pA mk k n)[i*size+j]? =(mk k i)[j]?:=by
 induction n with
 |zero=>omega
 |succ n ih=>
  have hl:=vL mk size hs k n;rw[nU];by_cases h:i<n
  ·have:=rI (size:=size) h;rw[aCC (by omega),ih h]
  ·obtain rfl:i=n:=by omega
   rw[List.getElem?_append_right (by omega),hl]
   congr 1
   omega
theorem zL{w:World}{base:Nat}{e:TypeId}{size g n c m:Nat}{mk:Nat→Nat→List Value}(hs:∀k i,(mk k i).length=size){k:Nat}{Z:List Value}(h:w.ownsRow base e size (.slice (some ⟨g,0,none⟩) n c) n (pA mk k m++Z))(hmn:m≤n){i:Nat}(hi:i<m):w.rangeAt g (i*size) (mk k i):=by
 intro j v hv
 have hj:j<size:=by rw[←hs k i];exact(aBX.1 hv).1
 have h1:=rI (size:=size) hi
 have h2:m*size≤n*size:=Nat.mul_le_mul_right _ hmn
 rw[World.ownsRow.cellAt h (i*size+j) (by omega),aCC (by rw[vL mk size hs];omega),WG hs k m i hi j hj]
 exact hv
section
variable {e eo:TypeId} {size:Nat} {mk:Nat→Nat→List Value} {base K:Nat} {vo:Value} {rv:Nat→Value} {L:Nat→Nat} {w0 w w':World} {G k i:Nat} {gv gl:Nat→Value} {g:Value}
theorem FA.ext(h:FA e eo size mk base K vo rv L w0 k i w)(hb:Below w.heap.size w w'):FA e eo size mk base K vo rv L w0 k i w':=
 ⟨eU h.outer hb,fun j hj=>by
  obtain⟨X,hX,r⟩:=h.rows j hj
  exact⟨X,eU hX hb,r⟩,h.chg.grown (nC hb) (fun k e=>by cases e)⟩
theorem FB.ext(h:FB e eo size mk base K vo rv L w0 G k gv w)(hb:Below w.heap.size w w'):FB e eo size mk base K vo rv L w0 G k gv w':=
 ⟨eU h.outer hb,fun j hj=>eU (h.rows j hj) hb,eU h.gs hb,h.gne,h.gnew,fun j hj=>eU (h.grow j hj) hb,h.sep1,h.chg.grown (nC hb) (fun k e=>by cases e)⟩
theorem FBi.ext(h:FBi e eo size mk base K vo rv L w0 G k i gv g w)(hb:Below w.heap.size w w'):FBi e eo size mk base K vo rv L w0 G k i gv g w':=
 ⟨h.fb.ext hb,eU h.row hb,h.s1,h.s2,h.blk⟩
theorem FD.ext(h:FD e eo size mk base K vo rv L w0 G k gl w)(hb:Below w.heap.size w w'):FD e eo size mk base K vo rv L w0 G k gl w':=
 ⟨eU h.outer hb,fun j hj=>eU (h.rows j hj) hb,eU h.gs hb,h.gne,h.gnew,fun j hj=>by
  obtain⟨Z,hZ⟩:=h.grow j hj
  exact⟨Z,eU hZ hb⟩,h.sep1,h.chg.grown (nC hb) (fun k e=>by cases e)⟩
theorem FDi.ext{M:Nat}(h:FDi e eo size mk base K vo rv L w0 G k gl M w)(hb:Below w.heap.size w w'):FDi e eo size mk base K vo rv L w0 G k gl M w':=
 ⟨h.fd.ext hb,by
  obtain⟨Y,hY,hY1⟩:=h.many
  exact⟨Y,eU hY hb,hY1⟩,h.m1,h.m2,h.mnew⟩
theorem FA.cellR(h:FA e eo size mk base K vo rv L w0 k i w)(hk:k<K)(hi:i<L k):
  ∃b cap,rv k=.slice (some ⟨b,0,none⟩) (L k) cap∧cap≤maxLen∧L k≤cap∧w.there b (i*size) size∧b<w.heap.size:=by
 obtain⟨X,hX,_⟩:=h.rows k hk
 rcases hX.2 with ⟨e1,e2⟩|⟨b,cap,cur,e1,_,hh,h1,h2,h3,h4⟩
 ·omega
 ·rw[e1] at hX;exact⟨b,cap,e1,h2,h1,EI hX hi,(aBW.1 hh).1⟩
theorem FA.storeR(h:FA e eo size mk base K vo rv L w0 k i w)(hs:∀k i,(mk k i).length=size)(hne:e≠eo)(hsep:∀i j,i<K→j<K→i≠j→rC (rv i) (rv j))(hk:k<K)(hi:i<L k){b cap:Nat}(hb:rv k=.slice (some ⟨b,0,none⟩) (L k) cap):
  FA e eo size mk base K vo rv L w0 k (i+1) (w.setCells b (i*size) (mk k i)):=by
 obtain⟨X,hX,hX1,hX2⟩:=h.rows k hk
 rw[hb] at hX
 have hfit:=rI (size:=size) hi
 have hst:=sQ (mk k i) (i*size) X w hX (by rw[hs,hX.1];exact hfit)
 have hg:=AV b (mk k i) (i*size) w
 have hkb:(rv k).ownBlock=some b:=by rw[hb];rfl
 refine⟨h.outer.kept hg (.inr (fun e=>?_)),fun j hj=>?_,eB (S:=SB K rv) ⟨k,hk,hkb⟩ _ _ _ h.chg⟩
 ·exact gL hX h.outer hne b rfl e
 ·by_cases hjk:j=k
  ·subst hjk;refine⟨_,by rw[hb];exact hst,fun hlt=>absurd hlt (by omega),fun _=>?_⟩;have h2:=hX2 rfl;have hlen:(X.take (i*size)).length=i*size:=by rw[List.length_take,hX.1];omega
   have e1:(i+1)*size=(X.take (i*size)++mk j i).length:=by rw[List.length_append,hlen,hs,Nat.add_mul,Nat.one_mul]
   rw[e1,List.take_left,nU,←h2]
  ·obtain⟨Y,hY,hY1,hY2⟩:=h.rows j hj;exact⟨Y,hY.kept hg (.inr (fun e=>hsep k j hk hj (fun h=>hjk h.symm) b hkb e)),hY1,fun e=>absurd e hjk⟩
theorem FDi.setR{M:Nat}(h:FDi e eo size mk base K vo rv L w0 G k gl M w)(hne:e≠eo){i:Nat}(hi:i<64)(us:List Value)(hl:us.length=size)(hu:∀u∈us,u.oneCell'=true):FDi e eo size mk base K vo rv L w0 G k gl M (w.setCells M (i*size) us):=by
 obtain⟨Y,hY,hY1⟩:=h.many
 have hfit:=rI (size:=size) hi
 have hst:=sQ us (i*size) Y w hY (by rw[hl,hY.1];exact hfit)
 have hg:=AV M us (i*size) w
 refine⟨⟨h.fd.outer.kept hg (.inr (fun e=>gL hY h.fd.outer hne M rfl e)),fun j hj=>(h.fd.rows j hj).kept hg (.inr (h.m1 j hj)),h.fd.gs.kept hg (.inr (fun e=>gL hY h.fd.gs hne M rfl e)),h.fd.gne,h.fd.gnew,fun j hj=>?_,h.fd.sep1,h.fd.chg.grown hg (fun q e=>by injection e with e;exact .inr (e▸h.mnew))⟩,⟨_,hst,fun v hv=>?_⟩,h.m1,h.m2,h.mnew⟩
 ·obtain⟨Z,hZ⟩:=h.fd.grow j hj;exact⟨Z,hZ.kept hg (.inr (h.m2 j hj))⟩
 ·rcases aCA.1 hv with hv|hv
  ·rcases aCA.1 hv with hv|hv
   ·exact hY1 v (List.mem_of_mem_take hv)
   ·exact hu v hv
  ·exact hY1 v (List.mem_of_mem_drop hv)
end
end
end Go.Proofs.YtblhmdhfhaencaaGreat
