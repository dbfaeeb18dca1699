/-
 Building tiles:the smallest part in which a block is.
-/
import Derived.Test.YtbknbcmppdglhaaGreatDoorA0
import Derived.Test.YtbknbcmppdglhaaGreatDoorQH
import Derived.Test.YtbknbcmppdglhaaGreatDoorQI
import Derived.Test.YtbknbcmppdglhaaGreatDoorTH
import Derived.Test.YtbknbcmppdglhaaGreatDoorMarks
namespace Go.Proofs.YtbknbcmppdglhaaGreatDoor
set_option linter.unusedSimpArgs false
set_option linter.unusedVariables false
set_option linter.unusedSectionVars false
set_option maxRecDepth 100000
set_option maxHeartbeats 40000000
section
open Go.RowKit Go.Shelf
theorem ZS(n:Nat)(L:List fJ)(k j:Nat)(hj:j<L.length):iD n (L.take (j+1)) k=pJ k (iD n (L.take j) k) (L.getD j fH):=by
 rw[iD,iD,NS L j fH hj,List.foldl_append]
 rfl
theorem OJ{W:World}{B:Nat}{p:fJ}(h:W.heap[B]? =some (qO p)){k:Nat}(hk:k<200):W.cell? ⟨B,k,none⟩=some (.bool (p.s k)):=by
 rw[aZ _ _ _ _ _ _ h,JU]
 rw[ez,az (by simp[fO];omega),ez,az (by rw[fO];omega)]
 exact tL _ _ hk
theorem RU(P base:Nat)(a:Option Addr)(n c:Nat)(d:lJ)(L:List fJ)(k:Nat)(w:World)(hB:w.heap[P]? =some (ED d (.slice a n c)))(hL:gP w base (.slice a n c) L)(hn:n<=1000000)(hk:k<200)(hd:d.bn<=200):
  Calls Tryz.prog 152 #[.pointer (some ⟨P,0,none⟩),.int .i64 (k:Int)] w λe w'=>e=.returned (pX (iD d.bn L k))/\Below w.heap.size w w':=by
 have hlen:L.length=n:=by
  obtain⟨_,_,e⟩:=iP.form hL;injection e with _ e _;exact e.symm
 have HBL:=ac hB
 have HL:=ac hL
 clear hB hL
 go_enter Tryz.func152,Tryz.ntmps152
 go_upto_region 1 with (fail)
 obtain⟨W0,hW0⟩:∃W,W=w.alloc (.cells Tryz.zeroCells142 142):=⟨_,rfl⟩
 rw[<-hW0]
 have hz0:W0.heap[w.heap.size]? =some (.cells Tryz.zeroCells142 142 (0,0)):=by rw[hW0];exact ae _ _
 have hb0:Below w.heap.size w W0:=by rw[hW0];exact fD _ _
 have hg0:=yY (fB hb0 HBL.out)
 have HZ0:=ac hz0
 have HB0:=ac hb0
 clear hW0 hz0 hb0
 go_upto_region 2 with (first
  |(refine dD (op:=⟨some 11,.load 129 _,_,_,_,_⟩) rfl 129 _ rfl P 0 rfl _ _ hg0 aY rfl gG ?_)
  |(refine GA (o:=⟨some 13,.build 142 _,_,_,_,_⟩) rfl _ _ _ (fM d.bn) 1 0 rfl rfl rfl rfl ?_)
  |(refine aP (o:=⟨none,.store 142 _ _,_,_,_,_⟩) rfl 142 _ _ rfl W1.heap.size (gJ (mO d.bn)).toArray rfl rfl 142 Tryz.zeroCells142 (ae _ _) (hZ _) (by rw[tQ,bd,kC]) (bH (iO _)) ?_)
  |(go_at_call 56
    refine(wL d hd W0).mono ?_;rintro e W1 ⟨rfl,hb1⟩;have HB1:=ac hb1
    clear hb1))
 obtain⟨W2,hW2⟩:∃W,W=(W1.alloc (.cells Tryz.zeroCells142 142)).setRow W1.heap.size (gJ (mO d.bn)).toArray:=⟨_,rfl⟩
 rw[<-hW2,kN]
 have hz2:W2.heap[W1.heap.size]? =some (qO (mO d.bn)):=by rw[hW2];exact bt _ _ _ _ _ _ (ae _ _)
 have hb2:Below w.heap.size w W2:=by
  have h1:=fC HB0.out HB1.out;rw[hW2];exact aX (fC h1 (fD _ _)) h1.size _
 have hbl:w.heap.size<W1.heap.size:=by have:=fE HZ0.out;have:=HB1.out.size;omega
 have hz3:W2.heap[w.heap.size]? =some (.cells Tryz.zeroCells142 142 (0,0)):=by
  rw[hW2,cC _ _ _ _ (by omega)];exact fB (fC HB1.out (fD _ _)) HZ0.out
 have hc2:=cK 4 (fB hb2 HBL.out) rfl
 have HZ2:=ac hz2
 have HZ3:=ac hz3
 have HB2:=ac hb2
 clear hW2 hz2 hz3 hb2 HB0 HB1 HZ0 hg0
 generalize W1.heap.size=bb at*
 go_wp2
 go_loopw [19] (λs19 wr=>∃j:Nat,j<=n/\s19=.int .i64 (j:Int)/\Hid (wr.heap[bb]? =some (qO (iD d.bn (L.take j) k))/\wr.heap[w.heap.size]? =some (.cells Tryz.zeroCells142 142 (0,0))/\Below w.heap.size w wr)) (λs19 _=>n-(intOf s19).toNat)
 case atStart=>exact⟨0,by omega,rfl,HZ2.out,HZ3.out,HB2.out⟩
 case round=>
  obtain⟨j,hj,rfl,HR⟩:=hrel;clear HZ2 HZ3 HB2;by_cases hlt:j<n
  .have hlt':(j:Int)<(n:Int):=by omega
   have hLr:gP wr base (.slice a n c) L:=HL.out.ext HR.out.2.2;have hform:∃g,a=some ⟨g,0,none⟩:=by
    obtain⟨g,c',e⟩:=rK hLr.1 (by omega);injection e with e _ _;exact⟨g,e⟩
   obtain⟨g,rfl⟩:=hform;have hr:=jP hLr hlt;have HTK:=ac (ZS d.bn L k j (by omega));have hbw:=fE HR.out.1;clear hLr;obtain⟨q,hq⟩:∃q,q=L.getD j fH:=⟨_,rfl⟩
   obtain⟨best,hbest⟩:∃q,q=iD d.bn (L.take j) k:=⟨_,rfl⟩
   rw[<-hq] at hr HTK;rw[<-hbest] at HR HTK;clear hq hbest
   go_upto_region 5 with (first
    |(refine dD rfl 142 _ rfl g (j*202) rfl (gJ q) _ hr bm rfl (hX _) ?_)
    |(refine aP rfl 142 _ _ rfl wr.heap.size (gJ q).toArray rfl rfl 142 Tryz.zeroCells142 (ae _ _) (hZ _) (by rw[tQ,bd,kC]) (bH (iO _)) ?_))
   obtain⟨W5,hW5⟩:∃W,W=(wr.alloc (.cells Tryz.zeroCells142 142)).setRow wr.heap.size (gJ q).toArray:=⟨_,rfl⟩
   rw[<-hW5,kN];have hq5:W5.heap[wr.heap.size]? =some (qO q):=by rw[hW5];exact bt _ _ _ _ _ _ (ae _ _)
   have hb5:Below wr.heap.size wr W5:=by rw[hW5];exact aX (fD _ _) (aj _) _
   have HQ5:=ac hq5;have HP5:=ac (fB hb5 HR.out.1);have HZ5:=ac (fB hb5 HR.out.2.1);have HB5:=ac (fC HR.out.2.2 hb5);have h1:=qS hq5;have h2:=qS HP5.out;have hc5:=OJ hq5 hk;clear hW5 hb5 hq5 hr HR;generalize wr.heap.size=gq at *;obtain⟨kb,hkb⟩:∃b,b=q.s k:=⟨_,rfl⟩
   rw[<-hkb] at hc5;have HKB:=ac hkb;clear hkb;cases kb with
   |false=>
    have HN:Hid (iD d.bn (L.take (j+1)) k=best):=by rw[Hid,HTK.out,pJ,<-HKB.out];rfl
    clear h1 h2;go_wp2
    go_roundw
    case rel=>exact⟨j+1,by omega,by go_num,by rw[HN.out];exact HP5.out,HZ5.out,HB5.out⟩
    case measure=>simp[intOf];omega
   |true=>
    obtain⟨wb,hwb⟩:∃b,b=lQ q.s best.s:=⟨_,rfl⟩
    have HWB:=ac hwb;clear hwb;cases wb with
    |false=>
     have HN:Hid (iD d.bn (L.take (j+1)) k=best):=by rw[Hid,HTK.out,pJ,<-HKB.out,<-HWB.out];rfl
     go_wp2_with (first
      |(refine pO (o:=⟨some 29,.load 138 _,_,_,_,_⟩) (by rfl) 138 _ rfl gq 0 rfl (gK q.s).toList _ h1 aL rfl (by rw[cL,fO];exact gF) ?_)
      |(refine pO (o:=⟨some 31,.load 138 _,_,_,_,_⟩) (by rfl) 138 _ rfl bb 0 rfl (gK best.s).toList _ h2 aL rfl (by rw[cL,fO];exact gF) ?_)
      |(go_at_call 157
        refine(xJ q.s best.s W5).mono ?_;rintro e w6 ⟨rfl,hb6⟩;rw[<-HWB.out];have HP6:=ac (fB hb6 HP5.out);have HZ6:=ac (fB hb6 HZ5.out);have HB6:=ac (fC HB5.out hb6)
        clear hb6))
     go_roundw
     case rel=>exact⟨j+1,by omega,by go_num,by rw[HN.out];exact HP6.out,HZ6.out,HB6.out⟩
     case measure=>simp[intOf];omega
    |true=>
     have HN:Hid (iD d.bn (L.take (j+1)) k=q):=by rw[Hid,HTK.out,pJ,<-HKB.out,<-HWB.out];rfl
     go_wp2_with (first
      |(refine pO (o:=⟨some 29,.load 138 _,_,_,_,_⟩) (by rfl) 138 _ rfl gq 0 rfl (gK q.s).toList _ h1 aL rfl (by rw[cL,fO];exact gF) ?_)
      |(refine pO (o:=⟨some 31,.load 138 _,_,_,_,_⟩) (by rfl) 138 _ rfl bb 0 rfl (gK best.s).toList _ h2 aL rfl (by rw[cL,fO];exact gF) ?_)
      |(refine aP (o:=⟨none,.store 142 _ _,_,_,_,_⟩) rfl 142 _ _ rfl bb (gJ q).toArray rfl rfl 142 (gJ best).toArray HP6.out (hZ _) (by rw[bd,bd,kC,kC]) (bH (iO _)) ?_)
      |(refine ay (o:=⟨some 34,.load 142 _,_,_,_,_⟩) rfl 142 _ rfl gq rfl 142 (gJ q).toArray (0,0) _ HQ6.out bm rfl (hZ _) ?_)
      |(go_at_call 157
        refine(xJ q.s best.s W5).mono ?_;rintro e w6 ⟨rfl,hb6⟩;rw[<-HWB.out];have HQ6:=ac (fB hb6 HQ5.out);have HP6:=ac (fB hb6 HP5.out);have HZ6:=ac (fB hb6 HZ5.out);have HB6:=ac (fC HB5.out hb6)
        clear hb6))
     have hp9:=bt w6 bb _ (gJ q).toArray _ _ HP6.out;have hz9:=(cC w6 bb w.heap.size (gJ q).toArray (by omega)).trans HZ6.out;have hb9:=aX HB6.out (by omega) (g:=bb) (gJ q).toArray;generalize w6.setRow bb (gJ q).toArray=w9 at*
     go_roundw
     case rel=>exact⟨j+1,by omega,by go_num,by rw[HN.out];exact hp9,hz9,hb9⟩
     case measure=>simp[intOf];omega
  .obtain rfl:j=n:=by omega
   have HT:Hid (L.take j=L):=bC (by omega);have hp:=HR.out.1;rw[HT.out] at hp;have HP:=ac hp;have HZ:=ac HR.out.2.1;have HB9:=ac HR.out.2.2;clear hp HR;obtain⟨best,hbest⟩:∃q,q=iD d.bn L k:=⟨_,rfl⟩
   rw[<-hbest] at HP;have HBE:=ac hbest;clear hbest
   go_wp2_with (first
    |(refine aP (o:=⟨none,.store 142 _ _,_,_,_,_⟩) rfl 142 _ _ rfl w.heap.size (gJ best).toArray rfl rfl 142 Tryz.zeroCells142 HZ.out (hZ _) (by rw[tQ,bd,kC]) (bH (iO _)) ?_)
    |(refine ay (o:=⟨some 36,.load 142 _,_,_,_,_⟩) rfl 142 _ rfl bb rfl 142 (gJ best).toArray (0,0) _ HP.out bm rfl (hZ _) ?_))
   have hl:=cQ (P:=Tryz.prog) _ w.heap.size 142 142 _ (0,0) _ (bt wr w.heap.size _ (gJ best).toArray _ _ HZ.out) bm rfl (hZ _);refine aR (v:=pX best) ?_ rfl ⟨by rw[HBE.out],aX HB9.out (aj _) _⟩;simp[results,Tryz.results152,asAddr,Act.put,hl]
end

section
open Go.RowKit Go.Shelf
attribute [local go_sem] Oper.semAt_some iF gH gS fX
def onL(fr:Nat->Bool)(dn:List Nat):Nat->Bool:=λx=>dn.contains x&& !fr x
theorem zz(fr:Nat->Bool):onL fr []=λ_=>false:=by funext x;simp[onL]
theorem vg(fr:Nat->Bool)(dn:List Nat)(x:Nat):(λk=>if k=x then !fr x else onL fr dn k)=onL fr (dn++ [x]):=by
 funext k
 simp only[onL,eM,ax,bz]
 by_cases e:k=x
 .subst e;simp
 .simp[e]
def xX(f:Nat->Bool):Nat->Bool:=λq=>if q=0 then true else f q
theorem z7(ts:List fS)(k:Nat){of:Nat->Bool}(hc:iV of):onL (xX (iZ (nx ts) (iU (fM ts.length) k) 0)) (gQ of)=oJ ts k of:=by
 funext x
 simp only[onL,oJ,eM,kV hc,xX]
 by_cases e:x=0
 .subst e;simp
 .have e':(x==0)=false:=by simpa using e
  simp[e,e']
def GuJ(w:World)(of fr s:Nat->Bool)(S7 G:Nat)(W:World):Prop:=
 W.heap[w.heap.size]? =some (jY of)/\W.heap[w.heap.size+1]? =some (jY s)/\W.heap[S7]? =some (jY fr)/\W.heap[G]? =some (.cells #[.pointer (some ⟨w.heap.size,0,none⟩)] 245 (0,0))/\Below w.heap.size w W
theorem GuJ.steady{w:World}{of fr s:Nat->Bool}{S7 G D:Nat}(hD:w.heap.size<=D):fG D (GuJ w of fr s S7 G):=by
 unfold GuJ
 exact(fG.block _ _ rfl).and ((fG.block _ _ rfl).and ((fG.block _ _ rfl).and ((fG.block _ _ rfl).and (fG.below (aj _) hD))))
theorem XU(P:Nat)(d:lJ)(ts:List fS)(v:Value)(k:Nat)(of:Nat->Bool)(w:World)(hB:w.heap[P]? =some (ED d v))(hok:mQ w d ts)(hf:jK ts=true)(hk:k<200)(hc:iV of):
  Calls Tryz.prog 153 #[.pointer (some ⟨P,0,none⟩),.int .i64 (k:Int),.agg (gK of)] w (xG w (oJ ts k of)):=by
 have HOK:=ac hok
 have HGD:=ac (gT hf).1
 have HC:=ac hc
 have hbn:d.bn<=200:=hok.2.1
 have HLN:Hid (ts.length=d.bn):=hok.1
 refine(bu (n:=0)).1 ?_
 refine cu Tryz.func153 rfl trivial ?_
 simp only[Tryz.ntmps153,bd,bk,bx,Nat.reduceAdd,Nat.reduceSub,bF,bG,bV,bN,bD,bU]
 gi_wp2
 obtain⟨W1,hW1⟩:∃W,W=(w.alloc (jY of)).alloc (.cells Tryz.zeroCells138 138):=⟨_,rfl⟩
 rw[<-hW1]
 have hb1:Below w.heap.size w W1:=by rw[hW1];exact fC (fD _ _) (fD _ _)
 have h5:W1.heap[w.heap.size]? =some (jY of):=by rw[hW1];exact fB (fD _ _) (ae _ _)
 have h6:W1.heap[w.heap.size+1]? =some (jY λ_=>false):=by rw[hW1,iT _ _ _ (by simp),oX]
 have hs1:W1.heap.size=w.heap.size+1+1:=by rw[hW1];simp
 have HB1:=ac (fB hb1 hB)
 have HBB:=ac hb1
 have H5:=ac h5
 have H6:=ac h6
 have HS1:=ac hs1
 clear hW1 hb1 h5 h6 hs1 hB hok hf hc
 refine dy.2 ?_
 refine lF 18 [some 9,some 10,some 11,some 12,some 13,some 14,some 15,some 16,some 17,some 18,some 19,some 20,some 21,some 22,some 23,some 24,some 25,some 7] (by kernel_rfl) (by kernel_rfl) (jZ [.val (.pointer (some ⟨P,0,none⟩)),.val (.pointer (some ⟨P,0,none⟩)),.val (.pointer (some ⟨P,0,none⟩)),.val (jJ d),.val (.pointer (some ⟨P,0,none⟩)),.val (.pointer (some ⟨P,0,none⟩)),.val (.pointer (some ⟨P,0,none⟩)),.val (jJ d),.val (.agg (gK (fM d.bn))),.val (.int .i64 (k:Int)),.val (.agg (gK (iU (fM d.bn) k))),.val (.pointer (some ⟨P,0,none⟩)),.val (.pointer (some ⟨P,0,none⟩)),.val (.pointer (some ⟨P,0,none⟩)),.val (.pointer (some ⟨P,2,none⟩)),.val (.slice d.ta d.bn d.tc),.val (.agg (gK (iZ (nx ts) (iU (fM d.bn) k) 0))),.new (jY λ_=>false)]) (jX ?_) ?_ ?_
 .intro k hk;simp only[aS,bO,cX] at hk;rcases hk with rfl|rfl|rfl|rfl|rfl|rfl|rfl|rfl|rfl|rfl|rfl|rfl|rfl|rfl|rfl|rfl|rfl|rfl<;>try exact trivial
 .intro i hi ν lo hi' w1 K hB hD hK;have hcase:i=0\/i=1\/i=2\/i=3\/i=4\/i=5\/i=6\/i=7\/i=8\/i=9\/i=10\/i=11\/i=12\/i=13\/i=14\/i=15\/i=16\/i=17:=by omega
  clear hi;rcases hcase with rfl|rfl|rfl|rfl|rfl|rfl|rfl|rfl|rfl|rfl|rfl|rfl|rfl|rfl|rfl|rfl|rfl|rfl
  .clear hD;refine fF rfl rfl ?_;simp only[zA,zB,zC,zD,zE,zF,zJ,zK,zG,zH,zI] at hK|-;go_simp;exact hK _ _ (ag _ _) rfl
  .have e0:ν 0=(.pointer (some ⟨P,0,none⟩)):=hD 0 (by kernel_rfl);clear hD;refine fF rfl rfl ?_;simp only[zA,zB,zC,zD,zE,zF,zJ,zK,zG,zH,zI,e0] at hK|-;go_simp;exact hK _ _ (ag _ _) rfl
  .have e1:ν 1=(.pointer (some ⟨P,0,none⟩)):=hD 1 (by kernel_rfl);clear hD;refine fF rfl rfl ?_;simp only[zA,zB,zC,zD,zE,zF,zJ,zK,zG,zH,zI,e1] at hK|-;go_simp;exact hK _ _ (ag _ _) rfl
  .have e2:ν 2=(.pointer (some ⟨P,0,none⟩)):=hD 2 (by kernel_rfl);clear hD;refine fF rfl rfl ?_;simp only[zA,zB,zC,zD,zE,zF,zJ,zK,zG,zH,zI,e2] at hK|-;refine cp 129 _ rfl P 0 rfl _ _ (yY (fB hB HB1.out)) aY rfl gG ?_;exact hK _ _ (ag _ _) rfl
  .clear hD;refine fF rfl rfl ?_;simp only[zA,zB,zC,zD,zE,zF,zJ,zK,zG,zH,zI] at hK|-;go_simp;exact hK _ _ (ag _ _) rfl
  .have e4:ν 4=(.pointer (some ⟨P,0,none⟩)):=hD 4 (by kernel_rfl);clear hD;refine fF rfl rfl ?_;simp only[zA,zB,zC,zD,zE,zF,zJ,zK,zG,zH,zI,e4] at hK|-;go_simp;exact hK _ _ (ag _ _) rfl
  .have e5:ν 5=(.pointer (some ⟨P,0,none⟩)):=hD 5 (by kernel_rfl);clear hD;refine fF rfl rfl ?_;simp only[zA,zB,zC,zD,zE,zF,zJ,zK,zG,zH,zI,e5] at hK|-;go_simp;exact hK _ _ (ag _ _) rfl
  .have e6:ν 6=(.pointer (some ⟨P,0,none⟩)):=hD 6 (by kernel_rfl);clear hD;refine fF rfl rfl ?_;simp only[zA,zB,zC,zD,zE,zF,zJ,zK,zG,zH,zI,e6] at hK|-;refine cp 129 _ rfl P 0 rfl _ _ (yY (fB hB HB1.out)) aY rfl gG ?_;exact hK _ _ (ag _ _) rfl
  .have e7:ν 7=(jJ d):=hD 7 (by kernel_rfl);clear hD;refine fF rfl rfl ?_;simp only[zA,zB,zC,zD,zE,zF,zJ,zK,zG,zH,zI,e7] at hK|-;go_simp;refine(wL d hbn w1).mono ?_;rintro e w3 ⟨rfl,hb3⟩;exact hK _ _ hb3 rfl
  .clear hD;refine fF rfl rfl ?_;simp only[zA,zB,zC,zD,zE,zF,zJ,zK,zG,zH,zI] at hK|-;go_simp;exact hK _ _ (ag _ _) rfl
  .have e8:ν 8=(.agg (gK (fM d.bn))):=hD 8 (by kernel_rfl);have e9:ν 9=(.int .i64 (k:Int)):=hD 9 (by kernel_rfl);clear hD;refine fF rfl rfl ?_;simp only[zA,zB,zC,zD,zE,zF,zJ,zK,zG,zH,zI,e8,e9] at hK|-;go_simp;refine(KF (fM d.bn) k hk w1).mono ?_;rintro e w3 ⟨rfl,hb3⟩;exact hK _ _ hb3 rfl
  .clear hD;refine fF rfl rfl ?_;simp only[zA,zB,zC,zD,zE,zF,zJ,zK,zG,zH,zI] at hK|-;go_simp;exact hK _ _ (ag _ _) rfl
  .have e11:ν 11=(.pointer (some ⟨P,0,none⟩)):=hD 11 (by kernel_rfl);clear hD;refine fF rfl rfl ?_;simp only[zA,zB,zC,zD,zE,zF,zJ,zK,zG,zH,zI,e11] at hK|-;go_simp;exact hK _ _ (ag _ _) rfl
  .have e12:ν 12=(.pointer (some ⟨P,0,none⟩)):=hD 12 (by kernel_rfl);clear hD;refine fF rfl rfl ?_;simp only[zA,zB,zC,zD,zE,zF,zJ,zK,zG,zH,zI,e12] at hK|-;go_simp;exact hK _ _ (ag _ _) rfl
  .have e13:ν 13=(.pointer (some ⟨P,0,none⟩)):=hD 13 (by kernel_rfl);clear hD;refine fF rfl rfl ?_;simp only[zA,zB,zC,zD,zE,zF,zJ,zK,zG,zH,zI,e13] at hK|-;go_simp;exact hK _ _ (ag _ _) rfl
  .have e14:ν 14=(.pointer (some ⟨P,2,none⟩)):=hD 14 (by kernel_rfl);clear hD;refine fF rfl rfl ?_;simp only[zA,zB,zC,zD,zE,zF,zJ,zK,zG,zH,zI,e14] at hK|-;have q1:=fZ hB (show W1.cell? ⟨P,2,none⟩=some (.slice d.ta d.bn d.tc) from cR HB1.out rfl);go_simp;exact hK _ _ (ag _ _) rfl
  .have e3:ν 3=(jJ d):=hD 3 (by kernel_rfl);have e10:ν 10=(.agg (gK (iU (fM d.bn) k))):=hD 10 (by kernel_rfl);have e15:ν 15=(.slice d.ta d.bn d.tc):=hD 15 (by kernel_rfl);clear hD;refine fF rfl rfl ?_;simp only[zA,zB,zC,zD,zE,zF,zJ,zK,zG,zH,zI,e3,e10,e15] at hK|-;go_simp;refine(UH d 0 (iU (fM d.bn) k) d.ta d.bn d.tc (tZ ts) (nx ts) w1 (by omega) hbn (λy hy=>by simp[iU,fM] at hy;exact hy.2) (λq hq=>by simp[tZ,HOK.out.1,hq]) (mQ.nx_lt (w:=w) (d:=d) HGD.out).1 ((HOK.out.ext (fC HBB.out hB)).2.2.1)).mono ?_;rintro e w3 ⟨rfl,hb3⟩;exact hK _ _ hb3 rfl
  .clear hD;refine fF rfl rfl ?_;simp only[zA,zB,zC,zD,zE,zF,zJ,zK,zG,zH,zI] at hK|-;go_simp;refine hK _ _ (fD _ _) ⟨rfl,by simp,?_⟩;rw[ae,oX]
 .intro ν lo hi w1 hB hS hI hD;have e0:ν 0=(.pointer (some ⟨P,0,none⟩)):=hS 0 (by omega);have e1:ν 1=(.pointer (some ⟨P,0,none⟩)):=hS 1 (by omega);have e2:ν 2=(.pointer (some ⟨P,0,none⟩)):=hS 2 (by omega);have e3:ν 3=(jJ d):=hS 3 (by omega);have e4:ν 4=(.pointer (some ⟨P,0,none⟩)):=hS 4 (by omega);have e5:ν 5=(.pointer (some ⟨P,0,none⟩)):=hS 5 (by omega);have e6:ν 6=(.pointer (some ⟨P,0,none⟩)):=hS 6 (by omega);have e7:ν 7=(jJ d):=hS 7 (by omega);have e8:ν 8=(.agg (gK (fM d.bn))):=hS 8 (by omega);have e9:ν 9=(.int .i64 (k:Int)):=hS 9 (by omega);have e10:ν 10=(.agg (gK (iU (fM d.bn) k))):=hS 10 (by omega);have e11:ν 11=(.pointer (some ⟨P,0,none⟩)):=hS 11 (by omega);have e12:ν 12=(.pointer (some ⟨P,0,none⟩)):=hS 12 (by omega);have e13:ν 13=(.pointer (some ⟨P,0,none⟩)):=hS 13 (by omega);have e14:ν 14=(.pointer (some ⟨P,2,none⟩)):=hS 14 (by omega);have e15:ν 15=(.slice d.ta d.bn d.tc):=hS 15 (by omega);have e16:ν 16=(.agg (gK (iZ (nx ts) (iU (fM d.bn) k) 0))):=hS 16 (by omega);obtain⟨e17,l17,h17⟩:=hS 17 (by omega);clear hS;simp only[am,aw,zA,zB,zC,zD,zE,zF,zJ,zK,zG,zH,zI,e0,e1,e2,e3,e4,e5,e6,e7,e8,e9,e10,e11,e12,e13,e14,e15,e16,e17];obtain⟨fr0,hfr0⟩:∃f,f=iZ (nx ts) (iU (fM d.bn) k) 0:=⟨_,rfl⟩
  rw[<-hfr0];have HFR:=ac hfr0;have i17:=hI 17 (by omega);generalize lo 17=S7 at *;have hS7:=i17.1;rw[HS1.out] at hS7;have hw2:=aX (g:=S7) hB i17.1 (gK fr0);have hs2:=bt w1 S7 _ (gK fr0) _ _ h17;refine aP (o:=⟨none,.store 138 _ _,_,_,_,_⟩) rfl 138 _ _ rfl S7 (gK fr0) rfl rfl 138 _ h17 (by rw[fO];exact gF) rfl (mR _) ?_;have hsl:=fE hs2;generalize w1.setRow S7 (gK fr0)=w2 at *;have h5:=fB hw2 H5.out;have h6:=fB hw2 H6.out;have hb2:=fC HBB.out hw2;have hcz:=lK hs2 0 (by omega);have hfz:=rJ hs2 0;have h25:(w2.setCell ⟨S7,0,none⟩ (.bool true)).heap[w.heap.size]? =some (jY of):=fQ (fU w2 S7 0 _) h5 (λe=>by injection e with e;omega);have h26:(w2.setCell ⟨S7,0,none⟩ (.bool true)).heap[w.heap.size+1]? =some (jY λ_=>false):=fQ (fU w2 S7 0 _) h6 (λe=>by injection e with e;omega);have h27:(w2.setCell ⟨S7,0,none⟩ (.bool true)).heap[S7]? =some (jY (xX fr0)):=AD hs2 0 (by omega) true;have hb3:Below w.heap.size w (w2.setCell ⟨S7,0,none⟩ (.bool true)):=hb2.setCell (by show w.heap.size<=S7;omega) _;have hsz3:S7<(w2.setCell ⟨S7,0,none⟩ (.bool true)).heap.size:=fE h27;have H25:=ac h25;have H26:=ac h26;have H27:=ac h27;have HB3:=ac hb3;clear hI hD hB e0 e1 e2 e3 e4 e5 e6 e7 e8 e9 e10 e11 e12 e13 e14 e15 e16 e17 l17 h17 i17 hw2 hs2 h5 h6 hb2 h25 h26 h27 hb3 hfr0;go_wp2
  gi_wp2
  generalize w2.setCell ⟨S7,0,none⟩ (.bool true)=w3 at*
  gi_wp2_with (gi_at_call 64;refine(bu.2 (sW _ _)).mono ?_;rintro e w' ⟨rfl,rfl⟩)
  obtain⟨w4,hw4⟩:∃W,W=w3.alloc (.cells #[.pointer (some ⟨w.heap.size,0,none⟩)] 245):=⟨_,rfl⟩
  rw[<-hw4];have hb4:Below w3.heap.size w3 w4:=by rw[hw4];exact fD _ _
  have hg4:w4.heap[w3.heap.size]? =some (.cells #[.pointer (some ⟨w.heap.size,0,none⟩)] 245 (0,0)):=by rw[hw4];exact ae _ _
  have hsz4:w4.heap.size=w3.heap.size+1:=by rw[hw4];simp
  have hs26:=fE H26.out;have HST:Hid (GuJ w of (xX fr0) (onL (xX fr0) []) S7 w3.heap.size w4):=by
   rw[zz];exact⟨fB hb4 H25.out,fB hb4 H26.out,fB hb4 H27.out,hg4,fC HB3.out hb4⟩
  clear hw4 hb4 hg4;generalize w3.heap.size=G at*
  refine sC (ps:=#[28]) (gf:=159) (lb:=#[.pointer (some ⟨G,0,none⟩)]) (enc:=rU) (l:=gQ of) rfl pE _ (qL of G w.heap.size) (λ_=>rfl)
   (λdn r W=>Hid (GuJ w of (xX fr0) (onL (xX fr0) dn) S7 G W)) (λ_ _=>False) (λdn r=>GuJ.steady (by omega)) (λc=>fG.pure _ _) (λdn r W h=>⟨cR h.out.2.2.2.1 rfl,h.out.1⟩) HST ?round ?done ?stop
  case round=>
   rintro lp dn x r W hd hJ;unfold rU
   gi_wp2
   refine⟨gC.refl _,hJ,?_⟩;clear hJ lp W;rintro lp W hJ;have hxl:x<200:=uF of x (by rw[hd];simp);obtain⟨j1,j2,j3,j4,jb⟩:=hJ.out;have c3:=lK j3 x hxl;have c2:=lK j2 x hxl;have f2:=rJ j2 x;have l2:=fE j2;have g:=fU W (w.heap.size+1) x (.bool (!xX fr0 x));have HN:Hid (GuJ w of (xX fr0) (onL (xX fr0) (dn++ [x])) S7 G (W.setCell ⟨w.heap.size+1,x,none⟩ (.bool (!xX fr0 x)))):=by
    rw[<-vg];exact⟨fQ g j1 (λe=>by injection e with e;omega),AD j2 x hxl _,fQ g j3 (λe=>by injection e with e;omega),fQ g j4 (λe=>by injection e with e;omega),jb.setCell (bY _) _⟩
   clear j1 j2 j3 j4 jb g hJ hd;generalize xX fr0 x=fx at*
   gi_wp2
   exact⟨gC.setCell _ _ _,HN⟩
  case done=>
   rintro D W hD hJ hK;have hJ1:=hJ.out;have e9:=z7 ts k HC.out;rw[HLN.out,<-HFR.out] at e9;rw[e9] at hJ1;obtain⟨j1,j2,j3,j4,jb⟩:=hJ1;have J2:=ac j2;have JB:=ac jb;have HKK:=ac hK;clear j1 j2 j3 j4 jb hJ e9 hK;generalize oJ ts k of=res at*
   gi_wp2_with (first
    |(refine sL 138 _ rfl (w.heap.size+1) rfl 138 (gK res) (0,0) _ J2.out aL rfl (by rw[fO];exact gF) ?_)
    |(refine AC 138 _ _ rfl (w.heap.size+1) (gK res) rfl rfl 138 (gK res) J2.out (by rw[fO];exact gF) rfl (mR _) ?_))
   have hDS:D≠w.heap.size+1:=by omega
   have hr:=bt W (w.heap.size+1) _ (gK res) _ _ J2.out;have hb:=aX (g:=w.heap.size+1) JB.out (by omega) (gK res);have hk2:=(cC W (w.heap.size+1) D (gK res) (by omega)).trans HKK.out;generalize W.setRow (w.heap.size+1) (gK res)=W9 at *;have hr2:(W9.putObj D (.deferred none)).heap[w.heap.size+1]? =some (jY res):=(bo (by omega)).trans hr;have hb2:=(fG.below (n₀:=w.heap.size) (B:=w.heap.size) (w₀:=w) (aj _) (aj _)).put (.deferred none) (l:=D) hb (by omega) hk2 rfl;have hl:=uE hr2;refine⟨by simp,.inl ⟨_,_,rfl,cM hk2,?_⟩⟩;exact⟨.agg (gK res),by simp[results,Tryz.results153,asAddr,Act.put,hl],rfl,hb2⟩
  case stop=>rintro D c W hD h;exact h.elim
end
end Go.Proofs.YtbknbcmppdglhaaGreatDoor
