/-
 The document's answer to layer 17:the smallest part in which a block is. (Printed by gen_small17.py.)
-/
import Derived.Test.YtblhmdhfhaencaaGreatDF
import Derived.Test.YtblhmdhfhaencaaGreatRM
import Derived.Test.YtblhmdhfhaencaaGreatCR
import Derived.Test.YtblhmdhfhaencaaGreatRC
import Derived.Test.YtblhmdhfhaencaaGreatBR
import Derived.RangeFuncLeaves
import Derived.Test.YtblhmdhfhaencaaGreatTL
import Derived.Test.YtblhmdhfhaencaaGreatTF
namespace Go.Proofs.YtblhmdhfhaencaaGreat
set_option linter.unusedSimpArgs false
set_option linter.unusedVariables false
set_option linter.unusedSectionVars false
set_option maxRecDepth 100000
set_option maxHeartbeats 40000000
section
open Go.RowKit
attribute [local go_sem] Oper.semAt_some cT bM cC bG
theorem CJ(a:Option Addr)(n c base:Nat)(ts:List aT)(hl:ts.length≤200)(L:List aI)(F:tZ ts (aL ts.length) L)(b:Nat)(hb:b<200)(w:World)(h:eD w base (.slice a n c) L)(hn:n≤1000):
  Calls Tryz.prog 125 #[.slice a n c,.int .i64 (b:Int)] w fun e w'=>(∃best:Int,e=.returned (.int .i64 best)∧tW ts.length L b L.length best)∧Below w.heap.size w w':=by
 have hlen:L.length=n:=by
  obtain⟨_,_,e⟩:=cK.form h;injection e with _ e _;exact e.symm
 have hb':(b:Int)<200:=by omega
 have HL:=aBO h
 have HF:=aBO F
 clear h F
 go_enter Tryz.func125,Tryz.ntmps125
 go_wp2
 go_loopw [5,6] (fun s5 s6 wr=>∃(j:Nat) (best:Int),j≤n∧s6=.int .i64 (j:Int)∧s5=.int .i64 best∧Hid (tW ts.length L b j best)∧Hid (Below w.heap.size w wr)) (fun _ s6 _=>n-(intOf s6).toNat)
 case atStart=>exact⟨0,-1,by omega,rfl,rfl,tW.start _ _ _,aBQ _ _⟩
 case round=>
  obtain⟨j,best,hj,rfl,rfl,HS,HB⟩:=hrel;by_cases hlt:j<n
  ·have hlt':(j:Int)<(n:Int):=by omega
   have hform:∃g,a=some ⟨g,0,none⟩:=by
    obtain⟨g,c',e⟩:=eI HL.out.1 (by omega);injection e with e _ _;exact⟨g,e⟩
   obtain⟨gg,rfl⟩:=hform;have HLr:Hid (eD wr base (.slice (some ⟨gg,0,none⟩) n c) L):=eD.ext HL.out HB.out;obtain⟨_,rj,_,cj⟩:=jL (HLr.out.range hlt);have cb:=cj b hb;have HJL:Hid (j<L.length):=by rw[Hid,hlen];exact hlt
   obtain⟨p,hp⟩:∃p,p=L.getD j aE:=⟨_,rfl⟩
   obtain⟨pb,hpb⟩:∃x,x=p.s b:=⟨_,rfl⟩
   rw[←hp] at rj cb;rw[←hpb] at cb;have RJ:=aBO rj;have CB:=aBO cb;have HP:=aBO hp;have HPB:=aBO hpb;clear rj cj cb hp hpb;cases pb with
   |false=>
    have HL1:Hid (tW ts.length L b (j+1) best):=HS.out.skip HJL.out (by rw[←HP.out];exact HPB.out.symm);have g1:∀q:aY wr,q.val.cell? ⟨gg,j*202+1+b,none⟩=some (.bool false):=aY.cell CB.out;clear HLr HS;go_upto_region 5 with (fail)
    refine bB (by kernel_rfl) (by kernel_rfl) ?_
    repeat (first
     |go_big_quiet_skip
     |go_big_quiet_step (fail))
    refine wpQuiet_nil ?_;intro _ hw';obtain⟨n',rfl⟩:=hw';have HBE:=aBO (aA HB.out n'.ext);generalize n'.val=W9 at *;go_wp2
    go_roundw
    case rel=>exact⟨j+1,best,by omega,by go_num,rfl,HL1,HBE⟩
    case measure=>simp[intOf];omega
   |true=>
    have hls:=HS.out.less hl HF.out HJL.out (by rw[←HP.out];exact HPB.out.symm);have HL1:Hid (tW ts.length L b (j+1) (j:Int)):=hls.2;rcases HS.out with ⟨rfl,_⟩|⟨i,rfl,hij,_,_⟩
    ·have g1:∀q:aY wr,q.val.cell? ⟨gg,j*202+1+b,none⟩=some (.bool true):=aY.cell CB.out;clear HLr HS hls;go_upto_region 5 with (fail)
     refine bB (by kernel_rfl) (by kernel_rfl) ?_
     repeat (first
      |go_big_quiet_skip
      |go_big_quiet_step (fail))
     refine wpQuiet_nil ?_;intro _ hw';obtain⟨n',rfl⟩:=hw';have HBE:=aBO (aA HB.out n'.ext);generalize n'.val=W9 at *;go_wp2
     go_roundw
     case rel=>exact⟨j+1,(j:Int),by omega,by go_num,rfl,HL1,HBE⟩
     case measure=>simp[intOf];omega
    ·obtain⟨_,ri,_,_⟩:=jL (HLr.out.range (show i<n by omega));have hlq:=hls.1 i rfl;obtain⟨q,hq⟩:∃q,q=L.getD i aE:=⟨_,rfl⟩
     rw[←hq] at ri hlq;rw[←HP.out] at hlq;have hlq2:((fZ p.s 200:Nat):Int)<((fZ q.s 200:Nat):Int):=by
      have:fZ p.s 200<fZ q.s 200:=hlq;omega
     have hlq3:fZ p.s 200<fZ q.s 200:=hlq;have RI:=aBO ri;have hi0:¬(i:Int)<0:=by omega
     have hin:(i:Int)<(n:Int):=by omega
     clear ri hlq hq HLr HS hls;go_upto_region 5 with (fail)
     refine dL 26 [some 13,some 14,some 15,some 16,some 17,some 18,some 19,some 20,some 21,some 22,some 23,some 24,some 25,some 26,some 27,some 28,some 29,some 30,some 31,some 32,some 33,some 34,some 35,some 36,some 37,some 38] (by kernel_rfl) (by kernel_rfl) (dV [.val (.slice (some ⟨gg,0,none⟩) n c),.val (.int .i64 (j:Int)),.val (.int .i64 (b:Int)),.val (.pointer (some ⟨gg,j*202,none⟩)),.val (.pointer (some ⟨gg,j*202+1,none⟩)),.val (.pointer (some ⟨gg,j*202+1+b,none⟩)),.val (.bool true),.val (.bool true),.val (.int .i64 (i:Int)),.val (.bool false),.val (.bool false),.val (.slice (some ⟨gg,0,none⟩) n c),.val (.int .i64 (j:Int)),.val (.pointer (some ⟨gg,j*202,none⟩)),.val (.pointer (some ⟨gg,j*202+1,none⟩)),.val (.agg (aQ p.s)),.val (.int .i64 (fZ p.s 200:Nat)),.val (.slice (some ⟨gg,0,none⟩) n c),.val (.int .i64 (i:Int)),.val (.pointer (some ⟨gg,i*202,none⟩)),.val (.pointer (some ⟨gg,i*202+1,none⟩)),.val (.agg (aQ q.s)),.val (.int .i64 (fZ q.s 200:Nat)),.val (.bool true),.val (.bool true),.val (.bool true)]) (dN ?_) ?_ ?_
     ·intro k hk;simp only[List.mem_cons,List.not_mem_nil,or_false] at hk;rcases hk with rfl|rfl|rfl|rfl|rfl|rfl|rfl|rfl|rfl|rfl|rfl|rfl|rfl|rfl|rfl|rfl|rfl|rfl|rfl|rfl|rfl|rfl|rfl|rfl|rfl|rfl
      ·exact trivial
      ·exact trivial
      ·exact trivial
      ·exact trivial
      ·exact trivial
      ·exact trivial
      ·exact trivial
      ·exact trivial
      ·exact trivial
      ·exact trivial
      ·exact trivial
      ·exact trivial
      ·exact trivial
      ·exact trivial
      ·exact trivial
      ·exact trivial
      ·exact trivial
      ·exact trivial
      ·exact trivial
      ·exact trivial
      ·exact trivial
      ·exact trivial
      ·exact trivial
      ·exact trivial
      ·exact trivial
      ·exact trivial
     ·intro i hi ν lo hi' w1 K hB hD hK;have hcase:i=0∨i=1∨i=2∨i=3∨i=4∨i=5∨i=6∨i=7∨i=8∨i=9∨i=10∨i=11∨i=12∨i=13∨i=14∨i=15∨i=16∨i=17∨i=18∨i=19∨i=20∨i=21∨i=22∨i=23∨i=24∨i=25:=by omega
      clear hi;rcases hcase with rfl|rfl|rfl|rfl|rfl|rfl|rfl|rfl|rfl|rfl|rfl|rfl|rfl|rfl|rfl|rfl|rfl|rfl|rfl|rfl|rfl|rfl|rfl|rfl|rfl|rfl
      ·clear hD;refine aC rfl rfl ?_;simp only[zA,zB,zC,zD,zE,zF,zJ,zK,zG,zH,zI] at hK⊢;go_simp;exact hK _ _ (aBQ _ _) rfl
      ·clear hD;refine aC rfl rfl ?_;simp only[zA,zB,zC,zD,zE,zF,zJ,zK,zG,zH,zI] at hK⊢;go_simp;exact hK _ _ (aBQ _ _) rfl
      ·clear hD;refine aC rfl rfl ?_;simp only[zA,zB,zC,zD,zE,zF,zJ,zK,zG,zH,zI] at hK⊢;go_simp;exact hK _ _ (aBQ _ _) rfl
      ·have e0:=hD 0 (by kernel_rfl)
       replace e0:ν 0=(.slice (some ⟨gg,0,none⟩) n c):=e0
       have e1:=hD 1 (by kernel_rfl)
       replace e1:ν 1=(.int .i64 (j:Int)):=e1
       clear hD;refine aC rfl rfl ?_;simp only[zA,zB,zC,zD,zE,zF,zJ,zK,zG,zH,zI,e0,e1] at hK⊢;go_simp;exact hK _ _ (aBQ _ _) rfl
      ·have e3:=hD 3 (by kernel_rfl)
       replace e3:ν 3=(.pointer (some ⟨gg,j*202,none⟩)):=e3
       clear hD;refine aC rfl rfl ?_;simp only[zA,zB,zC,zD,zE,zF,zJ,zK,zG,zH,zI,e3] at hK⊢;go_simp;exact hK _ _ (aBQ _ _) rfl
      ·have e2:=hD 2 (by kernel_rfl)
       replace e2:ν 2=(.int .i64 (b:Int)):=e2
       have e4:=hD 4 (by kernel_rfl)
       replace e4:ν 4=(.pointer (some ⟨gg,j*202+1,none⟩)):=e4
       clear hD;refine aC rfl rfl ?_;simp only[zA,zB,zC,zD,zE,zF,zJ,zK,zG,zH,zI,e2,e4] at hK⊢;go_simp;exact hK _ _ (aBQ _ _) rfl
      ·have e5:=hD 5 (by kernel_rfl)
       replace e5:ν 5=(.pointer (some ⟨gg,j*202+1+b,none⟩)):=e5
       clear hD;refine aC rfl rfl ?_;simp only[zA,zB,zC,zD,zE,zF,zJ,zK,zG,zH,zI,e5] at hK⊢;have hcl:=aH hB CB.out;go_simp;exact hK _ _ (aBQ _ _) rfl
      ·have e6:=hD 6 (by kernel_rfl)
       replace e6:ν 6=(.bool true):=e6
       clear hD;refine aC rfl rfl ?_;simp only[zA,zB,zC,zD,zE,zF,zJ,zK,zG,zH,zI,e6] at hK⊢;go_simp;exact hK _ _ (aBQ _ _) rfl
      ·have e7:=hD 7 (by kernel_rfl)
       replace e7:ν 7=(.bool true):=e7
       clear hD;simp only[zA,zB,zC,zD,zE,zF,zJ,zK,zG,zH,zI,e7] at hK⊢;refine bH rfl (by rfl) ?_;go_simp;exact hK _ _ (aBQ _ _) rfl
      ·have e7:=hD 7 (by kernel_rfl)
       replace e7:ν 7=(.bool true):=e7
       have e8:=hD 8 (by kernel_rfl)
       replace e8:ν 8=(.int .i64 (i:Int)):=e8
       clear hD;simp only[zA,zB,zC,zD,zE,zF,zJ,zK,zG,zH,zI,e7,e8] at hK⊢;refine bH rfl (by rfl) ?_;go_simp;exact hK _ _ (aBQ _ _) rfl
      ·have e7:=hD 7 (by kernel_rfl)
       replace e7:ν 7=(.bool true):=e7
       have e9:=hD 9 (by kernel_rfl)
       replace e9:ν 9=(.bool false):=e9
       clear hD;simp only[zA,zB,zC,zD,zE,zF,zJ,zK,zG,zH,zI,e7,e9] at hK⊢;refine bH rfl (by rfl) ?_;go_simp;exact hK _ _ (aBQ _ _) rfl
      ·have e10:=hD 10 (by kernel_rfl)
       replace e10:ν 10=(.bool false):=e10
       clear hD;simp only[zA,zB,zC,zD,zE,zF,zJ,zK,zG,zH,zI,e10] at hK⊢;refine bH rfl (by rfl) ?_;go_simp;exact hK _ _ (aBQ _ _) rfl
      ·have e10:=hD 10 (by kernel_rfl)
       replace e10:ν 10=(.bool false):=e10
       clear hD;simp only[zA,zB,zC,zD,zE,zF,zJ,zK,zG,zH,zI,e10] at hK⊢;refine bH rfl (by rfl) ?_;go_simp;exact hK _ _ (aBQ _ _) rfl
      ·have e10:=hD 10 (by kernel_rfl)
       replace e10:ν 10=(.bool false):=e10
       have e11:=hD 11 (by kernel_rfl)
       replace e11:ν 11=(.slice (some ⟨gg,0,none⟩) n c):=e11
       have e12:=hD 12 (by kernel_rfl)
       replace e12:ν 12=(.int .i64 (j:Int)):=e12
       clear hD;simp only[zA,zB,zC,zD,zE,zF,zJ,zK,zG,zH,zI,e10,e11,e12] at hK⊢;refine bH rfl (by rfl) ?_;go_simp;exact hK _ _ (aBQ _ _) rfl
      ·have e10:=hD 10 (by kernel_rfl)
       replace e10:ν 10=(.bool false):=e10
       have e13:=hD 13 (by kernel_rfl)
       replace e13:ν 13=(.pointer (some ⟨gg,j*202,none⟩)):=e13
       clear hD;simp only[zA,zB,zC,zD,zE,zF,zJ,zK,zG,zH,zI,e10,e13] at hK⊢;refine bH rfl (by rfl) ?_;go_simp;exact hK _ _ (aBQ _ _) rfl
      ·have e10:=hD 10 (by kernel_rfl)
       replace e10:ν 10=(.bool false):=e10
       have e14:=hD 14 (by kernel_rfl)
       replace e14:ν 14=(.pointer (some ⟨gg,j*202+1,none⟩)):=e14
       clear hD;simp only[zA,zB,zC,zD,zE,zF,zJ,zK,zG,zH,zI,e10,e14] at hK⊢;refine bH rfl (by rfl) ?_;refine wp_load_mid 107 _ rfl gg (j*202+1) rfl (aQ p.s).toList _ (lD hB RJ.out) Tryz.underlying107 rfl (by rw[Array.length_toList,aF];exact aV) ?_;exact hK _ _ (aBQ _ _) (show Value.agg (aQ p.s).toList.toArray=.agg (aQ p.s) by simp)
      ·have e10:=hD 10 (by kernel_rfl)
       replace e10:ν 10=(.bool false):=e10
       have e15:=hD 15 (by kernel_rfl)
       replace e15:ν 15=(.agg (aQ p.s)):=e15
       clear hD;simp only[zA,zB,zC,zD,zE,zF,zJ,zK,zG,zH,zI,e10,e15] at hK⊢;refine bH rfl (by rfl) ?_;go_simp;refine(mN p.s w1).mono ?_;rintro e w3 ⟨rfl,hb3⟩;exact hK _ _ hb3 rfl
      ·have e10:=hD 10 (by kernel_rfl)
       replace e10:ν 10=(.bool false):=e10
       clear hD;simp only[zA,zB,zC,zD,zE,zF,zJ,zK,zG,zH,zI,e10] at hK⊢;refine bH rfl (by rfl) ?_;go_simp;exact hK _ _ (aBQ _ _) rfl
      ·have e10:=hD 10 (by kernel_rfl)
       replace e10:ν 10=(.bool false):=e10
       clear hD;simp only[zA,zB,zC,zD,zE,zF,zJ,zK,zG,zH,zI,e10] at hK⊢;refine bH rfl (by rfl) ?_;go_simp;exact hK _ _ (aBQ _ _) rfl
      ·have e10:=hD 10 (by kernel_rfl)
       replace e10:ν 10=(.bool false):=e10
       have e17:=hD 17 (by kernel_rfl)
       replace e17:ν 17=(.slice (some ⟨gg,0,none⟩) n c):=e17
       have e18:=hD 18 (by kernel_rfl)
       replace e18:ν 18=(.int .i64 (i:Int)):=e18
       clear hD;simp only[zA,zB,zC,zD,zE,zF,zJ,zK,zG,zH,zI,e10,e17,e18] at hK⊢;refine bH rfl (by rfl) ?_;go_simp;exact hK _ _ (aBQ _ _) rfl
      ·have e10:=hD 10 (by kernel_rfl)
       replace e10:ν 10=(.bool false):=e10
       have e19:=hD 19 (by kernel_rfl)
       replace e19:ν 19=(.pointer (some ⟨gg,i*202,none⟩)):=e19
       clear hD;simp only[zA,zB,zC,zD,zE,zF,zJ,zK,zG,zH,zI,e10,e19] at hK⊢;refine bH rfl (by rfl) ?_;go_simp;exact hK _ _ (aBQ _ _) rfl
      ·have e10:=hD 10 (by kernel_rfl)
       replace e10:ν 10=(.bool false):=e10
       have e20:=hD 20 (by kernel_rfl)
       replace e20:ν 20=(.pointer (some ⟨gg,i*202+1,none⟩)):=e20
       clear hD;simp only[zA,zB,zC,zD,zE,zF,zJ,zK,zG,zH,zI,e10,e20] at hK⊢;refine bH rfl (by rfl) ?_;refine wp_load_mid 107 _ rfl gg (i*202+1) rfl (aQ q.s).toList _ (lD hB RI.out) Tryz.underlying107 rfl (by rw[Array.length_toList,aF];exact aV) ?_;exact hK _ _ (aBQ _ _) (show Value.agg (aQ q.s).toList.toArray=.agg (aQ q.s) by simp)
      ·have e10:=hD 10 (by kernel_rfl)
       replace e10:ν 10=(.bool false):=e10
       have e16:=hD 16 (by kernel_rfl)
       replace e16:ν 16=(.int .i64 (fZ p.s 200:Nat)):=e16
       have e21:=hD 21 (by kernel_rfl)
       replace e21:ν 21=(.agg (aQ q.s)):=e21
       clear hD;simp only[zA,zB,zC,zD,zE,zF,zJ,zK,zG,zH,zI,e10,e16,e21] at hK⊢;refine bH rfl (by rfl) ?_;go_simp;refine(mN q.s w1).mono ?_;rintro e w3 ⟨rfl,hb3⟩;exact hK _ _ hb3 rfl
      ·have e10:=hD 10 (by kernel_rfl)
       replace e10:ν 10=(.bool false):=e10
       have e16:=hD 16 (by kernel_rfl)
       replace e16:ν 16=(.int .i64 (fZ p.s 200:Nat)):=e16
       have e22:=hD 22 (by kernel_rfl)
       replace e22:ν 22=(.int .i64 (fZ q.s 200:Nat)):=e22
       clear hD;simp only[zA,zB,zC,zD,zE,zF,zJ,zK,zG,zH,zI,e10,e16,e22] at hK⊢;refine bH rfl (by rfl) ?_;go_simp;exact hK _ _ (aBQ _ _) rfl
      ·have e7:=hD 7 (by kernel_rfl)
       replace e7:ν 7=(.bool true):=e7
       have e10:=hD 10 (by kernel_rfl)
       replace e10:ν 10=(.bool false):=e10
       have e23:=hD 23 (by kernel_rfl)
       replace e23:ν 23=(.bool true):=e23
       clear hD;simp only[zA,zB,zC,zD,zE,zF,zJ,zK,zG,zH,zI,e7,e10,e23] at hK⊢;refine bH rfl (by rfl) ?_;go_simp;exact hK _ _ (aBQ _ _) rfl
      ·have e7:=hD 7 (by kernel_rfl)
       replace e7:ν 7=(.bool true):=e7
       have e24:=hD 24 (by kernel_rfl)
       replace e24:ν 24=(.bool true):=e24
       clear hD;refine aC rfl rfl ?_;simp only[zA,zB,zC,zD,zE,zF,zJ,zK,zG,zH,zI,e7,e24] at hK⊢;go_simp;exact hK _ _ (aBQ _ _) rfl
     ·intro ν lo hi w1 hB hS hI hD;have e0:ν 0=(.slice (some ⟨gg,0,none⟩) n c):=hS 0 (by omega);have e1:ν 1=(.int .i64 (j:Int)):=hS 1 (by omega);have e2:ν 2=(.int .i64 (b:Int)):=hS 2 (by omega);have e3:ν 3=(.pointer (some ⟨gg,j*202,none⟩)):=hS 3 (by omega);have e4:ν 4=(.pointer (some ⟨gg,j*202+1,none⟩)):=hS 4 (by omega);have e5:ν 5=(.pointer (some ⟨gg,j*202+1+b,none⟩)):=hS 5 (by omega);have e6:ν 6=(.bool true):=hS 6 (by omega);have e7:ν 7=(.bool true):=hS 7 (by omega);have e8:ν 8=(.int .i64 (i:Int)):=hS 8 (by omega);have e9:ν 9=(.bool false):=hS 9 (by omega);have e10:ν 10=(.bool false):=hS 10 (by omega);have e11:ν 11=(.slice (some ⟨gg,0,none⟩) n c):=hS 11 (by omega);have e12:ν 12=(.int .i64 (j:Int)):=hS 12 (by omega);have e13:ν 13=(.pointer (some ⟨gg,j*202,none⟩)):=hS 13 (by omega);have e14:ν 14=(.pointer (some ⟨gg,j*202+1,none⟩)):=hS 14 (by omega);have e15:ν 15=(.agg (aQ p.s)):=hS 15 (by omega);have e16:ν 16=(.int .i64 (fZ p.s 200:Nat)):=hS 16 (by omega);have e17:ν 17=(.slice (some ⟨gg,0,none⟩) n c):=hS 17 (by omega);have e18:ν 18=(.int .i64 (i:Int)):=hS 18 (by omega);have e19:ν 19=(.pointer (some ⟨gg,i*202,none⟩)):=hS 19 (by omega);have e20:ν 20=(.pointer (some ⟨gg,i*202+1,none⟩)):=hS 20 (by omega);have e21:ν 21=(.agg (aQ q.s)):=hS 21 (by omega);have e22:ν 22=(.int .i64 (fZ q.s 200:Nat)):=hS 22 (by omega);have e23:ν 23=(.bool true):=hS 23 (by omega);have e24:ν 24=(.bool true):=hS 24 (by omega);have e25:ν 25=(.bool true):=hS 25 (by omega);clear hS;simp only[List.drop_succ_cons,List.drop_zero,zA,zB,zC,zD,zE,zF,zJ,zK,zG,zH,zI,e0,e1,e2,e3,e4,e5,e6,e7,e8,e9,e10,e11,e12,e13,e14,e15,e16,e17,e18,e19,e20,e21,e22,e23,e24,e25];have HBE:=aBO (aA HB.out hB);clear hI hD hB e0 e1 e2 e3 e4 e5 e6 e7 e8 e9 e10 e11 e12 e13 e14 e15 e16 e17 e18 e19 e20 e21 e22 e23 e24 e25;go_wp2
      go_roundw
      case rel=>exact⟨j+1,(j:Int),by omega,by go_num,rfl,HL1,HBE⟩
      case measure=>simp[intOf];omega
  ·have hje:j=L.length:=by omega
   have HE:=aBO (hje▸HS.out);have hlt':¬(j:Int)<(n:Int):=by omega
   go_wp2
   go_ret
   exact⟨⟨best,rfl,by rw[←hlen];exact HE.out⟩,HB.out⟩
end

section
open Go.RowKit
attribute [local go_sem] Oper.semAt_some cT bM cC bG
theorem MH(pa:Option Addr)(pn pc:Nat)(ba:Option Addr)(bn bc:Nat)(bs:List gS)(b:Nat)(w:World)(h:dU w ba bn bs)(hg:fS (aG bs)=true)(hb:b<200):
  Calls Tryz.prog 126 #[dX pa pn pc ba bn bc,.int .i64 (b:Int)] w fun e w'=>e=.returned (.tuple #[.int .i64 ((pv (aG bs) b).length:Int),.bool (brV (aG bs) (pv (aG bs) b))])∧Below w.heap.size w w':=by
 have hbn:bn≤200:=by have:=((cY _).1 hg).1.2;rw[dD,h.1.1] at this;exact this
 have HTL:Hid ((aG bs).length=bn):=by rw[Hid,dD,h.1.1]
 have H:=aBO h
 have HG:=aBO hg
 clear h hg
 go_enter Tryz.func126,Tryz.ntmps126
 go_upto_region 1 with (fail)
 obtain⟨W,hW⟩:∃W,W=w.alloc (bO pa pn pc ba bn bc):=⟨_,rfl⟩
 rw[←hW]
 have ho:W.heap[w.heap.size]? =some (bO pa pn pc ba bn bc):=by rw[hW];exact aBS _ _
 have hB:Below w.heap.size w W:=by rw[hW];exact aD _ _
 have HO:=aBO ho
 have HB:=aBO hB
 clear hW ho hB
 go_wp2
 go_loopw [6,7,8,9,10] (fun s6 s7 s8 _ _ wr=>∃i:Nat,i≤bn∧s6=.int .i64 ((gN (aG bs) i 0 b).length:Int)∧s7=.bool (brV (aG bs) (gN (aG bs) i 0 b))∧s8=.int .i64 (i:Int)∧Hid (wr.heap[w.heap.size]? =some (bO pa pn pc ba bn bc))∧Hid (Below w.heap.size w wr)) (fun _ _ s8 _ _ _=>bn-(intOf s8).toNat)
 case atStart=>exact⟨0,by omega,by rw[sO];rfl,by rw[sO];rfl,by go_num,HO,HB⟩
 case round=>
  obtain⟨i,hi,rfl,rfl,rfl,HO1,HB1⟩:=hrel;clear HO HB;have kf:=HO1.out;have k1:wr.cell? ⟨w.heap.size,1,none⟩=some (.slice ba bn bc):=by rw[aBP _ _ _ _ _ _ kf];rfl
  clear kf;by_cases hlt:i<bn
  ·have hlt':(i:Int)<(bn:Int):=by omega
   have hsz:=aN HO1.out
   go_upto_region 6 with (first
    |(refine wpList_load_row (o:=⟨some 18,.load 25 _,_,_,_,_⟩) rfl 25 _ rfl w.heap.size rfl 25 _ (0,0) _ HO1.out Tryz.underlying25 rfl aS ?_)
    |(go_at_call 96
      refine(rG pa pn pc ba bn bc bs i wr (H.out.ext HB1.out) hlt).mono ?_;rintro e w1 ⟨v,rfl,ho,hb⟩;rw[NF HG.out] at ho;obtain⟨va,vc,rfl⟩:=ho.form;have HNX:=aBO ho.ints;have HO2:=aBO (aB hb HO1.out);have HB2:=aBO (aA HB1.out hb)
      clear ho hb k1))
   have hnl:(aO (nx (aG bs) i)).length=(nx (aG bs) i).length:=by simp[aO]
   have hnl2:(nx (aG bs) i).length≤2:=by simp only[nx,List.length_map];exact sG _
   rw[hnl];rw[hnl] at HNX;clear hnl HO1 HB1 hsz;go_wp2;obtain⟨dl,hdl⟩:∃x,x=decide (((nx (aG bs) i).length:Int)=2):=⟨_,rfl⟩
   have HDL:=aBO hdl
   go_loopw [6,7,10] (fun s6 s7 s10 wi=>∃k:Nat,k≤(nx (aG bs) i).length∧s6=.int .i64 ((gN (aG bs) i k b).length:Int)∧s7=.bool (brV (aG bs) (gN (aG bs) i k b))∧s10=.int .i64 (k:Int)∧Hid (wi=w1)) (fun _ _ s10 _=>(nx (aG bs) i).length-(intOf s10).toNat)
   case atStart=>exact⟨0,by omega,rfl,rfl,by go_num,rfl⟩
   case round=>
    obtain⟨k,hk,rfl,rfl,rfl,HW1⟩:=hrel;clear hdl;obtain rfl:=HW1.out.symm;by_cases hkl:k<(nx (aG bs) i).length
    ·have hkl':(k:Int)<((nx (aG bs) i).length:Int):=by omega
     have hg0:(nx (aG bs) i)[k]? =some ((nx (aG bs) i).getD k 0):=by rw[aBT,aBU hkl];rfl
     obtain⟨b3,o4,rfl,hcy,_⟩:=HNX.out.2.2 k hkl;have hey:(aO (nx (aG bs) i)).getD k 0=(((nx (aG bs) i).getD k 0:Nat):Int):=by simp[aO,aBT,hkl]
     rw[hey] at hcy;have hst:=pU (aG bs) i k _ hg0 b;have hln:=AI (aG bs) i k b;clear hey hg0;generalize (nx (aG bs) i).getD k 0=y at *;by_cases hy:y=b
     ·subst hy;rw[if_pos rfl] at hst;have hl':(gN (aG bs) i (k+1) y).length=(gN (aG bs) i k y).length+1:=by rw[hst];simp
      have hb':brV (aG bs) (gN (aG bs) i (k+1) y)=((nx (aG bs) i).length==2):=by rw[hst];exact XQ _ _ _
      have HL':=aBO hl';have HB':=aBO hb';clear hst hl' hb';generalize (gN (aG bs) i k y).length=m at *;generalize brV (aG bs) (gN (aG bs) i k y)=br at *;go_wp2
      go_roundw
      case rel=>exact⟨k+1,by omega,by rw[HL'.out];go_num,by rw[HB'.out];simp only[Value.bool.injEq];rw[Bool.eq_iff_iff];simp;omega,by go_num,trivial⟩
      case measure=>simp[intOf];omega
     ·have hy':¬(y:Int)=(b:Int):=by omega
      rw[if_neg (fun e=>hy e.symm)] at hst;have HST:=aBO hst;clear hst;go_wp2
      go_roundw
      case rel=>exact⟨k+1,by omega,by rw[HST.out],by rw[HST.out],by go_num,trivial⟩
      case measure=>simp[intOf];omega
    ·have hk2:k=(nx (aG bs) i).length:=by omega
     have HE:Hid (gN (aG bs) i k b=gN (aG bs) (i+1) 0 b):=wY _ _ _ _ (by omega);have hkl':¬(k:Int)<((nx (aG bs) i).length:Int):=by omega
     go_wp2
     go_roundw
     case rel=>exact⟨i+1,by omega,by rw[←HE.out],by rw[←HE.out],by go_num,HO2,HB2⟩
     case measure=>simp[intOf];omega
  ·obtain rfl:i=bn:=by omega
   have HE:Hid (gN (aG bs) i 0 b=pv (aG bs) b):=by rw[Hid,←HTL.out];exact vC _ _
   rw[HE.out];obtain⟨br,hbr⟩:∃x,x=brV (aG bs) (pv (aG bs) b):=⟨_,rfl⟩
   obtain⟨m,hm⟩:∃x,x=(pv (aG bs) b).length:=⟨_,rfl⟩
   rw[←hbr,←hm];have HBR:=aBO hbr;have HMM:=aBO hm;clear hbr hm;go_wp2;exact bodyPost_ret (v:=.tuple #[.int .i64 (m:Int),.bool br]) (by simp[results,Tryz.results126,go_sem,Act.put]) rfl ⟨by rw[HMM.out,HBR.out],HB1.out⟩
end

section
open Go.RowKit
attribute [local go_sem] Oper.semAt_some cT bM cC bG
def CX(of fr:Nat→Bool)(i:Nat):Nat→Bool:=fun x=>decide (x<i)&&(of x&& !fr x)
theorem TB(of fr:Nat→Bool):CX of fr 0=fun _=>false:=by funext x;simp[CX]
theorem TC(of fr:Nat→Bool)(i:Nat){v:Bool}(hv:v=(of i&& !fr i)):(fun k=>if k=i then v else CX of fr i k)=CX of fr (i+1):=by
 subst hv
 funext k
 simp only[CX]
 by_cases e:k=i
 ·subst e;simp
 ·have:decide (k<i+1)=decide (k<i):=by rw[decide_eq_decide];omega
  rw[if_neg e,this]
def fr0(ts:List aT)(b:Nat):Nat→Bool:=fun k=>if k=0 then true else bL (nx ts) (bW (aL ts.length) b) 0 k
theorem WX(ts:List aT)(b:Nat){of:Nat→Bool}(h:∀y,of y=true→y<ts.length):CX of (fr0 ts b) ts.length=fF ts b of:=by
 funext x
 simp only[CX,fF,fr0]
 cases ho:of x with
 |false=>simp
 |true=>
  have:=h x ho;by_cases e:x=0
  ·subst e;simp
  ·simp[e,this]
structure GuR(w:World)(fo:Obj)(of fr:Nat→Bool)(F S i:Nat)(W:World):Prop where
 h0:W.heap[w.heap.size]? =some fo
 h1:W.heap[w.heap.size+1]? =some (bY of)
 h2:W.heap[w.heap.size+1+1]? =some (bY fun _=>false)
 free:W.heap[F]? =some (bY fr)
 set:W.heap[S]? =some (bY (CX of fr i))
 below:Below w.heap.size w W
theorem GuR.step{w:World}{fo:Obj}{of fr:Nat→Bool}{F S i:Nat}{W:World}(h:GuR w fo of fr F S i W)(hi:i<200)(hF:F<S)(hS:w.heap.size+1+1<F){v:Bool}(hv:v=(of i&& !fr i)):GuR w fo of fr F S (i+1) (W.setCell ⟨S,i,none⟩ (.bool v)):=by
 have hg:=bA W S i (.bool v)
 exact⟨aK hg h.h0 (by simp;omega),aK hg h.h1 (by simp;omega),aK hg h.h2 (by simp;omega),aK hg h.free (by simp;omega),kC h.set hi (TC of fr i hv),h.below.setCell (by simp;omega) _⟩
theorem DM(pa:Option Addr)(pn pc:Nat)(ba:Option Addr)(bn bc:Nat)(bs:List gS)(b:Nat)(of:Nat→Bool)(w:World)(h:dU w ba bn bs)(hg:fS (aG bs)=true)(hb:b<200)(hb0:1≤b)(hof:∀y,of y=true→y<bn):
  Calls Tryz.prog 127 #[dX pa pn pc ba bn bc,.int .i64 (b:Int),.agg (aQ of)] w (lK w (fF (aG bs) b of)):=by
 have hgg:=(cY _).1 hg
 have hbn:bn≤200:=by have:=hgg.1.2;rw[dD,h.1.1] at this;exact this
 have hbn1:1≤bn:=by have:=hgg.1.1;rw[dD,h.1.1] at this;exact this
 have HTL:Hid ((aG bs).length=bn):=by rw[Hid,dD,h.1.1]
 have H:=aBO h
 have HG:=aBO hg
 have HOF:=aBO hof
 clear h hg hof hgg
 go_enter Tryz.func127,Tryz.ntmps127
 go_upto_region 1 with (fail)
 obtain⟨W,hW⟩:∃W,W=((w.alloc (bO pa pn pc ba bn bc)).alloc (bY of)).alloc (.cells Tryz.zeroCells107 107):=⟨_,rfl⟩
 rw[←hW]
 have h0:W.heap[w.heap.size]? =some (bO pa pn pc ba bn bc):=by rw[hW,aBR _ _ _ (by simp;omega),aBR _ _ _ (by simp)];exact aBS _ _
 have h1:W.heap[w.heap.size+1]? =some (bY of):=by rw[hW,aBR _ _ _ (by simp),aU _ _ _ (by simp)]
 have h2:W.heap[w.heap.size+1+1]? =some (bY fun _=>false):=by rw[hW,aU _ _ _ (by simp),gQ]
 have hB:Below w.heap.size w W:=by rw[hW];exact((aD _ _).alloc (by simp) _).alloc (by simp;omega) _
 have HJ:=aBO (And.intro h0 (And.intro h1 (And.intro h2 hB)))
 have hWs:=aN h2
 clear hW h0 h1 h2 hB
 go_upto_region 2 with (first
  |(refine wpList_load_row (o:=⟨some 11,.load 25 _,_,_,_,_⟩) rfl 25 _ rfl w.heap.size rfl 25 _ (0,0) _ HJ.out.1 Tryz.underlying25 rfl aS ?_)
  |(go_at_call 73
    refine(oV pa pn pc ba bn bc hbn W).mono ?_;rintro e w1 ⟨rfl,hb1⟩;have HB1:=aBO hb1;have hw1:=hb1.size
    clear hb1)
  |(refine wpList_store_row (o:=⟨none,.store 107 _ _,_,_,_,_⟩) rfl 107 _ _ rfl w1.heap.size (aQ (aL bn)) rfl rfl 107 _ (aBS _ _) (by rw[aF];exact aV) rfl (dE _) ?_))
 obtain⟨R,hR⟩:∃R,R=w1.heap.size:=⟨_,rfl⟩
 obtain⟨W2,hW2⟩:∃W,W=(w1.alloc (.cells Tryz.zeroCells107 107)).setRow w1.heap.size (aQ (aL bn)):=⟨_,rfl⟩
 rw[←hW2,←hR,cW]
 have hr2:W2.heap[R]? =some (bY (aL bn)):=by rw[hW2,hR];exact setRow_heap _ _ _ _ _ _ (aBS _ _)
 have hb2:Below W.heap.size W W2:=by rw[hW2];exact below_setRow (aA HB1.out (aD _ _)) hw1 _
 have hRs:W.heap.size≤R:=by rw[hR];exact hw1
 have hc2:=cX hr2 b hb
 have hf2:=gC hr2 b
 have hl2:=aN hr2
 have HR2:=aBO hr2
 have HB2:=aBO hb2
 clear hW2 hR hr2 hb2 HB1 hw1
 go_upto_region 3 with (fail)
 obtain⟨W3,hW3⟩:∃W,W=W2.setCell ⟨R,b,none⟩ (.bool false):=⟨_,rfl⟩
 rw[←hW3]
 have hr3:W3.heap[R]? =some (bY (bW (aL bn) b)):=by rw[hW3];exact kC HR2.out hb (by funext k;simp only[bW];by_cases e:k=b<;>simp[e])
 have hb3:Below W.heap.size W W3:=by rw[hW3];exact HB2.out.setCell (by simpa using hRs) _
 have HR3:=aBO hr3
 have HB3:=aBO hb3
 have hl3:=hb3.size
 clear hW3 hr3 hb3 hc2 hf2 hl2 HR2 HB2
 obtain⟨fr,hfr⟩:∃f,f=bL (nx (aG bs)) (bW (aL bn) b) 0:=⟨_,rfl⟩
 have HFR:=aBO hfr
 clear hfr
 go_upto_region 4 with (first
  |(refine wpList_load_row (o:=⟨some 15,.load 25 _,_,_,_,_⟩) rfl 25 _ rfl w.heap.size rfl 25 _ (0,0) _ (aB HB3.out HJ.out.1) Tryz.underlying25 rfl aS ?_)
  |(refine wpList_load_row (o:=⟨some 16,.load 107 _,_,_,_,_⟩) rfl 107 _ rfl R rfl 107 _ (0,0) _ HR3.out Tryz.underlying107 rfl (by rw[aF];exact aV) ?_)
  |(go_at_call 98
    refine(gY pa pn pc ba bn bc bs 0 (bW (aL bn) b) W3 (H.out.ext (aA HJ.out.2.2.2 HB3.out)) HG.out (by omega) (jQ (eJ hbn) b) (fun _=>by omega)).mono ?_;rintro e w4 ⟨rfl,hb4⟩;rw[←HFR.out];have HB4:=aBO (aA HB3.out hb4)
    clear hb4)
  |(refine wpList_store_row (o:=⟨none,.store 107 _ _,_,_,_,_⟩) rfl 107 _ _ rfl w4.heap.size (aQ fr) rfl rfl 107 _ (aBS _ _) (by rw[aF];exact aV) rfl (dE _) ?_))
 obtain⟨F,hF⟩:∃F,F=w4.heap.size:=⟨_,rfl⟩
 obtain⟨W5,hW5⟩:∃W,W=(w4.alloc (.cells Tryz.zeroCells107 107)).setRow w4.heap.size (aQ fr):=⟨_,rfl⟩
 rw[←hW5,←hF,cW]
 have hr5:W5.heap[F]? =some (bY fr):=by rw[hW5,hF];exact setRow_heap _ _ _ _ _ _ (aBS _ _)
 have hb5:Below W.heap.size W W5:=by rw[hW5];exact below_setRow (aA HB4.out (aD _ _)) HB4.out.size _
 have hFs:W.heap.size≤F:=by rw[hF];exact HB4.out.size
 have hc5:=cX hr5 0 (by omega)
 have hf5:=gC hr5 0
 have hl5:=aN hr5
 have HR5:=aBO hr5
 have HB5:=aBO hb5
 clear hW5 hF hr5 hb5 HB4 HR3 HB3 hRs hl3
 go_upto_region 6 with (fail)
 obtain⟨S,hS⟩:∃S,S=W5.heap.size:=⟨_,rfl⟩
 obtain⟨W6,hW6⟩:∃W,W=(W5.setCell ⟨F,0,none⟩ (.bool true)).alloc (.cells Tryz.zeroCells107 107):=⟨_,rfl⟩
 have hr6:W6.heap[F]? =some (bY (fr0 (aG bs) b)):=by
  rw[hW6,aBR _ _ _ (by simp;exact hl5)];exact kC HR5.out (by omega) (by funext k;simp only[fr0,HFR.out,HTL.out])
 have hs6:W6.heap[S]? =some (bY (CX of (fr0 (aG bs) b) 0)):=by rw[hW6,aU _ _ _ (by simp[hS]),gQ,TB]
 have hb6:Below W.heap.size W W6:=by rw[hW6];exact(HB5.out.setCell (by simpa using hFs) _).alloc (by simp;omega) _
 have hFS:F<S:=by omega
 have hWF:w.heap.size+1+1<F:=by omega
 have HJ6:Hid (GuR w (bO pa pn pc ba bn bc) of (fr0 (aG bs) b) F S 0 W6):=⟨aB hb6 HJ.out.1,aB hb6 HJ.out.2.1,aB hb6 HJ.out.2.2.1,hr6,hs6,aA HJ.out.2.2.2 hb6⟩
 rw[←hW6,←hS]
 clear hW6 hS hr6 hs6 hb6 hc5 hf5 hl5 HR5 HB5 HFR HJ hFs hWs
 go_wp2
 go_loopw [10] (fun s10 wr=>∃i:Nat,i≤bn∧s10=.int .i64 (i:Int)∧Hid (GuR w (bO pa pn pc ba bn bc) of (fr0 (aG bs) b) F S i wr)) (fun s10 _=>bn-(intOf s10).toNat)
 case atStart=>exact⟨0,by omega,rfl,HJ6⟩
 case round=>
  obtain⟨i,hi,rfl,HI⟩:=hrel;clear HJ6;have kf:=HI.out.h0;have k1:wr.cell? ⟨w.heap.size,1,none⟩=some (.slice ba bn bc):=by rw[aBP _ _ _ _ _ _ kf];rfl
  clear kf;by_cases hlt:i<bn
  ·have hlt':(i:Int)<(bn:Int):=by omega
   have hi200:i<200:=by omega
   have co:=cX HI.out.h1 i hi200;have cf:=cX HI.out.free i hi200;have cs:=cX HI.out.set i hi200;have fs:=gC HI.out.set i;have hls:=aN HI.out.set;obtain⟨ob,hob⟩:∃x,x=of i:=⟨_,rfl⟩
   obtain⟨fb,hfb⟩:∃x,x=fr0 (aG bs) b i:=⟨_,rfl⟩
   rw[←hob] at co;rw[←hfb] at cf;have HOB:=aBO hob;have HFB:=aBO hfb;clear hob hfb;cases ob with
   |false=>
    have HN:=aBO (HI.out.step hi200 hFS hWF (v:=false) (by rw[←HOB.out];rfl));go_wp2
    go_roundw
    case rel=>exact⟨i+1,by omega,by go_num,HN⟩
    case measure=>simp[intOf];omega
   |true=>
    have HN:=aBO (HI.out.step hi200 hFS hWF (v:= !fb) (by rw[←HOB.out,←HFB.out];rfl));go_wp2
    go_roundw
    case rel=>exact⟨i+1,by omega,by go_num,HN⟩
    case measure=>simp[intOf];omega
  ·obtain rfl:i=bn:=by omega
   have hsz:=aN HI.out.h2;have HE:Hid (CX of (fr0 (aG bs) b) i=fF (aG bs) b of):=by rw[Hid,←HTL.out];exact WX _ _ (by rw[HTL.out];exact HOF.out)
   have hst:=HI.out.set;rw[HE.out] at hst;have HST:=aBO hst;clear hst;obtain⟨G,hG⟩:∃G,G=fF (aG bs) b of:=⟨_,rfl⟩
   rw[←hG] at HST;have HGE:=aBO hG;clear hG HE
   go_wp2_with (first
    |(refine wpList_load_row rfl 107 _ rfl S rfl 107 _ (0,0) _ HST.out Tryz.underlying107 rfl (by rw[aF];exact aV) ?_)
    |(refine wpList_store_row rfl 107 _ _ rfl (w.heap.size+1+1) (aQ G) rfl rfl 107 _ HI.out.h2 (by rw[aF];exact aV) rfl (dE _) ?_))
   exact bodyPost_ret (v:=.agg (aQ G)) (by simp[results,Tryz.results127,asAddr,Act.put,pX (setRow_heap _ _ _ _ _ _ HI.out.h2)]) rfl ⟨by rw[HGE.out],below_setRow HI.out.below (by omega) _⟩
end

section
open Go.RowKit Go.Shelf
theorem NT(n:Nat)(L:List aI)(k j:Nat)(hj:j<L.length):bP n (L.take (j+1)) k=gA k (bP n (L.take j) k) (L.getD j aE):=by
 rw[bP,bP,IE L j aE hj,List.foldl_append]
 rfl
theorem EH{W:World}{B:Nat}{p:aI}(h:W.heap[B]? =some (lA p)){k:Nat}(hk:k<200):W.cell? ⟨B,k,none⟩=some (.bool (p.s k)):=by
 rw[aBP _ _ _ _ _ _ h,AK]
 rw[Array.getElem?_push,if_neg (by simp[aF];omega),Array.getElem?_push,if_neg (by rw[aF];omega)]
 exact iV _ _ hk
theorem GI(P base:Nat)(a:Option Addr)(n c:Nat)(d:fD)(L:List aI)(k:Nat)(w:World)(hB:w.heap[P]? =some (wQ d (.slice a n c)))(hL:bR w base (.slice a n c) L)(hn:n≤1000000)(hk:k<200)(hd:d.bn≤200):
  Calls Tryz.prog 132 #[.pointer (some ⟨P,0,none⟩),.int .i64 (k:Int)] w fun e w'=>e=.returned (kN (bP d.bn L k))∧Below w.heap.size w w':=by
 have hlen:L.length=n:=by
  obtain⟨_,_,e⟩:=cK.form hL;injection e with _ e _;exact e.symm
 have HBL:=aBO hB
 have HL:=aBO hL
 clear hB hL
 go_enter Tryz.func132,Tryz.ntmps132
 go_upto_region 1 with (fail)
 obtain⟨W0,hW0⟩:∃W,W=w.alloc (.cells Tryz.zeroCells128 128):=⟨_,rfl⟩
 rw[←hW0]
 have hz0:W0.heap[w.heap.size]? =some (.cells Tryz.zeroCells128 128 (0,0)):=by rw[hW0];exact aBS _ _
 have hb0:Below w.heap.size w W0:=by rw[hW0];exact aD _ _
 have hg0:=rK (aB hb0 HBL.out)
 have HZ0:=aBO hz0
 have HB0:=aBO hb0
 clear hW0 hz0 hb0
 go_upto_region 2 with (first
  |(refine wpList_load_mid (op:=⟨some 11,.load 116 _,_,_,_,_⟩) rfl 116 _ rfl P 0 rfl _ _ hg0 Tryz.underlying116 rfl bD ?_)
  |(refine xX (o:=⟨some 13,.build 128 _,_,_,_,_⟩) rfl _ _ _ (aL d.bn) 1 0 rfl rfl rfl rfl ?_)
  |(refine wpList_store_row (o:=⟨none,.store 128 _ _,_,_,_,_⟩) rfl 128 _ _ rfl W1.heap.size (bJ (eP d.bn)).toArray rfl rfl 128 Tryz.zeroCells128 (aBS _ _) (cF _) (by rw[nR,List.size_toArray,eE]) (all_oneCell_toArray (cV _)) ?_)
  |(go_at_call 80
    refine(pS d hd W0).mono ?_;rintro e W1 ⟨rfl,hb1⟩;have HB1:=aBO hb1
    clear hb1))
 obtain⟨W2,hW2⟩:∃W,W=(W1.alloc (.cells Tryz.zeroCells128 128)).setRow W1.heap.size (bJ (eP d.bn)).toArray:=⟨_,rfl⟩
 rw[←hW2,cW]
 have hz2:W2.heap[W1.heap.size]? =some (lA (eP d.bn)):=by rw[hW2];exact setRow_heap _ _ _ _ _ _ (aBS _ _)
 have hb2:Below w.heap.size w W2:=by
  have h1:=aA HB0.out HB1.out;rw[hW2];exact below_setRow (aA h1 (aD _ _)) h1.size _
 have hbl:w.heap.size<W1.heap.size:=by have:=aN HZ0.out;have:=HB1.out.size;omega
 have hz3:W2.heap[w.heap.size]? =some (.cells Tryz.zeroCells128 128 (0,0)):=by
  rw[hW2,setRow_other _ _ _ _ (by omega)];exact aB (aA HB1.out (aD _ _)) HZ0.out
 have hc2:W2.cell? ⟨P,4,none⟩=some (.slice a n c):=by rw[aBP _ _ _ _ _ _ (aB hb2 HBL.out)];rfl
 have HZ2:=aBO hz2
 have HZ3:=aBO hz3
 have HB2:=aBO hb2
 clear hW2 hz2 hz3 hb2 HB0 HB1 HZ0 hg0
 generalize W1.heap.size=bb at*
 go_wp2
 go_loopw [19] (fun s19 wr=>∃j:Nat,j≤n∧s19=.int .i64 (j:Int)∧Hid (wr.heap[bb]? =some (lA (bP d.bn (L.take j) k))∧wr.heap[w.heap.size]? =some (.cells Tryz.zeroCells128 128 (0,0))∧Below w.heap.size w wr)) (fun s19 _=>n-(intOf s19).toNat)
 case atStart=>exact⟨0,by omega,rfl,HZ2.out,HZ3.out,HB2.out⟩
 case round=>
  obtain⟨j,hj,rfl,HR⟩:=hrel;clear HZ2 HZ3 HB2;by_cases hlt:j<n
  ·have hlt':(j:Int)<(n:Int):=by omega
   have hLr:bR wr base (.slice a n c) L:=HL.out.ext HR.out.2.2;have hform:∃g,a=some ⟨g,0,none⟩:=by
    obtain⟨g,c',e⟩:=eI hLr.1 (by omega);injection e with e _ _;exact⟨g,e⟩
   obtain⟨g,rfl⟩:=hform;have hr:=dW hLr hlt;have HTK:=aBO (NT d.bn L k j (by omega));have hbw:=aN HR.out.1;clear hLr;obtain⟨q,hq⟩:∃q,q=L.getD j aE:=⟨_,rfl⟩
   obtain⟨best,hbest⟩:∃q,q=bP d.bn (L.take j) k:=⟨_,rfl⟩
   rw[←hq] at hr HTK;rw[←hbest] at HR HTK;clear hq hbest
   go_upto_region 5 with (first
    |(refine wpList_load_mid rfl 128 _ rfl g (j*202) rfl (bJ q) _ hr Tryz.underlying128 rfl (cE _) ?_)
    |(refine wpList_store_row rfl 128 _ _ rfl wr.heap.size (bJ q).toArray rfl rfl 128 Tryz.zeroCells128 (aBS _ _) (cF _) (by rw[nR,List.size_toArray,eE]) (all_oneCell_toArray (cV _)) ?_))
   obtain⟨W5,hW5⟩:∃W,W=(wr.alloc (.cells Tryz.zeroCells128 128)).setRow wr.heap.size (bJ q).toArray:=⟨_,rfl⟩
   rw[←hW5,cW];have hq5:W5.heap[wr.heap.size]? =some (lA q):=by rw[hW5];exact setRow_heap _ _ _ _ _ _ (aBS _ _)
   have hb5:Below wr.heap.size wr W5:=by rw[hW5];exact below_setRow (aD _ _) (aBV _) _
   have HQ5:=aBO hq5;have HP5:=aBO (aB hb5 HR.out.1);have HZ5:=aBO (aB hb5 HR.out.2.1);have HB5:=aBO (aA HR.out.2.2 hb5);have h1:=lB hq5;have h2:=lB HP5.out;have hc5:=EH hq5 hk;clear hW5 hb5 hq5 hr HR;generalize wr.heap.size=gq at *;obtain⟨kb,hkb⟩:∃b,b=q.s k:=⟨_,rfl⟩
   rw[←hkb] at hc5;have HKB:=aBO hkb;clear hkb;cases kb with
   |false=>
    have HN:Hid (bP d.bn (L.take (j+1)) k=best):=by rw[Hid,HTK.out,gA,←HKB.out];rfl
    clear h1 h2;go_wp2
    go_roundw
    case rel=>exact⟨j+1,by omega,by go_num,by rw[HN.out];exact HP5.out,HZ5.out,HB5.out⟩
    case measure=>simp[intOf];omega
   |true=>
    obtain⟨wb,hwb⟩:∃b,b=cS q.s best.s:=⟨_,rfl⟩
    have HWB:=aBO hwb;clear hwb;cases wb with
    |false=>
     have HN:Hid (bP d.bn (L.take (j+1)) k=best):=by rw[Hid,HTK.out,gA,←HKB.out,←HWB.out];rfl
     go_wp2_with (first
      |(refine gF (o:=⟨some 29,.load 124 _,_,_,_,_⟩) (by rfl) 124 _ rfl gq 0 rfl (aQ q.s).toList _ h1 Tryz.underlying124 rfl (by rw[Array.length_toList,aF];exact bF) ?_)
      |(refine gF (o:=⟨some 31,.load 124 _,_,_,_,_⟩) (by rfl) 124 _ rfl bb 0 rfl (aQ best.s).toList _ h2 Tryz.underlying124 rfl (by rw[Array.length_toList,aF];exact bF) ?_)
      |(go_at_call 137
        refine(qH q.s best.s W5).mono ?_;rintro e w6 ⟨rfl,hb6⟩;rw[←HWB.out];have HP6:=aBO (aB hb6 HP5.out);have HZ6:=aBO (aB hb6 HZ5.out);have HB6:=aBO (aA HB5.out hb6)
        clear hb6))
     go_roundw
     case rel=>exact⟨j+1,by omega,by go_num,by rw[HN.out];exact HP6.out,HZ6.out,HB6.out⟩
     case measure=>simp[intOf];omega
    |true=>
     have HN:Hid (bP d.bn (L.take (j+1)) k=q):=by rw[Hid,HTK.out,gA,←HKB.out,←HWB.out];rfl
     go_wp2_with (first
      |(refine gF (o:=⟨some 29,.load 124 _,_,_,_,_⟩) (by rfl) 124 _ rfl gq 0 rfl (aQ q.s).toList _ h1 Tryz.underlying124 rfl (by rw[Array.length_toList,aF];exact bF) ?_)
      |(refine gF (o:=⟨some 31,.load 124 _,_,_,_,_⟩) (by rfl) 124 _ rfl bb 0 rfl (aQ best.s).toList _ h2 Tryz.underlying124 rfl (by rw[Array.length_toList,aF];exact bF) ?_)
      |(refine wpList_store_row (o:=⟨none,.store 128 _ _,_,_,_,_⟩) rfl 128 _ _ rfl bb (bJ q).toArray rfl rfl 128 (bJ best).toArray HP6.out (cF _) (by rw[List.size_toArray,List.size_toArray,eE,eE]) (all_oneCell_toArray (cV _)) ?_)
      |(refine wpList_load_row (o:=⟨some 34,.load 128 _,_,_,_,_⟩) rfl 128 _ rfl gq rfl 128 (bJ q).toArray (0,0) _ HQ6.out Tryz.underlying128 rfl (cF _) ?_)
      |(go_at_call 137
        refine(qH q.s best.s W5).mono ?_;rintro e w6 ⟨rfl,hb6⟩;rw[←HWB.out];have HQ6:=aBO (aB hb6 HQ5.out);have HP6:=aBO (aB hb6 HP5.out);have HZ6:=aBO (aB hb6 HZ5.out);have HB6:=aBO (aA HB5.out hb6)
        clear hb6))
     have hp9:=setRow_heap w6 bb _ (bJ q).toArray _ _ HP6.out;have hz9:=(setRow_other w6 bb w.heap.size (bJ q).toArray (by omega)).trans HZ6.out;have hb9:=below_setRow HB6.out (by omega) (g:=bb) (bJ q).toArray;generalize w6.setRow bb (bJ q).toArray=w9 at*
     go_roundw
     case rel=>exact⟨j+1,by omega,by go_num,by rw[HN.out];exact hp9,hz9,hb9⟩
     case measure=>simp[intOf];omega
  ·obtain rfl:j=n:=by omega
   have HT:Hid (L.take j=L):=aCB (by omega);have hp:=HR.out.1;rw[HT.out] at hp;have HP:=aBO hp;have HZ:=aBO HR.out.2.1;have HB9:=aBO HR.out.2.2;clear hp HR;obtain⟨best,hbest⟩:∃q,q=bP d.bn L k:=⟨_,rfl⟩
   rw[←hbest] at HP;have HBE:=aBO hbest;clear hbest
   go_wp2_with (first
    |(refine wpList_store_row (o:=⟨none,.store 128 _ _,_,_,_,_⟩) rfl 128 _ _ rfl w.heap.size (bJ best).toArray rfl rfl 128 Tryz.zeroCells128 HZ.out (cF _) (by rw[nR,List.size_toArray,eE]) (all_oneCell_toArray (cV _)) ?_)
    |(refine wpList_load_row (o:=⟨some 36,.load 128 _,_,_,_,_⟩) rfl 128 _ rfl bb rfl 128 (bJ best).toArray (0,0) _ HP.out Tryz.underlying128 rfl (cF _) ?_))
   have hl:=run_loadVar_row (P:=Tryz.prog) _ w.heap.size 128 128 _ (0,0) _ (setRow_heap wr w.heap.size _ (bJ best).toArray _ _ HZ.out) Tryz.underlying128 rfl (cF _);refine bodyPost_ret (v:=kN best) ?_ rfl ⟨by rw[HBE.out],below_setRow HB9.out (aBV _) _⟩;simp[results,Tryz.results132,asAddr,Act.put,hl]
end

section
open Go.RowKit
abbrev UK(D:Nat):Deferred:={target:=.collected D,args:=#[]}
def kO(lo hi:Nat)(ds:List Deferred)(w:World):Prop:=
 ∃Ds:List Nat,ds=Ds.map UK∧Ds.Nodup∧∀D∈Ds,lo≤D∧D<hi∧w.heap[D]? =some (.deferred (some []))
theorem kO.nil(lo hi:Nat)(w:World):kO lo hi [] w:=⟨[],rfl,List.nodup_nil,fun _ h=>by cases h⟩
theorem kO.cons{lo hi hi' D:Nat}{ds:List Deferred}{w:World}(h:kO lo hi ds w)(h1:hi≤D)(h0:lo≤D)(h2:D<hi')(hk:w.heap[D]? =some (.deferred (some []))):kO lo hi' (UK D :: ds) w:=by
 obtain⟨Ds,rfl,hn,hD⟩:=h
 refine⟨D :: Ds,rfl,List.nodup_cons.2 ⟨fun hm=>?_,hn⟩,fun E hE=>?_⟩
 ·have:=(hD D hm).2.1;omega
 ·rcases List.mem_cons.1 hE with rfl|hE
  ·exact⟨h0,h2,hk⟩
  ·obtain⟨a,b,c⟩:=hD E hE;exact⟨a,by omega,c⟩
theorem kO.keep{lo hi:Nat}{ds:List Deferred}{w w':World}(h:kO lo hi ds w)(hk:dI w w'):kO lo hi ds w':=by
 obtain⟨Ds,e,hn,hD⟩:=h
 exact⟨Ds,e,hn,fun D hm=>⟨(hD D hm).1,(hD D hm).2.1,hk D _ (hD D hm).2.2 rfl⟩⟩
theorem kO.mono{lo hi hi':Nat}{ds:List Deferred}{w:World}(h:kO lo hi ds w)(hh:hi≤hi'):kO lo hi' ds w:=by
 obtain⟨Ds,e,hn,hD⟩:=h
 exact⟨Ds,e,hn,fun D hm=>⟨(hD D hm).1,by have:=(hD D hm).2.1;omega,(hD D hm).2.2⟩⟩
theorem aR.marks{lo hi B:Nat}(hB:hi≤B)(ds:List Deferred):aR B (fun W=>kO lo hi ds W):=by
 rintro W W' row ⟨Ds,e,hn,hD⟩ hg hr
 refine⟨Ds,e,hn,fun D hm=>⟨(hD D hm).1,(hD D hm).2.1,?_⟩⟩
 have h2:=(hD D hm).2.2
 refine(hg.block D (aBW.1 h2).1 fun e=>?_).trans h2
 have h3:=(hr D e.symm).1
 have h4:=(hD D hm).2.1
 omega
theorem GR{P:Program}{F:Fence}{n:Nat}{fn:Func}{tmps:Array Value}{R:Ending→World→Prop}{u:FrameMode}(hu:u≠.run){lo hi:Nat}(J:World→Prop)(hJ:aR lo J)(h:∀w,J w→LeavesIn F n P fn tmps R [] u w):
  ∀(ds:List Deferred) (w:World),kO lo hi ds w→J w→LeavesInM F n P fn tmps R ds u w:=by
 intro ds
 induction ds with
 |nil=>exact fun w _ hj=>h w hj
 |cons d ds ih=>
  rintro w ⟨Ds,e,hn,hD⟩ hj;cases Ds with
  |nil=>cases e
  |cons D Ds=>
   simp only[List.map_cons,List.cons.injEq] at e;obtain⟨rfl,rfl⟩:=e;have h1:=(hD D (by simp)).2.2;have hne:=(List.nodup_cons.1 hn).1;refine⟨hu,.inl ⟨D,_,rfl,run_takeDeferred h1,ih _ ⟨Ds,rfl,(List.nodup_cons.1 hn).2,fun E hE=>?_⟩ (hJ.put (.deferred none) hj (hD D (by simp)).1 h1 rfl)⟩⟩;obtain⟨a,b,c⟩:=hD E (by simp[hE]);refine⟨a,b,(World.putObj_heap_other ?_).trans c⟩;rintro rfl;exact hne hE
end

section
open Go.RowKit Go.Shelf
attribute [local go_sem] Oper.semAt_some cT bM cC bG
def onL(fr:Nat→Bool)(dn:List Nat):Nat→Bool:=fun x=>dn.contains x&& !fr x
theorem YK(fr:Nat→Bool):onL fr []=fun _=>false:=by funext x;simp[onL]
theorem WB(fr:Nat→Bool)(dn:List Nat)(x:Nat):(fun k=>if k=x then !fr x else onL fr dn k)=onL fr (dn++ [x]):=by
 funext k
 simp only[onL,List.contains_eq_mem,aCA,List.mem_singleton]
 by_cases e:k=x
 ·subst e;simp
 ·simp[e]
def qV(f:Nat→Bool):Nat→Bool:=fun q=>if q=0 then true else f q
theorem YL(ts:List aT)(k:Nat){of:Nat→Bool}(hc:cA of):onL (qV (bL (nx ts) (bW (aL ts.length) k) 0)) (aZ of)=fF ts k of:=by
 funext x
 simp only[onL,fF,List.contains_eq_mem,eG hc,qV]
 by_cases e:x=0
 ·subst e;simp
 ·have e':(x==0)=false:=by simpa using e
  simp[e,e']
def GuJ(w:World)(of fr s:Nat→Bool)(S7 G:Nat)(W:World):Prop:=
 W.heap[w.heap.size]? =some (eA of)∧W.heap[w.heap.size+1]? =some (eA s)∧W.heap[S7]? =some (eA fr)∧W.heap[G]? =some (.cells #[.pointer (some ⟨w.heap.size,0,none⟩)] 189 (0,0))∧Below w.heap.size w W
theorem GuJ.steady{w:World}{of fr s:Nat→Bool}{S7 G D:Nat}(hD:w.heap.size≤D):aR D (GuJ w of fr s S7 G):=by
 unfold GuJ
 exact(aR.block _ _ rfl).and ((aR.block _ _ rfl).and ((aR.block _ _ rfl).and ((aR.block _ _ rfl).and (aR.below (aBV _) hD))))
theorem ME(P:Nat)(d:fD)(ts:List aT)(v:Value)(k:Nat)(of:Nat→Bool)(w:World)(hB:w.heap[P]? =some (wQ d v))(hok:gH w d ts)(hf:bU ts=true)(hk:k<200)(hc:cA of):
  Calls Tryz.prog 133 #[.pointer (some ⟨P,0,none⟩),.int .i64 (k:Int),.agg (aQ of)] w (lK w (fF ts k of)):=by
 have HOK:=aBO hok
 have HGD:=aBO (bQ hf).1
 have HC:=aBO hc
 have hbn:d.bn≤200:=hok.2.1
 have HLN:Hid (ts.length=d.bn):=hok.1
 refine(callsIn_wide (n:=0)).1 ?_
 refine callsIn_of_wp_marks Tryz.func133 rfl trivial ?_
 simp only[Tryz.ntmps133,List.size_toArray,List.length_cons,List.length_nil,Nat.reduceAdd,Nat.reduceSub,Array.replicate_succ,Array.replicate_zero,List.push_toArray,List.append_toArray,List.nil_append,List.cons_append]
 gi_wp2
 obtain⟨W1,hW1⟩:∃W,W=(w.alloc (eA of)).alloc (.cells Tryz.zeroCells124 124):=⟨_,rfl⟩
 rw[←hW1]
 have hb1:Below w.heap.size w W1:=by rw[hW1];exact aA (aD _ _) (aD _ _)
 have h5:W1.heap[w.heap.size]? =some (eA of):=by rw[hW1];exact aB (aD _ _) (aBS _ _)
 have h6:W1.heap[w.heap.size+1]? =some (eA fun _=>false):=by rw[hW1,aU _ _ _ (by simp),jK]
 have hs1:W1.heap.size=w.heap.size+1+1:=by rw[hW1];simp
 have HB1:=aBO (aB hb1 hB)
 have HBB:=aBO hb1
 have H5:=aBO h5
 have H6:=aBO h6
 have HS1:=aBO hs1
 clear hW1 hb1 h5 h6 hs1 hB hok hf hc
 refine wpIn_wide.2 ?_
 refine dL 18 [some 9,some 10,some 11,some 12,some 13,some 14,some 15,some 16,some 17,some 18,some 19,some 20,some 21,some 22,some 23,some 24,some 25,some 7] (by kernel_rfl) (by kernel_rfl) (dV [.val (.pointer (some ⟨P,0,none⟩)),.val (.pointer (some ⟨P,0,none⟩)),.val (.pointer (some ⟨P,0,none⟩)),.val (dK d),.val (.pointer (some ⟨P,0,none⟩)),.val (.pointer (some ⟨P,0,none⟩)),.val (.pointer (some ⟨P,0,none⟩)),.val (dK d),.val (.agg (aQ (aL d.bn))),.val (.int .i64 (k:Int)),.val (.agg (aQ (bW (aL d.bn) k))),.val (.pointer (some ⟨P,0,none⟩)),.val (.pointer (some ⟨P,0,none⟩)),.val (.pointer (some ⟨P,0,none⟩)),.val (.pointer (some ⟨P,2,none⟩)),.val (.slice d.ta d.bn d.tc),.val (.agg (aQ (bL (nx ts) (bW (aL d.bn) k) 0))),.new (eA fun _=>false)]) (dN ?_) ?_ ?_
 ·intro k hk;simp only[List.mem_cons,List.not_mem_nil,or_false] at hk;rcases hk with rfl|rfl|rfl|rfl|rfl|rfl|rfl|rfl|rfl|rfl|rfl|rfl|rfl|rfl|rfl|rfl|rfl|rfl
  ·exact trivial
  ·exact trivial
  ·exact trivial
  ·exact trivial
  ·exact trivial
  ·exact trivial
  ·exact trivial
  ·exact trivial
  ·exact trivial
  ·exact trivial
  ·exact trivial
  ·exact trivial
  ·exact trivial
  ·exact trivial
  ·exact trivial
  ·exact trivial
  ·exact trivial
  ·exact trivial
 ·intro i hi ν lo hi' w1 K hB hD hK;have hcase:i=0∨i=1∨i=2∨i=3∨i=4∨i=5∨i=6∨i=7∨i=8∨i=9∨i=10∨i=11∨i=12∨i=13∨i=14∨i=15∨i=16∨i=17:=by omega
  clear hi;rcases hcase with rfl|rfl|rfl|rfl|rfl|rfl|rfl|rfl|rfl|rfl|rfl|rfl|rfl|rfl|rfl|rfl|rfl|rfl
  ·clear hD;refine aC rfl rfl ?_;simp only[zA,zB,zC,zD,zE,zF,zJ,zK,zG,zH,zI] at hK⊢;go_simp;exact hK _ _ (aBQ _ _) rfl
  ·have e0:=hD 0 (by kernel_rfl)
   replace e0:ν 0=(.pointer (some ⟨P,0,none⟩)):=e0
   clear hD;refine aC rfl rfl ?_;simp only[zA,zB,zC,zD,zE,zF,zJ,zK,zG,zH,zI,e0] at hK⊢;go_simp;exact hK _ _ (aBQ _ _) rfl
  ·have e1:=hD 1 (by kernel_rfl)
   replace e1:ν 1=(.pointer (some ⟨P,0,none⟩)):=e1
   clear hD;refine aC rfl rfl ?_;simp only[zA,zB,zC,zD,zE,zF,zJ,zK,zG,zH,zI,e1] at hK⊢;go_simp;exact hK _ _ (aBQ _ _) rfl
  ·have e2:=hD 2 (by kernel_rfl)
   replace e2:ν 2=(.pointer (some ⟨P,0,none⟩)):=e2
   clear hD;refine aC rfl rfl ?_;simp only[zA,zB,zC,zD,zE,zF,zJ,zK,zG,zH,zI,e2] at hK⊢;refine wp_load_mid 116 _ rfl P 0 rfl _ _ (rK (aB hB HB1.out)) Tryz.underlying116 rfl bD ?_;exact hK _ _ (aBQ _ _) rfl
  ·clear hD;refine aC rfl rfl ?_;simp only[zA,zB,zC,zD,zE,zF,zJ,zK,zG,zH,zI] at hK⊢;go_simp;exact hK _ _ (aBQ _ _) rfl
  ·have e4:=hD 4 (by kernel_rfl)
   replace e4:ν 4=(.pointer (some ⟨P,0,none⟩)):=e4
   clear hD;refine aC rfl rfl ?_;simp only[zA,zB,zC,zD,zE,zF,zJ,zK,zG,zH,zI,e4] at hK⊢;go_simp;exact hK _ _ (aBQ _ _) rfl
  ·have e5:=hD 5 (by kernel_rfl)
   replace e5:ν 5=(.pointer (some ⟨P,0,none⟩)):=e5
   clear hD;refine aC rfl rfl ?_;simp only[zA,zB,zC,zD,zE,zF,zJ,zK,zG,zH,zI,e5] at hK⊢;go_simp;exact hK _ _ (aBQ _ _) rfl
  ·have e6:=hD 6 (by kernel_rfl)
   replace e6:ν 6=(.pointer (some ⟨P,0,none⟩)):=e6
   clear hD;refine aC rfl rfl ?_;simp only[zA,zB,zC,zD,zE,zF,zJ,zK,zG,zH,zI,e6] at hK⊢;refine wp_load_mid 116 _ rfl P 0 rfl _ _ (rK (aB hB HB1.out)) Tryz.underlying116 rfl bD ?_;exact hK _ _ (aBQ _ _) rfl
  ·have e7:=hD 7 (by kernel_rfl)
   replace e7:ν 7=(dK d):=e7
   clear hD;refine aC rfl rfl ?_;simp only[zA,zB,zC,zD,zE,zF,zJ,zK,zG,zH,zI,e7] at hK⊢;go_simp;refine(pS d hbn w1).mono ?_;rintro e w3 ⟨rfl,hb3⟩;exact hK _ _ hb3 rfl
  ·clear hD;refine aC rfl rfl ?_;simp only[zA,zB,zC,zD,zE,zF,zJ,zK,zG,zH,zI] at hK⊢;go_simp;exact hK _ _ (aBQ _ _) rfl
  ·have e8:=hD 8 (by kernel_rfl)
   replace e8:ν 8=(.agg (aQ (aL d.bn))):=e8
   have e9:=hD 9 (by kernel_rfl)
   replace e9:ν 9=(.int .i64 (k:Int)):=e9
   clear hD;refine aC rfl rfl ?_;simp only[zA,zB,zC,zD,zE,zF,zJ,zK,zG,zH,zI,e8,e9] at hK⊢;go_simp;refine(AQ (aL d.bn) k hk w1).mono ?_;rintro e w3 ⟨rfl,hb3⟩;exact hK _ _ hb3 rfl
  ·clear hD;refine aC rfl rfl ?_;simp only[zA,zB,zC,zD,zE,zF,zJ,zK,zG,zH,zI] at hK⊢;go_simp;exact hK _ _ (aBQ _ _) rfl
  ·have e11:=hD 11 (by kernel_rfl)
   replace e11:ν 11=(.pointer (some ⟨P,0,none⟩)):=e11
   clear hD;refine aC rfl rfl ?_;simp only[zA,zB,zC,zD,zE,zF,zJ,zK,zG,zH,zI,e11] at hK⊢;go_simp;exact hK _ _ (aBQ _ _) rfl
  ·have e12:=hD 12 (by kernel_rfl)
   replace e12:ν 12=(.pointer (some ⟨P,0,none⟩)):=e12
   clear hD;refine aC rfl rfl ?_;simp only[zA,zB,zC,zD,zE,zF,zJ,zK,zG,zH,zI,e12] at hK⊢;go_simp;exact hK _ _ (aBQ _ _) rfl
  ·have e13:=hD 13 (by kernel_rfl)
   replace e13:ν 13=(.pointer (some ⟨P,0,none⟩)):=e13
   clear hD;refine aC rfl rfl ?_;simp only[zA,zB,zC,zD,zE,zF,zJ,zK,zG,zH,zI,e13] at hK⊢;go_simp;exact hK _ _ (aBQ _ _) rfl
  ·have e14:=hD 14 (by kernel_rfl)
   replace e14:ν 14=(.pointer (some ⟨P,2,none⟩)):=e14
   clear hD;refine aC rfl rfl ?_;simp only[zA,zB,zC,zD,zE,zF,zJ,zK,zG,zH,zI,e14] at hK⊢;have q1:=aH hB (show W1.cell? ⟨P,2,none⟩=some (.slice d.ta d.bn d.tc) by rw[aBP _ _ _ _ _ _ HB1.out];rfl);go_simp;exact hK _ _ (aBQ _ _) rfl
  ·have e3:=hD 3 (by kernel_rfl)
   replace e3:ν 3=(dK d):=e3
   have e10:=hD 10 (by kernel_rfl)
   replace e10:ν 10=(.agg (aQ (bW (aL d.bn) k))):=e10
   have e15:=hD 15 (by kernel_rfl)
   replace e15:ν 15=(.slice d.ta d.bn d.tc):=e15
   clear hD;refine aC rfl rfl ?_;simp only[zA,zB,zC,zD,zE,zF,zJ,zK,zG,zH,zI,e3,e10,e15] at hK⊢;go_simp;refine(II d 0 (bW (aL d.bn) k) d.ta d.bn d.tc (oE ts) (nx ts) w1 (by omega) hbn (fun y hy=>by simp[bW,aL] at hy;exact hy.2) (fun q hq=>by simp[oE,HOK.out.1,hq]) (gH.nx_lt (w:=w) (d:=d) HGD.out).1 ((HOK.out.ext (aA HBB.out hB)).2.2.1)).mono ?_;rintro e w3 ⟨rfl,hb3⟩;exact hK _ _ hb3 rfl
  ·clear hD;refine aC rfl rfl ?_;simp only[zA,zB,zC,zD,zE,zF,zJ,zK,zG,zH,zI] at hK⊢;go_simp;refine hK _ _ (aD _ _) ⟨rfl,by simp,?_⟩;rw[aBS,jK]
 ·intro ν lo hi w1 hB hS hI hD;have e0:ν 0=(.pointer (some ⟨P,0,none⟩)):=hS 0 (by omega);have e1:ν 1=(.pointer (some ⟨P,0,none⟩)):=hS 1 (by omega);have e2:ν 2=(.pointer (some ⟨P,0,none⟩)):=hS 2 (by omega);have e3:ν 3=(dK d):=hS 3 (by omega);have e4:ν 4=(.pointer (some ⟨P,0,none⟩)):=hS 4 (by omega);have e5:ν 5=(.pointer (some ⟨P,0,none⟩)):=hS 5 (by omega);have e6:ν 6=(.pointer (some ⟨P,0,none⟩)):=hS 6 (by omega);have e7:ν 7=(dK d):=hS 7 (by omega);have e8:ν 8=(.agg (aQ (aL d.bn))):=hS 8 (by omega);have e9:ν 9=(.int .i64 (k:Int)):=hS 9 (by omega);have e10:ν 10=(.agg (aQ (bW (aL d.bn) k))):=hS 10 (by omega);have e11:ν 11=(.pointer (some ⟨P,0,none⟩)):=hS 11 (by omega);have e12:ν 12=(.pointer (some ⟨P,0,none⟩)):=hS 12 (by omega);have e13:ν 13=(.pointer (some ⟨P,0,none⟩)):=hS 13 (by omega);have e14:ν 14=(.pointer (some ⟨P,2,none⟩)):=hS 14 (by omega);have e15:ν 15=(.slice d.ta d.bn d.tc):=hS 15 (by omega);have e16:ν 16=(.agg (aQ (bL (nx ts) (bW (aL d.bn) k) 0))):=hS 16 (by omega);obtain⟨e17,l17,h17⟩:=hS 17 (by omega);clear hS;simp only[List.drop_succ_cons,List.drop_zero,zA,zB,zC,zD,zE,zF,zJ,zK,zG,zH,zI,e0,e1,e2,e3,e4,e5,e6,e7,e8,e9,e10,e11,e12,e13,e14,e15,e16,e17];obtain⟨fr0,hfr0⟩:∃f,f=bL (nx ts) (bW (aL d.bn) k) 0:=⟨_,rfl⟩
  rw[←hfr0];have HFR:=aBO hfr0;have i17:=hI 17 (by omega);generalize lo 17=S7 at *;have hS7:=i17.1;rw[HS1.out] at hS7;have hw2:=below_setRow (g:=S7) hB i17.1 (aQ fr0);have hs2:=setRow_heap w1 S7 _ (aQ fr0) _ _ h17;refine wpList_store_row (o:=⟨none,.store 124 _ _,_,_,_,_⟩) rfl 124 _ _ rfl S7 (aQ fr0) rfl rfl 124 _ h17 (by rw[aF];exact bF) rfl (dE _) ?_;have hsl:=aN hs2;generalize w1.setRow S7 (aQ fr0)=w2 at *;have h5:=aB hw2 H5.out;have h6:=aB hw2 H6.out;have hb2:=aA HBB.out hw2;have hcz:=fE hs2 0 (by omega);have hfz:=lL hs2 0;have h25:(w2.setCell ⟨S7,0,none⟩ (.bool true)).heap[w.heap.size]? =some (eA of):=aK (bA w2 S7 0 _) h5 (fun e=>by injection e with e;omega);have h26:(w2.setCell ⟨S7,0,none⟩ (.bool true)).heap[w.heap.size+1]? =some (eA fun _=>false):=aK (bA w2 S7 0 _) h6 (fun e=>by injection e with e;omega);have h27:(w2.setCell ⟨S7,0,none⟩ (.bool true)).heap[S7]? =some (eA (qV fr0)):=sH hs2 0 (by omega) true;have hb3:Below w.heap.size w (w2.setCell ⟨S7,0,none⟩ (.bool true)):=hb2.setCell (by show w.heap.size≤S7;omega) _;have hsz3:S7<(w2.setCell ⟨S7,0,none⟩ (.bool true)).heap.size:=aN h27;have H25:=aBO h25;have H26:=aBO h26;have H27:=aBO h27;have HB3:=aBO hb3;clear hI hD hB e0 e1 e2 e3 e4 e5 e6 e7 e8 e9 e10 e11 e12 e13 e14 e15 e16 e17 l17 h17 i17 hw2 hs2 h5 h6 hb2 h25 h26 h27 hb3 hfr0;go_wp2
  gi_wp2
  generalize w2.setCell ⟨S7,0,none⟩ (.bool true)=w3 at*
  gi_wp2_with (gi_at_call 88;refine(callsIn_wide.2 (nB _ _)).mono ?_;rintro e w' ⟨rfl,rfl⟩)
  obtain⟨w4,hw4⟩:∃W,W=w3.alloc (.cells #[.pointer (some ⟨w.heap.size,0,none⟩)] 189):=⟨_,rfl⟩
  rw[←hw4];have hb4:Below w3.heap.size w3 w4:=by rw[hw4];exact aD _ _
  have hg4:w4.heap[w3.heap.size]? =some (.cells #[.pointer (some ⟨w.heap.size,0,none⟩)] 189 (0,0)):=by rw[hw4];exact aBS _ _
  have hsz4:w4.heap.size=w3.heap.size+1:=by rw[hw4];simp
  have hs26:=aN H26.out;have HST:Hid (GuJ w of (qV fr0) (onL (qV fr0) []) S7 w3.heap.size w4):=by
   rw[YK];exact⟨aB hb4 H25.out,aB hb4 H26.out,aB hb4 H27.out,hg4,aA HB3.out hb4⟩
  clear hw4 hb4 hg4;generalize w3.heap.size=G at*
  refine oK (ps:=#[28]) (gf:=139) (lb:=#[.pointer (some ⟨G,0,none⟩)]) (enc:=nY) (l:=aZ of) rfl jU _ (kY of G w.heap.size) (fun _=>rfl)
   (fun dn r W=>Hid (GuJ w of (qV fr0) (onL (qV fr0) dn) S7 G W)) (fun _ _=>False) (fun dn r=>GuJ.steady (by omega)) (fun c=>aR.pure _ _) (fun dn r W h=>⟨by rw[aBP _ _ _ _ _ _ h.out.2.2.2.1];rfl,h.out.1⟩) HST ?round ?done ?stop
  case round=>
   rintro lp dn x r W hd hJ;unfold nY
   gi_wp2
   refine⟨dI.refl _,hJ,?_⟩;clear hJ lp W;rintro lp W hJ;have hxl:x<200:=mZ of x (by rw[hd];simp);obtain⟨j1,j2,j3,j4,jb⟩:=hJ.out;have c3:=fE j3 x hxl;have c2:=fE j2 x hxl;have f2:=lL j2 x;have l2:=aN j2;have g:=bA W (w.heap.size+1) x (.bool (!qV fr0 x));have HN:Hid (GuJ w of (qV fr0) (onL (qV fr0) (dn++ [x])) S7 G (W.setCell ⟨w.heap.size+1,x,none⟩ (.bool (!qV fr0 x)))):=by
    rw[←WB];exact⟨aK g j1 (fun e=>by injection e with e;omega),sH j2 x hxl _,aK g j3 (fun e=>by injection e with e;omega),aK g j4 (fun e=>by injection e with e;omega),jb.setCell (by show w.heap.size≤w.heap.size+1;omega) _⟩
   clear j1 j2 j3 j4 jb g hJ hd;generalize qV fr0 x=fx at*
   gi_wp2
   exact⟨dI.setCell _ _ _,HN⟩
  case done=>
   rintro D W hD hJ hK;have hJ1:=hJ.out;have e9:=YL ts k HC.out;rw[HLN.out,←HFR.out] at e9;rw[e9] at hJ1;obtain⟨j1,j2,j3,j4,jb⟩:=hJ1;have J2:=aBO j2;have JB:=aBO jb;have HKK:=aBO hK;clear j1 j2 j3 j4 jb hJ e9 hK;generalize fF ts k of=res at*
   gi_wp2_with (first
    |(refine mP 124 _ rfl (w.heap.size+1) rfl 124 (aQ res) (0,0) _ J2.out Tryz.underlying124 rfl (by rw[aF];exact bF) ?_)
    |(refine sD 124 _ _ rfl (w.heap.size+1) (aQ res) rfl rfl 124 (aQ res) J2.out (by rw[aF];exact bF) rfl (dE _) ?_))
   have hDS:D≠w.heap.size+1:=by omega
   have hr:=setRow_heap W (w.heap.size+1) _ (aQ res) _ _ J2.out;have hb:=below_setRow (g:=w.heap.size+1) JB.out (by omega) (aQ res);have hk2:=(setRow_other W (w.heap.size+1) D (aQ res) (by omega)).trans HKK.out;generalize W.setRow (w.heap.size+1) (aQ res)=W9 at *;have hr2:(W9.putObj D (.deferred none)).heap[w.heap.size+1]? =some (eA res):=(World.putObj_heap_other (by omega)).trans hr;have hb2:=(aR.below (n₀:=w.heap.size) (B:=w.heap.size) (w₀:=w) (aBV _) (aBV _)).put (.deferred none) (l:=D) hb (by omega) hk2 rfl;have hl:=oI hr2;refine⟨by simp,.inl ⟨_,_,rfl,run_takeDeferred hk2,?_⟩⟩;exact⟨.agg (aQ res),by simp[results,Tryz.results133,asAddr,Act.put,hl],rfl,hb2⟩
  case stop=>rintro D c W hD h;exact h.elim
end

section
open Go.RowKit Go.Shelf
theorem WN(f:Nat→Bool)(w:World):Calls Tryz.prog 134 #[.agg (aQ f)] w fun e w'=>e=.returned (.int .i64 ((aZ f).length:Int))∧Below w.heap.size w w':=by
 go_enter Tryz.func134,Tryz.ntmps134
 have h1:=aBS w (eA f)
 have HB:Hid (Below w.heap.size w (w.alloc (eA f))):=aD _ _
 have HE:Hid ((aO (aZ f)).length=(aZ f).length):=by simp[Hid,aO]
 go_wp2_with (first
  |(refine wpList_load_row (o:=⟨some 3,.load 124 _,_,_,_,_⟩) rfl 124 _ rfl w.heap.size rfl 124 (aQ f) (0,0) _ h1 Tryz.underlying124 rfl (by rw[aF];exact bF) ?_)
  |(go_at_call 87
    refine(vO f _).mono ?_;rintro e w2 ⟨v,rfl,ho,hb⟩;obtain⟨a,c,rfl⟩:=ho.form;rw[HE.out];have HB2:=aBO (aA HB.out hb)
    clear ho hb))
 go_ret
 exact⟨rfl,HB2.out⟩
theorem LC{n:Nat}(hn:n≤200)(k:Nat):∀(L:List aI),(∀p∈L,cA p.s)→cA (bP n L k).s:=by
 intro L hL
 have key:∀(l:List aI) (b:aI),(∀p∈l,cA p.s)→cA b.s→cA (l.foldl (gA k) b).s:=by
  intro l
  induction l with
  |nil=>intro b _ hb;exact hb
  |cons p l ih=>
   intro b hl hb;refine ih _ (fun q hq=>hl q (by simp[hq])) ?_;unfold gA
   split
   ·exact hl p (by simp)
   ·exact hb
 exact key L _ hL (eJ hn)
theorem uH{W:World}{B:Nat}{p:aI}(h:W.heap[B]? =some (lA p)):W.cell? ⟨B,200,none⟩=some (.int .i64 p.kind)∧W.cell? ⟨B,201,none⟩=some (.int .i64 p.entry):=by
 rw[aBP _ _ _ _ _ _ h,aBP _ _ _ _ _ _ h,AK]
 constructor
 ·rw[Array.getElem?_push,if_neg (by simp[aF]),Array.getElem?_push,if_pos (by rw[aF])]
 ·rw[Array.getElem?_push,if_pos (by simp[aF])]
theorem SA{w:World}{base:Nat}{e:TypeId}{size:Nat}{v:Value}{n:Nat}{xs:List Value}(h:w.ownsRow base e size v n xs):∃a c,v=.slice a n c:=by
 rcases h.2 with ⟨h,h0⟩|⟨g,cap,cur,h,_⟩
 ·exact⟨none,0,by rw[h,h0]⟩
 ·exact⟨_,_,h⟩
theorem qP(ts:List aT)(L:List aI)(j:Nat):(List.range (j+1)).filterMap (eX ts L)=(List.range j).filterMap (eX ts L)++(match eX ts L j with|some p=> [p]|none=> []):=by
 rw[List.range_succ,List.filterMap_append]
 congr 1
 cases h:eX ts L j<;>simp[h]
theorem xK(ts:List aT)(L:List aI)(j:Nat):((List.range j).filterMap (eX ts L)).length≤j:=by
 have:=List.length_filterMap_le (eX ts L) (List.range j)
 simpa using this
theorem AX{ts:List aT}{L:List aI}{j:Nat}(h:(pv ts j).length≠1):eX ts L j=none:=by unfold eX;rw[if_neg fun hh=>h hh.1]
theorem KR{ts:List aT}{L:List aI}{j:Nat}(h:(nx ts ((pv ts j).headD 0)).length≠2):eX ts L j=none:=by unfold eX;rw[if_neg fun hh=>h hh.2.1]
theorem KQ{ts:List aT}{L:List aI}{j:Nat}(h:(bP ts.length L j).kind=3):eX ts L j=none:=by unfold eX;rw[if_neg fun hh=>hh.2.2.1 h]
theorem KP{ts:List aT}{L:List aI}{j:Nat}(h:(bP ts.length L j).entry=j):eX ts L j=none:=by unfold eX;rw[if_neg fun hh=>hh.2.2.2.1 h]
theorem KO{ts:List aT}{L:List aI}{j:Nat}(h:¬1<(aZ (fF ts j (bP ts.length L j).s)).length):eX ts L j=none:=by unfold eX;rw[if_neg fun hh=>h hh.2.2.2.2]
theorem KN{ts:List aT}{L:List aI}{j:Nat}(h1:(pv ts j).length=1)(h2:(nx ts ((pv ts j).headD 0)).length=2)(h3:(bP ts.length L j).kind≠3)(h4:(bP ts.length L j).entry≠j)(h5:1<(aZ (fF ts j (bP ts.length L j).s)).length):
  eX ts L j=some ⟨fF ts j (bP ts.length L j).s,4,j⟩:=by unfold eX;rw[if_pos ⟨h1,h2,h3,h4,h5⟩]
theorem TU(W0:World)(d:fD)(ts:List aT)(hok:gH W0 d ts)(hf:bU ts=true)(P base:Nat)(v:Value)(L:List aI)(w:World)(hcan:∀p∈L,cA p.s)(hlen:L.length≤1000)(h:mR W0 d P base v L w):
  Calls Tryz.prog 81 #[.pointer (some ⟨P,0,none⟩)] w (GB W0 d P base v w (L++lH ts L)):=by
 have HCAN:=aBO hcan
 have HJ:=aBO h
 have HF:=aBO hf
 have hbn:ts.length=d.bn:=hok.1
 have hb2:d.bn≤200:=hok.2.1
 have HBN:=aBO hbn
 have HOK:=aBO (hok.ext h.ext)
 obtain⟨a,c,hv⟩:=cK.form h.parts
 obtain⟨n,hn⟩:∃n,n=L.length:=⟨_,rfl⟩
 rw[←hn] at hv
 subst hv
 have HN:=aBO hn
 have hn1000:n≤1000:=by omega
 have hc3:w.cell? ⟨P,3,none⟩=some (.slice d.fa d.bn d.fc):=by rw[aBP _ _ _ _ _ _ h.bld];rfl
 clear hcan h hf hok hlen hn
 clear hbn
 go_enter Tryz.func81,Tryz.ntmps81
 go_wp2
 clear hc3
 go_loopw [2,13] (fun s2 s13 wr=>∃j:Nat,j≤d.bn∧s13=.int .i64 (j:Int)∧Hid (bR wr w.heap.size s2 ((List.range j).filterMap (eX ts L)))∧Hid (Below w.heap.size w wr)) (fun _ s13 _=>d.bn-(intOf s13).toNat)
 case atStart=>exact⟨0,by omega,rfl,cK.nil _ _ _ _ _,aBQ _ _⟩
 case round=>
  obtain⟨j,hj,rfl,HM,HB⟩:=hrel;by_cases hlt:j<d.bn
  ·have hlt':(j:Int)<(d.bn:Int):=by omega
   have hj200:j<200:=by omega
   have hwk:=HOK.out.ext HB.out;obtain⟨fb,fo,ra,rc,hfa,hcr,hir⟩:=hwk.2.2.2.2.2 j (pv ts j) (by simp[nA,HBN.out,hlt]);have HWK:=aBO hwk;have HIR:=aBO hir;rw[hfa];obtain⟨af,cf,hvf⟩:=cK.form HM.out;obtain⟨m,hm⟩:∃m,m=((List.range j).filterMap (eX ts L)).length:=⟨_,rfl⟩
   rw[←hm] at hvf;subst hvf;have hm200:m≤200:=by have:=xK ts L j;omega
   have HMM:=aBO hm;clear hwk hir hm hfa
   go_upto_region 5 with (first
    |(refine wpList_store_row (o:=⟨none,.store 128 _ _,_,_,_,_⟩) rfl 128 _ _ rfl w4.heap.size (bJ sm).toArray rfl rfl 128 Tryz.zeroCells128 (aBS _ _) (cF _) (by rw[nR,List.size_toArray,eE]) (all_oneCell_toArray (cV _)) ?_)
    |(go_at_call 132
      refine(GI P base a n c d L j wr (aB HB.out HJ.out.bld) (bR.ext HJ.out.parts HB.out) (by omega) hj200 hb2).mono ?_;rintro e w4 ⟨rfl,hb4⟩;obtain⟨sm,hsm⟩:∃sm,sm=bP d.bn L j:=⟨_,rfl⟩
      rw[←hsm];have HSM:=aBO hsm;have HB4:=aBO hb4
      clear hsm hb4))
   obtain⟨W5,hW5⟩:∃W,W=(w4.alloc (.cells Tryz.zeroCells128 128)).setRow w4.heap.size (bJ sm).toArray:=⟨_,rfl⟩
   rw[←hW5,cW];have hp5:W5.heap[w4.heap.size]? =some (lA sm):=by rw[hW5];exact setRow_heap _ _ _ _ _ _ (aBS _ _)
   have hb5:Below wr.heap.size wr W5:=by rw[hW5];exact below_setRow (aA HB4.out (aD _ _)) HB4.out.size _
   have HP5:=aBO hp5;have HB5:=aBO hb5;have HNX:Hid (∀w',Below wr.heap.size wr w'→eX ts L j=none→bR w' w.heap.size (.slice af m cf) ((List.range (j+1)).filterMap (eX ts L))∧Below w.heap.size w w'):=fun w' hb hc=>by
    rw[qP,hc,List.append_nil];exact⟨bR.ext HM.out hb,aA HB.out hb⟩
   clear hW5 hp5 hb5;generalize w4.heap.size=bp at *;by_cases hl1:(pv ts j).length=1
   rotate_left
   ·have hd1:(((pv ts j).length:Int) != 1)=true:=by simp;omega
    have HCN:=aBO (AX (L:=L) hl1);clear hl1;refine bB (by kernel_rfl) (by kernel_rfl) ?_
    repeat (first
     |go_big_quiet_skip
     |go_big_quiet_step (fail))
    refine wpQuiet_nil ?_;intro _ hw';obtain⟨n',rfl⟩:=hw';have HNE:=aBO (HNX.out n'.val (aA HB5.out n'.ext) (HCN.out));generalize n'.val=W9 at *;go_wp2
    go_roundw
    case rel=>exact⟨j+1,by omega,by go_num,HNE.out.1,HNE.out.2⟩
    case measure=>simp[intOf];omega
   obtain⟨y,hy⟩:∃y,pv ts j= [y]:=List.length_eq_one_iff.1 hl1;have hyn:y<d.bn:=by
    have h1:j∈nx ts y:=(nJ ts j y).1 (by rw[hy];simp);rw[←HBN.out];apply aCF;intro hge;rw[sJ ts y (by omega)] at h1;cases h1
   obtain⟨tb,to0,ra2,rc2,hta,hct,_⟩:=HWK.out.2.2.1.2.2 y (nx ts y) (by simp[oE,HBN.out,hyn]);have hir:=HIR.out;rw[hl1,hy] at hir;obtain⟨b1,o1,rfl,hcy,_⟩:=hir.2.2 0 (by omega);have g1:∀q:aY W5,q.val.cell? ⟨b1,o1,none⟩=some (.int .i64 (y:Int)):=aY.cell (aH HB5.out (by simpa[aO] using hcy));have g2:∀q:aY W5,q.val.cell? ⟨P,2,none⟩=some (.slice (some ⟨tb,to0,none⟩) d.bn d.tc):=aY.cell (by rw[←hta,aBP _ _ _ _ _ _ (aB (aA HB.out HB5.out) HJ.out.bld)];rfl);have g3:∀q:aY W5,q.val.cell? ⟨tb,to0+y,none⟩=some (.slice ra2 (nx ts y).length rc2):=aY.cell (aH HB5.out hct);have g4:∀q:aY W5,q.val.cell? ⟨bp,200,none⟩=some (.int .i64 sm.kind):=aY.cell (uH HP5.out).1;have g5:∀q:aY W5,q.val.cell? ⟨bp,201,none⟩=some (.int .i64 sm.entry):=aY.cell (uH HP5.out).2;have hyn':(y:Int)<(d.bn:Int):=by omega
   have HY:=aBO hy;have HL1:=aBO hl1;have HSM2:Hid (sm=bP ts.length L j):=by rw[Hid,HBN.out];exact HSM.out
   rw[hl1];clear hir hcy hct hta hy hl1 HIR HSM;by_cases hl2:(nx ts y).length=2
   rotate_left
   ·have hd2:(((nx ts y).length:Int) != 2)=true:=by simp;omega
    have HCN:Hid (eX ts L j=none):=KR (by rw[HY.out];exact hl2);clear hl2;refine bB (by kernel_rfl) (by kernel_rfl) ?_
    repeat (first
     |go_big_quiet_skip
     |go_big_quiet_step (fail))
    refine wpQuiet_nil ?_;intro _ hw';obtain⟨n',rfl⟩:=hw';have HNE:=aBO (HNX.out n'.val (aA HB5.out n'.ext) (HCN.out));generalize n'.val=W9 at *;go_wp2
    go_roundw
    case rel=>exact⟨j+1,by omega,by go_num,HNE.out.1,HNE.out.2⟩
    case measure=>simp[intOf];omega
   have HL2:=aBO hl2;rw[hl2] at g3;clear hl2;by_cases hkd:sm.kind=3
   ·have HCN:Hid (eX ts L j=none):=KQ (by rw[←HSM2.out];exact hkd);rw[hkd] at g4;clear hkd;refine bB (by kernel_rfl) (by kernel_rfl) ?_
    repeat (first
     |go_big_quiet_skip
     |go_big_quiet_step (fail))
    refine wpQuiet_nil ?_;intro _ hw';obtain⟨n',rfl⟩:=hw';have HNE:=aBO (HNX.out n'.val (aA HB5.out n'.ext) (HCN.out));generalize n'.val=W9 at *;go_wp2
    go_roundw
    case rel=>exact⟨j+1,by omega,by go_num,HNE.out.1,HNE.out.2⟩
    case measure=>simp[intOf];omega
   have HKD:=aBO hkd;have hd3:(sm.kind==3)=false:=by simpa using hkd
   clear hkd;by_cases hen:sm.entry=(j:Int)
   ·have HCN:Hid (eX ts L j=none):=KP (by rw[←HSM2.out];exact hen);rw[hen] at g5;clear hen;refine bB (by kernel_rfl) (by kernel_rfl) ?_
    repeat (first
     |go_big_quiet_skip
     |go_big_quiet_step (fail))
    refine wpQuiet_nil ?_;intro _ hw';obtain⟨n',rfl⟩:=hw';have HNE:=aBO (HNX.out n'.val (aA HB5.out n'.ext) (HCN.out));generalize n'.val=W9 at *;go_wp2
    go_roundw
    case rel=>exact⟨j+1,by omega,by go_num,HNE.out.1,HNE.out.2⟩
    case measure=>simp[intOf];omega
   have HEN:=aBO hen;have hd4:(sm.entry==(j:Int))=false:=by simpa using hen
   clear hen;refine bB (by kernel_rfl) (by kernel_rfl) ?_
   repeat (first
    |go_big_quiet_skip
    |go_big_quiet_step (fail))
   refine wpQuiet_nil ?_;intro _ hw';obtain⟨n',rfl⟩:=hw';have hp6:=aB n'.ext HP5.out;have HB6:=aBO (aA HB5.out n'.ext);clear g1 g2 g3 g4 g5;generalize n'.val=W6 at *;have h1:=lB hp6;have HCS:Hid (cA sm.s):=by rw[Hid,HSM2.out,HBN.out];exact LC hb2 j L HCAN.out
   obtain⟨gs,hgs⟩:∃f,f=fF ts j sm.s:=⟨_,rfl⟩
   have HGS:=aBO hgs;clear hgs
   go_upto_region 7 with (first
    |(refine wpList_load_mid (op:=⟨some 52,.load 124 _,_,_,_,_⟩) rfl 124 _ rfl bp 0 rfl (aQ sm.s).toList _ h1 Tryz.underlying124 rfl (by rw[Array.length_toList,aF];exact bF) ?_)
    |(refine wpList_store_row (o:=⟨none,.store 124 _ _,_,_,_,_⟩) rfl 124 _ _ rfl w7.heap.size (aQ gs) rfl rfl 124 Tryz.zeroCells124 (aBS _ _) (by rw[aF];exact bF) (by rw[aF];kernel_rfl) (dE _) ?_)
    |(go_at_call 133
      refine(ME P d ts (.slice a n c) j sm.s W6 (aB (aA HB.out HB6.out) HJ.out.bld) (HWK.out.ext HB6.out) HF.out hj200 HCS.out).mono ?_;rintro e w7 ⟨rfl,hb7⟩;rw[←HGS.out];have HB7:=aBO (aA HB6.out hb7)
      clear hb7))
   obtain⟨W8,hW8⟩:∃W,W=(w7.alloc (.cells Tryz.zeroCells124 124)).setRow w7.heap.size (aQ gs):=⟨_,rfl⟩
   rw[←hW8,cW];have hs8:W8.heap[w7.heap.size]? =some (eA gs):=by rw[hW8];exact setRow_heap _ _ _ _ _ _ (aBS _ _)
   have hb8:Below wr.heap.size wr W8:=by rw[hW8];exact below_setRow (aA HB7.out (aD _ _)) HB7.out.size _
   have HS8:=aBO hs8;have HB8:=aBO hb8;clear hW8 hs8 hb8;generalize w7.heap.size=gb at*
   go_upto_if 56 with (first
    |(refine wpList_load_row (o:=⟨some 54,.load 124 _,_,_,_,_⟩) rfl 124 _ rfl gb rfl 124 (aQ gs) (0,0) _ HS8.out Tryz.underlying124 rfl (by rw[aF];exact bF) ?_)
    |(go_at_call 134
      refine(WN gs W8).mono ?_;rintro e w9 ⟨rfl,hb9⟩;have HB9:=aBO (aA HB8.out hb9);have HS9:=aBO (aB hb9 HS8.out)
      clear hb9))
   by_cases hmn:1<(aZ gs).length
   ·have hmn':(1:Int)<((aZ gs).length:Int):=by omega
    have hmn2:decide (((aZ gs).length:Int)>1)=true:=decide_eq_true hmn';have HCN:Hid (eX ts L j=some ⟨gs,4,(j:Int)⟩):=by
     have:=KN (ts:=ts) (L:=L) (j:=j) (by rw[HY.out];rfl) (by rw[HY.out];exact HL2.out) (by rw[←HSM2.out];exact HKD.out) (by rw[←HSM2.out];exact HEN.out) (by rw[←HSM2.out,←HGS.out];exact hmn);rw[←HSM2.out,←HGS.out] at this;exact this
    have HOWN9:=aBO (bR.ext HM.out HB9.out);clear hmn;have hbs9:w.heap.size≤w9.heap.size:=aCD HB.out.size HB9.out.size
    go_wp2_with (first
     |(refine wpList_load_row (o:=⟨some 58,.load 124 _,_,_,_,_⟩) rfl 124 _ rfl gb rfl 124 (aQ gs) (0,0) _ HS9.out Tryz.underlying124 rfl (by rw[aF];exact bF) ?_)
     |(refine xX (o:=⟨some 60,.build 128 _,_,_,_,_⟩) rfl _ _ _ gs 4 (j:Int) rfl rfl rfl rfl ?_)
     |(refine CC (o:=⟨some 61,.buildSlice 120 _ _,_,_,_,_⟩) rfl _ ⟨gs,4,(j:Int)⟩ rfl rfl ?_)
     |(refine bV (o:=⟨some 62,.call _,_,_,_,_⟩) rfl w9 (.tmp 57) (.tmp 61) 120 128 rfl w.heap.size _ 202 216 Tryz.underlying120 vR (by kernel_rfl) (by omega) (.slice af m cf) m _ (bJ ⟨gs,4,(j:Int)⟩) rfl (by rw[HMM.out];have:=HOWN9.out.1;rw[←HMM.out] at this⊢;exact this) w9.heap.size rfl rfl (eE _) (cV _) (by simp only[maxLen];omega) (by omega) hbs9 ?_
       intro g cap w10 hown10 hg10 hat10;have HO10:=aBO hown10;have HG10:=aBO hg10
       clear hown10 hg10 hat10))
    go_roundw
    case rel=>
     refine⟨j+1,by omega,by go_num,?_,?_⟩
     ·rw[qP,HCN.out];refine⟨?_,?_⟩
      ·rw[List.length_append,List.flatMap_append,←HMM.out];simpa using HO10.out
      ·have:=HMM.out;simp;omega
     ·exact(aA HB.out HB9.out).grown HG10.out hbs9 (fun q e=>(cK.low HM.out e).1)
    case measure=>simp[intOf];omega
   ·have hmn':¬(1:Int)<((aZ gs).length:Int):=by omega
    have hmn2:decide (((aZ gs).length:Int)>1)=false:=decide_eq_false hmn';have HCN:Hid (eX ts L j=none):=KO (by rw[←HSM2.out,←HGS.out];exact hmn);have HNE:=aBO (HNX.out w9 HB9.out HCN.out);clear hmn;go_wp2
    go_roundw
    case rel=>exact⟨j+1,by omega,by go_num,HNE.out.1,HNE.out.2⟩
    case measure=>simp[intOf];omega
  ·have hje:j=d.bn:=by omega
   have hlt':¬(j:Int)<(d.bn:Int):=by omega
   have hM:=HM.out;rw[hje,←HBN.out] at hM;obtain⟨M,hMM⟩:∃M,M=lH ts L:=⟨_,rfl⟩
   have hM2:bR wr w.heap.size u2 M:=by rw[hMM];exact hM
   obtain⟨af,cf,hvf⟩:=cK.form hM2;obtain⟨m,hm⟩:∃m,m=M.length:=⟨_,rfl⟩
   rw[←hm] at hvf;subst hvf;have hm200:m≤200:=by
    have:=xK ts L ts.length;rw[hm,hMM,lH];rw[HBN.out] at this⊢;omega
   have HM2:=aBO hM2;have HMM:=aBO hMM;have HMl:=aBO hm;have hJ:=HJ.out.ext' HB.out;have HJ9:=aBO hJ;have hc4:=hJ.cell;have hbs:=hJ.bs;clear hM hMM hM2 hm hJ HM
   go_wp2_with (
    (refine fN wr rfl (.tmp 68) (.tmp 69) 120 128 rfl base _ 202 216 Tryz.underlying120 vR (by kernel_rfl) (by omega) (.slice a n c) n _ rfl (by have:=HJ9.out.parts.1;rw[←HN.out] at this;exact this) af m cf rfl (M.flatMap bJ) (by rw[HMl.out];exact jY bJ 202 eE M) (kM.news (cK.recs eE HM2.out) eE (by omega)) (fun u hu=>by obtain⟨p,_,hp⟩:=List.mem_flatMap.1 hu;exact cV p u hp) (by simp only[maxLen];omega) (by omega) hbs ?_
     intro v' w3 hown3 hg3 hat3;obtain⟨a',c',rfl⟩:=SA hown3;have hP3:w3.heap[P]? =some (wQ d (.slice a n c)):=aK hg3 HJ9.out.bld (cH HJ9.out.parts.1 HJ9.out.bld (by decide));have hf3:w3.frozen? ⟨P,4,none⟩=false:=frozen_of_row _ _ _ _ _ hP3;have hl3:=aN hP3;have hc3:w3.cell? ⟨P,4,none⟩=some (.slice a n c):=(by rw[aBP _ _ _ _ _ _ hP3];rfl)
     have happ:=HJ9.out.app (M:=M) hg3 (by rw[←HN.out,←HMl.out];exact hown3) (by rw[←HN.out,←HMl.out];omega);have HAPP:=aBO happ;have HAT:=aBO hat3
     clear hown3 hg3 hat3 happ hP3 hc4))
   go_end0
   refine⟨rfl,_,by rw[←HMM.out];exact HAPP.out.1,((sW HB.out).mono (fun _ h=>h.elim)).then HAPP.out.2 (fun q hq=>.inl hq),fun q hq=>?_⟩;rcases HAT.out with h|h
   ·exact .inl (by rw[←h];exact hq)
   ·rw[h] at hq;injection hq with hq;exact .inr (by have:=HB.out.size;omega)
end
end Go.Proofs.YtblhmdhfhaencaaGreat
