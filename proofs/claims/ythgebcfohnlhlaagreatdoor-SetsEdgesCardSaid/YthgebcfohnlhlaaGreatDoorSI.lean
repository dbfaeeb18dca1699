/-
 How great functions,tiles are:BlocksOf,FuncOf,the laws' own great.
-/
import Derived.Test.YthgebcfohnlhlaaGreatDoorTX
import Derived.Test.YthgebcfohnlhlaaGreatDoorInsR
import Derived.Deep.LoopGhost
import Derived.Test.YthgebcfohnlhlaaGreatDoorTH
import Derived.Test.YthgebcfohnlhlaaGreatDoorTM
namespace Go.Proofs.YthgebcfohnlhlaaGreatDoor
set_option linter.unusedSimpArgs false
set_option linter.unusedVariables false
set_option linter.unusedSectionVars false
set_option maxRecDepth 100000
set_option maxHeartbeats 40000000
section
open Go.RowKit
def BlksX(w:World)(a:Option Addr)(n:Nat)(bs:List BlkH):Prop:=BlksOK w a n bs∧∀b∈bs,∃rs,InsS w b.ia b.n rs
end

section
open Go.RowKit
attribute [local go_sem] Oper.semAt_some wide_fn wide_depth wide_fnR wide_depthR
def totN(ls:List TileR)(i:Nat):Nat:=((ls.take i).map fun t=>t.bn).sum
theorem totN_step(ls:List TileR)(i:Nat)(t:TileR)(h:ls[i]? =some t):totN ls (i+1)=totN ls i+t.bn:=by
 rw[totN,totN,List.take_add_one,h,Option.toList_some,List.map_append,List.sum_append];simp
theorem totN_all{w:World}{a:Option Addr}{n:Nat}{ls:List TileR}(h:TilesOK w a n ls):totN ls n=totL (tdOf ls):=by
 rw[totN,totL,tdOf,List.take_of_length_le (by rw[h.1.1];omega),List.map_map]
 congr 1
 refine List.map_congr_left fun t ht=>?_
 exact((h.2 t ht).1.1).symm
end

section
open Go.RowKit
attribute [local go_sem] Oper.semAt_some wide_fn wide_depth wide_fnR wide_depthR
structure BlkR where
 h:BlkH
 rs:List InsR
abbrev blkC'(b:BlkR):List Value:=blkC b.h
theorem blkC'_len(b:BlkR):(blkC' b).length=5:=rfl
def BlkROK(w:World)(b:BlkR):Prop:=TermOK b.h.t∧InsS w b.h.ia b.h.n b.rs
theorem BlkROK.ext{w w':World}{b:BlkR}(h:BlkROK w b)(hb:Below w.heap.size w w'):BlkROK w' b:=⟨h.1,h.2.ext hb⟩
def BlksR(w:World)(a:Option Addr)(n:Nat)(bs:List BlkR):Prop:=Recs 5 blkC' w a n bs∧∀b∈bs,BlkROK w b
theorem BlksR.ext{w w':World}{a:Option Addr}{n:Nat}{bs:List BlkR}(h:BlksR w a n bs)(hb:Below w.heap.size w w'):BlksR w' a n bs:=⟨h.1.ext blkC'_len hb,fun b hx=>(h.2 b hx).ext hb⟩
def hOf(bs:List BlkR):List BlkH:=bs.map (·.h)
theorem BlksR.x{w:World}{a:Option Addr}{n:Nat}{bs:List BlkR}(h:BlksR w a n bs):BlksX w a n (hOf bs):=by
 refine⟨⟨⟨by simp[hOf,h.1.1],h.1.2.1,fun k r hr=>?_⟩,fun b hb=>?_⟩,fun b hb=>?_⟩
 ·simp only[hOf,List.getElem?_map,Option.map_eq_some_iff] at hr;obtain⟨x,hx,rfl⟩:=hr;exact h.1.2.2 k x hx
 ·simp only[hOf,List.mem_map] at hb;obtain⟨x,hx,rfl⟩:=hb;exact(h.2 x hx).1
 ·simp only[hOf,List.mem_map] at hb;obtain⟨x,hx,rfl⟩:=hb;exact⟨x.rs,(h.2 x hx).2⟩
theorem BlksX.r{w:World}{a:Option Addr}{n:Nat}{bs:List BlkH}(h:BlksX w a n bs):∃xs,hOf xs=bs∧BlksR w a n xs:=by
 have key:∀bs:List BlkH,(∀b∈bs,∃rs,InsS w b.ia b.n rs)→∃xs:List BlkR,hOf xs=bs∧∀x∈xs,InsS w x.h.ia x.h.n x.rs:=by
  intro bs
  induction bs with
  |nil=>exact fun _=>⟨[],rfl,fun x hx=>by cases hx⟩
  |cons b bs ih=>
   intro hb;obtain⟨xs,h1,h2⟩:=ih fun c hc=>hb c (by simp[hc]);obtain⟨rs,hr⟩:=hb b (by simp);refine⟨⟨b,rs⟩ :: xs,by simp[hOf] at h1⊢;exact h1,fun x hx=>?_⟩;rcases List.mem_cons.1 hx with rfl|hx
   ·exact hr
   ·exact h2 x hx
 obtain⟨xs,h1,h2⟩:=key bs h.2
 subst h1
 refine⟨xs,rfl,⟨by have:=h.1.1.1;simpa[hOf] using this,h.1.1.2.1,fun k r hr=>h.1.1.2.2 k r.h (by simp[hOf,hr])⟩,fun x hx=>⟨h.1.2 x.h (by simp only[hOf,List.mem_map];exact⟨x,hx,rfl⟩),h2 x hx⟩⟩
def BigOK(most:Int)(b:BlkR):Prop:=(b.h.n:Int)≤most∧∀r∈b.rs,(r.na:Int)≤most
def BlocksPost2(bs:List BlkR)(most:Int)(w:World)(e:Ending)(w':World):Prop:=∃v:Int,e=.returned (.int .i64 v)∧0≤v∧v≤35184372088841∧(v≤most→(bs.length:Int)≤most∧∀b∈bs,BigOK most b)∧w=w'
theorem blocksOf_any2(a:Option Addr)(n c:Nat)(bs:List BlkR)(most:Int)(h0:0≤most)(h1:most≤10000)(w:World)(h:BlksR w a n bs):
  Calls Tryz.prog 99 #[.slice a n c,.int .i64 most] w (BlocksPost2 bs most w):=by
 have H:=Lib.hid h
 have HL:=Lib.hid h.1.1
 have hn:=h.1.2.1
 clear h
 go_enter Tryz.func99,Tryz.ntmps99
 go_wp2
 go_loopg [5,6,7] n (fun gg s5 s6 _ wr=>∃(i:Nat) (acc:Int),s6=.int .i64 i∧s5=.int .i64 acc∧i≤n∧n-i≤gg∧(i:Int)≤acc∧acc≤35184372088841∧Hid (acc≤most→∀b∈bs.take i,BigOK most b)∧wr=w)
 case atStart=>exact⟨0,0,rfl,rfl,by omega,by omega,by omega,by omega,fun _ b hb=>by simp at hb,rfl⟩
 case round=>
  obtain⟨i,acc,rfl,rfl,hi,hgg,ha0,ha1,HR,rfl⟩:=hrel;by_cases hlt:i<n
  ·by_cases hm:acc≤most
   ·have hir:i<bs.length:=by rw[HL.out];exact hlt
    obtain⟨b,hb⟩:∃b,bs[i]? =some b:=⟨bs[i],List.getElem?_eq_getElem hir⟩
    obtain⟨B,o,rfl,hc⟩:=H.out.1.2.2 i b hb;have g0:=hc 0 (by omega);rw[Nat.add_zero] at g0;have hI:=(H.out.2 b (List.mem_of_getElem? hb)).2;have HI:=Lib.hid hI;have hbn:=hI.1.2.1;have HB:=Lib.hid hb;have g0':wr.cell? ⟨B,o+i*5,none⟩=some (.slice b.h.ia b.h.n b.h.c):=g0;have hmr:=HR.out hm;have HMR:=Lib.hid hmr;clear hb hc hI g0 hmr;have hlt':(i:Int)<(n:Int):=by omega
    go_wp2;obtain⟨wo,rfl⟩:∃wo:World,wo=wr:=⟨_,rfl⟩
    have HT:Hid (∀acc2:Int,acc+1+b.h.n≤acc2→acc2≤most→(∀r∈b.rs,(r.na:Int)≤most)→∀x∈bs.take (i+1),BigOK most x):=fun acc2 h1 h2 h3 x hx=>by
     rw[List.take_add_one,HB.out,List.mem_append] at hx;rcases hx with hx|hx
     ·exact HMR.out x hx
     ·simp at hx;subst hx;exact⟨by omega,h3⟩
    go_loopg [5,7] b.h.n (fun gg2 s5 s7 wi=>∃(k:Nat) (acc2:Int),s7=.int .i64 k∧s5=.int .i64 acc2∧k≤b.h.n∧b.h.n-k≤gg2∧acc+1+b.h.n≤acc2∧acc2≤35184372088841∧Hid (acc2≤most→∀r∈b.rs.take k,(r.na:Int)≤most)∧wi=wo)
    case atStart=>exact⟨0,acc+1+b.h.n,rfl,rfl,by omega,by omega,by omega,by omega,fun _ r hr=>by simp at hr,rfl⟩
    case round=>
     obtain⟨k,acc2,rfl,rfl,hk,hgg2,hb1,hb2,HRk,rfl⟩:=hrel;by_cases hk2:k<b.h.n
     ·by_cases hm2:acc2≤most
      ·obtain⟨r,bb,oo,hr,hok,hia,c0,c1,c2,c3,c4,c5,c6,c7⟩:=HI.out.cells hk2;have hna:=hok.1.2.1;rw[hia] at g0';have hkz:(k:Int)<(b.h.n:Int):=by omega
       have HRk2:Hid (acc2+r.na≤most→∀q∈b.rs.take (k+1),(q.na:Int)≤most):=fun h q hq=>by
        rw[List.take_add_one,hr,List.mem_append] at hq;rcases hq with hq|hq
        ·exact HRk.out (by omega) q hq
        ·simp at hq;subst hq;omega
       clear hr hok c0 c1 c2 c3 c4 c5 c7 hia;go_wp2
       go_roundg (b.h.n-(k+1))
       case measure=>omega
       case rel=>exact⟨k+1,acc2+r.na,by go_num,rfl,by omega,Nat.le_refl _,by omega,by omega,HRk2,rfl⟩
      ·have hkz:(k:Int)<(b.h.n:Int):=by omega
       have hm3:most<acc2:=by omega
       go_wp2
       go_roundg (n-(i+1))
       case measure=>omega
       case rel=>exact⟨i+1,acc2,by go_num,rfl,by omega,Nat.le_refl _,by omega,by omega,fun h=>absurd h (by omega),rfl⟩
     ·have hkz:¬(k:Int)<(b.h.n:Int):=by omega
      have HRk3:Hid (acc2≤most→∀r∈b.rs,(r.na:Int)≤most):=fun h=>by
       have:=HRk.out h
       rwa [List.take_of_length_le (by rw[HI.out.1.1];omega)] at this
      go_wp2
      go_roundg (n-(i+1))
      case measure=>omega
      case rel=>exact⟨i+1,acc2,by go_num,rfl,by omega,Nat.le_refl _,by omega,by omega,fun h=>HT.out acc2 hb1 h (HRk3.out h),rfl⟩
   ·have hm3:most<acc:=by omega
    have hlt':(i:Int)<(n:Int):=by omega
    go_wp2
    go_ret
    exact⟨acc,rfl,by omega,ha1,fun h=>absurd h (by omega),rfl⟩
  ·obtain rfl:i=n:=by omega
   have HT:Hid (bs.take i=bs):=List.take_of_length_le (by rw[HL.out];omega);go_wp2
   go_ret
   exact⟨acc,rfl,by omega,ha1,fun h=>⟨by rw[HL.out];omega,by have:=HR.out h;rw[HT.out] at this;exact this⟩,rfl⟩
def FuncOfPost2(pn:Nat)(bs:List BlkR)(most:Int)(w:World)(e:Ending)(w':World):Prop:=∃z:Int,e=.returned (.int .i64 z)∧0≤z∧z≤70368744177664∧(z≤most→(pn:Int)≤most∧(bs.length:Int)≤most∧∀b∈bs,BigOK most b)∧Below w.heap.size w w'
theorem funcOf_any2(pa:Option Addr)(pn pc:Nat)(hpn:pn≤17592186044416)(ba:Option Addr)(bn bc:Nat)(bs:List BlkR)(most:Int)(h0:0≤most)(h1:most≤10000)(w:World)(h:BlksR w ba bn bs):
  Calls Tryz.prog 42 #[funcV pa pn pc ba bn bc,.int .i64 most] w (FuncOfPost2 pn bs most w):=by
 have HX:=Lib.hid h
 clear h
 go_enter Tryz.func42,Tryz.ntmps42
 go_upto_region 1 with (fail)
 obtain⟨W,hW⟩:∃W,W=w.alloc (funcO pa pn pc ba bn bc):=⟨_,rfl⟩
 rw[←hW]
 have hk0:W.heap[w.heap.size]? =some (funcO pa pn pc ba bn bc):=by rw[hW];exact heap_alloc_new _ _
 have hB:Below w.heap.size w W:=by rw[hW];exact ext_alloc _ _
 have HK:=Lib.hid hk0
 have HB:=Lib.hid hB
 clear hW hk0 hB
 refine region_free 8 [some 5,some 6,some 7,some 8,some 9,some 10,some 11,some 12] (by kernel_rfl) (by kernel_rfl) (specB [.val (.pointer (some ⟨w.heap.size,0,none⟩)),.val (.slice pa pn pc),.val (.int .i64 (pn:Int)),.val (.pointer (some ⟨w.heap.size,1,none⟩)),.val (.slice ba bn bc),.val (.int .i64 most),(.any fun v lo hi W=>∃z:Int,v=.int .i64 z∧0≤z∧z≤35184372088841∧(z≤most→(bs.length:Int)≤most∧∀b∈bs,BigOK most b)),(.any fun v lo hi W=>∃z:Int,v=.int .i64 z∧0≤z∧z≤70368744177664∧(z≤most→(pn:Int)≤most∧(bs.length:Int)≤most∧∀b∈bs,BigOK most b))]) (specB_mono ?_) ?_ ?_
 ·intro k hk;simp only[List.mem_cons,List.not_mem_nil,or_false] at hk;rcases hk with rfl|rfl|rfl|rfl|rfl|rfl|rfl|rfl
  ·exact trivial
  ·exact trivial
  ·exact trivial
  ·exact trivial
  ·exact trivial
  ·exact trivial
  ·intro v lo hi w w' _ h;exact h
  ·intro v lo hi w w' _ h;exact h
 ·intro i hi ν lo hi' w1 K hB hD hK;have hcase:i=0∨i=1∨i=2∨i=3∨i=4∨i=5∨i=6∨i=7:=by omega
  clear hi;rcases hcase with rfl|rfl|rfl|rfl|rfl|rfl|rfl|rfl
  ·clear hD;refine wpOp_atK rfl rfl ?_;simp only[zA,zB,zC,zD,zE,zF,zJ,zK,zG,zH,zI] at hK⊢;go_simp;exact hK _ _ (Below.refl _ _) rfl
  ·have e0:=hD 0 (by kernel_rfl)
   replace e0:ν 0=(.pointer (some ⟨w.heap.size,0,none⟩)):=e0
   clear hD;refine wpOp_atK rfl rfl ?_;simp only[zA,zB,zC,zD,zE,zF,zJ,zK,zG,zH,zI,e0] at hK⊢;have hcl:w1.cell? ⟨w.heap.size,0,none⟩=some (.slice pa pn pc):=(by rw[cell_of_row _ _ _ _ _ _ (block_ext hB HK.out)];rfl)
   go_simp;exact hK _ _ (Below.refl _ _) rfl
  ·have e1:=hD 1 (by kernel_rfl)
   replace e1:ν 1=(.slice pa pn pc):=e1
   clear hD;refine wpOp_atK rfl rfl ?_;simp only[zA,zB,zC,zD,zE,zF,zJ,zK,zG,zH,zI,e1] at hK⊢;go_simp;exact hK _ _ (Below.refl _ _) rfl
  ·clear hD;refine wpOp_atK rfl rfl ?_;simp only[zA,zB,zC,zD,zE,zF,zJ,zK,zG,zH,zI] at hK⊢;go_simp;exact hK _ _ (Below.refl _ _) rfl
  ·have e3:=hD 3 (by kernel_rfl)
   replace e3:ν 3=(.pointer (some ⟨w.heap.size,1,none⟩)):=e3
   clear hD;refine wpOp_atK rfl rfl ?_;simp only[zA,zB,zC,zD,zE,zF,zJ,zK,zG,zH,zI,e3] at hK⊢;have hcl:w1.cell? ⟨w.heap.size,1,none⟩=some (.slice ba bn bc):=(by rw[cell_of_row _ _ _ _ _ _ (block_ext hB HK.out)];rfl)
   go_simp;exact hK _ _ (Below.refl _ _) rfl
  ·clear hD;refine wpOp_atK rfl rfl ?_;simp only[zA,zB,zC,zD,zE,zF,zJ,zK,zG,zH,zI] at hK⊢;go_simp;exact hK _ _ (Below.refl _ _) rfl
  ·have e4:=hD 4 (by kernel_rfl)
   replace e4:ν 4=(.slice ba bn bc):=e4
   have e5:=hD 5 (by kernel_rfl)
   replace e5:ν 5=(.int .i64 most):=e5
   clear hD;refine wpOp_atK rfl rfl ?_;simp only[zA,zB,zC,zD,zE,zF,zJ,zK,zG,zH,zI,e4,e5] at hK⊢;go_simp;refine(blocksOf_any2 ba bn bc bs most h0 h1 w1 (HX.out.ext (ext_trans HB.out hB))).mono ?_;rintro e w3 ⟨z,rfl,hz0,hz1,hz2,rfl⟩;exact hK _ _ (Below.refl _ _) ⟨z,rfl,hz0,hz1,hz2⟩
  ·have e2:=hD 2 (by kernel_rfl)
   replace e2:ν 2=(.int .i64 (pn:Int)):=e2
   have e6:=hD 6 (by kernel_rfl);unfold specB at e6;simp only[List.getD_cons_zero,List.getD_cons_succ,specK] at e6;clear hD;refine wpOp_atK rfl rfl ?_;simp only[zA,zB,zC,zD,zE,zF,zJ,zK,zG,zH,zI,e2] at hK⊢;obtain⟨z,hz,hz0,hz1,hz2⟩:=e6;simp only[hz] at hK⊢;go_simp;exact hK _ _ (Below.refl _ _) ⟨(pn:Int)+z,by rw[IntKind.wrap_i64];congr 1;omega,by omega,by omega,fun h=>⟨by omega,hz2 (by omega)⟩⟩
 ·intro ν lo hi w1 hB hS hI hD;have e0:ν 0=(.pointer (some ⟨w.heap.size,0,none⟩)):=hS 0 (by omega);have e1:ν 1=(.slice pa pn pc):=hS 1 (by omega);have e2:ν 2=(.int .i64 (pn:Int)):=hS 2 (by omega);have e3:ν 3=(.pointer (some ⟨w.heap.size,1,none⟩)):=hS 3 (by omega);have e4:ν 4=(.slice ba bn bc):=hS 4 (by omega);have e5:ν 5=(.int .i64 most):=hS 5 (by omega);have e6:=hS 6 (by omega);unfold specB at e6;simp only[List.getD_cons_zero,List.getD_cons_succ,specK] at e6;have e7:=hS 7 (by omega);unfold specB at e7;simp only[List.getD_cons_zero,List.getD_cons_succ,specK] at e7;clear hS;simp only[List.drop_succ_cons,List.drop_zero,zA,zB,zC,zD,zE,zF,zJ,zK,zG,zH,zI,e0,e1,e2,e3,e4,e5];clear e0 e1 e2 e3 e4 e5 e6;obtain⟨z,hz,hz0,hz1,hz2⟩:=e7;rw[hz];have HZ2:=Lib.hid hz2;have HB9:=Lib.hid (ext_trans HB.out hB);clear hI hD hB hz2;go_wp2
  go_ret
  exact⟨z,rfl,hz0,hz1,HZ2.out,HB9.out⟩
end

section
open Go.RowKit
theorem blksR_cells{w:World}{a:Option Addr}{n:Nat}{rs:List BlkR}(h:BlksR w a n rs){k:Nat}(hk:k<n):∃r b o,rs[k]? =some r∧BlkROK w r∧a=some ⟨b,o,none⟩∧w.cell? ⟨b,o+k*5,none⟩=some (.slice r.h.ia r.h.n r.h.c)∧w.cell? ⟨b,o+k*5+1,none⟩=some (.int .i64 r.h.t.kind)∧w.cell? ⟨b,o+k*5+2,none⟩=some (.int .i64 r.h.t.a)∧w.cell? ⟨b,o+k*5+3,none⟩=some (.int .i64 r.h.t.t0)∧w.cell? ⟨b,o+k*5+4,none⟩=some (.int .i64 r.h.t.t1):=by
 have hk':k<rs.length:=by rw[h.1.1];exact hk
 obtain⟨r,hr⟩:∃r,rs[k]? =some r:=⟨rs[k],List.getElem?_eq_getElem hk'⟩
 obtain⟨b,o,e,hc⟩:=h.1.2.2 k r hr
 exact⟨r,b,o,hr,h.2 r (List.mem_of_getElem? hr),e,hc 0 (by omega),hc 1 (by omega),hc 2 (by omega),hc 3 (by omega),hc 4 (by omega)⟩
def parB(ps:List Int):Bool:=ps.all varB&&decide ps.Nodup
def blkB(b:BlkR):Bool:=termB b.h.t&& !b.rs.any fun r=> !isInsB r.d
def irWholeB(ps:List Int)(bs:List BlkR):Bool:=parB ps&&bs.all blkB
theorem parB_no{ps:List Int}{k:Nat}{x:Int}(h:ps[k]? =some x)(hx:varB x=false∨x∈ps.take k):parB ps=false:=by
 unfold parB
 rcases hx with hx|hx
 ·have:ps.all varB=false:=List.all_eq_false.2 ⟨x,List.mem_of_getElem? h,by simp[hx]⟩;rw[this];rfl
 ·have:¬ps.Nodup:=fun hn=>by
   have hk:=(List.getElem?_eq_some_iff.1 h).1;have e:=(List.getElem?_eq_some_iff.1 h).2;rw[←List.take_append_drop k ps] at hn;have h2:=(List.nodup_append.1 hn).2.2 x hx x (by rw[List.drop_eq_getElem_cons hk,e];simp);exact h2 rfl
  simp[this]
theorem parB_yes{ps:List Int}(h:∀k x,ps[k]? =some x→varB x=true∧x∉ps.take k):parB ps=true:=by
 unfold parB
 rw[Bool.and_eq_true,decide_eq_true_eq]
 refine⟨List.all_eq_true.2 fun x hx=>?_,?_⟩
 ·obtain⟨k,hk,e⟩:=List.mem_iff_getElem.1 hx;exact(h k x (by rw[List.getElem?_eq_getElem hk,e])).1
 ·rw[List.nodup_iff_pairwise_ne,List.pairwise_iff_getElem];intro i j hi hj hij e;have:=(h j ps[j] (by rw[List.getElem?_eq_getElem hj])).2;refine this ?_;rw[←e];exact List.mem_iff_getElem.2 ⟨i,by simp;omega,by simp⟩
def seenF(ps:List Int)(k j:Nat):Bool:=decide ((j:Int)∈ps.take k)
theorem blks_no{bs:List BlkR}{k:Nat}{b:BlkR}(h:bs[k]? =some b)(hb:blkB b=false):bs.all blkB=false:=List.all_eq_false.2 ⟨b,List.mem_of_getElem? h,by simp[hb]⟩
theorem irWhole_any(pa:Option Addr)(pn pc:Nat)(ps:List Int)(ba:Option Addr)(bn bc:Nat)(bs:List BlkR)(w:World)(hp:Ints w pa pn ps)(h:BlksR w ba bn bs):
  Calls Tryz.prog 69 #[funcV pa pn pc ba bn bc] w fun e w'=>e=.returned (.bool (irWholeB ps bs))∧Below w.heap.size w w':=by
 have HP:=Lib.hid hp
 have HL:=Lib.hid hp.1
 have hn:=hp.2.1
 have HB:=Lib.hid h
 have HLb:=Lib.hid h.1.1
 have hbn:=h.1.2.1
 clear h hp
 go_enter Tryz.func69,Tryz.ntmps69
 go_upto_region 2 with (fail)
 obtain⟨W,hW⟩:∃W,W=(w.alloc (.cells #[.slice pa pn pc,.slice ba bn bc] 25)).alloc (vsO fun _=>false):=⟨_,rfl⟩
 rw[zero_vset,←hW]
 have hr0:W.heap[w.heap.size]? =some (.cells #[.slice pa pn pc,.slice ba bn bc] 25):=by rw[hW,Below.heap_alloc _ _ _ (by simp)];exact heap_alloc_new _ _
 have hr1:W.heap[w.heap.size+1]? =some (vsO fun _=>false):=by
  rw[hW];have:=heap_alloc_new (w.alloc (.cells #[.slice pa pn pc,.slice ba bn bc] 25)) (vsO fun _=>false);simpa using this
 have hbw:Below w.heap.size w W:=by rw[hW];exact((Below.refl _ w).alloc (Nat.le_refl _) _).alloc (by simp) _
 have f0:W.cell? ⟨w.heap.size,0,none⟩=some (.slice pa pn pc):=by rw[cell_of_row _ _ _ _ _ _ hr0];rfl
 have hl0:=lt_of_heap hr0
 have HR0:=Lib.hid hr0
 have HR1:=Lib.hid hr1
 have HBW:=Lib.hid hbw
 clear hW hr0 hr1 hbw
 go_wp2
 clear f0 hl0
 go_loopw [5,11] (fun _ i wr=>∃k:Nat,i=.int .i64 k∧k≤pn∧Hid (wr.heap[w.heap.size]? =some (.cells #[.slice pa pn pc,.slice ba bn bc] 25))∧Hid (wr.heap[w.heap.size+1]? =some (vsO (seenF ps k)))∧Hid (Below w.heap.size w wr)∧Hid (∀j x,j<k→ps[j]? =some x→varB x=true∧x∉ps.take j)) (fun _ i _=>pn-(intOf i).toNat)
 case atStart=>exact⟨0,rfl,by omega,HR0,by rw[Hid,vsO_ext (f:=seenF ps 0) (g:=fun _=>false) (fun j _=>by simp[seenF])];exact HR1.out,HBW,fun j x hj=>absurd hj (by omega)⟩
 case round=>
  obtain⟨k,rfl,hk,HF,HS,HBk,HK⟩:=hrel;clear HR0 HR1 HBW;by_cases hlt:k<pn
  ·obtain⟨b,o,rfl,hc,hw1,hw2⟩:=(HP.out.ext HBk.out).2.2 k hlt;have hkx:k<ps.length:=by rw[HL.out];exact hlt
   obtain⟨x,hx⟩:∃x,ps[k]? =some x:=⟨ps[k],List.getElem?_eq_getElem hkx⟩
   have hgd:ps.getD k 0=x:=by rw[List.getD_eq_getElem?_getD,hx];rfl
   rw[hgd] at hc hw1 hw2;have HX:=Lib.hid hx;have hlt':(k:Int)<(pn:Int):=by omega
   have hl1:=lt_of_heap HS.out;clear hx hgd;cases hv:varB x with
   |false=>
    have HE:Hid (irWholeB ps bs=false):=by rw[Hid,irWholeB,parB_no HX.out (.inl hv)];rfl
    go_wp2_with (go_at_call 157;refine(variable_any x wr).mono ?_;rw[hv];rintro e w1 ⟨rfl,rfl⟩)
    go_ret
    exact⟨by rw[HE.out];rfl,HBk.out⟩
   |true=>
    have hvr:=var_iff.1 hv;obtain⟨m,rfl⟩:∃m:Nat,x=(m:Int):=⟨x.toNat,by omega⟩
    have hm:(m:Int)<201:=by omega
    have hcell:=vset_cell HS.out m (by omega);have hfr:=vset_free HS.out m;cases hsm:seenF ps k m with
    |true=>
     rw[hsm] at hcell;have HE:Hid (irWholeB ps bs=false):=by rw[Hid,irWholeB,parB_no HX.out (.inr (by simpa[seenF] using hsm))];rfl
     clear hvr
     go_wp2_with (go_at_call 157;refine(variable_any (m:Int) wr).mono ?_;rw[hv];rintro e w1 ⟨rfl,rfl⟩)
     go_ret
     exact⟨by rw[HE.out];rfl,HBk.out⟩
    |false=>
     rw[hsm] at hcell;have HS2:Hid ((wr.setCell ⟨w.heap.size+1,m,none⟩ (.bool true)).heap[w.heap.size+1]? =some (vsO (seenF ps (k+1)))):=vset_put HS.out m true fun j _=>by
      unfold seenF;rw[List.take_add_one,HX.out];by_cases e:j=m
      ·simp[e]
      ·have e2:¬(j:Int)=(m:Int):=by omega
       simp[e,e2]
     have HF2:Hid ((wr.setCell ⟨w.heap.size+1,m,none⟩ (.bool true)).heap[w.heap.size]? =some (.cells #[.slice (some ⟨b,o,none⟩) pn pc,.slice ba bn bc] 25)):=by
      rw[Hid,Below.heap_setCell _ _ _ _ (by simp)];exact HF.out
     have HK2:Hid (∀j x,j<k+1→ps[j]? =some x→varB x=true∧x∉ps.take j):=fun j y hj hy=>by
      by_cases e:j=k
      ·subst e;rw[HX.out] at hy;cases hy;exact⟨hv,by simpa[seenF] using hsm⟩
      ·exact HK.out j y (by omega) hy
     clear hvr
     go_wp2_with (go_at_call 157;refine(variable_any (m:Int) wr).mono ?_;rw[hv];rintro e w1 ⟨rfl,rfl⟩)
     go_roundw
     case rel=>exact⟨k+1,by go_num,by omega,HF2,HS2,HBk.out.setCell (by simp) _,HK2⟩
     case measure=>simp[intOf];omega
  ·obtain rfl:k=pn:=by omega
   have HPB:Hid (parB ps=true):=parB_yes fun j x hx=>HK.out j x (by have:=(List.getElem?_eq_some_iff.1 hx).1;rw[HL.out] at this;exact this) hx;have f1:wr.cell? ⟨w.heap.size,1,none⟩=some (.slice ba bn bc):=by rw[cell_of_row _ _ _ _ _ _ HF.out];rfl
   have hl0:=lt_of_heap HF.out;clear HF HS HK;go_wp2;clear f1 hl0;obtain⟨W1,rfl⟩:∃x,x=wr:=⟨_,rfl⟩
   go_loopw [29] (fun i wr=>∃k:Nat,i=.int .i64 k∧k≤bn∧Hid (Below w.heap.size w wr)∧Hid (∀j x,j<k→bs[j]? =some x→blkB x=true)) (fun i _=>bn-(intOf i).toNat)
   case atStart=>exact⟨0,rfl,by omega,HBk,fun j x hj=>absurd hj (by omega)⟩
   case round=>
    obtain⟨q,rfl,hq,HBq,HQ⟩:=hrel;clear HBk;by_cases hlt:q<bn
    ·obtain⟨r,b,o,hr,hok,rfl,c0,c1,c2,c3,c4⟩:=blksR_cells (HB.out.ext HBq.out) hlt;have HRR:=Lib.hid hr;have hlt':(q:Int)<(bn:Int):=by omega
     have HOK:=Lib.hid hok;clear hr hok;go_upto_region 12 with (fail)
     obtain⟨Wi,hWi⟩:∃Wi,Wi=wr.alloc (blkO r.h):=⟨_,rfl⟩
     have hri:Wi.heap[wr.heap.size]? =some (blkO r.h):=by rw[hWi];exact heap_alloc_new _ _
     have hbi:Below wr.heap.size wr Wi:=by rw[hWi];exact ext_alloc _ _
     rw[show wr.alloc (Obj.cells #[.slice r.h.ia r.h.n r.h.c,.int .i64 r.h.t.kind,.int .i64 r.h.t.a,.int .i64 r.h.t.t0,.int .i64 r.h.t.t1] 71)=Wi from hWi.symm];have t1:Wi.cell? ⟨wr.heap.size,1,none⟩=some (.int .i64 r.h.t.kind):=by rw[cell_of_row _ _ _ _ _ _ hri];rfl
     have t2:Wi.cell? ⟨wr.heap.size,2,none⟩=some (.int .i64 r.h.t.a):=by rw[cell_of_row _ _ _ _ _ _ hri];rfl
     have t3:Wi.cell? ⟨wr.heap.size,3,none⟩=some (.int .i64 r.h.t.t0):=by rw[cell_of_row _ _ _ _ _ _ hri];rfl
     have t4:Wi.cell? ⟨wr.heap.size,4,none⟩=some (.int .i64 r.h.t.t1):=by rw[cell_of_row _ _ _ _ _ _ hri];rfl
     have hli:=lt_of_heap hri;have HRI:=Lib.hid hri;have HBI:=Lib.hid (ext_trans HBq.out hbi);have HOI:=Lib.hid (HOK.out.ext hbi);clear hWi hri hbi c0 c1 c2 c3 c4 HOK;have HIT:=Lib.hid (isTerm_any r.h.t Wi HOI.out.1);cases hb:termB r.h.t with
     |false=>
      have HE:Hid (irWholeB ps bs=false):=by rw[Hid,irWholeB,blks_no HRR.out (by rw[blkB,hb];rfl),Bool.and_false]
      go_wp2_with (
       (go_at_call 158
        refine HIT.out.mono ?_;rintro e w1 ⟨rfl,hb1⟩;rw[hb];have HB1:=Lib.hid (ext_trans HBI.out hb1)
        clear hb1))
      go_ret
      exact⟨by rw[HE.out];rfl,HB1.out⟩
     |true=>
      cases hc:r.rs.any (fun x=> !isInsB x.d) with
      |true=>
       have HE:Hid (irWholeB ps bs=false):=by rw[Hid,irWholeB,blks_no HRR.out (by rw[blkB,hb,hc];rfl),Bool.and_false]
       go_wp2_with (first
        |(go_at_call 158
          refine HIT.out.mono ?_;rintro e w1 ⟨rfl,hb1⟩;rw[hb];have HB1:=Lib.hid (ext_trans HBI.out hb1);have HO1:=Lib.hid (HOI.out.ext hb1);have u0:w1.cell? ⟨wr.heap.size,0,none⟩=some (.slice r.h.ia r.h.n r.h.c):=(by rw[cell_of_row _ _ _ _ _ _ (block_ext hb1 HRI.out)];rfl)
          have hl1:=lt_of_heap (block_ext hb1 HRI.out)
          clear hb1)
        |(go_at_call 159
          refine(containsIns_any 160 #[] call_whole1 (fun x=> !isInsB x.d) r.h.ia r.h.n r.h.c r.rs w1 (fun x W' hx hbx=>whole1_any x W' ((HO1.out.2.2 x hx).ext hbx)) HO1.out.2).mono ?_;rw[hc];rintro e w2 ⟨rfl,hb2⟩;have HB2:=Lib.hid (ext_trans HB1.out hb2)
          clear hb2))
       go_ret
       exact⟨by rw[HE.out];rfl,HB2.out⟩
      |false=>
       have HBB:Hid (blkB r=true):=by rw[Hid,blkB,hb,hc];rfl
       have HQ2:Hid (∀j x,j<q+1→bs[j]? =some x→blkB x=true):=fun j x hj hx=>by
        by_cases e:j=q
        ·subst e;rw[HRR.out] at hx;cases hx;exact HBB.out
        ·exact HQ.out j x (by omega) hx
       go_wp2_with (first
        |(go_at_call 158
          refine HIT.out.mono ?_;rintro e w1 ⟨rfl,hb1⟩;rw[hb];have HB1:=Lib.hid (ext_trans HBI.out hb1);have HO1:=Lib.hid (HOI.out.ext hb1);have u0:w1.cell? ⟨wr.heap.size,0,none⟩=some (.slice r.h.ia r.h.n r.h.c):=(by rw[cell_of_row _ _ _ _ _ _ (block_ext hb1 HRI.out)];rfl)
          have hl1:=lt_of_heap (block_ext hb1 HRI.out)
          clear hb1)
        |(go_at_call 159
          refine(containsIns_any 160 #[] call_whole1 (fun x=> !isInsB x.d) r.h.ia r.h.n r.h.c r.rs w1 (fun x W' hx hbx=>whole1_any x W' ((HO1.out.2.2 x hx).ext hbx)) HO1.out.2).mono ?_;rw[hc];rintro e w2 ⟨rfl,hb2⟩;have HB2:=Lib.hid (ext_trans HB1.out hb2)
          clear hb2))
       go_roundw
       case rel=>exact⟨q+1,by go_num,by omega,HB2,HQ2⟩
       case measure=>simp[intOf];omega
    ·have HE:Hid (irWholeB ps bs=true):=by
      rw[Hid,irWholeB,HPB.out,Bool.true_and,List.all_eq_true];intro x hx;obtain⟨j,hj,e⟩:=List.mem_iff_getElem.1 hx;exact HQ.out j x (by rw[HLb.out] at hj;omega) (by rw[List.getElem?_eq_getElem hj,e])
     have hlt':¬(q:Int)<(bn:Int):=by omega
     go_wp2
     go_ret
     exact⟨by rw[HE.out];rfl,HBq.out⟩
end
end Go.Proofs.YthgebcfohnlhlaaGreatDoor
