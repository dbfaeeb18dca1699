/-
 How great functions,tiles are:BlocksOf,FuncOf,the laws' own great.
-/
import Derived.Test.YtnmkjliioogbgaaGreatDoorTX
import Derived.Test.YtnmkjliioogbgaaGreatDoorInsR
import Derived.Deep.LoopGhost
import Derived.Test.YtnmkjliioogbgaaGreatDoorTH
import Derived.Test.YtnmkjliioogbgaaGreatDoorMaps
import Derived.Test.YtnmkjliioogbgaaGreatDoorRangeT
import Derived.Deep.DeepAppendRoom
import Derived.Maps.AppendAt
import Derived.Test.YtnmkjliioogbgaaGreatDoorTA
import Derived.ArgAppend
import Derived.Deep.Onto
namespace Go.Proofs.YtnmkjliioogbgaaGreatDoor
set_option linter.unusedSimpArgs false
set_option linter.unusedVariables false
set_option linter.unusedSectionVars false
set_option maxRecDepth 100000
set_option maxHeartbeats 40000000
section
open Go.RowKit
def BlksX(w:World)(a:Option Addr)(n:Nat)(bs:List BlkH):Prop:=BlksOK w a n bs∧∀b∈bs,∃rs,InsS w b.ia b.n rs
end

section
open Go.RowKit
attribute [local go_sem] Oper.semAt_some wide_fn wide_depth wide_fnR wide_depthR
structure BlkR where
 h:BlkH
 rs:List InsR
abbrev blkC'(b:BlkR):List Value:=blkC b.h
theorem blkC'_len(b:BlkR):(blkC' b).length=5:=rfl
def BlkROK(w:World)(b:BlkR):Prop:=TermOK b.h.t∧InsS w b.h.ia b.h.n b.rs
theorem BlkROK.ext{w w':World}{b:BlkR}(h:BlkROK w b)(hb:Below w.heap.size w w'):BlkROK w' b:=⟨h.1,h.2.ext hb⟩
def BlksR(w:World)(a:Option Addr)(n:Nat)(bs:List BlkR):Prop:=Recs 5 blkC' w a n bs∧∀b∈bs,BlkROK w b
theorem BlksR.ext{w w':World}{a:Option Addr}{n:Nat}{bs:List BlkR}(h:BlksR w a n bs)(hb:Below w.heap.size w w'):BlksR w' a n bs:=⟨h.1.ext blkC'_len hb,fun b hx=>(h.2 b hx).ext hb⟩
def hOf(bs:List BlkR):List BlkH:=bs.map (·.h)
theorem BlksR.x{w:World}{a:Option Addr}{n:Nat}{bs:List BlkR}(h:BlksR w a n bs):BlksX w a n (hOf bs):=by
 refine⟨⟨⟨by simp[hOf,h.1.1],h.1.2.1,fun k r hr=>?_⟩,fun b hb=>?_⟩,fun b hb=>?_⟩
 ·simp only[hOf,List.getElem?_map,Option.map_eq_some_iff] at hr;obtain⟨x,hx,rfl⟩:=hr;exact h.1.2.2 k x hx
 ·simp only[hOf,List.mem_map] at hb;obtain⟨x,hx,rfl⟩:=hb;exact(h.2 x hx).1
 ·simp only[hOf,List.mem_map] at hb;obtain⟨x,hx,rfl⟩:=hb;exact⟨x.rs,(h.2 x hx).2⟩
end

section
open Go.RowKit
theorem blksR_cells{w:World}{a:Option Addr}{n:Nat}{rs:List BlkR}(h:BlksR w a n rs){k:Nat}(hk:k<n):∃r b o,rs[k]? =some r∧BlkROK w r∧a=some ⟨b,o,none⟩∧w.cell? ⟨b,o+k*5,none⟩=some (.slice r.h.ia r.h.n r.h.c)∧w.cell? ⟨b,o+k*5+1,none⟩=some (.int .i64 r.h.t.kind)∧w.cell? ⟨b,o+k*5+2,none⟩=some (.int .i64 r.h.t.a)∧w.cell? ⟨b,o+k*5+3,none⟩=some (.int .i64 r.h.t.t0)∧w.cell? ⟨b,o+k*5+4,none⟩=some (.int .i64 r.h.t.t1):=by
 have hk':k<rs.length:=by rw[h.1.1];exact hk
 obtain⟨r,hr⟩:∃r,rs[k]? =some r:=⟨rs[k],List.getElem?_eq_getElem hk'⟩
 obtain⟨b,o,e,hc⟩:=h.1.2.2 k r hr
 exact⟨r,b,o,hr,h.2 r (List.mem_of_getElem? hr),e,hc 0 (by omega),hc 1 (by omega),hc 2 (by omega),hc 3 (by omega),hc 4 (by omega)⟩
def parB(ps:List Int):Bool:=ps.all varB&&decide ps.Nodup
def blkB(b:BlkR):Bool:=termB b.h.t&& !b.rs.any fun r=> !isInsB r.d
def irWholeB(ps:List Int)(bs:List BlkR):Bool:=parB ps&&bs.all blkB
theorem parB_no{ps:List Int}{k:Nat}{x:Int}(h:ps[k]? =some x)(hx:varB x=false∨x∈ps.take k):parB ps=false:=by
 unfold parB
 rcases hx with hx|hx
 ·have:ps.all varB=false:=List.all_eq_false.2 ⟨x,List.mem_of_getElem? h,by simp[hx]⟩;rw[this];rfl
 ·have:¬ps.Nodup:=fun hn=>by
   have hk:=(List.getElem?_eq_some_iff.1 h).1;have e:=(List.getElem?_eq_some_iff.1 h).2;rw[←List.take_append_drop k ps] at hn;have h2:=(List.nodup_append.1 hn).2.2 x hx x (by rw[List.drop_eq_getElem_cons hk,e];simp);exact h2 rfl
  simp[this]
theorem parB_yes{ps:List Int}(h:∀k x,ps[k]? =some x→varB x=true∧x∉ps.take k):parB ps=true:=by
 unfold parB
 rw[Bool.and_eq_true,decide_eq_true_eq]
 refine⟨List.all_eq_true.2 fun x hx=>?_,?_⟩
 ·obtain⟨k,hk,e⟩:=List.mem_iff_getElem.1 hx;exact(h k x (by rw[List.getElem?_eq_getElem hk,e])).1
 ·rw[List.nodup_iff_pairwise_ne,List.pairwise_iff_getElem];intro i j hi hj hij e;have:=(h j ps[j] (by rw[List.getElem?_eq_getElem hj])).2;refine this ?_;rw[←e];exact List.mem_iff_getElem.2 ⟨i,by simp;omega,by simp⟩
def seenF(ps:List Int)(k j:Nat):Bool:=decide ((j:Int)∈ps.take k)
theorem blks_no{bs:List BlkR}{k:Nat}{b:BlkR}(h:bs[k]? =some b)(hb:blkB b=false):bs.all blkB=false:=List.all_eq_false.2 ⟨b,List.mem_of_getElem? h,by simp[hb]⟩
theorem irWhole_any(pa:Option Addr)(pn pc:Nat)(ps:List Int)(ba:Option Addr)(bn bc:Nat)(bs:List BlkR)(w:World)(hp:Ints w pa pn ps)(h:BlksR w ba bn bs):
  Calls Tryz.prog 70 #[funcV pa pn pc ba bn bc] w fun e w'=>e=.returned (.bool (irWholeB ps bs))∧Below w.heap.size w w':=by
 have HP:=Lib.hid hp
 have HL:=Lib.hid hp.1
 have hn:=hp.2.1
 have HB:=Lib.hid h
 have HLb:=Lib.hid h.1.1
 have hbn:=h.1.2.1
 clear h hp
 go_enter Tryz.func70,Tryz.ntmps70
 go_upto_region 2 with (fail)
 obtain⟨W,hW⟩:∃W,W=(w.alloc (.cells #[.slice pa pn pc,.slice ba bn bc] 40)).alloc (vsO fun _=>false):=⟨_,rfl⟩
 rw[zero_vset,←hW]
 have hr0:W.heap[w.heap.size]? =some (.cells #[.slice pa pn pc,.slice ba bn bc] 40):=by rw[hW,Below.heap_alloc _ _ _ (by simp)];exact heap_alloc_new _ _
 have hr1:W.heap[w.heap.size+1]? =some (vsO fun _=>false):=by
  rw[hW];have:=heap_alloc_new (w.alloc (.cells #[.slice pa pn pc,.slice ba bn bc] 40)) (vsO fun _=>false);simpa using this
 have hbw:Below w.heap.size w W:=by rw[hW];exact((Below.refl _ w).alloc (Nat.le_refl _) _).alloc (by simp) _
 have f0:W.cell? ⟨w.heap.size,0,none⟩=some (.slice pa pn pc):=by rw[cell_of_row _ _ _ _ _ _ hr0];rfl
 have hl0:=lt_of_heap hr0
 have HR0:=Lib.hid hr0
 have HR1:=Lib.hid hr1
 have HBW:=Lib.hid hbw
 clear hW hr0 hr1 hbw
 go_wp2
 clear f0 hl0
 go_loopw [5,11] (fun _ i wr=>∃k:Nat,i=.int .i64 k∧k≤pn∧Hid (wr.heap[w.heap.size]? =some (.cells #[.slice pa pn pc,.slice ba bn bc] 40))∧Hid (wr.heap[w.heap.size+1]? =some (vsO (seenF ps k)))∧Hid (Below w.heap.size w wr)∧Hid (∀j x,j<k→ps[j]? =some x→varB x=true∧x∉ps.take j)) (fun _ i _=>pn-(intOf i).toNat)
 case atStart=>exact⟨0,rfl,by omega,HR0,by rw[Hid,vsO_ext (f:=seenF ps 0) (g:=fun _=>false) (fun j _=>by simp[seenF])];exact HR1.out,HBW,fun j x hj=>absurd hj (by omega)⟩
 case round=>
  obtain⟨k,rfl,hk,HF,HS,HBk,HK⟩:=hrel;clear HR0 HR1 HBW;by_cases hlt:k<pn
  ·obtain⟨b,o,rfl,hc,hw1,hw2⟩:=(HP.out.ext HBk.out).2.2 k hlt;have hkx:k<ps.length:=by rw[HL.out];exact hlt
   obtain⟨x,hx⟩:∃x,ps[k]? =some x:=⟨ps[k],List.getElem?_eq_getElem hkx⟩
   have hgd:ps.getD k 0=x:=by rw[List.getD_eq_getElem?_getD,hx];rfl
   rw[hgd] at hc hw1 hw2;have HX:=Lib.hid hx;have hlt':(k:Int)<(pn:Int):=by omega
   have hl1:=lt_of_heap HS.out;clear hx hgd;cases hv:varB x with
   |false=>
    have HE:Hid (irWholeB ps bs=false):=by rw[Hid,irWholeB,parB_no HX.out (.inl hv)];rfl
    go_wp2_with (go_at_call 110;refine(variable_any x wr).mono ?_;rw[hv];rintro e w1 ⟨rfl,rfl⟩)
    go_ret
    exact⟨by rw[HE.out];rfl,HBk.out⟩
   |true=>
    have hvr:=var_iff.1 hv;obtain⟨m,rfl⟩:∃m:Nat,x=(m:Int):=⟨x.toNat,by omega⟩
    have hm:(m:Int)<201:=by omega
    have hcell:=vset_cell HS.out m (by omega);have hfr:=vset_free HS.out m;cases hsm:seenF ps k m with
    |true=>
     rw[hsm] at hcell;have HE:Hid (irWholeB ps bs=false):=by rw[Hid,irWholeB,parB_no HX.out (.inr (by simpa[seenF] using hsm))];rfl
     clear hvr
     go_wp2_with (go_at_call 110;refine(variable_any (m:Int) wr).mono ?_;rw[hv];rintro e w1 ⟨rfl,rfl⟩)
     go_ret
     exact⟨by rw[HE.out];rfl,HBk.out⟩
    |false=>
     rw[hsm] at hcell;have HS2:Hid ((wr.setCell ⟨w.heap.size+1,m,none⟩ (.bool true)).heap[w.heap.size+1]? =some (vsO (seenF ps (k+1)))):=vset_put HS.out m true fun j _=>by
      unfold seenF;rw[List.take_add_one,HX.out];by_cases e:j=m
      ·simp[e]
      ·have e2:¬(j:Int)=(m:Int):=by omega
       simp[e,e2]
     have HF2:Hid ((wr.setCell ⟨w.heap.size+1,m,none⟩ (.bool true)).heap[w.heap.size]? =some (.cells #[.slice (some ⟨b,o,none⟩) pn pc,.slice ba bn bc] 40)):=by
      rw[Hid,Below.heap_setCell _ _ _ _ (by simp)];exact HF.out
     have HK2:Hid (∀j x,j<k+1→ps[j]? =some x→varB x=true∧x∉ps.take j):=fun j y hj hy=>by
      by_cases e:j=k
      ·subst e;rw[HX.out] at hy;cases hy;exact⟨hv,by simpa[seenF] using hsm⟩
      ·exact HK.out j y (by omega) hy
     clear hvr
     go_wp2_with (go_at_call 110;refine(variable_any (m:Int) wr).mono ?_;rw[hv];rintro e w1 ⟨rfl,rfl⟩)
     go_roundw
     case rel=>exact⟨k+1,by go_num,by omega,HF2,HS2,HBk.out.setCell (by simp) _,HK2⟩
     case measure=>simp[intOf];omega
  ·obtain rfl:k=pn:=by omega
   have HPB:Hid (parB ps=true):=parB_yes fun j x hx=>HK.out j x (by have:=(List.getElem?_eq_some_iff.1 hx).1;rw[HL.out] at this;exact this) hx;have f1:wr.cell? ⟨w.heap.size,1,none⟩=some (.slice ba bn bc):=by rw[cell_of_row _ _ _ _ _ _ HF.out];rfl
   have hl0:=lt_of_heap HF.out;clear HF HS HK;go_wp2;clear f1 hl0;obtain⟨W1,rfl⟩:∃x,x=wr:=⟨_,rfl⟩
   go_loopw [29] (fun i wr=>∃k:Nat,i=.int .i64 k∧k≤bn∧Hid (Below w.heap.size w wr)∧Hid (∀j x,j<k→bs[j]? =some x→blkB x=true)) (fun i _=>bn-(intOf i).toNat)
   case atStart=>exact⟨0,rfl,by omega,HBk,fun j x hj=>absurd hj (by omega)⟩
   case round=>
    obtain⟨q,rfl,hq,HBq,HQ⟩:=hrel;clear HBk;by_cases hlt:q<bn
    ·obtain⟨r,b,o,hr,hok,rfl,c0,c1,c2,c3,c4⟩:=blksR_cells (HB.out.ext HBq.out) hlt;have HRR:=Lib.hid hr;have hlt':(q:Int)<(bn:Int):=by omega
     have HOK:=Lib.hid hok;clear hr hok;go_upto_region 12 with (fail)
     obtain⟨Wi,hWi⟩:∃Wi,Wi=wr.alloc (blkO r.h):=⟨_,rfl⟩
     have hri:Wi.heap[wr.heap.size]? =some (blkO r.h):=by rw[hWi];exact heap_alloc_new _ _
     have hbi:Below wr.heap.size wr Wi:=by rw[hWi];exact ext_alloc _ _
     rw[show wr.alloc (Obj.cells #[.slice r.h.ia r.h.n r.h.c,.int .i64 r.h.t.kind,.int .i64 r.h.t.a,.int .i64 r.h.t.t0,.int .i64 r.h.t.t1] 67)=Wi from hWi.symm];have t1:Wi.cell? ⟨wr.heap.size,1,none⟩=some (.int .i64 r.h.t.kind):=by rw[cell_of_row _ _ _ _ _ _ hri];rfl
     have t2:Wi.cell? ⟨wr.heap.size,2,none⟩=some (.int .i64 r.h.t.a):=by rw[cell_of_row _ _ _ _ _ _ hri];rfl
     have t3:Wi.cell? ⟨wr.heap.size,3,none⟩=some (.int .i64 r.h.t.t0):=by rw[cell_of_row _ _ _ _ _ _ hri];rfl
     have t4:Wi.cell? ⟨wr.heap.size,4,none⟩=some (.int .i64 r.h.t.t1):=by rw[cell_of_row _ _ _ _ _ _ hri];rfl
     have hli:=lt_of_heap hri;have HRI:=Lib.hid hri;have HBI:=Lib.hid (ext_trans HBq.out hbi);have HOI:=Lib.hid (HOK.out.ext hbi);clear hWi hri hbi c0 c1 c2 c3 c4 HOK;have HIT:=Lib.hid (isTerm_any r.h.t Wi HOI.out.1);cases hb:termB r.h.t with
     |false=>
      have HE:Hid (irWholeB ps bs=false):=by rw[Hid,irWholeB,blks_no HRR.out (by rw[blkB,hb];rfl),Bool.and_false]
      go_wp2_with (
       (go_at_call 88
        refine HIT.out.mono ?_;rintro e w1 ⟨rfl,hb1⟩;rw[hb];have HB1:=Lib.hid (ext_trans HBI.out hb1)
        clear hb1))
      go_ret
      exact⟨by rw[HE.out];rfl,HB1.out⟩
     |true=>
      cases hc:r.rs.any (fun x=> !isInsB x.d) with
      |true=>
       have HE:Hid (irWholeB ps bs=false):=by rw[Hid,irWholeB,blks_no HRR.out (by rw[blkB,hb,hc];rfl),Bool.and_false]
       go_wp2_with (first
        |(go_at_call 88
          refine HIT.out.mono ?_;rintro e w1 ⟨rfl,hb1⟩;rw[hb];have HB1:=Lib.hid (ext_trans HBI.out hb1);have HO1:=Lib.hid (HOI.out.ext hb1);have u0:w1.cell? ⟨wr.heap.size,0,none⟩=some (.slice r.h.ia r.h.n r.h.c):=(by rw[cell_of_row _ _ _ _ _ _ (block_ext hb1 HRI.out)];rfl)
          have hl1:=lt_of_heap (block_ext hb1 HRI.out)
          clear hb1)
        |(go_at_call 111
          refine(containsIns_any 112 #[] call_whole1 (fun x=> !isInsB x.d) r.h.ia r.h.n r.h.c r.rs w1 (fun x W' hx hbx=>whole1_any x W' ((HO1.out.2.2 x hx).ext hbx)) HO1.out.2).mono ?_;rw[hc];rintro e w2 ⟨rfl,hb2⟩;have HB2:=Lib.hid (ext_trans HB1.out hb2)
          clear hb2))
       go_ret
       exact⟨by rw[HE.out];rfl,HB2.out⟩
      |false=>
       have HBB:Hid (blkB r=true):=by rw[Hid,blkB,hb,hc];rfl
       have HQ2:Hid (∀j x,j<q+1→bs[j]? =some x→blkB x=true):=fun j x hj hx=>by
        by_cases e:j=q
        ·subst e;rw[HRR.out] at hx;cases hx;exact HBB.out
        ·exact HQ.out j x (by omega) hx
       go_wp2_with (first
        |(go_at_call 88
          refine HIT.out.mono ?_;rintro e w1 ⟨rfl,hb1⟩;rw[hb];have HB1:=Lib.hid (ext_trans HBI.out hb1);have HO1:=Lib.hid (HOI.out.ext hb1);have u0:w1.cell? ⟨wr.heap.size,0,none⟩=some (.slice r.h.ia r.h.n r.h.c):=(by rw[cell_of_row _ _ _ _ _ _ (block_ext hb1 HRI.out)];rfl)
          have hl1:=lt_of_heap (block_ext hb1 HRI.out)
          clear hb1)
        |(go_at_call 111
          refine(containsIns_any 112 #[] call_whole1 (fun x=> !isInsB x.d) r.h.ia r.h.n r.h.c r.rs w1 (fun x W' hx hbx=>whole1_any x W' ((HO1.out.2.2 x hx).ext hbx)) HO1.out.2).mono ?_;rw[hc];rintro e w2 ⟨rfl,hb2⟩;have HB2:=Lib.hid (ext_trans HB1.out hb2)
          clear hb2))
       go_roundw
       case rel=>exact⟨q+1,by go_num,by omega,HB2,HQ2⟩
       case measure=>simp[intOf];omega
    ·have HE:Hid (irWholeB ps bs=true):=by
      rw[Hid,irWholeB,HPB.out,Bool.true_and,List.all_eq_true];intro x hx;obtain⟨j,hj,e⟩:=List.mem_iff_getElem.1 hx;exact HQ.out j x (by rw[HLb.out] at hj;omega) (by rw[List.getElem?_eq_getElem hj,e])
     have hlt':¬(q:Int)<(bn:Int):=by omega
     go_wp2
     go_ret
     exact⟨by rw[HE.out];rfl,HBq.out⟩
end

section
open Go.RowKit
structure Chg(S:Nat→Prop)(w w':World):Prop where
 os:w'.os=w.os
 tape:w'.tape=w.tape
 output:w'.output=w.output
 size:w.heap.size≤w'.heap.size
 block:∀k,k<w.heap.size→¬S k→w'.heap[k]? =w.heap[k]?
theorem Chg.refl(S:Nat→Prop)(w:World):Chg S w w:=⟨rfl,rfl,rfl,Nat.le_refl _,fun _ _ _=>rfl⟩
theorem Chg.trans{S:Nat→Prop}{a b c:World}(h:Chg S a b)(k:Chg S b c):Chg S a c:=
 ⟨k.os.trans h.os,k.tape.trans h.tape,k.output.trans h.output,Nat.le_trans h.size k.size,fun i hi hn=>(k.block i (Nat.lt_of_lt_of_le hi h.size) hn).trans (h.block i hi hn)⟩
theorem Chg.grown{S:Nat→Prop}{a w w':World}{row:Option Nat}(h:Chg S a w)(hg:w.grownBy w' row)(hr:∀k,row=some k→S k∨a.heap.size≤k):Chg S a w':=
 ⟨hg.os.trans h.os,hg.tape.trans h.tape,hg.output.trans h.output,Nat.le_trans h.size hg.size,fun k hk hn=>(hg.block k (Nat.lt_of_lt_of_le hk h.size) (fun e=>by
  rcases hr k e.symm with h1|h1
  ·exact hn h1
  ·omega)).trans (h.block k hk hn)⟩
theorem Chg.setCell{S:Nat→Prop}{a w:World}(h:Chg S a w){p:Addr}(hp:S p.block∨a.heap.size≤p.block)(u:Value):Chg S a (w.setCell p u):=
 ⟨h.os,h.tape,h.output,Nat.le_trans h.size (by simp[World.setCell]),fun k hk hn=>(Below.heap_setCell w p u k (fun e=>by
  subst e;rcases hp with h1|h1
  ·exact hn h1
  ·omega)).trans (h.block k hk hn)⟩
theorem Chg.mono{S T:Nat→Prop}{a w:World}(h:Chg S a w)(hs:∀k,S k→T k):Chg T a w:=⟨h.os,h.tape,h.output,h.size,fun k hk hn=>h.block k hk (fun hk'=>hn (hs k hk'))⟩
theorem Chg.below{S:Nat→Prop}{a w:World}{B:Nat}(h:Chg S a w)(hB:B≤a.heap.size)(hs:∀k,S k→B≤k):Below B a w:=
 ⟨h.os,h.tape,h.output,h.size,fun k hk=>h.block k (by omega) (fun hk'=>by have:=hs k hk';omega)⟩
theorem Chg.of_ext{S:Nat→Prop}{a b c:World}(h:Chg S a b)(hb:Below b.heap.size b c):Chg S a c:=h.trans ⟨hb.os,hb.tape,hb.output,hb.size,fun k hk _=>hb.block k hk⟩
theorem ownsRow_chg{S:Nat→Prop}{w w':World}{base:Nat}{e:TypeId}{size:Nat}{v:Value}{n:Nat}{xs:List Value}(h:w.ownsRow base e size v n xs)(hc:Chg S w w')(hn:∀g,v.ownBlock=some g→¬S g):w'.ownsRow base e size v n xs:=by
 refine⟨h.1,?_⟩
 rcases h.2 with h2|⟨g,cap,cur,rfl,hb,hh,r⟩
 ·exact .inl h2
 ·exact .inr ⟨g,cap,cur,rfl,hb,(hc.block g (Array.getElem?_eq_some_iff.1 hh).1 (hn g rfl)).trans hh,r⟩
section
variable {P:Program} {Q:Exit→Act→World→Prop}
end
def SepF(v v':Value):Prop:=∀g,v.ownBlock=some g→v'.ownBlock≠some g
end

section
open Go.RowKit
def QueI(w:World)(base:Nat)(v:Value)(xs:List Int):Prop:=
 ∃g o cap cur,v=.slice (some ⟨g,o,none⟩) xs.length cap∧base≤g∧xs.length≤cap∧cap≤maxLen∧w.heap[g]? =some (.cells cur 3 (0,0))∧o+cap≤cur.size∧
  (∀k,k<xs.length→cur[o+k]? =some (.int .i64 (xs.getD k 0)))∧(∀x∈xs,I64 x)∧xs.length≤17592186044416
section
variable {w w':World} {base:Nat} {v:Value} {xs:List Int}
theorem QueI.form(h:QueI w base v xs):∃g o cap,v=.slice (some ⟨g,o,none⟩) xs.length cap∧xs.length≤cap∧cap≤maxLen∧Ints w (some ⟨g,o,none⟩) xs.length xs:=by
 obtain⟨g,o,cap,cur,rfl,h1,h2,h3,h4,h5,h6,h7,h8⟩:=h
 refine⟨g,o,cap,rfl,h2,h3,rfl,h8,fun k hk=>⟨g,o,rfl,?_,h7 _ ?_⟩⟩
 ·rw[cell_of_row _ _ _ _ _ _ h4];exact h6 k hk
 ·rw[List.getD_eq_getElem?_getD,List.getElem?_eq_getElem hk];exact List.getElem_mem _
theorem QueI.low{k:Nat}(h:QueI w base v xs)(hk:v.ownBlock=some k):base≤k∧k<w.heap.size:=by
 obtain⟨g,o,cap,cur,rfl,h1,h2,h3,h4,_⟩:=h
 simp only[Value.ownBlock,Option.some.injEq] at hk
 subst hk
 exact⟨h1,(Array.getElem?_eq_some_iff.1 h4).1⟩
theorem QueI.chg{S:Nat→Prop}(h:QueI w base v xs)(hc:Chg S w w')(hn:∀k,v.ownBlock=some k→¬S k):QueI w' base v xs:=by
 obtain⟨g,o,cap,cur,rfl,h1,h2,h3,h4,h5⟩:=h
 exact⟨g,o,cap,cur,rfl,h1,h2,h3,(hc.block g (Array.getElem?_eq_some_iff.1 h4).1 (hn g rfl)).trans h4,h5⟩
theorem QueI.ext(h:QueI w base v xs)(hb:Below w.heap.size w w'):QueI w' base v xs:=h.chg (S:=fun _=>False) ⟨hb.os,hb.tape,hb.output,hb.size,fun k hk _=>hb.block k hk⟩ fun _ _ e=>e
theorem QueI.of_own{g n c:Nat}(h:OwnI w base (.slice (some ⟨g,0,none⟩) n c) xs):QueI w base (.slice (some ⟨g,0,none⟩) n c) xs:=by
 rcases h.1.2 with ⟨hv,_⟩|⟨g',cap,cur,hv,hb,hh,h1,h2,h3,h4⟩
 ·cases hv
 ·injection hv with e1 e2 e3;injection e1 with e1;injection e1 with e1 _ _;subst e1 e2 e3;refine⟨g,0,c,cur,rfl,hb,h1,h2,hh,by omega,fun k hk=>?_,h.2.1,h.2.2⟩;have h5:(cur.toList.take (xs.length*1))[k]? =(intVals xs)[k]?:=by rw[h4]
  rw[List.getElem?_take,if_pos (by omega)] at h5;rw[Nat.zero_add];rw[Array.getElem?_toList] at h5;rw[h5];simp[intVals,List.getD_eq_getElem?_getD,hk]
theorem QueI.tail{g o n c:Nat}{x:Int}(h:QueI w base (.slice (some ⟨g,o,none⟩) n c) (x :: xs)):QueI w base (.slice (some ⟨g,o+1,none⟩) xs.length (c-1)) xs:=by
 obtain⟨g',o',cap,cur,e,h1,h2,h3,h4,h5,h6,h7,h8⟩:=h
 injection e with e1 e2 e3
 injection e1 with e1
 injection e1 with e1 e4 _
 subst e1 e3 e4
 simp only[List.length_cons] at h2 h8
 refine⟨g,o+1,c-1,cur,rfl,h1,by omega,by omega,h4,by omega,fun k hk=>?_,fun z hz=>h7 z (by simp[hz]),by omega⟩
 have:=h6 (k+1) (by simp;omega)
 rw[show o+1+k=o+(k+1) by omega,this]
 simp
end
section
variable {P:Program} {Q:Exit→Act→World→Prop}
end
end

section
open Go.RowKit
theorem setCells_block(g:Nat)(e:TypeId):∀(vs:List Value) (w:World) (off:Nat) (cur:Array Value),w.heap[g]? =some (.cells cur e (0,0))→off+vs.length≤cur.size→
  ∃cur':Array Value,(w.setCells g off vs).heap[g]? =some (.cells cur' e (0,0))∧cur'.size=cur.size∧(∀j,j<vs.length→cur'[off+j]? =vs[j]?)∧(∀j,j<off→cur'[j]? =cur[j]?)∧w.grownBy (w.setCells g off vs) (some g)
 | [],w,off,cur,h,_=>⟨cur,h,rfl,fun j hj=>absurd hj (by simp),fun _ _=>rfl,rfl,rfl,rfl,Nat.le_refl _,fun _ _ _=>rfl⟩
 |v :: vs,w,off,cur,h,hl=>by
  simp only[List.length_cons] at hl;have h1:=heap_setCell_same w g off _ _ v h;obtain⟨cur',h2,h3,h4,h5,h6⟩:=setCells_block g e vs (w.setCell ⟨g,off,none⟩ v) (off+1) _ h1 (by simp;omega);refine⟨cur',h2,by simpa using h3,fun j hj=>?_,fun j hj=>?_,?_⟩
  ·cases j with
   |zero=>
    rw[Nat.add_zero,h5 off (by omega),Array.getElem?_setIfInBounds,if_pos rfl,if_pos (by omega)];rfl
   |succ j=>
    rw[show off+(j+1)=off+1+j by omega,h4 j (by simpa using hj)];rfl
  ·rw[h5 j (by omega),Array.getElem?_setIfInBounds,if_neg (by omega)]
  ·refine⟨h6.os,h6.tape,h6.output,Nat.le_trans (by simp) h6.size,fun k hk hne=>?_⟩;have hkg:k≠g:=fun e=>hne (by rw[e]);exact(h6.block k (by simpa using hk) hne).trans (Below.heap_setCell _ _ _ _ (fun e=>hkg e))
section
variable {P:Program} {Q:Exit→Act→World→Prop}
theorem run_append_queS(w:World)(base:Nat)(t ty:TypeId)(z:Value)(bytes:Nat)(ht:P.underlying t=some (.slice 3))(hinfo:(P.info? 3).map (fun i=>(i.zero,i.size,i.bytes))=some (some z,1,bytes))(hzs:z.cells.size=1)
  (v:Value) (xs:List Int) (h:QueI w base v xs) (A:Option Addr) (c:Nat) (ys:List Int) (hy:Ints w A ys.length ys) (hlen:xs.length≤1000000) (hly:ys.length≤1000000) (hb8:bytes≤16) (hbase:base≤w.heap.size):
  ∃v' w',(Builtin.append_ #[t,t] ty #[v,.slice A ys.length c]).run P w=.ok v' w'∧QueI w' base v' (xs++ys)∧w.grownBy w' v.ownBlock∧(v'.ownBlock=v.ownBlock∨∃k,v'.ownBlock=some k∧w.heap.size≤k):=by
 obtain⟨i,hi,hz,hsize,hby⟩:=info_parts hinfo
 have hyI:∀q∈ys,I64 q:=fun q hq=>by
  obtain⟨k,hk,rfl⟩:=List.mem_iff_getElem.1 hq;obtain⟨_,_,_,_,hi⟩:=hy.2.2 k hk;rw[List.getD_eq_getElem?_getD,List.getElem?_eq_getElem hk] at hi;exact hi
 cases ys with
 |nil=>
  obtain⟨g,o,cap,cur,rfl,h1,h2,h3,h4,h5⟩:=id h;refine⟨.slice (some ⟨g,o,none⟩) xs.length cap,w,?_,by simpa using h,⟨rfl,rfl,rfl,Nat.le_refl _,fun _ _ _=>rfl⟩,.inl rfl⟩;cases A with
  |none=>simp[Builtin.append_,run_underlying ht,sizeOf,typeInfo,hi,Builtin.lenOf,Builtin.firstCells,h2,storeCells]
  |some ad=>
   have:=run_append_room_cells (P:=P) w t ty 3 i ht hi g o xs.length cap ad 0 c [] (by simp) (fun j u hu=>by simp at hu) (fun u hu=>by cases hu) (by omega) (fun j hj=>absurd hj (by simp)) (fun j hj=>absurd hj (by simp));simpa[World.setCells] using this
 |cons y0 ys0=>
  generalize hys:y0 :: ys0=ys at *;have hpos:0<ys.length:=by rw[←hys];simp
  obtain⟨ga,oa,rfl,_,_⟩:=hy.2.2 0 hpos;have hnews:∀j u,(intVals ys)[j]? =some u→w.cell? ((⟨ga,oa,none⟩:Addr).add j)=some u:=fun j u hu=>by
   have hj:j<ys.length:=by have:=(List.getElem?_eq_some_iff.1 hu).1;simpa[intVals] using this
   obtain⟨b,o,e,hc,_⟩:=hy.2.2 j hj;injection e with e;injection e with e1 e2 _;subst e1 e2;have:(⟨ga,oa,none⟩:Addr).add j=⟨ga,oa+j,none⟩:=by unfold Addr.add;split<;>simp_all
   rw[this,hc,←hu];simp[intVals,List.getD_eq_getElem?_getD,hj]
  obtain⟨g,o,cap,cur,rfl,h1,h2,h3,h4,h5,h6,h7,h8⟩:=h;have hlv:(intVals ys).length=ys.length:=by simp[intVals]
  have hone:∀u∈intVals ys,u.oneCell'=true:=fun u hu=>by
   simp only[intVals,List.mem_map] at hu;obtain⟨q,_,rfl⟩:=hu;rfl
  by_cases hr:xs.length+ys.length≤cap
  ·have hsz:o+xs.length+(intVals ys).length≤cur.size:=by omega
   obtain⟨cur',k1,k2,k3,k4,k5⟩:=setCells_block g 3 (intVals ys) w (o+xs.length) cur h4 hsz;refine⟨_,_,run_append_room_cells (P:=P) w t ty 3 i ht hi g o xs.length cap ⟨ga,oa,none⟩ ys.length c (intVals ys) (by rw[hsize,hlv];omega) hnews hone hr (fun j hj=>?_) (fun j hj=>frozen_of_row _ _ _ _ _ h4),?_,?_,.inl rfl⟩
   ·rw[cell_of_row _ _ _ _ _ _ h4,hsize,Array.getElem?_eq_getElem (by omega)];rfl
   ·rw[hsize,Nat.mul_one];refine⟨g,o,cap,cur',by simp,h1,by simp;omega,h3,k1,by omega,fun k hk=>?_,fun q hq=>?_,by simp;omega⟩
    ·simp only[List.length_append] at hk;by_cases e:k<xs.length
     ·rw[k4 (o+k) (by omega),h6 k e];simp[List.getD_eq_getElem?_getD,List.getElem?_append_left e]
     ·obtain⟨j,rfl⟩:∃j,k=xs.length+j:=⟨k-xs.length,by omega⟩
      have hj:j<ys.length:=by omega
      rw[←Nat.add_assoc,k3 j (by omega)];simp[intVals,List.getD_eq_getElem?_getD,List.getElem?_append_right,hj]
    ·rcases List.mem_append.1 hq with hq|hq
     ·exact h7 q hq
     ·exact hyI q hq
   ·rw[hsize,Nat.mul_one];exact k5
  ·have holds:∀j u,(intVals xs)[j]? =some u→w.cell? ((⟨g,o,none⟩:Addr).add j)=some u:=fun j u hu=>by
    have hj:j<xs.length:=by have:=(List.getElem?_eq_some_iff.1 hu).1;simpa[intVals] using this
    have:(⟨g,o,none⟩:Addr).add j=⟨g,o+j,none⟩:=by unfold Addr.add;split<;>simp_all
    rw[this,cell_of_row _ _ _ _ _ _ h4,h6 j hj,←hu];simp[intVals,List.getD_eq_getElem?_getD,hj]
   obtain⟨v',w',hrun,hown,hgr⟩:=run_append_arg_grows (P:=P) w t ty 3 i z 1 bytes ht hi hz hsize hby hzs (by omega) ⟨g,o,none⟩ xs.length cap (intVals xs) (by simp[intVals]) holds ⟨ga,oa,none⟩ ys.length c (intVals ys) (by rw[hlv];omega) hnews (by omega) (by simp only[maxLen];omega) (by
    have:(xs.length+ys.length)*bytes≤(xs.length+ys.length)*16:=Nat.mul_le_mul_left _ hb8
    omega)
   obtain⟨g2,c2,rfl⟩:∃g2 c2,v'=.slice (some ⟨g2,0,none⟩) (xs.length+ys.length) c2:=by
    rcases hown.2 with ⟨_,h0⟩|⟨g2,c2,cur,hv,_⟩
    ·omega
    ·exact⟨g2,c2,hv⟩
   refine⟨_,w',hrun,?_,⟨hgr.os,hgr.tape,hgr.output,hgr.size,fun k hk _=>hgr.block k hk (fun e=>by cases e)⟩,.inr ⟨g2,rfl,(hown.lt g2 rfl).1⟩⟩;have:OwnI w' base (.slice (some ⟨g2,0,none⟩) (xs++ys).length c2) (xs++ys):=by
    refine⟨?_,fun q hq=>?_,by simp;omega⟩
    ·have e:intVals (xs++ys)=intVals xs++intVals ys:=by simp[intVals]
     rw[e,List.length_append];exact hown.mono hbase
    ·rcases List.mem_append.1 hq with hq|hq
     ·exact h7 q hq
     ·exact hyI q hq
   have h9:=QueI.of_own this
   rwa [List.length_append] at h9
theorem wpList_append_queS{ops:Array Oper}{rest:List Oper}{o:Oper}{a:Act}(hgd:o.guard=none)(w:World)(s x:Operand)(t:TypeId)(ho:o.op=.call {callee:=.builtin .append,args:=#[s,x],argTypes:=#[t,t]})
  (base:Nat) (z:Value) (bytes:Nat) (ht:P.underlying t=some (.slice 3)) (hinfo:(P.info? 3).map (fun i=>(i.zero,i.size,i.bytes))=some (some z,1,bytes)) (hzs:z.cells.size=1)
  (v:Value) (xs:List Int) (hs:a.eval s=v) (hq:QueI w base v xs) (A:Option Addr) (c:Nat) (ys:List Int) (hy:Ints w A ys.length ys) (hx:a.eval x=.slice A ys.length c) (hlen:xs.length≤1000000) (hly:ys.length≤1000000) (hb8:bytes≤16) (hbase:base≤w.heap.size)
  (h:∀v' w',QueI w' base v' (xs++ys)→w.grownBy w' v.ownBlock→(v'.ownBlock=v.ownBlock∨∃k,v'.ownBlock=some k∧w.heap.size≤k)→wpList P ops Q rest (a.put o.dst v') w'):
  wpList P ops Q (o :: rest) a w:=by
 refine wpList_plain hgd fun K hK=>?_
 obtain⟨v',w',hrun,h2,h3,h4⟩:=run_append_queS (P:=P) w base t o.type z bytes ht hinfo hzs v xs hq A c ys hy hlen hly hb8 hbase
 unfold Oper.wp execOp
 simp only[ho,resolve,invoke,builtin,Sem.run_bind,Sem.run_pure,Result.andThen_ok,List.map_toArray,List.map_cons,List.map_nil,hs,hx,hrun]
 exact hK _ _ (h v' w' h2 h3 h4)
end
end
end Go.Proofs.YtnmkjliioogbgaaGreatDoor
