/-
 ir.Right.
-/
import Derived.Test.YtnmkjliioogbgaaGreatDoorSU
import Derived.Test.YtnmkjliioogbgaaGreatDoorTA
import Derived.Test.YtnmkjliioogbgaaGreatDoorRangeT
import Derived.Test.YtnmkjliioogbgaaGreatDoorInsR
import Derived.Test.YtnmkjliioogbgaaGreatDoorMaps
import Derived.Test.YtnmkjliioogbgaaGreatDoorMark
import Derived.Test.YtnmkjliioogbgaaGreatDoorSB
import Derived.Test.YtnmkjliioogbgaaGreatDoorTR
import Derived.Test.YtnmkjliioogbgaaGreatDoorNR
namespace Go.Proofs.YtnmkjliioogbgaaGreatDoor
set_option linter.unusedSimpArgs false
set_option linter.unusedVariables false
set_option linter.unusedSectionVars false
set_option maxRecDepth 100000
set_option maxHeartbeats 40000000
section
open Go.RowKit
def rightE(ps:List Int)(bs:List BlkR):Int:=
 if longB ps.length bs.length (hOf bs) then 3 else if !irWholeB ps bs then 2 else if !(toIn bs&&allReach (bksL bs)) then 9 else if anyLack ps (bksL bs) then 8 else 0
theorem whole_na{w:World}{ps:List Int}{ba:Option Addr}{bn:Nat}{bs:List BlkR}(h:BlksR w ba bn bs)(hw:irWholeB ps bs=true):∀b∈bs,∀r∈b.rs,r.na≤1000000:=by
 intro b hb r hr
 rw[irWholeB,Bool.and_eq_true,List.all_eq_true] at hw
 have h1:=hw.2 b hb
 rw[blkB,Bool.and_eq_true,Bool.not_eq_true',List.any_eq_false] at h1
 have h2:=h1.2 r hr
 have hi:isInsB r.d=true:=by simpa using h2
 have hl:r.d.args.length=r.na:=((h.2 b hb).2.2 r hr).1.1
 rw[←hl]
 unfold isInsB at hi
 simp only at hi
 split at hi
 ·cases hi
 ·split at hi
  ·simp only[Bool.and_eq_true,decide_eq_true_eq] at hi;omega
  ·split at hi
   ·cases hi
   ·simp only[Bool.and_eq_true,beq_iff_eq] at hi;omega
theorem irRight_any(pa:Option Addr)(pn pc:Nat)(ps:List Int)(ba:Option Addr)(bn bc:Nat)(bs:List BlkR)(w:World)(hp:Ints w pa pn ps)(h:BlksR w ba bn bs):
  Calls Tryz.prog 44 #[funcV pa pn pc ba bn bc] w fun e w'=>e=.returned (.int .i64 (rightE ps bs))∧Below w.heap.size w w':=by
 have HPI:=Lib.hid hp
 have HB:=Lib.hid h
 have HLb:=Lib.hid h.1.1
 have HLp:=Lib.hid hp.1
 have hbn:=h.1.2.1
 clear h hp
 have HF0:Hid ((w.alloc (funcO pa pn pc ba bn bc)).heap[w.heap.size]? =some (funcO pa pn pc ba bn bc)):=heap_alloc_new _ _
 have HB0:Hid (Below w.heap.size w (w.alloc (funcO pa pn pc ba bn bc))):=ext_alloc _ _
 cases hl:longB pn bn (hOf bs) with
 |true=>
  have HL:=Lib.hid hl;have HE:Hid (rightE ps bs=3):=by rw[Hid,rightE,HLp.out,HLb.out,hl];rfl
  clear hl
  go_enter Tryz.func44,Tryz.ntmps44
  go_wp2_with (first
   |((with_reducible show wpList _ _ _ (⟨some 5,.load _ _,_,_,_,_⟩ :: _) _ _);refine wpList_load_row rfl 40 _ rfl w.heap.size rfl 40 _ (0,0) _ HF0.out Tryz.underlying40 rfl size_func ?_)
   |(go_at_call 69
     refine(long_any pa pn pc ba bn bc (hOf bs) _ (HB.out.ext HB0.out).x.1).mono ?_;rw[HL.out];rintro e w1 ⟨rfl,hb1⟩;have HB1:=Lib.hid (ext_trans HB0.out hb1)
     clear hb1))
  go_ret
  exact⟨by rw[HE.out];rfl,HB1.out⟩
 |false=>
  have HL:=Lib.hid hl;have hbnd:0<bn∧bn≤200∧pn≤8:=by
   rw[longB] at hl;simp only[Bool.or_eq_false_iff,decide_eq_false_iff_not] at hl;omega
  cases hw:irWholeB ps bs with
  |false=>
   have HWB:=Lib.hid hw;have HE:Hid (rightE ps bs=2):=by rw[Hid,rightE,HLp.out,HLb.out,hl,hw];rfl
   clear hl hw
   go_enter Tryz.func44,Tryz.ntmps44
   go_wp2_with (first
    |((with_reducible show wpList _ _ _ (⟨some 5,.load _ _,_,_,_,_⟩ :: _) _ _);refine wpList_load_row rfl 40 _ rfl w.heap.size rfl 40 _ (0,0) _ HF0.out Tryz.underlying40 rfl size_func ?_)
    |(go_at_call 69
      refine(long_any pa pn pc ba bn bc (hOf bs) _ (HB.out.ext HB0.out).x.1).mono ?_;rw[HL.out];rintro e w1 ⟨rfl,hb1⟩;have HF1:=Lib.hid (block_ext hb1 HF0.out);have HB1:=Lib.hid (ext_trans HB0.out hb1)
      clear hb1)
    |((with_reducible show wpList _ _ _ (⟨some 7,.load _ _,_,_,_,_⟩ :: _) _ _);refine wpList_load_row rfl 40 _ rfl w.heap.size rfl 40 _ (0,0) _ HF1.out Tryz.underlying40 rfl size_func ?_)
    |(go_at_call 70
      refine(irWhole_any pa pn pc ps ba bn bc bs w1 (HPI.out.ext HB1.out) (HB.out.ext HB1.out)).mono ?_;rw[HWB.out];rintro e w2 ⟨rfl,hb2⟩;have HB2:=Lib.hid (ext_trans HB1.out hb2)
      clear hb2))
   go_ret
   exact⟨by rw[HE.out];rfl,HB2.out⟩
  |true=>
   have HWB:=Lib.hid hw;have HNA:=Lib.hid (whole_na HB.out hw);have HPAR:Hid (parB ps=true):=by
    rw[irWholeB,Bool.and_eq_true] at hw;exact hw.1
   obtain⟨hb0,hb1',hp8⟩:=hbnd;have HE:Hid (rightE ps bs=if !(toIn bs&&allReach (bksL bs)) then 9 else if anyLack ps (bksL bs) then 8 else 0):=by rw[Hid,rightE,HLp.out,HLb.out,hl,hw];rfl
   clear hl hw
   go_enter Tryz.func44,Tryz.ntmps44
   go_upto_region 5 with (first
    |((with_reducible show wpList _ _ _ (⟨some 5,.load _ _,_,_,_,_⟩ :: _) _ _);refine wpList_load_row rfl 40 _ rfl w.heap.size rfl 40 _ (0,0) _ HF0.out Tryz.underlying40 rfl size_func ?_)
    |(go_at_call 69
      refine(long_any pa pn pc ba bn bc (hOf bs) _ (HB.out.ext HB0.out).x.1).mono ?_;rw[HL.out];rintro e w1 ⟨rfl,hb1⟩;have HF1:=Lib.hid (block_ext hb1 HF0.out);have HB1:=Lib.hid (ext_trans HB0.out hb1)
      clear hb1)
    |((with_reducible show wpList _ _ _ (⟨some 7,.load _ _,_,_,_,_⟩ :: _) _ _);refine wpList_load_row rfl 40 _ rfl w.heap.size rfl 40 _ (0,0) _ HF1.out Tryz.underlying40 rfl size_func ?_)
    |(go_at_call 70
      refine(irWhole_any pa pn pc ps ba bn bc bs w1 (HPI.out.ext HB1.out) (HB.out.ext HB1.out)).mono ?_;rw[HWB.out];rintro e w2 ⟨rfl,hb2⟩;have HF2:=Lib.hid (block_ext hb2 HF1.out);have HB2:=Lib.hid (ext_trans HB1.out hb2)
      clear hb2))
   go_upto_region 6 with (first
    |((with_reducible show wpList _ _ _ (⟨some 11,.load _ _,_,_,_,_⟩ :: _) _ _);refine wpList_load_row rfl 40 _ rfl w.heap.size rfl 40 _ (0,0) _ HF2.out Tryz.underlying40 rfl size_func ?_)
    |(go_at_call 71
      refine(irReach_any pa pn pc ba bn bc bs w2 (HB.out.ext HB2.out) hb0 hb1').mono ?_;rintro e w3 ⟨hr,hb3⟩
      obtain⟨k3,b3,rfl,HR3⟩:∃(k3:Nat) (b3:Bool),e=.returned (.tuple #[.int .i64 k3,.bool b3])∧Hid ((b3=false∧toIn bs=false)∨(b3=true∧toIn bs=true∧k3≤bn∧(bn≤k3↔allReach (bksL bs)=true))):=(by
       rcases hr with ⟨h1,rfl⟩|⟨h1,k,rfl,h2,h3⟩
       ·exact⟨0,false,rfl,.inl ⟨rfl,h1⟩⟩
       ·rw[HLb.out] at h2 h3;refine⟨k,true,rfl,.inr ⟨rfl,h1,h2,h3.trans ?_⟩⟩
        rw[allReach_iff,bksL_len,HLb.out])
      have HF3:=Lib.hid (block_ext hb3 HF2.out);have HB3:=Lib.hid (ext_trans HB2.out hb3)
      clear hr hb3))
   have f1:w3.cell? ⟨w.heap.size,1,none⟩=some (.slice ba bn bc):=by rw[cell_of_row _ _ _ _ _ _ HF3.out];rfl
   have hl3:=lt_of_heap HF3.out;by_cases hno:(toIn bs&&allReach (bksL bs))=true
   ·have hti:toIn bs=true:=by rw[Bool.and_eq_true] at hno;exact hno.1
    have hk:b3=true∧bn≤k3∧k3≤bn:=by
     rcases HR3.out with ⟨_,h⟩|⟨h1,_,h2,h3⟩
     ·rw[hti] at h;cases h
     ·exact⟨h1,h3.2 (by rw[Bool.and_eq_true] at hno;exact hno.2),h2⟩
    obtain⟨rfl,hk1,hk2⟩:=hk;have hkn:¬(k3:Int)<(bn:Int):=by omega
    have HIN:=Lib.hid hti;have HE2:Hid (rightE ps bs=if anyLack ps (bksL bs) then 8 else 0):=by rw[Hid,HE.out,hno];rfl
    clear hno hti HR3;cases ha:anyLack ps (bksL bs) with
    |true=>
     have HE3:Hid (rightE ps bs=8):=by rw[Hid,HE2.out,ha];rfl
     have HA:=Lib.hid ha;clear ha
     go_wp2_with (first
      |((with_reducible show wpList _ _ _ (⟨some 24,.load _ _,_,_,_,_⟩ :: _) _ _);refine wpList_load_row rfl 40 _ rfl w.heap.size rfl 40 _ (0,0) _ HF3.out Tryz.underlying40 rfl size_func ?_)
      |(go_at_call 72
        refine(valued_any pa pn pc ps ba bn bc bs w3 (HPI.out.ext HB3.out) (HB.out.ext HB3.out) hb0 hb1' (by omega) HPAR.out HIN.out HNA.out).mono ?_;rw[HA.out];rintro e w4 ⟨rfl,hb4⟩;have HB4:=Lib.hid (ext_trans HB3.out hb4)
        clear hb4))
     go_ret
     exact⟨by rw[HE3.out];rfl,HB4.out⟩
    |false=>
     have HE3:Hid (rightE ps bs=0):=by rw[Hid,HE2.out,ha];rfl
     have HA:=Lib.hid ha;clear ha
     go_wp2_with (first
      |((with_reducible show wpList _ _ _ (⟨some 24,.load _ _,_,_,_,_⟩ :: _) _ _);refine wpList_load_row rfl 40 _ rfl w.heap.size rfl 40 _ (0,0) _ HF3.out Tryz.underlying40 rfl size_func ?_)
      |(go_at_call 72
        refine(valued_any pa pn pc ps ba bn bc bs w3 (HPI.out.ext HB3.out) (HB.out.ext HB3.out) hb0 hb1' (by omega) HPAR.out HIN.out HNA.out).mono ?_;rw[HA.out];rintro e w4 ⟨rfl,hb4⟩;have HB4:=Lib.hid (ext_trans HB3.out hb4)
        clear hb4))
     go_ret
     exact⟨by rw[HE3.out];rfl,HB4.out⟩
   ·have HE2:Hid (rightE ps bs=9):=by
     have hn:(toIn bs&&allReach (bksL bs))=false:=by simpa using hno
     rw[Hid,HE.out,hn];rfl
    cases b3 with
    |false=>
     clear hno HR3;go_wp2
     go_ret
     exact⟨by rw[HE2.out];rfl,HB3.out⟩
    |true=>
     have hk:(k3:Int)<(bn:Int):=by
      rcases HR3.out with ⟨h,_⟩|⟨_,h1,h2,h3⟩
      ·cases h
      ·have:¬bn≤k3:=fun hx=>hno (by rw[h1,h3.1 hx];rfl);omega
     clear hno HR3;go_wp2
     go_ret
     exact⟨by rw[HE2.out];rfl,HB3.out⟩
end

section
open Go.RowKit
def IntsAt(W:World)(a:Option Addr)(n:Nat)(f:Nat→List Int):Prop:=
 ∀k,k<n→∃g o a' c',a=some ⟨g,o,none⟩∧W.cell? ⟨g,o+k,none⟩=some (.slice a' (f k).length c')∧Ints W a' (f k).length (f k)
def IntsAt2(W:World)(a:Option Addr)(n:Nat)(m:Nat→Nat)(f:Nat→Nat→List Int):Prop:=
 ∀k,k<n→∃g o a' c',a=some ⟨g,o,none⟩∧W.cell? ⟨g,o+k,none⟩=some (.slice a' (m k) c')∧IntsAt W a' (m k) (f k)
theorem IntsAt.ext{W W':World}{a:Option Addr}{n:Nat}{f:Nat→List Int}(h:IntsAt W a n f)(hb:Below W.heap.size W W'):IntsAt W' a n f:=fun k hk=>
 let ⟨g,o,a',c',e,h1,h2⟩:=h k hk
 ⟨g,o,a',c',e,cell_ext hb h1,h2.ext hb⟩
theorem IntsAt2.ext{W W':World}{a:Option Addr}{n:Nat}{m:Nat→Nat}{f:Nat→Nat→List Int}(h:IntsAt2 W a n m f)(hb:Below W.heap.size W W'):IntsAt2 W' a n m f:=fun k hk=>
 let ⟨g,o,a',c',e,h1,h2⟩:=h k hk
 ⟨g,o,a',c',e,cell_ext hb h1,h2.ext hb⟩
def vInL(bs:List BkL)(b:Nat):List Int:=varsL fun v=>needB bs v b
def vOutL(bs:List BkL)(b:Nat):List Int:=varsL fun v=>vOutB bs v b
def atP(bs:List BkL)(b i:Nat)(v:Int):Bool:=aheadL ((bkOf bs b).ops.drop i) (bkOf bs b).nd (fun v=>vOutB bs v b) v
def atL(bs:List BkL)(b i:Nat):List Int:=varsL (atP bs b i)
def atN(bs:List BkL)(b:Nat):Nat:=(bkOf bs b).ops.length+1
structure LiveH where
 ia:Option Addr
 ic:Nat
 oa:Option Addr
 oc:Nat
 ta:Option Addr
 tc:Nat
abbrev liveV(n:Nat)(h:LiveH):Value:=.agg #[.slice h.ia n h.ic,.slice h.oa n h.oc,.slice h.ta n h.tc]
def LiveR(W:World)(bs:List BkL)(n:Nat)(h:LiveH):Prop:=IntsAt W h.ia n (vInL bs)∧IntsAt W h.oa n (vOutL bs)∧IntsAt2 W h.ta n (atN bs) (atL bs)
theorem LiveR.ext{W W':World}{bs:List BkL}{n:Nat}{h:LiveH}(hl:LiveR W bs n h)(hb:Below W.heap.size W W'):LiveR W' bs n h:=⟨hl.1.ext hb,hl.2.1.ext hb,hl.2.2.ext hb⟩
def LivePost(ps:List Int)(bs:List BlkR)(w:World)(e:Ending)(w':World):Prop:=
 ((rightE ps bs≠0∧e=.returned (.tuple #[liveV 0 ⟨none,0,none,0,none,0⟩,.int .i64 2]))∨(rightE ps bs=0∧∃h,e=.returned (.tuple #[liveV bs.length h,.int .i64 0])∧LiveR w' (bksL bs) bs.length h))∧Below w.heap.size w w'
section
variable {W W':World} {B:Nat} {T:Nat→Option Nat} {v:Nat→Nat→Value} {xs:Nat→Nat→List Int}
end
end

section
def meshL(bs:List BkL)(b:Nat):List (List Int):=(List.range (atN bs b)).map (atL bs b)++ [vOutL bs b]
def starL(l:List Int):List Pr2:=l.flatMap fun v=>(l.filter fun x=> !decide (x=v)).map (ofP v)
end

section
open Go.RowKit Go.Shelf
attribute [local go_sem] Oper.semAt_some wide_fn wide_depth wide_fnR wide_depthR
abbrev meshO(i o a:Value)(B:Nat):Obj:=.cells #[i,o,a,.map (some B)] 96 (0,0)
def PHas(w:World)(b:Nat)(p:Pr2→Prop):Prop:=∃L,PSet w b L∧∀y,y∈L↔p y
theorem PHas.kept{w w':World}{b:Nat}{p:Pr2→Prop}(h:PHas w b p)(hb:w'.heap[b]? =w.heap[b]?):PHas w' b p:=let ⟨L,h1,h2⟩:=h;⟨L,h1.of_block hb,h2⟩
theorem PHas.lt{w:World}{b:Nat}{p:Pr2→Prop}(h:PHas w b p):b<w.heap.size:=let ⟨_,h1,_⟩:=h;h1.lt
theorem PHas.ext{w w':World}{b:Nat}{p:Pr2→Prop}(h:PHas w b p)(hb:Below w.heap.size w w'):PHas w' b p:=h.kept (hb.block b h.lt)
theorem PHas.congr{w:World}{b:Nat}{p q:Pr2→Prop}(h:PHas w b p)(e:∀y,p y↔q y):PHas w b q:=let ⟨L,h1,h2⟩:=h;⟨L,h1,fun y=>(h2 y).trans (e y)⟩
def star1(v:Int)(xs:List Int):List Pr2:=(xs.filter fun x=> !decide (x=v)).map (ofP v)
theorem star1_take(v:Int)(xs:List Int)(k:Nat)(y:Int)(h:xs[k]? =some y):∀z,z∈star1 v (xs.take (k+1))↔z∈star1 v (xs.take k)∨(y≠v∧z=ofP v y):=by
 intro z
 unfold star1
 rw[List.take_add_one,h]
 by_cases e:y=v
 ·simp[e]
 ·simp[e]
theorem grown_ofBelow{w w':World}(h:Below w.heap.size w w')(r:Option Nat):w.grownBy w' r:=⟨h.os,h.tape,h.output,h.size,fun k hk _=>h.block k hk⟩
theorem star_any(M B:Nat)(hi ho ha:Value)(p:Pr2→Prop)(v:Int)(xa:Option Addr)(n c:Nat)(xs:List Int)(w:World)(hm:w.heap[M]? =some (meshO hi ho ha B))(h:PHas w B p)(hx:Ints w xa n xs):
  Calls Tryz.prog 36 #[.pointer (some ⟨M,0,none⟩),.int .i64 v,.slice xa n c] w fun e w'=>e=.returned (.tuple #[])∧PHas w' B (fun y=>p y∨y∈star1 v xs)∧w.grownBy w' (some B):=by
 have HP:=Lib.hid h
 have HX:=Lib.hid hx
 have HM:=Lib.hid hm
 have hn:=hx.2.1
 have hMB:M≠B:=fun e=>by
  obtain⟨L,⟨es,cl,hb,_⟩,_⟩:=h;rw[e,hb] at hm;cases hm
 have HNE:=Lib.hid hMB
 clear h hx hm hMB
 go_enter Tryz.func36,Tryz.ntmps36
 go_wp2
 go_loopw [7,10] (fun _ i wr=>∃k:Nat,i=.int .i64 k∧k≤n∧Hid (PHas wr B fun y=>p y∨y∈star1 v (xs.take k))∧Hid (w.grownBy wr (some B))) (fun _ i _=>n-(intOf i).toNat)
 case atStart=>exact⟨0,rfl,by omega,HP.out.congr fun y=>by simp[star1],⟨rfl,rfl,rfl,Nat.le_refl _,fun _ _ _=>rfl⟩⟩
 case round=>
  obtain⟨k,rfl,hk,HR,HG⟩:=hrel;by_cases hlt:k<n
  ·obtain⟨g,o,rfl,hcell,hw1,hw2⟩:=HX.out.2.2 k hlt;have hy:xs[k]? =some (xs.getD k 0):=by rw[List.getD_eq_getElem?_getD,List.getElem?_eq_getElem (by rw[HX.out.1];exact hlt)];rfl
   have HT:=Lib.hid (star1_take v xs k _ hy);have hne:g≠B:=by
    obtain⟨L,h1,_⟩:=HP.out;exact SetM.nocell h1 hcell
   have hc2:wr.cell? ⟨g,o+k,none⟩=some (.int .i64 (xs.getD k 0)):=by
    have:=HG.out.block g (World.block_lt_of_cell? _ _ hcell) (by simpa using hne);rw[←hcell];unfold World.cell?;simp only[this]
   clear hcell hy hne;generalize xs.getD k 0=y at *;by_cases hyv:y=v
   ·subst hyv;have HS2:Hid (PHas wr B fun z=>p z∨z∈star1 y (xs.take (k+1))):=HR.out.congr fun z=>by rw[HT.out z];simp
    go_wp2
    go_roundw
    case rel=>exact⟨k+1,by go_num,by omega,HS2,HG⟩
    case measure=>simp[intOf];omega
   ·have hMw:wr.heap[M]? =some (meshO hi ho ha B):=(HG.out.block M (lt_of_heap HM.out) (by simpa using HNE.out)).trans HM.out;go_upto_region 4 with (fail)
    have q0:∀m:ExtW wr,m.val.cell? ⟨M,3,none⟩=some (.map (some B)):=ExtW.cell (by rw[cell_of_row _ _ _ _ _ _ hMw];rfl);clear hMw hc2;refine z_start (fun w'=>∃m:ExtW wr,w'=m.val) (by kernel_rfl) ?_;obtain⟨v0,F0,hv0⟩:∃v0,Below wr.heap.size wr v0∧wr.drew=v0:=⟨_,ext_drewN (Below.refl _ _) 1,rfl⟩
    rw[hv0];clear hv0;refine z_reads 0 6 (by kernel_rfl) ⟨⟨_,F0⟩,rfl⟩ ?_;simp only[List.take_succ_cons,List.take_zero,List.drop_succ_cons,List.drop_zero]
    repeat (go_big_quiet_step (fail))
    refine wpQuiet_nil ?_;clear q0;refine z_one 6 (by kernel_rfl) ?_;refine wpOp_atU rfl (by rfl) ?_;intro K' HK;go_simp;refine(cOf_any v y v0).mono ?_;rintro e w1 ⟨rfl,hb1⟩;have F1:=ext_trans F0 hb1;refine HK.out _ _ ⟨.inr ⟨⟨_,F1⟩,rfl⟩,?_⟩;clear HK K'
    try simp only[Act.put,List.setIfInBounds_toArray,List.set_cons_succ,List.set_cons_zero]
    obtain⟨L,hL,hm⟩:=HR.out.ext F1;have HGb:=Lib.hid (HG.out.andThen (grown_ofBelow F1 (some B)) fun j hj=>.inr hj);clear F0 F1 hb1;refine z_one 7 (by kernel_rfl) ?_;refine wpOp_atU rfl (by rfl) ?_;intro K' HK;refine op_putM _ _ _ rfl keyP mapTP hL rfl (ofP v y) rfl rfl ?_;intro w2 L2 hs2 hm2 hg2 hz2;refine HK.out _ _ (And.intro (.inl (by kernel_rfl)) ?_);clear HK K';have HS2:Hid (PHas w2 B fun z=>p z∨z∈star1 v (xs.take (k+1))):=⟨L2,hs2,fun z=>by show z∈L2↔p z∨z∈star1 v (xs.take (k+1));rw[hm2 z,hm z,HT.out z,or_assoc];simp[hyv]⟩
    have HG2:=Lib.hid (HGb.out.andThen hg2 fun j hj=>.inr hj);clear hs2 hm2 hg2 hz2 hL hm HGb;refine z_done (by kernel_rfl) ?_
    try simp only[Act.put,List.setIfInBounds_toArray,List.set_cons_succ,List.set_cons_zero]
    go_wp2
    go_roundw
    case rel=>exact⟨k+1,by go_num,by omega,HS2,HG2⟩
    case measure=>simp[intOf];omega
  ·obtain rfl:k=n:=by omega
   go_wp2
   go_end0
   exact⟨rfl,HR.out.congr fun y=>by rw[List.take_of_length_le (by rw[HX.out.1];exact Nat.le_refl _)],HG.out⟩
end

section
open Go.RowKit Go.Shelf
attribute [local go_sem] Oper.semAt_some wide_fn wide_depth wide_fnR wide_depthR
def encE(x:EdgeD):Array Value:=#[.agg #[.int .i64 x.fr,.int .i64 x.arm,.int .i64 x.to]]
theorem cell_heap{w w':World}{b o:Nat}(h:w'.heap[b]? =w.heap[b]?):w'.cell? ⟨b,o,none⟩=w.cell? ⟨b,o,none⟩:=by
 unfold World.cell?
 simp only[h]
theorem Ints.heap{w w':World}{a:Option Addr}{n:Nat}{xs:List Int}(h:Ints w a n xs)(hb:∀b o,a=some ⟨b,o,none⟩→w'.heap[b]? =w.heap[b]?):Ints w' a n xs:=
 ⟨h.1,h.2.1,fun k hk=>by
  obtain⟨b,o,e,hc,hi⟩:=h.2.2 k hk
  exact⟨b,o,e,(cell_heap (hb b o e)).trans hc,hi⟩⟩
theorem each40_any(pa:Option Addr)(pn pc:Nat)(ba:Option Addr)(bn bc:Nat)(w:World):Calls Tryz.prog 144 #[funcV pa pn pc ba bn bc] w fun e w'=>e=.returned (.func (.func 172) #[] #[.pointer (some ⟨w.heap.size,0,none⟩)])∧w'=w.alloc (funcO pa pn pc ba bn bc):=by
 go_enter Tryz.func144,Tryz.ntmps144
 go_wp2
 go_ret
 exact⟨rfl,rfl⟩
theorem eachE_iterTI(pa:Option Addr)(pn pc:Nat)(ba:Option Addr)(bn bc:Nat)(bs:List BlkH)(G:Nat):IterTI Tryz.prog 172 #[.pointer (some ⟨G,0,none⟩)] encE (edgesL (tsOf bs)) (fun W=>W.heap[G]? =some (funcO pa pn pc ba bn bc)∧BlksOK W ba bn bs):=by
 intro l K Kx T W hK hKx hInv hT0 hTg hY h0
 refine callsIn_of_wp Tryz.func172 rfl trivial ?_ rfl
 simp only[Tryz.ntmps172,List.size_toArray,List.length_cons,List.length_nil,Nat.reduceAdd,Nat.reduceSub,Array.replicate_succ,Array.replicate_zero,List.push_toArray,List.append_toArray,List.nil_append,List.cons_append]
 have HY:=Lib.hid hY
 have HI:=Lib.hid hInv
 have HK0:=Lib.hid hK
 have HT0:=Lib.hid hT0
 have HTG:=Lib.hid hTg
 have H0:Hid (K (edgesFrom (tsOf bs) 0) W):=h0
 have hg0:W.cell? ⟨G,1,none⟩=some (.slice ba bn bc):=by rw[cell_of_row _ _ _ _ _ _ (hInv _ _ h0).1];rfl
 have hbn:=(hInv _ _ h0).2.1.2.1
 have HLN:=Lib.hid (hInv _ _ h0).2.1.1
 clear hY hInv hK hKx h0 hT0 hTg
 gi_wp2
 gi_loopw [3,4,5,6,10] (fun _ _ _ _ i wr=>∃k:Nat,i=.int .i64 k∧k≤bn∧Hid (K (edgesFrom (tsOf bs) k) wr)) (fun _ _ _ _ i _=>bn-(intOf i).toNat)
 case atStart=>exact⟨0,rfl,by omega,H0.out⟩
 case round=>
  obtain⟨k,rfl,hk,HK⟩:=hrel;clear hg0;by_cases hlt:k<bn
  ·obtain⟨x,b,o,hbx,hxo,rfl,c0,c1,c2,c3,c4⟩:=(HI.out _ _ HK.out).2.cells hlt;have htd:=tsOf_at bs k x hbx;have HES:Hid (edgesFrom (tsOf bs) k=armsF k 0 (toD x.t)++edgesFrom (tsOf bs) (k+1)):=by
    rw[Hid,edgesFrom_step _ _ (by rw[tsOf_len,HLN.out];exact hlt),edgesAt,htd]
   have HXO:=Lib.hid hxo;have hlt':(k:Int)<(bn:Int):=by omega
   clear hbx htd hxo
   gi_wp2_with (
    (gi_at_call 74
     refine(callsIn_wide.2 (to_any x.t _ HXO.out)).mono ?_;rintro e w2 ⟨v,rfl,ho,hb⟩;obtain⟨va,vc,rfl⟩:=ho.form;have hbw:=ext_trans (ext_alloc wr (blkO x)) hb;have HV:=Lib.hid ho.ints;have HK2:=Lib.hid (HK0.out _ _ _ HK.out hbw)
     have HNT:Hid (∀q o,va=some ⟨q,o,none⟩→¬T w2 q):=(fun q o e ht=>by
      have h1:=HT0.out _ _ _ HK.out (HTG.out _ _ _ _ HK.out hbw ht);have h2:=(ho.1.lt q (by rw[e];rfl)).1;simp at h2
      omega)
     clear ho hb hbw))
   obtain⟨wo,rfl⟩:∃wo:World,wo=wr:=⟨_,rfl⟩
   gi_loopw [5,6,19] (fun _ _ i wi=>∃j:Nat,i=.int .i64 j∧j≤(toD x.t).length∧Hid (K (armsF k j ((toD x.t).drop j)++edgesFrom (tsOf bs) (k+1)) wi)∧Hid (Ints wi va (toD x.t).length (toD x.t))∧Hid (∀q o,va=some ⟨q,o,none⟩→¬T wi q)) (fun _ _ i _=>(toD x.t).length-(intOf i).toNat)
   case atStart=>exact⟨0,rfl,by omega,by rw[Hid,List.drop_zero,←HES.out];exact HK2.out,HV,HNT⟩
   case round=>
    obtain⟨j,rfl,hj,HKj,HVj,HNTj⟩:=hrel;clear HK2 HV HNT;by_cases hjl:j<(toD x.t).length
    ·obtain⟨b3,o3,rfl,hcy,_⟩:=HVj.out.2.2 j hjl;have HL:Hid (armsF k j ((toD x.t).drop j)++edgesFrom (tsOf bs) (k+1)=⟨k,j,(toD x.t).getD j 0⟩ :: (armsF k (j+1) ((toD x.t).drop (j+1))++edgesFrom (tsOf bs) (k+1))):=by
      rw[Hid,List.drop_eq_getElem_cons hjl];simp[armsF,List.getD_eq_getElem?_getD,hjl]
     have hjl':(j:Int)<((toD x.t).length:Int):=by omega
     obtain⟨fn,tmps,assign,body,hy,hR⟩:=HY.out _ ⟨k,j,(toD x.t).getD j 0⟩ wr (by rw[HL.out];rfl) HKj.out;unfold encE at hy;have hT:nxL (armsF k j ((toD x.t).drop j)++edgesFrom (tsOf bs) (k+1)) ⟨k,j,(toD x.t).getD j 0⟩=armsF k (j+1) ((toD x.t).drop (j+1))++edgesFrom (tsOf bs) (k+1):=by rw[HL.out];rfl
     rw[hT] at hR;have HR2:=Lib.hid hR;clear hT hR;have hj2:=toD_len x.t;generalize (toD x.t).getD j 0=y at*
     gi_wp2
     refine HR2.out.mono ?_;rintro e W' (⟨rfl,hJ',hT'⟩|⟨rfl,hX'⟩)
     ·have HKn:=Lib.hid hJ'
      have HVn:=Lib.hid (HVj.out.heap fun b o e=>hT'.2.1 b (by
       obtain⟨b4,o4,e4,hc4,_⟩:=HVj.out.2.2 j hjl;rw[e4] at e;injection e with e;injection e with e _ _;subst e
       exact World.block_lt_of_cell? _ _ hc4) (HNTj.out b o e))
      have HNn:Hid (∀q o,some (⟨b3,o3,none⟩:Addr)=some ⟨q,o,none⟩→¬T W' q):=fun q o e ht=>by
       rcases hT'.2.2 q ht with h|h
       ·exact HNTj.out q o e h
       ·have:=World.block_lt_of_cell? _ _ hcy;injection e with e;injection e with e _ _;subst e;simp at this;omega
      clear hJ' hT' hy HR2 hcy
      gi_wp2
      go_roundw
      case rel=>exact⟨j+1,by go_num,by omega,HKn,HVn,HNn⟩
      case measure=>simp[intOf];omega
     ·have HX:=Lib.hid hX';clear hX' hy HR2
      gi_wp2
      exact bodyPost_ret (v:=.tuple #[]) (by simp[results,Tryz.results172,go_sem]) rfl ⟨⟨_,rfl⟩,Or.inr HX.out⟩
    ·obtain rfl:j=(toD x.t).length:=by omega
     have HKe:Hid (K (edgesFrom (tsOf bs) (k+1)) wr):=by
      have:=HKj.out;rw[List.drop_length] at this;exact this
     clear HKj HVj HNTj
     gi_wp2
     go_roundw
     case rel=>exact⟨k+1,by go_num,by omega,HKe⟩
     case measure=>simp[intOf];omega
  ·obtain rfl:k=bn:=by omega
   have HE:Hid (edgesFrom (tsOf bs) k= []):=edgesFrom_end _ _ (by rw[tsOf_len,HLN.out];omega)
   gi_wp2
   go_end0
   exact⟨⟨_,rfl⟩,Or.inl ⟨_,HE.out,HK.out⟩⟩
end

section
open Go.RowKit Go.Shelf
attribute [local go_sem] Oper.semAt_some wide_fn wide_depth wide_fnR wide_depthR
theorem enter_eachE(args:Array Value)(w:World):(callFunc 172 args).run Tryz.prog w=.ok (.enter 172 args) w:=enters_of Tryz.func172 (by kernel_rfl) rfl args w
end

section
open Go.RowKit
abbrev edgeV(x:EdgeD):Value:=.agg #[.int .i64 x.fr,.int .i64 x.arm,.int .i64 x.to]
abbrev edgeO(x:EdgeD):Obj:=.cells #[.int .i64 x.fr,.int .i64 x.arm,.int .i64 x.to] 189
end

section
open Go.RowKit
attribute [local go_sem] Oper.semAt_some wide_fn wide_depth wide_fnR wide_depthR
theorem size_edge:(Tryz.prog.info? 189).map (·.size)=some 3:=by kernel_rfl
end
end Go.Proofs.YtnmkjliioogbgaaGreatDoor
