/-
 sets.Of.
-/
import Derived.Test.YtnmkjliioogbgaaGreatDoorVP
namespace Go.Proofs.YtnmkjliioogbgaaGreatDoor
set_option linter.unusedSimpArgs false
set_option linter.unusedVariables false
set_option linter.unusedSectionVars false
set_option maxRecDepth 100000
set_option maxHeartbeats 40000000
section
open Go.RowKit Go.Shelf
attribute [local go_sem] Oper.semAt_some wide_fn wide_depth wide_fnR wide_depthR
def OfPost(ps:List Int)(bs:List BlkR)(ls:List TileR)(k:Int)(w:World)(e:Ending)(w':World):Prop:=
 ∃v:Nat→Value,e=.returned (.tuple #[.agg #[v 0,v 1,v 2,v 3,v 4,v 5,v 6],.int .i64 (ofE ps bs (tdOf ls) k)])∧(∀j,j<7→OwnI w' w.heap.size (v j) ((ofM ps bs (tdOf ls) k).rows.getD j []))∧Below w.heap.size w w'
def OfPost2(ps:List Int)(bs:List BlkR)(ls:List TileR)(k:Int)(w:World)(e:Ending)(w':World):Prop:=
 ∃s:SetR,e=.returned (.tuple #[.agg #[s.v 0,s.v 1,s.v 2,s.v 3,s.v 4,s.v 5,s.v 6],.int .i64 (ofE ps bs (tdOf ls) k)])∧(∀j,j<7→OwnI w' w.heap.size (s.v j) ((ofM ps bs (tdOf ls) k).rows.getD j []))∧Apt (setC s)∧Below w.heap.size w w'
theorem apt_nil:Apt (setC ⟨fun _=>nilS,noSet⟩):=apt_set fun _ _ _ _ _ q e=>by cases e
theorem setR_at(s:SetR){W:World}{P:Nat}(h:W.heap[P]? =some (.cells #[s.v 0,s.v 1,s.v 2,s.v 3,s.v 4,s.v 5,s.v 6] 72 (0,0))):W.cell? ⟨P,0,none⟩=some (s.v 0)∧W.cell? ⟨P,1,none⟩=some (s.v 1)∧W.cell? ⟨P,2,none⟩=some (s.v 2)∧W.cell? ⟨P,3,none⟩=some (s.v 3)∧W.cell? ⟨P,4,none⟩=some (s.v 4)∧W.cell? ⟨P,5,none⟩=some (s.v 5)∧W.cell? ⟨P,6,none⟩=some (s.v 6):=by
 refine⟨?_,?_,?_,?_,?_,?_,?_⟩<;>(rw[cell_of_row _ _ _ _ _ _ h];rfl)
theorem nilRow(W:World)(B:Nat){j:Nat}(hj:j<7):OwnI W B nilS (noSet.rows.getD j []):=by
 have:noSet.rows.getD j []= []:=by
  have hcase:j=0∨j=1∨j=2∨j=3∨j=4∨j=5∨j=6:=by omega
  rcases hcase with rfl|rfl|rfl|rfl|rfl|rfl|rfl<;>rfl
 rw[this]
 exact OwnI.nil _ _
theorem sOf_any2(pa:Option Addr)(pn pc:Nat)(ps:List Int)(ba:Option Addr)(bn bc:Nat)(bs:List BlkR)(ta:Option Addr)(tn tc:Nat)(ls:List TileR)(k:Int)(w:World)(hp:Ints w pa pn ps)(h:BlksR w ba bn bs)(ht:TilesOK w ta tn ls)(hL:totL (tdOf ls)≤1000000)(hT:Tab w)(hk:I64 k):
  Calls Tryz.prog 24 #[funcV pa pn pc ba bn bc,.slice ta tn tc,.int .i64 k] w (OfPost2 ps bs ls k w):=by
 have HPI:=Lib.hid hp
 have HB:=Lib.hid h
 have HTL:=Lib.hid ht
 have HTOT:=Lib.hid hL
 have HTB:=Lib.hid hT
 have HK:=Lib.hid hk
 clear hp h ht hL hT hk
 go_enter Tryz.func24,Tryz.ntmps24
 go_upto_region 1 with (fail)
 obtain⟨w0,hw0⟩:∃w0,w0=(w.alloc (funcO pa pn pc ba bn bc)).alloc setZ:=⟨_,rfl⟩
 rw[←hw0]
 have HB0:Hid (Below w.heap.size w w0):=by rw[hw0];exact ext_trans (ext_alloc _ _) (ext_alloc _ _)
 have HF0:Hid (w0.heap[w.heap.size]? =some (funcO pa pn pc ba bn bc)):=by rw[hw0];exact block_ext (ext_alloc _ _) (heap_alloc_new _ _)
 have HZ0:Hid (w0.heap[w.heap.size+1]? =some setZ):=by
  have:=heap_alloc_new (w.alloc (funcO pa pn pc ba bn bc)) setZ;rw[Hid,hw0];simpa using this
 clear hw0
 by_cases hE:setE ps bs (tdOf ls)=0
 rotate_left
 ·have HE:Hid (ofE ps bs (tdOf ls) k=setE ps bs (tdOf ls)):=by rw[Hid,ofE,if_pos hE]
  have HN:=Lib.hid hE;have hne:(setE ps bs (tdOf ls) != 0)=true:=by simpa using hE
  clear hE
  go_wp2_with (first
   |(refine wpList_load_row (o:=⟨some 11,.load 40 _,_,_,_,_⟩) rfl 40 _ rfl w.heap.size rfl 40 _ (0,0) _ HF0.out Tryz.underlying40 rfl size_func ?_)
   |(go_at_call 33
     refine(sAll_any2 pa pn pc ps ba bn bc bs ta tn tc ls w0 (HPI.out.ext HB0.out) (HB.out.ext HB0.out) (HTL.out.ext HB0.out) HTOT.out (HTB.out.ext HB0.out)).mono ?_;rintro e w1 ⟨v,rs,rfl,hrs,hsi,hap,hb1⟩;obtain⟨av,cv,hav⟩:=OwnR.form hsi.1;subst hav;have HSI:=Lib.hid hsi;have HRS:=Lib.hid hrs;have HB1:=Lib.hid (ext_trans HB0.out hb1);have HZ1:=Lib.hid (block_ext hb1 HZ0.out);have z0:w1.cell? ⟨w.heap.size+1,0,none⟩=some nilS:=(by rw[cell_of_row _ _ _ _ _ _ HZ1.out];rfl)
     have y0:w1.frozen? ⟨w.heap.size+1,0,none⟩=false:=frozen_of_row _ _ _ _ _ HZ1.out;have z1:w1.cell? ⟨w.heap.size+1,1,none⟩=some nilS:=(by rw[cell_of_row _ _ _ _ _ _ HZ1.out];rfl)
     have y1:w1.frozen? ⟨w.heap.size+1,1,none⟩=false:=frozen_of_row _ _ _ _ _ HZ1.out;have z2:w1.cell? ⟨w.heap.size+1,2,none⟩=some nilS:=(by rw[cell_of_row _ _ _ _ _ _ HZ1.out];rfl)
     have y2:w1.frozen? ⟨w.heap.size+1,2,none⟩=false:=frozen_of_row _ _ _ _ _ HZ1.out;have z3:w1.cell? ⟨w.heap.size+1,3,none⟩=some nilS:=(by rw[cell_of_row _ _ _ _ _ _ HZ1.out];rfl)
     have y3:w1.frozen? ⟨w.heap.size+1,3,none⟩=false:=frozen_of_row _ _ _ _ _ HZ1.out;have z4:w1.cell? ⟨w.heap.size+1,4,none⟩=some nilS:=(by rw[cell_of_row _ _ _ _ _ _ HZ1.out];rfl)
     have y4:w1.frozen? ⟨w.heap.size+1,4,none⟩=false:=frozen_of_row _ _ _ _ _ HZ1.out;have z5:w1.cell? ⟨w.heap.size+1,5,none⟩=some nilS:=(by rw[cell_of_row _ _ _ _ _ _ HZ1.out];rfl)
     have y5:w1.frozen? ⟨w.heap.size+1,5,none⟩=false:=frozen_of_row _ _ _ _ _ HZ1.out;have z6:w1.cell? ⟨w.heap.size+1,6,none⟩=some nilS:=(by rw[cell_of_row _ _ _ _ _ _ HZ1.out];rfl)
     have y6:w1.frozen? ⟨w.heap.size+1,6,none⟩=false:=frozen_of_row _ _ _ _ _ HZ1.out;have hl1:=lt_of_heap HZ1.out
     clear hb1 hsi hrs hap))
  obtain⟨wz,hwz⟩:∃wz,wz=(((((((w1.setCell ⟨w.heap.size+1,0,none⟩ nilS).setCell ⟨w.heap.size+1,1,none⟩ nilS).setCell ⟨w.heap.size+1,2,none⟩ nilS).setCell ⟨w.heap.size+1,3,none⟩ nilS).setCell ⟨w.heap.size+1,4,none⟩ nilS).setCell ⟨w.heap.size+1,5,none⟩ nilS).setCell ⟨w.heap.size+1,6,none⟩ nilS):=⟨_,rfl⟩
  rw[←hwz];have hz:wz.heap[w.heap.size+1]? =some (.cells #[nilS,nilS,nilS,nilS,nilS,nilS,nilS] 72 (0,0)):=by rw[hwz,heap_setCell_same _ _ _ _ _ _ (heap_setCell_same _ _ _ _ _ _ (heap_setCell_same _ _ _ _ _ _ (heap_setCell_same _ _ _ _ _ _ (heap_setCell_same _ _ _ _ _ _ (heap_setCell_same _ _ _ _ _ _ (heap_setCell_same _ _ _ _ _ _ HZ1.out))))))];rfl
  have hbz:Below w.heap.size w wz:=by rw[hwz];exact(((((((HB1.out.setCell (by show w.heap.size≤w.heap.size+1;omega) _).setCell (by show w.heap.size≤w.heap.size+1;omega) _).setCell (by show w.heap.size≤w.heap.size+1;omega) _).setCell (by show w.heap.size≤w.heap.size+1;omega) _).setCell (by show w.heap.size≤w.heap.size+1;omega) _).setCell (by show w.heap.size≤w.heap.size+1;omega) _).setCell (by show w.heap.size≤w.heap.size+1;omega) _)
  obtain⟨k0,k1,k2,k3,k4,k5,k6⟩:=setR_at ⟨fun _=>nilS,noSet⟩ hz;refine bodyPost_ret (v:=.tuple #[.agg #[nilS,nilS,nilS,nilS,nilS,nilS,nilS],.int .i64 (setE ps bs (tdOf ls))]) (by simp[results,Tryz.results24,asAddr,k0,k1,k2,k3,k4,k5,k6,go_sem]) rfl ?_;refine⟨⟨fun _=>nilS,noSet⟩,by rw[HE.out],fun j hj=>?_,apt_nil,hbz⟩;rw[ofM,if_neg (by rw[HE.out];exact HN.out)];exact nilRow _ _ hj
 ·have HE0:=Lib.hid hE;have hne:(setE ps bs (tdOf ls) != 0)=false:=by simpa using hE
  have HLN:Hid (ls.length=(tdOf ls).length):=by rw[Hid];simp[tdOf]
  by_cases hk0:k<0
  ·have HE:Hid (ofE ps bs (tdOf ls) k=5):=by rw[Hid,ofE,if_neg (by rw[hE];simp),if_pos (.inl hk0)]
   clear hE
   go_wp2_with (first
    |(refine wpList_load_row (o:=⟨some 11,.load 40 _,_,_,_,_⟩) rfl 40 _ rfl w.heap.size rfl 40 _ (0,0) _ HF0.out Tryz.underlying40 rfl size_func ?_)
    |(go_at_call 33
      refine(sAll_any2 pa pn pc ps ba bn bc bs ta tn tc ls w0 (HPI.out.ext HB0.out) (HB.out.ext HB0.out) (HTL.out.ext HB0.out) HTOT.out (HTB.out.ext HB0.out)).mono ?_;rintro e w1 ⟨v,rs,rfl,hrs,hsi,hap,hb1⟩;obtain⟨av,cv,hav⟩:=OwnR.form hsi.1;subst hav;have HSI:=Lib.hid hsi;have HRS:=Lib.hid hrs;have HB1:=Lib.hid (ext_trans HB0.out hb1);have HZ1:=Lib.hid (block_ext hb1 HZ0.out);have z0:w1.cell? ⟨w.heap.size+1,0,none⟩=some nilS:=(by rw[cell_of_row _ _ _ _ _ _ HZ1.out];rfl)
      have y0:w1.frozen? ⟨w.heap.size+1,0,none⟩=false:=frozen_of_row _ _ _ _ _ HZ1.out;have z1:w1.cell? ⟨w.heap.size+1,1,none⟩=some nilS:=(by rw[cell_of_row _ _ _ _ _ _ HZ1.out];rfl)
      have y1:w1.frozen? ⟨w.heap.size+1,1,none⟩=false:=frozen_of_row _ _ _ _ _ HZ1.out;have z2:w1.cell? ⟨w.heap.size+1,2,none⟩=some nilS:=(by rw[cell_of_row _ _ _ _ _ _ HZ1.out];rfl)
      have y2:w1.frozen? ⟨w.heap.size+1,2,none⟩=false:=frozen_of_row _ _ _ _ _ HZ1.out;have z3:w1.cell? ⟨w.heap.size+1,3,none⟩=some nilS:=(by rw[cell_of_row _ _ _ _ _ _ HZ1.out];rfl)
      have y3:w1.frozen? ⟨w.heap.size+1,3,none⟩=false:=frozen_of_row _ _ _ _ _ HZ1.out;have z4:w1.cell? ⟨w.heap.size+1,4,none⟩=some nilS:=(by rw[cell_of_row _ _ _ _ _ _ HZ1.out];rfl)
      have y4:w1.frozen? ⟨w.heap.size+1,4,none⟩=false:=frozen_of_row _ _ _ _ _ HZ1.out;have z5:w1.cell? ⟨w.heap.size+1,5,none⟩=some nilS:=(by rw[cell_of_row _ _ _ _ _ _ HZ1.out];rfl)
      have y5:w1.frozen? ⟨w.heap.size+1,5,none⟩=false:=frozen_of_row _ _ _ _ _ HZ1.out;have z6:w1.cell? ⟨w.heap.size+1,6,none⟩=some nilS:=(by rw[cell_of_row _ _ _ _ _ _ HZ1.out];rfl)
      have y6:w1.frozen? ⟨w.heap.size+1,6,none⟩=false:=frozen_of_row _ _ _ _ _ HZ1.out;have hl1:=lt_of_heap HZ1.out
      clear hb1 hsi hrs hap))
   obtain⟨wz,hwz⟩:∃wz,wz=(((((((w1.setCell ⟨w.heap.size+1,0,none⟩ nilS).setCell ⟨w.heap.size+1,1,none⟩ nilS).setCell ⟨w.heap.size+1,2,none⟩ nilS).setCell ⟨w.heap.size+1,3,none⟩ nilS).setCell ⟨w.heap.size+1,4,none⟩ nilS).setCell ⟨w.heap.size+1,5,none⟩ nilS).setCell ⟨w.heap.size+1,6,none⟩ nilS):=⟨_,rfl⟩
   rw[←hwz];have hz:wz.heap[w.heap.size+1]? =some (.cells #[nilS,nilS,nilS,nilS,nilS,nilS,nilS] 72 (0,0)):=by rw[hwz,heap_setCell_same _ _ _ _ _ _ (heap_setCell_same _ _ _ _ _ _ (heap_setCell_same _ _ _ _ _ _ (heap_setCell_same _ _ _ _ _ _ (heap_setCell_same _ _ _ _ _ _ (heap_setCell_same _ _ _ _ _ _ (heap_setCell_same _ _ _ _ _ _ HZ1.out))))))];rfl
   have hbz:Below w.heap.size w wz:=by rw[hwz];exact(((((((HB1.out.setCell (by show w.heap.size≤w.heap.size+1;omega) _).setCell (by show w.heap.size≤w.heap.size+1;omega) _).setCell (by show w.heap.size≤w.heap.size+1;omega) _).setCell (by show w.heap.size≤w.heap.size+1;omega) _).setCell (by show w.heap.size≤w.heap.size+1;omega) _).setCell (by show w.heap.size≤w.heap.size+1;omega) _).setCell (by show w.heap.size≤w.heap.size+1;omega) _)
   obtain⟨k0,k1,k2,k3,k4,k5,k6⟩:=setR_at ⟨fun _=>nilS,noSet⟩ hz;refine bodyPost_ret (v:=.tuple #[.agg #[nilS,nilS,nilS,nilS,nilS,nilS,nilS],.int .i64 (5)]) (by simp[results,Tryz.results24,asAddr,k0,k1,k2,k3,k4,k5,k6,go_sem]) rfl ?_;refine⟨⟨fun _=>nilS,noSet⟩,by rw[HE.out],fun j hj=>?_,apt_nil,hbz⟩;rw[ofM,if_neg (by rw[HE.out];omega)];exact nilRow _ _ hj
  
  ·by_cases hk1:((tdOf ls).length:Int)≤k
   ·have HE:Hid (ofE ps bs (tdOf ls) k=5):=by rw[Hid,ofE,if_neg (by rw[hE];simp),if_pos (.inr hk1)]
    clear hE
    go_wp2_with (first
     |(refine wpList_load_row (o:=⟨some 11,.load 40 _,_,_,_,_⟩) rfl 40 _ rfl w.heap.size rfl 40 _ (0,0) _ HF0.out Tryz.underlying40 rfl size_func ?_)
     |(go_at_call 33
       refine(sAll_any2 pa pn pc ps ba bn bc bs ta tn tc ls w0 (HPI.out.ext HB0.out) (HB.out.ext HB0.out) (HTL.out.ext HB0.out) HTOT.out (HTB.out.ext HB0.out)).mono ?_;rintro e w1 ⟨v,rs,rfl,hrs,hsi,hap,hb1⟩;obtain⟨av,cv,hav⟩:=OwnR.form hsi.1;subst hav;have HSI:=Lib.hid hsi;have HRS:=Lib.hid hrs;have HB1:=Lib.hid (ext_trans HB0.out hb1);have HZ1:=Lib.hid (block_ext hb1 HZ0.out);have z0:w1.cell? ⟨w.heap.size+1,0,none⟩=some nilS:=(by rw[cell_of_row _ _ _ _ _ _ HZ1.out];rfl)
       have y0:w1.frozen? ⟨w.heap.size+1,0,none⟩=false:=frozen_of_row _ _ _ _ _ HZ1.out;have z1:w1.cell? ⟨w.heap.size+1,1,none⟩=some nilS:=(by rw[cell_of_row _ _ _ _ _ _ HZ1.out];rfl)
       have y1:w1.frozen? ⟨w.heap.size+1,1,none⟩=false:=frozen_of_row _ _ _ _ _ HZ1.out;have z2:w1.cell? ⟨w.heap.size+1,2,none⟩=some nilS:=(by rw[cell_of_row _ _ _ _ _ _ HZ1.out];rfl)
       have y2:w1.frozen? ⟨w.heap.size+1,2,none⟩=false:=frozen_of_row _ _ _ _ _ HZ1.out;have z3:w1.cell? ⟨w.heap.size+1,3,none⟩=some nilS:=(by rw[cell_of_row _ _ _ _ _ _ HZ1.out];rfl)
       have y3:w1.frozen? ⟨w.heap.size+1,3,none⟩=false:=frozen_of_row _ _ _ _ _ HZ1.out;have z4:w1.cell? ⟨w.heap.size+1,4,none⟩=some nilS:=(by rw[cell_of_row _ _ _ _ _ _ HZ1.out];rfl)
       have y4:w1.frozen? ⟨w.heap.size+1,4,none⟩=false:=frozen_of_row _ _ _ _ _ HZ1.out;have z5:w1.cell? ⟨w.heap.size+1,5,none⟩=some nilS:=(by rw[cell_of_row _ _ _ _ _ _ HZ1.out];rfl)
       have y5:w1.frozen? ⟨w.heap.size+1,5,none⟩=false:=frozen_of_row _ _ _ _ _ HZ1.out;have z6:w1.cell? ⟨w.heap.size+1,6,none⟩=some nilS:=(by rw[cell_of_row _ _ _ _ _ _ HZ1.out];rfl)
       have y6:w1.frozen? ⟨w.heap.size+1,6,none⟩=false:=frozen_of_row _ _ _ _ _ HZ1.out;have hl1:=lt_of_heap HZ1.out;have hrl:rs.length=(tdOf ls).length:=(by have:=congrArg List.length HRS.out;rw[allM,if_pos HE0.out,setsM] at this;simpa using this)
       rw[hrl]
       clear hb1 hsi hrs hap))
    obtain⟨wz,hwz⟩:∃wz,wz=(((((((w1.setCell ⟨w.heap.size+1,0,none⟩ nilS).setCell ⟨w.heap.size+1,1,none⟩ nilS).setCell ⟨w.heap.size+1,2,none⟩ nilS).setCell ⟨w.heap.size+1,3,none⟩ nilS).setCell ⟨w.heap.size+1,4,none⟩ nilS).setCell ⟨w.heap.size+1,5,none⟩ nilS).setCell ⟨w.heap.size+1,6,none⟩ nilS):=⟨_,rfl⟩
    rw[←hwz];have hz:wz.heap[w.heap.size+1]? =some (.cells #[nilS,nilS,nilS,nilS,nilS,nilS,nilS] 72 (0,0)):=by rw[hwz,heap_setCell_same _ _ _ _ _ _ (heap_setCell_same _ _ _ _ _ _ (heap_setCell_same _ _ _ _ _ _ (heap_setCell_same _ _ _ _ _ _ (heap_setCell_same _ _ _ _ _ _ (heap_setCell_same _ _ _ _ _ _ (heap_setCell_same _ _ _ _ _ _ HZ1.out))))))];rfl
    have hbz:Below w.heap.size w wz:=by rw[hwz];exact(((((((HB1.out.setCell (by show w.heap.size≤w.heap.size+1;omega) _).setCell (by show w.heap.size≤w.heap.size+1;omega) _).setCell (by show w.heap.size≤w.heap.size+1;omega) _).setCell (by show w.heap.size≤w.heap.size+1;omega) _).setCell (by show w.heap.size≤w.heap.size+1;omega) _).setCell (by show w.heap.size≤w.heap.size+1;omega) _).setCell (by show w.heap.size≤w.heap.size+1;omega) _)
    obtain⟨k0,k1,k2,k3,k4,k5,k6⟩:=setR_at ⟨fun _=>nilS,noSet⟩ hz;refine bodyPost_ret (v:=.tuple #[.agg #[nilS,nilS,nilS,nilS,nilS,nilS,nilS],.int .i64 (5)]) (by simp[results,Tryz.results24,asAddr,k0,k1,k2,k3,k4,k5,k6,go_sem]) rfl ?_;refine⟨⟨fun _=>nilS,noSet⟩,by rw[HE.out],fun j hj=>?_,apt_nil,hbz⟩;rw[ofM,if_neg (by rw[HE.out];omega)];exact nilRow _ _ hj
   ·have HE:Hid (ofE ps bs (tdOf ls) k=0):=by rw[Hid,ofE,if_neg (by rw[hE];simp),if_neg (by omega)]
    clear hE;obtain⟨m,rfl⟩:∃m:Nat,k=m:=⟨k.toNat,by omega⟩
    have hm:m<(tdOf ls).length:=by omega
    clear hk0 hk1
    go_wp2_with (first
     |(refine wpList_load_row (o:=⟨some 11,.load 40 _,_,_,_,_⟩) rfl 40 _ rfl w.heap.size rfl 40 _ (0,0) _ HF0.out Tryz.underlying40 rfl size_func ?_)
     |(go_at_call 33
       refine(sAll_any2 pa pn pc ps ba bn bc bs ta tn tc ls w0 (HPI.out.ext HB0.out) (HB.out.ext HB0.out) (HTL.out.ext HB0.out) HTOT.out (HTB.out.ext HB0.out)).mono ?_;rintro e w1 ⟨v,rs,rfl,hrs,hsi,hap,hb1⟩;rw[allM,if_pos HE0.out,setsM] at hrs;have hrl:rs.length=(tdOf ls).length:=(by have:=congrArg List.length hrs;simpa using this)
       have hmr:m<rs.length:=(by rw[hrl];exact hm)
       obtain⟨bg,cv,hav⟩:=own_form hsi.1.1 (by omega);subst hav;have HRG:=Lib.hid (OwnR.range setC_len hsi.1 ⟨fun _=>nilS,noSet⟩ hmr);obtain⟨sm,hsm⟩:∃sm,sm=rs.getD m ⟨fun _=>nilS,noSet⟩:=⟨_,rfl⟩
       have hsd:sm.d=setM ps bs (tdOf ls) m:=(by
        have h1:(rs.map (·.d))[m]? =some (setM ps bs (tdOf ls) m):=(by rw[hrs];simp[hm])
        rw[List.getElem?_map] at h1;rw[hsm,List.getD_eq_getElem?_getD];rw[List.getElem?_eq_getElem hmr] at h1⊢
        simpa using h1)
       rw[←hsm] at HRG;have HAP1:Hid (Apt (setC sm)):=hap.sub (by rw[hsm,List.getD_eq_getElem?_getD,List.getElem?_eq_getElem hmr];exact List.getElem_mem hmr)
       have hown:∀j,j<7→OwnI w1 w0.heap.size (sm.v j) ((setM ps bs (tdOf ls) m).rows.getD j []):=fun j hj=>(by
        rw[←hsd]
        exact hsi.2 sm (by rw[hsm,List.getD_eq_getElem?_getD,List.getElem?_eq_getElem hmr];exact List.getElem_mem hmr) j hj)
       have HOWN:=Lib.hid hown;obtain⟨a0,c0,e0⟩:=(hown 0 (by omega)).form;obtain⟨a1,c1,e1⟩:=(hown 1 (by omega)).form;obtain⟨a2,c2,e2⟩:=(hown 2 (by omega)).form;obtain⟨a3,c3,e3⟩:=(hown 3 (by omega)).form;obtain⟨a4,c4,e4⟩:=(hown 4 (by omega)).form;obtain⟨a5,c5,e5⟩:=(hown 5 (by omega)).form;obtain⟨a6,c6,e6⟩:=(hown 6 (by omega)).form;generalize hl09:((setM ps bs (tdOf ls) m).rows.getD 0 []).length=l0 at e0;generalize hl19:((setM ps bs (tdOf ls) m).rows.getD 1 []).length=l1 at e1;generalize hl29:((setM ps bs (tdOf ls) m).rows.getD 2 []).length=l2 at e2;generalize hl39:((setM ps bs (tdOf ls) m).rows.getD 3 []).length=l3 at e3;generalize hl49:((setM ps bs (tdOf ls) m).rows.getD 4 []).length=l4 at e4;generalize hl59:((setM ps bs (tdOf ls) m).rows.getD 5 []).length=l5 at e5;generalize hl69:((setM ps bs (tdOf ls) m).rows.getD 6 []).length=l6 at e6;have HSC:Hid (setC sm= [.slice a0 l0 c0,.slice a1 l1 c1,.slice a2 l2 c2,.slice a3 l3 c3,.slice a4 l4 c4,.slice a5 l5 c5,.slice a6 l6 c6]):=(by simp only[Hid,setC,e0,e1,e2,e3,e4,e5,e6])
       have HE7:Hid (sm.v 0=.slice a0 l0 c0∧sm.v 1=.slice a1 l1 c1∧sm.v 2=.slice a2 l2 c2∧sm.v 3=.slice a3 l3 c3∧sm.v 4=.slice a4 l4 c4∧sm.v 5=.slice a5 l5 c5∧sm.v 6=.slice a6 l6 c6):=⟨e0,e1,e2,e3,e4,e5,e6⟩
       rw[HSC.out] at HRG;rw[hrl];have HB1:=Lib.hid (ext_trans HB0.out hb1);have HZ1:=Lib.hid (block_ext hb1 HZ0.out);have HW0:Hid (w.heap.size+2≤w0.heap.size):=(by have:=lt_of_heap HZ0.out;show _≤_;omega)
       have hmi:(m:Int)<((tdOf ls).length:Int):=(by omega)
       have z0:w1.cell? ⟨w.heap.size+1,0,none⟩=some nilS:=(by rw[cell_of_row _ _ _ _ _ _ HZ1.out];rfl)
       have y0:w1.frozen? ⟨w.heap.size+1,0,none⟩=false:=frozen_of_row _ _ _ _ _ HZ1.out;have z1:w1.cell? ⟨w.heap.size+1,1,none⟩=some nilS:=(by rw[cell_of_row _ _ _ _ _ _ HZ1.out];rfl)
       have y1:w1.frozen? ⟨w.heap.size+1,1,none⟩=false:=frozen_of_row _ _ _ _ _ HZ1.out;have z2:w1.cell? ⟨w.heap.size+1,2,none⟩=some nilS:=(by rw[cell_of_row _ _ _ _ _ _ HZ1.out];rfl)
       have y2:w1.frozen? ⟨w.heap.size+1,2,none⟩=false:=frozen_of_row _ _ _ _ _ HZ1.out;have z3:w1.cell? ⟨w.heap.size+1,3,none⟩=some nilS:=(by rw[cell_of_row _ _ _ _ _ _ HZ1.out];rfl)
       have y3:w1.frozen? ⟨w.heap.size+1,3,none⟩=false:=frozen_of_row _ _ _ _ _ HZ1.out;have z4:w1.cell? ⟨w.heap.size+1,4,none⟩=some nilS:=(by rw[cell_of_row _ _ _ _ _ _ HZ1.out];rfl)
       have y4:w1.frozen? ⟨w.heap.size+1,4,none⟩=false:=frozen_of_row _ _ _ _ _ HZ1.out;have z5:w1.cell? ⟨w.heap.size+1,5,none⟩=some nilS:=(by rw[cell_of_row _ _ _ _ _ _ HZ1.out];rfl)
       have y5:w1.frozen? ⟨w.heap.size+1,5,none⟩=false:=frozen_of_row _ _ _ _ _ HZ1.out;have z6:w1.cell? ⟨w.heap.size+1,6,none⟩=some nilS:=(by rw[cell_of_row _ _ _ _ _ _ HZ1.out];rfl)
       have y6:w1.frozen? ⟨w.heap.size+1,6,none⟩=false:=frozen_of_row _ _ _ _ _ HZ1.out;have hl1:=lt_of_heap HZ1.out;have r0:w1.cell? ⟨bg,m*7,none⟩=some (.slice a0 l0 c0):=HRG.out 0 _ rfl;have r1:w1.cell? ⟨bg,m*7+1,none⟩=some (.slice a1 l1 c1):=HRG.out 1 _ rfl;have r2:w1.cell? ⟨bg,m*7+2,none⟩=some (.slice a2 l2 c2):=HRG.out 2 _ rfl;have r3:w1.cell? ⟨bg,m*7+3,none⟩=some (.slice a3 l3 c3):=HRG.out 3 _ rfl;have r4:w1.cell? ⟨bg,m*7+4,none⟩=some (.slice a4 l4 c4):=HRG.out 4 _ rfl;have r5:w1.cell? ⟨bg,m*7+5,none⟩=some (.slice a5 l5 c5):=HRG.out 5 _ rfl;have r6:w1.cell? ⟨bg,m*7+6,none⟩=some (.slice a6 l6 c6):=HRG.out 6 _ rfl
       clear hb1 hap hsi hrs hsd hown e0 e1 e2 e3 e4 e5 e6 hl09 hl19 hl29 hl39 hl49 hl59 hl69 hrl hsm hmr))
    obtain⟨wz,hwz⟩:∃wz,wz=(((((((w1.setCell ⟨w.heap.size+1,0,none⟩ (.slice a0 l0 c0)).setCell ⟨w.heap.size+1,1,none⟩ (.slice a1 l1 c1)).setCell ⟨w.heap.size+1,2,none⟩ (.slice a2 l2 c2)).setCell ⟨w.heap.size+1,3,none⟩ (.slice a3 l3 c3)).setCell ⟨w.heap.size+1,4,none⟩ (.slice a4 l4 c4)).setCell ⟨w.heap.size+1,5,none⟩ (.slice a5 l5 c5)).setCell ⟨w.heap.size+1,6,none⟩ (.slice a6 l6 c6)):=⟨_,rfl⟩
    rw[←hwz];have hz:wz.heap[w.heap.size+1]? =some (.cells #[.slice a0 l0 c0,.slice a1 l1 c1,.slice a2 l2 c2,.slice a3 l3 c3,.slice a4 l4 c4,.slice a5 l5 c5,.slice a6 l6 c6] 72 (0,0)):=by rw[hwz,heap_setCell_same _ _ _ _ _ _ (heap_setCell_same _ _ _ _ _ _ (heap_setCell_same _ _ _ _ _ _ (heap_setCell_same _ _ _ _ _ _ (heap_setCell_same _ _ _ _ _ _ (heap_setCell_same _ _ _ _ _ _ (heap_setCell_same _ _ _ _ _ _ HZ1.out))))))];simp only[setZ,List.setIfInBounds_toArray,List.set_cons_succ,List.set_cons_zero]
    have hbz:Below w.heap.size w wz:=by rw[hwz];exact(((((((HB1.out.setCell (by show w.heap.size≤w.heap.size+1;omega) _).setCell (by show w.heap.size≤w.heap.size+1;omega) _).setCell (by show w.heap.size≤w.heap.size+1;omega) _).setCell (by show w.heap.size≤w.heap.size+1;omega) _).setCell (by show w.heap.size≤w.heap.size+1;omega) _).setCell (by show w.heap.size≤w.heap.size+1;omega) _).setCell (by show w.heap.size≤w.heap.size+1;omega) _)
    have hcz:Chg (fun j=>j=w.heap.size+1) w1 wz:=by rw[hwz];exact((((((((Chg.refl (fun j=>j=w.heap.size+1) w1).setCell (p:=⟨w.heap.size+1,0,none⟩) (.inl rfl) (.slice a0 l0 c0)).setCell (p:=⟨w.heap.size+1,1,none⟩) (.inl rfl) (.slice a1 l1 c1)).setCell (p:=⟨w.heap.size+1,2,none⟩) (.inl rfl) (.slice a2 l2 c2)).setCell (p:=⟨w.heap.size+1,3,none⟩) (.inl rfl) (.slice a3 l3 c3)).setCell (p:=⟨w.heap.size+1,4,none⟩) (.inl rfl) (.slice a4 l4 c4)).setCell (p:=⟨w.heap.size+1,5,none⟩) (.inl rfl) (.slice a5 l5 c5)).setCell (p:=⟨w.heap.size+1,6,none⟩) (.inl rfl) (.slice a6 l6 c6))
    have k0:wz.cell? ⟨w.heap.size+1,0,none⟩=some (.slice a0 l0 c0):=by rw[cell_of_row _ _ _ _ _ _ hz];rfl
    have k1:wz.cell? ⟨w.heap.size+1,1,none⟩=some (.slice a1 l1 c1):=by rw[cell_of_row _ _ _ _ _ _ hz];rfl
    have k2:wz.cell? ⟨w.heap.size+1,2,none⟩=some (.slice a2 l2 c2):=by rw[cell_of_row _ _ _ _ _ _ hz];rfl
    have k3:wz.cell? ⟨w.heap.size+1,3,none⟩=some (.slice a3 l3 c3):=by rw[cell_of_row _ _ _ _ _ _ hz];rfl
    have k4:wz.cell? ⟨w.heap.size+1,4,none⟩=some (.slice a4 l4 c4):=by rw[cell_of_row _ _ _ _ _ _ hz];rfl
    have k5:wz.cell? ⟨w.heap.size+1,5,none⟩=some (.slice a5 l5 c5):=by rw[cell_of_row _ _ _ _ _ _ hz];rfl
    have k6:wz.cell? ⟨w.heap.size+1,6,none⟩=some (.slice a6 l6 c6):=by rw[cell_of_row _ _ _ _ _ _ hz];rfl
    refine bodyPost_ret (v:=.tuple #[.agg #[.slice a0 l0 c0,.slice a1 l1 c1,.slice a2 l2 c2,.slice a3 l3 c3,.slice a4 l4 c4,.slice a5 l5 c5,.slice a6 l6 c6],.int .i64 0]) (by simp[results,Tryz.results24,asAddr,k0,k1,k2,k3,k4,k5,k6,go_sem]) rfl ?_;obtain⟨e0,e1,e2,e3,e4,e5,e6⟩:=HE7.out;refine⟨sm,by rw[HE.out,e0,e1,e2,e3,e4,e5,e6],fun j hj=>?_,HAP1.out,hbz⟩;rw[ofM,if_pos HE.out,Int.toNat_natCast];have h1:=HOWN.out j hj;have hw0:=HW0.out;exact(show OwnI wz w0.heap.size _ _ from ⟨ownsRow_chg h1.1 hcz (fun q e hS=>by have:=(h1.1.lt q e).1;omega),h1.2⟩).mono (by omega)
theorem sOf_any(pa:Option Addr)(pn pc:Nat)(ps:List Int)(ba:Option Addr)(bn bc:Nat)(bs:List BlkR)(ta:Option Addr)(tn tc:Nat)(ls:List TileR)(k:Int)(w:World)(hp:Ints w pa pn ps)(h:BlksR w ba bn bs)(ht:TilesOK w ta tn ls)(hL:totL (tdOf ls)≤1000000)(hT:Tab w)(hk:I64 k):
  Calls Tryz.prog 24 #[funcV pa pn pc ba bn bc,.slice ta tn tc,.int .i64 k] w (OfPost ps bs ls k w):=
 (sOf_any2 pa pn pc ps ba bn bc bs ta tn tc ls k w hp h ht hL hT hk).mono fun _ _ ⟨s,h1,h2,_,h3⟩=>⟨s.v,h1,h2,h3⟩
end
end Go.Proofs.YtnmkjliioogbgaaGreatDoor
