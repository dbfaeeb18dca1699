/-
 slices.ContainsFunc of ints with a closure;clash.Right.
-/
import Derived.Test.YtnmkjliioogbgaaGreatDoorInsR
import Derived.Test.YtnmkjliioogbgaaGreatDoorPG
import Derived.Test.YtnmkjliioogbgaaGreatDoorPE
import Derived.Test.YtnmkjliioogbgaaGreatDoorYV
import Derived.Test.YtnmkjliioogbgaaGreatDoorMark
import Derived.Test.YtnmkjliioogbgaaGreatDoorRangeT
import Derived.Test.YtnmkjliioogbgaaGreatDoorTA
import Derived.Deep.Cut
import Derived.Deep.CutRange
import Derived.Deep.DeepCutAuto
namespace Go.Proofs.YtnmkjliioogbgaaGreatDoor
set_option linter.unusedSimpArgs false
set_option linter.unusedVariables false
set_option linter.unusedSectionVars false
set_option maxRecDepth 100000
set_option maxHeartbeats 40000000
section
open Go.RowKit Go.Shelf
attribute [local go_sem] Oper.semAt_some wide_fn wide_depth wide_fnR wide_depthR
theorem indexFuncC_any(F:Nat)(cp:Value)(eF:∀args w,(callFunc F args).run Tryz.prog w=.ok (.enter F args) w)(p:Int→Bool)(a:Option Addr)(n c:Nat)(xs:List Int)(w:World)(hp:∀x:Int,Calls Tryz.prog F #[.int .i64 x,cp] w fun e W'=>e=.returned (.bool (p x))∧w=W')(h:Ints w a n xs):
  Calls Tryz.prog 31 #[.slice a n c,.func (.func F) #[] #[cp]] w fun e w'=>e=.returned (.int .i64 (idxF p xs))∧w=w':=by
 obtain⟨hl,hn,hc⟩:=h
 have HL:=Lib.hid hl
 have HC:=Lib.hid hc
 have HP:=Lib.hid hp
 clear hl hc hp
 go_enter Tryz.func31,Tryz.ntmps31
 go_wp2
 go_loop [5,8] (fun _ i=>∃(k:Nat),k≤n∧i=.int .i64 k∧Hid (∀j y,j<k→xs[j]? =some y→p y=false)) (fun _ i=>n-(intOf i).toNat)
 case atStart=>exact⟨0,by omega,rfl,fun j y hj=>absurd hj (by omega)⟩
 case round=>
  obtain⟨k,hk,rfl,HR⟩:=hrel;by_cases hlt:k<n
  ·obtain⟨b,o,rfl,hcell,hw1,hw2⟩:=HC.out k hlt;have hgk:xs[k]? =some (xs.getD k 0):=by
    have hk':k<xs.length:=by rw[HL.out];exact hlt
    simp[List.getD_eq_getElem?_getD,hk']
   have HG:=Lib.hid hgk;clear hgk;generalize xs.getD k 0=y at *;by_cases hy:p y=true
   ·have HE:Hid (idxF p xs=k):=idxF_found p xs k y HG.out hy HR.out;go_wp2;refine(HP.out y).mono ?_;rintro e w' ⟨rfl,rfl⟩;rw[hy];go_wp2
    go_ret
    exact⟨by rw[HE.out];rfl,rfl⟩
   ·have hy':p y=false:=by simpa using hy
    have HE:Hid (∀j z,j<k+1→xs[j]? =some z→p z=false):=fun j z hj hz=>by
     by_cases e:j=k
     ·subst e;rw[HG.out] at hz;injection hz with hz;subst hz;exact hy'
     ·exact HR.out j z (by omega) hz
    go_wp2;refine(HP.out y).mono ?_;rintro e w' ⟨rfl,rfl⟩;rw[hy'];go_wp2
    go_round
    case rel=>exact⟨k+1,by omega,by go_num,HE⟩
    case measure=>simp[intOf];omega
  ·obtain rfl:k=n:=by omega
   have HE:Hid (idxF p xs= -1):=idxF_none p xs (fun z hz=>by
    obtain⟨j,hj,e⟩:=List.mem_iff_getElem.1 hz
    exact HR.out j z (by rw[HL.out] at hj;exact hj) (by rw[List.getElem?_eq_getElem hj,e]))
   go_wp2
   go_ret
   exact⟨by rw[HE.out];rfl,rfl⟩
theorem containsFuncC_any(F:Nat)(cp:Value)(eF:∀args w,(callFunc F args).run Tryz.prog w=.ok (.enter F args) w)(p:Int→Bool)(a:Option Addr)(n c:Nat)(xs:List Int)(w:World)(hp:∀x:Int,Calls Tryz.prog F #[.int .i64 x,cp] w fun e W'=>e=.returned (.bool (p x))∧w=W')(h:Ints w a n xs):
  Calls Tryz.prog 20 #[.slice a n c,.func (.func F) #[] #[cp]] w fun e w'=>e=.returned (.bool (xs.any p))∧w=w':=by
 have HA:=Lib.hid (idxF_any p xs)
 have hg:=idxF_ge p xs
 have HP:=Lib.hid hp
 have H:=Lib.hid h
 clear hp h
 go_enter Tryz.func20,Tryz.ntmps20
 go_wp2_with (go_at_call 31;refine(indexFuncC_any F cp eF p a n c xs w HP.out H.out).mono ?_;rintro e w' ⟨rfl,rfl⟩)
 go_ret
 exact⟨by rw[←HA.out];rfl,rfl⟩
theorem mapTI:Tryz.prog.underlying 51=some (.map 3 3):=Tryz.underlying51
theorem lookI{W:World}{B:Nat}{L:List Int}(h:VSet W B L)(y:Int):(Instr.lookup 51 (.map (some B)) (.int .i64 y) false).run Tryz.prog W=.ok (if y∈L then .int .i64 1 else .int .i64 0) W:=SetM.look h keyV mapTI (zero_intV W) y
theorem lookH{W:World}{B:Nat}{vs:List Int}(h:VHas W B fun y=>y∈vs)(y:Int):(Instr.lookup 51 (.map (some B)) (.int .i64 y) false).run Tryz.prog W=.ok (if y∈vs then .int .i64 1 else .int .i64 0) W:=by
 obtain⟨L,h1,h2⟩:=h
 rw[lookI h1]
 by_cases hy:y∈vs
 ·rw[if_pos hy,if_pos ((h2 y).2 hy)]
 ·rw[if_neg hy,if_neg fun c=>hy ((h2 y).1 c)]
theorem call_strange(args:Array Value)(w:World):(callFunc 18 args).run Tryz.prog w=.ok (.enter 18 args) w:=enters_of Tryz.func18 (by kernel_rfl) rfl args w
theorem strange_any(B M:Nat)(vs:List Int)(w:World)(h:VHas w B fun y=>y∈vs)(hm:w.cell? ⟨M,0,none⟩=some (.map (some B)))(x:Int):
  Calls Tryz.prog 18 #[.int .i64 x,.pointer (some ⟨M,0,none⟩)] w fun e w'=>e=.returned (.bool (!decide (x∈vs)))∧w=w':=by
 have hl:=lookH h x
 clear h
 by_cases hx:x∈vs
 ·rw[if_pos hx] at hl;have HX:=Lib.hid hx;clear hx
  go_enter Tryz.func18,Tryz.ntmps18
  go_wp2
  go_ret
  exact⟨by rw[decide_eq_true HX.out];rfl,rfl⟩
 ·rw[if_neg hx] at hl;have HX:=Lib.hid hx;clear hx
  go_enter Tryz.func18,Tryz.ntmps18
  go_wp2
  go_ret
  exact⟨by rw[decide_eq_false HX.out];rfl,rfl⟩
structure CRS(w:World)(g:Obj)(B:Nat)(p:Int→Prop)(W:World):Prop where
 gr:W.heap[w.heap.size]? =some g
 mp:VHas W B p
 bx:W.heap[B+1]? =some (.cells #[.map (some B)] 51 (0,0))
 b:Below w.heap.size w W
 lo:w.heap.size<B
section
variable {w:World} {g:Obj} {B:Nat} {p q:Int→Prop} {W W':World}
theorem CRS.ext(h:CRS w g B p W)(hb:Below W.heap.size W W'):CRS w g B p W':=⟨block_ext hb h.gr,h.mp.kept (hb.block B h.mp.lt),block_ext hb h.bx,ext_trans h.b hb,h.lo⟩
theorem CRS.turn(h:CRS w g B p W)(hq:VHas W' B q)(hg:W.grownBy W' (some B)):CRS w g B q W':=by
 have lo:=h.lo
 refine⟨(hg.block _ (lt_of_heap h.gr) fun e=>by injection e with e;omega).trans h.gr,hq,(hg.block _ (lt_of_heap h.bx) fun e=>by injection e with e;omega).trans h.bx,?_,h.lo⟩
 exact h.b.grown hg h.b.size fun k e=>by injection e with e;omega
theorem CRS.congr(h:CRS w g B p W)(e:∀y,p y↔q y):CRS w g B q W:=⟨h.gr,h.mp.congr e,h.bx,h.b,h.lo⟩
theorem CRS.cell(h:CRS w g B p W):W.cell? ⟨B+1,0,none⟩=some (.map (some B)):=by rw[cell_of_row _ _ _ _ _ _ h.bx];rfl
theorem CRS.cells(h:CRS w g B p W){k:Nat}(hk:w.heap.size≤k)(hk2:B+1<k)(u:Value)(o:Nat):CRS w g B p (W.setCell ⟨k,o,none⟩ u):=by
 have lo:=h.lo
 have hb:∀j,j≠k→(W.setCell ⟨k,o,none⟩ u).heap[j]? =W.heap[j]?:=fun j hj=>Below.heap_setCell _ _ _ _ (fun e=>hj e)
 exact⟨(hb _ (by omega)).trans h.gr,h.mp.kept (hb B (by omega)),(hb _ (by omega)).trans h.bx,h.b.setCell hk _,h.lo⟩
end
theorem cRight_any(va:Option Addr)(vn vc:Nat)(pa:Option Addr)(pn pc:Nat)(aa:Option Addr)(an ac:Nat)(vs:List Int)(ps:List Pr2)(l:List Int)(w:World)(hv:Ints w va vn vs)(h:PrS w pa pn ps)(ha:Ints w aa an l):
  Calls Tryz.prog 7 #[graphV va vn vc pa pn pc aa an ac] w fun e w'=>e=.returned (.bool (rightG vs ps l))∧Below w.heap.size w w':=by
 have H:=Lib.hid h
 have HV:=Lib.hid hv
 have HA:=Lib.hid ha
 have hn:=h.2.1
 have hvn:=hv.2.1
 have HL:=Lib.hid h.1
 have HLV:=Lib.hid hv.1
 clear h hv ha
 go_enter Tryz.func7,Tryz.ntmps7
 have hmm:= @run_makeMap Tryz.prog
 go_upto_region 2 with (fail)
 clear hmm
 obtain⟨W1,hW1⟩:∃z,z=((w.alloc (graphO va vn vc pa pn pc aa an ac)).alloc (.map #[] 0)).alloc (.cells #[.map (some (w.heap.size+1))] 51):=⟨_,rfl⟩
 rw[←hW1]
 have HC1:Hid (CRS w (graphO va vn vc pa pn pc aa an ac) (w.heap.size+1) (fun _=>False) W1):=by
  rw[hW1];refine⟨block_ext (ext_alloc _ _) (block_ext (ext_alloc _ _) (heap_alloc_new _ _)),?_,heap_at _ _ _ (by simp),ext_trans (ext_trans (ext_alloc _ _) (ext_alloc _ _)) (ext_alloc _ _),by omega⟩;have h1:VHas ((w.alloc (graphO va vn vc pa pn pc aa an ac)).alloc (.map #[] 0)) (w.heap.size+1) fun _=>False:=by
   have:=SetM.made encV decV oneV (w.alloc (graphO va vn vc pa pn pc aa an ac));rw[World.size_alloc] at this;exact⟨[],this,fun y=>by simp⟩
  exact h1.kept (Below.heap_alloc _ _ _ h1.lt)
 clear hW1
 obtain⟨B,hB⟩:∃B,B=w.heap.size+1:=⟨_,rfl⟩
 rw[←hB] at HC1⊢
 have HBE:=Lib.hid hB
 clear hB
 have v0:W1.cell? ⟨w.heap.size,0,none⟩=some (.slice va vn vc):=by rw[cell_of_row _ _ _ _ _ _ HC1.out.gr];rfl
 go_wp2
 go_loopw [5,14] (fun _ v14 wr=>∃k:Nat,v14=.int .i64 (k:Int)∧k≤vn∧Hid (CRS w (graphO va vn vc pa pn pc aa an ac) B (fun y=>y∈vs.take k) wr)) (fun _ v14 _=>vn-(intOf v14).toNat)
 case atStart=>exact⟨0,rfl,by omega,HC1.out.congr fun y=>by simp⟩
 case round=>
  obtain⟨k,rfl,hk,HC⟩:=hrel;clear HC1 v0;by_cases hlt:k<vn
  ·have hlt':(k:Int)<(vn:Int):=by omega
   obtain⟨b,o,rfl,hc,hw1,hw2⟩:=(HV.out.ext HC.out.b).2.2 k hlt;have hy:vs[k]? =some (vs.getD k 0):=by rw[List.getD_eq_getElem?_getD,List.getElem?_eq_getElem (by rw[HLV.out];exact hlt)];rfl
   have HT:Hid (∀y,y∈vs.take (k+1)↔y∈vs.take k∨y=vs.getD k 0):=fun y=>by rw[List.take_add_one,hy];simp
   clear hy;generalize vs.getD k 0=y at *;have m0:=HC.out.cell;obtain⟨L,hL,hm⟩:=HC.out.mp;have HLL:=Lib.hid hL;have HM:=Lib.hid hm;clear hL hm
   go_wp2_with ((with_reducible show wpList _ _ _ (⟨none,.mapUpdate _ _ _ _,_,_,_,_⟩ :: _) _ _);refine wpList_putM rfl _ _ _ rfl keyV mapTI HLL.out rfl y rfl rfl ?_;intro w2 L2 hs2 hm2 hg2 hz2)
   have HC2:Hid (CRS w (graphO (some ⟨b,o,none⟩) vn vc pa pn pc aa an ac) B (fun z=>z∈vs.take (k+1)) w2):=HC.out.turn ⟨L2,hs2,fun z=>((hm2 z).trans (or_congr_left (HM.out z))).trans (HT.out z).symm⟩ hg2;clear hs2 hm2 hg2 hz2 hc m0
   go_roundw
   case rel=>exact⟨k+1,by go_num,by omega,HC2⟩
   case measure=>simp[intOf];omega
  ·obtain rfl:k=vn:=by omega
   have hlt':¬(k:Int)<(k:Int):=by omega
   obtain⟨wi,rfl⟩:∃z:World,z=wr:=⟨_,rfl⟩
   have HCi:Hid (CRS w (graphO va k vc pa pn pc aa an ac) B (fun y=>y∈vs) wi):=HC.out.congr fun y=>by rw[List.take_of_length_le (by rw[HLV.out];exact Nat.le_refl _)]
   have hlb:B+1<wi.heap.size:=lt_of_heap HCi.out.bx;have HLB:=Lib.hid hlb;clear HC hlb;go_upto_region 8 with (fail)
   obtain⟨W7,hW7⟩:∃z,z=wi.alloc (prO 0 0):=⟨_,rfl⟩
   rw[←hW7];have hx7:Below wi.heap.size wi W7:=by rw[hW7];exact ext_alloc _ _
   have HC7:=Lib.hid (HCi.out.ext hx7);have HP7:Hid (W7.heap[wi.heap.size]? =some (prO (prevP ps 0).1 (prevP ps 0).2)):=by rw[hW7];exact heap_alloc_new _ _
   have HW0:Hid (w.heap.size≤wi.heap.size):=HCi.out.b.size;clear hW7 hx7 HCi;obtain⟨P,hP⟩:∃P,P=wi.heap.size:=⟨_,rfl⟩
   rw[←hP] at HP7 HLB HW0⊢;clear hP;have p1':W7.cell? ⟨w.heap.size,1,none⟩=some (.slice pa pn pc):=by rw[cell_of_row _ _ _ _ _ _ HC7.out.gr];rfl
   go_wp2
   go_loopw [8,25] (fun _ v25 wr=>∃j:Nat,v25=.int .i64 (j:Int)∧j≤pn∧Hid (CRS w (graphO va k vc pa pn pc aa an ac) B (fun y=>y∈vs) wr)∧Hid (wr.heap[P]? =some (prO (prevP ps j).1 (prevP ps j).2))∧Hid (∀i,i<j→pairK vs (prevP ps i) (ps.getD i (0,0))=true)) (fun _ v25 _=>pn-(intOf v25).toNat)
   case atStart=>exact⟨0,rfl,by omega,HC7,HP7,fun i hi=>absurd hi (by omega)⟩
   case round=>
    obtain⟨j,rfl,hj,HC,HPr,HR⟩:=hrel;clear HC7 HP7 p1';by_cases hlt:j<pn
    ·have hlt2:(j:Int)<(pn:Int):=by omega
     obtain⟨⟨p1,p2⟩,b,o,hr,rfl,c0,c1⟩:=prs_cells (H.out.ext csP_len HC.out.b) hlt;have HGD:Hid (ps.getD j (0,0)=(p1,p2)):=by rw[Hid,List.getD_eq_getElem?_getD,hr];rfl
     clear hr;have HF:Hid (¬pairK vs (prevP ps j) (p1,p2)=true→rightG vs ps l=false):=fun hn'=>by
      have:pairsG vs ps=false:=by rw[pairsG,List.all_eq_false];exact⟨j,List.mem_range.2 (by rw[HL.out];exact hlt),by rw[HGD.out];exact hn'⟩
      rw[rightG,this];rfl
     have HG1:Hid (pairK vs (prevP ps j) (p1,p2)=true→∀i,i<j+1→pairK vs (prevP ps i) (ps.getD i (0,0))=true):=fun hk1 i hi=>by
      by_cases e:i=j
      ·subst e;rw[HGD.out];exact hk1
      ·exact HR.out i (by omega)
     go_upto_region 11 with (fail)
     obtain⟨W9,hW9⟩:∃z,z=wr.alloc (prO p1 p2):=⟨_,rfl⟩
     rw[←hW9];have hx9:Below wr.heap.size wr W9:=by rw[hW9];exact ext_alloc _ _
     have HC9:=Lib.hid (HC.out.ext hx9);have HP9:=Lib.hid (block_ext hx9 HPr.out);have HR9:Hid (W9.heap[wr.heap.size]? =some (prO p1 p2)):=by rw[hW9];exact heap_alloc_new _ _
     obtain⟨R,hR⟩:∃R,R=wr.heap.size:=⟨_,rfl⟩
     rw[←hR] at HR9⊢;clear hW9 hx9 c0 c1 hR;have r0:W9.cell? ⟨R,0,none⟩=some (.int .i64 p1):=by rw[cell_of_row _ _ _ _ _ _ HR9.out];rfl
     have r1:W9.cell? ⟨R,1,none⟩=some (.int .i64 p2):=by rw[cell_of_row _ _ _ _ _ _ HR9.out];rfl
     have m0:=HC9.out.cell;have l0:W9.cell? ⟨P,0,none⟩=some (.int .i64 (prevP ps j).1):=by rw[cell_of_row _ _ _ _ _ _ HP9.out];rfl
     have l1:W9.cell? ⟨P,1,none⟩=some (.int .i64 (prevP ps j).2):=by rw[cell_of_row _ _ _ _ _ _ HP9.out];rfl
     have hk1:=lookH HC9.out.mp p1;have hk2:=lookH HC9.out.mp p2;by_cases h0:p2≤p1
     ·have e0:decide (p2≤p1)=true:=decide_eq_true h0;have HNF:=Lib.hid (HF.out (by simp[pairK];omega));go_wp2
      go_ret
      exact⟨by rw[HNF.out];rfl,HC9.out.b⟩
     ·have e0:decide (p2≤p1)=false:=decide_eq_false h0;by_cases h1:p1∈vs
      ·rw[if_pos h1] at hk1;by_cases h2:p2∈vs
       ·rw[if_pos h2] at hk2;cases h3:ltP (prevP ps j) (p1,p2) with
        |false=>
         have HNF:=Lib.hid (HF.out (by simp[pairK,h3]));have h4:0≤ordPr (prevP ps j) (p1,p2):=by unfold ltP at h3;simpa using h3
         have e4:decide (0≤ordPr (prevP ps j) (p1,p2))=true:=decide_eq_true h4;clear h1 h2 h3
         go_wp2_with (
          (go_at_call 17
           refine(cOrder_any (prevP ps j) (p1,p2) W9).mono ?_;rintro e W10 ⟨rfl,hb⟩;have HC10:=Lib.hid (HC9.out.ext hb);have HP10:=Lib.hid (block_ext hb HP9.out);have HR10:=Lib.hid (block_ext hb HR9.out);have r0:W10.cell? ⟨R,0,none⟩=some (.int .i64 p1):=(by rw[cell_of_row _ _ _ _ _ _ HR10.out];rfl)
           have r1:W10.cell? ⟨R,1,none⟩=some (.int .i64 p2):=(by rw[cell_of_row _ _ _ _ _ _ HR10.out];rfl)
           have l0:W10.cell? ⟨P,0,none⟩=some (.int .i64 (prevP ps j).1):=(by rw[cell_of_row _ _ _ _ _ _ HP10.out];rfl)
           have l1:W10.cell? ⟨P,1,none⟩=some (.int .i64 (prevP ps j).2):=(by rw[cell_of_row _ _ _ _ _ _ HP10.out];rfl)
           have f0:W10.frozen? ⟨P,0,none⟩=false:=frozen_of_row _ _ _ _ _ HP10.out;have f1:W10.frozen? ⟨P,1,none⟩=false:=frozen_of_row _ _ _ _ _ HP10.out;have hl10:=lt_of_heap HP10.out
           clear hb))
         go_ret
         exact⟨by rw[HNF.out];rfl,HC10.out.b⟩
        |true=>
         have HN:=Lib.hid (HG1.out (by simp[pairK,h1,h2,h3];omega));have h4:¬0≤ordPr (prevP ps j) (p1,p2):=by unfold ltP at h3;simpa using h3
         have e4:decide (0≤ordPr (prevP ps j) (p1,p2))=false:=decide_eq_false h4;clear h1 h2 h3
         go_wp2_with (
          (go_at_call 17
           refine(cOrder_any (prevP ps j) (p1,p2) W9).mono ?_;rintro e W10 ⟨rfl,hb⟩;have HC10:=Lib.hid (HC9.out.ext hb);have HP10:=Lib.hid (block_ext hb HP9.out);have HR10:=Lib.hid (block_ext hb HR9.out);have r0:W10.cell? ⟨R,0,none⟩=some (.int .i64 p1):=(by rw[cell_of_row _ _ _ _ _ _ HR10.out];rfl)
           have r1:W10.cell? ⟨R,1,none⟩=some (.int .i64 p2):=(by rw[cell_of_row _ _ _ _ _ _ HR10.out];rfl)
           have l0:W10.cell? ⟨P,0,none⟩=some (.int .i64 (prevP ps j).1):=(by rw[cell_of_row _ _ _ _ _ _ HP10.out];rfl)
           have l1:W10.cell? ⟨P,1,none⟩=some (.int .i64 (prevP ps j).2):=(by rw[cell_of_row _ _ _ _ _ _ HP10.out];rfl)
           have f0:W10.frozen? ⟨P,0,none⟩=false:=frozen_of_row _ _ _ _ _ HP10.out;have f1:W10.frozen? ⟨P,1,none⟩=false:=frozen_of_row _ _ _ _ _ HP10.out;have hl10:=lt_of_heap HP10.out
           clear hb))
         have HCn:Hid (CRS w (graphO va k vc (some ⟨b,o,none⟩) pn pc aa an ac) B (fun y=>y∈vs) ((W10.setCell ⟨P,0,none⟩ (.int .i64 p1)).setCell ⟨P,1,none⟩ (.int .i64 p2))):=(HC10.out.cells HW0.out HLB.out _ _).cells HW0.out HLB.out _ _;have HPn:Hid (((W10.setCell ⟨P,0,none⟩ (.int .i64 p1)).setCell ⟨P,1,none⟩ (.int .i64 p2)).heap[P]? =some (prO (prevP ps (j+1)).1 (prevP ps (j+1)).2)):=by
          have e:prevP ps (j+1)=(p1,p2):=by rw[←HGD.out];rfl
          rw[Hid,heap_setCell_same _ _ _ _ _ _ (heap_setCell_same _ _ _ _ _ _ HP10.out),e];rfl
         clear l0 l1 f0 f1 r0 r1 m0
         go_roundw
         case rel=>exact⟨j+1,by go_num,by omega,HCn,HPn,HN⟩
         case measure=>simp[intOf];omega
       ·rw[if_neg h2] at hk2;have HNF:=Lib.hid (HF.out (by simp[pairK,h2]));clear h1 h2;go_wp2
        go_ret
        exact⟨by rw[HNF.out];rfl,HC9.out.b⟩
      ·rw[if_neg h1] at hk1;have HNF:=Lib.hid (HF.out (by simp[pairK,h1]));by_cases h2:p2∈vs
       ·rw[if_pos h2] at hk2;clear h1 h2;go_wp2
        go_ret
        exact⟨by rw[HNF.out];rfl,HC9.out.b⟩
       ·rw[if_neg h2] at hk2;clear h1 h2;go_wp2
        go_ret
        exact⟨by rw[HNF.out];rfl,HC9.out.b⟩
    ·obtain rfl:j=pn:=by omega
     have hlt2:¬(j:Int)<(j:Int):=by omega
     have HPS:Hid (pairsG vs ps=true):=by
      rw[Hid,pairsG,List.all_eq_true];intro i hi;exact HR.out i (by have:=List.mem_range.1 hi;rwa [HL.out] at this)
     have HE:Hid (rightG vs ps l=(risG vs&&risG l&& !l.any fun v=> !decide (v∈vs))):=by rw[Hid,rightG,HPS.out,Bool.true_and]
     have g0:wr.cell? ⟨w.heap.size,0,none⟩=some (.slice va k vc):=by rw[cell_of_row _ _ _ _ _ _ HC.out.gr];rfl
     have g2:wr.cell? ⟨w.heap.size,2,none⟩=some (.slice aa an ac):=by rw[cell_of_row _ _ _ _ _ _ HC.out.gr];rfl
     have m0:=HC.out.cell;clear HPr;cases hrv:risG vs with
     |false=>
      go_wp2_with (
       (go_at_call 19
        refine(cRising_any va k vc vs wr (HV.out.ext HC.out.b)).mono ?_;rintro e w1 ⟨rfl,hb⟩;rw[hrv];have HB1:=Lib.hid (ext_trans HC.out.b hb)
        clear hb))
      go_ret
      exact⟨by rw[HE.out,hrv];rfl,HB1.out⟩
     |true=>
      cases hra:risG l with
      |false=>
       go_wp2_with (first
        |(go_at_call 19
          refine(cRising_any aa an ac l w1 (HA.out.ext HB1.out)).mono ?_;rintro e w2 ⟨rfl,hb⟩;rw[hra];have HB2:=Lib.hid (ext_trans HB1.out hb)
          clear hb)
        |(go_at_call 19
          refine(cRising_any va k vc vs wr (HV.out.ext HC.out.b)).mono ?_;rintro e w1 ⟨rfl,hb⟩;rw[hrv];have g3:=cell_ext hb g2;have HB1:=Lib.hid (ext_trans HC.out.b hb)
          clear hb))
       go_ret
       exact⟨by rw[HE.out,hrv,hra];rfl,HB2.out⟩
      |true=>
       go_wp2_with (first
        |(go_at_call 20
          refine(containsFuncC_any 18 (.pointer (some ⟨B+1,0,none⟩)) call_strange (fun v=> !decide (v∈vs)) aa an ac l w2 (fun x=>strange_any B (B+1) vs w2 HC2.out.mp m2 x) (HA.out.ext HB2.out)).mono ?_
          rintro e w3 ⟨rfl,rfl⟩)
        |(go_at_call 19
          refine(cRising_any aa an ac l w1 (HA.out.ext HB1.out)).mono ?_;rintro e w2 ⟨rfl,hb⟩;rw[hra];have g4:=cell_ext hb g3;have HB2:=Lib.hid (ext_trans HB1.out hb);have HC2:=Lib.hid (HC1'.out.ext hb);have m2:=HC2.out.cell
          clear hb)
        |(go_at_call 19
          refine(cRising_any va k vc vs wr (HV.out.ext HC.out.b)).mono ?_;rintro e w1 ⟨rfl,hb⟩;rw[hrv];have g3:=cell_ext hb g2;have HB1:=Lib.hid (ext_trans HC.out.b hb);have HC1':=Lib.hid (HC.out.ext hb)
          clear hb))
       go_ret
       exact⟨by rw[HE.out,hrv,hra];rfl,HB2.out⟩
end

section
open Go.RowKit Go.Shelf
attribute [local go_sem] Oper.semAt_some wide_fn wide_depth wide_fnR wide_depthR
theorem sm_near:nearG [((1:Int),(2:Int))] 2 1=true:=by kernel_rfl
theorem sm_right:rightG [1,2] [((1:Int),(2:Int))] []=true:=by kernel_rfl
theorem awake20_any(w:World)(hT:Tab w):Calls Tryz.prog 4 #[] w fun e w'=>e=.returned (.bool true)∧Below w.heap.size w w':=by
 have HTB:=Lib.hid hT
 clear hT
 go_enter Tryz.func4,Tryz.ntmps4
 go_upto_region 2 with (
  (go_at_call 13
   refine(small20_any w).mono ?_;rintro e w1 ⟨g,ba,bc,ta,tc,g5,rfl,hbl,htl,hb1⟩;have HBL1:=Lib.hid hbl;have HTL1:=Lib.hid htl;have HB1:=Lib.hid hb1
   clear hbl htl hb1))
 obtain⟨w2,hw2⟩:∃w2,w2=w1.alloc (funcO none 0 0 ba 1 bc):=⟨_,rfl⟩
 rw[←hw2]
 have hx2:Below w1.heap.size w1 w2:=by rw[hw2];exact ext_alloc _ _
 have HF2:Hid (w2.heap[w1.heap.size]? =some (funcO none 0 0 ba 1 bc)):=by rw[hw2];exact heap_alloc_new _ _
 have HBL2:=Lib.hid (HBL1.out.ext hx2)
 have HTL2:=Lib.hid (HTL1.out.ext hx2)
 have HB2:=Lib.hid (ext_trans HB1.out hx2)
 clear hw2 hx2 HBL1 HTL1 HB1
 generalize w1.heap.size=F at*
 have HPS:∀W:World,Ints W none 0 []:=fun W=>⟨rfl,by omega,fun k hk=>absurd hk (by omega)⟩
 go_upto_region 3 with (first
  |(refine wpList_load_row (o:=⟨some 10,.load 40 _,_,_,_,_⟩) rfl 40 _ rfl F rfl 40 _ (0,0) _ HF2.out Tryz.underlying40 rfl size_func ?_)
  |(go_at_call 14
    refine(cOfOne_any none 0 0 [] ba 1 bc (smBs g) ta 1 tc (smTiles g5) _ 0 (1,2) w2 (HPS w2) HBL2.out HTL2.out (by show(1:Nat)≤1000000;omega) (HTB.out.ext HB2.out) (sm_of g g5).1 (sm_of g g5).2.2.2 rfl rfl (by show 0<1;omega) (by show(4:Nat)≤17592186044416;omega) (fun z=>(by rw[sm_mesh];simp))).mono ?_;rw[(sm_of g g5).2.1,(sm_of g g5).2.2.1];rintro e w3 ⟨va,vn,vc,pa,pn,pc,aa,an,ac,rfl,hv,hp,ha,hb3⟩;have hvn:vn=2:=hv.1.symm;have hpn:pn=1:=hp.1.symm;have han:an=0:=ha.1.symm;subst hvn hpn han;have HV:=Lib.hid hv;have HP:=Lib.hid hp;have HA:=Lib.hid ha;have HB3:=Lib.hid (ext_trans HB2.out hb3)
    clear hv hp ha hb3))
 obtain⟨w4,hw4⟩:∃w4,w4=w3.alloc (graphO va 2 vc pa 1 pc aa 0 ac):=⟨_,rfl⟩
 rw[←hw4]
 have hx4:Below w3.heap.size w3 w4:=by rw[hw4];exact ext_alloc _ _
 have h4:w4.heap[w3.heap.size]? =some (graphO va 2 vc pa 1 pc aa 0 ac):=by rw[hw4];exact heap_alloc_new _ _
 have HV4:=Lib.hid (HV.out.ext hx4)
 have HP4:=Lib.hid (HP.out.ext csP_len hx4)
 have HA4:=Lib.hid (HA.out.ext hx4)
 have HB4:=Lib.hid (ext_trans HB3.out hx4)
 clear hw4 hx4 HV HP HA HB3 HBL2 HTL2 HF2 HB2
 generalize w3.heap.size=Q at*
 obtain⟨w5,hw5⟩:∃w5,w5=w4.alloc (.cells #[.int .i64 1,.int .i64 2] 3):=⟨_,rfl⟩
 have HW5:=Lib.hid hw5
 have hx5:Below w4.heap.size w4 w5:=by rw[hw5];exact ext_alloc _ _
 have HI5:Hid (Ints w5 (some ⟨w4.heap.size,0,none⟩) 2 [1,2]):=by rw[Hid,hw5];exact intsRow (xs:= [1,2]) (heap_alloc_new _ _) rfl (i64r [1,2]) (by simp)
 have HX5:=Lib.hid hx5
 have HG4:=Lib.hid h4
 have y0:w4.cell? ⟨Q,0,none⟩=some (.slice va 2 vc):=by rw[cell_of_row _ _ _ _ _ _ h4];rfl
 have hl4:=lt_of_heap h4
 clear hw5 hx5 h4
 go_wp2_with (first
  |(go_at_call 7
    refine(cRight_any va 2 vc pa 1 pc aa 0 ac [1,2] [(1,2)] [] w7 (HV4.out.ext HX7.out) (HP4.out.ext csP_len HX7.out) (HA4.out.ext HX7.out)).mono ?_;rw[sm_right];rintro e w8 ⟨rfl,hb8⟩;have h8:=block_ext hb8 HG7.out;have z2:w8.cell? ⟨Q,2,none⟩=some (.slice aa 0 ac):=(by rw[cell_of_row _ _ _ _ _ _ h8];rfl)
    have HX8:=Lib.hid (ext_trans HX7.out hb8)
    clear hb8 h8)
  |(go_at_call 9
    refine(cNear_any va 2 vc pa 1 pc aa 0 ac [(1,2)] 2 1 w6 (HP4.out.ext csP_len HX6.out)).mono ?_;rw[sm_near];rintro e w7 ⟨rfl,hb7⟩;have h7:=block_ext hb7 HG6.out;have HG7:=Lib.hid h7;have x0:w7.cell? ⟨Q,0,none⟩=some (.slice va 2 vc):=(by rw[cell_of_row _ _ _ _ _ _ h7];rfl)
    have x1:w7.cell? ⟨Q,1,none⟩=some (.slice pa 1 pc):=(by rw[cell_of_row _ _ _ _ _ _ h7];rfl)
    have x2:w7.cell? ⟨Q,2,none⟩=some (.slice aa 0 ac):=(by rw[cell_of_row _ _ _ _ _ _ h7];rfl)
    have HX7:=Lib.hid (ext_trans HX6.out hb7)
    clear hb7 h7)
  |(go_at_call 15
    rw[←HW5.out];refine(sameInts_any va (some ⟨w4.heap.size,0,none⟩) 2 2 vc 2 [1,2] [1,2] w5 (HV4.out.ext HX5.out) HI5.out).mono ?_;rintro e w' ⟨he,q5,hw'⟩;rw[decide_eq_true (rfl:([1,2]:List Int)= [1,2])] at he;subst he;obtain⟨w6,h7⟩:∃z,z=w':=⟨_,rfl⟩
    rw[←h7];have hb6:Below w4.heap.size w4 w6:=(by rw[h7,hw'];exact ext_drewN HX5.out _)
    have h6:=block_ext hb6 HG4.out;have HG6:=Lib.hid h6;have y0:w6.cell? ⟨Q,0,none⟩=some (.slice va 2 vc):=(by rw[cell_of_row _ _ _ _ _ _ h6];rfl)
    have y1:w6.cell? ⟨Q,1,none⟩=some (.slice pa 1 pc):=(by rw[cell_of_row _ _ _ _ _ _ h6];rfl)
    have y2:w6.cell? ⟨Q,2,none⟩=some (.slice aa 0 ac):=(by rw[cell_of_row _ _ _ _ _ _ h6];rfl)
    have HX6:=Lib.hid hb6
    clear hb6 h6 h7 hw'))
 go_ret
 exact⟨rfl,ext_trans HB4.out HX8.out⟩
end

section
open Go.RowKit Go.Shelf
attribute [local go_sem] Oper.semAt_some wide_fn wide_depth wide_fnR wide_depthR
theorem has20_any(a:Option Addr)(n c:Nat)(xs:List Int)(x:Int)(w:World)(h:Ints w a n xs):Calls Tryz.prog 21 #[.slice a n c,.int .i64 x] w fun e w'=>e=.returned (.bool (decide (x∈xs)))∧w=w':=by
 have H:=Lib.hid h
 have HL:=Lib.hid h.1
 have hn:=h.2.1
 clear h
 go_enter Tryz.func21,Tryz.ntmps21
 go_wp2
 go_loopw [5] (fun i wr=>∃k:Nat,i=.int .i64 k∧k≤n∧wr=w∧Hid (∀j y,j<k→xs[j]? =some y→y≠x)) (fun i _=>n-(intOf i).toNat)
 case atStart=>exact⟨0,rfl,by omega,rfl,fun j y hj=>absurd hj (by omega)⟩
 case round=>
  obtain⟨k,rfl,hk,rfl,HM⟩:=hrel;by_cases hlt:k<n
  ·obtain⟨b,o,rfl,hc,_⟩:=H.out.2.2 k hlt;have hkx:k<xs.length:=by rw[HL.out];exact hlt
   obtain⟨y,hy⟩:∃y,xs[k]? =some y:=⟨xs[k],List.getElem?_eq_getElem hkx⟩
   have hgd:xs.getD k 0=y:=by rw[List.getD_eq_getElem?_getD,hy];rfl
   rw[hgd] at hc;have HY:=Lib.hid hy;have hlt':(k:Int)<(n:Int):=by omega
   clear hy hgd;by_cases e:y=x
   ·have HE:Hid (decide (x∈xs)=true):=by rw[Hid,decide_eq_true_eq,←e];exact List.mem_of_getElem? HY.out
    have b0:(y==x)=true:=by simpa using e
    clear e;go_wp2
    go_ret
    exact⟨by rw[HE.out];rfl,rfl⟩
   ·have b0:(y==x)=false:=by simpa using e
    have HM2:Hid (∀j z,j<k+1→xs[j]? =some z→z≠x):=fun j z hj hz=>by
     by_cases e2:j=k
     ·subst e2;rw[HY.out] at hz;cases hz;exact e
     ·exact HM.out j z (by omega) hz
    clear e;go_wp2
    go_roundw
    case rel=>exact⟨k+1,by go_num,by omega,trivial,HM2⟩
    case measure=>simp[intOf];omega
  ·have HE:Hid (decide (x∈xs)=false):=by
    rw[Hid,decide_eq_false_iff_not];intro hm;obtain⟨j,hj,e⟩:=List.mem_iff_getElem.1 hm;exact HM.out j x (by have:=HL.out;omega) (by rw[List.getElem?_eq_getElem hj,e]) rfl
   have hlt':¬(k:Int)<(n:Int):=by omega
   go_wp2
   go_ret
   exact⟨by rw[HE.out];rfl,rfl⟩
theorem rising20_any(a:Option Addr)(n c:Nat)(l:List Int)(w:World)(h:Ints w a n l):
  Calls Tryz.prog 22 #[.slice a n c] w fun e w'=>e=.returned (.bool (risR20 l))∧Below w.heap.size w w':=by
 have H:=Lib.hid h
 have hn:=h.2.1
 have HL:=Lib.hid h.1
 clear h
 go_enter Tryz.func22,Tryz.ntmps22
 go_wp2
 go_loopw [3] (fun v3 wr=>∃k:Nat,v3=.int .i64 (k:Int)∧k≤n∧Hid (∀j,j<k→risK2 l j=true)∧Hid (Below w.heap.size w wr)) (fun v3 _=>n-(intOf v3).toNat)
 case atStart=>exact⟨0,rfl,by omega,fun j hj=>absurd hj (by omega),Below.refl _ _⟩
 case round=>
  obtain⟨k,rfl,hk,HR,HB⟩:=hrel;by_cases hlt:k<n
  ·have hlt':(k:Int)<(n:Int):=by omega
   obtain⟨b,o,rfl,hc,hw1,hw2⟩:=(H.out.ext HB.out).2.2 k hlt;obtain⟨x,hx⟩:∃x,x=l.getD k 0:=⟨_,rfl⟩
   rw[←hx] at hc hw1 hw2;have HX:=Lib.hid hx;clear hx;have HF:Hid (¬risK2 l k=true→risR20 l=false):=fun hn'=>by
    rw[risR20,List.all_eq_false];exact⟨k,List.mem_range.2 (by rw[HL.out];exact hlt),hn'⟩
   have HG:Hid (risK2 l k=true→∀j,j<k+1→risK2 l j=true):=fun hk1 j hj=>by
    by_cases e:j=k
    ·subst e;exact hk1
    ·exact HR.out j (by omega)
   by_cases h1:x<1
   ·have e1:decide (x<1)=true:=decide_eq_true h1;go_wp2
    go_quiet (fail)
    go_wp2
    go_ret
    exact⟨by rw[HF.out (by rw[risK2_iff,←HX.out];omega)];rfl,ext_drewN HB.out _⟩
   ·have e1:decide (x<1)=false:=decide_eq_false h1;by_cases h2:200<x
    ·have e2:decide (200<x)=true:=decide_eq_true h2;go_wp2
     go_quiet (fail)
     go_wp2
     go_ret
     exact⟨by rw[HF.out (by rw[risK2_iff,←HX.out];omega)];rfl,ext_drewN HB.out _⟩
    ·have e2:decide (200<x)=false:=decide_eq_false h2;by_cases h0:k=0
     ·have hk0:¬(0:Int)<(k:Int):=by omega
      have e3:decide ((0:Int)<(k:Int))=false:=decide_eq_false hk0;have hk9:¬0<k:=by omega
      have e9:decide (0<k)=false:=decide_eq_false hk9;have HG1:=Lib.hid (HG.out (by rw[risK2_iff,←HX.out];omega));clear h0;go_wp2
      go_quiet (fail)
      go_wp2
      go_roundw
      case rel=>exact⟨k+1,by go_num,by omega,HG1,ext_drewN HB.out _⟩
      case measure=>simp[intOf];omega
     ·have hk0:(0:Int)<(k:Int):=by omega
      have e3:decide ((0:Int)<(k:Int))=true:=decide_eq_true hk0;have hk9:0<k:=by omega
      have e9:decide (0<k)=true:=decide_eq_true hk9;obtain⟨b',o',e',hc',hv1,hv2⟩:=(H.out.ext HB.out).2.2 (k-1) (by omega);injection e' with e';injection e' with eb eo _;subst eb eo;obtain⟨p,hp⟩:∃p,p=l.getD (k-1) 0:=⟨_,rfl⟩
      rw[←hp] at hc' hv1 hv2;have HP:=Lib.hid hp;clear hp;have hi1:((k:Int)-1).toNat=k-1:=by omega
      have hi2:(0:Int)≤(k:Int)-1:=by omega
      have hi3:(k:Int)-1<(n:Int):=by omega
      by_cases h3:x≤p
      ·have e4:decide (x≤p)=true:=decide_eq_true h3;go_wp2
       go_quiet (fail)
       go_wp2
       go_ret
       exact⟨by rw[HF.out (by rw[risK2_iff,←HX.out,←HP.out];omega)];rfl,ext_drewN HB.out _⟩
      ·have e4:decide (x≤p)=false:=decide_eq_false h3;have HG1:=Lib.hid (HG.out (by rw[risK2_iff,←HX.out,←HP.out];omega));go_wp2
       go_quiet (fail)
       go_wp2
       go_roundw
       case rel=>exact⟨k+1,by go_num,by omega,HG1,ext_drewN HB.out _⟩
       case measure=>simp[intOf];omega
  ·obtain rfl:k=n:=by omega
   have hlt':¬(k:Int)<(k:Int):=by omega
   have HF:Hid (risR20 l=true):=by
    rw[Hid,risR20,List.all_eq_true];intro j hj;exact HR.out j (by have:=List.mem_range.1 hj;rwa [HL.out] at this)
   go_wp2
   go_ret
   exact⟨by rw[HF.out];rfl,HB.out⟩
end
end Go.Proofs.YtnmkjliioogbgaaGreatDoor
