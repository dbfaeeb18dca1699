/-
 slices.ContainsFunc of instructions,of blocks;ir.long,whole.
-/
import Derived.Test.YthgebcfohnlhlaaGreatDoorZed
import Derived.Test.YthgebcfohnlhlaaGreatDoorTI
import Derived.Test.YthgebcfohnlhlaaGreatDoorSB
import Derived.Test.YthgebcfohnlhlaaGreatDoorSortI
import Derived.Test.YthgebcfohnlhlaaGreatDoorPA
import Derived.BigQuiet
namespace Go.Proofs.YthgebcfohnlhlaaGreatDoor
set_option linter.unusedSimpArgs false
set_option linter.unusedVariables false
set_option linter.unusedSectionVars false
set_option maxRecDepth 100000
set_option maxHeartbeats 40000000
section
open Go.RowKit
theorem indexIns_any(F:Nat)(caps:Array Value)(eF:∀args w,(callFunc F args).run Tryz.prog w=.ok (.enter F args) w)(p:InsR→Bool)(a:Option Addr)(n c:Nat)(rs:List InsR)(w:World)
  (hp:∀(r:InsR) (W:World),r∈rs→Below w.heap.size w W→Calls Tryz.prog F (#[insVR r]++caps) W fun e W'=>e=.returned (.bool (p r))∧Below W.heap.size W W') (h:InsS w a n rs):
  Calls Tryz.prog 238 #[.slice a n c,.func (.func F) #[] caps] w fun e w'=>e=.returned (.int .i64 (idxF p rs))∧Below w.heap.size w w':=by
 have HL:=Lib.hid h.1.1
 have hn:=h.1.2.1
 have H:=Lib.hid h
 have HP:=Lib.hid hp
 clear h hp
 go_enter Tryz.func238,Tryz.ntmps238
 go_wp2
 go_loopw [5,8] (fun _ i wr=>∃(k:Nat),k≤n∧i=.int .i64 k∧Hid (∀j y,j<k→rs[j]? =some y→p y=false)∧Hid (Below w.heap.size w wr)) (fun _ i _=>n-(intOf i).toNat)
 case atStart=>exact⟨0,by omega,rfl,fun j y hj=>absurd hj (by omega),Below.refl _ _⟩
 case round=>
  obtain⟨k,hk,rfl,HR,HB⟩:=hrel;by_cases hlt:k<n
  ·obtain⟨r,b,o,hr,hok,rfl,c0,c1,c2,c3,c4,c5,c6,c7⟩:=(H.out.ext HB.out).cells hlt;have HG:=Lib.hid hr;have HM:=Lib.hid (List.mem_of_getElem? hr);clear hr hok;by_cases hy:p r=true
   ·have HE:Hid (idxF p rs=k):=idxF_found p rs k r HG.out hy HR.out;go_wp2;refine(HP.out r wr HM.out HB.out).mono ?_;rintro e w' ⟨rfl,hb'⟩;have HB':=Lib.hid (ext_trans HB.out hb');clear hb';rw[hy];go_wp2
    go_ret
    exact⟨by rw[HE.out];rfl,HB'.out⟩
   ·have hy':p r=false:=by simpa using hy
    have HE:Hid (∀j z,j<k+1→rs[j]? =some z→p z=false):=fun j z hj hz=>by
     by_cases e:j=k
     ·subst e;rw[HG.out] at hz;injection hz with hz;subst hz;exact hy'
     ·exact HR.out j z (by omega) hz
    go_wp2;refine(HP.out r wr HM.out HB.out).mono ?_;rintro e w' ⟨rfl,hb'⟩;have HB':=Lib.hid (ext_trans HB.out hb');clear hb';rw[hy'];go_wp2
    go_roundw
    case rel=>exact⟨k+1,by omega,by go_num,HE,HB'⟩
    case measure=>simp[intOf];omega
  ·obtain rfl:k=n:=by omega
   have HE:Hid (idxF p rs= -1):=idxF_none p rs (fun z hz=>by
    obtain⟨j,hj,e⟩:=List.mem_iff_getElem.1 hz
    exact HR.out j z (by rw[HL.out] at hj;exact hj) (by rw[List.getElem?_eq_getElem hj,e]))
   go_wp2
   go_ret
   exact⟨by rw[HE.out];rfl,HB.out⟩
theorem containsIns_any(F:Nat)(caps:Array Value)(eF:∀args w,(callFunc F args).run Tryz.prog w=.ok (.enter F args) w)(p:InsR→Bool)(a:Option Addr)(n c:Nat)(rs:List InsR)(w:World)
  (hp:∀(r:InsR) (W:World),r∈rs→Below w.heap.size w W→Calls Tryz.prog F (#[insVR r]++caps) W fun e W'=>e=.returned (.bool (p r))∧Below W.heap.size W W') (h:InsS w a n rs):
  Calls Tryz.prog 159 #[.slice a n c,.func (.func F) #[] caps] w fun e w'=>e=.returned (.bool (rs.any p))∧Below w.heap.size w w':=by
 have HA:=Lib.hid (idxF_any p rs)
 have hg:=idxF_ge p rs
 have HP:=Lib.hid hp
 have H:=Lib.hid h
 clear hp h
 go_enter Tryz.func159,Tryz.ntmps159
 go_wp2_with (go_at_call 238;refine(indexIns_any F caps eF p a n c rs w HP.out H.out).mono ?_;rintro e w' ⟨rfl,hb'⟩;have HB':=Lib.hid hb';clear hb')
 go_ret
 exact⟨by rw[←HA.out];rfl,HB'.out⟩
theorem indexBlk_any(F:Nat)(caps:Array Value)(eF:∀args w,(callFunc F args).run Tryz.prog w=.ok (.enter F args) w)(p:BlkH→Bool)(a:Option Addr)(n c:Nat)(rs:List BlkH)(w:World)
  (hp:∀(r:BlkH) (W:World),r∈rs→Below w.heap.size w W→Calls Tryz.prog F (#[blkV r]++caps) W fun e W'=>e=.returned (.bool (p r))∧Below W.heap.size W W') (h:BlksOK w a n rs):
  Calls Tryz.prog 235 #[.slice a n c,.func (.func F) #[] caps] w fun e w'=>e=.returned (.int .i64 (idxF p rs))∧Below w.heap.size w w':=by
 have HL:=Lib.hid h.1.1
 have hn:=h.1.2.1
 have H:=Lib.hid h
 have HP:=Lib.hid hp
 clear h hp
 go_enter Tryz.func235,Tryz.ntmps235
 go_wp2
 go_loopw [5,8] (fun _ i wr=>∃(k:Nat),k≤n∧i=.int .i64 k∧Hid (∀j y,j<k→rs[j]? =some y→p y=false)∧Hid (Below w.heap.size w wr)) (fun _ i _=>n-(intOf i).toNat)
 case atStart=>exact⟨0,by omega,rfl,fun j y hj=>absurd hj (by omega),Below.refl _ _⟩
 case round=>
  obtain⟨k,hk,rfl,HR,HB⟩:=hrel;by_cases hlt:k<n
  ·obtain⟨r,b,o,hr,hok,rfl,c0,c1,c2,c3,c4⟩:=(H.out.ext HB.out).cells hlt;have HG:=Lib.hid hr;have HM:=Lib.hid (List.mem_of_getElem? hr);clear hr hok;by_cases hy:p r=true
   ·have HE:Hid (idxF p rs=k):=idxF_found p rs k r HG.out hy HR.out;go_wp2;refine(HP.out r wr HM.out HB.out).mono ?_;rintro e w' ⟨rfl,hb'⟩;have HB':=Lib.hid (ext_trans HB.out hb');clear hb';rw[hy];go_wp2
    go_ret
    exact⟨by rw[HE.out];rfl,HB'.out⟩
   ·have hy':p r=false:=by simpa using hy
    have HE:Hid (∀j z,j<k+1→rs[j]? =some z→p z=false):=fun j z hj hz=>by
     by_cases e:j=k
     ·subst e;rw[HG.out] at hz;injection hz with hz;subst hz;exact hy'
     ·exact HR.out j z (by omega) hz
    go_wp2;refine(HP.out r wr HM.out HB.out).mono ?_;rintro e w' ⟨rfl,hb'⟩;have HB':=Lib.hid (ext_trans HB.out hb');clear hb';rw[hy'];go_wp2
    go_roundw
    case rel=>exact⟨k+1,by omega,by go_num,HE,HB'⟩
    case measure=>simp[intOf];omega
  ·obtain rfl:k=n:=by omega
   have HE:Hid (idxF p rs= -1):=idxF_none p rs (fun z hz=>by
    obtain⟨j,hj,e⟩:=List.mem_iff_getElem.1 hz
    exact HR.out j z (by rw[HL.out] at hj;exact hj) (by rw[List.getElem?_eq_getElem hj,e]))
   go_wp2
   go_ret
   exact⟨by rw[HE.out];rfl,HB.out⟩
theorem containsBlk_any(F:Nat)(caps:Array Value)(eF:∀args w,(callFunc F args).run Tryz.prog w=.ok (.enter F args) w)(p:BlkH→Bool)(a:Option Addr)(n c:Nat)(rs:List BlkH)(w:World)
  (hp:∀(r:BlkH) (W:World),r∈rs→Below w.heap.size w W→Calls Tryz.prog F (#[blkV r]++caps) W fun e W'=>e=.returned (.bool (p r))∧Below W.heap.size W W') (h:BlksOK w a n rs):
  Calls Tryz.prog 155 #[.slice a n c,.func (.func F) #[] caps] w fun e w'=>e=.returned (.bool (rs.any p))∧Below w.heap.size w w':=by
 have HA:=Lib.hid (idxF_any p rs)
 have hg:=idxF_ge p rs
 have HP:=Lib.hid hp
 have H:=Lib.hid h
 clear hp h
 go_enter Tryz.func155,Tryz.ntmps155
 go_wp2_with (go_at_call 235;refine(indexBlk_any F caps eF p a n c rs w HP.out H.out).mono ?_;rintro e w' ⟨rfl,hb'⟩;have HB':=Lib.hid hb';clear hb')
 go_ret
 exact⟨by rw[←HA.out];rfl,HB'.out⟩
theorem long1_any(b:BlkH)(w:World):Calls Tryz.prog 156 (#[blkV b]++ #[]) w fun e w'=>e=.returned (.bool (decide (64<b.n)))∧Below w.heap.size w w':=by
 show Calls Tryz.prog 156 #[blkV b] w _
 have HE:Hid (decide (64<b.n)=decide ((64:Int)<(b.n:Int))):=by rw[Hid,decide_eq_decide];omega
 go_enter Tryz.func156,Tryz.ntmps156
 go_wp2
 go_ret
 exact⟨by rw[HE.out];rfl,ext_alloc _ _⟩
theorem call_long1(args:Array Value)(w:World):(callFunc 156 args).run Tryz.prog w=.ok (.enter 156 args) w:=enters_of Tryz.func156 (by kernel_rfl) rfl args w
theorem whole1_any(r:InsR)(w:World)(h:InsOK w r):Calls Tryz.prog 160 (#[insVR r]++ #[]) w fun e w'=>e=.returned (.bool (!isInsB r.d))∧Below w.heap.size w w':=by
 show Calls Tryz.prog 160 #[insVR r] w _
 have HC:=Lib.hid (isIns_any r.d r.aa r.na r.ca (w.alloc (insO r.d r.aa r.na r.ca)) (h.1.ext (ext_alloc _ _)) h.2.2.2.2.1 h.2.2.2.2.2.1 h.2.2.2.2.2.2.1 h.2.2.2.2.2.2.2.1)
 clear h
 go_enter Tryz.func160,Tryz.ntmps160
 go_wp2_with (
  (go_at_call 161
   refine HC.out.mono ?_;rintro e w1 ⟨rfl,hb1⟩;have HB1:=Lib.hid (ext_trans (ext_alloc w _) hb1)
   clear hb1))
 go_ret
 exact⟨rfl,HB1.out⟩
theorem call_whole1(args:Array Value)(w:World):(callFunc 160 args).run Tryz.prog w=.ok (.enter 160 args) w:=enters_of Tryz.func160 (by kernel_rfl) rfl args w
def longB(pn bn:Nat)(bs:List BlkH):Bool:=decide (bn=0)||decide (200<bn)||decide (8<pn)||bs.any fun b=>decide (64<b.n)
theorem long_any(pa:Option Addr)(pn pc:Nat)(ba:Option Addr)(bn bc:Nat)(bs:List BlkH)(w:World)(h:BlksOK w ba bn bs):
  Calls Tryz.prog 68 #[funcV pa pn pc ba bn bc] w fun e w'=>e=.returned (.bool (longB pn bn bs))∧Below w.heap.size w w':=by
 have HC:=Lib.hid (fun W (hb:Below w.heap.size w W)=>containsBlk_any 156 #[] call_long1 (fun b=>decide (64<b.n)) ba bn bc bs W (fun r W' _ _=>long1_any r W') (h.ext hb))
 clear h
 by_cases h0:bn=0
 ·have HE:Hid (longB pn bn bs=true):=by rw[Hid,longB,h0];simp
  subst h0
  go_enter Tryz.func68,Tryz.ntmps68
  go_wp2
  go_ret
  exact⟨by rw[HE.out];rfl,ext_alloc _ _⟩
 ·have b0:((bn:Int)==0)=false:=by simpa using h0
  by_cases h1:200<bn
  ·have HE:Hid (longB pn bn bs=true):=by rw[Hid,longB];simp[h1]
   have h1':(200:Int)<(bn:Int):=by omega
   clear h0 h1
   go_enter Tryz.func68,Tryz.ntmps68
   go_wp2
   go_ret
   exact⟨by rw[HE.out];rfl,ext_alloc _ _⟩
  ·have h1':¬(200:Int)<(bn:Int):=by omega
   by_cases h2:8<pn
   ·have HE:Hid (longB pn bn bs=true):=by rw[Hid,longB];simp[h2]
    have h2':(8:Int)<(pn:Int):=by omega
    clear h0 h1 h2
    go_enter Tryz.func68,Tryz.ntmps68
    go_wp2
    go_ret
    exact⟨by rw[HE.out];rfl,ext_alloc _ _⟩
   ·have h2':¬(8:Int)<(pn:Int):=by omega
    have HE:Hid (longB pn bn bs=bs.any fun b=>decide (64<b.n)):=by rw[Hid,longB];simp[h0,h1,h2]
    clear h0 h1 h2
    go_enter Tryz.func68,Tryz.ntmps68
    go_wp2_with (
     (go_at_call 155
      refine(HC.out _ (ext_alloc w _)).mono ?_;rintro e w1 ⟨rfl,hb1⟩;have HB1:=Lib.hid (ext_trans (ext_alloc w _) hb1)
      clear hb1))
    go_ret
    exact⟨by rw[HE.out];rfl,HB1.out⟩
end

section
open Go.RowKit
theorem size_vset:(Tryz.prog.info? 193).map (·.size)=some 201:=by kernel_rfl
theorem zero_vset:Tryz.zeroCells193=setV fun _=>false:=by kernel_rfl
abbrev vsO(f:Nat→Bool):Obj:=.cells (setV f) 193
theorem vsO_ext{f g:Nat→Bool}(h:∀k,k<201→f k=g k):vsO f=vsO g:=by rw[vsO,vsO,setV_ext h]
theorem load_vset{W:World}{g:Nat}{f:Nat→Bool}(hg:W.heap[g]? =some (vsO f)):(loadVar 193 ⟨g,0,none⟩).run Tryz.prog W=.ok (.agg (setV f)) W:=
 run_loadVar_row (P:=Tryz.prog) W g 193 193 _ (0,0) _ hg Tryz.underlying193 rfl (by rw[setV_size];exact size_vset)
theorem vset_put{W:World}{g:Nat}{f h:Nat→Bool}(hg:W.heap[g]? =some (vsO f))(j:Nat)(b:Bool)(e:∀k,k<201→(if k=j then b else f k)=h k):(W.setCell ⟨g,j,none⟩ (.bool b)).heap[g]? =some (vsO h):=by
 rw[heap_setCell_same _ _ _ _ _ _ hg,setV_put,setV_ext e]
theorem vset_cell{W:World}{g:Nat}{f:Nat→Bool}(hg:W.heap[g]? =some (vsO f))(j:Nat)(hj:j<201):W.cell? ⟨g,j,none⟩=some (.bool (f j)):=by rw[cell_of_row _ _ _ _ _ _ hg,setV_at _ _ hj]
theorem vset_free{W:World}{g:Nat}{f:Nat→Bool}(hg:W.heap[g]? =some (vsO f))(j:Nat):W.frozen? ⟨g,j,none⟩=false:=frozen_of_row _ _ _ _ _ hg
def VSPost(w:World)(f:Nat→Bool)(e:Ending)(w':World):Prop:=e=.returned (.agg (setV f))∧Below w.heap.size w w'
theorem vFull_any(w:World):Calls Tryz.prog 162 #[] w (VSPost w fun _=>true):=by
 go_enter Tryz.func162,Tryz.ntmps162
 go_wp2
 go_loopw [1,2] (fun _ i wr=>∃(k:Nat),k≤201∧i=.int .i64 k∧Hid (wr.heap[w.heap.size]? =some (vsO fun j=>decide (j<k)))∧Hid (Below w.heap.size w wr)) (fun _ i _=>201-(intOf i).toNat)
 case atStart=>exact⟨0,by omega,rfl,by rw[Hid,heap_alloc_new,zero_vset,←vsO_ext (f:=fun _=>false) (g:=fun j=>decide (j<0)) (fun k _=>by simp)],ext_alloc _ _⟩
 case round=>
  obtain⟨k,hk,rfl,HS,HB⟩:=hrel;by_cases hlt:k<201
  ·have hcell:=vset_cell HS.out k hlt;have hfr:=vset_free HS.out k;have HS2:Hid ((wr.setCell ⟨w.heap.size,k,none⟩ (.bool true)).heap[w.heap.size]? =some (vsO fun j=>decide (j<k+1))):=vset_put HS.out k true fun j _=>by
    by_cases e:j=k
    ·simp[e]
    ·have:(j<k+1)↔j<k:=by omega
     simp[e,this]
   have hl:=lt_of_heap HS.out;have hlt':(k:Int)<201:=by omega
   generalize decide (k<k)=bb at *;go_wp2
   go_roundw
   case rel=>exact⟨k+1,by omega,by go_num,HS2,HB.out.setCell (Nat.le_refl _) _⟩
   case measure=>simp[intOf];omega
  ·obtain rfl:k=201:=by omega
   have HSx:Hid (wr.heap[w.heap.size]? =some (vsO fun _=>true)):=by
    have:=HS.out
    rwa [vsO_ext (f:=fun j=>decide (j<201)) (g:=fun _=>true) (fun j hj=>by simp[hj])] at this
   go_wp2_with (first
    |(refine wpList_load_row rfl 193 _ rfl w.heap.size rfl 193 _ (0,0) _ HSx.out Tryz.underlying193 rfl (by rw[setV_size];exact size_vset) ?_)
    |(refine wpList_store_row rfl 193 _ _ rfl w.heap.size (setV fun _=>true) rfl rfl 193 _ HSx.out (by rw[setV_size];exact size_vset) rfl (setV_all _) ?_))
   exact bodyPost_ret (v:=.agg (setV fun _=>true)) (by simp[results,Tryz.results162,asAddr,Act.put,load_vset (setRow_heap _ _ _ _ _ _ HSx.out)]) rfl ⟨rfl,below_setRow HB.out (by omega) _⟩
def meetK(f g:Nat→Bool)(k j:Nat):Bool:=if j<k then f j&&g j else f j
theorem vMeet_any(f g:Nat→Bool)(w:World):Calls Tryz.prog 163 #[.agg (setV f),.agg (setV g)] w (VSPost w fun j=>f j&&g j):=by
 go_enter Tryz.func163,Tryz.ntmps163
 go_upto_region 1 with (fail)
 obtain⟨W,hW⟩:∃W,W=((w.alloc (vsO f)).alloc (vsO g)).alloc (vsO fun _=>false):=⟨_,rfl⟩
 rw[zero_vset,←hW]
 have hs:W.heap[w.heap.size]? =some (vsO f):=by rw[hW,Below.heap_alloc _ _ _ (by simp;omega),Below.heap_alloc _ _ _ (by simp)];exact heap_alloc_new _ _
 have ht:W.heap[w.heap.size+1]? =some (vsO g):=by
  rw[hW,Below.heap_alloc _ _ _ (by simp)];have:=heap_alloc_new (w.alloc (vsO f)) (vsO g);simpa using this
 have hr:W.heap[w.heap.size+1+1]? =some (vsO fun _=>false):=by
  rw[hW];have:=heap_alloc_new ((w.alloc (vsO f)).alloc (vsO g)) (vsO fun _=>false);simpa using this
 have hB:Below w.heap.size w W:=by rw[hW];exact((((Below.refl _ w).alloc (Nat.le_refl _) _).alloc (by simp) _).alloc (by simp;omega) _)
 have HS:=Lib.hid hs
 have HT:=Lib.hid ht
 have HR:=Lib.hid hr
 have HB:=Lib.hid hB
 clear hW hs ht hr hB
 go_wp2
 go_loopw [5,6] (fun _ i wr=>∃(k:Nat),k≤201∧i=.int .i64 k∧Hid (wr.heap[w.heap.size]? =some (vsO (meetK f g k)))∧Hid (wr.heap[w.heap.size+1]? =some (vsO g))∧Hid (wr.heap[w.heap.size+1+1]? =some (vsO fun _=>false))∧Hid (Below w.heap.size w wr)) (fun _ i _=>201-(intOf i).toNat)
 case atStart=>exact⟨0,by omega,rfl,by rw[Hid,vsO_ext (f:=meetK f g 0) (g:=f) (fun j _=>by simp[meetK])];exact HS.out,HT.out,HR.out,HB.out⟩
 case round=>
  obtain⟨k,hk,rfl,HS,HT,HR,HB⟩:=hrel;by_cases hlt:k<201
  ·have hlt':(k:Int)<201:=by omega
   have hcell:wr.cell? ⟨w.heap.size,k,none⟩=some (.bool (f k)):=by
    have:=vset_cell HS.out k hlt
    rwa [show meetK f g k k=f k by simp[meetK]] at this
   have hcg:=vset_cell HT.out k hlt;have hfr:=vset_free HS.out k;have hstep:∀b,b=(f k&&g k)→Hid ((wr.setCell ⟨w.heap.size,k,none⟩ (.bool b)).heap[w.heap.size]? =some (vsO (meetK f g (k+1)))):=fun b hb=>vset_put HS.out k b fun j _=>by
    unfold meetK;by_cases e:j=k
    ·subst e;simp[hb]
    ·have:(j<k+1)↔j<k:=by omega
     simp[e,this]
   have HST:=Lib.hid hstep;have hl:=lt_of_heap HS.out;have hl1:=lt_of_heap HT.out;clear hstep
   have hfin:∀b,b=(f k&&g k)→∃(k':Nat),k'≤201∧Value.int IntKind.i64 ((k:Int)+1)=.int .i64 k'∧Hid ((wr.setCell ⟨w.heap.size,k,none⟩ (.bool b)).heap[w.heap.size]? =some (vsO (meetK f g k')))∧Hid ((wr.setCell ⟨w.heap.size,k,none⟩ (.bool b)).heap[w.heap.size+1]? =some (vsO g))∧Hid ((wr.setCell ⟨w.heap.size,k,none⟩ (.bool b)).heap[w.heap.size+1+1]? =some (vsO fun _=>false))∧Hid (Below w.heap.size w (wr.setCell ⟨w.heap.size,k,none⟩ (.bool b))):=fun b hb=>
    ⟨k+1,by omega,by simp,HST.out b hb,by rw[Hid,Below.heap_setCell _ _ _ _ (by simp)];exact HT.out,by rw[Hid,Below.heap_setCell _ _ _ _ (by simp;omega)];exact HR.out,HB.out.setCell (Nat.le_refl _) _⟩
   have HFIN:=Lib.hid hfin;clear hfin;cases hf:f k with
   |true=>
    rw[hf] at hcell;have HB2:Hid (g k=(f k&&g k)):=by rw[Hid,hf];rfl
    clear hf;go_wp2
    go_roundw
    case rel=>exact HFIN.out _ HB2.out
    case measure=>simp[intOf];omega
   |false=>
    rw[hf] at hcell;have HB2:Hid (false=(f k&&g k)):=by rw[Hid,hf];rfl
    clear hf;go_wp2
    go_roundw
    case rel=>exact HFIN.out _ HB2.out
    case measure=>simp[intOf];omega
  ·obtain rfl:k=201:=by omega
   have HSx:Hid (wr.heap[w.heap.size]? =some (vsO fun j=>f j&&g j)):=by
    have:=HS.out
    rwa [vsO_ext (f:=meetK f g 201) (g:=fun j=>f j&&g j) (fun j hj=>by simp[meetK,hj])] at this
   go_wp2_with (first
    |(refine wpList_load_row rfl 193 _ rfl w.heap.size rfl 193 _ (0,0) _ HSx.out Tryz.underlying193 rfl (by rw[setV_size];exact size_vset) ?_)
    |(refine wpList_store_row rfl 193 _ _ rfl (w.heap.size+1+1) (setV fun j=>f j&&g j) rfl rfl 193 _ HR.out (by rw[setV_size];exact size_vset) rfl (setV_all _) ?_))
   exact bodyPost_ret (v:=.agg (setV fun j=>f j&&g j)) (by simp[results,Tryz.results163,asAddr,Act.put,load_vset (setRow_heap _ _ _ _ _ _ HR.out)]) rfl ⟨rfl,below_setRow HB.out (by omega) _⟩
theorem vHas1_any(f:Nat→Bool)(G B:Nat)(x:Int)(hx:0≤x∧x≤200)(w:World)(hG:w.heap[G]? =some (vsO f))(hB:w.cell? ⟨B,0,none⟩=some (.pointer (some ⟨G,0,none⟩))):
  Calls Tryz.prog 268 (#[.int .i64 x]++ #[.pointer (some ⟨B,0,none⟩)]) w fun e w'=>e=.returned (.bool (!f x.toNat))∧Below w.heap.size w w':=by
 obtain⟨m,rfl⟩:∃m:Nat,x=(m:Int):=⟨x.toNat,by omega⟩
 show Calls Tryz.prog 268 #[.int .i64 (m:Int),.pointer (some ⟨B,0,none⟩)] w _
 have hm:(m:Int)<201:=by omega
 have hcell:=vset_cell hG m (by omega)
 have h0:=vset_cell hG 0 (by omega)
 rw[Int.toNat_natCast]
 clear hG hx
 go_enter Tryz.func268,Tryz.ntmps268
 go_wp2
 go_ret
 exact⟨rfl,Below.refl _ _⟩
theorem call_vHas1(args:Array Value)(w:World):(callFunc 268 args).run Tryz.prog w=.ok (.enter 268 args) w:=enters_of Tryz.func268 (by kernel_rfl) rfl args w
def hasB(f:Nat→Bool)(xs:List Int):Bool:= !xs.any fun x=> !f x.toNat
theorem vHas_any(f:Nat→Bool)(G:Nat)(a:Option Addr)(n c:Nat)(xs:List Int)(w:World)(hG:w.heap[G]? =some (vsO f))(h:Ints w a n xs)(hx:∀x∈xs,0≤x∧x≤200):
  Calls Tryz.prog 242 #[.pointer (some ⟨G,0,none⟩),.slice a n c] w fun e w'=>e=.returned (.bool (hasB f xs))∧Below w.heap.size w w':=by
 have HC:=Lib.hid (containsFunc_any 268 #[.pointer (some ⟨w.heap.size,0,none⟩)] call_vHas1 (fun x=> !f x.toNat) a n c xs (w.alloc (.cells #[.pointer (some ⟨G,0,none⟩)] 353))
  (fun x W hxx hb=>vHas1_any f G w.heap.size x (hx x hxx) W (block_ext (ext_trans (ext_alloc w _) hb) hG) (by
    have:=block_ext hb (heap_alloc_new w (.cells #[.pointer (some ⟨G,0,none⟩)] 353))
    rw[cell_of_row _ _ _ _ _ _ this];rfl)) (h.ext (ext_alloc _ _)))
 clear h hx hG
 go_enter Tryz.func242,Tryz.ntmps242
 go_wp2_with (
  (go_at_call 241
   refine HC.out.mono ?_;rintro e w1 ⟨rfl,hb1⟩;have HB1:=Lib.hid (ext_trans (ext_alloc w _) hb1)
   clear hb1))
 go_ret
 exact⟨rfl,HB1.out⟩
end

section
section
variable {P:Program} {ops:Array Oper} {rest:List Oper} {o:Oper} {a:Act}
theorem wpList_load_rowW{w:World}{Q:Exit→Act→World→Prop}(hw:Region.wanted o (yielded ops a.tmps)=true)(ty:TypeId)(x:Operand)(ho:o.op=.load ty x)
  (g:Nat) (hx:a.eval x=.pointer (some ⟨g,0,none⟩)) (t:TypeId) (cs:Array Value) (fr:Nat×Nat) (d:TypeDesc) (hg:w.heap[g]? =some (.cells cs t fr))
  (hu:P.underlying ty=some d) (hd:(match d with| .struct _| .array _ _=>true|_=>false)=true) (hi:(P.info? ty).map (·.size)=some cs.size)
  (h:wpList P ops Q rest (a.put o.dst (.agg cs)) w):wpList P ops Q (o :: rest) a w:=
 BigFrame.wpList_want hw fun _ hK=>wp_load_row ty x ho g hx t cs fr d hg hu hd hi (hK _ _ h)
theorem wpQuiet_load_row{C:World→Prop}{Q:Act→Prop}(hw:Region.wanted o (yielded ops a.tmps)=true)(ty:TypeId)(x:Operand)(ho:o.op=.load ty x)
  (g:Nat) (hx:a.eval x=.pointer (some ⟨g,0,none⟩)) (t:TypeId) (cs:Array Value) (fr:Nat×Nat) (d:TypeDesc) (hg:∀w,C w→w.heap[g]? =some (.cells cs t fr))
  (hu:P.underlying ty=some d) (hd:(match d with| .struct _| .array _ _=>true|_=>false)=true) (hi:(P.info? ty).map (·.size)=some cs.size)
  (h:wpQuiet P ops C Q rest (a.put o.dst (.agg cs))):wpQuiet P ops C Q (o :: rest) a:=
 BigFrame.wpQuiet_want hw fun _ hK=>⟨.agg cs,fun w hC=>by
  unfold Oper.quietAt execOp;simp only[ho,hx,Instr.loadAt,Instr.sureAddr,Sem.run_bind,Sem.run_pure,Result.andThen_ok,run_loadVar_row w g t ty cs fr d (hg w hC) hu hd hi]
  exact⟨rfl,rfl⟩,hK _ h⟩
theorem wpOp_atW{l:List Oper}{Q:Exit→Act→World→Prop}{e:Nat}{K:Act→World→Prop}{w:World}(ho:l[e]? =some o)(hw:Region.wanted o (yielded l.toArray a.tmps)=true)(h:o.wp P a w K Q):wpOp P l.toArray Q e K a w:=by
 unfold wpOp
 simp only[List.getElem?_toArray,ho]
 rw[if_pos hw]
 exact .inl h
end
end
end Go.Proofs.YthgebcfohnlhlaaGreatDoor
