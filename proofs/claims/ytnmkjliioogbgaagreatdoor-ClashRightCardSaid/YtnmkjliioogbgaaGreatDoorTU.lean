/-
 Tile:whether a tile may stand at its place.
-/
import Derived.Test.YtnmkjliioogbgaaGreatDoorMaps
import Derived.Test.YtnmkjliioogbgaaGreatDoorTH
import Derived.Test.YtnmkjliioogbgaaGreatDoorNR
import Derived.Test.YtnmkjliioogbgaaGreatDoorInsR
import Derived.Deep.LoopGhost
namespace Go.Proofs.YtnmkjliioogbgaaGreatDoor
set_option linter.unusedSimpArgs false
set_option linter.unusedVariables false
set_option linter.unusedSectionVars false
set_option maxRecDepth 100000
set_option maxHeartbeats 40000000
section
open Go.RowKit Go.Shelf
attribute [local go_sem] Oper.semAt_some wide_fn wide_depth wide_fnR wide_depthR
def misB(l:List TileD)(k:Nat):Bool:=
 let t:=l.getD k zTile
 ((k==0) != (t.kind==1))||((k==0) != (t.parent== -1))||(t.blocks.length==0)||(decide (0<k)&&((l.getD t.parent.toNat zTile).kind==3))
theorem stands_mis(n:Nat)(l:List TileD)(k:Nat):standsB n l k=(!misB l k&&risingB n (l.getD k zTile).blocks):=rfl
def lastOf(bs:List Int)(i:Nat):Int:=if i=0 then -1 else bs.getD (i-1) 0
def riseTo(n:Nat)(bs:List Int)(m:Nat):Prop:=∀i,i<m→(0≤bs.getD i 0∧bs.getD i 0<n)∧(i=0∨bs.getD (i-1) 0<bs.getD i 0)
theorem rising_iff(n:Nat)(bs:List Int):risingB n bs=true↔riseTo n bs bs.length:=by
 simp[risingB,riseTo]
theorem stands_any(d:WalkD)(hbn:d.bn≤200)(a:Option Addr)(n c:Nat)(ls:List TileR)(k:Nat)(w:World)(h:TilesOK w a n ls)(hk:k<n)(hp:parentsB (tdOf ls)=true):
  Calls Tryz.prog 58 #[walkV d,.slice a n c,.int .i64 (k:Int)] w fun e w'=>e=.returned (.bool (standsB d.bn (tdOf ls) k))∧Below w.heap.size w w':=by
 have hn:=h.1.2.1
 have HL:=Lib.hid h.1.1
 obtain⟨t,b,o,hlk,⟨hI,hcap,hI1,hI2⟩,rfl,c0,c1,c2⟩:=h.cells hk
 have htd:=tdOf_at ls k t hlk
 have hpk:=(parentsB_iff _).1 hp k (by rw[tdOf_len,h.1.1];exact hk)
 rw[parL,htd] at hpk
 have HST:=Lib.hid (stands_mis d.bn (tdOf ls) k)
 rw[htd] at HST
 have HM:Hid (misB (tdOf ls) k=(((k==0) != (t.d.kind==1))||((k==0) != (t.d.parent== -1))||(t.d.blocks.length==0)||(decide (0<k)&&(((tdOf ls).getD t.d.parent.toNat zTile).kind==3)))):=by
  rw[Hid,misB,htd]
 have HLn:=Lib.hid hI.1
 have hbl:=hI.2.1
 have HI:=Lib.hid hI
 have H:=Lib.hid h
 clear h hlk hI htd hp
 go_enter Tryz.func58,Tryz.ntmps58
 go_upto_region 1 with (fail)
 obtain⟨W,hW⟩:∃W,W=w.alloc (walkO d):=⟨_,rfl⟩
 rw[←hW]
 have hk0:W.heap[w.heap.size]? =some (walkO d):=by rw[hW];exact heap_alloc_new _ _
 have hB:Below w.heap.size w W:=by rw[hW];exact ext_alloc _ _
 replace c0:=cell_ext hB c0
 replace c1:=cell_ext hB c1
 replace c2:=cell_ext hB c2
 have HK:=Lib.hid hk0
 have HB:=Lib.hid hB
 clear hW hk0 hB
 go_upto_region 2 with (fail)
 obtain⟨W2,hW2⟩:∃W2,W2=W.alloc (tileO t):=⟨_,rfl⟩
 rw[←hW2]
 have hB2:Below w.heap.size w W2:=by rw[hW2];exact HB.out.alloc HB.out.size _
 have hB3:Below W.heap.size W W2:=by rw[hW2];exact ext_alloc _ _
 have ht2:W2.heap[W.heap.size]? =some (tileO t):=by rw[hW2];exact heap_alloc_new _ _
 have HK2:=Lib.hid (block_ext hB3 HK.out)
 have HB2:=Lib.hid hB2
 have HT2:=Lib.hid ht2
 have hPT:W.heap.size=W.heap.size:=rfl
 clear hW2 hB2 hB3 ht2 c0 c1 c2 HK HB
 generalize W.heap.size=g at*
 go_cut [47] (fun s47 wr=>s47=.bool (misB (tdOf ls) k)∧wr=W2)
 case first=>
  have t0:W2.cell? ⟨g,0,none⟩=some (.int .i64 t.d.kind):=by rw[cell_of_row _ _ _ _ _ _ HT2.out];rfl
  have t1:W2.cell? ⟨g,1,none⟩=some (.int .i64 t.d.parent):=by rw[cell_of_row _ _ _ _ _ _ HT2.out];rfl
  have t2:W2.cell? ⟨g,2,none⟩=some (.slice t.ba t.bn t.bc):=by rw[cell_of_row _ _ _ _ _ _ HT2.out];rfl
  by_cases hk0:k=0
  ·have fk:((k:Int)==0)=true:=by simp[hk0]
   have fkp:decide (0<(k:Int))=false:=by simp[hk0]
   have fkn:decide (0<k)=false:=by simp[hk0]
   by_cases ha:t.d.kind=1
   ·have fa:(t.d.kind==1)=true:=by simp[ha]
    have hpe:t.d.parent= -1:=by omega
    have fp:(t.d.parent== -1)=true:=by simp[hpe]
    by_cases hl:t.bn=0
    ·have fl:((t.bn:Int)==0)=true:=by simp[hl]
     have hE:Hid (misB (tdOf ls) k=true):=by rw[Hid,HM.out];simp[HLn.out,hk0,ha,hpe,hl]
     clear hk0 ha hpe hl hpk;go_wp2
     go_meet
     exact⟨(congrArg Value.bool hE.out).symm,rfl⟩
    ·have fl:((t.bn:Int)==0)=false:=by simp[hl]
     have hE:Hid (misB (tdOf ls) k=false):=by rw[Hid,HM.out];simp[HLn.out,hk0,ha,hpe,hl]
     clear hk0 ha hpe hl hpk;go_wp2
     go_meet
     exact⟨(congrArg Value.bool hE.out).symm,rfl⟩
   ·have fa:(t.d.kind==1)=false:=by simp[ha]
    have hE:Hid (misB (tdOf ls) k=true):=by rw[Hid,HM.out];simp[HLn.out,hk0,ha]
    clear hk0 ha hpk;go_wp2
    go_meet
    exact⟨(congrArg Value.bool hE.out).symm,rfl⟩
  ·have fk:((k:Int)==0)=false:=by simp[hk0]
   have fkp:decide (0<(k:Int))=true:=by simp;omega
   have fkn:decide (0<k)=true:=by simp;omega
   by_cases ha:t.d.kind=1
   ·have fa:(t.d.kind==1)=true:=by simp[ha]
    have hE:Hid (misB (tdOf ls) k=true):=by rw[Hid,HM.out];simp[HLn.out,hk0,ha]
    clear hk0 ha hpk;go_wp2
    go_meet
    exact⟨(congrArg Value.bool hE.out).symm,rfl⟩
   ·have fa:(t.d.kind==1)=false:=by simp[ha]
    by_cases hpe:t.d.parent= -1
    ·have fp:(t.d.parent== -1)=true:=by simp[hpe]
     have hE:Hid (misB (tdOf ls) k=true):=by rw[Hid,HM.out];simp[HLn.out,hk0,ha,hpe]
     clear hk0 ha hpe hpk;go_wp2
     go_meet
     exact⟨(congrArg Value.bool hE.out).symm,rfl⟩
    ·have fp:(t.d.parent== -1)=false:=by simp[hpe]
     have hp0:0≤t.d.parent:=by omega
     have hpn:t.d.parent<(n:Int):=by omega
     by_cases hl:t.bn=0
     ·have fl:((t.bn:Int)==0)=true:=by simp[hl]
      have hE:Hid (misB (tdOf ls) k=true):=by rw[Hid,HM.out];simp[HLn.out,hk0,ha,hpe,hl]
      clear hk0 ha hpe hl hpk;go_wp2
      go_meet
      exact⟨(congrArg Value.bool hE.out).symm,rfl⟩
     ·have fl:((t.bn:Int)==0)=false:=by simp[hl]
      obtain⟨t',b',o',hl',_,hab,l0,_,_⟩:=(H.out.ext HB2.out).cells (k:=t.d.parent.toNat) (by omega);injection hab with hab;injection hab with hab1 hab2 _;subst hab1 hab2;have htd':=tdOf_at ls _ t' hl';by_cases he:t'.d.kind=3
      ·have fe:(t'.d.kind==3)=true:=by simp[he]
       have fkb:(k==0)=false:=by simp[hk0]
       have flb:(t.bn==0)=false:=by simp[hl]
       have hE:Hid (misB (tdOf ls) k=true):=by rw[Hid,HM.out,htd',fkb,fa,fp,HLn.out,flb,fkn,fe];rfl
       clear fkb flb;clear hk0 ha hpe hl hpk he hl' htd';go_wp2
       go_meet
       exact⟨(congrArg Value.bool hE.out).symm,rfl⟩
      ·have fe:(t'.d.kind==3)=false:=by simp[he]
       have fkb:(k==0)=false:=by simp[hk0]
       have flb:(t.bn==0)=false:=by simp[hl]
       have hE:Hid (misB (tdOf ls) k=false):=by rw[Hid,HM.out,htd',fkb,fa,fp,HLn.out,flb,fkn,fe];rfl
       clear fkb flb;clear hk0 ha hpe hl hpk he hl' htd';go_wp2
       go_meet
       exact⟨(congrArg Value.bool hE.out).symm,rfl⟩
 case rest=>
  obtain⟨rfl,rfl⟩:=hcut;cases hm:misB (tdOf ls) k with
  |true=>
   have HE:Hid (standsB d.bn (tdOf ls) k=false):=by rw[Hid,HST.out,hm];rfl
   clear hm;go_wp2
   go_ret
   exact⟨(congrArg (fun b=>Ending.returned (Value.bool b)) HE.out).symm,HB2.out⟩
  |false=>
   have HE:Hid (standsB d.bn (tdOf ls) k=risingB d.bn t.d.blocks):=by rw[Hid,HST.out,hm];rfl
   clear hm;have t2:wc.cell? ⟨g,2,none⟩=some (.slice t.ba t.bn t.bc):=by rw[cell_of_row _ _ _ _ _ _ HT2.out];rfl
   have w1:wc.cell? ⟨w.heap.size,1,none⟩=some (.slice d.ba d.bn d.bc):=by rw[cell_of_row _ _ _ _ _ _ HK2.out];rfl
   generalize t.ba=ba at *;go_wp2
   go_loopw [8,10,51] (fun l _ i wr=>∃(m:Nat),m≤t.bn∧i=.int .i64 m∧l=.int .i64 (lastOf t.d.blocks m)∧Hid (riseTo d.bn t.d.blocks m)∧wr=wc) (fun _ _ i _=>t.bn-(intOf i).toNat)
   case atStart=>exact⟨0,by omega,rfl,rfl,fun j hj=>absurd hj (by omega),rfl⟩
   case round=>
    obtain⟨m,hm,rfl,rfl,HR,rfl⟩:=hrel;by_cases hlt:m<t.bn
    ·obtain⟨bb,ob,rfl,hc,hw1,hw2⟩:=(HI.out.ext HB2.out).2.2 m hlt;have hmx:m<t.d.blocks.length:=by rw[HLn.out];exact hlt
     have hlast:I64 (lastOf t.d.blocks m):=by
      unfold lastOf
      split
      ·unfold I64;omega
      ·obtain⟨_,_,_,_,h1,h2⟩:=(HI.out).2.2 (m-1) (by omega);exact⟨h1,h2⟩
     have HLA:Hid (m=0∧lastOf t.d.blocks m= -1∨m≠0∧lastOf t.d.blocks m=t.d.blocks.getD (m-1) 0):=by
      unfold lastOf;by_cases e:m=0
      ·exact .inl ⟨e,by simp[e]⟩
      ·exact .inr ⟨e,by simp[e]⟩
     have HNX:Hid (lastOf t.d.blocks (m+1)=t.d.blocks.getD m 0):=by simp[Hid,lastOf]
     have HRS:Hid (risingB d.bn t.d.blocks=true→(0≤t.d.blocks.getD m 0∧t.d.blocks.getD m 0<d.bn)∧lastOf t.d.blocks m<t.d.blocks.getD m 0):=fun h=>by
      have h1:=(rising_iff _ _).1 h m hmx;refine⟨h1.1,?_⟩;rcases HLA.out with ⟨h2,h3⟩|⟨h2,h3⟩
      ·rw[h3];omega
      ·rw[h3];exact h1.2.resolve_left h2
     have HRN:Hid (0≤t.d.blocks.getD m 0→t.d.blocks.getD m 0<d.bn→lastOf t.d.blocks m<t.d.blocks.getD m 0→riseTo d.bn t.d.blocks (m+1)):=fun h1 h2 h3 j hj=>by
      by_cases e:j=m
      ·subst e;refine⟨⟨h1,h2⟩,?_⟩;rcases HLA.out with ⟨h4,h5⟩|⟨h4,h5⟩
       ·exact .inl h4
       ·rw[h5] at h3;exact .inr h3
      ·exact HR.out j (by omega)
     have hl1: -1≤lastOf t.d.blocks m:=by
      rcases HLA.out with ⟨h4,h5⟩|⟨h4,h5⟩
      ·omega
      ·rw[h5];have:=(HR.out (m-1) (by omega)).1;omega
     obtain⟨hla1,hla2⟩:=hlast;clear hmx HLA HR;generalize t.d.blocks.getD m 0=x at *;generalize lastOf t.d.blocks m=la at *;by_cases h1:x≤la
     ·have HF:Hid (risingB d.bn t.d.blocks=false):=by
       rw[Hid,Bool.eq_false_iff];intro h;have:=(HRS.out h).2;omega
      go_wp2
      go_ret
      exact⟨(congrArg (fun b=>Ending.returned (Value.bool b)) (HE.out.trans HF.out)).symm,HB2.out⟩
     ·by_cases h2:x<(d.bn:Int)
      ·have HR2:=Lib.hid (HRN.out (by omega) h2 (by omega));go_wp2
       go_roundw
       case rel=>exact⟨m+1,by omega,by go_num,by rw[HNX.out],HR2,trivial⟩
       case measure=>simp[intOf];omega
      ·have HF:Hid (risingB d.bn t.d.blocks=false):=by
        rw[Hid,Bool.eq_false_iff];intro h;have:=(HRS.out h).1;omega
       go_wp2
       go_ret
       exact⟨(congrArg (fun b=>Ending.returned (Value.bool b)) (HE.out.trans HF.out)).symm,HB2.out⟩
    ·obtain rfl:m=t.bn:=by omega
     have HF:Hid (risingB d.bn t.d.blocks=true):=(rising_iff _ _).2 (by rw[HLn.out];exact HR.out);clear HR;generalize lastOf t.d.blocks t.bn=la at *;go_wp2
     go_ret
     exact⟨(congrArg (fun b=>Ending.returned (Value.bool b)) (HE.out.trans HF.out)).symm,HB2.out⟩
end
end Go.Proofs.YtnmkjliioogbgaaGreatDoor
