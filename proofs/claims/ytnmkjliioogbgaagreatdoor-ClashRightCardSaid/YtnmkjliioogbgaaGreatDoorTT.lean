/-
 Tile:what must hold of a tile.
-/
import Derived.Test.YtnmkjliioogbgaaGreatDoorTR
import Derived.Test.YtnmkjliioogbgaaGreatDoorMaps
import Derived.Test.YtnmkjliioogbgaaGreatDoorNR
import Derived.Test.YtnmkjliioogbgaaGreatDoorInsR
namespace Go.Proofs.YtnmkjliioogbgaaGreatDoor
set_option linter.unusedSimpArgs false
set_option linter.unusedVariables false
set_option linter.unusedSectionVars false
set_option maxRecDepth 100000
set_option maxHeartbeats 40000000
section
open Go.RowKit Go.Shelf
attribute [local go_sem] Oper.semAt_some wide_fn wide_depth wide_fnR wide_depthR
theorem idx_contains(l:List Int)(x:Int):decide (0≤idx l x)=l.contains x:=by
 have h:=idx_neg_iff l x
 by_cases hx:x∈l
 ·have h2:¬idx l x<0:=fun h3=>h.1 h3 hx;simp[hx];omega
 ·have h2:=h.2 hx;simp[hx];omega
theorem one_iff(t:TileD)(e:List Nat):oneB t e=true→∃x,e= [x]:=by
 match e with
 | []=>simp[oneB]
 | [x]=>exact fun _=>⟨x,rfl⟩
 |_ :: _ :: _=>simp[oneB]
abbrev tileV(t:TileR):Value:=.agg #[.int .i64 t.d.kind,.int .i64 t.d.parent,.slice t.ba t.bn t.bc]
theorem holds_any(d:WalkD)(ts:List TermD)(t:TileR)(f:Nat→Bool)(w:World)(hok:WalkOK w d ts)(hg:goodB ts=true)(hcf:Canon f)(hI:Ints w t.ba t.bn t.d.blocks)(hki:I64 t.d.kind)
  (hbs:∀x∈t.d.blocks,0≤x∧x<d.bn) (hf:∀b l,listS f=b :: l→b<d.bn):
  Calls Tryz.prog 59 #[walkV d,tileV t,.agg (setA f)] w fun e w'=>e=.returned (.bool (holdsB ts t.d f))∧Below w.heap.size w w':=by
 have HOK:=Lib.hid hok
 have HG:=Lib.hid hg
 have HCF:=Lib.hid hcf
 have HI:=Lib.hid hI
 have HBS:=Lib.hid hbs
 have HF:=Lib.hid hf
 obtain⟨hk1,hk2⟩:=hki
 clear hok hg hcf hI hbs hf
 go_enter Tryz.func59,Tryz.ntmps59
 go_upto_region 1 with (fail)
 obtain⟨W,hW⟩:∃W,W=((w.alloc (walkO d)).alloc (tileO t)).alloc (setO f):=⟨_,rfl⟩
 rw[←hW]
 have hk:W.heap[w.heap.size]? =some (walkO d):=by rw[hW,Below.heap_alloc _ _ _ (by simp;omega),Below.heap_alloc _ _ _ (by simp)];exact heap_alloc_new _ _
 have ht:W.heap[w.heap.size+1]? =some (tileO t):=by rw[hW,Below.heap_alloc _ _ _ (by simp)];exact heap_at _ _ _ (by simp)
 have hs:W.heap[w.heap.size+1+1]? =some (setO f):=by rw[hW,heap_at _ _ _ (by simp)]
 have hB:Below w.heap.size w W:=by rw[hW];exact((ext_alloc _ _).alloc (by simp) _).alloc (by simp;omega) _
 have HK:=Lib.hid hk
 have HT:=Lib.hid ht
 have HS:=Lib.hid hs
 have HB:=Lib.hid hB
 clear hW hk ht hs hB
 go_upto_region 2 with (first
  |(refine wpList_load_row (o:=⟨some 9,.load 133 _,_,_,_,_⟩) rfl 133 _ rfl w.heap.size rfl 133 _ (0,0) _ HK.out Tryz.underlying133 rfl size_walk ?_)
  |(refine wpList_load_row (o:=⟨some 10,.load 141 _,_,_,_,_⟩) rfl 141 _ rfl (w.heap.size+1+1) rfl 141 _ (0,0) _ HS.out Tryz.underlying141 rfl (by rw[setA_size];exact size_set) ?_)
  |(go_at_call 93
    refine(entries_any d ts f W (HOK.out.ext HB.out) HG.out).mono ?_;rintro e w2 ⟨ev,rfl,ho,hb⟩;obtain⟨ea,ec,rfl⟩:=ho.form;have HE:=Lib.hid ho.ints;have HK2:=Lib.hid (block_ext hb HK.out);have HT2:=Lib.hid (block_ext hb HT.out);have HS2:=Lib.hid (block_ext hb HS.out);have HB2:=Lib.hid (ext_trans HB.out hb);have hec:=ho.cap;have hel:(intsN (entriesS ts f)).length=(entriesS ts f).length:=(by simp[intsN])
    rw[hel] at hec HE⊢
    clear ho hb hel))
 have hel2:(entriesS ts f).length≤200:=Nat.le_trans (List.length_filter_le _ _) (listS_len f)
 clear HK HT HS HB
 go_cut [8] (fun s8 wr=>s8=.bool (oneB t.d (entriesS ts f))∧Hid (wr.heap[w.heap.size]? =some (walkO d))∧Hid (wr.heap[w.heap.size+1]? =some (tileO t))∧Hid (wr.heap[w.heap.size+1+1]? =some (setO f))∧Hid (Ints wr ea (entriesS ts f).length (intsN (entriesS ts f)))∧Hid (Below w.heap.size w wr))
 case first=>
  have kB:∀n:ExtW w2,n.val.cell? ⟨w.heap.size+1,2,none⟩=some (.slice t.ba t.bn t.bc):=fun n=>cell_ext n.ext (by rw[cell_of_row _ _ _ _ _ _ HT2.out];rfl);by_cases h1:(entriesS ts f).length=1
  ·obtain⟨x,hx⟩:∃x,entriesS ts f= [x]:=by
    match h:entriesS ts f with
    | []=>rw[h] at h1;simp at h1
    | [x]=>exact⟨x,rfl⟩
    |_ :: _ :: _=>rw[h] at h1;simp at h1
   obtain⟨b,o,rfl,hc,_⟩:=HE.out.2.2 0 (by omega);have hx0:(intsN (entriesS ts f)).getD 0 0=(x:Int):=by rw[hx];rfl
   rw[hx0] at hc;have kE:∀n:ExtW w2,n.val.cell? ⟨b,o,none⟩=some (.int .i64 (x:Int)):=fun n=>cell_ext n.ext hc;have HO:Hid (oneB t.d (entriesS ts f)=decide (0≤idx t.d.blocks (x:Int))):=by
    rw[hx,Hid,idx_contains];simp[oneB]
   have heq:((((entriesS ts f).length:Nat):Int)==1)=true:=by simp[h1]
   have hlt:0<(entriesS ts f).length:=by omega
   clear hx hx0 hc h1;refine region_ext (by kernel_rfl) (by kernel_rfl) ?_
   repeat (go_big_quiet_step (first
    |(go_at_call 92;exact quiet_ext_same (scontains_any t.ba t.bn t.bc t.d.blocks _ _ (HI.out.ext (ext_trans HB2.out (ExtW.ext _)))))))
   refine wpQuiet_nil ?_;intro _ hw';obtain⟨n,rfl⟩:=hw';go_wp2
   go_meet
   exact⟨by rw[HO.out],block_ext n.ext HK2.out,block_ext n.ext HT2.out,block_ext n.ext HS2.out,HE.out.ext n.ext,ext_trans HB2.out n.ext⟩
  ·have hne:((((entriesS ts f).length:Nat):Int)==1)=false:=by simp;omega
   have HO:Hid (oneB t.d (entriesS ts f)=false):=by
    rw[Hid];simp[oneB,h1]
   refine region_ext (by kernel_rfl) (by kernel_rfl) ?_
   repeat (go_big_quiet_step (fail))
   refine wpQuiet_nil ?_;intro _ hw';obtain⟨n,rfl⟩:=hw';go_wp2
   go_meet
   exact⟨by rw[HO.out],block_ext n.ext HK2.out,block_ext n.ext HT2.out,block_ext n.ext HS2.out,HE.out.ext n.ext,ext_trans HB2.out n.ext⟩
 case rest=>
  obtain⟨rfl,HW,HT,HS,HE2,HB⟩:=hcut;have hkc:wc.cell? ⟨w.heap.size+1,0,none⟩=some (.int .i64 t.d.kind):=by rw[cell_of_row _ _ _ _ _ _ HT.out];rfl
  clear HE HK2 HT2 HS2 HB2;by_cases h3:t.d.kind=3
  ·have e3:(t.d.kind==3)=true:=by simp[h3]
   have HR:Hid (holdsB ts t.d f=(decide (1<(entriesS ts f).length)&&togetherB ts f)):=by simp[Hid,holdsB,h3]
   clear h3;by_cases hl:1<(entriesS ts f).length
   ·have d1:decide ((1:Int)<((entriesS ts f).length:Int))=true:=by simp;omega
    have d2:decide (1<(entriesS ts f).length)=true:=by simpa using hl
    rw[d2,Bool.true_and] at HR
    go_wp2_with (first
     |(refine wpList_load_rowW (o:=⟨some 37,.load 133 _,_,_,_,_⟩) (by rfl) 133 _ rfl w.heap.size rfl 133 _ (0,0) _ HW.out Tryz.underlying133 rfl size_walk ?_)
     |(refine wpList_load_rowW (o:=⟨some 38,.load 141 _,_,_,_,_⟩) (by rfl) 141 _ rfl (w.heap.size+1+1) rfl 141 _ (0,0) _ HS.out Tryz.underlying141 rfl (by rw[setA_size];exact size_set) ?_)
     |(go_at_call 94
       refine(together_any d ts f wc (HOK.out.ext HB.out) HG.out HCF.out HF.out).mono ?_;rintro e w3 ⟨rfl,hb3⟩;have HB3:=Lib.hid (ext_trans HB.out hb3)
       clear hb3))
    go_ret
    exact⟨(congrArg (fun b=>Ending.returned (Value.bool b)) HR.out).symm,HB3.out⟩
   ·have d1:decide ((1:Int)<((entriesS ts f).length:Int))=false:=by simp;omega
    have d2:decide (1<(entriesS ts f).length)=false:=by simpa using hl
    rw[d2,Bool.false_and] at HR;go_wp2
    go_ret
    exact⟨(congrArg (fun b=>Ending.returned (Value.bool b)) HR.out).symm,HB.out⟩
  ·have e3:(t.d.kind==3)=false:=by simpa using h3
   by_cases h2:t.d.kind=2
   ·have e2:(t.d.kind==2)=true:=by simp[h2]
    have HR:Hid (holdsB ts t.d f=(oneB t.d (entriesS ts f)&&togetherB ts f&& !ringsB ts t.d.blocks (lessS f ((entriesS ts f).headD 0)))):=by simp[Hid,holdsB,h2]
    clear h3 h2;cases ho:oneB t.d (entriesS ts f) with
    |false=>
     rw[ho,Bool.false_and,Bool.false_and] at HR;clear ho
     go_wp2_with (fail)
     refine region_ext (by kernel_rfl) (by kernel_rfl) ?_
     repeat (first
      |go_big_quiet_skip
      |(refine wpQuiet_load_row (o:=⟨some 43,.load 133 _,_,_,_,_⟩) (by rfl) 133 _ rfl w.heap.size rfl 133 #[.slice d.pa d.pn d.pc,.slice d.ba d.bn d.bc,.slice d.ta d.bn d.tc,.slice d.fa d.bn d.fc] (0,0) _ (by rintro _ ⟨n,rfl⟩;exact block_ext n.ext HW.out) Tryz.underlying133 rfl size_walk ?_;simp only[zJ,zG,zH,zI])
      |(refine wpQuiet_load_row (o:=⟨some 44,.load 141 _,_,_,_,_⟩) (by rfl) 141 _ rfl (w.heap.size+1+1) rfl 141 (setA f) (0,0) _ (by rintro _ ⟨n,rfl⟩;exact block_ext n.ext HS.out) Tryz.underlying141 rfl (by rw[setA_size];exact size_set) ?_;simp only[zJ,zG,zH,zI])
      |go_big_quiet_step (fail))
     refine wpQuiet_nil ?_;intro _ hw';obtain⟨n,rfl⟩:=hw';go_wp2
     go_ret
     exact⟨(congrArg (fun b=>Ending.returned (Value.bool b)) HR.out).symm,ext_trans HB.out n.ext⟩
    |true=>
     obtain⟨x,hx⟩:=one_iff _ _ ho;obtain⟨b,o,rfl,hc,_⟩:=HE2.out.2.2 0 (by rw[hx];simp);have hxm:x∈entriesS ts f:=by rw[hx];simp
     have hx2:x<200:=listS_lt f x (List.mem_filter.1 hxm).1;clear hxm;rw[ho,Bool.true_and,show(entriesS ts f).headD 0=x by rw[hx];rfl] at HR;have hx0:(intsN (entriesS ts f)).getD 0 0=(x:Int):=by rw[hx];rfl
     rw[hx0] at hc;have kE:∀n:ExtW wc,n.val.cell? ⟨b,o,none⟩=some (.int .i64 (x:Int)):=fun n=>cell_ext n.ext hc;have kB:∀n:ExtW wc,n.val.cell? ⟨w.heap.size+1,2,none⟩=some (.slice t.ba t.bn t.bc):=fun n=>cell_ext n.ext (by rw[cell_of_row _ _ _ _ _ _ HT.out];rfl);have hlt:0<(entriesS ts f).length:=by rw[hx];simp
     clear ho hx hx0 hc
     have HTG:Hid (∀n:ExtW wc,Calls Tryz.prog 94 #[walkV d,.agg (setA f)] n.val fun e w''=>e=.returned (.bool (togetherB ts f))∧∃m:ExtW wc,w''=m.val):=
      fun n=>quiet_ext (together_any d ts f _ (HOK.out.ext (ext_trans HB.out n.ext)) HG.out HCF.out HF.out)
     cases htg:togetherB ts f with
     |false=>
      rw[htg,Bool.false_and] at HR;rw[htg] at HTG;clear htg
      go_wp2_with (fail)
      refine region_ext (by kernel_rfl) (by kernel_rfl) ?_
      repeat (first
       |go_big_quiet_skip
       |(refine wpQuiet_load_row (o:=⟨some 43,.load 133 _,_,_,_,_⟩) (by rfl) 133 _ rfl w.heap.size rfl 133 #[.slice d.pa d.pn d.pc,.slice d.ba d.bn d.bc,.slice d.ta d.bn d.tc,.slice d.fa d.bn d.fc] (0,0) _ (by rintro _ ⟨n,rfl⟩;exact block_ext n.ext HW.out) Tryz.underlying133 rfl size_walk ?_;simp only[zJ,zG,zH,zI])
       |(refine wpQuiet_load_row (o:=⟨some 44,.load 141 _,_,_,_,_⟩) (by rfl) 141 _ rfl (w.heap.size+1+1) rfl 141 (setA f) (0,0) _ (by rintro _ ⟨n,rfl⟩;exact block_ext n.ext HS.out) Tryz.underlying141 rfl (by rw[setA_size];exact size_set) ?_;simp only[zJ,zG,zH,zI])
       |go_big_quiet_step (first
        |(go_at_call 94;exact HTG.out _)))
      refine wpQuiet_nil ?_;intro _ hw';obtain⟨n,rfl⟩:=hw';go_wp2
      go_ret
      exact⟨(congrArg (fun b=>Ending.returned (Value.bool b)) HR.out).symm,ext_trans HB.out n.ext⟩
     |true=>
      rw[htg,Bool.true_and] at HR;rw[htg] at HTG;clear htg
      go_wp2_with (fail)
      refine region_ext (by kernel_rfl) (by kernel_rfl) ?_
      repeat (first
       |go_big_quiet_skip
       |(refine wpQuiet_load_row (o:=⟨some 43,.load 133 _,_,_,_,_⟩) (by rfl) 133 _ rfl w.heap.size rfl 133 #[.slice d.pa d.pn d.pc,.slice d.ba d.bn d.bc,.slice d.ta d.bn d.tc,.slice d.fa d.bn d.fc] (0,0) _ (by rintro _ ⟨n,rfl⟩;exact block_ext n.ext HW.out) Tryz.underlying133 rfl size_walk ?_;simp only[zJ,zG,zH,zI])
       |(refine wpQuiet_load_row (o:=⟨some 44,.load 141 _,_,_,_,_⟩) (by rfl) 141 _ rfl (w.heap.size+1+1) rfl 141 (setA f) (0,0) _ (by rintro _ ⟨n,rfl⟩;exact block_ext n.ext HS.out) Tryz.underlying141 rfl (by rw[setA_size];exact size_set) ?_;simp only[zJ,zG,zH,zI])
       |(refine wpQuiet_load_row (o:=⟨some 48,.load 133 _,_,_,_,_⟩) (by rfl) 133 _ rfl w.heap.size rfl 133 #[.slice d.pa d.pn d.pc,.slice d.ba d.bn d.bc,.slice d.ta d.bn d.tc,.slice d.fa d.bn d.fc] (0,0) _ (by rintro _ ⟨n,rfl⟩;exact block_ext n.ext HW.out) Tryz.underlying133 rfl size_walk ?_;simp only[zJ,zG,zH,zI])
       |(refine wpQuiet_load_row (o:=⟨some 51,.load 141 _,_,_,_,_⟩) (by rfl) 141 _ rfl (w.heap.size+1+1) rfl 141 (setA f) (0,0) _ (by rintro _ ⟨n,rfl⟩;exact block_ext n.ext HS.out) Tryz.underlying141 rfl (by rw[setA_size];exact size_set) ?_;simp only[zJ,zG,zH,zI])
       |go_big_quiet_step (first
        |(go_at_call 94;exact HTG.out _)
        |(go_at_call 96;exact quiet_ext (less_any f x hx2 _))
        |(go_at_call 95;exact quiet_ext (rings_any d ts (lessS f x) t.ba t.bn t.bc t.d.blocks _ (HI.out.ext (ext_trans HB.out (ExtW.ext _))) HBS.out (HOK.out.ext (ext_trans HB.out (ExtW.ext _))) HG.out (less_canon HCF.out x)))))
      refine wpQuiet_nil ?_;intro _ hw';obtain⟨n,rfl⟩:=hw';go_wp2
      go_ret
      exact⟨(congrArg (fun b=>Ending.returned (Value.bool b)) HR.out).symm,ext_trans HB.out n.ext⟩
   ·have e2:(t.d.kind==2)=false:=by simpa using h2
    by_cases h4:t.d.kind=4
    ·have e4:(t.d.kind==4)=true:=by simp[h4]
     have HR:Hid (holdsB ts t.d f=(oneB t.d (entriesS ts f)&& !ringsB ts t.d.blocks f)):=by simp[Hid,holdsB,h4]
     clear h3 h2 h4;cases ho:oneB t.d (entriesS ts f) with
     |true=>
      rw[ho,Bool.true_and] at HR;clear ho;have hc2:wc.cell? ⟨w.heap.size+1,2,none⟩=some (.slice t.ba t.bn t.bc):=by rw[cell_of_row _ _ _ _ _ _ HT.out];rfl
      go_wp2_with (first
       |(refine wpList_load_row (o:=⟨some 61,.load 133 _,_,_,_,_⟩) rfl 133 _ rfl w.heap.size rfl 133 _ (0,0) _ HW.out Tryz.underlying133 rfl size_walk ?_)
       |(refine wpList_load_row (o:=⟨some 64,.load 141 _,_,_,_,_⟩) rfl 141 _ rfl (w.heap.size+1+1) rfl 141 _ (0,0) _ HS.out Tryz.underlying141 rfl (by rw[setA_size];exact size_set) ?_)
       |(go_at_call 95
         refine(rings_any d ts f t.ba t.bn t.bc t.d.blocks wc (HI.out.ext HB.out) HBS.out (HOK.out.ext HB.out) HG.out HCF.out).mono ?_;rintro e w3 ⟨rfl,hb3⟩;have HB3:=Lib.hid (ext_trans HB.out hb3)
         clear hb3))
      go_ret
      exact⟨(congrArg (fun b=>Ending.returned (Value.bool b)) HR.out).symm,HB3.out⟩
     |false=>
      rw[ho,Bool.false_and] at HR;clear ho;go_wp2
      go_ret
      exact⟨(congrArg (fun b=>Ending.returned (Value.bool b)) HR.out).symm,HB.out⟩
    ·have e4:(t.d.kind==4)=false:=by simpa using h4
     by_cases h1:t.d.kind=1
     ·have e1:(t.d.kind==1)=true:=by simp[h1]
      have HR:Hid (holdsB ts t.d f= !ringsB ts t.d.blocks f):=by simp[Hid,holdsB,h1]
      clear h3 h2 h4 h1;have hc2:wc.cell? ⟨w.heap.size+1,2,none⟩=some (.slice t.ba t.bn t.bc):=by rw[cell_of_row _ _ _ _ _ _ HT.out];rfl
      go_wp2_with (first
       |(refine wpList_load_row (o:=⟨some 61,.load 133 _,_,_,_,_⟩) rfl 133 _ rfl w.heap.size rfl 133 _ (0,0) _ HW.out Tryz.underlying133 rfl size_walk ?_)
       |(refine wpList_load_row (o:=⟨some 64,.load 141 _,_,_,_,_⟩) rfl 141 _ rfl (w.heap.size+1+1) rfl 141 _ (0,0) _ HS.out Tryz.underlying141 rfl (by rw[setA_size];exact size_set) ?_)
       |(go_at_call 95
         refine(rings_any d ts f t.ba t.bn t.bc t.d.blocks wc (HI.out.ext HB.out) HBS.out (HOK.out.ext HB.out) HG.out HCF.out).mono ?_;rintro e w3 ⟨rfl,hb3⟩;have HB3:=Lib.hid (ext_trans HB.out hb3)
         clear hb3))
      go_ret
      exact⟨(congrArg (fun b=>Ending.returned (Value.bool b)) HR.out).symm,HB3.out⟩
     ·have e1:(t.d.kind==1)=false:=by simpa using h1
      have HR:Hid (holdsB ts t.d f=false):=by simp[Hid,holdsB,h1,h2,h3,h4]
      clear h3 h2 h4 h1;go_wp2
      go_ret
      exact⟨(congrArg (fun b=>Ending.returned (Value.bool b)) HR.out).symm,HB.out⟩
end
end Go.Proofs.YtnmkjliioogbgaaGreatDoor
