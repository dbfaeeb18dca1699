/-
 Tile:all blocks of a tile.
-/
import Derived.Test.YtnmkjliioogbgaaGreatDoorMaps
import Derived.Deep.LoopGhost
import Derived.Shelf.Small.Wraps
import Derived.Shelf.Sort.Plain
import Derived.Shelf.Bits.Mul64
import Derived.Shelf.Slices.Reverse
import Derived.Ground.Names2Prog
import Derived.Shelf.Slices.Clone
import Derived.Shelf.Slices.CompactI
import Derived.Shelf.Slices.In.SortNone
import Derived.Shelf.SlicesE.Reverse
import Derived.Test.YtnmkjliioogbgaaGreatDoorProg
import Derived.Test.YtnmkjliioogbgaaGreatDoorTA
import Derived.Test.YtnmkjliioogbgaaGreatDoorInsR
import Derived.Deep.OwnRows
import Derived.Laws.CopyOwn
import Derived.Deep.DeepCutAuto
import Derived.Test.YtnmkjliioogbgaaGreatDoorNR
namespace Go.Proofs.YtnmkjliioogbgaaGreatDoor
set_option linter.unusedSimpArgs false
set_option linter.unusedVariables false
set_option linter.unusedSectionVars false
set_option maxRecDepth 100000
set_option maxHeartbeats 40000000
section
open Go.RowKit
def totL(l:List TileD):Nat:=(l.map fun t=>t.blocks.length).sum
theorem sum_take(l:List TileD):∀m,((l.take m).map fun t=>t.blocks.length).sum≤totL l:=by
 induction l with
 |nil=>intro m;simp[totL]
 |cons t l ih=>
  intro m;cases m with
  |zero=>simp[totL]
  |succ m=>have:=ih m;simp only[totL,List.take_succ_cons,List.map_cons,List.sum_cons] at this⊢;omega
theorem blkL_le(l:List TileD)(k:Nat):(blkL l k).length≤totL l:=by
 induction l generalizing k with
 |nil=>simp[totL,blkL]
 |cons t l ih=>
  cases k with
  |zero=>simp[totL,blkL]
  |succ k=>have:=ih k;simp only[totL,List.map_cons,List.sum_cons,blkL,List.getD_cons_succ] at this⊢;omega
theorem rawL_len(l:List TileD)(k m:Nat)(hm:m≤l.length):(rawL l k m).length≤2*totL l:=by
 have h1:∀m,m≤l.length→(((List.range m).filter fun n=>n != k&&descB l k n).flatMap (blkL l)).length≤((l.take m).map fun t=>t.blocks.length).sum:=by
  intro m
  induction m with
  |zero=>intro _;simp
  |succ m ih=>
   intro hm;have:=ih (by omega);rw[List.range_succ,List.filter_append,List.flatMap_append,List.length_append,List.take_add_one,List.getElem?_eq_getElem (by omega),List.map_append,List.sum_append];have e:(blkL l m).length=(l[m]'(by omega)).blocks.length:=by simp[blkL,List.getD_eq_getElem?_getD,show m<l.length by omega]
   by_cases hc:(m != k&&descB l k m)=true
   ·simp only[List.filter_cons,hc,if_true,List.filter_nil,List.flatMap_cons,List.flatMap_nil,List.append_nil,Option.toList_some,List.map_cons,List.map_nil,List.sum_cons,List.sum_nil];omega
   ·have hc':(m != k&&descB l k m)=false:=by simpa using hc
    simp only[List.filter_cons,hc',List.filter_nil,Option.toList_some,List.map_cons,List.map_nil,List.sum_cons,List.sum_nil];simp only[Bool.false_eq_true,if_false,List.flatMap_nil,List.length_nil];omega
 have h2:=h1 m hm
 have h3:=sum_take l m
 have h4:=blkL_le l k
 rw[rawL,List.length_append]
 omega
theorem rawL_zero(l:List TileD)(k:Nat):rawL l k 0=blkL l k:=by simp[rawL]
def upB(l:List TileD)(k m:Nat):Bool:=decide (0≤parL l m)&&descB l k (parL l m).toNat
theorem upB_self{l:List TileD}(hp:parentsB l=true)(k:Nat)(hk:k<l.length):upB l k k=false:=by
 rw[Bool.eq_false_iff]
 intro h
 simp only[upB,Bool.and_eq_true,decide_eq_true_eq] at h
 have h1:=(parentsB_iff l).1 hp k hk
 have:=descB_ge hp k _ (by omega) h.2
 omega
theorem rawL_step{l:List TileD}(hp:parentsB l=true)(k m:Nat)(hk:k<l.length)(hm:m<l.length):rawL l k (m+1)=if upB l k m then rawL l k m++blkL l m else rawL l k m:=by
 have e:(m != k&&descB l k m)=upB l k m:=by
  by_cases h:m=k
  ·subst h;rw[upB_self hp m hm];simp
  ·have h1:(m != k)=true:=by simpa using h
   have h2:(m==k)=false:=by simpa using h
   rw[h1,Bool.true_and,descB_eq hp k m hm,h2,Bool.false_or];rfl
 simp only[rawL,List.range_succ,List.filter_append,List.filter_cons,List.filter_nil,e,List.flatMap_append]
 cases upB l k m<;>simp
def belowF(l:List TileD)(k m:Nat):Int→Option Value:=fun x=>if x=k∨(0≤x∧x<m∧descB l k x.toNat=true) then some (.int .i64 1) else none
theorem belowF_zero(l:List TileD)(k:Nat):upd (fun _=>none) (k:Int) (.int .i64 1)=belowF l k 0:=by
 funext x
 by_cases e:x=k
 ·simp[upd,belowF,e]
 ·have:¬(0≤x∧x<((0:Nat):Int)∧descB l k x.toNat=true):=fun h=>by omega
  simp only[upd,belowF,if_neg e];rw[if_neg (fun h=>h.elim e this)]
theorem belowF_step{l:List TileD}(hp:parentsB l=true)(k m:Nat)(hk:k<l.length)(hm:m<l.length):belowF l k (m+1)=if upB l k m then upd (belowF l k m) (m:Int) (.int .i64 1) else belowF l k m:=by
 funext x
 have hd:m≠k→descB l k m=upB l k m:=fun h=>by
  have h2:(m==k)=false:=by simpa using h
  rw[descB_eq hp k m hm,h2,Bool.false_or];rfl
 by_cases e:x=m
 ·subst e;by_cases hmk:m=k
  ·subst hmk;rw[upB_self hp m hm];simp[belowF]
  ·have hne:¬(m:Int)=k:=by omega
   cases hu:upB l k m with
   |true=>
    have:belowF l k (m+1) (m:Int)=some (.int .i64 1):=by
     unfold belowF;rw[if_pos (.inr ⟨by omega,by omega,by simpa[hd hmk] using hu⟩)]
    rw[this];simp[upd]
   |false=>
    have h1:belowF l k (m+1) (m:Int)=none:=by
     unfold belowF;rw[if_neg];rintro(h|⟨_,_,h⟩)
     ·exact hne h
     ·rw[Int.toNat_natCast,hd hmk,hu] at h;cases h
    have h2:belowF l k m (m:Int)=none:=by
     unfold belowF;rw[if_neg];rintro(h|⟨_,h,_⟩)
     ·exact hne h
     ·omega
    rw[h1];simp[h2]
 ·have h1:belowF l k (m+1) x=belowF l k m x:=by
   unfold belowF
   congr 1
   rw[eq_iff_iff];constructor
   ·rintro(h|⟨a,b,c⟩)
    ·exact .inl h
    ·exact .inr ⟨a,by omega,c⟩
   ·rintro(h|⟨a,b,c⟩)
    ·exact .inl h
    ·exact .inr ⟨a,by omega,c⟩
  rw[h1];cases upB l k m<;>simp[upd,e]
theorem belowF_par{l:List TileD}(hp:parentsB l=true)(k m:Nat)(hm:m<l.length):(decide (0≤parL l m)&&(belowF l k m (parL l m)).isSome)=upB l k m:=by
 have h1:=(parentsB_iff l).1 hp m hm
 unfold upB
 by_cases h0:0≤parL l m
 ·rw[decide_eq_true h0,Bool.true_and,Bool.true_and];unfold belowF;by_cases hd:descB l k (parL l m).toNat=true
  ·rw[if_pos (.inr ⟨h0,by omega,hd⟩),hd];rfl
  ·rw[if_neg]
   ·have:descB l k (parL l m).toNat=false:=by simpa using hd
    rw[this];rfl
   ·rintro(h|⟨_,_,h⟩)
    ·rw[h,Int.toNat_natCast,descB_self] at hd;exact hd rfl
    ·exact hd h
 ·rw[decide_eq_false h0];rfl
theorem compact_inv(d:Array Int)(hs:∀i,i+1<d.size→d[i]!≤d[i+1]!):∀m,m≤d.size→(Lib.compactUpTo d m).Pairwise (· < ·)∧(∀y,y∈Lib.compactUpTo d m↔∃j,j<m∧d[j]! =y)∧(0<m→∀y∈Lib.compactUpTo d m,y≤d[m-1]!):=by
 intro m
 induction m with
 |zero=>intro _;refine⟨by simp[Lib.compactUpTo],fun y=>⟨fun h=>by simp[Lib.compactUpTo] at h,fun⟨j,h,_⟩=>by omega⟩,fun h=>by omega⟩
 |succ m ih=>
  intro hm;obtain⟨h1,h2,h3⟩:=ih (by omega);rw[Lib.compactUpTo_succ];have hle:0<m→∀y∈Lib.compactUpTo d m,y≤d[m]!:=fun h0 y hy=>by
   have:=h3 h0 y hy;have h4:=hs (m-1) (by omega);rw[show m-1+1=m by omega] at h4;omega
  by_cases hk:Lib.keeps d m=true
  ·rw[if_pos hk];have hlt:∀y∈Lib.compactUpTo d m,y<d[m]!:=fun y hy=>by
    have h0:0<m:=by
     rcases Nat.eq_zero_or_pos m with e|e
     ·subst e;simp[Lib.compactUpTo] at hy
     ·exact e
    simp only[Lib.keeps,decide_eq_true_eq] at hk;have hk:=hk.resolve_left (by omega);have:=h3 h0 y hy;have h4:=hs (m-1) (by omega);rw[show m-1+1=m by omega] at h4;omega
   refine⟨?_,fun y=>?_,fun _ y hy=>?_⟩
   ·rw[List.pairwise_append];exact⟨h1,by simp,fun y hy z hz=>by simp at hz;subst hz;exact hlt y hy⟩
   ·rw[List.mem_append,h2];constructor
    ·rintro(⟨j,hj,e⟩|h)
     ·exact⟨j,by omega,e⟩
     ·simp at h;exact⟨m,by omega,h.symm⟩
    ·rintro⟨j,hj,e⟩;by_cases hjm:j=m
     ·subst hjm;exact .inr (by simp[e])
     ·exact .inl ⟨j,by omega,e⟩
   ·rcases List.mem_append.1 hy with hy|hy
    ·have:=hlt y hy;simp;omega
    ·simp at hy;subst hy;simp
  ·rw[if_neg hk,List.append_nil];have hk':m≠0∧d[m]! =d[m-1]!:=by
    simp only[Lib.keeps,decide_eq_true_eq,not_or] at hk;exact⟨hk.1,Classical.not_not.1 hk.2⟩
   refine⟨h1,fun y=>?_,fun _ y hy=>by have:=hle (by omega) y hy;simpa using this⟩;rw[h2];constructor
   ·rintro⟨j,hj,e⟩;exact⟨j,by omega,e⟩
   ·rintro⟨j,hj,e⟩;by_cases hjm:j=m
    ·subst hjm;exact⟨j-1,by omega,by rw[←hk'.2,e]⟩
    ·exact⟨j,by omega,e⟩
theorem compact_sort(xs:List Int):Lib.compact (xs.mergeSort fun x y=>decide (x≤y))=sortD xs:=by
 have hp:=List.mergeSort_perm xs fun x y=>decide (x≤y)
 have hso:=List.pairwise_mergeSort (le:=fun x y:Int=>decide (x≤y)) (fun a b c h1 h2=>by simp at *;omega) (fun a b=>by simp;omega) xs
 generalize xs.mergeSort (fun x y=>decide (x≤y))=ys at*
 have hs:∀i,i+1<ys.toArray.size→ys.toArray[i]!≤ys.toArray[i+1]!:=fun i hi=>by
  have hi':i+1<ys.length:=by simpa using hi
  have:=List.pairwise_iff_getElem.1 hso i (i+1) (by omega) hi' (by omega);simp at this;simp[show i<ys.length by omega,hi'];exact this
 have h:=compact_inv ys.toArray hs ys.length (by simp)
 refine sorted_eq _ _ h.1 (sorted_sortD xs) fun y=>?_
 rw[mem_sortD,←hp.mem_iff]
 show y∈Lib.compactUpTo ys.toArray ys.length↔_
 rw[h.2.1]
 constructor
 ·rintro⟨j,hj,rfl⟩;simp[hj]
 ·intro hy;obtain⟨j,hj,e⟩:=List.mem_iff_getElem.1 hy;exact⟨j,hj,by simp[hj,e]⟩
end

section
open Go.RowKit
theorem zero_int(w:World):(zeroValue 3).run Tryz.prog w=.ok (.int .i64 0) w:=by kernel_rfl
def AllJ(w:World)(ls:List TileR)(k m M:Nat)(v:Value)(wr:World):Prop:=
 IMap wr M (belowF (tdOf ls) k m)∧OwnI wr (M+1) v (rawL (tdOf ls) k m)∧Below w.heap.size w wr∧w.heap.size≤M∧M<wr.heap.size
theorem all_any(a:Option Addr)(n c:Nat)(ls:List TileR)(k:Int)(w:World)(h:TilesOK w a n ls)(hk:I64 k)(hT:totL (tdOf ls)≤1000000):
  Calls Tryz.prog 61 #[.slice a n c,.int .i64 k] w (IntsPost w (allL (tdOf ls) k)):=by
 have hn:=h.1.2.1
 have HL:=Lib.hid h.1.1
 have H:=Lib.hid h
 obtain⟨hk1,hk2⟩:=hk
 clear h
 by_cases hr:0≤k∧k<n
 rotate_left
 ·have HE:Hid (allL (tdOf ls) k= []):=by
   rw[Hid,allL,if_neg];rw[tdOf_len,HL.out];exact fun h=>hr ⟨h.1,h.2.1⟩
  by_cases h0:k<0
  all_goals
   go_enter Tryz.func61,Tryz.ntmps61
   go_wp2
   go_ret
   rw[HE.out];exact⟨_,rfl,OwnI.nil _ _,Below.refl _ _⟩
 obtain⟨hr1,hr2⟩:=hr
 have hr3:¬k<0:=by omega
 obtain⟨kn,rfl⟩:∃kn:Nat,k=(kn:Int):=⟨k.toNat,by omega⟩
 by_cases hp:parentsB (tdOf ls)=true
 rotate_left
 ·have HE:Hid (allL (tdOf ls) (kn:Int)= []):=by
   rw[Hid,allL,if_neg];exact fun h=>hp h.2.2
  have hp':parentsB (tdOf ls)=false:=by simpa using hp
  have HP:=Lib.hid hp';clear hp hp'
  go_enter Tryz.func61,Tryz.ntmps61
  go_wp2_with (go_at_call 56;refine(parents_any a n c ls w H.out).mono ?_;rintro e w1 ⟨rfl,hb⟩;rw[HP.out];have HB:=Lib.hid hb;clear hb)
  go_ret
  rw[HE.out];exact⟨_,rfl,OwnI.nil _ _,HB.out⟩
 have HP:=Lib.hid hp
 have hkl:kn<ls.length:=by rw[HL.out];omega
 have HEA:Hid (allL (tdOf ls) (kn:Int)=sortD (rawL (tdOf ls) kn (tdOf ls).length)):=by
  rw[Hid,allL,if_pos ⟨by omega,by rw[tdOf_len];omega,hp⟩,Int.toNat_natCast]
 clear hp
 have hmm:= @run_makeMap Tryz.prog
 go_enter Tryz.func61,Tryz.ntmps61
 go_upto_region 3 with (first
  |(go_at_call 56
    refine(parents_any a n c ls w H.out).mono ?_;rintro e w1 ⟨rfl,hb⟩;rw[HP.out];have HB:=Lib.hid hb
    clear hb))
 obtain⟨o0,hput0,hmap0⟩:=IMap.put (P:=Tryz.prog) (IMap.made w1) Tryz.underlying51 Tryz.underlying3 (kn:Int) (.int .i64 1)
 rw[belowF_zero (tdOf ls)] at hmap0
 have HM0:=Lib.hid hmap0
 clear hmap0
 go_upto_region 4 with (fail)
 obtain⟨W,hW⟩:∃W,W=(w1.alloc (.map #[] 0)).putObj w1.heap.size o0:=⟨_,rfl⟩
 rw[←hW]
 rw[←hW] at HM0
 have hWB:Below w1.heap.size w1 W:=by rw[hW];exact((Below.refl _ w1).alloc (Nat.le_refl _) _).grown (grownBy_putObj' _ w1.heap.size o0) (by simp) (fun k e=>by cases e;exact Nat.le_refl _)
 have hWs:W.heap.size=w1.heap.size+1:=by rw[hW];simp
 have HWB:=Lib.hid hWB
 have HWs:=Lib.hid hWs
 obtain⟨t,b,o,hlk,hok,rfl,c0,c1,c2⟩:=((H.out.ext HB.out).ext hWB).cells (k:=kn) (by omega)
 have HTK:Hid (blkL (tdOf ls) kn=t.d.blocks):=by rw[Hid,blkL,tdOf_at ls kn t hlk]
 have HOK:=Lib.hid hok.1
 clear hput0 hmm hW hWB hWs hlk hok
 go_upto_region 5 with (first
  |(go_at_call 97
    refine(cloneInts_any t.ba t.bn t.bc t.d.blocks W HOK.out).mono ?_;rintro e w2 ⟨v,rfl,ho,hb⟩;have HO:=Lib.hid ho;have HB2:=Lib.hid hb
    clear ho hb))
 have HJ0:Hid (AllJ w ls kn 0 w1.heap.size v w2):=by
  refine⟨HM0.out.ext HB2.out,?_,ext_trans (ext_trans HB.out HWB.out) HB2.out,HB.out.size,?_⟩
  ·have h1:=HO.out.mono (base':=w1.heap.size+1) (by rw[HWs.out];omega);rw[rawL_zero,HTK.out];exact h1
  ·have:=HB2.out.size;rw[HWs.out] at this;omega
 generalize w1.heap.size=M at*
 clear c0 c1 c2 HOK HTK HO HB2 HM0 HWB HWs HB
 go_wp2
 go_loopg [6,33] n (fun gg s6 s33 wr=>∃(m:Nat),s33=.int .i64 (m:Int)∧m≤n∧n≤gg+m∧Hid (AllJ w ls kn m M s6 wr))
 case atStart=>exact⟨0,rfl,Nat.zero_le _,Nat.le_refl _,HJ0⟩
 case round=>
  obtain⟨m,rfl,hm,hgg,HJ⟩:=hrel;clear HJ0;by_cases hlt:m<n
  ·have hml:m<(tdOf ls).length:=by rw[tdOf_len,HL.out];exact hlt
   have hkl2:kn<(tdOf ls).length:=by rw[tdOf_len];exact hkl
   obtain⟨t,b2,o2,hlk,hok,e2,c0',c1',c2'⟩:=H.out.cells hlt;have c0:=cell_ext HJ.out.2.2.1 c0';have c1:=cell_ext HJ.out.2.2.1 c1';have c2:=cell_ext HJ.out.2.2.1 c2';clear c0' c1' c2';injection e2 with e2;injection e2 with e2 e3;subst e2 e3;have htd:=tdOf_at ls m t hlk;have HTP:Hid (parL (tdOf ls) m=t.d.parent):=by rw[Hid,parL,htd]
   have HTB:Hid (blkL (tdOf ls) m=t.d.blocks):=by rw[Hid,blkL,htd]
   have HRS:=Lib.hid (rawL_step HP.out kn m hkl2 hml);have HBS:=Lib.hid (belowF_step HP.out kn m hkl2 hml);have HBP:=Lib.hid (belowF_par HP.out kn m hml);have HRL:=Lib.hid (rawL_len (tdOf ls) kn m (by omega));have HOK:=Lib.hid hok.1;have hp1:=hok.2.2.2.1;have hp2:=hok.2.2.2.2;have hbl:t.d.blocks.length=t.bn:=hok.1.1;have hble:=blkL_le (tdOf ls) m;rw[HTB.out,hbl] at hble;have HBL:=Lib.hid hbl;clear hlk htd hok hbl;go_upto_region 8 with (fail)
   obtain⟨W1,hW1⟩:∃W1,W1=wr.alloc (tileO t):=⟨_,rfl⟩
   rw[←hW1];have hB1:Below wr.heap.size wr W1:=by rw[hW1];exact ext_alloc _ _
   have hx1:W1.heap[wr.heap.size]? =some (tileO t):=by rw[hW1,heap_alloc_new]
   have d1:W1.cell? ⟨wr.heap.size,1,none⟩=some (.int .i64 t.d.parent):=by rw[cell_of_row _ _ _ _ _ _ hx1];rfl
   have d2:W1.cell? ⟨wr.heap.size,2,none⟩=some (.slice t.ba t.bn t.bc):=by rw[cell_of_row _ _ _ _ _ _ hx1];rfl
   have HIM:=Lib.hid (HJ.out.1.ext hB1);have HO:=Lib.hid (HJ.out.2.1.ext hB1);have HBW:=Lib.hid (ext_trans HJ.out.2.2.1 hB1);have hMs:M<W1.heap.size:=by have:=HJ.out.2.2.2.2;have:=hB1.size;omega
   have hwM:=HJ.out.2.2.2.1;have hqM:M<wr.heap.size:=HJ.out.2.2.2.2;have hlk:=IMap.look (w:=W1) (P:=Tryz.prog) HIM.out Tryz.underlying51 Tryz.underlying3 (zero_int _) t.d.parent;have HX1:=Lib.hid hx1;have HB1:=Lib.hid hB1;clear hW1 hx1 hB1 c0 c1 c2 HJ;generalize hq:wr.heap.size=q at *;clear hq;have HUP:Hid ((decide (0≤t.d.parent)&&(belowF (tdOf ls) kn m t.d.parent).isSome)=upB (tdOf ls) kn m):=by rw[Hid,←HTP.out];exact HBP.out
   have HLK:Hid (∀x,belowF (tdOf ls) kn m x=none∨belowF (tdOf ls) kn m x=some (.int .i64 1)):=fun x=>by
    unfold belowF;by_cases hc:x=kn∨(0≤x∧x<m∧descB (tdOf ls) kn x.toNat=true)
    ·exact .inr (if_pos hc)
    ·exact .inl (if_neg hc)
   cases hu:upB (tdOf ls) kn m with
   |false=>
    have HN:Hid (AllJ w ls kn (m+1) M u6 W1):=by
     refine⟨?_,?_,HBW.out,hwM,hMs⟩
     ·rw[HBS.out,hu];exact HIM.out
     ·rw[HRS.out,hu];exact HO.out
    have hu2:=HUP.out;rw[hu] at hu2;by_cases h0:0≤t.d.parent
    ·have hno:belowF (tdOf ls) kn m t.d.parent=none:=by
      rcases HLK.out t.d.parent with e|e
      ·exact e
      ·rw[e,decide_eq_true h0] at hu2;cases hu2
     rw[hno] at hlk;simp only[Option.getD_none] at hlk;clear hu2 hu hno;go_wp2
     go_roundg (n-(m+1))
     case measure=>omega
     case rel=>exact⟨m+1,by go_num,by omega,by omega,HN⟩
    ·clear hu2 hu hlk;go_wp2
     go_roundg (n-(m+1))
     case measure=>omega
     case rel=>exact⟨m+1,by go_num,by omega,by omega,HN⟩
   |true=>
    have hu2:=HUP.out;rw[hu] at hu2;have h0:0≤t.d.parent:=by
     by_cases h0:0≤t.d.parent
     ·exact h0
     ·rw[decide_eq_false h0] at hu2;cases hu2
    have hyes:belowF (tdOf ls) kn m t.d.parent=some (.int .i64 1):=by
     rcases HLK.out t.d.parent with e|e
     ·rw[e,decide_eq_true h0] at hu2;cases hu2
     ·exact e
    rw[hyes] at hlk;simp only[Option.getD_some] at hlk;obtain⟨o1,hput1,hmap1⟩:=IMap.put (P:=Tryz.prog) HIM.out Tryz.underlying51 Tryz.underlying3 (m:Int) (.int .i64 1);have hgp:=grownBy_putObj' W1 M o1;have HIM2:Hid (IMap (W1.putObj M o1) M (belowF (tdOf ls) kn (m+1))):=by rw[Hid,HBS.out,hu];exact hmap1
    have HR2:Hid (rawL (tdOf ls) kn (m+1)=rawL (tdOf ls) kn m++t.d.blocks):=by rw[Hid,HRS.out,hu,←HTB.out];rfl
    have hlow:∀r,u6.ownBlock=some r→M+1≤r:=fun r e=>(HO.out.1.lt r e).1
    have HO2:=Lib.hid (HO.out.kept hgp (by
     cases e:u6.ownBlock with
     |none=>exact .inl rfl
     |some r=>exact .inr fun e2=>by injection e2 with e2;have:=hlow r e;omega))
    have HBW2:=Lib.hid (HBW.out.grown hgp (by omega) (fun r e=>by cases e;exact hwM));have hx2:(W1.putObj M o1).heap[q]? =some (tileO t):=(World.putObj_heap_other (by omega)).trans HX1.out;have d3:(W1.putObj M o1).cell? ⟨q,2,none⟩=some (.slice t.ba t.bn t.bc):=by rw[cell_of_row _ _ _ _ _ _ hx2];rfl
    have HI2:Hid (Ints (W1.putObj M o1) t.ba t.bn t.d.blocks):=HOK.out.ext HBW2.out;have hsz2:(W1.putObj M o1).heap.size=W1.heap.size:=by simp
    obtain⟨av,cv,hv⟩:=HO.out.form;have hrl:=HRL.out;have hh:=HO.out.2.1;clear hu2 hu hyes hmap1 hgp hx2;have HHH:=Lib.hid hh;clear hh
    go_wp2_with (
     (at_builtin
      refine wpList_appendR (W1.putObj M o1) rfl (.tmp 50) (.tmp 52) 22 3 rfl (M+1) _ 1 8 Tryz.underlying22 infoI rfl (by omega) u6 (rawL (tdOf ls) kn m).length _ rfl HO2.out.1 t.ba t.bn t.bc rfl (intVals t.d.blocks) (by rw[intVals_len,HBL.out,Nat.mul_one]) HI2.out.news (intVals_one _) (by simp only[maxLen];omega) (by omega) (by simp;omega) ?_;intro v3 w3 ho3 hg3 hv3;have HO3:=Lib.hid ho3;have HG3:=Lib.hid hg3
      clear ho3 hg3 hv3))
    go_roundg (n-(m+1))
    case measure=>omega
    case rel=>
     refine⟨m+1,by go_num,by omega,by omega,HIM2.out.grown HG3.out (fun e=>by have:=hlow M e.symm;omega),?_,HBW2.out.grown HG3.out (by rw[hsz2];omega) (fun r e=>by have:=hlow r e;omega),hwM,by have:=HG3.out.size;rw[hsz2] at this;omega⟩;rw[HR2.out];refine⟨?_,?_,by rw[List.length_append,HBL.out];omega⟩
     ·have e3:(rawL (tdOf ls) kn m++t.d.blocks).length=(rawL (tdOf ls) kn m).length+t.bn:=by rw[List.length_append,HBL.out]
      have e4:intVals (rawL (tdOf ls) kn m++t.d.blocks)=intVals (rawL (tdOf ls) kn m)++intVals t.d.blocks:=by simp[intVals]
      rw[e3,e4];exact HO3.out
     ·intro z hz;rcases List.mem_append.1 hz with hz|hz
      ·exact HHH.out z hz
      ·exact HOK.out.mem z hz
  ·obtain rfl:m=n:=by omega
   have HJ1:=HJ.out.2.1;have HJ2:=Lib.hid HJ.out.2.2;have HO:=Lib.hid HJ1;clear HJ1 HJ
   go_wp2_with (first
    |(go_at_call 98
      refine(compactI_any _ _ _ w4 HO4.out).mono ?_;rintro e w5 ⟨v5,rfl,ho,hg⟩;have HO5:=Lib.hid ho;have HG5:=Lib.hid hg
      clear ho hg)
    |(go_at_call 83
      refine(sortI_any _ _ _ wr HO.out).mono ?_;rintro e w4 ⟨rfl,ho,hg⟩;have HO4:=Lib.hid ho;have HG4:=Lib.hid hg
      clear ho hg))
   go_ret
   have e1:(tdOf ls).length=m:=by rw[tdOf_len,HL.out]
   rw[HEA.out,e1,←compact_sort];have hlow:∀r,u6.ownBlock=some r→M+1≤r:=fun r e=>(HO.out.1.lt r e).1;have hs4:=HG4.out.size;refine⟨_,rfl,HO5.out.mono (by have:=HJ2.out.2.1;omega),(HJ2.out.1.grown HG4.out HJ2.out.1.size (fun r e=>by have:=hlow r e;have:=HJ2.out.2.1;omega)).grown HG5.out (by have:=HJ2.out.1.size;omega) (fun r e=>by have:=hlow r e;have:=HJ2.out.2.1;omega)⟩
end

section
open Go.Shelf
def lays212_ren:Go.Shelf.Ren:=⟨fun|212=>136|263=>167|264=>168|n=>n,fun|46=>172|51=>218|146=>252|53=>118|148=>254|n=>n,fun|n=>n⟩
theorem lays212:Go.Proofs.Lays.n212 Tryz.prog lays212_ren:={
 mixed:=by kernel_rfl
 f212:=Tryz.func136.trans (congrArg some (by kernel_rfl))
 f263:=Tryz.func167.trans (congrArg some (by kernel_rfl))
 f264:=Tryz.func168.trans (congrArg some (by kernel_rfl))
 t46:=Tryz.underlying172
 a46:=Tryz.isAgg172
 z46:=Tryz.sizeOf172
 v46:=Tryz.zeroValue172
 t51:=Tryz.underlying218
 a51:=Tryz.isAgg218
 z51:=Tryz.sizeOf218
 v51:=Tryz.zeroValue218
 t53:=Tryz.underlying118
 a53:=Tryz.isAgg118
 z53:=Tryz.sizeOf118
 v53:=Tryz.zeroValue118
 t146:=Tryz.underlying252
 a146:=Tryz.isAgg252
 z146:=Tryz.sizeOf252
 v146:=Tryz.zeroValue252
 t148:=Tryz.underlying254
 a148:=Tryz.isAgg254
 z148:=Tryz.sizeOf254
 v148:=Tryz.zeroValue254}
open Go.RowKit Go.Lib in
theorem bits_Mul(x y:Nat)(hx:x<18446744073709551616)(hy:y<18446744073709551616)(w:World):
  Calls Tryz.prog 136 #[.int .u64 x,.int .u64 y] w fun e w'=>e=.returned (.tuple #[.int .u64 ((x*y/18446744073709551616:Nat):Int),.int .u64 ((x*y%18446744073709551616:Nat):Int)])∧w'=w:=Any.bits_Mul lays212 x y hx hy w
end

section
open Go.RowKit
theorem op_copyS{P:Program}{o:Oper}{a:Act}{w:World}{K:Act→World→Prop}{Q:Exit→Act→World→Prop}(hgd:o.guard=none)(d s:Operand)(dT sT:TypeId)
  (ho:o.op=.call {callee:=.builtin .copy,args:=#[d,s],argTypes:=#[dT,sT]}) (elem:TypeId) (hu:P.underlying dT=some (.slice elem)) (hsz:(P.info? elem).map (·.size)=some 1)
  (dp sp:Option Addr) (dLen dCap sLen sCap:Nat) (hd:a.eval d=.slice dp dLen dCap) (hs:a.eval s=.slice sp sLen sCap)
  (g off:Nat) (cur:List Value) (t:TypeId) (hg:w.heap[g]? =some (.cells cur.toArray t (0,0))) (cs:List Value) (hn:cs.length=Nat.min sLen dLen)
  (hpos:0<cs.length→dp=some ⟨g,off,none⟩∧∃ad,sp=some ad∧∀j v,cs[j]? =some v→w.cell? (ad.add j)=some v)
  (hfit:off+cs.length≤cur.length) (h1:∀v∈cs,v.oneCell'=true) (B:Nat) (w0:World) (hb:Below B w0 w) (hBg:B≤g)
  (h:∀w',Hid (w'.heap[g]? =some (.cells (splice cur off cs).toArray t (0,0)))→Below B w0 w'→K (a.put o.dst (goInt cs.length)) w'):Oper.wp P o a w K Q:=by
 have:=step_copy_splice (P:=P) (ops:=#[]) (Q:=Q) (E:=True) hgd d s dT sT ho elem hu hsz dp sp dLen dCap sLen sCap hd hs g off cur t hg cs hn hpos hfit h1 B w0 hb hBg h
 rwa [if_pos (by simp[Region.wanted,hgd])] at this
def repL(x:Int)(n j:Nat):List Value:=List.replicate j (.int .i64 x)++List.replicate (n-j) (.int .i64 0)
theorem repL_len(x:Int)(n j:Nat)(h:j≤n):(repL x n j).length=n:=by simp[repL];omega
theorem repL_splice(x:Int)(n j m:Nat)(h:j+m≤n):splice (repL x n j) j (List.replicate m (.int .i64 x))=repL x n (j+m):=by
 unfold splice repL
 rw[List.take_append_of_le_length (by simp),List.take_of_length_le (by simp),List.drop_append,List.length_replicate,List.length_replicate,List.drop_of_length_le (by simp),List.nil_append,List.drop_replicate,←List.append_assoc]<;>try rw[List.replicate_append_replicate,show n-j-(j+m-j)=n-(j+m) by omega]
theorem repL_at(x:Int)(n j i:Nat)(hi:i<j):(repL x n j)[i]? =some (.int .i64 x):=by
 unfold repL
 rw[List.getElem?_append_left (by simpa using hi)]
 simp[hi]
theorem repeat_any(n g:Nat)(x:Int)(hx:I64 x)(h1:1≤n)(h2:n≤1000000)(w:World)(hc:w.cell? ⟨g,0,none⟩=some (.int .i64 x)):
  Calls Tryz.prog 91 #[.slice (some ⟨g,0,none⟩) 1 1,.int .i64 (n:Int)] w (IntsPost w (List.replicate n x)):=by
 have HC:=Lib.hid hc
 clear hc
 have e1:1*n/18446744073709551616=0:=Nat.div_eq_of_lt (by omega)
 have e2:1*n%18446744073709551616=n:=by rw[Nat.one_mul];exact Nat.mod_eq_of_lt (by omega)
 have E1:=Lib.hid e1
 have E2:=Lib.hid e2
 clear e1 e2
 have hmk:=run_make_row' (P:=Tryz.prog) 22 3 (.int .i64 0) 8 Tryz.underlying22 infoI rfl .i64 .i64 n (by omega) (by omega) w
 go_enter Tryz.func91,Tryz.ntmps91
 go_upto_region 7 with (first
  |(go_at_call 136
    refine(bits_Mul 1 n (by omega) (by omega) w).mono ?_;rintro e w' ⟨rfl,he⟩;obtain rfl:=he.symm
    rw[E1.out,E2.out]))
 obtain⟨W,hW⟩:∃W,W=w.alloc (.cells (madeCells #[.int .i64 0] n) 3):=⟨_,rfl⟩
 rw[←hW]
 have hg0:W.heap[w.heap.size]? =some (.cells (repL x n 0).toArray 3 (0,0)):=by
  rw[hW,heap_alloc_new]
  congr 2
  apply Array.ext_getElem?;intro k;by_cases hk:k<n
  ·simp[madeCells,repL,hk,Nat.mod_one]
  ·rw[Array.getElem?_eq_none (by simp[madeCells];omega),Array.getElem?_eq_none (by simp[repL];omega)]
 have hB:Below w.heap.size w W:=by rw[hW];exact(Below.refl _ w).alloc (Nat.le_refl _) _
 have HG0:=Lib.hid hg0
 have HB:=Lib.hid hB
 have hsz:(Tryz.prog.info? 3).map (·.size)=some 1:=by kernel_rfl
 have HSZ:=Lib.hid hsz
 have HCW:=Lib.hid (cell_ext hB HC.out)
 clear hW hg0 hB hmk hsz
 go_wp2_with (
  (refine wpList_copy_splice (o:=⟨some 33,_,_,_,_,_⟩) rfl (.tmp 31) (.tmp 32) 22 22 rfl 3 Tryz.underlying22 HSZ.out (some ⟨w.heap.size,0,none⟩) (some ⟨g,0,none⟩) n n 1 1 rfl rfl w.heap.size 0 (repL x n 0) 3 HG0.out (List.replicate 1 (.int .i64 x)) (by simp[Nat.min_def];omega) (fun _=>⟨rfl,_,rfl,fun j v hj=>by
    have hj0:j=0:=by have:=(List.getElem?_eq_some_iff.1 hj).1;simpa using this
    subst hj0;have hv:v=.int .i64 x:=by simpa using hj.symm
    subst hv;rw[addr_add]
    exact HCW.out⟩) (by rw[repL_len _ _ _ (by omega)];simp;omega) (by intro v hv;have:=(List.mem_replicate.1 hv).2;subst this;rfl) w.heap.size w HB.out (Nat.le_refl _) ?_
   intro w2 hg2 hb2;have HG2:=hg2;have HB2:=Lib.hid hb2
   clear hg2 hb2))
 rw[repL_splice _ _ _ _ (by omega),Nat.zero_add] at HG2
 clear HG0 HB HCW
 go_loopg [8] n (fun gg s8 wr=>∃(j:Nat),s8=.int .i64 (j:Int)∧1≤j∧j≤n∧n≤gg+j∧Hid (wr.heap[w.heap.size]? =some (.cells (repL x n j).toArray 3 (0,0)))∧Hid (Below w.heap.size w wr))
 case atStart=>exact⟨1,rfl,Nat.le_refl _,h1,by omega,HG2,HB2⟩
 case round=>
  obtain⟨j,rfl,hj1,hj2,hgg,HG,HB⟩:=hrel;clear HG2 HB2;by_cases hlt:j<n
  ·have hm1:1≤Nat.min j (n-j):=by simp[Nat.min_def];split<;>omega
   have hm2:j+Nat.min j (n-j)≤n:=by simp[Nat.min_def];split<;>omega
   have hm3:Nat.min j (n-j)≤j:=Nat.min_le_left _ _;have hlt':(j:Int)<(n:Int):=by omega
   have hj0:(0:Int)≤(j:Int):=by omega
   go_upto_region 9 with (fail)
   refine z_start (fun w'=>∃q:ClsW (fun q=>Below w.heap.size w q),w'=q.val) (by kernel_rfl) ?_;obtain⟨v0,F0,G0,hv0⟩:∃v0,Below w.heap.size w v0∧v0.heap[w.heap.size]? =some (.cells (repL x n j).toArray 3 (0,0))∧wr.drew=v0:=⟨_,below_drewN HB.out 1,HG.out,rfl⟩
   rw[hv0];clear hv0
   haveI:Nonempty (ClsW (fun q=>Below w.heap.size w q)):=cls_ne (Below.refl _ _)
   refine z_reads 0 7 (by kernel_rfl) ⟨⟨_,F0⟩,rfl⟩ ?_;simp only[List.take_succ_cons,List.take_zero,List.drop_succ_cons,List.drop_zero]
   repeat (go_big_quiet_step (fail))
   refine wpQuiet_nil ?_;refine z_one 7 (by kernel_rfl) ?_;refine wpOp_at rfl rfl ?_
   refine op_copyS rfl (.tmp 41) (.tmp 44) 22 22 rfl 3 Tryz.underlying22 HSZ.out (some ⟨w.heap.size,j,none⟩) (some ⟨w.heap.size,0,none⟩) (n-j) (n-j) j n rfl rfl w.heap.size j (repL x n j) 3 G0 (List.replicate (Nat.min j (n-j)) (.int .i64 x)) (by simp) (fun _=>⟨rfl,_,rfl,fun i v hi=>by
    have hi0:i<Nat.min j (n-j):=by have:=(List.getElem?_eq_some_iff.1 hi).1;simpa using this
    have hv:v=.int .i64 x:=by rw[List.getElem?_replicate,if_pos hi0] at hi;injection hi with hi;exact hi.symm
    subst hv;rw[addr_add,cell_of_row _ _ _ _ _ _ G0,Nat.zero_add];have:=repL_at x n j i (by omega)
    simpa using this⟩) (by rw[repL_len _ _ _ hj2];simpa using hm2) (by intro v hv;have:=(List.mem_replicate.1 hv).2;subst this;rfl) w.heap.size w F0 (Nat.le_refl _) ?_
   intro w3 hg3 hb3;rw[List.length_replicate];rw[repL_splice _ _ _ _ hm2] at hg3;generalize Nat.min j (n-j)=m at *;simp only[goInt];refine⟨Or.inr ⟨⟨_,hb3⟩,rfl⟩,?_⟩
   try simp only[Act.put,List.setIfInBounds_toArray,List.set_cons_succ,List.set_cons_zero]
   refine z_reads 8 2 (by kernel_rfl) ⟨⟨_,hb3⟩,rfl⟩ ?_;simp only[List.take_succ_cons,List.take_zero,List.drop_succ_cons,List.drop_zero]
   repeat (go_big_quiet_step (fail))
   refine wpQuiet_nil ?_;refine z_done (by kernel_rfl) ?_;clear hlt';go_wp2
   go_roundg (n-(j+m))
   case measure=>omega
   case rel=>exact⟨j+m,by go_num,by omega,hm2,by omega,hg3,hb3⟩
  ·obtain rfl:j=n:=by omega
   go_wp2
   go_ret
   refine⟨_,rfl,⟨⟨by simp[intVals],.inr ⟨w.heap.size,j,(repL x j j).toArray,by simp,Nat.le_refl _,HG.out,by simp,by unfold maxLen;omega,by simp[repL],by simp[repL,intVals]⟩⟩,?_,by simp;omega⟩,HB.out⟩;intro z hz;rw[(List.mem_replicate.1 hz).2];exact hx
end

section
open Go.RowKit
def homesAt(l:List TileD)(k i b:Nat):List Nat:=((List.range k).flatMap fun q=>((blkL l q).filter fun x=>x==(b:Int)).map fun _=>q)++(((blkL l k).take i).filter fun x=>x==(b:Int)).map fun _=>k
theorem homesAt_zero(l:List TileD)(b:Nat):homesAt l 0 0 b= []:=by simp[homesAt]
theorem homesAt_next(l:List TileD)(k b:Nat):homesAt l k (blkL l k).length b=homesAt l (k+1) 0 b:=by
 simp only[homesAt,List.take_length,List.range_succ,List.flatMap_append,List.flatMap_cons,List.flatMap_nil,List.append_nil,List.take_zero,List.filter_nil,List.map_nil]
theorem homesAt_end(l:List TileD)(b:Nat):homesAt l l.length 0 b=homes l b:=by simp[homesAt,homes]
theorem homesAt_step(l:List TileD)(k i:Nat)(x:Int)(h:(blkL l k)[i]? =some x)(b:Nat):homesAt l k (i+1) b=if (b:Int)=x then homesAt l k i b++ [k] else homesAt l k i b:=by
 have e:(blkL l k).take (i+1)=(blkL l k).take i++ [x]:=by rw[List.take_add_one,h];rfl
 simp only[homesAt,e,List.filter_append,List.map_append]
 by_cases hb:(b:Int)=x
 ·rw[←hb];simp
 ·have:(x==(b:Int))=false:=by simpa using fun e=>hb e.symm
  simp[hb,this]
theorem homesAt_le(l:List TileD)(k i b:Nat)(hk:k<l.length):∃r,homes l b=homesAt l k i b++r:=by
 have h1:∃r,homesAt l k (blkL l k).length b=homesAt l k i b++r:=by
  refine⟨(((blkL l k).drop i).filter fun x=>x==(b:Int)).map fun _=>k,?_⟩;simp only[homesAt,List.take_length,List.append_assoc]
  congr 1
  rw[←List.map_append,←List.filter_append,List.take_append_drop]
 obtain⟨r,hr⟩:=h1
 have h2:∀m,k+1≤m→∃r,homesAt l m 0 b=homesAt l (k+1) 0 b++r:=by
  intro m
  induction m with
  |zero=>intro h;omega
  |succ m ih=>
   intro hm;by_cases e:m=k
   ·subst e;exact⟨[],by simp⟩
   ·obtain⟨r,hr⟩:=ih (by omega);refine⟨r++((blkL l m).filter fun x=>x==(b:Int)).map fun _=>m,?_⟩;rw[←List.append_assoc,←hr];simp[homesAt,List.range_succ]
 obtain⟨r2,hr2⟩:=h2 l.length (by omega)
 refine⟨r++r2,?_⟩
 rw[←homesAt_end,hr2,←homesAt_next,hr,List.append_assoc]
def ownV:List Nat→Int
 | []=>-1
 |k :: _=>(k:Int)
theorem ownV_neg(h:List Nat):ownV h<0↔h= []:=by cases h<;>simp[ownV]
def curL(l:List TileD)(n k i:Nat):List Int:=(List.range n).map fun b=>ownV (homesAt l k i b)
theorem curL_len(l:List TileD)(n k i:Nat):(curL l n k i).length=n:=by simp[curL]
theorem curL_at(l:List TileD)(n k i b:Nat)(h:b<n):(curL l n k i).getD b 0=ownV (homesAt l k i b):=by simp[curL,List.getD_eq_getElem?_getD,h]
theorem curL_set(l:List TileD)(n k i b:Nat)(hx:(blkL l k)[i]? =some (b:Int))(h0:homesAt l k i b= []):(curL l n k i).set b (k:Int)=curL l n k (i+1):=by
 apply List.ext_getElem?
 intro j
 rw[List.getElem?_set]
 simp only[curL,List.length_map,List.length_range,List.getElem?_map]
 by_cases hj:j<n
 ·rw[List.getElem?_range hj];by_cases e:b=j
  ·subst e;simp[hj,homesAt_step l k i (b:Int) hx b,h0,ownV]
  ·rw[if_neg e];have e2:¬(j:Int)=(b:Int):=by omega
   simp[homesAt_step l k i (b:Int) hx j,e2]
 ·rw[List.getElem?_eq_none (by simpa using hj)];by_cases e:b=j
  ·subst e;simp[hj]
  ·simp[e]
theorem curL_skip(l:List TileD)(n k i:Nat)(x:Int)(hx:(blkL l k)[i]? =some x)(h:x<0∨(n:Int)≤x):curL l n k i=curL l n k (i+1):=by
 unfold curL
 refine List.map_congr_left fun b hb=>?_
 have:=List.mem_range.1 hb
 rw[homesAt_step l k i x hx b,if_neg (by omega)]
theorem curL_next(l:List TileD)(n k:Nat):curL l n k (blkL l k).length=curL l n (k+1) 0:=by
 unfold curL
 exact List.map_congr_left fun b _=>by rw[homesAt_next]
theorem curL_zero(l:List TileD)(n:Nat):curL l n 0 0=List.replicate n (-1):=by
 apply List.ext_getElem?
 intro j
 by_cases hj:j<n<;>simp[curL,homesAt_zero,ownV,hj]
theorem curL_end(l:List TileD)(n:Nat)(h1:∀b,b<n→(homes l b).length≤1)(h2:(-1:Int)∉curL l n l.length 0):ownB l n=true∧curL l n l.length 0=ownL l n:=by
 have h3:∀b,b<n→homes l b≠[]:=fun b hb e=>by
  apply h2;unfold curL;rw[List.mem_map];exact⟨b,List.mem_range.2 hb,by rw[homesAt_end,e];rfl⟩
 constructor
 ·simp only[ownB,List.all_eq_true,List.mem_range,beq_iff_eq];intro b hb;have:=h1 b hb;have:=List.length_pos_iff.2 (h3 b hb);omega
 ·unfold curL ownL;refine List.map_congr_left fun b hb=>?_;rw[homesAt_end,ownF];cases e:homes l b with
  |nil=>exact absurd e (h3 b (List.mem_range.1 hb))
  |cons k r=>rfl
theorem own_no1(l:List TileD)(n b:Nat)(hb:b<n)(h:(homes l b).length≠1):ownB l n=false:=by
 rw[Bool.eq_false_iff]
 intro h2
 simp only[ownB,List.all_eq_true,List.mem_range,beq_iff_eq] at h2
 exact h (h2 b hb)
theorem curL_ok(l:List TileD)(n k i:Nat)(hk:k≤20000000000000):∀x∈curL l n k i,I64 x:=by
 intro x hx
 unfold curL at hx
 rw[List.mem_map] at hx
 obtain⟨b,_,rfl⟩:=hx
 have hq:∀q∈homesAt l k i b,q≤k:=by
  intro q hq;simp only[homesAt,List.mem_append,List.mem_flatMap,List.mem_range,List.mem_map] at hq;rcases hq with ⟨p,hp,_,_,rfl⟩|⟨_,_,rfl⟩<;>omega
 unfold I64
 cases e:homesAt l k i b with
 |nil=>simp[ownV]
 |cons q r=>
  have:=hq q (by rw[e];simp);simp only[ownV];omega
def OwJ(w:World)(l:List TileD)(bn k i:Nat)(v:Value)(wr:World):Prop:=OwnI wr w.heap.size v (curL l bn k i)∧(∀b,b<bn→(homesAt l k i b).length≤1)∧Below w.heap.size w wr
def OwnPost(w:World)(l:List TileD)(n:Nat)(e:Ending)(w':World):Prop:=
 ∃v,e=.returned v∧Below w.heap.size w w'∧(ownB l n=true→∃g c,v=.slice (some ⟨g,0,none⟩) n c∧OwnI w' w.heap.size v (ownL l n))∧(ownB l n=false→v=nilV)
theorem own_any(d:WalkD)(hd1:1≤d.bn)(hd2:d.bn≤200)(a:Option Addr)(n c:Nat)(ls:List TileR)(w:World)(h:TilesOK w a n ls):
  Calls Tryz.prog 57 #[walkV d,.slice a n c] w (OwnPost w (tdOf ls) d.bn):=by
 have hn:=h.1.2.1
 have HL:=Lib.hid h.1.1
 have H:=Lib.hid h
 clear h
 go_enter Tryz.func57,Tryz.ntmps57
 go_wp2_with (
  (go_at_call 91
   refine(repeat_any d.bn (w.heap.size+1) (-1) (by unfold I64;omega) hd1 (by omega) _ (by rw[cell_of_row _ _ _ _ _ _ (heap_at _ _ _ (by simp))];rfl)).mono ?_;rintro e w2 ⟨v,rfl,ho,hb⟩;have HO:=Lib.hid ho;have HB:=Lib.hid (ext_trans ((ext_alloc _ _).alloc (by simp) _) hb)
   clear ho hb))
 have hfm:∃g c,v=.slice (some ⟨g,0,none⟩) d.bn c:=by
  have:=own_form HO.out.1 (by simp;omega);simpa using this
 obtain⟨G,C,rfl⟩:=hfm
 have HO0:Hid (OwnI w2 w.heap.size (.slice (some ⟨G,0,none⟩) d.bn C) (curL (tdOf ls) d.bn 0 0)):=by rw[Hid,curL_zero];exact HO.out.mono (by simp;omega)
 clear HO
 go_loopg [18] n (fun gg s wr=>∃(k:Nat),s=.int .i64 (k:Int)∧k≤n∧n≤gg+k∧Hid (OwJ w (tdOf ls) d.bn k 0 (.slice (some ⟨G,0,none⟩) d.bn C) wr))
 case atStart=>exact⟨0,rfl,Nat.zero_le _,Nat.le_refl _,HO0.out,fun b _=>by rw[homesAt_zero];simp,HB.out⟩
 case round=>
  obtain⟨k,rfl,hk,hgg,HJ⟩:=hrel;clear HO0 HB;by_cases hlt:k<n
  ·have hkl:k<(tdOf ls).length:=by rw[tdOf_len,HL.out];exact hlt
   obtain⟨t,b,o,hlk,hok,rfl,c0',c1',c2'⟩:=H.out.cells hlt;have c0:=cell_ext HJ.out.2.2 c0';have c1:=cell_ext HJ.out.2.2 c1';have c2:=cell_ext HJ.out.2.2 c2';clear c0' c1' c2';have HTB:Hid (blkL (tdOf ls) k=t.d.blocks):=by rw[Hid,blkL,tdOf_at ls k t hlk]
   have HOK:=Lib.hid hok.1;have hbl:t.d.blocks.length=t.bn:=hok.1.1;have hbn:t.bn≤17592186044416:=hok.1.2.1;have HBL:=Lib.hid hbl;have HCW:Hid (∃t',(tdOf ls).getD k zTile=t'):=⟨_,rfl⟩
   clear hlk hok hbl HCW;generalize htba:t.ba=tba at *;have HTBA:=Lib.hid htba;clear htba;go_upto_region 5 with (fail)
   obtain⟨W1,hW1⟩:∃W1,W1=wr.alloc (.cells #[.int .i64 t.d.kind,.int .i64 t.d.parent,.slice tba t.bn t.bc] 70):=⟨_,rfl⟩
   rw[←hW1];have hB1:Below wr.heap.size wr W1:=by rw[hW1];exact ext_alloc _ _
   have hx1:W1.heap[wr.heap.size]? =some (.cells #[.int .i64 t.d.kind,.int .i64 t.d.parent,.slice tba t.bn t.bc] 70 (0,0)):=by rw[hW1,heap_alloc_new]
   have d2:W1.cell? ⟨wr.heap.size,2,none⟩=some (.slice tba t.bn t.bc):=by rw[cell_of_row _ _ _ _ _ _ hx1];rfl
   have HJ1:Hid (OwJ w (tdOf ls) d.bn k 0 (.slice (some ⟨G,0,none⟩) d.bn C) W1):=⟨HJ.out.1.ext hB1,HJ.out.2.1,ext_trans HJ.out.2.2 hB1⟩
   have HGlt:G<wr.heap.size:=(HJ.out.1.1.lt G rfl).2;clear hW1 hx1 c0 c1 c2 HJ;go_wp2;obtain⟨wo,rfl⟩:∃wo:World,wo=wr:=⟨_,rfl⟩
   go_loopg [26] t.bn (fun g2 s wr=>∃(i:Nat),s=.int .i64 (i:Int)∧i≤t.bn∧t.bn≤g2+i∧Hid (OwJ w (tdOf ls) d.bn k i (.slice (some ⟨G,0,none⟩) d.bn C) wr))
   case atStart=>exact⟨0,rfl,Nat.zero_le _,Nat.le_refl _,HJ1⟩
   case round=>
    obtain⟨i,rfl,hi,hg2,HJ⟩:=hrel;clear HJ1 d2;by_cases hil:i<t.bn
    ·obtain⟨b3,o3,rfl,hcx,hx1,hx2⟩:=(HOK.out.ext HJ.out.2.2).2.2 i hil;have HXI:Hid ((blkL (tdOf ls) k)[i]? =some (t.d.blocks.getD i 0)):=by
      rw[Hid,HTB.out,List.getD_eq_getElem?_getD,List.getElem?_eq_getElem (by rw[HBL.out];exact hil)];rfl
     have hil':(i:Int)<(t.bn:Int):=by omega
     generalize t.d.blocks.getD i 0=x at *;by_cases hxr:0≤x∧x<d.bn
     ·obtain⟨hxr1,hxr2⟩:=hxr;obtain⟨xn,rfl⟩:∃xn:Nat,x=(xn:Int):=⟨x.toNat,by omega⟩
      have hxn:xn<d.bn:=by omega
      have hcw:wr.cell? ⟨G,xn,none⟩=some (.int .i64 (ownV (homesAt (tdOf ls) k i xn))):=by
       obtain⟨b4,o4,e4,h4,_⟩:=HJ.out.1.ints.2.2 xn hxn;injection e4 with e4;injection e4 with e5 e6;subst e5 e6;rw[Nat.zero_add,curL_at _ _ _ _ _ hxn] at h4;exact h4
      by_cases hh:homesAt (tdOf ls) k i xn= []
      ·have hown:wr.ownsRow w.heap.size 3 1 (.slice (some ⟨G,0,none⟩) d.bn C) d.bn (intVals (curL (tdOf ls) d.bn k i)):=by have:=HJ.out.1.1;rwa [curL_len] at this
       have hst:=hown.stored xn (.int .i64 (k:Int));have hno:ownV (homesAt (tdOf ls) k i xn)= -1:=by rw[hh];rfl
       rw[hno] at hcw;have HJ2:Hid (OwJ w (tdOf ls) d.bn k (i+1) (.slice (some ⟨G,0,none⟩) d.bn C) (wr.setCell ⟨G,xn,none⟩ (.int .i64 (k:Int)))):=by
        refine⟨⟨?_,curL_ok _ _ _ _ (by omega),by rw[curL_len];omega⟩,fun b hb=>?_,HJ.out.2.2.setCell (by have:=(HJ.out.1.1.lt G rfl).1;exact this) _⟩
        ·have h5:=hst.1;have e5:(intVals (curL (tdOf ls) d.bn k i)).set xn (.int .i64 (k:Int))=intVals (curL (tdOf ls) d.bn k (i+1)):=by
          rw[←curL_set (tdOf ls) d.bn k i xn HXI.out hh];simp[intVals,List.map_set]
         rw[e5] at h5;rw[curL_len];exact h5
        ·rw[homesAt_step _ _ _ _ HXI.out];by_cases e:(b:Int)=(xn:Int)
         ·have:b=xn:=by omega
          subst this;rw[if_pos rfl,hh];simp
         ·rw[if_neg e];exact HJ.out.2.1 b hb
       have hfw:=hown.frozenAt xn;have hlw:=(HJ.out.1.1.lt G rfl).2;clear hst hno hh HJ hown;go_wp2
       go_roundg (t.bn-(i+1))
       case measure=>omega
       case rel=>exact⟨i+1,by go_num,by omega,by omega,HJ2⟩
      ·have hge:0≤ownV (homesAt (tdOf ls) k i xn):=by
        have:=mt (ownV_neg (homesAt (tdOf ls) k i xn)).1 hh;omega
       have HE:Hid (ownB (tdOf ls) d.bn=false):=by
        refine own_no1 _ _ xn hxn ?_;obtain⟨r,hr⟩:=homesAt_le (tdOf ls) k (i+1) xn hkl;rw[hr,homesAt_step _ _ _ _ HXI.out,if_pos rfl];have:=List.length_pos_iff.2 hh;simp;omega
       have HBW:=Lib.hid HJ.out.2.2;clear hh HJ;generalize ownV (homesAt (tdOf ls) k i xn)=ov at *;go_wp2
       go_ret
       exact⟨_,rfl,HBW.out,fun h=>by(rw[HE.out] at h;cases h),fun _=>rfl⟩
     ·have HJ2:Hid (OwJ w (tdOf ls) d.bn k (i+1) (.slice (some ⟨G,0,none⟩) d.bn C) wr):=by
       refine⟨?_,fun b hb=>?_,HJ.out.2.2⟩
       ·rw[←curL_skip (tdOf ls) d.bn k i x HXI.out (by omega)];exact HJ.out.1
       ·rw[homesAt_step _ _ _ _ HXI.out,if_neg (by omega)];exact HJ.out.2.1 b hb
      clear HJ;by_cases hx0:x<0
      all_goals
       go_wp2
       go_roundg (t.bn-(i+1))
       case measure=>omega
       case rel=>exact⟨i+1,by go_num,by omega,by omega,HJ2⟩
    ·obtain rfl:i=t.bn:=by omega
     have HJ2:Hid (OwJ w (tdOf ls) d.bn (k+1) 0 (.slice (some ⟨G,0,none⟩) d.bn C) wr):=by
      have e:t.bn=(blkL (tdOf ls) k).length:=by rw[HTB.out,HBL.out]
      refine⟨?_,fun b hb=>?_,HJ.out.2.2⟩
      ·rw[←curL_next,←e];exact HJ.out.1
      ·rw[←homesAt_next,←e];exact HJ.out.2.1 b hb
     clear HJ;go_wp2
     go_roundg (n-(k+1))
     case measure=>omega
     case rel=>exact⟨k+1,by go_num,by omega,by omega,HJ2⟩
  ·obtain rfl:k=n:=by omega
   have hlen:(tdOf ls).length=k:=by rw[tdOf_len,HL.out]
   have HO:=Lib.hid HJ.out.1;have HI:=Lib.hid (HJ.out.1.ints);have h1:=HJ.out.2.1;have h1':∀b,b<d.bn→(homes (tdOf ls) b).length≤1:=fun b hb=>by have:=h1 b hb;rw[←hlen,homesAt_end] at this;exact this
   have HX:=Lib.hid (idx_neg_iff (curL (tdOf ls) d.bn k 0) (-1));have HEND:Hid ((-1:Int)∉curL (tdOf ls) d.bn k 0→ownB (tdOf ls) d.bn=true∧curL (tdOf ls) d.bn k 0=ownL (tdOf ls) d.bn):=fun h=>by
    have:=curL_end (tdOf ls) d.bn h1' (by rw[hlen];exact h)
    rwa [hlen] at this
   have HNO:Hid ((-1:Int)∈curL (tdOf ls) d.bn k 0→ownB (tdOf ls) d.bn=false):=fun h=>by
    unfold curL at h;rw[List.mem_map] at h;obtain⟨b,hb,e⟩:=h;refine own_no1 _ _ b (List.mem_range.1 hb) ?_;have e2:=(ownV_neg (homesAt (tdOf ls) k 0 b)).1 (by omega);rw[←hlen,homesAt_end] at e2;rw[e2];simp
   have HBW:=Lib.hid HJ.out.2.2;clear h1 h1' hlen HJ;by_cases hm:(-1:Int)∈curL (tdOf ls) d.bn k 0
   ·have HE:=Lib.hid (HNO.out hm);have hd9:decide (0≤idx (curL (tdOf ls) d.bn k 0) (-1))=true:=by
     have:=mt HX.out.1;simp only[decide_eq_true_eq];apply Classical.byContradiction;intro hh;exact(HX.out.1 (by omega)) hm
    have HD9:=Lib.hid hd9;clear hm hd9
    go_wp2_with (go_at_call 92;refine(scontains_any _ _ _ (curL (tdOf ls) d.bn k 0) (-1) wr HI.out).mono ?_;rintro e w' ⟨rfl,rfl⟩;rw[HD9.out])
    go_ret
    exact⟨_,rfl,HBW.out,fun h=>by(rw[HE.out] at h;cases h),fun _=>rfl⟩
   ·have HE:=Lib.hid (HEND.out hm);have hd9:decide (0≤idx (curL (tdOf ls) d.bn k 0) (-1))=false:=by
     have:=HX.out.2 hm;simp only[decide_eq_false_iff_not];omega
    have HD9:=Lib.hid hd9;clear hm hd9
    go_wp2_with (go_at_call 92;refine(scontains_any _ _ _ (curL (tdOf ls) d.bn k 0) (-1) wr HI.out).mono ?_;rintro e w' ⟨rfl,rfl⟩;rw[HD9.out])
    go_ret
    refine⟨_,rfl,HBW.out,fun _=>⟨G,C,rfl,?_⟩,fun h=>by(rw[HE.out.1] at h;cases h)⟩;have:=HO.out;rw[HE.out.2] at this;exact this
end
end Go.Proofs.YtnmkjliioogbgaaGreatDoor
