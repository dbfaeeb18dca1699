/-
 DERIVED:THE SHELF's CONTRACTS AT THIS DUMP,IN PLAIN WORDS (tools/lay-plain.mjs out of 'TryShelf.lean',which tools/lay-shelf.mjs wrote):THE SAME DECLARATIONS UNDER THE SAME NAMES:'import','namespace','open','def','theorem' AND NOTHING ELSE:no command of the shelf's:FOR A HAND-IN. Each laying:the table of numbers ('.._ren') and one theorem,a field a fact of the dump's own or the kernel's comparison;each contract:ONE APPLICATION.
-/
import Derived.Shelf.Small.Wraps
import Derived.Shelf.Sort.Plain
import Derived.Shelf.Bits.Mul64
import Derived.Shelf.Slices.Reverse
import Derived.Ground.Names2Prog
import Derived.Shelf.Slices.Clone
import Derived.Shelf.Slices.CompactI
import Derived.Shelf.Slices.In.SortNone
import Derived.Shelf.SlicesE.Reverse
import Derived.Test.YthgebcfohnlhlaaGreatDoorProg
import Derived.Test.YthgebcfohnlhlaaGreatDoorPA
import Derived.Test.YthgebcfohnlhlaaGreatDoorZed
import Derived.Deep.OwnRows
import Derived.Laws.CopyOwn
import Derived.Deep.LoopGhost
import Derived.Deep.DeepCutAuto
import Derived.Test.YthgebcfohnlhlaaGreatDoorTM
import Derived.Test.YthgebcfohnlhlaaGreatDoorNR
import Derived.Test.YthgebcfohnlhlaaGreatDoorTH
namespace Go.Proofs.YthgebcfohnlhlaaGreatDoor
set_option linter.unusedSimpArgs false
set_option linter.unusedVariables false
set_option linter.unusedSectionVars false
set_option maxRecDepth 100000
set_option maxHeartbeats 40000000
section
open Go.Shelf
def lays212_ren:Go.Shelf.Ren:=⟨fun|212=>243|263=>269|264=>270|n=>n,fun|46=>164|51=>292|146=>354|53=>166|148=>356|n=>n,fun|n=>n⟩
theorem lays212:Go.Proofs.Lays.n212 Tryz.prog lays212_ren:={
 mixed:=by kernel_rfl
 f212:=Tryz.func243.trans (congrArg some (by kernel_rfl))
 f263:=Tryz.func269.trans (congrArg some (by kernel_rfl))
 f264:=Tryz.func270.trans (congrArg some (by kernel_rfl))
 t46:=Tryz.underlying164
 a46:=Tryz.isAgg164
 z46:=Tryz.sizeOf164
 v46:=Tryz.zeroValue164
 t51:=Tryz.underlying292
 a51:=Tryz.isAgg292
 z51:=Tryz.sizeOf292
 v51:=Tryz.zeroValue292
 t53:=Tryz.underlying166
 a53:=Tryz.isAgg166
 z53:=Tryz.sizeOf166
 v53:=Tryz.zeroValue166
 t146:=Tryz.underlying354
 a146:=Tryz.isAgg354
 z146:=Tryz.sizeOf354
 v146:=Tryz.zeroValue354
 t148:=Tryz.underlying356
 a148:=Tryz.isAgg356
 z148:=Tryz.sizeOf356
 v148:=Tryz.zeroValue356}
open Go.RowKit Go.Lib in
theorem bits_Mul(x y:Nat)(hx:x<18446744073709551616)(hy:y<18446744073709551616)(w:World):
  Calls Tryz.prog 243 #[.int .u64 x,.int .u64 y] w fun e w'=>e=.returned (.tuple #[.int .u64 ((x*y/18446744073709551616:Nat):Int),.int .u64 ((x*y%18446744073709551616:Nat):Int)])∧w'=w:=Any.bits_Mul lays212 x y hx hy w
end

section
open Go.RowKit
theorem op_copyS{P:Program}{o:Oper}{a:Act}{w:World}{K:Act→World→Prop}{Q:Exit→Act→World→Prop}(hgd:o.guard=none)(d s:Operand)(dT sT:TypeId)
  (ho:o.op=.call {callee:=.builtin .copy,args:=#[d,s],argTypes:=#[dT,sT]}) (elem:TypeId) (hu:P.underlying dT=some (.slice elem)) (hsz:(P.info? elem).map (·.size)=some 1)
  (dp sp:Option Addr) (dLen dCap sLen sCap:Nat) (hd:a.eval d=.slice dp dLen dCap) (hs:a.eval s=.slice sp sLen sCap)
  (g off:Nat) (cur:List Value) (t:TypeId) (hg:w.heap[g]? =some (.cells cur.toArray t (0,0))) (cs:List Value) (hn:cs.length=Nat.min sLen dLen)
  (hpos:0<cs.length→dp=some ⟨g,off,none⟩∧∃ad,sp=some ad∧∀j v,cs[j]? =some v→w.cell? (ad.add j)=some v)
  (hfit:off+cs.length≤cur.length) (h1:∀v∈cs,v.oneCell'=true) (B:Nat) (w0:World) (hb:Below B w0 w) (hBg:B≤g)
  (h:∀w',Hid (w'.heap[g]? =some (.cells (splice cur off cs).toArray t (0,0)))→Below B w0 w'→K (a.put o.dst (goInt cs.length)) w'):Oper.wp P o a w K Q:=by
 have:=step_copy_splice (P:=P) (ops:=#[]) (Q:=Q) (E:=True) hgd d s dT sT ho elem hu hsz dp sp dLen dCap sLen sCap hd hs g off cur t hg cs hn hpos hfit h1 B w0 hb hBg h
 rwa [if_pos (by simp[Region.wanted,hgd])] at this
def repL(x:Int)(n j:Nat):List Value:=List.replicate j (.int .i64 x)++List.replicate (n-j) (.int .i64 0)
theorem repL_len(x:Int)(n j:Nat)(h:j≤n):(repL x n j).length=n:=by simp[repL];omega
theorem repL_splice(x:Int)(n j m:Nat)(h:j+m≤n):splice (repL x n j) j (List.replicate m (.int .i64 x))=repL x n (j+m):=by
 unfold splice repL
 rw[List.take_append_of_le_length (by simp),List.take_of_length_le (by simp),List.drop_append,List.length_replicate,List.length_replicate,List.drop_of_length_le (by simp),List.nil_append,List.drop_replicate,←List.append_assoc]<;>try rw[List.replicate_append_replicate,show n-j-(j+m-j)=n-(j+m) by omega]
theorem repL_at(x:Int)(n j i:Nat)(hi:i<j):(repL x n j)[i]? =some (.int .i64 x):=by
 unfold repL
 rw[List.getElem?_append_left (by simpa using hi)]
 simp[hi]
theorem repeat_any(n g:Nat)(x:Int)(hx:I64 x)(h1:1≤n)(h2:n≤1000000)(w:World)(hc:w.cell? ⟨g,0,none⟩=some (.int .i64 x)):
  Calls Tryz.prog 166 #[.slice (some ⟨g,0,none⟩) 1 1,.int .i64 (n:Int)] w (IntsPost w (List.replicate n x)):=by
 have HC:=Lib.hid hc
 clear hc
 have e1:1*n/18446744073709551616=0:=Nat.div_eq_of_lt (by omega)
 have e2:1*n%18446744073709551616=n:=by rw[Nat.one_mul];exact Nat.mod_eq_of_lt (by omega)
 have E1:=Lib.hid e1
 have E2:=Lib.hid e2
 clear e1 e2
 have hmk:=run_make_row' (P:=Tryz.prog) 22 3 (.int .i64 0) 8 Tryz.underlying22 infoI rfl .i64 .i64 n (by omega) (by omega) w
 go_enter Tryz.func166,Tryz.ntmps166
 go_upto_region 7 with (first
  |(go_at_call 243
    refine(bits_Mul 1 n (by omega) (by omega) w).mono ?_;rintro e w' ⟨rfl,he⟩;obtain rfl:=he.symm
    rw[E1.out,E2.out]))
 obtain⟨W,hW⟩:∃W,W=w.alloc (.cells (madeCells #[.int .i64 0] n) 3):=⟨_,rfl⟩
 rw[←hW]
 have hg0:W.heap[w.heap.size]? =some (.cells (repL x n 0).toArray 3 (0,0)):=by
  rw[hW,heap_alloc_new]
  congr 2
  apply Array.ext_getElem?;intro k;by_cases hk:k<n
  ·simp[madeCells,repL,hk,Nat.mod_one]
  ·rw[Array.getElem?_eq_none (by simp[madeCells];omega),Array.getElem?_eq_none (by simp[repL];omega)]
 have hB:Below w.heap.size w W:=by rw[hW];exact(Below.refl _ w).alloc (Nat.le_refl _) _
 have HG0:=Lib.hid hg0
 have HB:=Lib.hid hB
 have hsz:(Tryz.prog.info? 3).map (·.size)=some 1:=by kernel_rfl
 have HSZ:=Lib.hid hsz
 have HCW:=Lib.hid (cell_ext hB HC.out)
 clear hW hg0 hB hmk hsz
 go_wp2_with (
  (refine wpList_copy_splice (o:=⟨some 33,_,_,_,_,_⟩) rfl (.tmp 31) (.tmp 32) 22 22 rfl 3 Tryz.underlying22 HSZ.out (some ⟨w.heap.size,0,none⟩) (some ⟨g,0,none⟩) n n 1 1 rfl rfl w.heap.size 0 (repL x n 0) 3 HG0.out (List.replicate 1 (.int .i64 x)) (by simp[Nat.min_def];omega) (fun _=>⟨rfl,_,rfl,fun j v hj=>by
    have hj0:j=0:=by have:=(List.getElem?_eq_some_iff.1 hj).1;simpa using this
    subst hj0;have hv:v=.int .i64 x:=by simpa using hj.symm
    subst hv;rw[addr_add]
    exact HCW.out⟩) (by rw[repL_len _ _ _ (by omega)];simp;omega) (by intro v hv;have:=(List.mem_replicate.1 hv).2;subst this;rfl) w.heap.size w HB.out (Nat.le_refl _) ?_
   intro w2 hg2 hb2;have HG2:=hg2;have HB2:=Lib.hid hb2
   clear hg2 hb2))
 rw[repL_splice _ _ _ _ (by omega),Nat.zero_add] at HG2
 clear HG0 HB HCW
 go_loopg [8] n (fun gg s8 wr=>∃(j:Nat),s8=.int .i64 (j:Int)∧1≤j∧j≤n∧n≤gg+j∧Hid (wr.heap[w.heap.size]? =some (.cells (repL x n j).toArray 3 (0,0)))∧Hid (Below w.heap.size w wr))
 case atStart=>exact⟨1,rfl,Nat.le_refl _,h1,by omega,HG2,HB2⟩
 case round=>
  obtain⟨j,rfl,hj1,hj2,hgg,HG,HB⟩:=hrel;clear HG2 HB2;by_cases hlt:j<n
  ·have hm1:1≤Nat.min j (n-j):=by simp[Nat.min_def];split<;>omega
   have hm2:j+Nat.min j (n-j)≤n:=by simp[Nat.min_def];split<;>omega
   have hm3:Nat.min j (n-j)≤j:=Nat.min_le_left _ _;have hlt':(j:Int)<(n:Int):=by omega
   have hj0:(0:Int)≤(j:Int):=by omega
   go_upto_region 9 with (fail)
   refine z_start (fun w'=>∃q:ClsW (fun q=>Below w.heap.size w q),w'=q.val) (by kernel_rfl) ?_;obtain⟨v0,F0,G0,hv0⟩:∃v0,Below w.heap.size w v0∧v0.heap[w.heap.size]? =some (.cells (repL x n j).toArray 3 (0,0))∧wr.drew=v0:=⟨_,below_drewN HB.out 1,HG.out,rfl⟩
   rw[hv0];clear hv0
   haveI:Nonempty (ClsW (fun q=>Below w.heap.size w q)):=cls_ne (Below.refl _ _)
   refine z_reads 0 7 (by kernel_rfl) ⟨⟨_,F0⟩,rfl⟩ ?_;simp only[List.take_succ_cons,List.take_zero,List.drop_succ_cons,List.drop_zero]
   repeat (go_big_quiet_step (fail))
   refine wpQuiet_nil ?_;refine z_one 7 (by kernel_rfl) ?_;refine wpOp_at rfl rfl ?_
   refine op_copyS rfl (.tmp 41) (.tmp 44) 22 22 rfl 3 Tryz.underlying22 HSZ.out (some ⟨w.heap.size,j,none⟩) (some ⟨w.heap.size,0,none⟩) (n-j) (n-j) j n rfl rfl w.heap.size j (repL x n j) 3 G0 (List.replicate (Nat.min j (n-j)) (.int .i64 x)) (by simp) (fun _=>⟨rfl,_,rfl,fun i v hi=>by
    have hi0:i<Nat.min j (n-j):=by have:=(List.getElem?_eq_some_iff.1 hi).1;simpa using this
    have hv:v=.int .i64 x:=by rw[List.getElem?_replicate,if_pos hi0] at hi;injection hi with hi;exact hi.symm
    subst hv;rw[addr_add,cell_of_row _ _ _ _ _ _ G0,Nat.zero_add];have:=repL_at x n j i (by omega)
    simpa using this⟩) (by rw[repL_len _ _ _ hj2];simpa using hm2) (by intro v hv;have:=(List.mem_replicate.1 hv).2;subst this;rfl) w.heap.size w F0 (Nat.le_refl _) ?_
   intro w3 hg3 hb3;rw[List.length_replicate];rw[repL_splice _ _ _ _ hm2] at hg3;generalize Nat.min j (n-j)=m at *;simp only[goInt];refine⟨Or.inr ⟨⟨_,hb3⟩,rfl⟩,?_⟩
   try simp only[Act.put,List.setIfInBounds_toArray,List.set_cons_succ,List.set_cons_zero]
   refine z_reads 8 2 (by kernel_rfl) ⟨⟨_,hb3⟩,rfl⟩ ?_;simp only[List.take_succ_cons,List.take_zero,List.drop_succ_cons,List.drop_zero]
   repeat (go_big_quiet_step (fail))
   refine wpQuiet_nil ?_;refine z_done (by kernel_rfl) ?_;clear hlt';go_wp2
   go_roundg (n-(j+m))
   case measure=>omega
   case rel=>exact⟨j+m,by go_num,by omega,hm2,by omega,hg3,hb3⟩
  ·obtain rfl:j=n:=by omega
   go_wp2
   go_ret
   refine⟨_,rfl,⟨⟨by simp[intVals],.inr ⟨w.heap.size,j,(repL x j j).toArray,by simp,Nat.le_refl _,HG.out,by simp,by unfold maxLen;omega,by simp[repL],by simp[repL,intVals]⟩⟩,?_,by simp;omega⟩,HB.out⟩;intro z hz;rw[(List.mem_replicate.1 hz).2];exact hx
end

section
open Go.RowKit
def homesAt(l:List TileD)(k i b:Nat):List Nat:=((List.range k).flatMap fun q=>((blkL l q).filter fun x=>x==(b:Int)).map fun _=>q)++(((blkL l k).take i).filter fun x=>x==(b:Int)).map fun _=>k
theorem homesAt_zero(l:List TileD)(b:Nat):homesAt l 0 0 b= []:=by simp[homesAt]
theorem homesAt_next(l:List TileD)(k b:Nat):homesAt l k (blkL l k).length b=homesAt l (k+1) 0 b:=by
 simp only[homesAt,List.take_length,List.range_succ,List.flatMap_append,List.flatMap_cons,List.flatMap_nil,List.append_nil,List.take_zero,List.filter_nil,List.map_nil]
theorem homesAt_end(l:List TileD)(b:Nat):homesAt l l.length 0 b=homes l b:=by simp[homesAt,homes]
theorem homesAt_step(l:List TileD)(k i:Nat)(x:Int)(h:(blkL l k)[i]? =some x)(b:Nat):homesAt l k (i+1) b=if (b:Int)=x then homesAt l k i b++ [k] else homesAt l k i b:=by
 have e:(blkL l k).take (i+1)=(blkL l k).take i++ [x]:=by rw[List.take_add_one,h];rfl
 simp only[homesAt,e,List.filter_append,List.map_append]
 by_cases hb:(b:Int)=x
 ·rw[←hb];simp
 ·have:(x==(b:Int))=false:=by simpa using fun e=>hb e.symm
  simp[hb,this]
theorem homesAt_le(l:List TileD)(k i b:Nat)(hk:k<l.length):∃r,homes l b=homesAt l k i b++r:=by
 have h1:∃r,homesAt l k (blkL l k).length b=homesAt l k i b++r:=by
  refine⟨(((blkL l k).drop i).filter fun x=>x==(b:Int)).map fun _=>k,?_⟩;simp only[homesAt,List.take_length,List.append_assoc]
  congr 1
  rw[←List.map_append,←List.filter_append,List.take_append_drop]
 obtain⟨r,hr⟩:=h1
 have h2:∀m,k+1≤m→∃r,homesAt l m 0 b=homesAt l (k+1) 0 b++r:=by
  intro m
  induction m with
  |zero=>intro h;omega
  |succ m ih=>
   intro hm;by_cases e:m=k
   ·subst e;exact⟨[],by simp⟩
   ·obtain⟨r,hr⟩:=ih (by omega);refine⟨r++((blkL l m).filter fun x=>x==(b:Int)).map fun _=>m,?_⟩;rw[←List.append_assoc,←hr];simp[homesAt,List.range_succ]
 obtain⟨r2,hr2⟩:=h2 l.length (by omega)
 refine⟨r++r2,?_⟩
 rw[←homesAt_end,hr2,←homesAt_next,hr,List.append_assoc]
def ownV:List Nat→Int
 | []=>-1
 |k :: _=>(k:Int)
theorem ownV_neg(h:List Nat):ownV h<0↔h= []:=by cases h<;>simp[ownV]
def curL(l:List TileD)(n k i:Nat):List Int:=(List.range n).map fun b=>ownV (homesAt l k i b)
theorem curL_len(l:List TileD)(n k i:Nat):(curL l n k i).length=n:=by simp[curL]
theorem curL_at(l:List TileD)(n k i b:Nat)(h:b<n):(curL l n k i).getD b 0=ownV (homesAt l k i b):=by simp[curL,List.getD_eq_getElem?_getD,h]
theorem curL_set(l:List TileD)(n k i b:Nat)(hx:(blkL l k)[i]? =some (b:Int))(h0:homesAt l k i b= []):(curL l n k i).set b (k:Int)=curL l n k (i+1):=by
 apply List.ext_getElem?
 intro j
 rw[List.getElem?_set]
 simp only[curL,List.length_map,List.length_range,List.getElem?_map]
 by_cases hj:j<n
 ·rw[List.getElem?_range hj];by_cases e:b=j
  ·subst e;simp[hj,homesAt_step l k i (b:Int) hx b,h0,ownV]
  ·rw[if_neg e];have e2:¬(j:Int)=(b:Int):=by omega
   simp[homesAt_step l k i (b:Int) hx j,e2]
 ·rw[List.getElem?_eq_none (by simpa using hj)];by_cases e:b=j
  ·subst e;simp[hj]
  ·simp[e]
theorem curL_skip(l:List TileD)(n k i:Nat)(x:Int)(hx:(blkL l k)[i]? =some x)(h:x<0∨(n:Int)≤x):curL l n k i=curL l n k (i+1):=by
 unfold curL
 refine List.map_congr_left fun b hb=>?_
 have:=List.mem_range.1 hb
 rw[homesAt_step l k i x hx b,if_neg (by omega)]
theorem curL_next(l:List TileD)(n k:Nat):curL l n k (blkL l k).length=curL l n (k+1) 0:=by
 unfold curL
 exact List.map_congr_left fun b _=>by rw[homesAt_next]
theorem curL_zero(l:List TileD)(n:Nat):curL l n 0 0=List.replicate n (-1):=by
 apply List.ext_getElem?
 intro j
 by_cases hj:j<n<;>simp[curL,homesAt_zero,ownV,hj]
theorem curL_end(l:List TileD)(n:Nat)(h1:∀b,b<n→(homes l b).length≤1)(h2:(-1:Int)∉curL l n l.length 0):ownB l n=true∧curL l n l.length 0=ownL l n:=by
 have h3:∀b,b<n→homes l b≠[]:=fun b hb e=>by
  apply h2;unfold curL;rw[List.mem_map];exact⟨b,List.mem_range.2 hb,by rw[homesAt_end,e];rfl⟩
 constructor
 ·simp only[ownB,List.all_eq_true,List.mem_range,beq_iff_eq];intro b hb;have:=h1 b hb;have:=List.length_pos_iff.2 (h3 b hb);omega
 ·unfold curL ownL;refine List.map_congr_left fun b hb=>?_;rw[homesAt_end,ownF];cases e:homes l b with
  |nil=>exact absurd e (h3 b (List.mem_range.1 hb))
  |cons k r=>rfl
theorem own_no1(l:List TileD)(n b:Nat)(hb:b<n)(h:(homes l b).length≠1):ownB l n=false:=by
 rw[Bool.eq_false_iff]
 intro h2
 simp only[ownB,List.all_eq_true,List.mem_range,beq_iff_eq] at h2
 exact h (h2 b hb)
theorem curL_ok(l:List TileD)(n k i:Nat)(hk:k≤20000000000000):∀x∈curL l n k i,I64 x:=by
 intro x hx
 unfold curL at hx
 rw[List.mem_map] at hx
 obtain⟨b,_,rfl⟩:=hx
 have hq:∀q∈homesAt l k i b,q≤k:=by
  intro q hq;simp only[homesAt,List.mem_append,List.mem_flatMap,List.mem_range,List.mem_map] at hq;rcases hq with ⟨p,hp,_,_,rfl⟩|⟨_,_,rfl⟩<;>omega
 unfold I64
 cases e:homesAt l k i b with
 |nil=>simp[ownV]
 |cons q r=>
  have:=hq q (by rw[e];simp);simp only[ownV];omega
def OwJ(w:World)(l:List TileD)(bn k i:Nat)(v:Value)(wr:World):Prop:=OwnI wr w.heap.size v (curL l bn k i)∧(∀b,b<bn→(homesAt l k i b).length≤1)∧Below w.heap.size w wr
def OwnPost(w:World)(l:List TileD)(n:Nat)(e:Ending)(w':World):Prop:=
 ∃v,e=.returned v∧Below w.heap.size w w'∧(ownB l n=true→∃g c,v=.slice (some ⟨g,0,none⟩) n c∧OwnI w' w.heap.size v (ownL l n))∧(ownB l n=false→v=nilV)
theorem own_any(d:WalkD)(hd1:1≤d.bn)(hd2:d.bn≤200)(a:Option Addr)(n c:Nat)(ls:List TileR)(w:World)(h:TilesOK w a n ls):
  Calls Tryz.prog 74 #[walkV d,.slice a n c] w (OwnPost w (tdOf ls) d.bn):=by
 have hn:=h.1.2.1
 have HL:=Lib.hid h.1.1
 have H:=Lib.hid h
 clear h
 go_enter Tryz.func74,Tryz.ntmps74
 go_wp2_with (
  (go_at_call 166
   refine(repeat_any d.bn (w.heap.size+1) (-1) (by unfold I64;omega) hd1 (by omega) _ (by rw[cell_of_row _ _ _ _ _ _ (heap_at _ _ _ (by simp))];rfl)).mono ?_;rintro e w2 ⟨v,rfl,ho,hb⟩;have HO:=Lib.hid ho;have HB:=Lib.hid (ext_trans ((ext_alloc _ _).alloc (by simp) _) hb)
   clear ho hb))
 have hfm:∃g c,v=.slice (some ⟨g,0,none⟩) d.bn c:=by
  have:=own_form HO.out.1 (by simp;omega);simpa using this
 obtain⟨G,C,rfl⟩:=hfm
 have HO0:Hid (OwnI w2 w.heap.size (.slice (some ⟨G,0,none⟩) d.bn C) (curL (tdOf ls) d.bn 0 0)):=by rw[Hid,curL_zero];exact HO.out.mono (by simp;omega)
 clear HO
 go_loopg [18] n (fun gg s wr=>∃(k:Nat),s=.int .i64 (k:Int)∧k≤n∧n≤gg+k∧Hid (OwJ w (tdOf ls) d.bn k 0 (.slice (some ⟨G,0,none⟩) d.bn C) wr))
 case atStart=>exact⟨0,rfl,Nat.zero_le _,Nat.le_refl _,HO0.out,fun b _=>by rw[homesAt_zero];simp,HB.out⟩
 case round=>
  obtain⟨k,rfl,hk,hgg,HJ⟩:=hrel;clear HO0 HB;by_cases hlt:k<n
  ·have hkl:k<(tdOf ls).length:=by rw[tdOf_len,HL.out];exact hlt
   obtain⟨t,b,o,hlk,hok,rfl,c0',c1',c2'⟩:=H.out.cells hlt;have c0:=cell_ext HJ.out.2.2 c0';have c1:=cell_ext HJ.out.2.2 c1';have c2:=cell_ext HJ.out.2.2 c2';clear c0' c1' c2';have HTB:Hid (blkL (tdOf ls) k=t.d.blocks):=by rw[Hid,blkL,tdOf_at ls k t hlk]
   have HOK:=Lib.hid hok.1;have hbl:t.d.blocks.length=t.bn:=hok.1.1;have hbn:t.bn≤17592186044416:=hok.1.2.1;have HBL:=Lib.hid hbl;have HCW:Hid (∃t',(tdOf ls).getD k zTile=t'):=⟨_,rfl⟩
   clear hlk hok hbl HCW;generalize htba:t.ba=tba at *;have HTBA:=Lib.hid htba;clear htba;go_upto_region 5 with (fail)
   obtain⟨W1,hW1⟩:∃W1,W1=wr.alloc (.cells #[.int .i64 t.d.kind,.int .i64 t.d.parent,.slice tba t.bn t.bc] 77):=⟨_,rfl⟩
   rw[←hW1];have hB1:Below wr.heap.size wr W1:=by rw[hW1];exact ext_alloc _ _
   have hx1:W1.heap[wr.heap.size]? =some (.cells #[.int .i64 t.d.kind,.int .i64 t.d.parent,.slice tba t.bn t.bc] 77 (0,0)):=by rw[hW1,heap_alloc_new]
   have d2:W1.cell? ⟨wr.heap.size,2,none⟩=some (.slice tba t.bn t.bc):=by rw[cell_of_row _ _ _ _ _ _ hx1];rfl
   have HJ1:Hid (OwJ w (tdOf ls) d.bn k 0 (.slice (some ⟨G,0,none⟩) d.bn C) W1):=⟨HJ.out.1.ext hB1,HJ.out.2.1,ext_trans HJ.out.2.2 hB1⟩
   have HGlt:G<wr.heap.size:=(HJ.out.1.1.lt G rfl).2;clear hW1 hx1 c0 c1 c2 HJ;go_wp2;obtain⟨wo,rfl⟩:∃wo:World,wo=wr:=⟨_,rfl⟩
   go_loopg [26] t.bn (fun g2 s wr=>∃(i:Nat),s=.int .i64 (i:Int)∧i≤t.bn∧t.bn≤g2+i∧Hid (OwJ w (tdOf ls) d.bn k i (.slice (some ⟨G,0,none⟩) d.bn C) wr))
   case atStart=>exact⟨0,rfl,Nat.zero_le _,Nat.le_refl _,HJ1⟩
   case round=>
    obtain⟨i,rfl,hi,hg2,HJ⟩:=hrel;clear HJ1 d2;by_cases hil:i<t.bn
    ·obtain⟨b3,o3,rfl,hcx,hx1,hx2⟩:=(HOK.out.ext HJ.out.2.2).2.2 i hil;have HXI:Hid ((blkL (tdOf ls) k)[i]? =some (t.d.blocks.getD i 0)):=by
      rw[Hid,HTB.out,List.getD_eq_getElem?_getD,List.getElem?_eq_getElem (by rw[HBL.out];exact hil)];rfl
     have hil':(i:Int)<(t.bn:Int):=by omega
     generalize t.d.blocks.getD i 0=x at *;by_cases hxr:0≤x∧x<d.bn
     ·obtain⟨hxr1,hxr2⟩:=hxr;obtain⟨xn,rfl⟩:∃xn:Nat,x=(xn:Int):=⟨x.toNat,by omega⟩
      have hxn:xn<d.bn:=by omega
      have hcw:wr.cell? ⟨G,xn,none⟩=some (.int .i64 (ownV (homesAt (tdOf ls) k i xn))):=by
       obtain⟨b4,o4,e4,h4,_⟩:=HJ.out.1.ints.2.2 xn hxn;injection e4 with e4;injection e4 with e5 e6;subst e5 e6;rw[Nat.zero_add,curL_at _ _ _ _ _ hxn] at h4;exact h4
      by_cases hh:homesAt (tdOf ls) k i xn= []
      ·have hown:wr.ownsRow w.heap.size 3 1 (.slice (some ⟨G,0,none⟩) d.bn C) d.bn (intVals (curL (tdOf ls) d.bn k i)):=by have:=HJ.out.1.1;rwa [curL_len] at this
       have hst:=hown.stored xn (.int .i64 (k:Int));have hno:ownV (homesAt (tdOf ls) k i xn)= -1:=by rw[hh];rfl
       rw[hno] at hcw;have HJ2:Hid (OwJ w (tdOf ls) d.bn k (i+1) (.slice (some ⟨G,0,none⟩) d.bn C) (wr.setCell ⟨G,xn,none⟩ (.int .i64 (k:Int)))):=by
        refine⟨⟨?_,curL_ok _ _ _ _ (by omega),by rw[curL_len];omega⟩,fun b hb=>?_,HJ.out.2.2.setCell (by have:=(HJ.out.1.1.lt G rfl).1;exact this) _⟩
        ·have h5:=hst.1;have e5:(intVals (curL (tdOf ls) d.bn k i)).set xn (.int .i64 (k:Int))=intVals (curL (tdOf ls) d.bn k (i+1)):=by
          rw[←curL_set (tdOf ls) d.bn k i xn HXI.out hh];simp[intVals,List.map_set]
         rw[e5] at h5;rw[curL_len];exact h5
        ·rw[homesAt_step _ _ _ _ HXI.out];by_cases e:(b:Int)=(xn:Int)
         ·have:b=xn:=by omega
          subst this;rw[if_pos rfl,hh];simp
         ·rw[if_neg e];exact HJ.out.2.1 b hb
       have hfw:=hown.frozenAt xn;have hlw:=(HJ.out.1.1.lt G rfl).2;clear hst hno hh HJ hown;go_wp2
       go_roundg (t.bn-(i+1))
       case measure=>omega
       case rel=>exact⟨i+1,by go_num,by omega,by omega,HJ2⟩
      ·have hge:0≤ownV (homesAt (tdOf ls) k i xn):=by
        have:=mt (ownV_neg (homesAt (tdOf ls) k i xn)).1 hh;omega
       have HE:Hid (ownB (tdOf ls) d.bn=false):=by
        refine own_no1 _ _ xn hxn ?_;obtain⟨r,hr⟩:=homesAt_le (tdOf ls) k (i+1) xn hkl;rw[hr,homesAt_step _ _ _ _ HXI.out,if_pos rfl];have:=List.length_pos_iff.2 hh;simp;omega
       have HBW:=Lib.hid HJ.out.2.2;clear hh HJ;generalize ownV (homesAt (tdOf ls) k i xn)=ov at *;go_wp2
       go_ret
       exact⟨_,rfl,HBW.out,fun h=>by(rw[HE.out] at h;cases h),fun _=>rfl⟩
     ·have HJ2:Hid (OwJ w (tdOf ls) d.bn k (i+1) (.slice (some ⟨G,0,none⟩) d.bn C) wr):=by
       refine⟨?_,fun b hb=>?_,HJ.out.2.2⟩
       ·rw[←curL_skip (tdOf ls) d.bn k i x HXI.out (by omega)];exact HJ.out.1
       ·rw[homesAt_step _ _ _ _ HXI.out,if_neg (by omega)];exact HJ.out.2.1 b hb
      clear HJ;by_cases hx0:x<0
      all_goals
       go_wp2
       go_roundg (t.bn-(i+1))
       case measure=>omega
       case rel=>exact⟨i+1,by go_num,by omega,by omega,HJ2⟩
    ·obtain rfl:i=t.bn:=by omega
     have HJ2:Hid (OwJ w (tdOf ls) d.bn (k+1) 0 (.slice (some ⟨G,0,none⟩) d.bn C) wr):=by
      have e:t.bn=(blkL (tdOf ls) k).length:=by rw[HTB.out,HBL.out]
      refine⟨?_,fun b hb=>?_,HJ.out.2.2⟩
      ·rw[←curL_next,←e];exact HJ.out.1
      ·rw[←homesAt_next,←e];exact HJ.out.2.1 b hb
     clear HJ;go_wp2
     go_roundg (n-(k+1))
     case measure=>omega
     case rel=>exact⟨k+1,by go_num,by omega,by omega,HJ2⟩
  ·obtain rfl:k=n:=by omega
   have hlen:(tdOf ls).length=k:=by rw[tdOf_len,HL.out]
   have HO:=Lib.hid HJ.out.1;have HI:=Lib.hid (HJ.out.1.ints);have h1:=HJ.out.2.1;have h1':∀b,b<d.bn→(homes (tdOf ls) b).length≤1:=fun b hb=>by have:=h1 b hb;rw[←hlen,homesAt_end] at this;exact this
   have HX:=Lib.hid (idx_neg_iff (curL (tdOf ls) d.bn k 0) (-1));have HEND:Hid ((-1:Int)∉curL (tdOf ls) d.bn k 0→ownB (tdOf ls) d.bn=true∧curL (tdOf ls) d.bn k 0=ownL (tdOf ls) d.bn):=fun h=>by
    have:=curL_end (tdOf ls) d.bn h1' (by rw[hlen];exact h)
    rwa [hlen] at this
   have HNO:Hid ((-1:Int)∈curL (tdOf ls) d.bn k 0→ownB (tdOf ls) d.bn=false):=fun h=>by
    unfold curL at h;rw[List.mem_map] at h;obtain⟨b,hb,e⟩:=h;refine own_no1 _ _ b (List.mem_range.1 hb) ?_;have e2:=(ownV_neg (homesAt (tdOf ls) k 0 b)).1 (by omega);rw[←hlen,homesAt_end] at e2;rw[e2];simp
   have HBW:=Lib.hid HJ.out.2.2;clear h1 h1' hlen HJ;by_cases hm:(-1:Int)∈curL (tdOf ls) d.bn k 0
   ·have HE:=Lib.hid (HNO.out hm);have hd9:decide (0≤idx (curL (tdOf ls) d.bn k 0) (-1))=true:=by
     have:=mt HX.out.1;simp only[decide_eq_true_eq];apply Classical.byContradiction;intro hh;exact(HX.out.1 (by omega)) hm
    have HD9:=Lib.hid hd9;clear hm hd9
    go_wp2_with (go_at_call 167;refine(scontains_any _ _ _ (curL (tdOf ls) d.bn k 0) (-1) wr HI.out).mono ?_;rintro e w' ⟨rfl,rfl⟩;rw[HD9.out])
    go_ret
    exact⟨_,rfl,HBW.out,fun h=>by(rw[HE.out] at h;cases h),fun _=>rfl⟩
   ·have HE:=Lib.hid (HEND.out hm);have hd9:decide (0≤idx (curL (tdOf ls) d.bn k 0) (-1))=false:=by
     have:=HX.out.2 hm;simp only[decide_eq_false_iff_not];omega
    have HD9:=Lib.hid hd9;clear hm hd9
    go_wp2_with (go_at_call 167;refine(scontains_any _ _ _ (curL (tdOf ls) d.bn k 0) (-1) wr HI.out).mono ?_;rintro e w' ⟨rfl,rfl⟩;rw[HD9.out])
    go_ret
    refine⟨_,rfl,HBW.out,fun _=>⟨G,C,rfl,?_⟩,fun h=>by(rw[HE.out.1] at h;cases h)⟩;have:=HO.out;rw[HE.out.2] at this;exact this
end

section
open Go.RowKit Go.Shelf
attribute [local go_sem] Oper.semAt_some wide_fn wide_depth wide_fnR wide_depthR
theorem ent1_any(f:Nat→Bool)(S:Nat)(x:Nat)(hx:x<200)(W:World)(hS:W.heap[S]? =some (setO f)):
  Calls Tryz.prog 245 (#[.int .i64 (x:Int)]++ #[.pointer (some ⟨S,0,none⟩)]) W fun e W'=>e=.returned (.bool (!f x))∧Below W.heap.size W W':=by
 show Calls Tryz.prog 245 #[.int .i64 (x:Int),.pointer (some ⟨S,0,none⟩)] W _
 have hc:=set_cell hS x hx
 generalize f x=b at*
 clear hS
 go_enter Tryz.func245,Tryz.ntmps245
 go_wp2
 go_ret
 exact⟨rfl,Below.refl _ _⟩
theorem enter_ent1(args:Array Value)(w:World):(callFunc 245 args).run Tryz.prog w=.ok (.enter 245 args) w:=enters_of Tryz.func245 (by kernel_rfl) rfl args w
def entB(ts:List TermD)(f:Nat→Bool)(b:Nat):Bool:=decide (b<ts.length)&&(pv ts b).any fun x=> !f x
theorem any_intsN(f:Nat→Bool)(l:List Nat):((intsN l).any fun z=> !f z.toNat)=l.any fun q=> !f q:=by
 rw[intsN,List.any_map]
 rfl
def EJ(w:World)(d:WalkD)(f:Nat→Bool)(xs:List Int)(W:World):Prop:=
 W.heap[w.heap.size]? =some (walkO d)∧W.heap[w.heap.size+1]? =some (setO f)∧W.heap[w.heap.size+1+1+1]? =some (.cells #[.pointer (some ⟨w.heap.size+1,0,none⟩)] 277 (0,0))∧
  (∃v,W.heap[w.heap.size+1+1]? =some (.cells #[v] 22 (0,0))∧OwnI W (w.heap.size+1+1+1+1) v xs)∧Below w.heap.size w W∧w.heap.size+1+1+1<W.heap.size
theorem EJ.steady{w:World}{d:WalkD}{f:Nat→Bool}{xs:List Int}{D:Nat}(hD:w.heap.size≤D):Steady D (EJ w d f xs):=by
 unfold EJ
 exact(Steady.block _ _ rfl).and ((Steady.block _ _ rfl).and ((Steady.block _ _ rfl).and ((Steady.ex fun v=>(Steady.block _ _ rfl).and (Steady.ownI _ _ _ _)).and ((Steady.below (Nat.le_refl _) hD).and (Steady.size _ _)))))
theorem EJ.ext{w W W':World}{d:WalkD}{f:Nat→Bool}{xs:List Int}(h:EJ w d f xs W)(hb:Below W.heap.size W W'):EJ w d f xs W':=(EJ.steady (Nat.le_refl _)).ext h hb
theorem EJ.app{w W W':World}{d:WalkD}{f:Nat→Bool}{xs:List Int}{v:Value}(hv:W.heap[w.heap.size+1+1]? =some (.cells #[v] 22 (0,0)))(ho:OwnI W (w.heap.size+1+1+1+1) v xs)(h:EJ w d f xs W)(hg:W.grownBy W' v.ownBlock)(v':Value)(x:Int)(hx:I64 x)(hn:xs.length≤1000)(ho':W'.ownsRow (w.heap.size+1+1+1+1) 3 1 v' (xs.length+1) (intVals xs++ [.int .i64 x])):
  EJ w d f (xs++ [x]) (W'.setCell ⟨w.heap.size+1+1,0,none⟩ v')∧Keep W (W'.setCell ⟨w.heap.size+1+1,0,none⟩ v'):=by
 obtain⟨h1,h2,h3,_,h5,h6⟩:=h
 have low:∀q,q<w.heap.size+1+1+1+1→v.ownBlock≠some q:=fun q hq e=>by have:=(ho.1.lt q e).1;omega
 have g:=grown_setCell W' (w.heap.size+1+1) 0 v'
 have hv2:=grown_row hg hv (low _ (by omega))
 refine⟨⟨grown_row g (grown_row hg h1 (low _ (by omega))) (by simp;omega),grown_row g (grown_row hg h2 (low _ (by omega))) (by simp),grown_row g (grown_row hg h3 (low _ (by omega))) (by simp),⟨v',?_,?_⟩,(h5.grown hg h5.size (fun r e=>by have:=(ho.1.lt r e).1;omega)).setCell (by simp;omega) _,by have:=hg.size;simp;omega⟩,
  (Keep.grown hg (own_nobook ho.1)).trans (Keep.setCell _ _ _)⟩
 ·have:=heap_setCell_same W' (w.heap.size+1+1) 0 _ _ v' hv2;simpa using this
 ·have e3:(xs++ [x]).length=xs.length+1:=by simp
  have e4:intVals (xs++ [x])=intVals xs++ [.int .i64 x]:=by simp[intVals]
  refine OwnI.kept (w:=W') ⟨by rw[e3,e4];exact ho',fun z hz=>?_,by rw[e3];omega⟩ g ?_
  ·rcases List.mem_append.1 hz with h|h
   ·exact ho.2.1 z h
   ·simp only[List.mem_singleton] at h;subst h;exact hx
  ·cases e:v'.ownBlock with
   |none=>exact .inl rfl
   |some k=>
    have:=(ho'.lt k e).1;refine .inr ?_;intro e2;injection e2 with e2;omega
theorem entries_any(d:WalkD)(ts:List TermD)(f:Nat→Bool)(w:World)(hok:WalkOK w d ts)(hg:goodB ts=true):
  Calls Tryz.prog 168 #[walkV d,.agg (setA f)] w (IntsPost w (intsN (entriesS ts f))):=by
 refine(callsIn_wide (n:=0)).1 ?_
 refine callsIn_of_wp_marks Tryz.func168 rfl trivial ?_
 simp only[Tryz.ntmps168,List.size_toArray,List.length_cons,List.length_nil,Nat.reduceAdd,Nat.reduceSub,Array.replicate_succ,Array.replicate_zero,List.push_toArray,List.append_toArray,List.nil_append,List.cons_append]
 have HOK:=Lib.hid hok
 have HPV:=Lib.hid (WalkOK.nx_lt (w:=w) (d:=d) hg).2
 have hdl:ts.length=d.bn:=hok.1
 have hdn:d.bn≤200:=hok.2.1
 have HDL:=Lib.hid hdl
 clear hok hg hdl
 gi_wp2_with (gi_at_call 94;refine(callsIn_wide.2 (each_any _ _)).mono ?_;rintro e w' ⟨rfl,rfl⟩)
 refine range_list (ps:=#[7]) (gf:=194) (lb:=#[.pointer (some ⟨w.heap.size+1+1+1,0,none⟩)]) (enc:=encN) (l:=listS f) rfl enter_each _ (each_iterI f (w.heap.size+1+1+1) (w.heap.size+1)) (fun _=>rfl)
  (fun dn r W=>Hid (EJ w d f (intsN (dn.filter (entB ts f))) W)) (fun _ _=>False)
  (fun dn r=>EJ.steady (by simp;omega)) (fun c=>Steady.pure _ _) (fun dn r W h=>⟨by rw[cell_of_row _ _ _ _ _ _ h.out.2.2.1];rfl,h.out.2.1⟩) ?start ?round ?done ?stop
 case start=>
  refine⟨?_,?_,?_,⟨_,?_,OwnI.nil _ _⟩,?_,by simp⟩
  ·rw[Below.heap_alloc _ _ _ (by simp;omega),Below.heap_alloc _ _ _ (by simp;omega),Below.heap_alloc _ _ _ (by simp)];exact heap_alloc_new _ _
  ·rw[Below.heap_alloc _ _ _ (by simp),Below.heap_alloc _ _ _ (by simp)];exact heap_at _ _ _ (by simp)
  ·exact heap_at _ _ _ (by simp)
  ·rw[Below.heap_alloc _ _ _ (by simp)];exact heap_at _ _ _ (by simp)
  ·exact(((ext_alloc _ _).alloc (by simp) _).alloc (by simp;omega) _).alloc (by simp;omega) _
 case round=>
  rintro lp dn x r W hd hJ;unfold encN
  gi_wp2
  refine⟨Keep.refl _,hJ,?_⟩;clear hJ lp W;rintro lp W hJ;obtain⟨j1,j2,j3,⟨v,j4,jo⟩,jb,js⟩:=hJ.out;have hxl:x<200:=listS_lt f x (by rw[hd];simp);have hc3:W.cell? ⟨w.heap.size,3,none⟩=some (.slice d.fa d.bn d.fc):=by rw[cell_of_row _ _ _ _ _ _ j1];rfl
  by_cases hxb:x<d.bn
  ·obtain⟨b,o,ra,rc,rfa,hcr,hir⟩:=(HOK.out.ext jb).2.2.2.2.2 x (pv ts x) (by simp[fromRows,HDL.out,hxb]);rw[rfa] at hc3;have J2:=Lib.hid j2;have HIR:=Lib.hid hir;have HPX:Hid (∀z∈intsN (pv ts x),∃q:Nat,z=(q:Int)∧q<200):=fun z hz=>by
    simp only[intsN,List.mem_map] at hz;obtain⟨q,hq,rfl⟩:=hz;exact⟨q,rfl,HPV.out x q hq⟩
   have hxb':(x:Int)<(d.bn:Int):=by omega
   clear j1 j2 j3 j4 jo jb js hir;by_cases hent:entB ts f x=true
   ·have HANY:Hid (((intsN (pv ts x)).any fun z=> !f z.toNat)=true):=by
     rw[Hid,any_intsN];simp only[entB,Bool.and_eq_true] at hent;exact hent.2
    have HFL:Hid (intsN ((dn++ [x]).filter (entB ts f))=intsN (dn.filter (entB ts f))++ [(x:Int)]):=by
     rw[Hid,List.filter_append,List.filter_cons,if_pos hent];simp[intsN]
    have hlen:(intsN (dn.filter (entB ts f))).length≤1000:=by
     have h1:=listS_len f;rw[hd] at h1;have h2:=List.length_filter_le (entB ts f) dn;simp[intsN] at h1⊢;omega
    clear hent
    gi_wp2_with (first
     |(gi_at_call 241
       refine(CallsIn.inRound _ (callsIn_wide.2 (containsFunc_any 245 #[.pointer (some ⟨w.heap.size+1,0,none⟩)] enter_ent1 (fun z=> !f z.toNat) _ _ _ (intsN (pv ts x)) W (fun z W' hz hb=>?_) HIR.out))).mono ?_
       ·obtain⟨q,rfl,hq⟩:=HPX.out z hz;exact ent1_any f (w.heap.size+1) q hq W' (block_ext hb J2.out)
       rintro e w2 ⟨rfl,hb2⟩;rw[HANY.out];have HJ2:=Lib.hid (hJ.out.ext hb2);have HK2:=Lib.hid (Keep.ext hb2);clear hb2;obtain⟨v2,hv2,ho2⟩:=HJ2.out.2.2.2.1;obtain⟨av,cv,rfl⟩:=ho2.form;have hcv:w2.cell? ⟨w.heap.size+1+1,0,none⟩=some (.slice av (intsN (dn.filter (entB ts f))).length cv):=(by rw[cell_of_row _ _ _ _ _ _ hv2];rfl)
       have HV2:=Lib.hid hv2;have HO2:=Lib.hid ho2;have hsz2:=HJ2.out.2.2.2.2.2
       clear hv2 ho2)
     |(gi_at_builtin
       refine listIn_of (by repeat (first|exact noOut_round|refine noOut_then ?_|refine noOut_block ?_)) _ _ _ rfl ?_;refine wpList_append1 rfl w2 (.tmp 22) (.tmp 24) 22 3 rfl (w.heap.size+1+1+1+1) _ 1 8 Tryz.underlying22 infoI rfl (by omega) (.slice av (intsN (dn.filter (entB ts f))).length cv) (intsN (dn.filter (entB ts f))).length _ [.int .i64 (x:Int)] rfl HO2.out.1 w2.heap.size rfl rfl rfl (by simp[Value.oneCell']) (by simp only[maxLen];omega) (by omega) (by omega) ?_;intro g cap w3 hown3 hg3 hat3;have HAPP:=Lib.hid (HJ2.out.app HV2.out HO2.out hg3 _ (x:Int) (by unfold I64;omega) hlen hown3);have hv3:=grown_row hg3 HV2.out (fun e=>by have:=(HO2.out.1.lt _ e).1;omega);have hc3':w3.cell? ⟨w.heap.size+1+1,0,none⟩=some (.slice av (intsN (dn.filter (entB ts f))).length cv):=(by rw[cell_of_row _ _ _ _ _ _ hv3];rfl)
       have hf3:w3.frozen? ⟨w.heap.size+1+1,0,none⟩=false:=frozen_of_row _ _ _ _ _ hv3;have hl3:w.heap.size+1+1<w3.heap.size:=lt_of_heap hv3
       clear hown3 hg3 hat3 hv3 hcv))
    go_wp2;refine⟨HK2.out.trans HAPP.out.2,?_⟩;have e9:=HFL.out;rw[List.filter_append] at e9;simp only[Hid,List.filter_append,e9];exact HAPP.out.1
   ·have hent':entB ts f x=false:=by simpa using hent
    have HANY:Hid (((intsN (pv ts x)).any fun z=> !f z.toNat)=false):=by
     rw[Hid,any_intsN];simp only[entB,Bool.and_eq_false_iff] at hent';rcases hent' with h|h
     ·rw[HDL.out] at h;simp at h;omega
     ·exact h
    have HFL:Hid (intsN ((dn++ [x]).filter (entB ts f))=intsN (dn.filter (entB ts f))):=by
     rw[Hid,List.filter_append,List.filter_cons,if_neg hent];simp
    clear hent hent'
    gi_wp2_with (
     (gi_at_call 241
      refine(CallsIn.inRound _ (callsIn_wide.2 (containsFunc_any 245 #[.pointer (some ⟨w.heap.size+1,0,none⟩)] enter_ent1 (fun z=> !f z.toNat) _ _ _ (intsN (pv ts x)) W (fun z W' hz hb=>?_) HIR.out))).mono ?_
      ·obtain⟨q,rfl,hq⟩:=HPX.out z hz;exact ent1_any f (w.heap.size+1) q hq W' (block_ext hb J2.out)
      rintro e w2 ⟨rfl,hb2⟩;rw[HANY.out];have HJ2:=Lib.hid (hJ.out.ext hb2);have HK2:=Lib.hid (Keep.ext hb2)
      clear hb2))
    refine⟨HK2.out,?_⟩;have e9:=HFL.out;rw[List.filter_append] at e9;simp only[Hid,List.filter_append,e9];exact HJ2.out
  ·have hxb':¬(x:Int)<(d.bn:Int):=by omega
   have HFL:Hid (intsN ((dn++ [x]).filter (entB ts f))=intsN (dn.filter (entB ts f))):=by
    rw[Hid,List.filter_append,List.filter_cons,if_neg (by simp only[entB,Bool.and_eq_true,decide_eq_true_eq,HDL.out];exact fun h=>hxb h.1)];simp
   clear j1 j2 j3 j4 jo jb js hxb
   gi_wp2
   refine⟨Keep.refl _,?_⟩;have e9:=HFL.out;rw[List.filter_append] at e9;simp only[Hid,List.filter_append,e9];exact hJ.out
 case done=>
  rintro D W hD hJ hK;obtain⟨v,hv,ho⟩:=hJ.out.2.2.2.1;obtain⟨av,cv,rfl⟩:=ho.form;have HJ:=hJ;have HV:=Lib.hid hv;have hcv:W.cell? ⟨w.heap.size+1+1,0,none⟩=some (.slice av (intsN ((listS f).filter (entB ts f))).length cv):=by rw[cell_of_row _ _ _ _ _ _ hv];rfl
  have hfv:W.frozen? ⟨w.heap.size+1+1,0,none⟩=false:=frozen_of_row _ _ _ _ _ hv;have hlv:=lt_of_heap hv;have HO:=Lib.hid ho;clear hv ho hJ
  gi_wp2
  have hDP:D≠w.heap.size+1+1:=by simp at hD;omega
  have g:=grown_setCell W (w.heap.size+1+1) 0 (.slice av (intsN ((listS f).filter (entB ts f))).length cv);have hK2:=grown_row g hK (by simp;omega)
  have ho2:OwnI (W.setCell ⟨w.heap.size+1+1,0,none⟩ (.slice av (intsN ((listS f).filter (entB ts f))).length cv)) (w.heap.size+1+1+1+1) (.slice av (intsN ((listS f).filter (entB ts f))).length cv) (intsN ((listS f).filter (entB ts f))):=HO.out.kept g (by
   cases e:(Value.slice av (intsN ((listS f).filter (entB ts f))).length cv).ownBlock with
   |none=>exact .inl rfl
   |some k=>
    have:=(HO.out.1.lt k e).1;refine .inr ?_;intro e2;injection e2 with e2
    omega)
  have hb2:Below w.heap.size w (W.setCell ⟨w.heap.size+1+1,0,none⟩ (.slice av (intsN ((listS f).filter (entB ts f))).length cv)):=HJ.out.2.2.2.2.1.setCell (by simp;omega) _;have hv2:(W.setCell ⟨w.heap.size+1+1,0,none⟩ (.slice av (intsN ((listS f).filter (entB ts f))).length cv)).heap[w.heap.size+1+1]? =some (.cells #[.slice av (intsN ((listS f).filter (entB ts f))).length cv] 22 (0,0)):=by
   have:=heap_setCell_same W (w.heap.size+1+1) 0 _ _ (.slice av (intsN ((listS f).filter (entB ts f))).length cv) HV.out;simpa using this
  generalize W.setCell ⟨w.heap.size+1+1,0,none⟩ (.slice av (intsN ((listS f).filter (entB ts f))).length cv)=W2 at *;have ho3:=(Steady.ownI D (w.heap.size+1+1+1+1) (.slice av (intsN ((listS f).filter (entB ts f))).length cv) (intsN ((listS f).filter (entB ts f)))).put (.deferred none) (l:=D) ho2 (Nat.le_refl _) hK2 rfl;have hb3:=(Steady.below (n₀:=w.heap.size) (B:=w.heap.size) (w₀:=w) (Nat.le_refl _) (Nat.le_refl _)).put (.deferred none) (l:=D) hb2 (by simp at hD;omega) hK2 rfl;have hv3:(W2.putObj D (.deferred none)).heap[w.heap.size+1+1]? =some (.cells #[.slice av (intsN ((listS f).filter (entB ts f))).length cv] 22 (0,0)):=(World.putObj_heap_other (by omega)).trans hv2;have hc3:(W2.putObj D (.deferred none)).cell? ⟨w.heap.size+1+1,0,none⟩=some (.slice av (intsN ((listS f).filter (entB ts f))).length cv):=by rw[cell_of_row _ _ _ _ _ _ hv3];rfl
  refine⟨by simp,.inl ⟨_,_,rfl,run_takeDeferred hK2,?_⟩⟩;exact⟨.slice av (intsN ((listS f).filter (entB ts f))).length cv,by simp[results,Tryz.results168,go_sem,hc3],_,rfl,ho3.mono (by omega),hb3⟩
 case stop=>rintro D c W hD h;exact h.elim
end
end Go.Proofs.YthgebcfohnlhlaaGreatDoor
