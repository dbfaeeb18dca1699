/-
 Tile:rings;whether blocks hang together.
-/
import Derived.Test.YthgebcfohnlhlaaGreatDoorTJ
namespace Go.Proofs.YthgebcfohnlhlaaGreatDoor
set_option linter.unusedSimpArgs false
set_option linter.unusedVariables false
set_option linter.unusedSectionVars false
set_option maxRecDepth 100000
set_option maxHeartbeats 40000000
section
open Go.RowKit Go.Shelf
attribute [local go_sem] Oper.semAt_some wide_fn wide_depth wide_fnR wide_depthR
theorem index_set(w:World)(f:Nat→Bool)(b:Nat)(hb:b<200):(Instr.index 156 (.agg (setA f)) (.int .i64 (b:Int))).run Tryz.prog w=.ok (.bool (f b)) w:=by
 have hz:(Go.sizeOf 4).run Tryz.prog w=.ok 1 w:=by kernel_rfl
 have hb2:(0:Int)≤(b:Int)∧(b:Int)<((200:Nat):Int):=by omega
 have h1:=part_bool (setA f) b _ w (setA_at f b hb)
 simp only[Instr.index,asIntOf,Sem.run_bind,Sem.run_pure,Result.andThen_ok,run_underlying (w:=w) Tryz.underlying156,if_pos hb2,hz]
 simpa using h1
theorem rings1_any(d:WalkD)(ts:List TermD)(f:Nat→Bool)(P S:Nat)(x:Nat)(hx:x<200)(W:World)(hP:W.heap[P]? =some (walkO d))(hS:W.heap[S]? =some (setO f))(hok:WalkOK W d ts)(hg:goodB ts=true)(hcf:Canon f)(hf:x<d.bn):
  Calls Tryz.prog 246 (#[.int .i64 (x:Int)]++ #[.pointer (some ⟨P,0,none⟩),.pointer (some ⟨S,0,none⟩)]) W fun e W'=>e=.returned (.bool (knotS ts x f x))∧Below W.heap.size W W':=by
 show Calls Tryz.prog 246 #[.int .i64 (x:Int),.pointer (some ⟨P,0,none⟩),.pointer (some ⟨S,0,none⟩)] W _
 have HP:=Lib.hid hP
 have HS:=Lib.hid hS
 have HOK:=Lib.hid hok
 have HG:=Lib.hid hg
 have HF:=Lib.hid hf
 have HCF:=Lib.hid hcf
 clear hP hS hok hg hf hcf
 have hix:=fun w=>index_set w (knotS ts x f) x hx
 go_enter Tryz.func246,Tryz.ntmps246
 go_wp2_with (first
  |(refine wpList_load_row (o:=⟨some 5,.load 149 _,_,_,_,_⟩) rfl 149 _ rfl P rfl 149 _ (0,0) _ HP.out Tryz.underlying149 rfl size_walk ?_)
  |(refine wpList_load_row (o:=⟨some 7,.load 156 _,_,_,_,_⟩) rfl 156 _ rfl S rfl 156 _ (0,0) _ HS.out Tryz.underlying156 rfl (by rw[setA_size];exact size_set) ?_)
  |(go_at_call 186
    refine(knot_any d ts x f W hx HOK.out HG.out HCF.out fun _=>HF.out).mono ?_;rintro e w2 ⟨rfl,hb⟩;have HB:=Lib.hid hb
    clear hb))
 go_ret
 exact⟨rfl,HB.out⟩
theorem enter_rings1(args:Array Value)(w:World):(callFunc 246 args).run Tryz.prog w=.ok (.enter 246 args) w:=enters_of Tryz.func246 (by kernel_rfl) rfl args w
theorem rings_any(d:WalkD)(ts:List TermD)(f:Nat→Bool)(a:Option Addr)(n c:Nat)(bs:List Int)(w:World)(hI:Ints w a n bs)(hbs:∀x∈bs,0≤x∧x<d.bn)(hok:WalkOK w d ts)(hg:goodB ts=true)(hf:Canon f):
  Calls Tryz.prog 170 #[walkV d,.slice a n c,.agg (setA f)] w fun e w'=>e=.returned (.bool (ringsB ts bs f))∧Below w.heap.size w w':=by
 have HI:=Lib.hid hI
 have HBS:=Lib.hid hbs
 have HOK:=Lib.hid hok
 have HG:=Lib.hid hg
 have HF:=Lib.hid hf
 clear hI hbs hok hg hf
 go_enter Tryz.func170,Tryz.ntmps170
 go_wp2_with (
  (go_at_call 241
   refine(containsFunc_any 246 #[.pointer (some ⟨w.heap.size,0,none⟩),.pointer (some ⟨w.heap.size+1,0,none⟩)] enter_rings1 (fun z=>knotS ts z.toNat f z.toNat) a n c bs _ (fun z W hz hb=>?_) (HI.out.ext ((ext_alloc _ _).alloc (by simp) _))).mono ?_
   ·have hz2:=HBS.out z hz;have hbn:=HOK.out.2.1;obtain⟨q,rfl⟩:∃q:Nat,z=(q:Int):=⟨z.toNat,by omega⟩
    refine rings1_any d ts f w.heap.size (w.heap.size+1) q (by omega) W (block_ext hb ?_) (block_ext hb (heap_at _ _ _ (by simp))) (HOK.out.ext (ext_trans ((ext_alloc _ _).alloc (by simp) _) hb)) HG.out HF.out (by omega);rw[Below.heap_alloc _ _ _ (by simp)];exact heap_alloc_new _ _
   rintro e w2 ⟨rfl,hb⟩;have HB:=Lib.hid hb
   clear hb))
 go_ret
 exact⟨rfl,ext_trans ((ext_alloc _ _).alloc (by simp) _) HB.out⟩
def ToJ(w:World)(d:WalkD)(f:Nat→Bool)(W:World):Prop:=
 W.heap[w.heap.size]? =some (walkO d)∧W.heap[w.heap.size+1]? =some (setO f)∧W.heap[w.heap.size+1+1]? =some (.cells #[.bool false] 4 (0,0))∧W.heap[w.heap.size+1+1+1]? =some (.cells #[.pointer (some ⟨w.heap.size+1,0,none⟩)] 277 (0,0))∧Below w.heap.size w W
theorem ToJ.steady{w:World}{d:WalkD}{f:Nat→Bool}{D:Nat}(hD:w.heap.size≤D):Steady D (ToJ w d f):=by
 unfold ToJ
 exact(Steady.block _ _ rfl).and ((Steady.block _ _ rfl).and ((Steady.block _ _ rfl).and ((Steady.block _ _ rfl).and (Steady.below (Nat.le_refl _) hD))))
theorem together_any(d:WalkD)(ts:List TermD)(f:Nat→Bool)(w:World)(hok:WalkOK w d ts)(hg:goodB ts=true)(hcf:Canon f)(hf:∀b l,listS f=b :: l→b<d.bn):
  Calls Tryz.prog 169 #[walkV d,.agg (setA f)] w fun e w'=>e=.returned (.bool (togetherB ts f))∧Below w.heap.size w w':=by
 refine(callsIn_wide (n:=0)).1 ?_
 refine callsIn_of_wp_marks Tryz.func169 rfl trivial ?_
 simp only[Tryz.ntmps169,List.size_toArray,List.length_cons,List.length_nil,Nat.reduceAdd,Nat.reduceSub,Array.replicate_succ,Array.replicate_zero,List.push_toArray,List.append_toArray,List.nil_append,List.cons_append]
 have HOK:=Lib.hid hok
 have HG:=Lib.hid hg
 have HF:=Lib.hid hf
 have HCF:=Lib.hid hcf
 have hdn:d.bn≤200:=hok.2.1
 clear hok hg hcf hf
 gi_wp2_with (gi_at_call 94;refine(callsIn_wide.2 (each_any _ _)).mono ?_;rintro e w' ⟨rfl,rfl⟩)
 refine range_list (ps:=#[7]) (gf:=194) (lb:=#[.pointer (some ⟨w.heap.size+1+1+1,0,none⟩)]) (enc:=encN) (l:=listS f) rfl enter_each _ (each_iterI f (w.heap.size+1+1+1) (w.heap.size+1)) (fun _=>rfl)
  (fun dn r W=>Hid (dn= []∧ToJ w d f W)) (fun c W=>c=.ret∧W.heap[w.heap.size+1+1]? =some (.cells #[.bool (togetherB ts f)] 4 (0,0))∧Below w.heap.size w W)
  (fun dn r=>(Steady.pure _ _).and (ToJ.steady (by simp;omega))) (fun c=>(Steady.pure _ _).and ((Steady.block _ _ rfl).and (Steady.below (Nat.le_refl _) (by simp;omega)))) (fun dn r W h=>⟨by rw[cell_of_row _ _ _ _ _ _ h.out.2.2.2.2.1];rfl,h.out.2.2.1⟩) ?start ?round ?done ?stop
 case start=>
  refine⟨rfl,?_,?_,?_,?_,?_⟩
  ·rw[Below.heap_alloc _ _ _ (by simp;omega),Below.heap_alloc _ _ _ (by simp;omega),Below.heap_alloc _ _ _ (by simp)];exact heap_alloc_new _ _
  ·rw[Below.heap_alloc _ _ _ (by simp),Below.heap_alloc _ _ _ (by simp)];exact heap_at _ _ _ (by simp)
  ·rw[Below.heap_alloc _ _ _ (by simp)];exact heap_at _ _ _ (by simp)
  ·exact heap_at _ _ _ (by simp)
  ·exact(((ext_alloc _ _).alloc (by simp) _).alloc (by simp;omega) _).alloc (by simp;omega) _
 case round=>
  rintro lp dn x r W0 hd hJ;unfold encN
  gi_wp2
  refine⟨Keep.refl _,hJ,?_⟩;clear hJ lp W0;rintro lp W0 hJ;obtain⟨rfl,j1,j2,j3,j4,jb⟩:=hJ.out;have hxl:x<200:=listS_lt f x (by rw[hd];simp);have HXB:Hid (f x=true→x<d.bn):=fun _=>HF.out x r hd;have HE:Hid (togetherB ts f=eqS (knotS ts x f) f):=by
   have:listS f=x :: r:=hd;simp only[Hid,togetherB,this]
  have HW:=Lib.hid j1;have HS:=Lib.hid j2;have HR:=Lib.hid j3;have HBW:=Lib.hid jb;clear hJ j1 j2 j3 j4 jb hd;refine wpIn_block ?_;refine wpIn_seq ?_;refine round_free 6 [some 8,some 9,some 10,some 11,some 12,some 13] (by kernel_rfl) (by kernel_rfl) (by repeat (first|exact noOut_round|refine noOut_then ?_|refine noOut_block ?_)) (by kernel_rfl) (specB [.val (walkV d),.val (.int .i64 (x:Int)),.val (.agg (setA f)),.val (.agg (setA (knotS ts x f))),.val (.agg (setA f)),.val (.bool (eqS (knotS ts x f) f))]) (specB_mono ?_) ?_ ?_
  ·intro k hk;simp only[List.mem_cons,List.not_mem_nil,or_false] at hk;rcases hk with rfl|rfl|rfl|rfl|rfl|rfl
   ·exact trivial
   ·exact trivial
   ·exact trivial
   ·exact trivial
   ·exact trivial
   ·exact trivial
  ·intro i hi ν lo hi' w1 K hB hD hK;have hcase:i=0∨i=1∨i=2∨i=3∨i=4∨i=5:=by omega
   clear hi;rcases hcase with rfl|rfl|rfl|rfl|rfl|rfl
   ·clear hD;refine wpOp_atK rfl rfl ?_;simp only[zA,zB,zC,zD,zE,zF,zJ,zK,zG,zH,zI] at hK⊢;refine wp_load_row 149 _ rfl w.heap.size rfl 149 _ (0,0) _ (block_ext hB HW.out) Tryz.underlying149 rfl size_walk ?_;exact hK _ _ (Below.refl _ _) rfl
   ·clear hD;refine wpOp_atK rfl rfl ?_;simp only[zA,zB,zC,zD,zE,zF,zJ,zK,zG,zH,zI] at hK⊢;go_simp;exact hK _ _ (Below.refl _ _) rfl
   ·clear hD;refine wpOp_atK rfl rfl ?_;simp only[zA,zB,zC,zD,zE,zF,zJ,zK,zG,zH,zI] at hK⊢;refine wp_load_row 156 _ rfl (w.heap.size+1) rfl 156 _ (0,0) _ (block_ext hB HS.out) Tryz.underlying156 rfl (by rw[setA_size];exact size_set) ?_;exact hK _ _ (Below.refl _ _) rfl
   ·have e0:=hD 0 (by kernel_rfl)
    replace e0:ν 0=(walkV d):=e0
    have e1:=hD 1 (by kernel_rfl)
    replace e1:ν 1=(.int .i64 (x:Int)):=e1
    have e2:=hD 2 (by kernel_rfl)
    replace e2:ν 2=(.agg (setA f)):=e2
    clear hD;refine wpOp_atK rfl rfl ?_;simp only[zA,zB,zC,zD,zE,zF,zJ,zK,zG,zH,zI,e0,e1,e2] at hK⊢;go_simp;refine(knot_any d ts x f w1 (by omega) (HOK.out.ext (ext_trans HBW.out hB)) HG.out HCF.out HXB.out).mono ?_;rintro e w3 ⟨rfl,hb3⟩;exact hK _ _ hb3 rfl
   ·clear hD;refine wpOp_atK rfl rfl ?_;simp only[zA,zB,zC,zD,zE,zF,zJ,zK,zG,zH,zI] at hK⊢;refine wp_load_row 156 _ rfl (w.heap.size+1) rfl 156 _ (0,0) _ (block_ext hB HS.out) Tryz.underlying156 rfl (by rw[setA_size];exact size_set) ?_;exact hK _ _ (Below.refl _ _) rfl
   ·have e3:=hD 3 (by kernel_rfl)
    replace e3:ν 3=(.agg (setA (knotS ts x f))):=e3
    have e4:=hD 4 (by kernel_rfl)
    replace e4:ν 4=(.agg (setA f)):=e4
    clear hD;refine wpOp_atK rfl rfl ?_;simp only[zA,zB,zC,zD,zE,zF,zJ,zK,zG,zH,zI,e3,e4] at hK⊢;have heq:=equal_set w1 (knotS ts x f) f;go_simp;exact hK _ _ (Below.refl _ _) rfl
  ·intro ν lo hi w1 hB hS hI hD;have e0:ν 0=(walkV d):=hS 0 (by omega);have e1:ν 1=(.int .i64 (x:Int)):=hS 1 (by omega);have e2:ν 2=(.agg (setA f)):=hS 2 (by omega);have e3:ν 3=(.agg (setA (knotS ts x f))):=hS 3 (by omega);have e4:ν 4=(.agg (setA f)):=hS 4 (by omega);have e5:ν 5=(.bool (eqS (knotS ts x f) f)):=hS 5 (by omega);clear hS;simp only[List.drop_succ_cons,List.drop_zero,zA,zB,zC,zD,zE,zF,zJ,zK,zG,zH,zI,e0,e1,e2,e3,e4,e5];have HB1:=Lib.hid hB;clear hI hD e0 e1 e2 e3 e4 e5;have hr1:=block_ext HB1.out HR.out;have hc1:w1.cell? ⟨w.heap.size+1+1,0,none⟩=some (.bool false):=by rw[cell_of_row _ _ _ _ _ _ hr1];rfl
   have hf1:w1.frozen? ⟨w.heap.size+1+1,0,none⟩=false:=frozen_of_row _ _ _ _ _ hr1;have hl1:=lt_of_heap hr1;have HR1:=Lib.hid hr1;clear hr1 hB;go_wp2;refine wpIn_ret ?_;have hst:=heap_setCell_same w1 (w.heap.size+1+1) 0 _ _ (.bool (eqS (knotS ts x f) f)) HR1.out;exact⟨(Keep.ext HB1.out).trans (Keep.setCell _ _ _),rfl,by rw[HE.out];simpa using hst,(ext_trans HBW.out HB1.out).setCell (by simp;omega) _⟩
 case done=>
  rintro D W hD hJ hK;obtain⟨hl,j1,j2,j3,j4,jb⟩:=hJ.out;have HE:Hid (togetherB ts f=true):=by simp only[Hid,togetherB,hl]
  have hc1:W.cell? ⟨w.heap.size+1+1,0,none⟩=some (.bool false):=by rw[cell_of_row _ _ _ _ _ _ j3];rfl
  have hf1:W.frozen? ⟨w.heap.size+1+1,0,none⟩=false:=frozen_of_row _ _ _ _ _ j3;have hl1:=lt_of_heap j3;have HB:=Lib.hid jb;have HJ3:=Lib.hid j3;clear hJ j1 j2 j3 j4 jb hl
  gi_wp2
  have hDP:D≠w.heap.size+1+1:=by simp at hD;omega
  have g:=grown_setCell W (w.heap.size+1+1) 0 (.bool true);have hK2:=grown_row g hK (by simp;omega);have hb2:Below w.heap.size w (W.setCell ⟨w.heap.size+1+1,0,none⟩ (.bool true)):=HB.out.setCell (by simp;omega) _;have hv2:(W.setCell ⟨w.heap.size+1+1,0,none⟩ (.bool true)).heap[w.heap.size+1+1]? =some (.cells #[.bool true] 4 (0,0)):=by
   have:=heap_setCell_same W (w.heap.size+1+1) 0 _ _ (.bool true) HJ3.out;simpa using this
  generalize W.setCell ⟨w.heap.size+1+1,0,none⟩ (.bool true)=W2 at *;have hb3:=(Steady.below (n₀:=w.heap.size) (B:=w.heap.size) (w₀:=w) (Nat.le_refl _) (Nat.le_refl _)).put (.deferred none) (l:=D) hb2 (by simp at hD;omega) hK2 rfl;have hv3:(W2.putObj D (.deferred none)).heap[w.heap.size+1+1]? =some (.cells #[.bool true] 4 (0,0)):=(World.putObj_heap_other (by omega)).trans hv2;have hc3:(W2.putObj D (.deferred none)).cell? ⟨w.heap.size+1+1,0,none⟩=some (.bool true):=by rw[cell_of_row _ _ _ _ _ _ hv3];rfl
  refine⟨by simp,.inl ⟨_,_,rfl,run_takeDeferred hK2,?_⟩⟩;exact⟨.bool true,by simp[results,Tryz.results169,go_sem,hc3],by rw[HE.out],hb3⟩
 case stop=>
  rintro D c W hD ⟨rfl,hv,hb⟩ hK;have hv2:(W.putObj D (.deferred none)).heap[w.heap.size+1+1]? =some (.cells #[.bool (togetherB ts f)] 4 (0,0)):=(World.putObj_heap_other (by simp at hD;omega)).trans hv;have hb2:=(Steady.below (n₀:=w.heap.size) (B:=w.heap.size) (w₀:=w) (Nat.le_refl _) (Nat.le_refl _)).put (.deferred none) (l:=D) hb (by simp at hD;omega) hK rfl;have hc:(W.putObj D (.deferred none)).cell? ⟨w.heap.size+1+1,0,none⟩=some (.bool (togetherB ts f)):=by rw[cell_of_row _ _ _ _ _ _ hv2];rfl
  gi_wp2
  refine⟨by simp,.inl ⟨_,_,rfl,run_takeDeferred hK,?_⟩⟩;exact⟨.bool (togetherB ts f),by simp[results,Tryz.results169,go_sem,hc],rfl,hb2⟩
end
end Go.Proofs.YthgebcfohnlhlaaGreatDoor
