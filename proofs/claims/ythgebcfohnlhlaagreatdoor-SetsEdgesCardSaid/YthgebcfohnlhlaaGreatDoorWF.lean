/-
 law19's example:the function and its tiles.
-/
import Derived.Test.YthgebcfohnlhlaaGreatDoorSI
import Derived.Test.YthgebcfohnlhlaaGreatDoorPD
namespace Go.Proofs.YthgebcfohnlhlaaGreatDoor
set_option linter.unusedSimpArgs false
set_option linter.unusedVariables false
set_option linter.unusedSectionVars false
set_option maxRecDepth 100000
set_option maxHeartbeats 40000000
section
open Go.RowKit Go.Shelf
attribute [local go_sem] Oper.semAt_some wide_fn wide_depth wide_fnR wide_depthR
theorem intsLit{W:World}{g:Nat}{xs:List Int}{n:Nat}(h:W.heap[g]? =some (.cells (intVals xs).toArray 3 (0,0)))(hn:xs.length=n)(hx:∀x∈xs,I64 x)(hl:n≤1000):Ints W (some ⟨g,0,none⟩) n xs:=by
 subst hn
 refine⟨rfl,by omega,fun k hk=>⟨g,0,rfl,?_,hx _ ?_⟩⟩
 ·rw[cell_of_row _ _ _ _ _ _ h,Nat.zero_add];simp[intVals,List.getD_eq_getElem?_getD,hk]
 ·rw[List.getD_eq_getElem?_getD,List.getElem?_eq_getElem hk];exact List.getElem_mem _
theorem i64s(l:List Int)(h:∀x∈l,-1000≤x∧x≤1000:=by decide):∀x∈l,I64 x:=fun x hx=>by have:=h x hx;unfold I64;omega
def awTiles(g:Nat):List TileR:= [⟨⟨1,-1,[0,2]⟩,some ⟨g,0,none⟩,2,2⟩,⟨⟨2,0,[1]⟩,some ⟨g+1,0,none⟩,1,1⟩]
theorem aw_tiles{W:World}{b:Nat}(h0:W.heap[b]? =some (.cells #[.int .i64 0,.int .i64 2] 3 (0,0)))(h1:W.heap[b+1]? =some (.cells #[.int .i64 1] 3 (0,0)))
  (h2:W.heap[b+1+1]? =some (.cells #[.int .i64 1,.int .i64 (-1),.slice (some ⟨b,0,none⟩) 2 2,.int .i64 2,.int .i64 0,.slice (some ⟨b+1,0,none⟩) 1 1] 77 (0,0))):TilesOK W (some ⟨b+1+1,0,none⟩) 2 (awTiles b):=by
 refine⟨⟨rfl,by omega,fun k x hx=>⟨b+1+1,0,rfl,fun j hj=>?_⟩⟩,fun t ht=>?_⟩
 ·rw[cell_of_row _ _ _ _ _ _ h2]
  match k,hx,j,hj with
  |0,hx,0,_|0,hx,1,_|0,hx,2,_=>injection hx with hx;subst hx;rfl
  |1,hx,0,_|1,hx,1,_|1,hx,2,_=>injection hx with hx;subst hx;rfl
  |k+2,hx,_,_=>simp[awTiles] at hx
  |_,_,j+3,hj=>omega
 ·simp only[awTiles,List.mem_cons,List.not_mem_nil,or_false] at ht;rcases ht with rfl|rfl
  ·exact⟨intsLit (xs:= [0,2]) h0 rfl (i64s [0,2]) (by simp),by simp,by show I64 1;unfold I64;omega,by show I64 (-1);unfold I64;omega⟩
  ·exact⟨intsLit (xs:= [1]) h1 rfl (i64s [1]) (by simp),by simp,by show I64 2;unfold I64;omega,by show I64 0;unfold I64;omega⟩
theorem constant19_any(d n:Int)(w:World):Calls Tryz.prog 23 #[.int .i64 d,.int .i64 n] w fun e w'=>e=.returned (insV ⟨1,d,0,0,n,0,[],0⟩ none 0 0)∧Below w.heap.size w w':=by
 go_enter Tryz.func23,Tryz.ntmps23
 go_wp2
 refine bodyPost_ret (v:=insV ⟨1,d,0,0,n,0,[],0⟩ none 0 0) (by simp[results,Tryz.results23,go_sem]) rfl ?_
 exact⟨rfl,ext_alloc _ _⟩
theorem add19_any(d a b:Int)(w:World):Calls Tryz.prog 24 #[.int .i64 d,.int .i64 a,.int .i64 b] w fun e w'=>e=.returned (insV ⟨2,d,a,b,0,0,[],0⟩ none 0 0)∧Below w.heap.size w w':=by
 go_enter Tryz.func24,Tryz.ntmps24
 go_wp2
 refine bodyPost_ret (v:=insV ⟨2,d,a,b,0,0,[],0⟩ none 0 0) (by simp[results,Tryz.results24,go_sem]) rfl ?_
 exact⟨rfl,ext_alloc _ _⟩
theorem jump19_any(t:Int)(w:World):Calls Tryz.prog 26 #[.int .i64 t] w fun e w'=>e=.returned (termV ⟨1,0,t,0⟩)∧Below w.heap.size w w':=by
 go_enter Tryz.func26,Tryz.ntmps26
 go_wp2
 refine bodyPost_ret (v:=termV ⟨1,0,t,0⟩) (by simp[results,Tryz.results26,go_sem]) rfl ?_
 exact⟨rfl,ext_alloc _ _⟩
theorem branch19_any(a t o:Int)(w:World):Calls Tryz.prog 27 #[.int .i64 a,.int .i64 t,.int .i64 o] w fun e w'=>e=.returned (termV ⟨2,a,t,o⟩)∧Below w.heap.size w w':=by
 go_enter Tryz.func27,Tryz.ntmps27
 go_wp2
 refine bodyPost_ret (v:=termV ⟨2,a,t,o⟩) (by simp[results,Tryz.results27,go_sem]) rfl ?_
 exact⟨rfl,ext_alloc _ _⟩
theorem back19_any(a:Int)(w:World):Calls Tryz.prog 28 #[.int .i64 a] w fun e w'=>e=.returned (termV ⟨3,a,0,0⟩)∧Below w.heap.size w w':=by
 go_enter Tryz.func28,Tryz.ntmps28
 go_wp2
 refine bodyPost_ret (v:=termV ⟨3,a,0,0⟩) (by simp[results,Tryz.results28,go_sem]) rfl ?_
 exact⟨rfl,ext_alloc _ _⟩
theorem block19_any(t:TermD)(a:Option Addr)(n c:Nat)(w:World):Calls Tryz.prog 29 #[termV t,.slice a n c] w fun e w'=>e=.returned (blkV ⟨a,n,c,t⟩)∧Below w.heap.size w w':=by
 go_enter Tryz.func29,Tryz.ntmps29
 go_wp2
 refine bodyPost_ret (v:=blkV ⟨a,n,c,t⟩) (by simp[results,Tryz.results29,go_sem]) rfl ?_
 exact⟨rfl,ext_trans (ext_alloc _ _) (ext_alloc _ _)⟩
def exR1:InsR:=⟨⟨1,1,0,0,5,0,[],0⟩,none,0,0⟩
def exR2:InsR:=⟨⟨2,2,1,1,0,0,[],0⟩,none,0,0⟩
def exBs(g1 g2:Nat):List BlkR:= [⟨⟨some ⟨g1,0,none⟩,1,1,⟨1,0,1,0⟩⟩,[exR1]⟩,⟨⟨some ⟨g2,0,none⟩,1,1,⟨2,2,1,2⟩⟩,[exR2]⟩,⟨⟨none,0,0,⟨3,1,0,0⟩⟩,[]⟩]
theorem insS_one{W:World}{g:Nat}{r:InsR}(h:W.heap[g]? =some (.cells (insC r).toArray 57 (0,0)))(hr:InsOK W r):InsS W (some ⟨g,0,none⟩) 1 [r]:=by
 refine⟨⟨rfl,by omega,fun k x hx=>⟨g,0,rfl,fun j hj=>?_⟩⟩,fun x hx=>?_⟩
 ·obtain rfl:k=0:=by have:=(List.getElem?_eq_some_iff.1 hx).1;simpa using this
  simp only[List.getElem?_cons_zero,Option.some.injEq] at hx;subst hx;rw[cell_of_row _ _ _ _ _ _ h];simp
 ·rw[List.mem_singleton] at hx;subst hx;exact hr
theorem exIns(W:World):InsOK W exR1∧InsOK W exR2:=by
 refine⟨⟨⟨rfl,by decide,fun k hk=>absurd hk (by simp[exR1])⟩,by decide,?_⟩,⟨⟨rfl,by decide,fun k hk=>absurd hk (by simp[exR2])⟩,by decide,?_⟩⟩<;>simp only[exR1,exR2,I64]<;>omega
theorem ex_blks{W:World}{g1 g2 g3:Nat}(h1:W.heap[g1]? =some (.cells (insC exR1).toArray 57 (0,0)))(h2:W.heap[g2]? =some (.cells (insC exR2).toArray 57 (0,0)))
  (h3:W.heap[g3]? =some (.cells ((exBs g1 g2).flatMap blkC').toArray 71 (0,0))):BlksR W (some ⟨g3,0,none⟩) 3 (exBs g1 g2):=by
 obtain⟨e1,e2⟩:=exIns W
 refine⟨⟨rfl,by omega,fun k x hx=>⟨g3,0,rfl,fun j hj=>?_⟩⟩,fun b hb=>?_⟩
 ·rw[cell_of_row _ _ _ _ _ _ h3]
  match k,hx,j,hj with
  |0,hx,0,_|0,hx,1,_|0,hx,2,_|0,hx,3,_|0,hx,4,_=>injection hx with hx;subst hx;rfl
  |1,hx,0,_|1,hx,1,_|1,hx,2,_|1,hx,3,_|1,hx,4,_=>injection hx with hx;subst hx;rfl
  |2,hx,0,_|2,hx,1,_|2,hx,2,_|2,hx,3,_|2,hx,4,_=>injection hx with hx;subst hx;rfl
  |k+3,hx,_,_=>simp[exBs] at hx
  |_,_,j+5,hj=>omega
 ·simp only[exBs,List.mem_cons,List.not_mem_nil,or_false] at hb;rcases hb with rfl|rfl|rfl
  ·exact⟨by simp only[TermOK,I64];omega,insS_one h1 e1⟩
  ·exact⟨by simp only[TermOK,I64];omega,insS_one h2 e2⟩
  ·exact⟨by simp only[TermOK,I64];omega,⟨rfl,by simp,fun k x hx=>by cases hx⟩,fun r hr=>by cases hr⟩
theorem looped_any(w:World):Calls Tryz.prog 31 #[] w fun e w'=>∃g1 g2 ba bc ta tc g5,e=.returned (.tuple #[funcV none 0 0 ba 3 bc,.slice ta 2 tc])∧BlksR w' ba 3 (exBs g1 g2)∧TilesOK w' ta 2 (awTiles g5)∧Below w.heap.size w w':=by
 go_enter Tryz.func31,Tryz.ntmps31
 obtain⟨w0,hw0⟩:∃w0,w0=w.alloc (.cells #[.slice none 0 0,.slice none 0 0] 25):=⟨_,rfl⟩
 have hb0:Below w.heap.size w w0:=by rw[hw0];exact ext_alloc _ _
 have hr0:w0.heap[w.heap.size]? =some (funcO none 0 0 none 0 0):=by rw[hw0];exact heap_alloc_new _ _
 have HB0:=Lib.hid hb0
 have HR0:=Lib.hid hr0
 have HW0:=Lib.hid hw0
 clear hb0 hr0 hw0
 go_upto_region 2 with (first
  |(go_at_call 29
    refine(block19_any ⟨3,1,0,0⟩ none 0 0 w7).mono ?_;rintro e w8 ⟨rfl,hb8⟩;have HB8:=Lib.hid (ext_trans HB7.out hb8);have HR38:=Lib.hid (block_ext hb8 HR37.out);have HR68:=Lib.hid (block_ext hb8 HR67.out)
    clear hb8)
  |(go_at_call 28
    refine(back19_any 1 w6).mono ?_;rintro e w7 ⟨rfl,hb7⟩;have HB7:=Lib.hid (ext_trans HB6.out hb7);have HR37:=Lib.hid (block_ext hb7 HR36.out);have HR67:=Lib.hid (block_ext hb7 HR6.out)
    clear hb7)
  |(go_at_call 29
    refine(block19_any ⟨2,2,1,2⟩ (some ⟨w5.heap.size,0,none⟩) 1 1 _).mono ?_;rintro e w6 ⟨rfl,hb6⟩;have hx6:=ext_trans (ext_alloc _ _) hb6;have HR6:Hid (w6.heap[w5.heap.size]? =some (.cells (insC exR2).toArray 57 (0,0))):=block_ext hb6 (heap_alloc_new _ _);have HB6:=Lib.hid (ext_trans HB5.out hx6);have HR36:=Lib.hid (block_ext hx6 HR35.out)
    clear hb6 hx6)
  |(go_at_call 24
    refine(add19_any 2 1 1 w4).mono ?_;rintro e w5 ⟨rfl,hb5⟩;have HB5:=Lib.hid (ext_trans HB4.out hb5);have hg2:w0.heap.size≤w5.heap.size:=HB5.out.size;have HR35:=Lib.hid (block_ext hb5 HR34.out)
    clear hb5)
  |(go_at_call 27
    refine(branch19_any 2 1 2 w3).mono ?_;rintro e w4 ⟨rfl,hb4⟩;have HB4:=Lib.hid (ext_trans HB3.out hb4);have HR34:=Lib.hid (block_ext hb4 HR3.out)
    clear hb4)
  |(go_at_call 29
    refine(block19_any ⟨1,0,1,0⟩ (some ⟨w2.heap.size,0,none⟩) 1 1 _).mono ?_;rintro e w3 ⟨rfl,hb3⟩;have hx3:=ext_trans (ext_alloc _ _) hb3;have HR3:Hid (w3.heap[w2.heap.size]? =some (.cells (insC exR1).toArray 57 (0,0))):=block_ext hb3 (heap_alloc_new _ _);have HB3:=Lib.hid (ext_trans HB2.out hx3)
    clear hb3 hx3)
  |(go_at_call 23
    refine(constant19_any 1 5 w1).mono ?_;rintro e w2 ⟨rfl,hb2⟩;have HB2:=Lib.hid (ext_trans HB1.out hb2);have hg1:w0.heap.size≤w2.heap.size:=HB2.out.size
    clear hb2)
  |(go_at_call 26
    rw[←HW0.out];refine(jump19_any 1 w0).mono ?_;rintro e w1 ⟨rfl,hb1⟩;have HB1:Hid (Below w0.heap.size w0 w1):=hb1
    clear hb1))
 clear HR3 HR34 HR35 HR36 HR37 HR6 HR67 HB1 HB2 HB3 HB4 HB5 HB6 HB7
 generalize w2.heap.size=g1 at*
 generalize w5.heap.size=g2 at*
 obtain⟨w9,hw9⟩:∃w9,w9=w8.alloc (.cells ((exBs g1 g2).flatMap blkC').toArray 71):=⟨_,rfl⟩
 obtain⟨w10,hw10⟩:∃w10,w10=w9.alloc (funcO none 0 0 (some ⟨w8.heap.size,0,none⟩) 3 3):=⟨_,rfl⟩
 have hs9:w9.heap.size=w8.heap.size+1:=by rw[hw9];simp
 have hx9:Below w8.heap.size w8 w10:=by rw[hw10,hw9];exact ext_trans (ext_alloc _ _) (ext_alloc _ _)
 have hr9:w10.heap[w8.heap.size]? =some (.cells ((exBs g1 g2).flatMap blkC').toArray 71 (0,0)):=by rw[hw10,hw9];exact block_ext (ext_alloc _ _) (heap_alloc_new _ _)
 have hr10:w10.heap[w8.heap.size+1]? =some (funcO none 0 0 (some ⟨w8.heap.size,0,none⟩) 3 3):=by rw[←hs9,hw10];exact heap_alloc_new _ _
 have HB10:=Lib.hid (ext_trans HB8.out hx9)
 have HG1:=Lib.hid (block_ext hx9 HR38.out)
 have HG2:=Lib.hid (block_ext hx9 HR68.out)
 have HG3:=Lib.hid hr9
 have hg3:w0.heap.size≤w8.heap.size:=HB8.out.size
 have HR10:=Lib.hid hr10
 have e10:w10=(w8.alloc (.cells #[.slice (some ⟨g1,0,none⟩) 1 1,.int .i64 1,.int .i64 0,.int .i64 1,.int .i64 0,.slice (some ⟨g2,0,none⟩) 1 1,.int .i64 2,.int .i64 2,.int .i64 1,.int .i64 2,.slice none 0 0,.int .i64 3,.int .i64 1,.int .i64 0,.int .i64 0] 71)).alloc (funcO none 0 0 (some ⟨w8.heap.size,0,none⟩) 3 3):=by rw[hw10,hw9];rfl
 rw[←e10]
 clear e10 hw9 hw10 hs9 hx9 hr9 hr10 HB8 HR38 HR68
 generalize w8.heap.size=g3 at*
 have HRW:Hid (w10.heap[w.heap.size]? =some (funcO none 0 0 none 0 0)):=block_ext HB10.out HR0.out
 have hlt:=lt_of_heap HRW.out
 have hs0:w0.heap.size=w.heap.size+1:=by rw[HW0.out];simp
 obtain⟨W4,hW4⟩:∃W4,W4=((w10.alloc (.cells #[.int .i64 0,.int .i64 2] 3)).alloc (.cells #[.int .i64 1] 3)).alloc (.cells #[.int .i64 1,.int .i64 (-1),.slice (some ⟨w10.heap.size,0,none⟩) 2 2,.int .i64 2,.int .i64 0,.slice (some ⟨w10.heap.size+1,0,none⟩) 1 1] 77):=⟨_,rfl⟩
 have hx4:Below w10.heap.size w10 W4:=by rw[hW4];exact ext_trans (ext_trans (ext_alloc _ _) (ext_alloc _ _)) (ext_alloc _ _)
 have t0:W4.heap[w10.heap.size]? =some (.cells #[.int .i64 0,.int .i64 2] 3 (0,0)):=by rw[hW4];exact block_ext (ext_trans (ext_alloc _ _) (ext_alloc _ _)) (heap_alloc_new _ _)
 have t1:W4.heap[w10.heap.size+1]? =some (.cells #[.int .i64 1] 3 (0,0)):=by rw[hW4];exact block_ext (ext_alloc _ _) (heap_at _ _ _ (by simp))
 have t2:W4.heap[w10.heap.size+1+1]? =some (.cells #[.int .i64 1,.int .i64 (-1),.slice (some ⟨w10.heap.size,0,none⟩) 2 2,.int .i64 2,.int .i64 0,.slice (some ⟨w10.heap.size+1,0,none⟩) 1 1] 77 (0,0)):=by rw[hW4];exact heap_at _ _ _ (by simp)
 have HR4:=Lib.hid (block_ext hx4 HRW.out)
 obtain⟨W5,hW5⟩:∃W5,W5=(W4.setCell ⟨w.heap.size,0,none⟩ (.slice none 0 0)).setCell ⟨w.heap.size,1,none⟩ (.slice (some ⟨g3,0,none⟩) 3 3):=⟨_,rfl⟩
 have hk:∀q,q≠w.heap.size→W5.heap[q]? =W4.heap[q]?:=fun q hq=>by rw[hW5,Below.heap_setCell _ _ _ _ (by simpa using hq),Below.heap_setCell _ _ _ _ (by simpa using hq)]
 have hR5:W5.heap[w.heap.size]? =some (funcO none 0 0 (some ⟨g3,0,none⟩) 3 3):=by rw[hW5,heap_setCell_same _ _ _ _ _ _ (heap_setCell_same _ _ _ _ _ _ HR4.out)];rfl
 have HBL5:Hid (BlksR W5 (some ⟨g3,0,none⟩) 3 (exBs g1 g2)):=ex_blks ((hk _ (by omega)).trans (block_ext hx4 HG1.out)) ((hk _ (by omega)).trans (block_ext hx4 HG2.out)) ((hk _ (by omega)).trans (block_ext hx4 HG3.out))
 have HTI:Hid (TilesOK W5 (some ⟨w10.heap.size+1+1,0,none⟩) 2 (awTiles w10.heap.size)):=aw_tiles ((hk _ (by omega)).trans t0) ((hk _ (by omega)).trans t1) ((hk _ (by omega)).trans t2)
 have HB5:Hid (Below w.heap.size w W5):=by rw[hW5];exact((ext_trans HB0.out (ext_trans HB10.out hx4)).setCell (by simp) _).setCell (by simp) _
 have HW4:=Lib.hid hW4
 have HW5:=Lib.hid hW5
 have HR5:=Lib.hid hR5
 have f0:W4.frozen? ⟨w.heap.size,0,none⟩=false:=frozen_of_row _ _ _ _ _ HR4.out
 have f1:W4.frozen? ⟨w.heap.size,1,none⟩=false:=frozen_of_row _ _ _ _ _ HR4.out
 have c0:W4.cell? ⟨w.heap.size,0,none⟩=some (.slice none 0 0):=by rw[cell_of_row _ _ _ _ _ _ HR4.out];rfl
 have c1:W4.cell? ⟨w.heap.size,1,none⟩=some (.slice none 0 0):=by rw[cell_of_row _ _ _ _ _ _ HR4.out];rfl
 have hl4:=lt_of_heap HR4.out
 clear hW4 hW5 hR5 hx4 t0 t1 t2 hk hlt hs0 hg1 hg2 hg3
 go_wp2_with (first
  |(refine wpList_load_row (o:=⟨some 15,.load 25 _,_,_,_,_⟩) rfl 25 _ rfl (g3+1) rfl 25 _ (0,0) _ HR10.out Tryz.underlying25 rfl size_func ?_)
  |((with_reducible show wpList _ _ _ (⟨none,.store 25 _ _,_,_,_,_⟩ :: _) _ _);rw[←HW4.out]))
 rw[←HW5.out]
 have d0:W5.cell? ⟨w.heap.size,0,none⟩=some (.slice none 0 0):=by rw[cell_of_row _ _ _ _ _ _ HR5.out];rfl
 have d1:W5.cell? ⟨w.heap.size,1,none⟩=some (.slice (some ⟨g3,0,none⟩) 3 3):=by rw[cell_of_row _ _ _ _ _ _ HR5.out];rfl
 refine bodyPost_ret (v:=.tuple #[funcV none 0 0 (some ⟨g3,0,none⟩) 3 3,.slice (some ⟨w10.heap.size+1+1,0,none⟩) 2 2]) (by simp[results,Tryz.results31,asAddr,d0,d1,go_sem]) rfl ?_
 exact⟨_,_,_,_,_,_,_,rfl,HBL5.out,HTI.out,HB5.out⟩
end
end Go.Proofs.YthgebcfohnlhlaaGreatDoor
