/-
 law18's own awake.
-/
import Derived.Test.YtblhmdhfhaencaaGreatEO
import Derived.Test.YtblhmdhfhaencaaGreatCR
import Derived.Test.YtblhmdhfhaencaaGreatBR
import Derived.Test.YtblhmdhfhaencaaGreatTR
import Derived.Test.YtblhmdhfhaencaaGreatDF
import Derived.Test.YtblhmdhfhaencaaGreatLentG
import Derived.Test.YtblhmdhfhaencaaGreatTL
import Derived.Test.YtblhmdhfhaencaaGreatQR
namespace Go.Proofs.YtblhmdhfhaencaaGreat
set_option linter.unusedSimpArgs false
set_option linter.unusedVariables false
set_option linter.unusedSectionVars false
set_option maxRecDepth 100000
set_option maxHeartbeats 40000000
section
open Go.RowKit
attribute [local go_sem] Oper.semAt_some cT bM cC bG
theorem cL{W:World}{g:Nat}{xs:List Int}{n:Nat}(h:W.heap[g]? =some (.cells (bC xs).toArray 3 (0,0)))(hn:xs.length=n)(hx:∀x∈xs,I64 x)(hl:n≤1000):dY W (some ⟨g,0,none⟩) n xs:=by
 subst hn
 refine⟨rfl,by omega,fun k hk=>⟨g,0,rfl,?_,hx _ ?_⟩⟩
 ·rw[aBP _ _ _ _ _ _ h,Nat.zero_add];simp[bC,aBT,hk]
 ·rw[aBT,aBU hk];exact aBZ _
def YB(g:Nat):List SlR:= [⟨[1],some ⟨g,0,none⟩,1⟩,⟨[1,2],some ⟨g+1,0,none⟩,2⟩,⟨[],none,0⟩]
theorem dJ(l:List Int)(h:∀x∈l,-1000≤x∧x≤1000:=by decide):∀x∈l,I64 x:=fun x hx=>by have:=h x hx;unfold I64;omega
theorem XV(w:World)(W:World)(h:W=((w.alloc (.cells #[.int .i64 1] 3)).alloc (.cells #[.int .i64 1,.int .i64 2] 3)).alloc (.cells #[.slice (some ⟨w.heap.size,0,none⟩) 1 1,.slice (some ⟨w.heap.size+1,0,none⟩) 2 2,.slice none 0 0] 22)):
  iR W (some ⟨w.heap.size+1+1,0,none⟩) 3 (YB w.heap.size)∧Below w.heap.size w W:=by
 have h0:W.heap[w.heap.size]? =some (.cells #[.int .i64 1] 3 (0,0)):=by rw[h];exact aB (aA (aD _ _) (aD _ _)) (aBS _ _)
 have h1:W.heap[w.heap.size+1]? =some (.cells #[.int .i64 1,.int .i64 2] 3 (0,0)):=by rw[h];have:=aB (aD _ (.cells #[.slice (some ⟨w.heap.size,0,none⟩) 1 1,.slice (some ⟨w.heap.size+1,0,none⟩) 2 2,.slice none 0 0] 22)) (aBS (w.alloc (.cells #[.int .i64 1] 3)) (.cells #[.int .i64 1,.int .i64 2] 3));simpa using this
 have h2:W.heap[w.heap.size+1+1]? =some (.cells #[.slice (some ⟨w.heap.size,0,none⟩) 1 1,.slice (some ⟨w.heap.size+1,0,none⟩) 2 2,.slice none 0 0] 22 (0,0)):=by rw[h];have:=aBS ((w.alloc (.cells #[.int .i64 1] 3)).alloc (.cells #[.int .i64 1,.int .i64 2] 3)) (.cells #[.slice (some ⟨w.heap.size,0,none⟩) 1 1,.slice (some ⟨w.heap.size+1,0,none⟩) 2 2,.slice none 0 0] 22);simpa using this
 refine⟨⟨⟨rfl,by omega,fun k x hx=>⟨w.heap.size+1+1,0,rfl,fun j hj=>?_⟩⟩,fun r hr=>?_⟩,by rw[h];exact(((aBQ _ w).alloc (aBV _) _).alloc (by simp) _).alloc (by simp;omega) _⟩
 ·obtain rfl:j=0:=by omega
  rw[aBP _ _ _ _ _ _ h2]
  match k,hx with
  |0,hx=>injection hx with hx;subst hx;rfl
  |1,hx=>injection hx with hx;subst hx;rfl
  |2,hx=>injection hx with hx;subst hx;rfl
  |k+3,hx=>simp[YB] at hx
 ·simp only[YB,List.mem_cons,List.not_mem_nil,or_false] at hr;rcases hr with rfl|rfl|rfl
  ·exact cL (xs:= [1]) h0 rfl (dJ [1]) (by simp)
  ·exact cL (xs:= [1,2]) h1 rfl (dJ [1,2]) (by simp)
  ·exact⟨rfl,by simp,fun k hk=>absurd hk (by simp)⟩
def uX(g:Nat):List bK:= [⟨⟨1,-1,[0,2]⟩,some ⟨g,0,none⟩,2,2⟩,⟨⟨2,0,[1]⟩,some ⟨g+1,0,none⟩,1,1⟩]
theorem XS(w:World)(W:World)(h:W=((w.alloc (.cells #[.int .i64 0,.int .i64 2] 3)).alloc (.cells #[.int .i64 1] 3)).alloc (.cells #[.int .i64 1,.int .i64 (-1),.slice (some ⟨w.heap.size,0,none⟩) 2 2,.int .i64 2,.int .i64 0,.slice (some ⟨w.heap.size+1,0,none⟩) 1 1] 76)):
  cM W (some ⟨w.heap.size+1+1,0,none⟩) 2 (uX w.heap.size)∧Below w.heap.size w W:=by
 have h0:W.heap[w.heap.size]? =some (.cells #[.int .i64 0,.int .i64 2] 3 (0,0)):=by rw[h];exact aB (aA (aD _ _) (aD _ _)) (aBS _ _)
 have h1:W.heap[w.heap.size+1]? =some (.cells #[.int .i64 1] 3 (0,0)):=by
  rw[h];have:=aB (aD _ (.cells #[.int .i64 1,.int .i64 (-1),.slice (some ⟨w.heap.size,0,none⟩) 2 2,.int .i64 2,.int .i64 0,.slice (some ⟨w.heap.size+1,0,none⟩) 1 1] 76)) (aBS (w.alloc (.cells #[.int .i64 0,.int .i64 2] 3)) (.cells #[.int .i64 1] 3));simpa using this
 have h2:W.heap[w.heap.size+1+1]? =some (.cells #[.int .i64 1,.int .i64 (-1),.slice (some ⟨w.heap.size,0,none⟩) 2 2,.int .i64 2,.int .i64 0,.slice (some ⟨w.heap.size+1,0,none⟩) 1 1] 76 (0,0)):=by
  rw[h];have:=aBS ((w.alloc (.cells #[.int .i64 0,.int .i64 2] 3)).alloc (.cells #[.int .i64 1] 3)) (.cells #[.int .i64 1,.int .i64 (-1),.slice (some ⟨w.heap.size,0,none⟩) 2 2,.int .i64 2,.int .i64 0,.slice (some ⟨w.heap.size+1,0,none⟩) 1 1] 76);simpa using this
 refine⟨⟨⟨rfl,by omega,fun k x hx=>⟨w.heap.size+1+1,0,rfl,fun j hj=>?_⟩⟩,fun t ht=>?_⟩,by rw[h];exact(((aBQ _ w).alloc (aBV _) _).alloc (by simp) _).alloc (by simp;omega) _⟩
 ·rw[aBP _ _ _ _ _ _ h2]
  match k,hx,j,hj with
  |0,hx,0,_=>injection hx with hx;subst hx;rfl
  |0,hx,1,_=>injection hx with hx;subst hx;rfl
  |0,hx,2,_=>injection hx with hx;subst hx;rfl
  |1,hx,0,_=>injection hx with hx;subst hx;rfl
  |1,hx,1,_=>injection hx with hx;subst hx;rfl
  |1,hx,2,_=>injection hx with hx;subst hx;rfl
  |k+2,hx,_,_=>simp[uX] at hx
  |_,_,j+3,hj=>omega
 ·simp only[uX,List.mem_cons,List.not_mem_nil,or_false] at ht;rcases ht with rfl|rfl
  ·exact⟨cL (xs:= [0,2]) h0 rfl (dJ [0,2]) (by simp),by simp,by show I64 1;unfold I64;omega,by show I64 (-1);unfold I64;omega⟩
  ·exact⟨cL (xs:= [1]) h1 rfl (dJ [1]) (by simp),by simp,by show I64 2;unfold I64;omega,by show I64 0;unfold I64;omega⟩
theorem KU{w:World}{base:Nat}{ba:Option Addr}{bc:Nat}{L:List (List Int)}(h:cK 73 5 iZ w base (.slice ba L.length bc) (L.map dO))(hL:∀l∈L,∀x∈l,I64 x):dU w ba L.length (L.map dO):=by
 refine⟨h.recs AY,fun b hb=>?_⟩
 obtain⟨l,hl,rfl⟩:=List.mem_map.1 hb
 have hx:=hL l hl
 have i0:I64 0:=by unfold I64;omega
 have i1:I64 1:=by unfold I64;omega
 have i2:I64 2:=by unfold I64;omega
 have i3:I64 3:=by unfold I64;omega
 match l,hx with
 | [],_=>exact⟨i3,i0,i0,i0⟩
 | [x],hx=>exact⟨i1,i0,hx x (by simp),i0⟩
 | [x,y],hx=>exact⟨i2,i1,hx x (by simp),hx y (by simp)⟩
 |x :: y :: z :: l,_=>exact⟨i3,i0,i0,i0⟩
end

section
open Go.RowKit
attribute [local go_sem] Oper.semAt_some cT bM cC bG
theorem mI:(Tryz.prog.info? 73).map (·.size)=some 5:=by kernel_rfl
theorem OX(a:Option Addr)(n c:Nat)(xs:List Int)(w:World)(h:dY w a n xs)(hn:n≤2):
  Calls Tryz.prog 110 #[.slice a n c] w fun e w'=>e=.returned (.agg (iZ (dO xs)).toArray)∧Below w.heap.size w w':=by
 obtain⟨hl,_,hc⟩:=h
 subst hl
 rcases xs with _|⟨x,_|⟨y,_|⟨z,r⟩⟩⟩
 ·clear hc hn;simp only[List.length_nil]
  go_enter Tryz.func110,Tryz.ntmps110
  have hz:(w.alloc (.cells #[.slice none 0 0,.int .i64 0,.int .i64 0,.int .i64 0,.int .i64 0] 73)).heap[w.heap.size]? =some (.cells #[.slice none 0 0,.int .i64 0,.int .i64 0,.int .i64 0,.int .i64 0] 73 (0,0)):=aBS _ _
  go_wp2_with (refine wpList_store_row (o:=⟨none,.store 73 _ _,_,_,_,_⟩) rfl 73 _ _ rfl w.heap.size #[.slice none 0 0,.int .i64 3,.int .i64 0,.int .i64 0,.int .i64 0] rfl rfl 73 _ hz mI rfl (by simp[Value.oneCell']) ?_)
  have hl:=run_loadVar_row (P:=Tryz.prog) _ w.heap.size 73 73 _ (0,0) _ (setRow_heap _ w.heap.size _ #[.slice none 0 0,.int .i64 3,.int .i64 0,.int .i64 0,.int .i64 0] _ _ hz) Tryz.underlying73 rfl mI;refine bodyPost_ret (v:=.agg (iZ (dO [])).toArray) ?_ rfl ⟨rfl,below_setRow (aD _ _) (aBV _) _⟩;simp[results,Tryz.results110,asAddr,Act.put,hl,iZ,dO,ID]
 ·obtain⟨b,o,rfl,c0,_⟩:=hc 0 (by simp);simp only[List.length_cons,List.length_nil,Nat.zero_add,Nat.reduceAdd,Nat.add_zero,List.getD_cons_zero] at c0⊢;have c0:=aH (aD w (.cells #[.slice none 0 0,.int .i64 0,.int .i64 0,.int .i64 0,.int .i64 0] 73)) c0;clear hc hn
  go_enter Tryz.func110,Tryz.ntmps110
  have hz:(w.alloc (.cells #[.slice none 0 0,.int .i64 0,.int .i64 0,.int .i64 0,.int .i64 0] 73)).heap[w.heap.size]? =some (.cells #[.slice none 0 0,.int .i64 0,.int .i64 0,.int .i64 0,.int .i64 0] 73 (0,0)):=aBS _ _
  go_wp2_with (refine wpList_store_row (o:=⟨none,.store 73 _ _,_,_,_,_⟩) rfl 73 _ _ rfl w.heap.size #[.slice none 0 0,.int .i64 1,.int .i64 0,.int .i64 x,.int .i64 0] rfl rfl 73 _ hz mI rfl (by simp[Value.oneCell']) ?_)
  have hl:=run_loadVar_row (P:=Tryz.prog) _ w.heap.size 73 73 _ (0,0) _ (setRow_heap _ w.heap.size _ #[.slice none 0 0,.int .i64 1,.int .i64 0,.int .i64 x,.int .i64 0] _ _ hz) Tryz.underlying73 rfl mI;refine bodyPost_ret (v:=.agg (iZ (dO [x])).toArray) ?_ rfl ⟨rfl,below_setRow (aD _ _) (aBV _) _⟩;simp[results,Tryz.results110,asAddr,Act.put,hl,iZ,dO,ID]
 ·obtain⟨b,o,rfl,c0,_⟩:=hc 0 (by simp);obtain⟨b',o',e,c1,_⟩:=hc 1 (by simp);injection e with e;injection e with e1 e2;subst e1 e2;simp only[List.length_cons,List.length_nil,Nat.zero_add,Nat.reduceAdd,Nat.add_zero,List.getD_cons_zero,List.getD_cons_succ] at c0 c1⊢;clear hc hn
  go_enter Tryz.func110,Tryz.ntmps110
  have hz:(w.alloc (.cells #[.slice none 0 0,.int .i64 0,.int .i64 0,.int .i64 0,.int .i64 0] 73)).heap[w.heap.size]? =some (.cells #[.slice none 0 0,.int .i64 0,.int .i64 0,.int .i64 0,.int .i64 0] 73 (0,0)):=aBS _ _;go_upto_region 6 with (fail)
  refine dL 9 [some 17,some 18,some 19,some 20,some 21,some 22,some 23,some 24,some 25] (by kernel_rfl) (by kernel_rfl) (dV [.val (.slice (some ⟨b,o,none⟩) 2 c),.val (.pointer (some ⟨b,o,none⟩)),.val (.int .i64 x),.val (.slice (some ⟨b,o,none⟩) 2 c),.val (.pointer (some ⟨b,o+1,none⟩)),.val (.int .i64 y),.val (.agg #[.int .i64 x,.int .i64 y]),.val (.agg #[.int .i64 2,.int .i64 1,.int .i64 x,.int .i64 y]),.val (.agg #[.slice none 0 0,.int .i64 2,.int .i64 1,.int .i64 x,.int .i64 y])]) (dN ?_) ?_ ?_
  ·intro k hk;simp only[List.mem_cons,List.not_mem_nil,or_false] at hk;rcases hk with rfl|rfl|rfl|rfl|rfl|rfl|rfl|rfl|rfl
   ·exact trivial
   ·exact trivial
   ·exact trivial
   ·exact trivial
   ·exact trivial
   ·exact trivial
   ·exact trivial
   ·exact trivial
   ·exact trivial
  ·intro i hi ν lo hi' w1 K hB hD hK;have hcase:i=0∨i=1∨i=2∨i=3∨i=4∨i=5∨i=6∨i=7∨i=8:=by omega
   clear hi;rcases hcase with rfl|rfl|rfl|rfl|rfl|rfl|rfl|rfl|rfl
   ·clear hD;refine aC rfl rfl ?_;simp only[zA,zB,zC,zD,zE,zF,zJ,zK,zG,zH,zI] at hK⊢;go_simp;exact hK _ _ (aBQ _ _) rfl
   ·have e0:=hD 0 (by kernel_rfl)
    replace e0:ν 0=(.slice (some ⟨b,o,none⟩) 2 c):=e0
    clear hD;refine aC rfl rfl ?_;simp only[zA,zB,zC,zD,zE,zF,zJ,zK,zG,zH,zI,e0] at hK⊢;go_simp;exact hK _ _ (aBQ _ _) rfl
   ·have e1:=hD 1 (by kernel_rfl)
    replace e1:ν 1=(.pointer (some ⟨b,o,none⟩)):=e1
    clear hD;refine aC rfl rfl ?_;simp only[zA,zB,zC,zD,zE,zF,zJ,zK,zG,zH,zI,e1] at hK⊢;have hcl:=aH (aA (aD _ _) hB) c0;go_simp;exact hK _ _ (aBQ _ _) rfl
   ·clear hD;refine aC rfl rfl ?_;simp only[zA,zB,zC,zD,zE,zF,zJ,zK,zG,zH,zI] at hK⊢;go_simp;exact hK _ _ (aBQ _ _) rfl
   ·have e3:=hD 3 (by kernel_rfl)
    replace e3:ν 3=(.slice (some ⟨b,o,none⟩) 2 c):=e3
    clear hD;refine aC rfl rfl ?_;simp only[zA,zB,zC,zD,zE,zF,zJ,zK,zG,zH,zI,e3] at hK⊢;go_simp;exact hK _ _ (aBQ _ _) rfl
   ·have e4:=hD 4 (by kernel_rfl)
    replace e4:ν 4=(.pointer (some ⟨b,o+1,none⟩)):=e4
    clear hD;refine aC rfl rfl ?_;simp only[zA,zB,zC,zD,zE,zF,zJ,zK,zG,zH,zI,e4] at hK⊢;have hcl:=aH (aA (aD _ _) hB) c1;go_simp;exact hK _ _ (aBQ _ _) rfl
   ·have e2:=hD 2 (by kernel_rfl)
    replace e2:ν 2=(.int .i64 x):=e2
    have e5:=hD 5 (by kernel_rfl)
    replace e5:ν 5=(.int .i64 y):=e5
    clear hD;refine aC rfl rfl ?_;simp only[zA,zB,zC,zD,zE,zF,zJ,zK,zG,zH,zI,e2,e5] at hK⊢;go_simp;exact hK _ _ (aBQ _ _) rfl
   ·have e6:=hD 6 (by kernel_rfl)
    replace e6:ν 6=(.agg #[.int .i64 x,.int .i64 y]):=e6
    clear hD;refine aC rfl rfl ?_;simp only[zA,zB,zC,zD,zE,zF,zJ,zK,zG,zH,zI,e6] at hK⊢;go_simp;exact hK _ _ (aBQ _ _) rfl
   ·have e7:=hD 7 (by kernel_rfl)
    replace e7:ν 7=(.agg #[.int .i64 2,.int .i64 1,.int .i64 x,.int .i64 y]):=e7
    clear hD;refine aC rfl rfl ?_;simp only[zA,zB,zC,zD,zE,zF,zJ,zK,zG,zH,zI,e7] at hK⊢;go_simp;exact hK _ _ (aBQ _ _) rfl
  ·intro ν lo hi w1 hB hS hI hD;have e0:ν 0=(.slice (some ⟨b,o,none⟩) 2 c):=hS 0 (by omega);have e1:ν 1=(.pointer (some ⟨b,o,none⟩)):=hS 1 (by omega);have e2:ν 2=(.int .i64 x):=hS 2 (by omega);have e3:ν 3=(.slice (some ⟨b,o,none⟩) 2 c):=hS 3 (by omega);have e4:ν 4=(.pointer (some ⟨b,o+1,none⟩)):=hS 4 (by omega);have e5:ν 5=(.int .i64 y):=hS 5 (by omega);have e6:ν 6=(.agg #[.int .i64 x,.int .i64 y]):=hS 6 (by omega);have e7:ν 7=(.agg #[.int .i64 2,.int .i64 1,.int .i64 x,.int .i64 y]):=hS 7 (by omega);have e8:ν 8=(.agg #[.slice none 0 0,.int .i64 2,.int .i64 1,.int .i64 x,.int .i64 y]):=hS 8 (by omega);clear hS;simp only[List.drop_succ_cons,List.drop_zero,zA,zB,zC,zD,zE,zF,zJ,zK,zG,zH,zI,e0,e1,e2,e3,e4,e5,e6,e7,e8];clear hI hD e0 e1 e2 e3 e4 e5 e6 e7 e8;have hz1:=aB hB hz
   go_wp2_with (refine wpList_store_row (o:=⟨none,.store 73 _ _,_,_,_,_⟩) rfl 73 _ _ rfl w.heap.size #[.slice none 0 0,.int .i64 2,.int .i64 1,.int .i64 x,.int .i64 y] rfl rfl 73 _ hz1 mI rfl (by simp[Value.oneCell']) ?_)
   have hl:=run_loadVar_row (P:=Tryz.prog) _ w.heap.size 73 73 _ (0,0) _ (setRow_heap w1 w.heap.size _ #[.slice none 0 0,.int .i64 2,.int .i64 1,.int .i64 x,.int .i64 y] _ _ hz1) Tryz.underlying73 rfl mI;refine bodyPost_ret (v:=.agg (iZ (dO [x,y])).toArray) ?_ rfl ⟨rfl,below_setRow (aA (aD _ _) hB) (aBV _) _⟩;simp[results,Tryz.results110,asAddr,Act.put,hl,iZ,dO,ID]
 ·simp at hn
theorem SK{o:Oper}{a:Act}{w:World}{K:Act→World→Prop}{Q:Exit→Act→World→Prop}(x:Operand)(p:gS)(ho:o.op=.buildSlice 23 1 #[(0,x)])(hx:a.eval x=.agg (iZ p).toArray)
  (h:K (a.put o.dst (.slice (some ⟨w.heap.size,0,none⟩) 1 1)) (w.alloc (.cells (iZ p).toArray 73))):o.wp Tryz.prog a w K Q:=by
 obtain⟨ie,hie⟩:∃i,Tryz.prog.info? 73=some i:=Option.isSome_iff_exists.1 (by kernel_rfl)
 have hs:ie.size=5:=by have:=mI;rw[hie] at this;simpa using this
 obtain⟨z,hz⟩:∃z,ie.zero=some z:=by
  have:(Tryz.prog.info? 73).map (fun i=>i.zero.isSome)=some true:=by kernel_rfl
  rw[hie] at this;exact Option.isSome_iff_exists.1 (by simpa using this)
 refine wp_buildSlice _ 73 1 #[(0,x)] ho (iZ p).toArray ie z Tryz.underlying23 hie hz (by rw[hs];omega) (by rw[hs];omega) ?_ h
 simp only[List.map_toArray,List.map_cons,List.map_nil,hx]
 rw[hs]
 exact vS (iZ p) _ (AY p) (by simp)
theorem vI(a:Option Addr)(n c:Nat)(rs:List SlR)(w:World)(h:iR w a n rs)(hn:n≤1000)(h2:∀r∈rs,r.xs.length≤2):
  Calls Tryz.prog 49 #[.slice a n c] w (aAK (rs.map (·.xs)) w):=by
 have H:=aBO h
 have HLN:=aBO h.1.1
 have HT2:=aBO h2
 clear h h2
 go_enter Tryz.func49,Tryz.ntmps49
 go_wp2
 go_loopw [4] (fun i wr=>∃k:Nat,i=.int .i64 k∧k≤n∧Hid (OJ w rs k wr)) (fun i _=>n-(intOf i).toNat)
 case atStart=>
  refine⟨0,rfl,by omega,.slice none 0 0,?_,?_,?_,cK.nil _ _ _ _ _,(((aBQ _ w).alloc (aBV _) _).alloc (by simp) _).alloc (by simp;omega) _⟩
  ·exact aB (aA (aD _ _) (aD _ _)) (aBS _ _)
  ·have:=aBS ((w.alloc (.cells #[.slice none 0 0,.slice none 0 0] 25)).alloc (.cells #[.int .i64 1] 3)) (.cells #[.slice (some ⟨w.heap.size+1,0,none⟩) 1 1,.slice none 0 0] 25);simpa using this
  ·have:=aB (aD _ (.cells #[.slice (some ⟨w.heap.size+1,0,none⟩) 1 1,.slice none 0 0] 25)) (aBS (w.alloc (.cells #[.slice none 0 0,.slice none 0 0] 25)) (.cells #[.int .i64 1] 3));simpa using this
 case round=>
  obtain⟨k,rfl,hk,HJ⟩:=hrel;by_cases hlt:k<n
  ·have hlt':(k:Int)<(n:Int):=by omega
   obtain⟨v,hz,hf,hpp,hown,hbw⟩:=HJ.out;obtain⟨r,b,o,hlr,rfl,cr,hI⟩:=H.out.cells hlt;have hb0:b<w.heap.size:=aCE _ _ cr;have cr9:=aH hbw cr;have hrl:=HT2.out r (aBY hlr);have HI:=aBO (hI.ext hbw);obtain⟨av,cv,rfl⟩:=hown.form;have hlk:((rs.take k).map fun r=>dO r.xs).length=k:=by simp[HLN.out];omega
   have hown1:=hown.1;rw[hlk] at hf hown1;have hlow:∀q,(Value.slice av k cv).ownBlock=some q→w.heap.size+1+1+1≤q:=fun q hq=>by have:=(hown1.lt q hq).1;omega
   have hF1:wr.cell? ⟨w.heap.size+1+1,1,none⟩=some (.slice av k cv):=by rw[aBP _ _ _ _ _ _ hf];rfl
   have hbwr:=hbw.size;have g1:∀n:mD (fun W'=>wr.grownBy W' (Value.slice av k cv).ownBlock),n.val.cell? ⟨w.heap.size+1+1,1,none⟩=some (.slice av k cv):=fun n=>by rw[aBP _ _ _ _ _ _ (aK n.prop hf (fun e=>by have:=hlow _ e;omega))];rfl
   have g2:∀n:mD (fun W'=>wr.grownBy W' (Value.slice av k cv).ownBlock),n.val.cell? ⟨b,o+k,none⟩=some (.slice r.sa r.xs.length r.sc):=fun n=>n.prop.cell cr9 (fun e=>by have h9:w.heap.size+1+1+1≤b:=hlow b e.symm;omega);have hne:Nonempty (mD (fun W'=>wr.grownBy W' (Value.slice av k cv).ownBlock)):=wV (qO _ _);have HLR:=aBO hlr;have HLK:=aBO hlk;have HF:=aBO hf;have HOWN:=aBO hown1;have hbs:w.heap.size+1+1+1≤wr.heap.size:=by have:=aN hf;omega
   clear hz hf hpp hown hbw hown1 hlk cr cr9 hI hF1 hlr;go_upto_region 5 with (fail)
   refine qK (fun w'=>∃n:mD (fun W'=>wr.grownBy W' (Value.slice av k cv).ownBlock),w'=n.val) [(0,6,some (6,true)),(7,0,some (7,true)),(8,0,some (8,true)),(9,1,some (10,false))] (by kernel_rfl) (by kernel_rfl) (mG (gK _ _)) ?_;simp only[lW,List.take_succ_cons,List.take_zero,List.drop_succ_cons,List.drop_zero]
   repeat (first
    |go_big_quiet_skip
    |go_big_quiet_step (fail))
   refine wpQuiet_nil ?_;refine dP rfl rfl ?_;go_simp;refine(OX r.sa r.xs.length r.sc r.xs wr.drew (HI.out.ext (pQ wr)) hrl).mono ?_;rintro e w5 ⟨rfl,hb5⟩;have hg5:wr.grownBy w5 (Value.slice av k cv).ownBlock:=lP (gK _ _) (rT hb5 _);refine⟨mG hg5,?_⟩;have HB5:=aBO (nN hb5);have HJ5:Hid (OJ w rs k w5):=HJ.out.grown (rT HB5.out none) (fun q e=>by cases e)
   have HOWN5:Hid (w5.ownsRow (w.heap.size+1+1+1) 73 5 (.slice av k cv) k (((rs.take k).map fun r=>dO r.xs).flatMap iZ)):=HOWN.out.kept (rT HB5.out none) (by
    cases h:(Value.slice av k cv).ownBlock with
    |none=>exact .inl rfl
    |some q=>exact .inr (by simp))
   have HG5:=aBO hg5;clear hb5 hg5 HJ g2
   try simp only[zJ,zG,zH,zI]
   refine wpQuiet_nil ?_;refine dP rfl rfl ?_;refine SK _ (dO r.xs) rfl rfl ?_;simp only[zJ,zG,zH,zI];refine⟨mG (lP HG5.out (World.grownBy_alloc _ _ _)),?_⟩;refine wpQuiet_nil ?_;refine dP rfl rfl ?_;have hbs5:=HB5.out.size;refine mM w5 (.tmp 14) (.tmp 20) 23 73 rfl (w.heap.size+1+1+1) _ 5 56 Tryz.underlying23 YS rfl (by omega) (.slice av k cv) _ _ (iZ (dO r.xs)) rfl HOWN5.out w5.heap.size rfl rfl rfl (fun u hu=>ZE [dO r.xs] u (by simpa using hu)) (by simp only[maxLen];omega) (by omega) (by omega) ?_;intro g6 cap w6 hown6 hg6 hat6;refine⟨mG (lP HG5.out hg6),?_⟩;have hf5:=aB HB5.out HF.out;have hlow5:(Value.slice av k cv).ownBlock≠some (w.heap.size+1+1):=fun e=>by have h9:=(HOWN5.out.lt _ e).1;omega
   have hf6:=aK hg6 hf5 hlow5;have hcv6:w6.cell? ⟨w.heap.size+1+1,1,none⟩=some (.slice av k cv):=by rw[aBP _ _ _ _ _ _ hf6];rfl
   have hfv6:w6.frozen? ⟨w.heap.size+1+1,1,none⟩=false:=frozen_of_row _ _ _ _ _ hf6;have hlt6:=aN hf6;have HST:=aBO (OJ.step HJ5.out HLR.out hown6 hg6 hf5 (by omega) HLK.out);clear hown6 hg6 hat6 hf5 hf6 hlow5 g1
   try simp only[zJ,zG,zH,zI]
   repeat (go_big_quiet_step (fail))
   refine wpQuiet_nil ?_;refine dP rfl rfl ?_;go_simp;refine NoPanic.normal ?_;clear hcv6 hfv6 hlt6;generalize w6.setCell ⟨w.heap.size+1+1,1,none⟩ (.slice (some ⟨g6,0,none⟩) (k+1) cap)=w7 at *;go_wp2
   go_roundw
   case rel=>exact⟨k+1,by go_num,by omega,HST.out⟩
   case measure=>simp[intOf];omega
  ·obtain rfl:k=n:=by omega
   obtain⟨v,hz,hf,hpp,hown,hbw⟩:=HJ.out;have hlk:((rs.take k).map fun r=>dO r.xs)=rs.map fun r=>dO r.xs:=by rw[aCB (by rw[HLN.out];omega)]
   rw[hlk] at hown;obtain⟨av,cv,rfl⟩:=hown.form;have f0:wr.cell? ⟨w.heap.size+1+1,0,none⟩=some (.slice (some ⟨w.heap.size+1,0,none⟩) 1 1):=by rw[aBP _ _ _ _ _ _ hf];rfl
   have HZ:=aBO hz;have HF:=aBO hf;have HPP:=aBO hpp;have HOWN:=aBO hown;have HBW:=aBO hbw;clear hz hf hpp hown hbw hlk f0
   go_wp2_with (first
    |(refine wpList_load_row (o:=⟨some 23,.load 25 _,_,_,_,_⟩) rfl 25 _ rfl (w.heap.size+1+1) rfl 25 _ (0,0) _ HF.out Tryz.underlying25 rfl aS ?_)
    |(refine wpList_store_row (o:=⟨none,.store 25 _ _,_,_,_,_⟩) rfl 25 _ _ rfl w.heap.size #[.slice (some ⟨w.heap.size+1,0,none⟩) 1 1,.slice av (rs.map fun r=>dO r.xs).length cv] rfl rfl 25 _ HZ.out aS rfl (by simp[Value.oneCell']) ?_))
   have hl:=run_loadVar_row (P:=Tryz.prog) _ w.heap.size 25 25 _ (0,0) _ (setRow_heap _ _ _ #[.slice (some ⟨w.heap.size+1,0,none⟩) 1 1,.slice av (rs.map fun r=>dO r.xs).length cv] _ _ HZ.out) Tryz.underlying25 rfl aS;have hset:=GV wr w.heap.size #[.slice (some ⟨w.heap.size+1,0,none⟩) 1 1,.slice av (rs.map fun r=>dO r.xs).length cv];have eL:(rs.map fun r=>dO r.xs)=(rs.map (·.xs)).map dO:=by rw[List.map_map];rfl
   have eN:(rs.map fun r=>dO r.xs).length=(rs.map (·.xs)).length:=by simp
   have hown:=HOWN.out.kept hset (QU fun q hq e=>by have:=(HOWN.out.low hq).1;injection e with e;omega);have hpp:=(hset.block _ (aBW.1 HPP.out).1 (fun e=>by injection e with e;omega)).trans HPP.out;have hbel:=below_setRow HBW.out (aBV _) #[.slice (some ⟨w.heap.size+1,0,none⟩) 1 1,.slice av (rs.map fun r=>dO r.xs).length cv];generalize wr.setRow w.heap.size #[.slice (some ⟨w.heap.size+1,0,none⟩) 1 1,.slice av (rs.map fun r=>dO r.xs).length cv]=W9 at *;refine bodyPost_ret (v:=dX (some ⟨w.heap.size+1,0,none⟩) 1 1 av (rs.map fun r=>dO r.xs).length cv) ?_ rfl ⟨some ⟨w.heap.size+1,0,none⟩,1,av,cv,by rw[eN],?_,⟨⟨rfl,.inr ⟨w.heap.size+1,1,#[.int .i64 1],rfl,by omega,hpp,aBV _,by unfold maxLen;omega,rfl,rfl⟩⟩,fun x hx=>?_,by simp⟩,hbel⟩
   ·simp only[List.length_map] at hl;simp[results,Tryz.results49,asAddr,Act.put,hl]
   ·rw[eN,eL] at hown;have hge:w.heap.size≤w.heap.size+1+1+1:=by omega
    exact cK.mono (base':=w.heap.size) hown hge
   ·have:x=1:=by simpa using hx
    subst this;unfold I64;omega
end

section
open Go.RowKit
def kV(t:bK):Prop:=t.bn≤1000000
abbrev jG(w:World)(t:bK):Prop:=dY w t.ba t.bn t.d.blocks∧t.bn≤t.bc∧I64 t.d.kind∧I64 t.d.parent
theorem jG.ext{w w':World}{t:bK}(h:jG w t)(hb:Below w.heap.size w w'):jG w' t:=⟨h.1.ext hb,h.2⟩
abbrev qC(t:bK):Value:=.agg #[.int .i64 t.d.kind,.int .i64 t.d.parent,.slice t.ba t.bn t.bc]
def AD(r s:bK):Prop:=r.d=s.d
theorem MY(r:bK):AD r r:=rfl
theorem nO(r s:bK)(w:World)(hd:AD r s)(hr:jG w r)(hs:jG w s)(hna:kV s):
  Calls Tryz.prog 66 #[qC r,qC s] w fun e w'=>e=.returned (.bool true)∧Below w.heap.size w w':=by
 obtain⟨dr,ra,rn,rc⟩:=r
 obtain rfl:dr=s.d:=hd
 have HR:=aBO hr
 have HS:=aBO hs
 clear hr hs hna
 obtain⟨W0,HW0,hR,hS,hW0⟩:=rD w (.cells #[.int .i64 s.d.kind,.int .i64 s.d.parent,.slice ra rn rc] 76) (.cells #[.int .i64 s.d.kind,.int .i64 s.d.parent,.slice s.ba s.bn s.bc] 76)
 have x0:∀w',Below W0.heap.size W0 w'→w'.cell? ⟨w.heap.size,0,none⟩=some (.int .i64 s.d.kind):=fun w' hb=>by rw[aBP _ _ _ _ _ _ (aB hb hR)];rfl
 have x1:∀w',Below W0.heap.size W0 w'→w'.cell? ⟨w.heap.size,1,none⟩=some (.int .i64 s.d.parent):=fun w' hb=>by rw[aBP _ _ _ _ _ _ (aB hb hR)];rfl
 have x2:∀w',Below W0.heap.size W0 w'→w'.cell? ⟨w.heap.size,2,none⟩=some (.slice ra rn rc):=fun w' hb=>by rw[aBP _ _ _ _ _ _ (aB hb hR)];rfl
 have y0:∀w',Below W0.heap.size W0 w'→w'.cell? ⟨w.heap.size+1,0,none⟩=some (.int .i64 s.d.kind):=fun w' hb=>by rw[aBP _ _ _ _ _ _ (aB hb hS)];rfl
 have y1:∀w',Below W0.heap.size W0 w'→w'.cell? ⟨w.heap.size+1,1,none⟩=some (.int .i64 s.d.parent):=fun w' hb=>by rw[aBP _ _ _ _ _ _ (aB hb hS)];rfl
 have y2:∀w',Below W0.heap.size W0 w'→w'.cell? ⟨w.heap.size+1,2,none⟩=some (.slice s.ba s.bn s.bc):=fun w' hb=>by rw[aBP _ _ _ _ _ _ (aB hb hS)];rfl
 have E0:Below W0.heap.size W0 W0:=aBQ _ _
 clear hR hS
 go_enter Tryz.func66,Tryz.ntmps66
 go_wp2_with (first
  |(go_at_call 44
    refine(kG ra s.ba rn s.bn rc s.bc s.d.blocks s.d.blocks W0 ((HR.out.1.ext HW0.out).ext E0) ((HS.out.1.ext HW0.out).ext E0)).mono ?_;rw[decide_eq_true rfl];rintro e w1 ⟨rfl,q1,hq1⟩;have E1:Below W0.heap.size W0 w1:=by rw[hq1];exact bZ E0 q1
    clear hq1))
 go_ret
 exact⟨rfl,aA HW0.out E1⟩
theorem tG(a b:Option Addr)(n c d:Nat)(rs ss:List bK)(w:World)(hr:cM w a n rs)(hs:cM w b n ss)(h:pE AD rs ss)(hna:∀r∈ss,kV r):
  Calls Tryz.prog 35 #[.slice a n c,.slice b n d] w fun e w'=>e=.returned (.bool true)∧Below w.heap.size w w':=by
 have HR:=aBO hr
 have HS:=aBO hs
 have HH:=aBO h
 have HNA:=aBO hna
 have hn:=hr.1.2.1
 clear hr hs h hna
 have hne:((n:Int) != (n:Int))=false:=by simp
 go_enter Tryz.func35,Tryz.ntmps35
 go_wp2
 go_loopw [5] (fun i wr=>∃(k:Nat),k≤n∧i=.int .i64 k∧Hid (Below w.heap.size w wr)) (fun i _=>n-(intOf i).toNat)
 case atStart=>exact⟨0,by omega,rfl,aBQ _ _⟩
 case round=>
  obtain⟨k,hk,rfl,HB⟩:=hrel;by_cases hlt:k<n
  ·obtain⟨r,b1,o1,hr,hokr,rfl,y0,y1,y2⟩:=(HR.out.ext HB.out).cells hlt;obtain⟨s,b2,o2,hs,hoks,rfl,z0,z1,z2⟩:=(HS.out.ext HB.out).cells hlt;have HD:=aBO (HH.out.2 k r s hr hs);have HNs:=aBO (HNA.out s (aBY hs));have HOr:=aBO hokr;have HOs:=aBO hoks;have hk0:(0:Int)≤(k:Int):=by omega
   have hk1:(k:Int)<(n:Int):=by omega
   have kx0:∀n:aY wr,n.val.cell? ⟨b1,o1+k*3,none⟩=some (.int .i64 r.d.kind):=fun n=>aH n.ext y0;have kx1:∀n:aY wr,n.val.cell? ⟨b1,o1+k*3+1,none⟩=some (.int .i64 r.d.parent):=fun n=>aH n.ext y1;have kx2:∀n:aY wr,n.val.cell? ⟨b1,o1+k*3+2,none⟩=some (.slice r.ba r.bn r.bc):=fun n=>aH n.ext y2;have ky0:∀n:aY wr,n.val.cell? ⟨b2,o2+k*3,none⟩=some (.int .i64 s.d.kind):=fun n=>aH n.ext z0;have ky1:∀n:aY wr,n.val.cell? ⟨b2,o2+k*3+1,none⟩=some (.int .i64 s.d.parent):=fun n=>aH n.ext z1;have ky2:∀n:aY wr,n.val.cell? ⟨b2,o2+k*3+2,none⟩=some (.slice s.ba s.bn s.bc):=fun n=>aH n.ext z2;have HNE:Nonempty (aY wr):=⟨⟨wr,aBQ _ _⟩⟩
   clear hr hs hokr hoks y0 y1 y2 z0 z1 z2;go_wp2;refine bB (by kernel_rfl) (by kernel_rfl) ?_
   repeat (first
    |go_big_quiet_skip
    |go_big_quiet_step (first
     |(go_at_call 66;exact cG (nO r s _ HD.out (jG.ext HOr.out (aY.ext _)) (jG.ext HOs.out (aY.ext _)) HNs.out))))
   refine wpQuiet_nil ?_;rintro _ ⟨mm,rfl⟩;have HM:=aBO (aA HB.out mm.ext);generalize mm.val=W8 at *;clear kx0 kx1 kx2 ky0 ky1 ky2;go_wp2
   go_roundw
   case rel=>exact⟨k+1,by omega,by go_num,HM⟩
   case measure=>simp[intOf];omega
  ·go_wp2
   go_ret
   exact⟨rfl,HB.out⟩
end

section
open Go.RowKit Go.Shelf
attribute [local go_sem] Oper.semAt_some cT bM cC bG
theorem QA{rs ss:List bK}(h:aJ rs=aJ ss):pE AD rs ss:=by
 have hl:rs.length=ss.length:=by have:=congrArg List.length h;simpa[aJ] using this
 refine⟨hl,fun k r s hr hs=>?_⟩
 have h1:=congrArg (fun l=>l[k]?) h
 simp only[aJ,List.getElem?_map,hr,hs,Option.map_some,Option.some.injEq] at h1
 exact h1
theorem ZF:gZ awL≤1000000:=by decide +kernel
theorem AU:I64 0:=by unfold I64;omega
theorem nD(w:World):Calls Tryz.prog 33 #[] w fun e w'=>e=.returned (.bool true)∧Below w.heap.size w w':=by
 go_enter Tryz.func33,Tryz.ntmps33
 go_upto_region 2 with (
  (go_at_call 49
   obtain⟨hl,hb0⟩:=XV w _ rfl;refine(vI _ 3 3 _ _ hl (by omega) (by intro r hr;simp only[YB,List.mem_cons,List.not_mem_nil,or_false] at hr;rcases hr with rfl|rfl|rfl<;>simp)).mono ?_;rintro e w2 ⟨pa,pc,ba,bc,he,hown,_,hb⟩;obtain rfl:e=.returned (dX pa 1 pc ba 3 bc):=he;have HBLK:=aBO (KU (L:= [[1],[1,2],[]]) hown (by intro l hl;simp only[List.mem_cons,List.not_mem_nil,or_false] at hl;rcases hl with rfl|rfl|rfl;exact dJ [1];exact dJ [1,2];exact dJ []));have HB2:=aBO (aA hb0 hb)
   clear hl hb0 hown hb))
 obtain⟨W3,hW3⟩:∃W3,W3=w2.alloc (bO pa 1 pc ba 3 bc):=⟨_,rfl⟩
 rw[←hW3]
 have hf3:W3.heap[w2.heap.size]? =some (bO pa 1 pc ba 3 bc):=by rw[hW3];exact aBS _ _
 have hb3:Below w2.heap.size w2 W3:=by rw[hW3];exact aD _ _
 have HF3:=aBO hf3
 have HB3:=aBO (aA HB2.out hb3)
 have HBLK3:=aBO (HBLK.out.ext hb3)
 generalize w2.heap.size=F at*
 clear hW3 hf3 hb3 HBLK HB2
 go_upto_region 3 with (first
  |(refine wpList_load_row (o:=⟨some 10,.load 25 _,_,_,_,_⟩) rfl 25 _ rfl F rfl 25 _ (0,0) _ HF3.out Tryz.underlying25 rfl aS ?_)
  |(go_at_call 34
    refine(FC pa 1 pc ba 3 bc ([[1],[1,2],[]].map dO) W3 HBLK3.out (.inl (by omega))).mono ?_;rintro e w4 ⟨_,hy,hb4⟩;obtain⟨v,ls,qs,rfl,hbo,hti,htd⟩:=hy ZG;have htd2:aJ ls=awL:=htd.trans (PL hbo.1);obtain⟨va,vc,hv⟩:=hti.own.form;have hll:ls.length=2:=by have:=congrArg List.length htd2;simpa[aJ,awL] using this
    rw[hll] at hv;subst hv;have HTI:=aBO hti;have HTD:=aBO htd2;have HF4:=aBO (aB hb4 HF3.out);have HBLK4:=aBO (HBLK3.out.ext hb4);have HB4:=aBO (aA HB3.out hb4)
    clear hy hb4 hbo hti htd htd2 hll))
 go_upto_region 4 with (fail)
 have hti:=XS w4 _ rfl
 obtain⟨W5,hW5⟩:∃W5,W5=((w4.alloc (.cells #[.int .i64 0,.int .i64 2] 3)).alloc (.cells #[.int .i64 1] 3)).alloc (.cells #[.int .i64 1,.int .i64 (-1),.slice (some ⟨w4.heap.size,0,none⟩) 2 2,.int .i64 2,.int .i64 0,.slice (some ⟨w4.heap.size+1,0,none⟩) 1 1] 76):=⟨_,rfl⟩
 rw[←hW5] at hti⊢
 have HWT:=aBO hti.1
 have HF5:=aBO (aB hti.2 HF4.out)
 have HBLK5:=aBO (HBLK4.out.ext hti.2)
 have HB5:=aBO (aA HB4.out hti.2)
 have HT5:Hid (cM W5 va 2 ls):=(HTI.out.ext hti.2).ok
 have HTOT:Hid (gZ (aJ ls)≤1000000):=by rw[Hid,HTD.out];exact ZF
 have HR:Hid (cZ NE (aJ ls)=true):=by rw[Hid,HTD.out];exact XT
 have HAL:Hid ((fK (aJ ls) 0).length=3):=by rw[Hid,HTD.out];exact aAJ
 clear hW5 hti HF4 HBLK4 HB4 HTI HF3 HBLK3 HB3
 generalize w4.heap.size=b9 at*
 go_wp2_with (first
  |(refine bS (o:=⟨some 27,.load 25 _,_,_,_,_⟩) (by rfl) 25 _ rfl F rfl 25 _ (0,0) _ HF6.out Tryz.underlying25 rfl aS ?_)
  |(go_at_call 39
    refine(uY va 2 vc ls 0 w7 HT7.out AU HTOT.out).mono ?_;rintro e w8 ⟨x,rfl,ho,hb8⟩;obtain⟨xa,xc,hx⟩:=ho.form;rw[HAL.out] at hx;subst hx;have HB8:=aBO (aA HB7.out hb8)
    clear hb8 ho)
  |(go_at_call 42
    refine(BD pa 1 pc ba 3 bc ([[1],[1,2],[]].map dO) va 2 vc ls w6 HBLK6.out HT6.out HTOT.out).mono ?_;rintro e w7 ⟨he,hb7⟩;obtain rfl:=he.trans (congrArg (fun z=>Ending.returned (.bool z)) HR.out);have HT7:=aBO (HT6.out.ext hb7);have HB7:=aBO (aA HB6.out hb7)
    clear hb7 he)
  |(go_at_call 35
    refine(tG va (some ⟨b9+1+1,0,none⟩) 2 vc 2 ls (uX b9) W5 HT5.out HWT.out (QA (HTD.out.trans rfl)) (by intro r hr;simp only[uX,List.mem_cons,List.not_mem_nil,or_false] at hr;rcases hr with rfl|rfl<;>(show(_:Nat)≤_;simp))).mono ?_;rintro e w6 ⟨rfl,hb6⟩;have HT6:=aBO (HT5.out.ext hb6);have HF6:=aBO (aB hb6 HF5.out);have HBLK6:=aBO (HBLK5.out.ext hb6);have HB6:=aBO (aA HB5.out hb6)
    clear hb6))
 go_ret
 exact⟨rfl,HB8.out⟩
end

section
open Go.RowKit Go.Shelf
attribute [local go_sem] Oper.semAt_some cT bM cC bG
def BA(ts:List aT)(l:List bI)(k:Int)(w:World)(e:Ending)(w':World):Prop:=
 ∃v,e=.returned v∧Below w.heap.size w w'∧(bU ts=false→v=iY)∧(bU ts=true→bN w' w.heap.size v (aO (aM ts (ofS (fK l k)))))
theorem GD(pa:Option Addr)(pn pc:Nat)(ba:Option Addr)(bn bc:Nat)(bs:List gS)(a:Option Addr)(n c:Nat)(ls:List bK)(k:Int)(w:World)(h:dU w ba bn bs)(ht:cM w a n ls)(hk:I64 k)(hT:gZ (aJ ls)≤1000000):
  Calls Tryz.prog 46 #[dX pa pn pc ba bn bc,.slice a n c,.int .i64 k] w (BA (aG bs) (aJ ls) k w):=by
 have H:=aBO h
 have HT:=aBO ht
 have HKI:=aBO hk
 have HTOT:=aBO hT
 clear h ht hk hT
 go_enter Tryz.func46,Tryz.ntmps46
 go_upto_region 1 with (fail)
 obtain⟨W,hW⟩:∃W,W=w.alloc (bO pa pn pc ba bn bc):=⟨_,rfl⟩
 rw[←hW]
 have hk0:W.heap[w.heap.size]? =some (bO pa pn pc ba bn bc):=by rw[hW];exact aBS _ _
 have hB:Below w.heap.size w W:=by rw[hW];exact aD _ _
 have HK:=aBO hk0
 have HB:=aBO hB
 clear hW hk0 hB
 cases hf:bU (aG bs) with
 |false=>
  have HF:=aBO hf;clear hf
  go_wp2_with (first
   |(refine wpList_load_row (o:=⟨some 10,.load 25 _,_,_,_,_⟩) rfl 25 _ rfl w.heap.size rfl 25 _ (0,0) _ HK.out Tryz.underlying25 rfl aS ?_)
   |(go_at_call 78
     refine(lO pa pn pc ba bn bc bs W (H.out.ext HB.out)).mono ?_;rintro e w2 ⟨cs,rfl,hcs,hall,hb,hokk⟩;rw[HF.out];have HB2:=aBO (aA HB.out hb);have HCS:=aBO hcs;have HALL:=aBO hall
     clear hb hokk hcs hall)
   |(refine wpList_store_row rfl 116 _ _ rfl w2.heap.size cs rfl rfl 116 _ (aBS w2 zV) (by rw[HCS.out];exact bD) (by rw[HCS.out];rfl) HALL.out ?_))
  go_ret
  exact⟨_,rfl,below_setRow (HB2.out.alloc HB2.out.size _) HB2.out.size _,fun _=>rfl,fun h=>by rw[HF.out] at h;cases h⟩
 |true=>
  have HF:=aBO hf;clear hf
  go_upto_region 4 with (first
   |(refine wpList_load_row (o:=⟨some 10,.load 25 _,_,_,_,_⟩) rfl 25 _ rfl w.heap.size rfl 25 _ (0,0) _ HK.out Tryz.underlying25 rfl aS ?_)
   |(go_at_call 78
     refine(lO pa pn pc ba bn bc bs W (H.out.ext HB.out)).mono ?_;rintro e w2 ⟨cs,rfl,hcs,hall,hb,hokk⟩;rw[HF.out];obtain⟨ta,tc,fa,fc,hcv,hwk⟩:=hokk HF.out;injection hcv with hcv;subst hcv;have HB2:=aBO (aA HB.out hb);have HWK:=aBO hwk
     clear hb hokk hcs hall hwk)
   |(refine wpList_store_row rfl 116 _ _ rfl w2.heap.size #[.slice pa pn pc,.slice ba bn bc,.slice ta bn tc,.slice fa bn fc] rfl rfl 116 _ (aBS w2 zV) bD rfl rfl ?_))
  obtain⟨W3,hW3⟩:∃W3,W3=w2.alloc (kK ⟨pa,pn,pc,ba,bn,bc,ta,tc,fa,fc⟩):=⟨_,rfl⟩
  rw[←hW3];have hw3:W3.heap[w2.heap.size]? =some (kK ⟨pa,pn,pc,ba,bn,bc,ta,tc,fa,fc⟩):=by rw[hW3];exact aBS _ _
  have HW3:=aBO hw3;have HB3':Below w2.heap.size w2 W3:=by rw[hW3];exact aD _ _
  have HB3:=aBO (aA HB2.out HB3');have HWK3:=aBO (HWK.out.ext HB3');clear hW3 hw3 HB3' HWK HB2;refine dL 6 [some 16,some 17,some 18,some 19,some 20,some 21] (by kernel_rfl) (by kernel_rfl) (dV [.val (dK ⟨pa,pn,pc,ba,bn,bc,ta,tc,fa,fc⟩),.val (.slice a n c),.val (.int .i64 k),(.any fun v lo hi W=>∃al cl,v=.slice al (fK (aJ ls) k).length cl∧bN W lo v (fK (aJ ls) k)),.val (.agg (aQ (ofS (fK (aJ ls) k)))),(.any fun v lo hi W=>bN W lo v (aO (aM (aG bs) (ofS (fK (aJ ls) k)))))]) (dN ?_) ?_ ?_
  ·intro k hk;simp only[List.mem_cons,List.not_mem_nil,or_false] at hk;rcases hk with rfl|rfl|rfl|rfl|rfl|rfl
   ·exact trivial
   ·exact trivial
   ·exact trivial
   ·intro v lo hi w w' hb ⟨al,cl,e,ho⟩;exact⟨al,cl,e,ho.ext hb⟩
   ·exact trivial
   ·intro v lo hi w w' hb ho;exact ho.ext hb
  ·intro i hi ν lo hi' w1 K hB hD hK;have hcase:i=0∨i=1∨i=2∨i=3∨i=4∨i=5:=by omega
   clear hi;rcases hcase with rfl|rfl|rfl|rfl|rfl|rfl
   ·clear hD;refine aC rfl rfl ?_;simp only[zA,zB,zC,zD,zE,zF,zJ,zK,zG,zH,zI] at hK⊢;refine wp_load_row 116 _ rfl w2.heap.size rfl 116 _ (0,0) _ (aB hB HW3.out) Tryz.underlying116 rfl bD ?_;exact hK _ _ (aBQ _ _) rfl
   ·clear hD;refine aC rfl rfl ?_;simp only[zA,zB,zC,zD,zE,zF,zJ,zK,zG,zH,zI] at hK⊢;go_simp;exact hK _ _ (aBQ _ _) rfl
   ·clear hD;refine aC rfl rfl ?_;simp only[zA,zB,zC,zD,zE,zF,zJ,zK,zG,zH,zI] at hK⊢;go_simp;exact hK _ _ (aBQ _ _) rfl
   ·have e1:=hD 1 (by kernel_rfl)
    replace e1:ν 1=(.slice a n c):=e1
    have e2:=hD 2 (by kernel_rfl)
    replace e2:ν 2=(.int .i64 k):=e2
    clear hD;refine aC rfl rfl ?_;simp only[zA,zB,zC,zD,zE,zF,zJ,zK,zG,zH,zI,e1,e2] at hK⊢;go_simp;refine(uY a n c ls k w1 (HT.out.ext (aA HB3.out hB)) HKI.out HTOT.out).mono ?_;rintro e w3 ⟨v,rfl,ho,hb3⟩;obtain⟨al,cl,rfl⟩:=ho.form;exact hK _ _ hb3 ⟨al,cl,rfl,ho⟩
   ·have e3:=hD 3 (by kernel_rfl);unfold dV at e3;simp only[List.getD_cons_zero,List.getD_cons_succ,gG] at e3;clear hD;refine aC rfl rfl ?_;simp only[zA,zB,zC,zD,zE,zF,zJ,zK,zG,zH,zI] at hK⊢;obtain⟨al,cl,e3',ho3⟩:=e3;simp only[e3'] at hK⊢;rw[e3'] at ho3;go_simp;refine(UT al _ cl (fK (aJ ls) k) w1 ho3.ints).mono ?_;rintro e w3 ⟨rfl,hb3⟩;exact hK _ _ hb3 rfl
   ·have e0:=hD 0 (by kernel_rfl)
    replace e0:ν 0=(dK ⟨pa,pn,pc,ba,bn,bc,ta,tc,fa,fc⟩):=e0
    have e4:=hD 4 (by kernel_rfl)
    replace e4:ν 4=(.agg (aQ (ofS (fK (aJ ls) k)))):=e4
    clear hD;refine aC rfl rfl ?_;simp only[zA,zB,zC,zD,zE,zF,zJ,zK,zG,zH,zI,e0,e4] at hK⊢;go_simp;refine(rX ⟨pa,pn,pc,ba,bn,bc,ta,tc,fa,fc⟩ (aG bs) (ofS (fK (aJ ls) k)) w1 (HWK3.out.ext hB) (kF HF.out)).mono ?_;rintro e w3 ⟨v,rfl,ho,hb3⟩;exact hK _ _ hb3 ho
  ·intro ν lo hi w1 hB hS hI hD;have e0:ν 0=(dK ⟨pa,pn,pc,ba,bn,bc,ta,tc,fa,fc⟩):=hS 0 (by omega);have e1:ν 1=(.slice a n c):=hS 1 (by omega);have e2:ν 2=(.int .i64 k):=hS 2 (by omega);have e3:=hS 3 (by omega);unfold dV at e3;simp only[List.getD_cons_zero,List.getD_cons_succ,gG] at e3;have e4:ν 4=(.agg (aQ (ofS (fK (aJ ls) k)))):=hS 4 (by omega);have hS5:=hS 5 (by omega);unfold dV at hS5;simp only[List.getD_cons_zero,List.getD_cons_succ,gG] at hS5;clear hS;simp only[List.drop_succ_cons,List.drop_zero,zA,zB,zC,zD,zE,zF,zJ,zK,zG,zH,zI,e0,e1,e2,e4];have e5:=hS5;have hl5:=hI 5 (by omega);have hsz3:=HB3.out.size;obtain⟨v5,hv5⟩:∃v5,v5=ν 5:=⟨_,rfl⟩
   rw[←hv5] at e5⊢;have HO:=aBO (e5.mono (base':=w.heap.size) (by omega));have HBE:=aBO (aA HB3.out hB);clear e5 hl5 hI hD hB hv5 e0 e1 e2 e4 hS5 hsz3;go_wp2
   go_ret
   exact⟨_,rfl,HBE.out,(fun h=>by rw[HF.out] at h;cases h),fun _=>HO.out⟩
end
end Go.Proofs.YtblhmdhfhaencaaGreat
