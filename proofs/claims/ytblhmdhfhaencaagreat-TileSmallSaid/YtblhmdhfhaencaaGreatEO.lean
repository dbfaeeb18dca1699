/-
 law18's of:a function of blocks,each of which goes where a row says.
-/
import Derived.Test.YtblhmdhfhaencaaGreatVA
import Derived.Test.YtblhmdhfhaencaaGreatTL
import Derived.Test.YtblhmdhfhaencaaGreatLentG
namespace Go.Proofs.YtblhmdhfhaencaaGreat
set_option linter.unusedSimpArgs false
set_option linter.unusedVariables false
set_option linter.unusedSectionVars false
set_option maxRecDepth 100000
set_option maxHeartbeats 40000000
section
open Go.RowKit
attribute [local go_sem] Oper.semAt_some cT bM cC bG
structure SlR where
 xs:List Int
 sa:Option Addr
 sc:Nat
def csL(r:SlR):List Value:= [.slice r.sa r.xs.length r.sc]
theorem ZA(r:SlR):(csL r).length=1:=rfl
def iR(w:World)(a:Option Addr)(n:Nat)(rs:List SlR):Prop:=kM 1 csL w a n rs∧∀r∈rs,dY w r.sa r.xs.length r.xs
theorem iR.ext{w w':World}{a:Option Addr}{n:Nat}{rs:List SlR}(h:iR w a n rs)(hb:Below w.heap.size w w'):iR w' a n rs:=⟨h.1.ext ZA hb,fun r hr=>(h.2 r hr).ext hb⟩
theorem iR.cells{w:World}{a:Option Addr}{n:Nat}{rs:List SlR}(h:iR w a n rs){k:Nat}(hk:k<n):∃r b o,rs[k]? =some r∧a=some ⟨b,o,none⟩∧w.cell? ⟨b,o+k,none⟩=some (.slice r.sa r.xs.length r.sc)∧dY w r.sa r.xs.length r.xs:=by
 have hk':k<rs.length:=by rw[h.1.1];exact hk
 obtain⟨r,hr⟩:∃r,rs[k]? =some r:=⟨rs[k],aBU hk'⟩
 obtain⟨b,o,e,hc⟩:=h.1.2.2 k r hr
 have h0:=hc 0 (by omega)
 rw[Nat.mul_one,Nat.add_zero] at h0
 exact⟨r,b,o,hr,e,h0,h.2 r (aBY hr)⟩
def ID:List Int→aT
 | [x]=>⟨1,0,x,0⟩
 | [x,y]=>⟨2,1,x,y⟩
 |_=>⟨3,0,0,0⟩
def dO(l:List Int):gS:=⟨none,0,0,ID l⟩
theorem YS:(Tryz.prog.info? 73).map (fun i=>(i.zero,i.size,i.bytes))=some (some (.agg #[.slice none 0 0,.int .i64 0,.int .i64 0,.int .i64 0,.int .i64 0]),5,56):=by kernel_rfl
def aAK(L:List (List Int))(w:World)(e:Ending)(w':World):Prop:=
 ∃pa pc ba bc,e=.returned (dX pa 1 pc ba L.length bc)∧cK 73 5 iZ w' w.heap.size (.slice ba L.length bc) (L.map dO)∧bN w' w.heap.size (.slice pa 1 pc) [1]∧Below w.heap.size w w'
theorem ZE(l:List gS):∀u∈l.flatMap iZ,u.oneCell'=true:=by
 intro u hu
 simp only[List.mem_flatMap,iZ] at hu
 obtain⟨x,_,hx⟩:=hu
 simp only[List.mem_cons,List.not_mem_nil,or_false] at hx
 rcases hx with rfl|rfl|rfl|rfl|rfl<;>rfl
def OJ(w:World)(rs:List SlR)(k:Nat)(wr:World):Prop:=
 ∃v,wr.heap[w.heap.size]? =some (bO none 0 0 none 0 0)∧wr.heap[w.heap.size+1+1]? =some (.cells #[.slice (some ⟨w.heap.size+1,0,none⟩) 1 1,v] 25 (0,0))∧wr.heap[w.heap.size+1]? =some (.cells #[.int .i64 1] 3 (0,0))∧
  cK 73 5 iZ wr (w.heap.size+1+1+1) v ((rs.take k).map fun r=>dO r.xs)∧Below w.heap.size w wr
theorem OJ.grown{w:World}{rs:List SlR}{k:Nat}{wr w':World}{row:Option Nat}(h:OJ w rs k wr)(hg:wr.grownBy w' row)(hr:∀q,row=some q→wr.heap.size≤q):OJ w rs k w':=by
 obtain⟨v,h1,h2,h3,h4,h5⟩:=h
 have hlt:∀{q:Nat} {o:Obj},wr.heap[q]? =some o→w'.heap[q]? =some o:=fun {q o} hq=>(hg.block q (aBW.1 hq).1 (fun e=>by have:=hr q e.symm;have:=(aBW.1 hq).1;omega)).trans hq
 exact⟨v,hlt h1,hlt h2,hlt h3,h4.kept hg (QU fun q hq e=>by have:=hr q e;have:=(h4.low hq).2;omega),h5.grown hg h5.size (fun q e=>aCD h5.size (hr q e))⟩
theorem OJ.step{w:World}{rs:List SlR}{k:Nat}{W9 w6:World}{r:SlR}(h:OJ w rs k W9)(hlr:rs[k]? =some r){av:Option Addr}{cv g2 cap:Nat}
  (hown:w6.ownsRow (w.heap.size+1+1+1) 73 5 (.slice (some ⟨g2,0,none⟩) (k+1) cap) (k+1) (((rs.take k).map fun r=>dO r.xs).flatMap iZ++iZ (dO r.xs)))
  (hg:W9.grownBy w6 (Value.slice av k cv).ownBlock) (hv:W9.heap[w.heap.size+1+1]? =some (.cells #[.slice (some ⟨w.heap.size+1,0,none⟩) 1 1,.slice av k cv] 25 (0,0))) (hk:k<1000) (hlk:((rs.take k).map fun r=>dO r.xs).length=k):
  OJ w rs (k+1) (w6.setCell ⟨w.heap.size+1+1,1,none⟩ (.slice (some ⟨g2,0,none⟩) (k+1) cap)):=by
 obtain⟨v,h1,h2,h3,h4,h5⟩:=h
 rw[hv] at h2
 simp only[Option.some.injEq,Obj.cells.injEq,Array.mk.injEq,List.cons.injEq,and_true,true_and] at h2
 subst h2
 have hlow:∀q,(Value.slice av k cv).ownBlock=some q→w.heap.size+1+1+1≤q:=fun q hq=>(h4.low hq).1
 have hlt:∀{q:Nat} {o:Obj},q<w.heap.size+1+1+1→W9.heap[q]? =some o→w6.heap[q]? =some o:=fun {q o} hq9 hq=>(hg.block q (aBW.1 hq).1 (fun e=>by have:=hlow q e.symm;omega)).trans hq
 have hst:=heap_setCell_same w6 (w.heap.size+1+1) 1 _ _ (.slice (some ⟨g2,0,none⟩) (k+1) cap) (hlt (by omega) hv)
 simp only[List.setIfInBounds_toArray,List.set_cons_succ,List.set_cons_zero] at hst
 have hset:=bA w6 (w.heap.size+1+1) 1 (.slice (some ⟨g2,0,none⟩) (k+1) cap)
 have e1:(rs.take (k+1)).map (fun r=>dO r.xs)=((rs.take k).map fun r=>dO r.xs)++ [dO r.xs]:=by rw[List.take_add_one,hlr];simp
 have hg2:=(hown.lt g2 rfl).1
 refine⟨_,(hset.block _ ?_ (fun e=>by injection e with e;omega)).trans (hlt (by omega) h1),hst,(hset.block _ ?_ (fun e=>by injection e with e;omega)).trans (hlt (by omega) h3),⟨?_,by simp;omega⟩,(h5.grown hg h5.size (fun q e=>by have:=hlow q e;omega)).setCell (by show w.heap.size≤w.heap.size+1+1;omega) _⟩
 ·exact(aBW.1 (hlt (by omega) h1)).1
 ·exact(aBW.1 (hlt (by omega) h3)).1
 ·rw[e1,List.length_append,hlk];have:(((rs.take k).map fun r=>dO r.xs)++ [dO r.xs]).flatMap iZ=((rs.take k).map fun r=>dO r.xs).flatMap iZ++iZ (dO r.xs):=by simp
  rw[this];exact hown.kept hset (.inr (by simp[Value.ownBlock];omega))
end
end Go.Proofs.YtblhmdhfhaencaaGreat
