/-
 Instructions that are lent:LentIns,KeptIns,SameIns,sL,KeptRow,SameRow.
-/
import Derived.Test.YtblhmdhfhaencaaGreatLentG
import Derived.Test.YtblhmdhfhaencaaGreatBR
import Derived.Test.YtblhmdhfhaencaaGreatTF
import Derived.Test.YtblhmdhfhaencaaGreatTL
import Derived.Test.YtblhmdhfhaencaaGreatTR
import Derived.ArgAppend
import Derived.Deep.Onto
import Derived.Maps.AppendAt
import Derived.Deep.LoopGhost
namespace Go.Proofs.YtblhmdhfhaencaaGreat
set_option linter.unusedSimpArgs false
set_option linter.unusedVariables false
set_option linter.unusedSectionVars false
set_option maxRecDepth 100000
set_option maxHeartbeats 40000000
section
open Go.RowKit
def qY(r:mC):Prop:=r.na≤1000000
def DU(r s:mC):Prop:=r.d=s.d
theorem PM(r:mC):DU r r:=rfl
theorem AT:(Tryz.prog.info? 216).map (fun i=>(i.zero,i.size,i.bytes))=some (some (.agg #[.int .i64 0,.int .i64 0,.int .i64 0,.int .i64 0,.int .i64 0,.int .i64 0,.slice none 0 0,.int .i64 0]),8,80):=by kernel_rfl
theorem RF(r:mC):∀u∈yV r,u.oneCell'=true:=by
 intro u hu
 simp only[yV,List.mem_cons,List.not_mem_nil,or_false] at hu
 rcases hu with rfl|rfl|rfl|rfl|rfl|rfl|rfl|rfl<;>rfl
def oS(w:World)(base:Nat)(r r':mC):Prop:=r'.d=r.d∧nZ w base (.slice r'.aa r'.na r'.ca) r.d.args
theorem oS.sd{w:World}{base:Nat}{r r':mC}(h:oS w base r r'):DU r' r:=h.1
theorem fA:kR [3] oS where
 chg:=fun h hc hn=>⟨h.1,h.2.chg hc hn⟩
 mono:=fun hb h=>⟨h.1,h.2.mono hb⟩
 grown:=fun he h ho hg=>⟨h.1,h.2.grown (fun e=>he (by simp[e])) ho hg⟩
theorem oS.ok{w:World}{base:Nat}{r r':mC}(h:oS w base r r')(hr:lZ w r)(_:qY r):lZ w r':=by
 obtain⟨hd,hl⟩:=h
 obtain⟨a,c,e,hi⟩:=hl.ints (by rw[hr.1.1];exact hr.1.2.1) hr.1.mem
 obtain⟨g,cap,e2,hc,_⟩:=hl.cells
 injection e with e1 e2' e3
 injection e2 with f1 f2 f3
 refine⟨?_,by omega,?_⟩
 ·rw[hd,e1,e2'];exact hi
 ·rw[hd];exact hr.2.2
def mV(i:Nat):mC:=⟨⟨0,0,0,0,fI 1 (i:Int),0,[],0⟩,none,0,0⟩
theorem JG(w:World)(k:Nat)(hk:k<12):lZ w (mV k):=by
 have hm:I64 (fI 1 (k:Int)):=by unfold I64 fI;omega
 have z:I64 0:=by unfold I64;omega
 exact⟨⟨rfl,Nat.zero_le _,fun j hj=>absurd hj (by simp[mV])⟩,aBV _,z,z,z,z,hm,z,z⟩
theorem WK(k:Nat):qY (mV k):=by simp[qY,mV]
theorem LT(r:mC)(w:World)(h:lZ w r)(hn:qY r):
  Calls Tryz.prog 209 #[xP r] w fun e w'=>∃r',e=.returned (xP r')∧oS w' w.heap.size r r'∧Below w.heap.size w w':=by
 have H:=aBO h
 have HN:=aBO hn
 clear h hn
 go_enter Tryz.func209,Tryz.ntmps209
 go_wp2_with (first
  |(go_at_call 52
    refine(qR r.aa r.na r.ca r.d.args _ (H.out.1.ext (aA (aD _ _) (aD _ _))) HN.out).mono ?_;rintro e w1 ⟨v,rfl,hL,hb⟩;obtain⟨g0,cap0,rfl⟩:=hL.form;obtain⟨x1,x2,x3⟩:=UF w (.cells #[.int .i64 r.d.op,.int .i64 r.d.dst,.int .i64 r.d.a,.int .i64 r.d.b,.int .i64 r.d.imm,.int .i64 r.d.callee,.slice r.aa r.na r.ca,.int .i64 r.d.many] 216) (.cells #[.int .i64 0,.int .i64 0,.int .i64 0,.int .i64 0,.int .i64 0,.int .i64 0,.slice none 0 0,.int .i64 0] 216) w1 hb;have y6:w1.cell? ⟨w.heap.size,6,none⟩=some (.slice r.aa r.na r.ca):=by rw[aBP _ _ _ _ _ _ x1];rfl
    have z6:w1.frozen? ⟨w.heap.size,6,none⟩=false:=frozen_of_row _ _ _ _ _ x1;obtain⟨W1,hW2⟩:∃W,w1.setCell ⟨w.heap.size,6,none⟩ (.slice (some ⟨g0,0,none⟩) r.d.args.length cap0)=W:=⟨_,rfl⟩
    have c2:Chg (fun k=>k=w.heap.size) w1 W1:=by rw[←hW2];exact gX _ _ _ _
    have HL1_0:=aBO (hL.chg c2 (fun k hk=>by simp;omega));have X1:W1.heap[w.heap.size]? =some (.cells #[.int .i64 r.d.op,.int .i64 r.d.dst,.int .i64 r.d.a,.int .i64 r.d.b,.int .i64 r.d.imm,.int .i64 r.d.callee,.slice (some ⟨g0,0,none⟩) r.d.args.length cap0,.int .i64 r.d.many] 216 (0,0)):=by rw[←hW2,heap_setCell_same _ _ 6 _ _ _ x1];rfl
    have HK1:=aBO X1;have HZ1:=aBO (c2.row x2 (by omega));have HX1:=aBO (x3.trans (c2.below (B:=w.heap.size) x3.size (fun k hk=>by omega)));have i1_0:W1.cell? ⟨w.heap.size,0,none⟩=some (.int .i64 r.d.op):=by rw[aBP _ _ _ _ _ _ X1];rfl
    have i1_1:W1.cell? ⟨w.heap.size,1,none⟩=some (.int .i64 r.d.dst):=by rw[aBP _ _ _ _ _ _ X1];rfl
    have i1_2:W1.cell? ⟨w.heap.size,2,none⟩=some (.int .i64 r.d.a):=by rw[aBP _ _ _ _ _ _ X1];rfl
    have i1_3:W1.cell? ⟨w.heap.size,3,none⟩=some (.int .i64 r.d.b):=by rw[aBP _ _ _ _ _ _ X1];rfl
    have i1_4:W1.cell? ⟨w.heap.size,4,none⟩=some (.int .i64 r.d.imm):=by rw[aBP _ _ _ _ _ _ X1];rfl
    have i1_5:W1.cell? ⟨w.heap.size,5,none⟩=some (.int .i64 r.d.callee):=by rw[aBP _ _ _ _ _ _ X1];rfl
    have i1_6:W1.cell? ⟨w.heap.size,6,none⟩=some (.slice (some ⟨g0,0,none⟩) r.d.args.length cap0):=by rw[aBP _ _ _ _ _ _ X1];rfl
    have i1_7:W1.cell? ⟨w.heap.size,7,none⟩=some (.int .i64 r.d.many):=by rw[aBP _ _ _ _ _ _ X1];rfl
    clear hL x1 x2 x3 hb c2 X1)
  |(refine iW rfl 216 _ _ rfl (w.heap.size+1) #[.int .i64 r.d.op,.int .i64 r.d.dst,.int .i64 r.d.a,.int .i64 r.d.b,.int .i64 r.d.imm,.int .i64 r.d.callee,.slice (some ⟨g0,0,none⟩) r.d.args.length cap0,.int .i64 r.d.many] rfl rfl 216 _ HZ1.out (by kernel_rfl) rfl (by simp[Value.oneCell']) ?_
    intro W9 c3 X3;have HL9_0:=aBO (HL1_0.out.chg c3 (fun k hk=>by simp;omega));have HX9:=aBO (HX1.out.trans (c3.below (B:=w.heap.size) HX1.out.size (fun k hk=>by omega)));have j0:W9.cell? ⟨w.heap.size+1,0,none⟩=some (.int .i64 r.d.op):=by rw[aBP _ _ _ _ _ _ X3];rfl
    have j1:W9.cell? ⟨w.heap.size+1,1,none⟩=some (.int .i64 r.d.dst):=by rw[aBP _ _ _ _ _ _ X3];rfl
    have j2:W9.cell? ⟨w.heap.size+1,2,none⟩=some (.int .i64 r.d.a):=by rw[aBP _ _ _ _ _ _ X3];rfl
    have j3:W9.cell? ⟨w.heap.size+1,3,none⟩=some (.int .i64 r.d.b):=by rw[aBP _ _ _ _ _ _ X3];rfl
    have j4:W9.cell? ⟨w.heap.size+1,4,none⟩=some (.int .i64 r.d.imm):=by rw[aBP _ _ _ _ _ _ X3];rfl
    have j5:W9.cell? ⟨w.heap.size+1,5,none⟩=some (.int .i64 r.d.callee):=by rw[aBP _ _ _ _ _ _ X3];rfl
    have j6:W9.cell? ⟨w.heap.size+1,6,none⟩=some (.slice (some ⟨g0,0,none⟩) r.d.args.length cap0):=by rw[aBP _ _ _ _ _ _ X3];rfl
    have j7:W9.cell? ⟨w.heap.size+1,7,none⟩=some (.int .i64 r.d.many):=by rw[aBP _ _ _ _ _ _ X3];rfl
    clear c3 X3))
 refine bodyPost_ret (v:=.agg #[.int .i64 r.d.op,.int .i64 r.d.dst,.int .i64 r.d.a,.int .i64 r.d.b,.int .i64 r.d.imm,.int .i64 r.d.callee,.slice (some ⟨g0,0,none⟩) r.d.args.length cap0,.int .i64 r.d.many]) (by simp[results,Tryz.results209,go_sem,j0,j1,j2,j3,j4,j5,j6,j7]) rfl ⟨⟨r.d,some ⟨g0,0,none⟩,r.d.args.length,cap0⟩,rfl,?_,HX9.out⟩
 exact⟨rfl,HL9_0.out.mono (by simp;omega)⟩
theorem rO(r s:mC)(w:World)(hd:DU r s)(hr:lZ w r)(hs:lZ w s)(hna:qY s):
  Calls Tryz.prog 183 #[xP r,xP s] w fun e w'=>e=.returned (.bool true)∧Below w.heap.size w w':=by
 obtain⟨dr,ra,rn,rc⟩:=r
 obtain rfl:dr=s.d:=hd
 have HR:=aBO hr
 have HS:=aBO hs
 clear hr hs hna
 obtain⟨W0,HW0,hR,hS,hW0⟩:=rD w (.cells #[.int .i64 s.d.op,.int .i64 s.d.dst,.int .i64 s.d.a,.int .i64 s.d.b,.int .i64 s.d.imm,.int .i64 s.d.callee,.slice ra rn rc,.int .i64 s.d.many] 216) (.cells #[.int .i64 s.d.op,.int .i64 s.d.dst,.int .i64 s.d.a,.int .i64 s.d.b,.int .i64 s.d.imm,.int .i64 s.d.callee,.slice s.aa s.na s.ca,.int .i64 s.d.many] 216)
 have x0:∀w',Below W0.heap.size W0 w'→w'.cell? ⟨w.heap.size,0,none⟩=some (.int .i64 s.d.op):=fun w' hb=>by rw[aBP _ _ _ _ _ _ (aB hb hR)];rfl
 have x1:∀w',Below W0.heap.size W0 w'→w'.cell? ⟨w.heap.size,1,none⟩=some (.int .i64 s.d.dst):=fun w' hb=>by rw[aBP _ _ _ _ _ _ (aB hb hR)];rfl
 have x2:∀w',Below W0.heap.size W0 w'→w'.cell? ⟨w.heap.size,2,none⟩=some (.int .i64 s.d.a):=fun w' hb=>by rw[aBP _ _ _ _ _ _ (aB hb hR)];rfl
 have x3:∀w',Below W0.heap.size W0 w'→w'.cell? ⟨w.heap.size,3,none⟩=some (.int .i64 s.d.b):=fun w' hb=>by rw[aBP _ _ _ _ _ _ (aB hb hR)];rfl
 have x4:∀w',Below W0.heap.size W0 w'→w'.cell? ⟨w.heap.size,4,none⟩=some (.int .i64 s.d.imm):=fun w' hb=>by rw[aBP _ _ _ _ _ _ (aB hb hR)];rfl
 have x5:∀w',Below W0.heap.size W0 w'→w'.cell? ⟨w.heap.size,5,none⟩=some (.int .i64 s.d.callee):=fun w' hb=>by rw[aBP _ _ _ _ _ _ (aB hb hR)];rfl
 have x6:∀w',Below W0.heap.size W0 w'→w'.cell? ⟨w.heap.size,6,none⟩=some (.slice ra rn rc):=fun w' hb=>by rw[aBP _ _ _ _ _ _ (aB hb hR)];rfl
 have x7:∀w',Below W0.heap.size W0 w'→w'.cell? ⟨w.heap.size,7,none⟩=some (.int .i64 s.d.many):=fun w' hb=>by rw[aBP _ _ _ _ _ _ (aB hb hR)];rfl
 have y0:∀w',Below W0.heap.size W0 w'→w'.cell? ⟨w.heap.size+1,0,none⟩=some (.int .i64 s.d.op):=fun w' hb=>by rw[aBP _ _ _ _ _ _ (aB hb hS)];rfl
 have y1:∀w',Below W0.heap.size W0 w'→w'.cell? ⟨w.heap.size+1,1,none⟩=some (.int .i64 s.d.dst):=fun w' hb=>by rw[aBP _ _ _ _ _ _ (aB hb hS)];rfl
 have y2:∀w',Below W0.heap.size W0 w'→w'.cell? ⟨w.heap.size+1,2,none⟩=some (.int .i64 s.d.a):=fun w' hb=>by rw[aBP _ _ _ _ _ _ (aB hb hS)];rfl
 have y3:∀w',Below W0.heap.size W0 w'→w'.cell? ⟨w.heap.size+1,3,none⟩=some (.int .i64 s.d.b):=fun w' hb=>by rw[aBP _ _ _ _ _ _ (aB hb hS)];rfl
 have y4:∀w',Below W0.heap.size W0 w'→w'.cell? ⟨w.heap.size+1,4,none⟩=some (.int .i64 s.d.imm):=fun w' hb=>by rw[aBP _ _ _ _ _ _ (aB hb hS)];rfl
 have y5:∀w',Below W0.heap.size W0 w'→w'.cell? ⟨w.heap.size+1,5,none⟩=some (.int .i64 s.d.callee):=fun w' hb=>by rw[aBP _ _ _ _ _ _ (aB hb hS)];rfl
 have y6:∀w',Below W0.heap.size W0 w'→w'.cell? ⟨w.heap.size+1,6,none⟩=some (.slice s.aa s.na s.ca):=fun w' hb=>by rw[aBP _ _ _ _ _ _ (aB hb hS)];rfl
 have y7:∀w',Below W0.heap.size W0 w'→w'.cell? ⟨w.heap.size+1,7,none⟩=some (.int .i64 s.d.many):=fun w' hb=>by rw[aBP _ _ _ _ _ _ (aB hb hS)];rfl
 have E0:Below W0.heap.size W0 W0:=aBQ _ _
 clear hR hS
 go_enter Tryz.func183,Tryz.ntmps183
 go_wp2_with (first
  |(go_at_call 44
    refine(kG ra s.aa rn s.na rc s.ca s.d.args s.d.args W0 ((HR.out.1.ext HW0.out).ext E0) ((HS.out.1.ext HW0.out).ext E0)).mono ?_;rw[decide_eq_true rfl];rintro e w1 ⟨rfl,q1,hq1⟩;have E1:Below W0.heap.size W0 w1:=by rw[hq1];exact bZ E0 q1
    clear hq1))
 go_ret
 exact⟨rfl,aA HW0.out E1⟩
theorem LZ(r s:mC)(base:Nat)(w:World)(h:oS w base s r)(hs:lZ w s)(hn:qY s):
  Calls Tryz.prog 210 #[xP r,xP s] w fun e w'=>e=.returned (.bool true)∧Below w.heap.size w w':=by
 have HR:=aBO (h.ok hs hn)
 have HS:=aBO hs
 have HH:=aBO h
 have HN:=aBO hn
 have HD:=aBO h.sd
 clear hs h hn
 obtain⟨W0,HW0,hR,hS,hW0⟩:=rD w (.cells #[.int .i64 r.d.op,.int .i64 r.d.dst,.int .i64 r.d.a,.int .i64 r.d.b,.int .i64 r.d.imm,.int .i64 r.d.callee,.slice r.aa r.na r.ca,.int .i64 r.d.many] 216) (.cells #[.int .i64 s.d.op,.int .i64 s.d.dst,.int .i64 s.d.a,.int .i64 s.d.b,.int .i64 s.d.imm,.int .i64 s.d.callee,.slice s.aa s.na s.ca,.int .i64 s.d.many] 216)
 have x0:∀w',Below W0.heap.size W0 w'→w'.cell? ⟨w.heap.size,0,none⟩=some (.int .i64 r.d.op):=fun w' hb=>by rw[aBP _ _ _ _ _ _ (aB hb hR)];rfl
 have x1:∀w',Below W0.heap.size W0 w'→w'.cell? ⟨w.heap.size,1,none⟩=some (.int .i64 r.d.dst):=fun w' hb=>by rw[aBP _ _ _ _ _ _ (aB hb hR)];rfl
 have x2:∀w',Below W0.heap.size W0 w'→w'.cell? ⟨w.heap.size,2,none⟩=some (.int .i64 r.d.a):=fun w' hb=>by rw[aBP _ _ _ _ _ _ (aB hb hR)];rfl
 have x3:∀w',Below W0.heap.size W0 w'→w'.cell? ⟨w.heap.size,3,none⟩=some (.int .i64 r.d.b):=fun w' hb=>by rw[aBP _ _ _ _ _ _ (aB hb hR)];rfl
 have x4:∀w',Below W0.heap.size W0 w'→w'.cell? ⟨w.heap.size,4,none⟩=some (.int .i64 r.d.imm):=fun w' hb=>by rw[aBP _ _ _ _ _ _ (aB hb hR)];rfl
 have x5:∀w',Below W0.heap.size W0 w'→w'.cell? ⟨w.heap.size,5,none⟩=some (.int .i64 r.d.callee):=fun w' hb=>by rw[aBP _ _ _ _ _ _ (aB hb hR)];rfl
 have x6:∀w',Below W0.heap.size W0 w'→w'.cell? ⟨w.heap.size,6,none⟩=some (.slice r.aa r.na r.ca):=fun w' hb=>by rw[aBP _ _ _ _ _ _ (aB hb hR)];rfl
 have x7:∀w',Below W0.heap.size W0 w'→w'.cell? ⟨w.heap.size,7,none⟩=some (.int .i64 r.d.many):=fun w' hb=>by rw[aBP _ _ _ _ _ _ (aB hb hR)];rfl
 have y0:∀w',Below W0.heap.size W0 w'→w'.cell? ⟨w.heap.size+1,0,none⟩=some (.int .i64 s.d.op):=fun w' hb=>by rw[aBP _ _ _ _ _ _ (aB hb hS)];rfl
 have y1:∀w',Below W0.heap.size W0 w'→w'.cell? ⟨w.heap.size+1,1,none⟩=some (.int .i64 s.d.dst):=fun w' hb=>by rw[aBP _ _ _ _ _ _ (aB hb hS)];rfl
 have y2:∀w',Below W0.heap.size W0 w'→w'.cell? ⟨w.heap.size+1,2,none⟩=some (.int .i64 s.d.a):=fun w' hb=>by rw[aBP _ _ _ _ _ _ (aB hb hS)];rfl
 have y3:∀w',Below W0.heap.size W0 w'→w'.cell? ⟨w.heap.size+1,3,none⟩=some (.int .i64 s.d.b):=fun w' hb=>by rw[aBP _ _ _ _ _ _ (aB hb hS)];rfl
 have y4:∀w',Below W0.heap.size W0 w'→w'.cell? ⟨w.heap.size+1,4,none⟩=some (.int .i64 s.d.imm):=fun w' hb=>by rw[aBP _ _ _ _ _ _ (aB hb hS)];rfl
 have y5:∀w',Below W0.heap.size W0 w'→w'.cell? ⟨w.heap.size+1,5,none⟩=some (.int .i64 s.d.callee):=fun w' hb=>by rw[aBP _ _ _ _ _ _ (aB hb hS)];rfl
 have y6:∀w',Below W0.heap.size W0 w'→w'.cell? ⟨w.heap.size+1,6,none⟩=some (.slice s.aa s.na s.ca):=fun w' hb=>by rw[aBP _ _ _ _ _ _ (aB hb hS)];rfl
 have y7:∀w',Below W0.heap.size W0 w'→w'.cell? ⟨w.heap.size+1,7,none⟩=some (.int .i64 s.d.many):=fun w' hb=>by rw[aBP _ _ _ _ _ _ (aB hb hS)];rfl
 have E0:Below W0.heap.size W0 W0:=aBQ _ _
 clear hR hS
 go_enter Tryz.func210,Tryz.ntmps210
 go_wp2_with (first
  |(go_at_call 63
    refine(qS base _ s.aa s.na s.ca s.d.args w1 (fA.ext (fA.ext HH.out HW0.out) E1).2 ((HS.out.ext HW0.out).ext E1).1 HN.out).mono ?_;rintro e w2 ⟨rfl,q2,hq2⟩;have E2:Below W0.heap.size W0 w2:=by rw[hq2];exact bZ E1 q2
    clear hq2)
  |(go_at_call 183
    refine(rO r s W0 HD.out (HR.out.ext HW0.out) (HS.out.ext HW0.out) HN.out).mono ?_
    rintro e w1 ⟨rfl,E1⟩))
 go_ret
 exact⟨rfl,aA HW0.out E2⟩
theorem yH(i:Nat)(w:World)(hi:i≤100000):
  Calls Tryz.prog 182 #[.int .i64 1,.int .i64 (i:Int)] w fun e w'=>e=.returned (xP (mV i))∧Below w.heap.size w w':=by
 go_enter Tryz.func182,Tryz.ntmps182
 go_wp2_with (first
  |(go_at_call 112;refine(iS _ _ _ (by omega) (by omega)).mono ?_;rintro e w' ⟨rfl,rfl⟩)
  |(refine eC rfl 216 _ _ rfl w.heap.size #[.int .i64 0,.int .i64 0,.int .i64 0,.int .i64 0,.int .i64 (fI 1 (i:Int)),.int .i64 0,.slice none 0 0,.int .i64 0] rfl rfl 216 _ (aBS w _) (by kernel_rfl) rfl (by simp[Value.oneCell']) w.heap.size w (aD w _) (aBV _) ?_
    intro W3 hb3 X3;have HX:=aBO hb3;have j0:W3.cell? ⟨w.heap.size,0,none⟩=some (.int .i64 0):=by rw[aBP _ _ _ _ _ _ X3];rfl
    have j1:W3.cell? ⟨w.heap.size,1,none⟩=some (.int .i64 0):=by rw[aBP _ _ _ _ _ _ X3];rfl
    have j2:W3.cell? ⟨w.heap.size,2,none⟩=some (.int .i64 0):=by rw[aBP _ _ _ _ _ _ X3];rfl
    have j3:W3.cell? ⟨w.heap.size,3,none⟩=some (.int .i64 0):=by rw[aBP _ _ _ _ _ _ X3];rfl
    have j4:W3.cell? ⟨w.heap.size,4,none⟩=some (.int .i64 (fI 1 (i:Int))):=by rw[aBP _ _ _ _ _ _ X3];rfl
    have j5:W3.cell? ⟨w.heap.size,5,none⟩=some (.int .i64 0):=by rw[aBP _ _ _ _ _ _ X3];rfl
    have j6:W3.cell? ⟨w.heap.size,6,none⟩=some (.slice none 0 0):=by rw[aBP _ _ _ _ _ _ X3];rfl
    have j7:W3.cell? ⟨w.heap.size,7,none⟩=some (.int .i64 0):=by rw[aBP _ _ _ _ _ _ X3];rfl
    clear hb3 X3))
 refine bodyPost_ret (v:=xP (mV i)) (by simp[results,Tryz.results182,go_sem,j0,j1,j2,j3,j4,j5,j6,j7,mV]) rfl ⟨rfl,HX.out⟩
abbrev sL(w:World)(base:Nat)(v:Value)(rs rs':List mC):Prop:=jD yV 8 216 oS mV w base v rs rs'
def MZ(w:World)(rs:List mC)(e:Ending)(w':World):Prop:=∃v rs',e=.returned v∧sL w' w.heap.size v rs rs'∧Below w.heap.size w w'
theorem sL.okS{w:World}{base:Nat}{g n cap:Nat}{rs rs':List mC}{a:Option Addr}(h:sL w base (.slice (some ⟨g,0,none⟩) n cap) rs rs')(hs:uR w a n rs)(hn:n≤1000000)(hna:∀r∈rs,qY r):
  uR w (some ⟨g,0,none⟩) (n+12) (rs'++jC mV)∧uR w (some ⟨g,0,none⟩) n rs'∧rs'.length=n∧n+12≤cap∧cap≤maxLen∧dS oS w base rs rs':=by
 obtain⟨h1,h2,h3,h4,h5,h6⟩:=h.recs AS (by omega) hn
 have ho:∀r∈rs',lZ w r:=fun r hm=>by
  obtain⟨k,hk,e⟩:=List.mem_iff_getElem.1 hm;have hk2:k<rs.length:=by rw[←h6.1];exact hk
  exact(h6.2 k rs[k] r (aBU hk2) (by rw[aBU hk,e])).ok (hs.2 _ (aBZ hk2)) (hna _ (aBZ hk2))
 refine⟨⟨h1,fun r hm=>?_⟩,⟨h.recsN AS (by omega) hn,ho⟩,h3,h4,h5,h6⟩
 rcases aCA.1 hm with hm|hm
 ·exact ho r hm
 ·exact xC (OK:=fun r=>lZ w r) (fun j hj=>JG w j hj) r hm
theorem LS(a:Option Addr)(n c:Nat)(rs:List mC)(w:World)(h:uR w a n rs)(hn:n≤1000000)(hna:∀r∈rs,qY r):
  Calls Tryz.prog 170 #[.slice a n c] w (MZ w rs):=by
 obtain⟨i0,hi,hz0,hz1,hz2⟩:=info_parts (P:=Tryz.prog) AT
 have HL:=aBO h.1.1
 have H:=aBO h
 have HNA:=aBO hna
 clear h hna
 go_enter Tryz.func170,Tryz.ntmps170
 go_wp2_with (first
  |(at_make
    refine wpList_make_own _ rfl _ _ 71 rfl w.heap.size 216 i0 _ 8 Tryz.underlying71 hi hz0 hz1 .i64 .i64 _ (n+12) rfl rfl (by omega) (by rw[hz2];omega) (by simp only[maxLen];omega) (aBV _) ?_;intro w1 hown1 hg1;have HO1:=aBO hown1;have HB1:Hid (Below w.heap.size w w1):=(aBQ _ _).grown hg1 (aBV _) (by simp)
    clear hown1 hg1))
 go_loopw [3,4,5] (fun v i _ wr=>∃(k:Nat) (rs':List mC),k≤n∧i=.int .i64 k∧Hid (wr.ownsRow w.heap.size 216 8 v k (rs'.flatMap yV))∧Hid (dS oS wr w.heap.size (rs.take k) rs')∧Hid (Below w.heap.size w wr)) (fun _ i _ _=>n-(intOf i).toNat)
 case atStart=>exact⟨0,[],by omega,rfl,HO1,dS.nil _ _,HB1⟩
 case round=>
  obtain⟨k,rs',hk,rfl,HO,HLR,HB⟩:=hrel;by_cases hlt:k<n
  ·obtain⟨r,b,o,hr,hok,rfl,y0,y1,y2,y3,y4,y5,y6,y7⟩:=(H.out.ext HB.out).cells hlt;have HG:=aBO hr;have HOK:=aBO hok;have HTK:Hid (rs.take (k+1)=rs.take k++ [r]):=by rw[Hid,List.take_add_one,hr];rfl
   have HNr:=aBO (HNA.out r (aBY hr));clear hr hok
   go_wp2_with (first
    |(go_at_call 209
      refine(LT r wr HOK.out HNr.out).mono ?_;rintro e w1 ⟨r',rfl,hL,hb⟩;have HLr:=aBO hL;have HB1:=aBO hb
      clear hL hb y0 y1 y2 y3 y4 y5 y6 y7)
    |(refine eC rfl 216 _ _ rfl w1.heap.size #[.int .i64 r'.d.op,.int .i64 r'.d.dst,.int .i64 r'.d.a,.int .i64 r'.d.b,.int .i64 r'.d.imm,.int .i64 r'.d.callee,.slice r'.aa r'.na r'.ca,.int .i64 r'.d.many] rfl rfl 216 _ (aBS w1 _) (by kernel_rfl) rfl (by simp[Value.oneCell']) w1.heap.size w1 (aD w1 _) (aBV _) ?_
      intro W3 hb3 X3;have HB3:=aBO (aA HB1.out hb3);have HLr3:=aBO (fA.ext (fA.mono HB.out.size HLr.out) hb3);have i0:W3.cell? ⟨w1.heap.size,0,none⟩=some (.int .i64 r'.d.op):=by rw[aBP _ _ _ _ _ _ X3];rfl
      have i1:W3.cell? ⟨w1.heap.size,1,none⟩=some (.int .i64 r'.d.dst):=by rw[aBP _ _ _ _ _ _ X3];rfl
      have i2:W3.cell? ⟨w1.heap.size,2,none⟩=some (.int .i64 r'.d.a):=by rw[aBP _ _ _ _ _ _ X3];rfl
      have i3:W3.cell? ⟨w1.heap.size,3,none⟩=some (.int .i64 r'.d.b):=by rw[aBP _ _ _ _ _ _ X3];rfl
      have i4:W3.cell? ⟨w1.heap.size,4,none⟩=some (.int .i64 r'.d.imm):=by rw[aBP _ _ _ _ _ _ X3];rfl
      have i5:W3.cell? ⟨w1.heap.size,5,none⟩=some (.int .i64 r'.d.callee):=by rw[aBP _ _ _ _ _ _ X3];rfl
      have i6:W3.cell? ⟨w1.heap.size,6,none⟩=some (.slice r'.aa r'.na r'.ca):=by rw[aBP _ _ _ _ _ _ X3];rfl
      have i7:W3.cell? ⟨w1.heap.size,7,none⟩=some (.int .i64 r'.d.many):=by rw[aBP _ _ _ _ _ _ X3];rfl
      clear hb3 X3)
    |(at_builtin
      go_loud (
       have HO1:=aBO ((aR.ownsRow wr.heap.size _ _ _ _ _ _).ext HO.out HB3.out);refine bV rfl W3 (.tmp 22) (.tmp 24) 71 216 rfl w.heap.size _ 8 80 Tryz.underlying71 AT rfl (by omega) u3 k _ (yV r') rfl HO1.out W3.heap.size rfl rfl rfl (RF r') (by simp only[maxLen];omega) (by omega) (aA HB.out HB3.out).size ?_;intro g cap w4 hown4 hg4 hat4;have HO4:Hid (w4.ownsRow w.heap.size 216 8 (.slice (some ⟨g,0,none⟩) (k+1) cap) (k+1) ((rs'++ [r']).flatMap yV)):=by rw[Hid,List.flatMap_append];simpa using hown4
       have HB4:Hid (Below w.heap.size w w4):=(aA HB.out HB3.out).grown hg4 (aA HB.out HB3.out).size (fun j e=>(HO1.out.lt j e).1);have HL4:Hid (dS oS w4 w.heap.size (rs.take (k+1)) (rs'++ [r'])):=by
        rw[Hid,HTK.out];exact((HLR.out.ext fA HB3.out).snoc HLr3.out).grown fA (by decide) HO1.out hg4
       clear hown4 hg4 hat4 i0 i1 i2 i3 i4 i5 i6 i7)))
   go_roundw
   case rel=>exact⟨k+1,rs'++ [r'],by omega,by go_num,HO4,HL4,HB4⟩
   case measure=>simp[intOf];omega
  ·obtain rfl:k=n:=by omega
   have HLR1:Hid (dS oS wr w.heap.size rs rs'):=by
    have:=HLR.out;rw[aCB (by rw[HL.out];omega)] at this;exact this
   have HO1:Hid (wr.ownsRow w.heap.size 216 8 u3 (k+0) ((rs'++(jC mV).take 0).flatMap yV)):=by rw[Hid];simpa using HO.out
   clear HLR HO;go_wp2
   go_loopw [3,6] (fun v i wr=>∃(j:Nat),j≤12∧i=.int .i64 j∧Hid (wr.ownsRow w.heap.size 216 8 v (k+j) ((rs'++(jC mV).take j).flatMap yV))∧Hid (dS oS wr w.heap.size rs rs')∧Hid (Below w.heap.size w wr)) (fun _ i _=>12-(intOf i).toNat)
   case atStart=>exact⟨0,by omega,rfl,HO1,HLR1,HB⟩
   case round=>
    clear HO1 HLR1 HB;obtain⟨j,hj,rfl,HO,HLR,HB⟩:=hrel;by_cases hlt:j<12
    ·go_wp2_with (first
      |(go_at_call 182;refine(yH j _ (by omega)).mono ?_;rintro e w1 ⟨rfl,hb1⟩;have HB1:=aBO hb1;clear hb1)
      |(at_builtin
        go_loud (
         have HO1:=aBO ((aR.ownsRow wr.heap.size _ _ _ _ _ _).ext HO.out HB1.out);refine bV rfl w1 (.tmp 30) (.tmp 33) 71 216 rfl w.heap.size _ 8 80 Tryz.underlying71 AT rfl (by omega) u3 (k+j) _ (yV (mV j)) rfl HO1.out w1.heap.size rfl rfl rfl (RF _) (by simp only[maxLen];omega) (by omega) (aA HB.out HB1.out).size ?_;intro g cap w4 hown4 hg4 hat4;have HO4:Hid (w4.ownsRow w.heap.size 216 8 (.slice (some ⟨g,0,none⟩) (k+j+1) cap) (k+j+1) ((rs'++(jC mV).take (j+1)).flatMap yV)):=by rw[Hid,uK mV j hlt,←List.append_assoc,List.flatMap_append];simpa using hown4
         have HB4:Hid (Below w.heap.size w w4):=(aA HB.out HB1.out).grown hg4 (aA HB.out HB1.out).size (fun j e=>(HO1.out.lt j e).1);have HL4:Hid (dS oS w4 w.heap.size rs rs'):=(HLR.out.ext fA HB1.out).grown fA (by decide) HO1.out hg4
         clear hown4 hg4 hat4)))
     go_roundw
     case rel=>exact⟨j+1,by omega,by go_num,HO4,HL4,HB4⟩
     case measure=>simp[intOf];omega
    ·obtain rfl:j=12:=by omega
     have hown:=HO.out;have hform:∃g cap,u3=.slice (some ⟨g,0,none⟩) (k+12) cap∧k+12≤cap∧cap≤maxLen:=by
      rcases hown.2 with ⟨_,h0⟩|⟨g',cap',cur,hv,_,_,h1,h2,_⟩
      ·omega
      ·exact⟨_,_,hv,h1,h2⟩
     obtain⟨g,cap,rfl,hc1,hc2⟩:=hform;clear hown;unfold maxLen at hc2;go_wp2
     go_ret
     refine⟨_,rs',rfl,⟨g,cap,by rw[HL.out];rfl,?_,HLR.out⟩,HB.out⟩;have:=HO.out;rw[HL.out];rw[aCB (by rw[pW];omega)] at this;exact this
theorem LD(a b:Option Addr)(n c d:Nat)(rs ss:List mC)(w:World)(hr:uR w a n rs)(hs:uR w b n ss)(h:pE DU rs ss)(hna:∀r∈ss,qY r):
  Calls Tryz.prog 172 #[.slice a n c,.slice b n d] w fun e w'=>e=.returned (.bool true)∧Below w.heap.size w w':=by
 have HR:=aBO hr
 have HS:=aBO hs
 have HH:=aBO h
 have HNA:=aBO hna
 have hn:=hr.1.2.1
 clear hr hs h hna
 have hne:((n:Int) != (n:Int))=false:=by simp
 go_enter Tryz.func172,Tryz.ntmps172
 go_wp2
 go_loopw [5] (fun i wr=>∃(k:Nat),k≤n∧i=.int .i64 k∧Hid (Below w.heap.size w wr)) (fun i _=>n-(intOf i).toNat)
 case atStart=>exact⟨0,by omega,rfl,aBQ _ _⟩
 case round=>
  obtain⟨k,hk,rfl,HB⟩:=hrel;by_cases hlt:k<n
  ·obtain⟨r,b1,o1,hr,hokr,rfl,y0,y1,y2,y3,y4,y5,y6,y7⟩:=(HR.out.ext HB.out).cells hlt;obtain⟨s,b2,o2,hs,hoks,rfl,z0,z1,z2,z3,z4,z5,z6,z7⟩:=(HS.out.ext HB.out).cells hlt;have HD:=aBO (HH.out.2 k r s hr hs);have HNs:=aBO (HNA.out s (aBY hs));have HOr:=aBO hokr;have HOs:=aBO hoks;have hk0:(0:Int)≤(k:Int):=by omega
   have hk1:(k:Int)<(n:Int):=by omega
   have kx0:∀n:aY wr,n.val.cell? ⟨b1,o1+k*8,none⟩=some (.int .i64 r.d.op):=fun n=>aH n.ext y0;have kx1:∀n:aY wr,n.val.cell? ⟨b1,o1+k*8+1,none⟩=some (.int .i64 r.d.dst):=fun n=>aH n.ext y1;have kx2:∀n:aY wr,n.val.cell? ⟨b1,o1+k*8+2,none⟩=some (.int .i64 r.d.a):=fun n=>aH n.ext y2;have kx3:∀n:aY wr,n.val.cell? ⟨b1,o1+k*8+3,none⟩=some (.int .i64 r.d.b):=fun n=>aH n.ext y3;have kx4:∀n:aY wr,n.val.cell? ⟨b1,o1+k*8+4,none⟩=some (.int .i64 r.d.imm):=fun n=>aH n.ext y4;have kx5:∀n:aY wr,n.val.cell? ⟨b1,o1+k*8+5,none⟩=some (.int .i64 r.d.callee):=fun n=>aH n.ext y5;have kx6:∀n:aY wr,n.val.cell? ⟨b1,o1+k*8+6,none⟩=some (.slice r.aa r.na r.ca):=fun n=>aH n.ext y6;have kx7:∀n:aY wr,n.val.cell? ⟨b1,o1+k*8+7,none⟩=some (.int .i64 r.d.many):=fun n=>aH n.ext y7;have ky0:∀n:aY wr,n.val.cell? ⟨b2,o2+k*8,none⟩=some (.int .i64 s.d.op):=fun n=>aH n.ext z0;have ky1:∀n:aY wr,n.val.cell? ⟨b2,o2+k*8+1,none⟩=some (.int .i64 s.d.dst):=fun n=>aH n.ext z1;have ky2:∀n:aY wr,n.val.cell? ⟨b2,o2+k*8+2,none⟩=some (.int .i64 s.d.a):=fun n=>aH n.ext z2;have ky3:∀n:aY wr,n.val.cell? ⟨b2,o2+k*8+3,none⟩=some (.int .i64 s.d.b):=fun n=>aH n.ext z3;have ky4:∀n:aY wr,n.val.cell? ⟨b2,o2+k*8+4,none⟩=some (.int .i64 s.d.imm):=fun n=>aH n.ext z4;have ky5:∀n:aY wr,n.val.cell? ⟨b2,o2+k*8+5,none⟩=some (.int .i64 s.d.callee):=fun n=>aH n.ext z5;have ky6:∀n:aY wr,n.val.cell? ⟨b2,o2+k*8+6,none⟩=some (.slice s.aa s.na s.ca):=fun n=>aH n.ext z6;have ky7:∀n:aY wr,n.val.cell? ⟨b2,o2+k*8+7,none⟩=some (.int .i64 s.d.many):=fun n=>aH n.ext z7;have HNE:Nonempty (aY wr):=⟨⟨wr,aBQ _ _⟩⟩
   clear hr hs hokr hoks y0 y1 y2 y3 y4 y5 y6 y7 z0 z1 z2 z3 z4 z5 z6 z7;go_wp2;refine bB (by kernel_rfl) (by kernel_rfl) ?_
   repeat (first
    |go_big_quiet_skip
    |go_big_quiet_step (first
     |(go_at_call 183;exact cG (rO r s _ HD.out (lZ.ext HOr.out (aY.ext _)) (lZ.ext HOs.out (aY.ext _)) HNs.out))))
   refine wpQuiet_nil ?_;rintro _ ⟨mm,rfl⟩;have HM:=aBO (aA HB.out mm.ext);generalize mm.val=W8 at *;clear kx0 kx1 kx2 kx3 kx4 kx5 kx6 kx7 ky0 ky1 ky2 ky3 ky4 ky5 ky6 ky7;go_wp2
   go_roundw
   case rel=>exact⟨k+1,by omega,by go_num,HM⟩
   case measure=>simp[intOf];omega
  ·go_wp2
   go_ret
   exact⟨rfl,HB.out⟩
theorem LY(base g cap:Nat)(a:Option Addr)(n c:Nat)(rs rs':List mC)(w:World)(h:sL w base (.slice (some ⟨g,0,none⟩) n cap) rs rs')(hs:uR w a n rs)(hn:n≤1000000)(hna:∀r∈rs,qY r):
  Calls Tryz.prog 171 #[.slice (some ⟨g,0,none⟩) n cap,.slice a n c] w fun e w'=>e=.returned (.bool true)∧Below w.heap.size w w':=by
 obtain⟨h1,_,hlen,hc1,hc2,hl⟩:=h.okS hs hn hna
 have HA:=aBO h1
 have HS:=aBO hs
 have HL:=aBO hl
 have HLen:=aBO hlen
 have HNA:=aBO hna
 clear h hs h1 hl hlen hna
 unfold maxLen at hc2
 have hne:((n:Int) != (n:Int))=false:=by simp
 go_enter Tryz.func171,Tryz.ntmps171
 go_wp2
 go_loopw [6] (fun i wr=>∃(k:Nat),k≤n+12∧i=.int .i64 k∧Hid (Below w.heap.size w wr)) (fun i _=>n+12-(intOf i).toNat)
 case atStart=>exact⟨0,by omega,rfl,aBQ _ _⟩
 case round=>
  obtain⟨k,hk,rfl,HB⟩:=hrel;by_cases hlt:k<n+12
  ·obtain⟨r,b1,o1,hr,hokr,hab,y0,y1,y2,y3,y4,y5,y6,y7⟩:=(HA.out.ext HB.out).cells hlt;injection hab with hab;injection hab with hab1 hab2 _;subst hab1;subst hab2;have HOr:=aBO hokr;rw[Nat.zero_add] at y0 y1 y2 y3 y4 y5 y6 y7;have kx0:∀n:aY wr,n.val.cell? ⟨g,k*8,none⟩=some (.int .i64 r.d.op):=fun n=>aH n.ext y0;have kx1:∀n:aY wr,n.val.cell? ⟨g,k*8+1,none⟩=some (.int .i64 r.d.dst):=fun n=>aH n.ext y1;have kx2:∀n:aY wr,n.val.cell? ⟨g,k*8+2,none⟩=some (.int .i64 r.d.a):=fun n=>aH n.ext y2;have kx3:∀n:aY wr,n.val.cell? ⟨g,k*8+3,none⟩=some (.int .i64 r.d.b):=fun n=>aH n.ext y3;have kx4:∀n:aY wr,n.val.cell? ⟨g,k*8+4,none⟩=some (.int .i64 r.d.imm):=fun n=>aH n.ext y4;have kx5:∀n:aY wr,n.val.cell? ⟨g,k*8+5,none⟩=some (.int .i64 r.d.callee):=fun n=>aH n.ext y5;have kx6:∀n:aY wr,n.val.cell? ⟨g,k*8+6,none⟩=some (.slice r.aa r.na r.ca):=fun n=>aH n.ext y6;have kx7:∀n:aY wr,n.val.cell? ⟨g,k*8+7,none⟩=some (.int .i64 r.d.many):=fun n=>aH n.ext y7;have HNE:Nonempty (aY wr):=⟨⟨wr,aBQ _ _⟩⟩
   by_cases hkn:k<n
   ·rw[aCC (by rw[HLen.out];exact hkn)] at hr;obtain⟨s,b2,o2,hs,hoks,rfl,z0,z1,z2,z3,z4,z5,z6,z7⟩:=(HS.out.ext HB.out).cells hkn;have HLk:=aBO (fA.ext (HL.out.2 k s r hs hr) HB.out);have HOs:=aBO hoks;have HNs:=aBO (HNA.out s (aBY hs));have ky0:∀n:aY wr,n.val.cell? ⟨b2,o2+k*8,none⟩=some (.int .i64 s.d.op):=fun n=>aH n.ext z0;have ky1:∀n:aY wr,n.val.cell? ⟨b2,o2+k*8+1,none⟩=some (.int .i64 s.d.dst):=fun n=>aH n.ext z1;have ky2:∀n:aY wr,n.val.cell? ⟨b2,o2+k*8+2,none⟩=some (.int .i64 s.d.a):=fun n=>aH n.ext z2;have ky3:∀n:aY wr,n.val.cell? ⟨b2,o2+k*8+3,none⟩=some (.int .i64 s.d.b):=fun n=>aH n.ext z3;have ky4:∀n:aY wr,n.val.cell? ⟨b2,o2+k*8+4,none⟩=some (.int .i64 s.d.imm):=fun n=>aH n.ext z4;have ky5:∀n:aY wr,n.val.cell? ⟨b2,o2+k*8+5,none⟩=some (.int .i64 s.d.callee):=fun n=>aH n.ext z5;have ky6:∀n:aY wr,n.val.cell? ⟨b2,o2+k*8+6,none⟩=some (.slice s.aa s.na s.ca):=fun n=>aH n.ext z6;have ky7:∀n:aY wr,n.val.cell? ⟨b2,o2+k*8+7,none⟩=some (.int .i64 s.d.many):=fun n=>aH n.ext z7;have hk0:(0:Int)≤(k:Int):=by omega
    have hk1:(k:Int)<(n:Int):=by omega
    have hk2:(k:Int)<(n:Int)+12:=by omega
    have d1:decide ((k:Int)<(n:Int))=true:=by simpa using hkn
    have d2:decide ((n:Int)≤(k:Int))=false:=by simp;omega
    have d3:decide (k<n)=true:=by simpa using hkn
    have d4:decide (n≤k)=false:=by simp;omega
    clear hr hs hoks hokr y0 y1 y2 y3 y4 y5 y6 y7 z0 z1 z2 z3 z4 z5 z6 z7 hkn;go_wp2;refine bB (by kernel_rfl) (by kernel_rfl) ?_
    repeat (go_big_quiet_step (first
     |(go_at_call 210;exact cG (LZ r s base _ (fA.ext HLk.out (aY.ext _)) (lZ.ext HOs.out (aY.ext _)) HNs.out))))
    refine wpQuiet_nil ?_;rintro _ ⟨mm,rfl⟩;have HM:=aBO (aA HB.out mm.ext);generalize mm.val=W8 at *;clear kx0 kx1 kx2 kx3 kx4 kx5 kx6 kx7 ky0 ky1 ky2 ky3 ky4 ky5 ky6 ky7;go_wp2
    go_roundw
    case rel=>exact⟨k+1,by omega,by go_num,HM⟩
    case measure=>simp[intOf];omega
   ·obtain⟨j,rfl⟩:∃j,k=n+j:=⟨k-n,by omega⟩
    have hj:j<12:=by omega
    have hrm:r=mV j:=by
     rw[List.getElem?_append_right (by rw[HLen.out];omega),HLen.out,Nat.add_sub_cancel_left,vN mV j hj] at hr;exact(Option.some.inj hr).symm
    have HRM:=aBO hrm;have d1:decide (n+j<n)=false:=by simp
    have d2:decide (n≤n+j)=true:=by simp
    have d3:decide ((n:Int)+(j:Int)<(n:Int))=false:=by simp;omega
    have d4:decide ((n:Int)≤(n:Int)+(j:Int))=true:=by simp;omega
    have d5:IntKind.i64.wrap ((n:Int)+(j:Int)-(n:Int))=(j:Int):=by rw[IntKind.wrap_i64];omega
    have hk0:(0:Int)≤(n:Int)+(j:Int):=by omega
    have hk2:(n:Int)+(j:Int)<(n:Int)+12:=by omega
    clear hr hrm hokr y0 y1 y2 y3 y4 y5 y6 y7 hkn;go_wp2;refine bB (by kernel_rfl) (by kernel_rfl) ?_
    repeat (go_big_quiet_step (first
     |(go_at_call 182;exact cG (yH j _ (by omega)))
     |(go_at_call 183;exact cG (rO r (mV j) _ (by rw[HRM.out];exact PM _) (lZ.ext HOr.out (aY.ext _)) (JG _ j hj) (WK j)))))
    refine wpQuiet_nil ?_;rintro _ ⟨mm,rfl⟩;have HM:=aBO (aA HB.out mm.ext);generalize mm.val=W8 at *;clear kx0 kx1 kx2 kx3 kx4 kx5 kx6 kx7;go_wp2
    go_roundw
    case rel=>exact⟨n+j+1,by omega,by go_num,HM⟩
    case measure=>simp[intOf];omega
  ·go_wp2
   go_ret
   exact⟨rfl,HB.out⟩
end

section
open Go.RowKit
def cK{α:Type}(e:TypeId)(size:Nat)(cs:α→List Value)(w:World)(base:Nat)(v:Value)(ls:List α):Prop:=w.ownsRow base e size v ls.length (ls.flatMap cs)∧ls.length≤17592186044416
section
variable {α:Type} {e:TypeId} {size:Nat} {cs:α→List Value} {w w':World} {base base':Nat} {v:Value} {ls:List α}
theorem cK.nil(e:TypeId)(size:Nat)(cs:α→List Value)(w:World)(base:Nat):cK e size cs w base (.slice none 0 0) []:=⟨World.ownsRow_nil _ _ _ _,by simp⟩
theorem cK.mono(h:cK e size cs w base v ls)(hb:base'≤base):cK e size cs w base' v ls:=by
 refine⟨⟨h.1.1,?_⟩,h.2⟩
 rcases h.1.2 with h0|⟨g,cap,cur,hv,h1,r⟩
 ·exact .inl h0
 ·exact .inr ⟨g,cap,cur,hv,aCD hb h1,r⟩
theorem cK.kept{row:Option Nat}(h:cK e size cs w base v ls)(hg:w.grownBy w' row)(hne:v.ownBlock=none∨v.ownBlock≠row):cK e size cs w' base v ls:=⟨h.1.kept hg hne,h.2⟩
theorem cK.ext(h:cK e size cs w base v ls)(hb:Below w.heap.size w w'):cK e size cs w' base v ls:=by
 refine⟨h.1.kept (row:=none) ⟨hb.os,hb.tape,hb.output,hb.size,fun k hk _=>hb.block k hk⟩ ?_,h.2⟩
 cases h1:v.ownBlock with
 |none=>exact .inl rfl
 |some k=>exact .inr (by simp)
theorem cK.form(h:cK e size cs w base v ls):∃a c,v=.slice a ls.length c:=by
 rcases h.1.2 with ⟨rfl,h0⟩|⟨g,cap,cur,hv,_⟩
 ·have h0:ls.length=0:=h0;rw[h0];exact⟨none,0,rfl⟩
 ·exact⟨_,_,hv⟩
theorem cK.recs{a:Option Addr}{n c:Nat}(hs:∀x,(cs x).length=size)(h:cK e size cs w base (.slice a n c) ls):kM size cs w a n ls:=by
 obtain⟨a',c',e1,e2,_⟩:=yD hs h.1 h.2
 injection e1 with h1 h2 h3
 subst h1 h2 h3
 exact e2
theorem cK.low{k:Nat}(h:cK e size cs w base v ls)(hk:v.ownBlock=some k):base≤k∧k<w.heap.size:=⟨(h.1.lt k hk).1,(h.1.lt k hk).2⟩
theorem aR.ownR(D base:Nat)(v:Value)(ls:List α):aR D (fun W=>cK e size cs W base v ls):=(aR.ownsRow _ _ _ _ _ _ _).and (aR.pure _ _)
end
section
variable {P:Program}
end
end

section
open Go.RowKit
theorem pK(cs:Array Value)(o:Nat)(v:Value)(w:World)(h:cs[o]? =some v):(part 3 cs o).run Tryz.prog w=.ok v w:=by
 have hu:(underlying 3).run Tryz.prog w=.ok (.int .i64) w:=run_underlying Tryz.underlying3 w
 simp[part,isAgg,hu,h]
theorem TG (w : World) (d : Nat) (xs ys : Array Value) (fs : List Field) (n0 n1 n2 : String) (t0 t1 t2 : TypeId) (o0 o1 o2 : Nat) (hf : fs.map (fun f => (f.name, f.type, f.offset)) = [(n0, t0, o0), (n1, t1, o1), (n2, t2, o2)]) (h0 : n0 ≠ "_") (h1 : n1 ≠ "_") (h2 : n2 ≠ "_")
  (x0 y0 x1 y1 x2 y2:Value) (b0 b1 b2:Bool) (px0:(part t0 xs o0).run Tryz.prog w=.ok x0 w) (py0:(part t0 ys o0).run Tryz.prog w=.ok y0 w) (px1:(part t1 xs o1).run Tryz.prog w=.ok x1 w) (py1:(part t1 ys o1).run Tryz.prog w=.ok y1 w) (px2:(part t2 xs o2).run Tryz.prog w=.ok x2 w) (py2:(part t2 ys o2).run Tryz.prog w=.ok y2 w)
  (e0:(Op.equalIn d t0 x0 y0).run Tryz.prog w=.ok b0 w) (e1:(Op.equalIn d t1 x1 y1).run Tryz.prog w=.ok b1 w) (e2:(Op.equalIn d t2 x2 y2).run Tryz.prog w=.ok b2 w):(Op.eqFields d xs ys fs).run Tryz.prog w=.ok (b0&&(b1&&b2)) w:=by
 match fs,hf with
 | [f,g,h],hf=>
   simp only[List.map_cons,List.map_nil,List.cons.injEq,Prod.mk.injEq,and_true] at hf;obtain⟨⟨rfl,rfl,rfl⟩,⟨rfl,rfl,rfl⟩,⟨rfl,rfl,rfl⟩⟩:=hf;simp only[Op.eqFields,Sem.run_bind,Sem.run_ite,h0,h1,h2,ne_eq,not_false_eq_true,if_true,px0,py0,e0,Result.andThen_ok];cases b0 with
   |false=>simp
   |true=>
    simp only[Sem.run_bind,px1,py1,e1,Result.andThen_ok,Sem.run_ite];cases b1 with
    |false=>simp[h1,h2,px1,py1,e1]
    |true=>cases b2<;>simp[h1,h2,px1,py1,e1,px2,py2,e2]
end

section
open Go.RowKit
theorem EF(cs:Array Value)(o:Nat)(v:Value)(w:World)(h:cs[o]? =some v):(part 67 cs o).run Tryz.prog w=.ok v w:=by
 have hu:(underlying 67).run Tryz.prog w=.ok (.int .i64) w:=run_underlying Tryz.underlying67 w
 simp[part,isAgg,hu,h]
theorem YR:(Tryz.prog.info? 68).map (fun i=>(i.zero,i.size,i.bytes))=some (some (.agg #[.int .i64 0,.int .i64 0]),2,16):=by kernel_rfl
theorem QB(cs:Array Value)(o:Nat)(u v:Value)(w:World)(h:cs.extract o (o+2)= #[u,v]):(part 68 cs o).run Tryz.prog w=.ok (.agg #[u,v]) w:=by
 have hu:(underlying 68).run Tryz.prog w=.ok _ w:=run_underlying Tryz.underlying68 w
 obtain⟨i,hi,-,hs,-⟩:=info_parts YR
 have hz:(sizeOf 68).run Tryz.prog w=.ok 2 w:=by simp[sizeOf,typeInfo,hi,hs]
 simp[part,isAgg,hu,hz,h]
theorem EX(w:World)(d:Nat)(x0 x1 y0 y1:Int):(Op.equalIn (d+2) 68 (.agg #[.int .i64 x0,.int .i64 x1]) (.agg #[.int .i64 y0,.int .i64 y1])).run Tryz.prog w=.ok (x0==y0&&x1==y1) w:=by
 obtain⟨i,hi,-,-,-⟩:=info_parts sV
 have h1:Tryz.prog.cellsOf 3=1:=by kernel_rfl
 have e0:=run_equalIn_int w d 3 .i64 .i64 x0 y0 Tryz.underlying3
 have e1:=run_equalIn_int w d 3 .i64 .i64 x1 y1 Tryz.underlying3
 rw[run_equalIn_array w (d+1) _ _ Tryz.underlying68 hi,h1]
 simp only[List.range,List.range.loop,Op.eqItems,Sem.run_bind,Nat.zero_mul,Nat.one_mul]
 rw[pK _ 0 (.int .i64 x0) w rfl]
 simp only[Result.andThen_ok]
 rw[pK _ 0 (.int .i64 y0) w rfl]
 simp only[Result.andThen_ok]
 rw[e0]
 simp only[Result.andThen_ok]
 cases hq:(x0==y0) with
 |false=>simp
 |true=>
  simp only[Bool.not_true,Bool.false_eq_true,if_false,Sem.run_bind];rw[pK _ 1 (.int .i64 x1) w rfl];simp only[Result.andThen_ok];rw[pK _ 1 (.int .i64 y1) w rfl];simp only[Result.andThen_ok];rw[e1];simp only[Result.andThen_ok];cases hq:(x1==y1)<;>simp
theorem MG : (Tryz.prog.fieldsOf 70).toList.map (fun f => (f.name, f.type, f.offset)) = [("Kind", 67, 0), ("A", 3, 1), ("To", 68, 2)] := by kernel_rfl
theorem NM:Tryz.prog.underlying 70=some (.struct (Tryz.prog.fieldsOf 70)):=by kernel_rfl
theorem NR:Tryz.prog.stoodInHeld 70=false:=by kernel_rfl
theorem XF(w:World)(x0 x1 x2 x3:Int):(binOp .eql 70 (.agg #[.int .i64 x0,.int .i64 x1,.int .i64 x2,.int .i64 x3]) (.agg #[.int .i64 x0,.int .i64 x1,.int .i64 x2,.int .i64 x3])).run Tryz.prog w=.ok (.bool true) w:=by
 rw[run_eql_struct,run_equalIn_struct w 9999 _ _ _ NM NR]
 rw[TG w 9999 _ _ _ _ _ _ _ _ _ _ _ _ MG (by decide) (by decide) (by decide) (.int .i64 x0) (.int .i64 x0) (.int .i64 x1) (.int .i64 x1) (.agg #[.int .i64 x2,.int .i64 x3]) (.agg #[.int .i64 x2,.int .i64 x3]) _ _ _ (EF _ _ _ w rfl) (EF _ _ _ w rfl) (pK _ _ _ w rfl) (pK _ _ _ w rfl) (QB _ _ _ _ w rfl) (QB _ _ _ _ w rfl) (run_equalIn_int w 9998 _ .i64 .i64 _ _ Tryz.underlying67) (run_equalIn_int w 9998 _ .i64 .i64 _ _ Tryz.underlying3) (EX w 9997 _ _ _ _)]
 simp
def tD(b:iQ):Prop:=b.h.n≤1000000∧∀r∈b.rs,qY r
def AA(r s:iQ):Prop:=r.h.t=s.h.t∧r.h.n=s.h.n∧pE DU r.rs s.rs
theorem PN(r:iQ):AA r r:=⟨rfl,rfl,rfl,fun k x y h1 h2=>by rw[h1] at h2;cases h2;rfl⟩
abbrev xQ(b:iQ):Value:=aBM b.h
theorem uM:(Tryz.prog.info? 73).map (fun i=>(i.zero,i.size,i.bytes))=some (some (.agg #[.slice none 0 0,.int .i64 0,.int .i64 0,.int .i64 0,.int .i64 0]),5,56):=by kernel_rfl
theorem FG(r:iQ):∀u∈qX r,u.oneCell'=true:=by
 intro u hu
 simp only[qX,iZ,List.mem_cons,List.not_mem_nil,or_false] at hu
 rcases hu with rfl|rfl|rfl|rfl|rfl<;>rfl
def oT(w:World)(base:Nat)(r r':iQ):Prop:=r'.h.t=r.h.t∧r'.h.n=r.h.n∧sL w base (.slice r'.h.ia r'.h.n r'.h.c) r.rs r'.rs
theorem oT.sd{w:World}{base:Nat}{r r':iQ}(h:oT w base r r'):AA r' r:=by
 obtain⟨h1,h2,_,_,_,_,h3⟩:=h
 exact⟨h1,h2,h3.same fun _ _ h=>h.sd⟩
theorem fB:kR [216,3] oT where
 chg:=fun h hc hn=>⟨h.1,h.2.1,h.2.2.chg fA hc hn⟩
 mono:=fun hb h=>⟨h.1,h.2.1,h.2.2.mono fA hb⟩
 grown:=fun he h ho hg=>⟨h.1,h.2.1,h.2.2.grown fA he ho hg⟩
theorem oT.ok{w:World}{base:Nat}{r r':iQ}(h:oT w base r r')(hr:iU w r)(hna:tD r):iU w r':=by
 obtain⟨⟨ia,n,c,t⟩,rs⟩:=r'
 obtain⟨h1,h2,h3⟩:=h
 obtain⟨g,cap,e⟩:=h3.form
 injection e with e1 e2 e3
 obtain rfl:ia=some ⟨g,0,none⟩:=e1
 obtain rfl:n=r.h.n:=h2
 obtain rfl:t=r.h.t:=h1
 exact⟨hr.1,(h3.okS hr.2 hna.1 hna.2).2.1⟩
def lG(i:Nat):iQ:=⟨⟨none,0,0,⟨0,fI 1 (i:Int),0,0⟩⟩,[]⟩
theorem JH(w:World)(k:Nat)(hk:k<12):iU w (lG k):=by
 have hm:I64 (fI 1 (k:Int)):=by unfold I64 fI;omega
 have z:I64 0:=by unfold I64;omega
 exact⟨⟨z,hm,z,z⟩,⟨rfl,Nat.zero_le _,fun j r h=>by simp[lG] at h⟩,fun r hr=>by simp[lG] at hr⟩
theorem WL(k:Nat):tD (lG k):=⟨by simp[lG],fun r hr=>by simp[lG] at hr⟩
theorem DF(r:iQ)(w:World)(h:iU w r)(hn:tD r):
  Calls Tryz.prog 113 #[xQ r] w fun e w'=>∃r',e=.returned (xQ r')∧oT w' w.heap.size r r'∧Below w.heap.size w w':=by
 have H:=aBO h
 have HN:=aBO hn
 clear h hn
 go_enter Tryz.func113,Tryz.ntmps113
 go_wp2_with (first
  |(go_at_call 170
    refine(LS r.h.ia r.h.n r.h.c r.rs _ (H.out.2.ext (aA (aD _ _) (aD _ _))) HN.out.1 HN.out.2).mono ?_;rintro e w1 ⟨v,rs0,rfl,hL,hb⟩;obtain⟨g0,cap0,rfl⟩:=hL.form;obtain⟨x1,x2,x3⟩:=UF w (.cells #[.slice r.h.ia r.h.n r.h.c,.int .i64 r.h.t.kind,.int .i64 r.h.t.a,.int .i64 r.h.t.t0,.int .i64 r.h.t.t1] 73) (.cells #[.slice none 0 0,.int .i64 0,.int .i64 0,.int .i64 0,.int .i64 0] 73) w1 hb;have y6:w1.cell? ⟨w.heap.size,0,none⟩=some (.slice r.h.ia r.h.n r.h.c):=by rw[aBP _ _ _ _ _ _ x1];rfl
    have z6:w1.frozen? ⟨w.heap.size,0,none⟩=false:=frozen_of_row _ _ _ _ _ x1;obtain⟨W1,hW2⟩:∃W,w1.setCell ⟨w.heap.size,0,none⟩ (.slice (some ⟨g0,0,none⟩) r.rs.length cap0)=W:=⟨_,rfl⟩
    have c2:Chg (fun k=>k=w.heap.size) w1 W1:=by rw[←hW2];exact gX _ _ _ _
    have HL1_0:=aBO (hL.chg fA c2 (fun k hk=>by simp;omega));have X1:W1.heap[w.heap.size]? =some (.cells #[.slice (some ⟨g0,0,none⟩) r.rs.length cap0,.int .i64 r.h.t.kind,.int .i64 r.h.t.a,.int .i64 r.h.t.t0,.int .i64 r.h.t.t1] 73 (0,0)):=by rw[←hW2,heap_setCell_same _ _ 0 _ _ _ x1];rfl
    have HK1:=aBO X1;have HZ1:=aBO (c2.row x2 (by omega));have HX1:=aBO (x3.trans (c2.below (B:=w.heap.size) x3.size (fun k hk=>by omega)));have i1_0:W1.cell? ⟨w.heap.size,0,none⟩=some (.slice (some ⟨g0,0,none⟩) r.rs.length cap0):=by rw[aBP _ _ _ _ _ _ X1];rfl
    have i1_1:W1.cell? ⟨w.heap.size,1,none⟩=some (.int .i64 r.h.t.kind):=by rw[aBP _ _ _ _ _ _ X1];rfl
    have i1_2:W1.cell? ⟨w.heap.size,2,none⟩=some (.int .i64 r.h.t.a):=by rw[aBP _ _ _ _ _ _ X1];rfl
    have i1_3:W1.cell? ⟨w.heap.size,3,none⟩=some (.int .i64 r.h.t.t0):=by rw[aBP _ _ _ _ _ _ X1];rfl
    have i1_4:W1.cell? ⟨w.heap.size,4,none⟩=some (.int .i64 r.h.t.t1):=by rw[aBP _ _ _ _ _ _ X1];rfl
    clear hL x1 x2 x3 hb c2 X1)
  |(refine iW rfl 73 _ _ rfl (w.heap.size+1) #[.slice (some ⟨g0,0,none⟩) r.rs.length cap0,.int .i64 r.h.t.kind,.int .i64 r.h.t.a,.int .i64 r.h.t.t0,.int .i64 r.h.t.t1] rfl rfl 73 _ HZ1.out (by kernel_rfl) rfl (by simp[Value.oneCell']) ?_
    intro W9 c3 X3;have HL9_0:=aBO (HL1_0.out.chg fA c3 (fun k hk=>by simp;omega));have HX9:=aBO (HX1.out.trans (c3.below (B:=w.heap.size) HX1.out.size (fun k hk=>by omega)));have j0:W9.cell? ⟨w.heap.size+1,0,none⟩=some (.slice (some ⟨g0,0,none⟩) r.rs.length cap0):=by rw[aBP _ _ _ _ _ _ X3];rfl
    have j1:W9.cell? ⟨w.heap.size+1,1,none⟩=some (.int .i64 r.h.t.kind):=by rw[aBP _ _ _ _ _ _ X3];rfl
    have j2:W9.cell? ⟨w.heap.size+1,2,none⟩=some (.int .i64 r.h.t.a):=by rw[aBP _ _ _ _ _ _ X3];rfl
    have j3:W9.cell? ⟨w.heap.size+1,3,none⟩=some (.int .i64 r.h.t.t0):=by rw[aBP _ _ _ _ _ _ X3];rfl
    have j4:W9.cell? ⟨w.heap.size+1,4,none⟩=some (.int .i64 r.h.t.t1):=by rw[aBP _ _ _ _ _ _ X3];rfl
    clear c3 X3))
 refine bodyPost_ret (v:=.agg #[.slice (some ⟨g0,0,none⟩) r.rs.length cap0,.int .i64 r.h.t.kind,.int .i64 r.h.t.a,.int .i64 r.h.t.t0,.int .i64 r.h.t.t1]) (by simp[results,Tryz.results113,go_sem,j0,j1,j2,j3,j4]) rfl ⟨⟨⟨some ⟨g0,0,none⟩,r.rs.length,cap0,r.h.t⟩,rs0⟩,rfl,?_,HX9.out⟩
 exact⟨rfl,H.out.2.1.1,HL9_0.out.mono fA (by simp;omega)⟩
theorem pG(r s:iQ)(w:World)(hd:AA r s)(hr:iU w r)(hs:iU w s)(hna:tD s):
  Calls Tryz.prog 120 #[xQ r,xQ s] w fun e w'=>e=.returned (.bool true)∧Below w.heap.size w w':=by
 obtain⟨⟨ria,rn,rc,rt⟩,rrs⟩:=r
 obtain⟨h1,h2,h3⟩:=hd
 obtain rfl:rt=s.h.t:=h1
 obtain rfl:rn=s.h.n:=h2
 have HR:=aBO hr
 have HS:=aBO hs
 have HSD:Hid (pE DU rrs s.rs):=h3
 have HNA:=aBO hna.2
 clear hr hs hna h3
 obtain⟨W0,HW0,hR,hS,hW0⟩:=rD w (.cells #[.slice ria s.h.n rc,.int .i64 s.h.t.kind,.int .i64 s.h.t.a,.int .i64 s.h.t.t0,.int .i64 s.h.t.t1] 73) (.cells #[.slice s.h.ia s.h.n s.h.c,.int .i64 s.h.t.kind,.int .i64 s.h.t.a,.int .i64 s.h.t.t0,.int .i64 s.h.t.t1] 73)
 have x0:∀w',Below W0.heap.size W0 w'→w'.cell? ⟨w.heap.size,0,none⟩=some (.slice ria s.h.n rc):=fun w' hb=>by rw[aBP _ _ _ _ _ _ (aB hb hR)];rfl
 have x1:∀w',Below W0.heap.size W0 w'→w'.cell? ⟨w.heap.size,1,none⟩=some (.int .i64 s.h.t.kind):=fun w' hb=>by rw[aBP _ _ _ _ _ _ (aB hb hR)];rfl
 have x2:∀w',Below W0.heap.size W0 w'→w'.cell? ⟨w.heap.size,2,none⟩=some (.int .i64 s.h.t.a):=fun w' hb=>by rw[aBP _ _ _ _ _ _ (aB hb hR)];rfl
 have x3:∀w',Below W0.heap.size W0 w'→w'.cell? ⟨w.heap.size,3,none⟩=some (.int .i64 s.h.t.t0):=fun w' hb=>by rw[aBP _ _ _ _ _ _ (aB hb hR)];rfl
 have x4:∀w',Below W0.heap.size W0 w'→w'.cell? ⟨w.heap.size,4,none⟩=some (.int .i64 s.h.t.t1):=fun w' hb=>by rw[aBP _ _ _ _ _ _ (aB hb hR)];rfl
 have y0:∀w',Below W0.heap.size W0 w'→w'.cell? ⟨w.heap.size+1,0,none⟩=some (.slice s.h.ia s.h.n s.h.c):=fun w' hb=>by rw[aBP _ _ _ _ _ _ (aB hb hS)];rfl
 have y1:∀w',Below W0.heap.size W0 w'→w'.cell? ⟨w.heap.size+1,1,none⟩=some (.int .i64 s.h.t.kind):=fun w' hb=>by rw[aBP _ _ _ _ _ _ (aB hb hS)];rfl
 have y2:∀w',Below W0.heap.size W0 w'→w'.cell? ⟨w.heap.size+1,2,none⟩=some (.int .i64 s.h.t.a):=fun w' hb=>by rw[aBP _ _ _ _ _ _ (aB hb hS)];rfl
 have y3:∀w',Below W0.heap.size W0 w'→w'.cell? ⟨w.heap.size+1,3,none⟩=some (.int .i64 s.h.t.t0):=fun w' hb=>by rw[aBP _ _ _ _ _ _ (aB hb hS)];rfl
 have y4:∀w',Below W0.heap.size W0 w'→w'.cell? ⟨w.heap.size+1,4,none⟩=some (.int .i64 s.h.t.t1):=fun w' hb=>by rw[aBP _ _ _ _ _ _ (aB hb hS)];rfl
 have E0:Below W0.heap.size W0 W0:=aBQ _ _
 have hq:=XF
 clear hR hS
 go_enter Tryz.func120,Tryz.ntmps120
 go_wp2_with (first
  |(go_at_call 172
    refine(LD ria s.h.ia s.h.n rc s.h.c rrs s.rs W0 ((HR.out.2.ext HW0.out).ext E0) ((HS.out.2.ext HW0.out).ext E0) HSD.out HNA.out).mono ?_;rintro e w1 ⟨rfl,hb1⟩
    have E1:Below W0.heap.size W0 w1:=aA E0 hb1))
 go_ret
 exact⟨rfl,aA HW0.out E1⟩
theorem DI(r s:iQ)(base:Nat)(w:World)(h:oT w base s r)(hs:iU w s)(hn:tD s):
  Calls Tryz.prog 119 #[xQ r,xQ s] w fun e w'=>e=.returned (.bool true)∧Below w.heap.size w w':=by
 obtain⟨⟨ria,rn,rc,rt⟩,rrs⟩:=r
 obtain⟨g,cap,e⟩:=h.2.2.form
 injection e with e1 e2 e3
 obtain rfl:ria=some ⟨g,0,none⟩:=e1
 obtain rfl:rc=cap:=e3
 obtain rfl:rn=s.h.n:=h.2.1
 clear e2
 have HR:=aBO (h.ok hs hn)
 have HS:=aBO hs
 have HH:=aBO h
 have HN:=aBO hn
 have HD:=aBO h.sd
 clear hs h hn
 obtain⟨W0,HW0,hR,hS,hW0⟩:=rD w (.cells #[.slice (some ⟨g,0,none⟩) s.h.n rc,.int .i64 rt.kind,.int .i64 rt.a,.int .i64 rt.t0,.int .i64 rt.t1] 73) (.cells #[.slice s.h.ia s.h.n s.h.c,.int .i64 s.h.t.kind,.int .i64 s.h.t.a,.int .i64 s.h.t.t0,.int .i64 s.h.t.t1] 73)
 have x0:∀w',Below W0.heap.size W0 w'→w'.cell? ⟨w.heap.size,0,none⟩=some (.slice (some ⟨g,0,none⟩) s.h.n rc):=fun w' hb=>by rw[aBP _ _ _ _ _ _ (aB hb hR)];rfl
 have x1:∀w',Below W0.heap.size W0 w'→w'.cell? ⟨w.heap.size,1,none⟩=some (.int .i64 rt.kind):=fun w' hb=>by rw[aBP _ _ _ _ _ _ (aB hb hR)];rfl
 have x2:∀w',Below W0.heap.size W0 w'→w'.cell? ⟨w.heap.size,2,none⟩=some (.int .i64 rt.a):=fun w' hb=>by rw[aBP _ _ _ _ _ _ (aB hb hR)];rfl
 have x3:∀w',Below W0.heap.size W0 w'→w'.cell? ⟨w.heap.size,3,none⟩=some (.int .i64 rt.t0):=fun w' hb=>by rw[aBP _ _ _ _ _ _ (aB hb hR)];rfl
 have x4:∀w',Below W0.heap.size W0 w'→w'.cell? ⟨w.heap.size,4,none⟩=some (.int .i64 rt.t1):=fun w' hb=>by rw[aBP _ _ _ _ _ _ (aB hb hR)];rfl
 have y0:∀w',Below W0.heap.size W0 w'→w'.cell? ⟨w.heap.size+1,0,none⟩=some (.slice s.h.ia s.h.n s.h.c):=fun w' hb=>by rw[aBP _ _ _ _ _ _ (aB hb hS)];rfl
 have y1:∀w',Below W0.heap.size W0 w'→w'.cell? ⟨w.heap.size+1,1,none⟩=some (.int .i64 s.h.t.kind):=fun w' hb=>by rw[aBP _ _ _ _ _ _ (aB hb hS)];rfl
 have y2:∀w',Below W0.heap.size W0 w'→w'.cell? ⟨w.heap.size+1,2,none⟩=some (.int .i64 s.h.t.a):=fun w' hb=>by rw[aBP _ _ _ _ _ _ (aB hb hS)];rfl
 have y3:∀w',Below W0.heap.size W0 w'→w'.cell? ⟨w.heap.size+1,3,none⟩=some (.int .i64 s.h.t.t0):=fun w' hb=>by rw[aBP _ _ _ _ _ _ (aB hb hS)];rfl
 have y4:∀w',Below W0.heap.size W0 w'→w'.cell? ⟨w.heap.size+1,4,none⟩=some (.int .i64 s.h.t.t1):=fun w' hb=>by rw[aBP _ _ _ _ _ _ (aB hb hS)];rfl
 have E0:Below W0.heap.size W0 W0:=aBQ _ _
 clear hR hS
 go_enter Tryz.func119,Tryz.ntmps119
 go_wp2_with (first
  |(go_at_call 171
    refine(LY base _ _ s.h.ia s.h.n s.h.c s.rs rrs w1 (fB.ext (fB.ext HH.out HW0.out) E1).2.2 ((HS.out.ext HW0.out).ext E1).2 HN.out.1 HN.out.2).mono ?_;rintro e w2 ⟨rfl,hb2⟩
    have E2:Below W0.heap.size W0 w2:=aA E1 hb2)
  |(go_at_call 120
    refine(pG ⟨⟨some ⟨g,0,none⟩,s.h.n,rc,rt⟩,rrs⟩ s W0 HD.out (HR.out.ext HW0.out) (HS.out.ext HW0.out) HN.out).mono ?_
    rintro e w1 ⟨rfl,E1⟩))
 go_ret
 exact⟨rfl,aA HW0.out E2⟩
theorem tI(i:Nat)(w:World)(hi:i≤100000):
  Calls Tryz.prog 114 #[.int .i64 1,.int .i64 (i:Int)] w fun e w'=>e=.returned (xQ (lG i))∧Below w.heap.size w w':=by
 go_enter Tryz.func114,Tryz.ntmps114
 go_wp2_with (first
  |(go_at_call 112;refine(iS _ _ _ (by omega) (by omega)).mono ?_;rintro e w' ⟨rfl,rfl⟩)
  |(refine eC rfl 73 _ _ rfl w.heap.size #[.slice none 0 0,.int .i64 0,.int .i64 (fI 1 (i:Int)),.int .i64 0,.int .i64 0] rfl rfl 73 _ (aBS w _) (by kernel_rfl) rfl (by simp[Value.oneCell']) w.heap.size w (aD w _) (aBV _) ?_
    intro W3 hb3 X3;have HX:=aBO hb3;have j0:W3.cell? ⟨w.heap.size,0,none⟩=some (.slice none 0 0):=by rw[aBP _ _ _ _ _ _ X3];rfl
    have j1:W3.cell? ⟨w.heap.size,1,none⟩=some (.int .i64 0):=by rw[aBP _ _ _ _ _ _ X3];rfl
    have j2:W3.cell? ⟨w.heap.size,2,none⟩=some (.int .i64 (fI 1 (i:Int))):=by rw[aBP _ _ _ _ _ _ X3];rfl
    have j3:W3.cell? ⟨w.heap.size,3,none⟩=some (.int .i64 0):=by rw[aBP _ _ _ _ _ _ X3];rfl
    have j4:W3.cell? ⟨w.heap.size,4,none⟩=some (.int .i64 0):=by rw[aBP _ _ _ _ _ _ X3];rfl
    clear hb3 X3))
 refine bodyPost_ret (v:=xQ (lG i)) (by simp[results,Tryz.results114,go_sem,j0,j1,j2,j3,j4,lG]) rfl ⟨rfl,HX.out⟩
theorem mA.cells{w:World}{a:Option Addr}{n:Nat}{rs:List iQ}(h:mA w a n rs){k:Nat}(hk:k<n):∃r b o,rs[k]? =some r∧iU w r∧a=some ⟨b,o,none⟩∧w.cell? ⟨b,o+k*5,none⟩=some (.slice r.h.ia r.h.n r.h.c)∧w.cell? ⟨b,o+k*5+1,none⟩=some (.int .i64 r.h.t.kind)∧w.cell? ⟨b,o+k*5+2,none⟩=some (.int .i64 r.h.t.a)∧w.cell? ⟨b,o+k*5+3,none⟩=some (.int .i64 r.h.t.t0)∧w.cell? ⟨b,o+k*5+4,none⟩=some (.int .i64 r.h.t.t1):=by
 have hk':k<rs.length:=by rw[h.1.1];exact hk
 obtain⟨b,o,e,hc⟩:=h.1.2.2 k rs[k] (aBU hk')
 exact⟨rs[k],b,o,aBU hk',h.2 _ (aBZ hk'),e,hc 0 (by omega),hc 1 (by omega),hc 2 (by omega),hc 3 (by omega),hc 4 (by omega)⟩
abbrev oM(w:World)(base:Nat)(v:Value)(rs rs':List iQ):Prop:=jD qX 5 73 oT lG w base v rs rs'
def CT(w:World)(rs:List iQ)(e:Ending)(w':World):Prop:=∃v rs',e=.returned v∧oM w' w.heap.size v rs rs'∧Below w.heap.size w w'
theorem oM.okS{w:World}{base:Nat}{g n cap:Nat}{rs rs':List iQ}{a:Option Addr}(h:oM w base (.slice (some ⟨g,0,none⟩) n cap) rs rs')(hs:mA w a n rs)(hn:n≤1000000)(hna:∀r∈rs,tD r):
  mA w (some ⟨g,0,none⟩) (n+12) (rs'++jC lG)∧mA w (some ⟨g,0,none⟩) n rs'∧rs'.length=n∧n+12≤cap∧cap≤maxLen∧dS oT w base rs rs':=by
 obtain⟨h1,h2,h3,h4,h5,h6⟩:=h.recs xM (by omega) hn
 have ho:∀r∈rs',iU w r:=fun r hm=>by
  obtain⟨k,hk,e⟩:=List.mem_iff_getElem.1 hm;have hk2:k<rs.length:=by rw[←h6.1];exact hk
  exact(h6.2 k rs[k] r (aBU hk2) (by rw[aBU hk,e])).ok (hs.2 _ (aBZ hk2)) (hna _ (aBZ hk2))
 refine⟨⟨h1,fun r hm=>?_⟩,⟨h.recsN xM (by omega) hn,ho⟩,h3,h4,h5,h6⟩
 rcases aCA.1 hm with hm|hm
 ·exact ho r hm
 ·exact xC (OK:=fun r=>iU w r) (fun j hj=>JH w j hj) r hm
theorem CO(a:Option Addr)(n c:Nat)(rs:List iQ)(w:World)(h:mA w a n rs)(hn:n≤1000000)(hna:∀r∈rs,tD r):
  Calls Tryz.prog 53 #[.slice a n c] w (CT w rs):=by
 obtain⟨i0,hi,hz0,hz1,hz2⟩:=info_parts (P:=Tryz.prog) uM
 have HL:=aBO h.1.1
 have H:=aBO h
 have HNA:=aBO hna
 clear h hna
 go_enter Tryz.func53,Tryz.ntmps53
 go_wp2_with (first
  |(at_make
    refine wpList_make_own _ rfl _ _ 23 rfl w.heap.size 73 i0 _ 5 Tryz.underlying23 hi hz0 hz1 .i64 .i64 _ (n+12) rfl rfl (by omega) (by rw[hz2];omega) (by simp only[maxLen];omega) (aBV _) ?_;intro w1 hown1 hg1;have HO1:=aBO hown1;have HB1:Hid (Below w.heap.size w w1):=(aBQ _ _).grown hg1 (aBV _) (by simp)
    clear hown1 hg1))
 go_loopw [3,4,5] (fun v i _ wr=>∃(k:Nat) (rs':List iQ),k≤n∧i=.int .i64 k∧Hid (wr.ownsRow w.heap.size 73 5 v k (rs'.flatMap qX))∧Hid (dS oT wr w.heap.size (rs.take k) rs')∧Hid (Below w.heap.size w wr)) (fun _ i _ _=>n-(intOf i).toNat)
 case atStart=>exact⟨0,[],by omega,rfl,HO1,dS.nil _ _,HB1⟩
 case round=>
  obtain⟨k,rs',hk,rfl,HO,HLR,HB⟩:=hrel;by_cases hlt:k<n
  ·obtain⟨r,b,o,hr,hok,rfl,y0,y1,y2,y3,y4⟩:=(H.out.ext HB.out).cells hlt;have HG:=aBO hr;have HOK:=aBO hok;have HTK:Hid (rs.take (k+1)=rs.take k++ [r]):=by rw[Hid,List.take_add_one,hr];rfl
   have HNr:=aBO (HNA.out r (aBY hr));clear hr hok
   go_wp2_with (first
    |(go_at_call 113
      refine(DF r wr HOK.out HNr.out).mono ?_;rintro e w1 ⟨r',rfl,hL,hb⟩;have HLr:=aBO hL;have HB1:=aBO hb
      clear hL hb y0 y1 y2 y3 y4)
    |(refine eC rfl 73 _ _ rfl w1.heap.size #[.slice r'.h.ia r'.h.n r'.h.c,.int .i64 r'.h.t.kind,.int .i64 r'.h.t.a,.int .i64 r'.h.t.t0,.int .i64 r'.h.t.t1] rfl rfl 73 _ (aBS w1 _) (by kernel_rfl) rfl (by simp[Value.oneCell']) w1.heap.size w1 (aD w1 _) (aBV _) ?_
      intro W3 hb3 X3;have HB3:=aBO (aA HB1.out hb3);have HLr3:=aBO (fB.ext (fB.mono HB.out.size HLr.out) hb3);have i0:W3.cell? ⟨w1.heap.size,0,none⟩=some (.slice r'.h.ia r'.h.n r'.h.c):=by rw[aBP _ _ _ _ _ _ X3];rfl
      have i1:W3.cell? ⟨w1.heap.size,1,none⟩=some (.int .i64 r'.h.t.kind):=by rw[aBP _ _ _ _ _ _ X3];rfl
      have i2:W3.cell? ⟨w1.heap.size,2,none⟩=some (.int .i64 r'.h.t.a):=by rw[aBP _ _ _ _ _ _ X3];rfl
      have i3:W3.cell? ⟨w1.heap.size,3,none⟩=some (.int .i64 r'.h.t.t0):=by rw[aBP _ _ _ _ _ _ X3];rfl
      have i4:W3.cell? ⟨w1.heap.size,4,none⟩=some (.int .i64 r'.h.t.t1):=by rw[aBP _ _ _ _ _ _ X3];rfl
      clear hb3 X3)
    |(at_builtin
      go_loud (
       have HO1:=aBO ((aR.ownsRow wr.heap.size _ _ _ _ _ _).ext HO.out HB3.out);refine bV rfl W3 (.tmp 22) (.tmp 24) 23 73 rfl w.heap.size _ 5 56 Tryz.underlying23 uM rfl (by omega) u3 k _ (qX r') rfl HO1.out W3.heap.size rfl rfl rfl (FG r') (by simp only[maxLen];omega) (by omega) (aA HB.out HB3.out).size ?_;intro g cap w4 hown4 hg4 hat4;have HO4:Hid (w4.ownsRow w.heap.size 73 5 (.slice (some ⟨g,0,none⟩) (k+1) cap) (k+1) ((rs'++ [r']).flatMap qX)):=by rw[Hid,List.flatMap_append];simpa using hown4
       have HB4:Hid (Below w.heap.size w w4):=(aA HB.out HB3.out).grown hg4 (aA HB.out HB3.out).size (fun j e=>(HO1.out.lt j e).1);have HL4:Hid (dS oT w4 w.heap.size (rs.take (k+1)) (rs'++ [r'])):=by
        rw[Hid,HTK.out];exact((HLR.out.ext fB HB3.out).snoc HLr3.out).grown fB (by decide) HO1.out hg4
       clear hown4 hg4 hat4 i0 i1 i2 i3 i4)))
   go_roundw
   case rel=>exact⟨k+1,rs'++ [r'],by omega,by go_num,HO4,HL4,HB4⟩
   case measure=>simp[intOf];omega
  ·obtain rfl:k=n:=by omega
   have HLR1:Hid (dS oT wr w.heap.size rs rs'):=by
    have:=HLR.out;rw[aCB (by rw[HL.out];omega)] at this;exact this
   have HO1:Hid (wr.ownsRow w.heap.size 73 5 u3 (k+0) ((rs'++(jC lG).take 0).flatMap qX)):=by rw[Hid];simpa using HO.out
   clear HLR HO;go_wp2
   go_loopw [3,6] (fun v i wr=>∃(j:Nat),j≤12∧i=.int .i64 j∧Hid (wr.ownsRow w.heap.size 73 5 v (k+j) ((rs'++(jC lG).take j).flatMap qX))∧Hid (dS oT wr w.heap.size rs rs')∧Hid (Below w.heap.size w wr)) (fun _ i _=>12-(intOf i).toNat)
   case atStart=>exact⟨0,by omega,rfl,HO1,HLR1,HB⟩
   case round=>
    clear HO1 HLR1 HB;obtain⟨j,hj,rfl,HO,HLR,HB⟩:=hrel;by_cases hlt:j<12
    ·go_wp2_with (first
      |(go_at_call 114;refine(tI j _ (by omega)).mono ?_;rintro e w1 ⟨rfl,hb1⟩;have HB1:=aBO hb1;clear hb1)
      |(at_builtin
        go_loud (
         have HO1:=aBO ((aR.ownsRow wr.heap.size _ _ _ _ _ _).ext HO.out HB1.out);refine bV rfl w1 (.tmp 30) (.tmp 33) 23 73 rfl w.heap.size _ 5 56 Tryz.underlying23 uM rfl (by omega) u3 (k+j) _ (qX (lG j)) rfl HO1.out w1.heap.size rfl rfl rfl (FG _) (by simp only[maxLen];omega) (by omega) (aA HB.out HB1.out).size ?_;intro g cap w4 hown4 hg4 hat4;have HO4:Hid (w4.ownsRow w.heap.size 73 5 (.slice (some ⟨g,0,none⟩) (k+j+1) cap) (k+j+1) ((rs'++(jC lG).take (j+1)).flatMap qX)):=by rw[Hid,uK lG j hlt,←List.append_assoc,List.flatMap_append];simpa using hown4
         have HB4:Hid (Below w.heap.size w w4):=(aA HB.out HB1.out).grown hg4 (aA HB.out HB1.out).size (fun j e=>(HO1.out.lt j e).1);have HL4:Hid (dS oT w4 w.heap.size rs rs'):=(HLR.out.ext fB HB1.out).grown fB (by decide) HO1.out hg4
         clear hown4 hg4 hat4)))
     go_roundw
     case rel=>exact⟨j+1,by omega,by go_num,HO4,HL4,HB4⟩
     case measure=>simp[intOf];omega
    ·obtain rfl:j=12:=by omega
     have hown:=HO.out;have hform:∃g cap,u3=.slice (some ⟨g,0,none⟩) (k+12) cap∧k+12≤cap∧cap≤maxLen:=by
      rcases hown.2 with ⟨_,h0⟩|⟨g',cap',cur,hv,_,_,h1,h2,_⟩
      ·omega
      ·exact⟨_,_,hv,h1,h2⟩
     obtain⟨g,cap,rfl,hc1,hc2⟩:=hform;clear hown;unfold maxLen at hc2;go_wp2
     go_ret
     refine⟨_,rs',rfl,⟨g,cap,by rw[HL.out];rfl,?_,HLR.out⟩,HB.out⟩;have:=HO.out;rw[HL.out];rw[aCB (by rw[pW];omega)] at this;exact this
theorem CK(a b:Option Addr)(n c d:Nat)(rs ss:List iQ)(w:World)(hr:mA w a n rs)(hs:mA w b n ss)(h:pE AA rs ss)(hna:∀r∈ss,tD r):
  Calls Tryz.prog 118 #[.slice a n c,.slice b n d] w fun e w'=>e=.returned (.bool true)∧Below w.heap.size w w':=by
 have HR:=aBO hr
 have HS:=aBO hs
 have HH:=aBO h
 have HNA:=aBO hna
 have hn:=hr.1.2.1
 clear hr hs h hna
 have hne:((n:Int) != (n:Int))=false:=by simp
 go_enter Tryz.func118,Tryz.ntmps118
 go_wp2
 go_loopw [5] (fun i wr=>∃(k:Nat),k≤n∧i=.int .i64 k∧Hid (Below w.heap.size w wr)) (fun i _=>n-(intOf i).toNat)
 case atStart=>exact⟨0,by omega,rfl,aBQ _ _⟩
 case round=>
  obtain⟨k,hk,rfl,HB⟩:=hrel;by_cases hlt:k<n
  ·obtain⟨r,b1,o1,hr,hokr,rfl,y0,y1,y2,y3,y4⟩:=(HR.out.ext HB.out).cells hlt;obtain⟨s,b2,o2,hs,hoks,rfl,z0,z1,z2,z3,z4⟩:=(HS.out.ext HB.out).cells hlt;have HD:=aBO (HH.out.2 k r s hr hs);have HNs:=aBO (HNA.out s (aBY hs));have HOr:=aBO hokr;have HOs:=aBO hoks;have hk0:(0:Int)≤(k:Int):=by omega
   have hk1:(k:Int)<(n:Int):=by omega
   have kx0:∀n:aY wr,n.val.cell? ⟨b1,o1+k*5,none⟩=some (.slice r.h.ia r.h.n r.h.c):=fun n=>aH n.ext y0;have kx1:∀n:aY wr,n.val.cell? ⟨b1,o1+k*5+1,none⟩=some (.int .i64 r.h.t.kind):=fun n=>aH n.ext y1;have kx2:∀n:aY wr,n.val.cell? ⟨b1,o1+k*5+2,none⟩=some (.int .i64 r.h.t.a):=fun n=>aH n.ext y2;have kx3:∀n:aY wr,n.val.cell? ⟨b1,o1+k*5+3,none⟩=some (.int .i64 r.h.t.t0):=fun n=>aH n.ext y3;have kx4:∀n:aY wr,n.val.cell? ⟨b1,o1+k*5+4,none⟩=some (.int .i64 r.h.t.t1):=fun n=>aH n.ext y4;have ky0:∀n:aY wr,n.val.cell? ⟨b2,o2+k*5,none⟩=some (.slice s.h.ia s.h.n s.h.c):=fun n=>aH n.ext z0;have ky1:∀n:aY wr,n.val.cell? ⟨b2,o2+k*5+1,none⟩=some (.int .i64 s.h.t.kind):=fun n=>aH n.ext z1;have ky2:∀n:aY wr,n.val.cell? ⟨b2,o2+k*5+2,none⟩=some (.int .i64 s.h.t.a):=fun n=>aH n.ext z2;have ky3:∀n:aY wr,n.val.cell? ⟨b2,o2+k*5+3,none⟩=some (.int .i64 s.h.t.t0):=fun n=>aH n.ext z3;have ky4:∀n:aY wr,n.val.cell? ⟨b2,o2+k*5+4,none⟩=some (.int .i64 s.h.t.t1):=fun n=>aH n.ext z4;have HNE:Nonempty (aY wr):=⟨⟨wr,aBQ _ _⟩⟩
   clear hr hs hokr hoks y0 y1 y2 y3 y4 z0 z1 z2 z3 z4;go_wp2;refine bB (by kernel_rfl) (by kernel_rfl) ?_
   repeat (first
    |go_big_quiet_skip
    |go_big_quiet_step (first
     |(go_at_call 120;exact cG (pG r s _ HD.out (iU.ext HOr.out (aY.ext _)) (iU.ext HOs.out (aY.ext _)) HNs.out))))
   refine wpQuiet_nil ?_;rintro _ ⟨mm,rfl⟩;have HM:=aBO (aA HB.out mm.ext);generalize mm.val=W8 at *;clear kx0 kx1 kx2 kx3 kx4 ky0 ky1 ky2 ky3 ky4;go_wp2
   go_roundw
   case rel=>exact⟨k+1,by omega,by go_num,HM⟩
   case measure=>simp[intOf];omega
  ·go_wp2
   go_ret
   exact⟨rfl,HB.out⟩
theorem CQ(base g cap:Nat)(a:Option Addr)(n c:Nat)(rs rs':List iQ)(w:World)(h:oM w base (.slice (some ⟨g,0,none⟩) n cap) rs rs')(hs:mA w a n rs)(hn:n≤1000000)(hna:∀r∈rs,tD r):
  Calls Tryz.prog 64 #[.slice (some ⟨g,0,none⟩) n cap,.slice a n c] w fun e w'=>e=.returned (.bool true)∧Below w.heap.size w w':=by
 obtain⟨h1,_,hlen,hc1,hc2,hl⟩:=h.okS hs hn hna
 have HA:=aBO h1
 have HS:=aBO hs
 have HL:=aBO hl
 have HLen:=aBO hlen
 have HNA:=aBO hna
 clear h hs h1 hl hlen hna
 unfold maxLen at hc2
 have hne:((n:Int) != (n:Int))=false:=by simp
 go_enter Tryz.func64,Tryz.ntmps64
 go_wp2
 go_loopw [6] (fun i wr=>∃(k:Nat),k≤n+12∧i=.int .i64 k∧Hid (Below w.heap.size w wr)) (fun i _=>n+12-(intOf i).toNat)
 case atStart=>exact⟨0,by omega,rfl,aBQ _ _⟩
 case round=>
  obtain⟨k,hk,rfl,HB⟩:=hrel;by_cases hlt:k<n+12
  ·obtain⟨r,b1,o1,hr,hokr,hab,y0,y1,y2,y3,y4⟩:=(HA.out.ext HB.out).cells hlt;injection hab with hab;injection hab with hab1 hab2 _;subst hab1;subst hab2;have HOr:=aBO hokr;rw[Nat.zero_add] at y0 y1 y2 y3 y4;have kx0:∀n:aY wr,n.val.cell? ⟨g,k*5,none⟩=some (.slice r.h.ia r.h.n r.h.c):=fun n=>aH n.ext y0;have kx1:∀n:aY wr,n.val.cell? ⟨g,k*5+1,none⟩=some (.int .i64 r.h.t.kind):=fun n=>aH n.ext y1;have kx2:∀n:aY wr,n.val.cell? ⟨g,k*5+2,none⟩=some (.int .i64 r.h.t.a):=fun n=>aH n.ext y2;have kx3:∀n:aY wr,n.val.cell? ⟨g,k*5+3,none⟩=some (.int .i64 r.h.t.t0):=fun n=>aH n.ext y3;have kx4:∀n:aY wr,n.val.cell? ⟨g,k*5+4,none⟩=some (.int .i64 r.h.t.t1):=fun n=>aH n.ext y4;have HNE:Nonempty (aY wr):=⟨⟨wr,aBQ _ _⟩⟩
   by_cases hkn:k<n
   ·rw[aCC (by rw[HLen.out];exact hkn)] at hr;obtain⟨s,b2,o2,hs,hoks,rfl,z0,z1,z2,z3,z4⟩:=(HS.out.ext HB.out).cells hkn;have HLk:=aBO (fB.ext (HL.out.2 k s r hs hr) HB.out);have HOs:=aBO hoks;have HNs:=aBO (HNA.out s (aBY hs));have ky0:∀n:aY wr,n.val.cell? ⟨b2,o2+k*5,none⟩=some (.slice s.h.ia s.h.n s.h.c):=fun n=>aH n.ext z0;have ky1:∀n:aY wr,n.val.cell? ⟨b2,o2+k*5+1,none⟩=some (.int .i64 s.h.t.kind):=fun n=>aH n.ext z1;have ky2:∀n:aY wr,n.val.cell? ⟨b2,o2+k*5+2,none⟩=some (.int .i64 s.h.t.a):=fun n=>aH n.ext z2;have ky3:∀n:aY wr,n.val.cell? ⟨b2,o2+k*5+3,none⟩=some (.int .i64 s.h.t.t0):=fun n=>aH n.ext z3;have ky4:∀n:aY wr,n.val.cell? ⟨b2,o2+k*5+4,none⟩=some (.int .i64 s.h.t.t1):=fun n=>aH n.ext z4;have hk0:(0:Int)≤(k:Int):=by omega
    have hk1:(k:Int)<(n:Int):=by omega
    have hk2:(k:Int)<(n:Int)+12:=by omega
    have d1:decide ((k:Int)<(n:Int))=true:=by simpa using hkn
    have d2:decide ((n:Int)≤(k:Int))=false:=by simp;omega
    have d3:decide (k<n)=true:=by simpa using hkn
    have d4:decide (n≤k)=false:=by simp;omega
    clear hr hs hoks hokr y0 y1 y2 y3 y4 z0 z1 z2 z3 z4 hkn;go_wp2;refine bB (by kernel_rfl) (by kernel_rfl) ?_
    repeat (go_big_quiet_step (first
     |(go_at_call 119;exact cG (DI r s base _ (fB.ext HLk.out (aY.ext _)) (iU.ext HOs.out (aY.ext _)) HNs.out))))
    refine wpQuiet_nil ?_;rintro _ ⟨mm,rfl⟩;have HM:=aBO (aA HB.out mm.ext);generalize mm.val=W8 at *;clear kx0 kx1 kx2 kx3 kx4 ky0 ky1 ky2 ky3 ky4;go_wp2
    go_roundw
    case rel=>exact⟨k+1,by omega,by go_num,HM⟩
    case measure=>simp[intOf];omega
   ·obtain⟨j,rfl⟩:∃j,k=n+j:=⟨k-n,by omega⟩
    have hj:j<12:=by omega
    have hrm:r=lG j:=by
     rw[List.getElem?_append_right (by rw[HLen.out];omega),HLen.out,Nat.add_sub_cancel_left,vN lG j hj] at hr;exact(Option.some.inj hr).symm
    have HRM:=aBO hrm;have d1:decide (n+j<n)=false:=by simp
    have d2:decide (n≤n+j)=true:=by simp
    have d3:decide ((n:Int)+(j:Int)<(n:Int))=false:=by simp;omega
    have d4:decide ((n:Int)≤(n:Int)+(j:Int))=true:=by simp;omega
    have d5:IntKind.i64.wrap ((n:Int)+(j:Int)-(n:Int))=(j:Int):=by rw[IntKind.wrap_i64];omega
    have hk0:(0:Int)≤(n:Int)+(j:Int):=by omega
    have hk2:(n:Int)+(j:Int)<(n:Int)+12:=by omega
    clear hr hrm hokr y0 y1 y2 y3 y4 hkn;go_wp2;refine bB (by kernel_rfl) (by kernel_rfl) ?_
    repeat (go_big_quiet_step (first
     |(go_at_call 114;exact cG (tI j _ (by omega)))
     |(go_at_call 120;exact cG (pG r (lG j) _ (by rw[HRM.out];exact PN _) (iU.ext HOr.out (aY.ext _)) (JH _ j hj) (WL j)))))
    refine wpQuiet_nil ?_;rintro _ ⟨mm,rfl⟩;have HM:=aBO (aA HB.out mm.ext);generalize mm.val=W8 at *;clear kx0 kx1 kx2 kx3 kx4;go_wp2
    go_roundw
    case rel=>exact⟨n+j+1,by omega,by go_num,HM⟩
    case measure=>simp[intOf];omega
  ·go_wp2
   go_ret
   exact⟨rfl,HB.out⟩
end

section
open Go.RowKit
theorem wW(n:Int)(w:World):Calls Tryz.prog 162 #[.int .i64 n] w fun e w'=>e=.returned (.bool (sZ n))∧w=w':=by
 by_cases h1:1≤n
 ·have d1:decide (1≤n)=true:=by simpa using h1
  have HE:Hid (sZ n=decide (n≤200)):=by rw[Hid,sZ,decide_eq_decide];omega
  go_enter Tryz.func162,Tryz.ntmps162
  go_wp2
  go_ret
  exact⟨by rw[HE.out];rfl,rfl⟩
 ·have d1:decide (1≤n)=false:=by simpa using h1
  have HE:Hid (sZ n=false):=by rw[Hid,sZ,decide_eq_false_iff_not];omega
  go_enter Tryz.func162,Tryz.ntmps162
  go_wp2
  go_ret
  exact⟨by rw[HE.out];rfl,rfl⟩
theorem aAG(w:World)(x0 x1 y0 y1:Int):(binOp .eql 68 (.agg #[.int .i64 x0,.int .i64 x1]) (.agg #[.int .i64 y0,.int .i64 y1])).run Tryz.prog w=.ok (.bool (x0==y0&&x1==y1)) w:=by
 rw[run_eql_struct,EX w 9998]
 rfl
theorem YV(x0 x1:Int)(b:Bool)(hb:(x0==0&&x1==0)=b)(w:World):(binOp .eql 68 (.agg #[.int .i64 x0,.int .i64 x1]) (.agg #[.int .i64 0,.int .i64 0])).run Tryz.prog w=.ok (.bool b) w:=by
 rw[aAG,hb]
theorem kH(t:aT)(w:World):Calls Tryz.prog 97 #[zW t] w (KY t w):=by
 obtain⟨k,a,x,y⟩:=t
 obtain⟨b,hb⟩:∃b,(x==0&&y==0)=b:=⟨_,rfl⟩
 have hq:=YV x y b hb
 have HBB:=aBO hb
 clear hb
 by_cases k1:k=1
 ·subst k1;by_cases a0:a=0
  ·subst a0;have HE:Hid (eH ⟨1,0,x,y⟩=(y==0)):=by rw[Hid,Bool.eq_iff_iff];simp[eH]
   go_enter Tryz.func97,Tryz.ntmps97
   go_wp2
   go_ret
   exact⟨by rw[HE.out];rfl,aD _ _⟩
  ·have b0:(a==0)=false:=by simpa using a0
   have HE:Hid (eH ⟨1,a,x,y⟩=false):=by simp[Hid,eH,a0]
   clear a0
   go_enter Tryz.func97,Tryz.ntmps97
   go_wp2
   go_ret
   exact⟨by rw[HE.out];rfl,aD _ _⟩
 ·have b1:(k==1)=false:=by simpa using k1
  by_cases k2:k=2
  ·subst k2;have HE:Hid (eH ⟨2,a,x,y⟩=sZ a):=by simp[Hid,eH]
   clear k1 b1
   go_enter Tryz.func97,Tryz.ntmps97
   go_wp2_with (go_at_call 162;refine(wW _ _).mono ?_;rintro e w' ⟨rfl,rfl⟩)
   go_ret
   exact⟨by rw[HE.out];rfl,aD _ _⟩
  ·have b2:(k==2)=false:=by simpa using k2
   by_cases k3:k=3
   ·subst k3;clear k1 b1 k2 b2;by_cases a0:a=0
    ·subst a0;have HE:Hid (eH ⟨3,0,x,y⟩=b):=by rw[Hid,←HBB.out,Bool.eq_iff_iff];simp[eH]
     go_enter Tryz.func97,Tryz.ntmps97
     go_wp2
     go_ret
     exact⟨by rw[HE.out];rfl,aD _ _⟩
    ·have b0:(a==0)=false:=by simpa using a0
     cases hv:sZ a with
     |true=>
      have HV:=aBO hv;have HE:Hid (eH ⟨3,a,x,y⟩=b):=by rw[Hid,←HBB.out,Bool.eq_iff_iff];simp[eH,hv]
      clear a0 hv
      go_enter Tryz.func97,Tryz.ntmps97
      go_wp2_with (go_at_call 162;refine(wW _ _).mono ?_;rintro e w' ⟨rfl,rfl⟩;rw[HV.out])
      go_ret
      exact⟨by rw[HE.out];rfl,aD _ _⟩
     |false=>
      have HV:=aBO hv;have HE:Hid (eH ⟨3,a,x,y⟩=false):=by simp[Hid,eH,hv,a0]
      clear a0 hv
      go_enter Tryz.func97,Tryz.ntmps97
      go_wp2_with (go_at_call 162;refine(wW _ _).mono ?_;rintro e w' ⟨rfl,rfl⟩;rw[HV.out])
      go_ret
      exact⟨by rw[HE.out];rfl,aD _ _⟩
   ·have b3:(k==3)=false:=by simpa using k3
    by_cases k4:k=4
    ·subst k4;clear k1 b1 k2 b2 k3 b3;by_cases a0:a=0
     ·subst a0;have HE:Hid (eH ⟨4,0,x,y⟩=b):=by rw[Hid,←HBB.out,Bool.eq_iff_iff];simp[eH]
      go_enter Tryz.func97,Tryz.ntmps97
      go_wp2
      go_ret
      exact⟨by rw[HE.out];rfl,aD _ _⟩
     ·have b0:(a==0)=false:=by simpa using a0
      have HE:Hid (eH ⟨4,a,x,y⟩=false):=by simp[Hid,eH,a0]
      clear a0
      go_enter Tryz.func97,Tryz.ntmps97
      go_wp2
      go_ret
      exact⟨by rw[HE.out];rfl,aD _ _⟩
    ·have b4:(k==4)=false:=by simpa using k4
     have HE:Hid (eH ⟨k,a,x,y⟩=false):=by simp[Hid,eH,k1,k2,k3,k4]
     clear k1 k2 k3 k4
     go_enter Tryz.func97,Tryz.ntmps97
     go_wp2
     go_ret
     exact⟨by rw[HE.out];rfl,aD _ _⟩
theorem VH(t:aT)(w:World)(h:qE t):Calls Tryz.prog 71 #[zW t] w (gV w (toD t)):=by
 have HO:=aBO (UP t h)
 clear h
 obtain⟨k,a,x,y⟩:=t
 by_cases ht:eH ⟨k,a,x,y⟩=true
 ·have HB:=aBO ht;by_cases k1:k=1
  ·subst k1;have HE:Hid (toD ⟨1,a,x,y⟩= [x]):=by rw[Hid,toD,if_pos ht,if_pos rfl]
   clear ht
   go_enter Tryz.func71,Tryz.ntmps71
   go_wp2_with (go_at_call 97;refine(kH ⟨1,a,x,y⟩ _).mono ?_;rintro e w' ⟨rfl,hb'⟩;rw[HB.out];obtain⟨g1,g2⟩:=xR hb';have HB':=aBO hb';clear hb')
   go_ret
   rw[HE.out];exact⟨_,rfl,(mX (xs:= [x]) rfl _ (jZ HB'.out) (by have:=HO.out;rwa [HE.out] at this) (by simp)),(aA (aD _ _) HB'.out).alloc (jZ HB'.out) _⟩
  ·have b1:(k==1)=false:=by simpa using k1
   by_cases k2:k=2
   ·subst k2;have HE:Hid (toD ⟨2,a,x,y⟩= [x,y]):=by rw[Hid,toD,if_pos ht,if_neg (by simp),if_pos rfl]
    clear ht k1
    go_enter Tryz.func71,Tryz.ntmps71
    go_wp2_with (go_at_call 97;refine(kH ⟨2,a,x,y⟩ _).mono ?_;rintro e w' ⟨rfl,hb'⟩;rw[HB.out];obtain⟨g1,g2⟩:=xR hb';have HB':=aBO hb';clear hb')
    go_ret
    rw[HE.out];exact⟨_,rfl,(mX (xs:= [x,y]) rfl _ (jZ HB'.out) (by have:=HO.out;rwa [HE.out] at this) (by simp)),(aA (aD _ _) HB'.out).alloc (jZ HB'.out) _⟩
   ·have b2:(k==2)=false:=by simpa using k2
    have HE:Hid (toD ⟨k,a,x,y⟩= []):=by rw[Hid,toD,if_pos ht,if_neg k1,if_neg k2]
    clear ht k1 k2
    go_enter Tryz.func71,Tryz.ntmps71
    go_wp2_with (go_at_call 97;refine(kH ⟨k,a,x,y⟩ _).mono ?_;rintro e w' ⟨rfl,hb'⟩;rw[HB.out];obtain⟨g1,g2⟩:=xR hb';have HB':=aBO hb';clear hb')
    go_ret
    rw[HE.out];exact⟨_,rfl,bN.nil _ _,aA (aD _ _) HB'.out⟩
 ·have HE:Hid (toD ⟨k,a,x,y⟩= []):=by rw[Hid,toD,if_neg ht]
  have ht':eH ⟨k,a,x,y⟩=false:=by simpa using ht
  have HB:=aBO ht';clear ht ht'
  go_enter Tryz.func71,Tryz.ntmps71
  go_wp2_with (go_at_call 97;refine(kH ⟨k,a,x,y⟩ _).mono ?_;rintro e w' ⟨rfl,hb'⟩;rw[HB.out];obtain⟨g1,g2⟩:=xR hb';have HB':=aBO hb';clear hb')
  go_ret
  rw[HE.out];exact⟨_,rfl,bN.nil _ _,aA (aD _ _) HB'.out⟩
end

section
open Go.RowKit
def nI(w:World)(base:Nat)(v:Value)(xs:List Int):Prop:=
 ∃g o cap cur,v=.slice (some ⟨g,o,none⟩) xs.length cap∧base≤g∧xs.length≤cap∧cap≤maxLen∧w.heap[g]? =some (.cells cur 3 (0,0))∧o+cap≤cur.size∧
  (∀k,k<xs.length→cur[o+k]? =some (.int .i64 (xs.getD k 0)))∧(∀x∈xs,I64 x)∧xs.length≤17592186044416
section
variable {w w':World} {base:Nat} {v:Value} {xs:List Int}
theorem nI.form(h:nI w base v xs):∃g o cap,v=.slice (some ⟨g,o,none⟩) xs.length cap∧xs.length≤cap∧cap≤maxLen∧dY w (some ⟨g,o,none⟩) xs.length xs:=by
 obtain⟨g,o,cap,cur,rfl,h1,h2,h3,h4,h5,h6,h7,h8⟩:=h
 refine⟨g,o,cap,rfl,h2,h3,rfl,h8,fun k hk=>⟨g,o,rfl,?_,h7 _ ?_⟩⟩
 ·rw[aBP _ _ _ _ _ _ h4];exact h6 k hk
 ·rw[aBT,aBU hk];exact aBZ _
theorem nI.low{k:Nat}(h:nI w base v xs)(hk:v.ownBlock=some k):base≤k∧k<w.heap.size:=by
 obtain⟨g,o,cap,cur,rfl,h1,h2,h3,h4,_⟩:=h
 simp only[Value.ownBlock,Option.some.injEq] at hk
 subst hk
 exact⟨h1,(aBW.1 h4).1⟩
theorem nI.chg{S:Nat→Prop}(h:nI w base v xs)(hc:Chg S w w')(hn:∀k,v.ownBlock=some k→¬S k):nI w' base v xs:=by
 obtain⟨g,o,cap,cur,rfl,h1,h2,h3,h4,h5⟩:=h
 exact⟨g,o,cap,cur,rfl,h1,h2,h3,(hc.block g (aBW.1 h4).1 (hn g rfl)).trans h4,h5⟩
theorem nI.ext(h:nI w base v xs)(hb:Below w.heap.size w w'):nI w' base v xs:=h.chg (S:=fun _=>False) ⟨hb.os,hb.tape,hb.output,hb.size,fun k hk _=>hb.block k hk⟩ fun _ _ e=>e
theorem nI.of_own{g n c:Nat}(h:bN w base (.slice (some ⟨g,0,none⟩) n c) xs):nI w base (.slice (some ⟨g,0,none⟩) n c) xs:=by
 rcases h.1.2 with ⟨hv,_⟩|⟨g',cap,cur,hv,hb,hh,h1,h2,h3,h4⟩
 ·cases hv
 ·injection hv with e1 e2 e3;injection e1 with e1;injection e1 with e1 _ _;subst e1 e2 e3;refine⟨g,0,c,cur,rfl,hb,h1,h2,hh,by omega,fun k hk=>?_,h.2.1,h.2.2⟩;have h5:(cur.toList.take (xs.length*1))[k]? =(bC xs)[k]?:=by rw[h4]
  rw[List.getElem?_take,if_pos (by omega)] at h5;rw[Nat.zero_add];rw[Array.getElem?_toList] at h5;rw[h5];simp[bC,aBT,hk]
theorem nI.tail{g o n c:Nat}{x:Int}(h:nI w base (.slice (some ⟨g,o,none⟩) n c) (x :: xs)):nI w base (.slice (some ⟨g,o+1,none⟩) xs.length (c-1)) xs:=by
 obtain⟨g',o',cap,cur,e,h1,h2,h3,h4,h5,h6,h7,h8⟩:=h
 injection e with e1 e2 e3
 injection e1 with e1
 injection e1 with e1 e4 _
 subst e1 e3 e4
 simp only[List.length_cons] at h2 h8
 refine⟨g,o+1,c-1,cur,rfl,h1,by omega,by omega,h4,by omega,fun k hk=>?_,fun z hz=>h7 z (by simp[hz]),by omega⟩
 have:=h6 (k+1) (by simp;omega)
 rw[show o+1+k=o+(k+1) by omega,this]
 simp
end
section
variable {P:Program} {Q:Exit→Act→World→Prop}
theorem CL(w0:World)(base:Nat)(t ty:TypeId)(z:Value)(bytes:Nat)(ht:P.underlying t=some (.slice 3))(hinfo:(P.info? 3).map (fun i=>(i.zero,i.size,i.bytes))=some (some z,1,bytes))(hzs:z.cells.size=1)
  (v:Value) (xs:List Int) (h:nI w0 base v xs) (x:Int) (hx:I64 x) (hlen:xs.length≤1000000) (hb8:bytes≤16) (hbase:base≤w0.heap.size):
  ∃v' w',(Builtin.append_ #[t,t] ty #[v,.slice (some ⟨w0.heap.size,0,none⟩) 1 1]).run P (w0.alloc (.cells #[.int .i64 x] 3))=.ok v' w'∧nI w' base v' (xs++ [x])∧w0.grownBy w' v.ownBlock∧(v'.ownBlock=v.ownBlock∨∃k,v'.ownBlock=some k∧w0.heap.size≤k):=by
 obtain⟨i,hi,hz,hsize,hby⟩:=info_parts hinfo
 obtain⟨g,o,cap,cur,rfl,h1,h2,h3,h4,h5,h6,h7,h8⟩:=h
 have hgl:=(aBW.1 h4).1
 have hadd:∀j,(⟨w0.heap.size,0,none⟩:Addr).add j=⟨w0.heap.size,j,none⟩:=fun j=>by unfold Addr.add;split<;>simp_all
 have hadd2:∀j,(⟨g,o,none⟩:Addr).add j=⟨g,o+j,none⟩:=fun j=>by unfold Addr.add;split<;>simp_all
 have hg':(w0.alloc (.cells #[.int .i64 x] 3)).heap[g]? =some (.cells cur 3 (0,0)):=(aBR _ _ _ hgl).trans h4
 have hnews:∀j u,[Value.int .i64 x][j]? =some u→(w0.alloc (.cells #[.int .i64 x] 3)).cell? ((⟨w0.heap.size,0,none⟩:Addr).add j)=some u:=by
  intro j u hu;rw[hadd,aBP _ _ _ _ _ _ (World.alloc_heap_new w0 _)];simpa using hu
 by_cases hr:xs.length+1≤cap
 ·refine⟨_,_,run_append_room_cells (P:=P) (w0.alloc (.cells #[.int .i64 x] 3)) t ty 3 i ht hi g o xs.length cap ⟨w0.heap.size,0,none⟩ 1 1 [.int .i64 x] (by rw[hsize];rfl) hnews (by simp[Value.oneCell']) hr (fun j hj=>?_) (fun j hj=>frozen_of_row _ _ _ _ _ hg'),?_,?_,.inl rfl⟩
  ·simp only[List.length_singleton] at hj;obtain rfl:j=0:=by omega
   rw[aBP _ _ _ _ _ _ hg',hsize,Array.getElem?_eq_getElem (by omega)];rfl
  ·have hst:=heap_setCell_same (w0.alloc (.cells #[.int .i64 x] 3)) g (o+xs.length) _ _ (.int .i64 x) hg';rw[hsize,Nat.mul_one];refine⟨g,o,cap,_,by simp,h1,by simp;omega,h3,hst,by simp;omega,fun k hk=>?_,fun z hz=>?_,by simp;omega⟩
   ·simp only[List.length_append,List.length_singleton] at hk;rw[Array.getElem?_setIfInBounds];by_cases e:k=xs.length
    ·subst e;rw[if_pos rfl,if_pos (by omega)];simp[aBT]
    ·rw[if_neg (by omega),h6 k (by omega)];simp[aBT,aCC (show k<xs.length by omega)]
   ·rcases aCA.1 hz with hz|hz
    ·exact h7 z hz
    ·simp at hz;subst hz;exact hx
  ·refine⟨rfl,rfl,rfl,by simp[World.setCells],fun k hk hne=>?_⟩;have hkg:k≠g:=fun e=>hne (by simp[Value.ownBlock,e]);simp only[World.setCells];rw[Below.heap_setCell _ _ _ _ (fun e=>hkg e),aBR _ _ _ hk]
 ·have holds:∀j u,(bC xs)[j]? =some u→(w0.alloc (.cells #[.int .i64 x] 3)).cell? ((⟨g,o,none⟩:Addr).add j)=some u:=fun j u hu=>by
   have hj:j<xs.length:=by have:=(aBX.1 hu).1;simpa[bC] using this
   rw[hadd2,aBP _ _ _ _ _ _ hg',h6 j hj,←hu];simp[bC,aBT,hj]
  obtain⟨v',w',hrun,hown,hgr⟩:=run_append_arg_grows (P:=P) (w0.alloc (.cells #[.int .i64 x] 3)) t ty 3 i z 1 bytes ht hi hz hsize hby hzs (by omega) ⟨g,o,none⟩ xs.length cap (bC xs) (by simp[bC]) holds ⟨w0.heap.size,0,none⟩ 1 1 [.int .i64 x] rfl hnews (by omega) (by simp only[maxLen];omega) (by
   have:(xs.length+1)*bytes≤(xs.length+1)*16:=Nat.mul_le_mul_left _ hb8
   omega)
  obtain⟨g2,c2,rfl⟩:∃g2 c2,v'=.slice (some ⟨g2,0,none⟩) (xs.length+1) c2:=by
   rcases hown.2 with ⟨_,h0⟩|⟨g2,c2,cur,hv,_⟩
   ·omega
   ·exact⟨g2,c2,hv⟩
  refine⟨_,w',hrun,?_,⟨hgr.os,hgr.tape,hgr.output,aCD (by simp) hgr.size,fun k hk _=>?_⟩,.inr ⟨g2,rfl,by have:=(hown.lt g2 rfl).1;simp at this;omega⟩⟩
  ·have:bN w' base (.slice (some ⟨g2,0,none⟩) (xs++ [x]).length c2) (xs++ [x]):=by
    refine⟨?_,fun z hz=>?_,by simp;omega⟩
    ·have e:bC (xs++ [x])=bC xs++ [.int .i64 x]:=by simp[bC]
     rw[e,List.length_append];exact hown.mono (by simp;omega)
    ·rcases aCA.1 hz with hz|hz
     ·exact h7 z hz
     ·simp at hz;subst hz;exact hx
   have h9:=nI.of_own this
   rwa [List.length_append,List.length_singleton] at h9
  ·rw[hgr.block k (by simp;omega) (fun e=>by cases e),aBR _ _ _ hk]
theorem wO{ops:Array Oper}{rest:List Oper}{o:Oper}{a:Act}(hgd:o.guard=none)(w0:World)(s x:Operand)(t:TypeId)(ho:o.op=.call {callee:=.builtin .append,args:=#[s,x],argTypes:=#[t,t]})
  (base:Nat) (z:Value) (bytes:Nat) (ht:P.underlying t=some (.slice 3)) (hinfo:(P.info? 3).map (fun i=>(i.zero,i.size,i.bytes))=some (some z,1,bytes)) (hzs:z.cells.size=1)
  (v:Value) (xs:List Int) (hs:a.eval s=v) (hq:nI w0 base v xs) (y:Int) (hy:I64 y) (H:Nat) (hH:w0.heap.size=H) (hx:a.eval x=.slice (some ⟨H,0,none⟩) 1 1) (hlen:xs.length≤1000000) (hb8:bytes≤16) (hbase:base≤w0.heap.size)
  (h:∀v' w',nI w' base v' (xs++ [y])→w0.grownBy w' v.ownBlock→(v'.ownBlock=v.ownBlock∨∃k,v'.ownBlock=some k∧w0.heap.size≤k)→wpList P ops Q rest (a.put o.dst v') w'):
  wpList P ops Q (o :: rest) a (w0.alloc (.cells #[.int .i64 y] 3)):=by
 refine wpList_plain hgd fun K hK=>?_
 subst hH
 obtain⟨v',w',hrun,h2,h3,h4⟩:=CL (P:=P) w0 base t o.type z bytes ht hinfo hzs v xs hq y hy hlen hb8 hbase
 unfold Oper.wp execOp
 simp only[ho,resolve,invoke,builtin,Sem.run_bind,Sem.run_pure,Result.andThen_ok,List.map_toArray,List.map_cons,List.map_nil,hs,hx,hrun]
 exact hK _ _ (h v' w' h2 h3 h4)
end
end

section
open Go.RowKit
abbrev bY(f:Nat→Bool):Obj:=.cells (aQ f) 107 (0,0)
theorem aV:(Tryz.prog.info? 107).map (·.size)=some 200:=by kernel_rfl
theorem gQ:Tryz.zeroCells107=aQ fun _=>false:=by kernel_rfl
theorem pX{W:World}{g:Nat}{f:Nat→Bool}(hg:W.heap[g]? =some (bY f)):(loadVar 107 ⟨g,0,none⟩).run Tryz.prog W=.ok (.agg (aQ f)) W:=
 run_loadVar_row (P:=Tryz.prog) W g 107 107 _ (0,0) _ hg Tryz.underlying107 rfl (by rw[aF];exact aV)
theorem cX{W:World}{g:Nat}{f:Nat→Bool}(hg:W.heap[g]? =some (bY f))(j:Nat)(hj:j<200):W.cell? ⟨g,j,none⟩=some (.bool (f j)):=by rw[aBP _ _ _ _ _ _ hg,iV _ _ hj]
theorem gC{W:World}{g:Nat}{f:Nat→Bool}(hg:W.heap[g]? =some (bY f))(j:Nat):W.frozen? ⟨g,j,none⟩=false:=frozen_of_row _ _ _ _ _ hg
theorem kC{W:World}{g:Nat}{f h:Nat→Bool}{j:Nat}{b:Bool}(hg:W.heap[g]? =some (bY f))(hj:j<200)(e:(fun k=>if k=j then b else f k)=h):(W.setCell ⟨g,j,none⟩ (.bool b)).heap[g]? =some (bY h):=by
 rw[heap_setCell_same _ _ _ _ _ _ hg,IP _ _ hj,e]
theorem rG(pa:Option Addr)(pn pc:Nat)(ba:Option Addr)(bn bc:Nat)(bs:List gS)(k:Nat)(w:World)(h:dU w ba bn bs)(hk:k<bn):
  Calls Tryz.prog 96 #[dX pa pn pc ba bn bc,.int .i64 (k:Int)] w (gV w (toD ((aG bs).getD k fP))):=by
 have hbn:=h.1.2.1
 obtain⟨x,b,o,hx,ht,rfl,c0,c1,c2,c3,c4⟩:=(h.ext (aD w (bO pa pn pc ba bn bc))).cells hk
 rw[FP _ _ _ hx]
 have HT:=aBO ht
 have hk2:(k:Int)<(bn:Int):=by omega
 clear h hx ht c0
 go_enter Tryz.func96,Tryz.ntmps96
 go_wp2_with (
  (go_at_call 71
   refine(VH x.t _ HT.out).mono ?_;rintro e w1 ⟨v,rfl,ho,hb⟩;have HO:=aBO (ho.mono (show w.heap.size≤_ by simp));have HB:=aBO (aA (aD _ _) hb)
   clear ho hb c1 c2 c3 c4))
 go_ret
 exact⟨v,rfl,HO.out,HB.out⟩
theorem oV(pa:Option Addr)(pn pc:Nat)(ba:Option Addr)(bn bc:Nat)(hd:bn≤200)(w:World):Calls Tryz.prog 73 #[dX pa pn pc ba bn bc] w (lK w (aL bn)):=by
 go_enter Tryz.func73,Tryz.ntmps73
 go_upto_region 2 with (fail)
 obtain⟨W,hW⟩:∃W,W=((w.alloc (bO pa pn pc ba bn bc)).alloc (.cells Tryz.zeroCells107 107)).alloc (.cells Tryz.zeroCells107 107):=⟨_,rfl⟩
 rw[←hW]
 have hf:W.heap[w.heap.size]? =some (bO pa pn pc ba bn bc):=by rw[hW,aBR _ _ _ (by simp;omega),aBR _ _ _ (by simp)];exact aBS _ _
 have hr:W.heap[w.heap.size+1]? =some (bY fun _=>false):=by rw[hW,aBR _ _ _ (by simp),aU _ _ _ (by simp),gQ]
 have hs:W.heap[w.heap.size+1+1]? =some (bY (aL 0)):=by rw[hW,aU _ _ _ (by simp),gQ];rfl
 have HF:=aBO hf
 have HR:=aBO hr
 have HS:=aBO hs
 have HB:Hid (Below w.heap.size w W):=by rw[Hid,hW];exact((aD _ _).alloc (by simp) _).alloc (by simp;omega) _
 clear hW hf hr hs
 go_wp2
 go_loopw [4] (fun i wr=>∃(k:Nat),k≤bn∧i=.int .i64 k∧Hid (wr.heap[w.heap.size]? =some (bO pa pn pc ba bn bc))∧Hid (wr.heap[w.heap.size+1]? =some (bY fun _=>false))∧Hid (wr.heap[w.heap.size+1+1]? =some (bY (aL k)))∧Hid (Below w.heap.size w wr)) (fun i _=>bn-(intOf i).toNat)
 case atStart=>exact⟨0,by omega,rfl,HF,HR,HS,HB⟩
 case round=>
  clear HF HR HS HB;obtain⟨k,hk,rfl,HF,HR,HS,HB⟩:=hrel;have kf:=HF.out;have k1:wr.cell? ⟨w.heap.size,1,none⟩=some (.slice ba bn bc):=by rw[aBP _ _ _ _ _ _ kf];rfl
  clear kf;by_cases hlt:k<bn
  ·have hcell:=cX HS.out k (by omega);have hfr:=gC HS.out k;have HS2:=aBO (kC (h:=aL (k+1)) (b:=true) HS.out (show k<200 by omega) (by funext j;by_cases e:j=k<;>simp[aL,e]<;>omega));have HF2:=aBO (aK (bA wr (w.heap.size+1+1) k (.bool true)) HF.out (by simp;omega));have HR2:=aBO (aK (bA wr (w.heap.size+1+1) k (.bool true)) HR.out (by simp));have hl:=aN HS.out;have hlt':(k:Int)<(bn:Int):=by omega
   generalize aL k k=bb at *;go_wp2
   go_roundw
   case rel=>exact⟨k+1,by omega,by go_num,HF2,HR2,HS2,HB.out.setCell (by simp;omega) _⟩
   case measure=>simp[intOf];omega
  ·obtain rfl:k=bn:=by omega
   go_wp2_with (first
    |(refine wpList_load_row rfl 107 _ rfl (w.heap.size+1+1) rfl 107 _ (0,0) _ HS.out Tryz.underlying107 rfl (by rw[aF];exact aV) ?_)
    |(refine wpList_store_row rfl 107 _ _ rfl (w.heap.size+1) (aQ (aL k)) rfl rfl 107 _ HR.out (by rw[aF];exact aV) rfl (dE _) ?_))
   exact bodyPost_ret (v:=.agg (aQ (aL k))) (by simp[results,Tryz.results73,asAddr,Act.put,pX (setRow_heap _ _ _ _ _ _ HR.out)]) rfl ⟨rfl,below_setRow HB.out (by omega) _⟩
def fZ(f:Nat→Bool)(k:Nat):Nat:=((List.range k).filter f).length
theorem xL(f:Nat→Bool)(k:Nat):fZ f (k+1)=fZ f k+if f k then 1 else 0:=by
 rw[fZ,fZ,List.range_succ,List.filter_append,List.length_append]
 cases h:f k<;>simp[h]
theorem RD(f:Nat→Bool)(k:Nat):fZ f k≤k:=by
 have:=List.length_filter_le f (List.range k)
 simpa[fZ] using this
theorem mN(f:Nat→Bool)(w:World):Calls Tryz.prog 99 #[.agg (aQ f)] w fun e w'=>e=.returned (.int .i64 (fZ f 200:Nat))∧Below w.heap.size w w':=by
 have HK0:Hid ((w.alloc (bY f)).heap[w.heap.size]? =some (bY f)):=aBS _ _
 go_enter Tryz.func99,Tryz.ntmps99
 go_wp2
 go_loopw [3,4] (fun s3 i wr=>∃(k:Nat),k≤200∧i=.int .i64 k∧s3=.int .i64 (fZ f k:Nat)∧Hid (wr=w.alloc (bY f))) (fun _ i _=>200-(intOf i).toNat)
 case atStart=>exact⟨0,by omega,rfl,rfl,rfl⟩
 case round=>
  obtain⟨k,hk,rfl,rfl,HW⟩:=hrel;have hle:=RD f k;have HST:=aBO (xL f k);by_cases hlt:k<200
  ·have hk0:wr.heap[w.heap.size]? =some (bY f):=by rw[HW.out];exact HK0.out
   have hcell:=cX hk0 k hlt;clear hk0;cases hf:f k with
   |true=>
    rw[hf] at hcell HST;have HST2:Hid (fZ f (k+1)=fZ f k+1):=HST.out;clear HST hf;generalize fZ f k=z at *;go_wp2
    go_roundw
    case rel=>exact⟨k+1,by omega,by go_num,by rw[HST2.out];go_num,HW⟩
    case measure=>simp[intOf];omega
   |false=>
    rw[hf] at hcell HST;have HST2:Hid (fZ f (k+1)=fZ f k):=HST.out;clear HST hf;go_wp2
    go_roundw
    case rel=>exact⟨k+1,by omega,by go_num,by rw[HST2.out],HW⟩
    case measure=>simp[intOf];omega
  ·obtain rfl:k=200:=by omega
   go_wp2
   go_ret
   exact⟨rfl,by rw[HW.out];exact aD _ _⟩
end

section
open Go.RowKit
def BJ(fo:Obj)(next:Nat→List Nat)(f:Nat→Bool)(b:Nat)(w:World)(st seen:List Nat)(x:Option (Nat×Nat))(v:Value)(wr:World):Prop:=
 nH next f b st (fun y=>seen.contains y) x∧seen.Nodup∧(∀y∈seen,y<200)∧wr.heap[w.heap.size]? =some fo∧wr.heap[w.heap.size+1]? =some (bY f)∧wr.heap[w.heap.size+1+1]? =some (bY fun _=>false)∧
  wr.heap[w.heap.size+1+1+1]? =some (bY fun y=>seen.contains y)∧nI wr (w.heap.size+1+1+1+1) v (aO st)∧Below w.heap.size w wr
theorem BJ.ext{fo:Obj}{next:Nat→List Nat}{f:Nat→Bool}{b:Nat}{w:World}{st seen:List Nat}{x:Option (Nat×Nat)}{v:Value}{wr w':World}(h:BJ fo next f b w st seen x v wr)(hb:Below wr.heap.size wr w'):BJ fo next f b w st seen x v w':=by
 obtain⟨h1,h2,h3,h4,h5,h6,h7,h8,h9⟩:=h
 exact⟨h1,h2,h3,aB hb h4,aB hb h5,aB hb h6,aB hb h7,h8.ext hb,aA h9 hb⟩
theorem NF{ts:List aT}(hg:fS ts=true)(k:Nat):toD (ts.getD k fP)=aO (nx ts k):=by
 rw[nx,aO,List.map_map]
 by_cases hk:k<ts.length
 ·have hm:ts.getD k fP∈ts:=by rw[aBT,aBU hk];exact aBZ _
  have h:=((cY ts).1 hg).2 _ hm
  conv=>lhs;rw[←List.map_id (toD (ts.getD k fP))]
  refine List.map_congr_left fun x hx=>?_;have:=h.2 x hx;simp only[id,Function.comp];omega
 ·have:ts.getD k fP=fP:=by rw[aBT,List.getElem?_eq_none (by omega)];rfl
  rw[this];rfl
theorem gY(pa:Option Addr)(pn pc:Nat)(ba:Option Addr)(bn bc:Nat)(bs:List gS)(b:Nat)(f:Nat→Bool)(w:World)(h:dU w ba bn bs)(hg:fS (aG bs)=true)(hb:b<200)(hcf:cA f)(hf:f b=true→b<bn):
  Calls Tryz.prog 98 #[dX pa pn pc ba bn bc,.int .i64 (b:Int),.agg (aQ f)] w (lK w (bL (nx (aG bs)) f b)):=by
 have hbl:(aG bs).length=bn:=by rw[dD];exact h.1.1
 have hbn:bn≤200:=by have:=((cY _).1 hg).1.2;omega
 have H:=aBO h
 have HG:=aBO hg
 have HC:=aBO hcf
 have HF:=aBO hf
 have HX:Hid (∀k y,y∈nx (aG bs) k→y<bn):=fun k y hy=>by have:=lJ hg hy;omega
 clear h hg hcf hf
 go_enter Tryz.func98,Tryz.ntmps98
 go_upto_region 2 with (fail)
 obtain⟨W,hW⟩:∃W,W=(((w.alloc (bO pa pn pc ba bn bc)).alloc (bY f)).alloc (.cells Tryz.zeroCells107 107)).alloc (.cells Tryz.zeroCells107 107):=⟨_,rfl⟩
 rw[←hW]
 have ho:W.heap[w.heap.size]? =some (bO pa pn pc ba bn bc):=by rw[hW,aBR _ _ _ (by simp<;>omega),aBR _ _ _ (by simp<;>omega),aBR _ _ _ (by simp)];exact aBS _ _
 have hi:W.heap[w.heap.size+1]? =some (bY f):=by rw[hW,aBR _ _ _ (by simp<;>omega),aBR _ _ _ (by simp),aU _ _ _ (by simp)]
 have hr:W.heap[w.heap.size+1+1]? =some (bY fun _=>false):=by rw[hW,aBR _ _ _ (by simp),aU _ _ _ (by simp),gQ]
 have hs:W.heap[w.heap.size+1+1+1]? =some (bY fun _=>false):=by rw[hW,aU _ _ _ (by simp),gQ]
 have hB:Below w.heap.size w W:=by rw[hW];exact(((aD _ _).alloc (by simp) _).alloc (by simp;omega) _).alloc (by simp;omega) _
 have hWs:W.heap.size=w.heap.size+1+1+1+1:=by rw[hW];simp
 have HWs:=aBO hWs
 have hc:=cX hi b hb
 have HO:=aBO ho
 have HI:=aBO hi
 have HR:=aBO hr
 have HS:=aBO hs
 have HB:=aBO hB
 clear hW hWs ho hi hr hs hB
 by_cases hfb:f b=true
 ·rw[hfb] at hc;have HFB:=aBO hfb;clear hfb;go_wp2
  go_loopg [8,9,10,11] 201 (fun gg v _ _ _ wr=>∃(st seen:List Nat),st.length+200≤gg+seen.length∧st.length≤seen.length+1∧Hid (BJ (bO pa pn pc ba bn bc) (nx (aG bs)) f b w st seen none v wr))
  case atStart=>
   refine⟨[b],[],by simp,by simp,by simpa using nH.start (nx (aG bs)) f b,by simp,by simp,?_,?_,?_,?_,?_,?_⟩
   ·exact(aBR _ _ _ (by rw[HWs.out];omega)).trans HO.out
   ·exact(aBR _ _ _ (by rw[HWs.out];omega)).trans HI.out
   ·exact(aBR _ _ _ (by rw[HWs.out];omega)).trans HR.out
   ·exact(aBR _ _ _ (by rw[HWs.out];omega)).trans HS.out
   ·exact nI.of_own (mX (xs:=aO [b]) rfl _ (by rw[HWs.out];omega) (JZ [b] (by simp;omega)) (by simp[aO]))
   ·exact HB.out.alloc (by rw[HWs.out];omega) _
  case round=>
   obtain⟨st,seen,hm,hm2,HJ⟩:=hrel;clear hc HO HI HS HR HB HWs;rcases st with _|⟨x,st'⟩
   ·obtain⟨h1,h2,h3,h4,h5,h6,h7,h8,h9⟩:=HJ.out;obtain⟨g,o,cap,rfl,hl1,hl2,_⟩:=h8.form;have HE:Hid ((fun y=>seen.contains y)=bL (nx (aG bs)) f b):=IJ HC.out HFB.out h1;rw[HE.out] at h7;have HS:=aBO h7;have HR:=aBO h6;have HB:=aBO h9;clear h1 h2 h3 h4 h5 h6 h7 h8 h9 HJ hm
    go_wp2_with (first
     |(refine wpList_load_row rfl 107 _ rfl (w.heap.size+1+1+1) rfl 107 _ (0,0) _ HS.out Tryz.underlying107 rfl (by rw[aF];exact aV) ?_)
     |(refine wpList_store_row rfl 107 _ _ rfl (w.heap.size+1+1) (aQ (bL (nx (aG bs)) f b)) rfl rfl 107 _ HR.out (by rw[aF];exact aV) rfl (dE _) ?_))
    exact bodyPost_ret (v:=.agg (aQ (bL (nx (aG bs)) f b))) (by simp[results,Tryz.results98,asAddr,Act.put,pX (setRow_heap _ _ _ _ _ _ HR.out)]) rfl ⟨rfl,below_setRow HB.out (by omega) _⟩
   ·obtain⟨h1,h2,h3,h4,h5,h6,h7,h8,h9⟩:=id HJ.out;have hst:aO (x :: st')=(x:Int) :: aO st':=rfl;rw[hst] at h8;obtain⟨g,o,cap,rfl,hl1,hl2,hints⟩:=h8.form;have hlen2:(aO st').length=st'.length:=by simp[aO]
    have hlen':((x:Int) :: aO st').length=st'.length+1:=by simp[aO]
    have hpop:=h8.tail;obtain⟨b1,o1,e1,hx0,_⟩:=hints.2.2 0 (by simp);injection e1 with e1;injection e1 with e1 e2;subst e1 e2;rw[Nat.add_zero] at hx0;have hx0':wr.cell? ⟨g,o,none⟩=some (.int .i64 (x:Int)):=hx0;have hxf:f x=true:=by
     rcases h1.src x (by simp) with e|e
     ·rw[e];exact HFB.out
     ·exact(h1.sound x e).inn
    have hxr:x<bn:=by
     rcases h1.src x (by simp) with e|e
     ·rw[e];exact HF.out HFB.out
     ·cases h1.sound x e with
      |one h _=>exact HX.out _ _ h
      |step _ h _=>exact HX.out _ _ h
    have hseen:seen.length≤200:=nT 200 seen h2 h3;have hstl:=hm;simp only[List.length_cons] at hstl hm2;rw[hlen'] at hl1;rw[hlen2] at hpop;rw[hlen'];have hcc:(cap=1∧st'= [])∨∃c2,cap=c2+2:=by
     by_cases e:cap=1
     ·exact .inl ⟨e,List.eq_nil_of_length_eq_zero (by omega)⟩
     ·exact .inr ⟨cap-2,by omega⟩
    have hj2:∀v2,nI wr (w.heap.size+1+1+1+1) v2 (aO st')→BJ (bO pa pn pc ba bn bc) (nx (aG bs)) f b w st' seen (some (x,0)) v2 wr:=fun v2 hp=>
     ⟨h1.take x st' (fun z=>by simp),h2,h3,h4,h5,h6,h7,hp,h9⟩
    have hpop1:cap=1→st'= []→nI wr (w.heap.size+1+1+1+1) (.slice (some ⟨g,o,none⟩) 0 0) (aO []):=fun e1 e2=>by
     obtain⟨g',o',cap',cur,e,k1,k2,k3,k4,k5,k6,k7,k8⟩:=h8;injection e with e1 e2 e3;injection e1 with e1;injection e1 with e1 e4 _;subst e1 e3 e4;exact⟨g,o,0,cur,rfl,k1,by simp[aO],by simp[maxLen],k4,by omega,fun k hk=>by simp[aO] at hk,fun z hz=>by simp[aO] at hz,by simp[aO]⟩
    have HK:=aBO h4;have HBw:=aBO h9;unfold maxLen at hl2;have hstn:st'.length≤1000:=by omega
    have hwq:w.heap.size+1+1+1+1≤wr.heap.size:=by have:=aN h7;omega
    have hqlow:∀v2,nI wr (w.heap.size+1+1+1+1) v2 (aO st')→∀k,v2.ownBlock=some k→k<wr.heap.size:=fun v2 h k hk=>(h.low hk).2;obtain⟨wq,rfl⟩:∃wq:World,wq=wr:=⟨_,rfl⟩
    rcases hcc with ⟨rfl,hs0⟩|⟨c2,rfl⟩
    case' inl=>have HJ2:=aBO (hj2 (.slice (some ⟨g,o,none⟩) 0 0) (by rw[hs0];exact hpop1 rfl hs0));have HQL:=aBO (hqlow (.slice (some ⟨g,o,none⟩) 0 0) (by rw[hs0];exact hpop1 rfl hs0));clear hs0
    case' inr=>have HJ2:=aBO (hj2 _ hpop);have HQL:=aBO (hqlow _ hpop)
    all_goals
     clear h1 h2 h3 h4 h5 h6 h7 h8 h9 HJ hm hst hlen' hlen2 hpop hxf hints hx0 hj2 hpop1 hqlow
     go_wp2_with (first
      |(refine wpList_load_row (o:=⟨some 27,.load 25 _,_,_,_,_⟩) rfl 25 _ rfl w.heap.size rfl 25 _ (0,0) _ HK.out Tryz.underlying25 rfl aS ?_)
      |(go_at_call 96
        refine(rG pa pn pc ba bn bc bs x wq (H.out.ext HBw.out) hxr).mono ?_;rintro e w1 ⟨v,rfl,ho,hb⟩;rw[NF HG.out] at ho;obtain⟨va,vc,rfl⟩:=ho.form;have HNX:=aBO (ho.mono (show w.heap.size+1+1+1+1≤wq.heap.size from hwq));have HSP:Hid (∀k,(Value.slice va (aO (nx (aG bs) x)).length vc).ownBlock=some k→wq.heap.size≤k):=fun k hk=>(ho.1.lt k hk).1;have HJ3:=aBO (HJ2.out.ext hb)
        clear ho hb hx0' HK HBw))
     have hnl:(aO (nx (aG bs) x)).length=(nx (aG bs) x).length:=by simp[aO]
     have hnl2:(nx (aG bs) x).length≤2:=by simp only[nx,List.length_map];exact sG _
     rw[hnl];rw[hnl] at HNX HSP;clear hnl HJ2;obtain⟨wo,rfl⟩:∃wo:World,wo=w1:=⟨_,rfl⟩
     go_loopg [8,11] (nx (aG bs) x).length (fun g2 v2 j wi=>∃(j':Nat) (st2 seen2:List Nat),j=.int .i64 (j':Int)∧j'≤(nx (aG bs) x).length∧(nx (aG bs) x).length≤g2+j'∧st2.length+seen.length=st'.length+seen2.length∧Hid (bN wi (w.heap.size+1+1+1+1) (.slice va (nx (aG bs) x).length vc) (aO (nx (aG bs) x)))∧Hid (∀k,v2.ownBlock=some k→(Value.slice va (nx (aG bs) x).length vc).ownBlock≠some k)∧Hid (BJ (bO pa pn pc ba bn bc) (nx (aG bs)) f b w st2 seen2 (some (x,j')) v2 wi))
     case atStart=>exact⟨0,_,seen,rfl,Nat.zero_le _,aBV _,rfl,HNX,fun k hk e=>by have:=HSP.out k e;have:=HQL.out k hk;omega,HJ3⟩
     case round=>
      obtain⟨j',st2,seen2,rfl,hj,hg2,hcnt,HN,HSE,HJ⟩:=hrel;clear HJ3 HNX HQL HSP;obtain⟨h1,h2,h3,h4,h5,h6,h7,h8,h9⟩:=id HJ.out;obtain⟨g3,o3,cap3,rfl,hl3,hl4,_⟩:=h8.form;have hseen2:seen2.length≤200:=nT 200 seen2 h2 h3;unfold maxLen at hl4;by_cases hjl:j'<(nx (aG bs) x).length
      ·have hyx:(nx (aG bs) x).getD j' 0∈nx (aG bs) x:=by rw[aBT,aBU hjl];exact aBZ _
       have hyb:=HX.out x _ hyx;have hy:(nx (aG bs) x).getD j' 0<200:=by omega
       obtain⟨b3,o4,rfl,hcy,_⟩:=HN.out.ints.2.2 j' hjl;have hey:(aO (nx (aG bs) x)).getD j' 0=(((nx (aG bs) x).getD j' 0:Nat):Int):=by simp[aO,aBT,hjl]
       rw[hey] at hcy;have hcf:=cX h5 _ hy;have hcs:=cX h7 _ hy;have hfs:=gC h7 ((nx (aG bs) x).getD j' 0);have hlS:=aN h7;have hjl':(j':Int)<((nx (aG bs) x).length:Int):=by omega
       clear hey hyx;by_cases hgo:f ((nx (aG bs) x).getD j' 0)=true∧seen2.contains ((nx (aG bs) x).getD j' 0)=false
       ·obtain⟨hg1,hg2'⟩:=hgo;have hns:(nx (aG bs) x).getD j' 0∉seen2:=by simpa using hg2'
        have hP:=h1.push hjl hg1 (st2++ [(nx (aG bs) x).getD j' 0]) (fun z=>by simp[or_comm]) (fun z=>((nx (aG bs) x).getD j' 0 :: seen2).contains z) (fun z=>by simp);rw[hg1] at hcf;simp only[hg2'] at hcs;have HP:=aBO hP;have HNS:=aBO hns;have e1:(fun k=>if k=(nx (aG bs) x).getD j' 0 then true else seen2.contains k)=(fun z=>((nx (aG bs) x).getD j' 0 :: seen2).contains z):=by
         funext k
         by_cases e:k=(nx (aG bs) x).getD j' 0
         ·simp[e]
         ·simp[e,List.contains_cons]
        have hgr:=bA wr (w.heap.size+1+1+1) ((nx (aG bs) x).getD j' 0) (.bool true);have HS1:=aBO (kC (b:=true) h7 hy e1);have HO1:=aBO (aK hgr h4 (by simp;omega));have HI1:=aBO (aK hgr h5 (by simp;omega));have HR1:=aBO (aK hgr h6 (by simp));have HQ1:=aBO (h8.chg (gX wr (w.heap.size+1+1+1) ((nx (aG bs) x).getD j' 0) (.bool true)) (fun k hk e=>by have:=(h8.low hk).1;omega));have HB1:=aBO (h9.setCell (p:=⟨w.heap.size+1+1+1,(nx (aG bs) x).getD j' 0,none⟩) (by simp;omega) (.bool true));have HN1:=aBO (HN.out.kept hgr (.inr (by simp only[Value.ownBlock,ne_eq,Option.some.injEq];have:=(HN.out.1.lt b3 rfl).1;omega)))
        have hcy2:(wr.setCell ⟨w.heap.size+1+1+1,(nx (aG bs) x).getD j' 0,none⟩ (.bool true)).cell? ⟨b3,o4+j',none⟩=some (.int .i64 (((nx (aG bs) x).getD j' 0:Nat):Int)):=
         (World.cell?_of_block (Below.heap_setCell _ _ _ _ (fun e=>by have:=(HN.out.1.lt b3 rfl).1;simp only at e;omega))).trans hcy
        have H2:=aBO h2;have H3:=aBO h3;have hst2:(aO st2).length=st2.length:=by simp[aO]
        have hsl2:(aO st2).length≤1000:=by omega
        clear hg1 hg2' hns hP e1 h1 h2 h3 h4 h5 h6 h7 h8 h9 HJ hgr HN;generalize hyy:(nx (aG bs) x).getD j' 0=y at *;have hyI:I64 (y:Int):=by unfold I64;omega
        go_wp2_with (
         (at_builtin
          refine wO rfl (wr.setCell ⟨w.heap.size+1+1+1,y,none⟩ (.bool true)) (.tmp 56) (.tmp 61) 22 rfl (w.heap.size+1+1+1+1) _ 8 Tryz.underlying22 lY rfl (.slice (some ⟨g3,o3,none⟩) (aO st2).length cap3) (aO st2) rfl HQ1.out (y:Int) hyI wr.heap.size (by simp) rfl (by omega) (by omega) (by simp;omega) ?_;intro v5 w5 hq5 hg5 hb5;have HQ5:=aBO hq5;have HG5:=aBO hg5;have HB5:=aBO hb5
          clear hq5 hg5 hb5))
        have hrow:∀(k:Nat),k<w.heap.size+1+1+1+1→¬(Value.slice (some ⟨g3,o3,none⟩) (aO st2).length cap3).ownBlock=some k:=fun k hk e=>by
         have:=(HQ1.out.low e).1;omega
        go_roundg ((nx (aG bs) x).length-(j'+1))
        case measure=>omega
        case rel=>
         refine⟨j'+1,st2++ [y],y :: seen2,by go_num,by omega,by omega,by simp;omega,HN1.out.kept HG5.out (.inr fun e=>HSE.out _ e.symm rfl),?_,HP.out,List.nodup_cons.2 ⟨HNS.out,H2.out⟩,?_,?_,?_,?_,?_,?_,?_⟩
         ·intro k hk;rcases HB5.out with e|⟨q,e,hq⟩
          ·exact HSE.out k (by rw[←e];exact hk)
          ·rw[e] at hk;injection hk with hk;intro e2;have:=(HN1.out.1.lt k e2).2;omega
         ·intro z hz;rcases List.mem_cons.1 hz with rfl|hz
          ·exact hy
          ·exact H3.out z hz
         ·exact aK HG5.out HO1.out (hrow _ (by omega))
         ·exact aK HG5.out HI1.out (hrow _ (by omega))
         ·exact aK HG5.out HR1.out (hrow _ (by omega))
         ·exact aK HG5.out HS1.out (hrow _ (by omega))
         ·have e2:aO (st2++ [y])=aO st2++ [(y:Int)]:=by simp[aO]
          rw[e2];exact HQ5.out
         ·exact HB1.out.grown HG5.out (by simp;omega) (fun k e=>by have:=(HQ1.out.low e).1;omega)
       ·have HJ3:Hid (BJ (bO pa pn pc ba bn bc) (nx (aG bs)) f b w st2 seen2 (some (x,j'+1)) (.slice (some ⟨g3,o3,none⟩) (aO st2).length cap3) wr):=by
         refine⟨h1.skip hjl (fun hi=>?_),h2,h3,h4,h5,h6,h7,h8,h9⟩;cases hb2:seen2.contains ((nx (aG bs) x).getD j' 0) with
         |true=>rfl
         |false=>exact absurd ⟨hi,hb2⟩ hgo
        have hgo':f ((nx (aG bs) x).getD j' 0)=true→seen2.contains ((nx (aG bs) x).getD j' 0)=true:=fun hi=>by
         cases hb2:seen2.contains ((nx (aG bs) x).getD j' 0) with
         |true=>rfl
         |false=>exact absurd ⟨hi,hb2⟩ hgo
        clear h1 h2 h3 h4 h5 h6 h7 h8 h9 HJ hgo;generalize hyy:(nx (aG bs) x).getD j' 0=y at *;cases hfy:f y with
        |true=>
         have hsy:=hgo' hfy;rw[hfy] at hcf;simp only[hsy] at hcs;clear hgo' hsy hfy;go_wp2
         go_roundg ((nx (aG bs) x).length-(j'+1))
         case measure=>omega
         case rel=>exact⟨j'+1,st2,seen2,by go_num,by omega,by omega,by omega,HN,HSE,HJ3⟩
        |false=>
         rw[hfy] at hcf;clear hgo' hfy;go_wp2
         go_roundg ((nx (aG bs) x).length-(j'+1))
         case measure=>omega
         case rel=>exact⟨j'+1,st2,seen2,by go_num,by omega,by omega,by omega,HN,HSE,HJ3⟩
      ·obtain rfl:j'=(nx (aG bs) x).length:=by omega
       have HJ3:Hid (BJ (bO pa pn pc ba bn bc) (nx (aG bs)) f b w st2 seen2 none (.slice (some ⟨g3,o3,none⟩) (aO st2).length cap3) wr):=⟨h1.fin (aBV _),h2,h3,h4,h5,h6,h7,h8,h9⟩
       clear h1 h2 h3 h4 h5 h6 h7 h8 h9 HJ;go_wp2
       go_roundg (st2.length+200-seen2.length)
       case measure=>omega
       case rel=>exact⟨st2,seen2,by omega,by omega,HJ3⟩
 ·have hfb':f b=false:=by simpa using hfb
  rw[hfb'] at hc;have HE:Hid (bL (nx (aG bs)) f b=fun _=>false):=IK hfb';clear hfb hfb'
  go_wp2_with (first
   |(refine wpList_load_row rfl 107 _ rfl (w.heap.size+1+1+1) rfl 107 _ (0,0) _ HS.out Tryz.underlying107 rfl (by rw[aF];exact aV) ?_)
   |(refine wpList_store_row rfl 107 _ _ rfl (w.heap.size+1+1) (aQ fun _=>false) rfl rfl 107 _ HR.out (by rw[aF];exact aV) rfl (dE _) ?_))
  exact bodyPost_ret (v:=.agg (aQ fun _=>false)) (by simp[results,Tryz.results98,asAddr,Act.put,pX (setRow_heap _ _ _ _ _ _ HR.out)]) rfl ⟨by rw[HE.out],below_setRow HB.out (by omega) _⟩
end
end Go.Proofs.YtblhmdhfhaencaaGreat
