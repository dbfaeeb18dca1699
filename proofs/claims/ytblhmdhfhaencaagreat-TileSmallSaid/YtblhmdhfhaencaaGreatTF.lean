/-
 Stores of whole rows,the world behind under a name of its own;reads in whatever world is grown out of one. No program in sight.
-/
import Derived.Test.YtblhmdhfhaencaaGreatBR
import Derived.Laws.Tables
import Derived.Laws.CopyOwn
import Derived.RangeFuncRecord
import Derived.RangeFuncLeaves
import Derived.RangeFuncSeq
import Derived.RangeFuncIn
import Derived.RangeFuncOwn
import Derived.TacticsInMore
import Derived.LoopNIn
import Derived.LoopIn
import Derived.OwnWalkIn
import Derived.RangeFuncCalls
import Derived.Shelf.RegionOpen
import Derived.Deep.Quiet
import Derived.OrdersHeld
import Derived.Maps.AppendAt
import Derived.Deep.RegionHeld3
import Derived.Laws.OwnMore
import Derived.Test.YtblhmdhfhaencaaGreatRows
import Derived.ChangeKeysEq
import Derived.WalkSpells
import Derived.Scope
import Derived.Deep.DeepCutAuto
import Derived.Deep.LoopGhost
namespace Go.Proofs.YtblhmdhfhaencaaGreat
set_option linter.unusedSimpArgs false
set_option linter.unusedVariables false
set_option linter.unusedSectionVars false
set_option maxRecDepth 100000
set_option maxHeartbeats 40000000
section
open Go.RowKit
section
variable {P:Program} {Q:Exit→Act→World→Prop}
theorem eC{ops:Array Oper}{rest:List Oper}{o:Oper}{a:Act}{w:World}(hgd:o.guard=none)(ty:TypeId)(x y:Operand)(ho:o.op=.store ty x y)
  (g:Nat) (cells:Array Value) (hx:a.eval x=.pointer (some ⟨g,0,none⟩)) (hy:a.eval y=.agg cells)
  (t:TypeId) (old:Array Value) (hg:w.heap[g]? =some (.cells old t (0,0))) (hi:(P.info? ty).map (·.size)=some cells.size)
  (hold:old.size=cells.size) (h1:cells.all (·.oneCell')=true) (B:Nat) (w0:World) (hb:Below B w0 w) (hB:B≤g)
  (h:∀W',Below B w0 W'→W'.heap[g]? =some (.cells cells t (0,0))→wpList P ops Q rest (a.put o.dst undef) W'):wpList P ops Q (o :: rest) a w:=
 wpList_store_row hgd ty x y ho g cells hx hy t old hg hi hold h1 (h _ (below_setRow hb hB _) (setRow_heap _ _ _ _ _ _ hg))
end
theorem nN{w w2:World}(h:Below w.drew.heap.size w.drew w2):Below w.heap.size w w2:=⟨h.os,h.tape,h.output,h.size,h.block⟩
theorem eI{w:World}{base:Nat}{e:TypeId}{size:Nat}{v:Value}{n:Nat}{xs:List Value}(h:w.ownsRow base e size v n xs)(hn:0<n):∃g c,v=.slice (some ⟨g,0,none⟩) n c:=by
 rcases h.2 with ⟨_,h0⟩|⟨g,cap,cur,hv,_⟩
 ·omega
 ·exact⟨g,cap,hv⟩
theorem YQ{w:World}{base:Nat}{e:TypeId}{g n c:Nat}{xs:List Int}(h:w.ownsRow base e 1 (.slice (some ⟨g,0,none⟩) n c) n (xs.map (Value.int .i64)))(hx:∀x∈xs,I64 x)(hn:n≤17592186044416):dY w (some ⟨g,0,none⟩) n xs:=by
 have hl:xs.length=n:=by have:=h.1;simpa using this
 refine⟨hl,hn,fun k hk=>⟨g,0,rfl,?_,?_⟩⟩
 ·rw[Nat.zero_add,World.ownsRow.cellAt h k (by omega)];simp[aBT,show k<xs.length by omega]
 ·have:xs.getD k 0∈xs:=by
   rw[aBT,aBU (by omega)];exact aBZ _
  exact hx _ this
theorem dY.mem{w:World}{a:Option Addr}{n:Nat}{xs:List Int}(h:dY w a n xs):∀x∈xs,I64 x:=by
 intro x hx
 obtain⟨k,hk,e⟩:=List.mem_iff_getElem.1 hx
 obtain⟨_,_,_,_,hi⟩:=h.2.2 k (by rw[←h.1];exact hk)
 rw[aBT,aBU hk,Option.getD_some,e] at hi
 exact hi
theorem aB{w w':World}(h:Below w.heap.size w w'){k:Nat}{o:Obj}(hk:w.heap[k]? =some o):w'.heap[k]? =some o:=(h.block k (aBW.1 hk).1).trans hk
end

section
open Go.RowKit
def aQ(f:Nat→Bool):Array Value:=((List.range 200).map fun j=>Value.bool (f j)).toArray
theorem aF(f:Nat→Bool):(aQ f).size=200:=by simp[aQ]
theorem iV(f:Nat→Bool)(j:Nat)(h:j<200):(aQ f)[j]? =some (.bool (f j)):=by simp[aQ,h]
theorem IP(f:Nat→Bool)(j:Nat)(h:j<200)(b:Bool):(aQ f).setIfInBounds j (.bool b)=aQ (fun k=>if k=j then b else f k):=by
 apply Array.ext_getElem?
 intro k
 by_cases hk:k<200
 ·rw[Array.getElem?_setIfInBounds,iV f k hk,iV _ k hk];by_cases e:j=k
  ·subst e;simp[aF,h]
  ·rw[if_neg e,if_neg (fun x=>e x.symm)]
 ·rw[Array.getElem?_eq_none (by simp[aF];omega),Array.getElem?_eq_none (by simp[aF];omega)]
theorem dE(f:Nat→Bool):(aQ f).all (·.oneCell')=true:=by
 rw[Array.all_eq_true_iff_forall_mem]
 intro v hv
 simp[aQ] at hv
 obtain⟨j,_,rfl⟩:=hv
 rfl
end

section
open Go.RowKit
theorem SN(x:Int)(w:World):Calls Tryz.prog 211 (#[.int .i64 x]++ #[]) w fun e w'=>e=.returned (.bool (x != 0))∧Below w.heap.size w w':=by
 show Calls Tryz.prog 211 #[.int .i64 x] w _
 go_enter Tryz.func211,Tryz.ntmps211
 go_wp2
 go_ret
 exact⟨rfl,aBQ _ _⟩
theorem PH(args:Array Value)(w:World):(callFunc 211 args).run Tryz.prog w=.ok (.enter 211 args) w:=by kernel_rfl
def xO(xs:List Int):Bool:= !xs.any (fun x=>x != 0)
theorem AN(a:Option Addr)(n c:Nat)(xs:List Int)(w:World)(h:dY w a n xs):
  Calls Tryz.prog 174 #[.slice a n c] w fun e w'=>e=.returned (.bool (xO xs))∧Below w.heap.size w w':=by
 have H:=aBO h
 clear h
 go_enter Tryz.func174,Tryz.ntmps174
 go_wp2_with (go_at_call 168;refine(kJ _ #[] PH (fun x=>x != 0) a n c xs w (fun x W _ _=>SN x W) H.out).mono ?_;rintro e w' ⟨rfl,hb'⟩;have HB':=aBO hb';clear hb')
 go_ret
 exact⟨rfl,HB'.out⟩
theorem vU(n:Int)(w:World):Calls Tryz.prog 175 #[.int .i64 n] w fun e w'=>e=.returned (.bool (sZ n))∧w=w':=by
 by_cases h1:1≤n
 ·have d1:decide (1≤n)=true:=by simpa using h1
  have HE:Hid (sZ n=decide (n≤200)):=by rw[Hid,sZ,decide_eq_decide];omega
  go_enter Tryz.func175,Tryz.ntmps175
  go_wp2
  go_ret
  exact⟨by rw[HE.out];rfl,rfl⟩
 ·have d1:decide (1≤n)=false:=by simpa using h1
  have HE:Hid (sZ n=false):=by rw[Hid,sZ,decide_eq_false_iff_not];omega
  go_enter Tryz.func175,Tryz.ntmps175
  go_wp2
  go_ret
  exact⟨by rw[HE.out];rfl,rfl⟩
def zZ(b:Bool)(n:Int):Bool:=if b then sZ n else decide (n=0)
theorem KI(b:Bool)(n:Int)(w:World):Calls Tryz.prog 176 #[.bool b,.int .i64 n] w fun e w'=>e=.returned (.bool (zZ b n))∧w=w':=by
 cases b with
 |true=>
  go_enter Tryz.func176,Tryz.ntmps176
  go_wp2_with (go_at_call 175;refine(vU _ _).mono ?_;rintro e w' ⟨rfl,rfl⟩)
  go_ret
  exact⟨rfl,rfl⟩
 |false=>
  have HE:Hid (zZ false n=(n==0)):=by
   rw[Hid,zZ,if_neg (by simp)];by_cases h:n=0<;>simp[h]
  go_enter Tryz.func176,Tryz.ntmps176
  go_wp2
  go_ret
  exact⟨by rw[HE.out];rfl,rfl⟩
abbrev zW(t:aT):Value:=.agg #[.int .i64 t.kind,.int .i64 t.a,.int .i64 t.t0,.int .i64 t.t1]
abbrev aAU(t:aT):Obj:=.cells #[.int .i64 t.kind,.int .i64 t.a,.int .i64 t.t0,.int .i64 t.t1] 70
def qE(t:aT):Prop:=I64 t.kind∧I64 t.a∧I64 t.t0∧I64 t.t1
theorem vP{W:World}{g o:Nat}{cells:Array Value}{t:TypeId}(hg:W.heap[g]? =some (.cells cells t (0,0)))(xs:List Int)(hx:∀x∈xs,I64 x)(hn:xs.length≤1000)(hc:∀k,k<xs.length→cells[o+k]? =some (.int .i64 (xs.getD k 0))):dY W (some ⟨g,o,none⟩) xs.length xs:=
 ⟨rfl,by omega,fun k hk=>⟨g,o,rfl,by rw[aBP _ _ _ _ _ _ hg];exact hc k hk,hx _ (by rw[aBT,aBU hk];exact aBZ _)⟩⟩
theorem aU(W:World)(o:Obj)(H:Nat)(hH:W.heap.size=H):(W.alloc o).heap[H]? =some o:=by subst hH;exact aBS _ _
def KY(t:aT)(w:World)(e:Ending)(w':World):Prop:=e=.returned (.bool (eH t))∧Below w.heap.size w w'
theorem mO(t:aT)(w:World)(h:qE t):Calls Tryz.prog 128 #[zW t] w (KY t w):=by
 obtain⟨⟨h1,h2⟩,⟨h3,h4⟩,⟨h5,h6⟩,h7,h8⟩:=h
 obtain⟨k,a,x,y⟩:=t
 simp only at h1 h2 h3 h4 h5 h6 h7 h8
 have HX:=aBO (show∀z∈[a,x,y],I64 z by simp[I64];omega)
 have box:∀(W:World),Below w.heap.size w W→∀W',Below W.heap.size W W'→Below w.heap.size w W':=fun W h1 W' h2=>aA h1 h2
 have HBX:=aBO box
 clear box
 by_cases k1:k=1
 ·subst k1;have HE:Hid (eH ⟨1,a,x,y⟩=xO [a,y]):=by
   rw[Hid,Bool.eq_iff_iff];simp[eH,xO]
  go_enter Tryz.func128,Tryz.ntmps128
  go_wp2_with (go_at_call 174;refine(AN _ _ _ [a,y] _ (vP (aU _ _ _ (by simp)) [a,y] (fun z hz=>HX.out z (by simp at hz⊢;omega)) (by simp) (fun k hk=>by match k,hk with|0,_=>rfl|1,_=>rfl))).mono ?_;rintro e w' ⟨rfl,hb'⟩;have HB':=aBO hb';clear hb')
  go_ret
  exact⟨by rw[HE.out];rfl,HBX.out _ ((aD _ _).alloc (by simp) _) _ HB'.out⟩
 ·by_cases k2:k=2
  ·subst k2;have HE:Hid (eH ⟨2,a,x,y⟩=sZ a):=by
    rw[Hid,Bool.eq_iff_iff];simp[eH]
   go_enter Tryz.func128,Tryz.ntmps128
   go_wp2_with (go_at_call 175;refine(vU _ _).mono ?_;rintro e w' ⟨rfl,rfl⟩)
   go_ret
   exact⟨by rw[HE.out];rfl,aD _ _⟩
  ·by_cases k3:k=3
   ·subst k3;by_cases hf:zZ (a != 0) a=true
    ·have HE:Hid (eH ⟨3,a,x,y⟩=xO [x,y]):=by
      rw[Hid,Bool.eq_iff_iff];unfold zZ at hf;by_cases ha:a=0
      ·simp[eH,xO,ha]
      ·simp[ha] at hf;simp[eH,xO,hf]
     have HF:=aBO hf;clear hf
     go_enter Tryz.func128,Tryz.ntmps128
     go_wp2_with (first
      |(go_at_call 174;refine(AN _ _ _ [x,y] _ (vP (aBS _ _) [x,y] (fun z hz=>HX.out z (by simp at hz⊢;omega)) (by simp) (fun k hk=>by match k,hk with|0,_=>rfl|1,_=>rfl))).mono ?_;rintro e w' ⟨rfl,hb'⟩;have HB':=aBO hb';clear hb')
      |(go_at_call 176;refine(KI _ _ _).mono ?_;rintro e w' ⟨rfl,rfl⟩;rw[HF.out]))
     go_ret
     exact⟨by rw[HE.out];rfl,HBX.out _ (aD _ _) _ HB'.out⟩
    ·have HE:Hid (eH ⟨3,a,x,y⟩=false):=by
      rw[Hid,Bool.eq_false_iff];unfold zZ at hf;by_cases ha:a=0
      ·simp[ha] at hf
      ·simp[ha] at hf;simp[eH,hf,ha]
     have hf':zZ (a != 0) a=false:=by simpa using hf
     have HF:=aBO hf';clear hf hf'
     go_enter Tryz.func128,Tryz.ntmps128
     go_wp2_with (go_at_call 176;refine(KI _ _ _).mono ?_;rintro e w' ⟨rfl,rfl⟩;rw[HF.out])
     go_ret
     exact⟨by rw[HE.out];rfl,aD _ _⟩
   ·have b1:(k==1)=false:=by simpa using k1
    have b2:(k==2)=false:=by simpa using k2
    have b3:(k==3)=false:=by simpa using k3
    by_cases k4:k=4
    ·subst k4;have HE:Hid (eH ⟨4,a,x,y⟩=xO [a,x,y]):=by
      rw[Hid,Bool.eq_iff_iff];simp[eH,xO]
     clear b1 b2 b3 k1 k2 k3
     go_enter Tryz.func128,Tryz.ntmps128
     go_wp2_with (go_at_call 174;refine(AN _ _ _ [a,x,y] _ (vP (aU _ _ _ (by simp)) [a,x,y] (fun z hz=>HX.out z hz) (by simp) (fun k hk=>by match k,hk with|0,_=>rfl|1,_=>rfl|2,_=>rfl))).mono ?_;rintro e w' ⟨rfl,hb'⟩;have HB':=aBO hb';clear hb')
     go_ret
     exact⟨by rw[HE.out];rfl,HBX.out _ ((aD _ _).alloc (by simp) _) _ HB'.out⟩
    ·have HE:Hid (eH ⟨k,a,x,y⟩=false):=by
      rw[Hid,Bool.eq_false_iff];simp[eH,k1,k2,k3,k4]
     have b4:(k==4)=false:=by simpa using k4
     clear k1 k2 k3 k4
     go_enter Tryz.func128,Tryz.ntmps128
     go_wp2
     go_ret
     exact⟨by rw[HE.out];rfl,aD _ _⟩
end

section
open Go.RowKit
theorem cT(f:FuncId):Fence.wide.fn f=True:=rfl
theorem bM:Fence.wide.depth=none:=rfl
theorem cC(l:Nat)(f:FuncId):(Fence.wide.inRound l).fn f=True:=rfl
theorem bG(l:Nat):(Fence.wide.inRound l).depth=none:=rfl
def qD:Obj→Bool
 | .loop _=>true
 | .deferred _=>true
 |_=>false
def dI(W W':World):Prop:=∀(k:Nat) (o:Obj),W.heap[k]? =some o→qD o=true→W'.heap[k]? =some o
theorem dI.refl(W:World):dI W W:=fun _ _ h _=>h
theorem dI.trans{A B C:World}(h:dI A B)(k:dI B C):dI A C:=fun i o hi ho=>k i o (h i o hi ho) ho
theorem dI.setCell(W:World)(a:Addr)(v:Value):dI W (W.setCell a v):=fun k o hk ho=>by
 by_cases e:k=a.block
 ·subst e;obtain⟨hlt,hk'⟩:=aBW.1 hk;show(W.heap.modify a.block _)[a.block]? =some o;rw[Array.getElem?_eq_getElem (by rw[Array.size_modify];exact hlt),Array.getElem_modify_self,hk'];cases o<;>first|rfl|(simp[qD] at ho)
 ·exact(Below.heap_setCell W a v k e).trans hk
theorem dI.ext{W W':World}(h:Below W.heap.size W W'):dI W W':=fun k _ hk _=>(h.block k (aBW.1 hk).1).trans hk
theorem dI.grown{W W':World}{row:Option Nat}(hg:W.grownBy W' row)(hrow:∀(j:Nat) (o:Obj),row=some j→W.heap[j]? =some o→qD o=false):dI W W':=
 fun k o hk ho=>by
  refine(hg.block k (aBW.1 hk).1 ?_).trans hk;intro e;rw[hrow k o e.symm hk] at ho;cases ho
def aR(B:Nat)(J:World→Prop):Prop:=
 ∀W W' row,J W→W.grownBy W' row→(∀r,row=some r→B≤r∧∃o:Obj,W.heap[r]? =some o∧qD o=true)→J W'
theorem aR.pure(B:Nat)(p:Prop):aR B (fun _=>p):=fun _ _ _ h _ _=>h
theorem aR.and{B:Nat}{J J':World→Prop}(h:aR B J)(h':aR B J'):aR B (fun W=>J W∧J' W):=
 fun W W' row hj hg hr=>⟨h W W' row hj.1 hg hr,h' W W' row hj.2 hg hr⟩
theorem aR.ex{B:Nat}{α:Sort _}{J:α→World→Prop}(h:∀x,aR B (J x)):aR B (fun W=>∃x,J x W):=
 fun W W' row ⟨x,hj⟩ hg hr=>⟨x,h x W W' row hj hg hr⟩
theorem BY{W W':World}{row:Option Nat}{B k:Nat}{o:Obj}(hk:W.heap[k]? =some o)(ho:qD o=false)(hg:W.grownBy W' row)
  (hr:∀r,row=some r→B≤r∧∃o:Obj,W.heap[r]? =some o∧qD o=true):W'.heap[k]? =some o:=by
 refine(hg.block k (aBW.1 hk).1 (fun e=>?_)).trans hk
 obtain⟨_,o',ho',hb⟩:=hr k e.symm
 rw[hk] at ho';cases ho';rw[ho] at hb;cases hb
theorem aR.block(B k:Nat){o:Obj}(ho:qD o=false):aR B (fun W=>W.heap[k]? =some o):=fun _ _ _ h hg hr=>BY h ho hg hr
theorem aR.below{n₀ B:Nat}{w₀:World}(hn:n₀≤w₀.heap.size)(hB:n₀≤B):aR B (fun W=>Below n₀ w₀ W):=
 fun _ _ _ hs hg hr=>hs.grown hg (aCD hn hs.size) (fun k e=>aCD hB (hr k e).1)
theorem aR.keep(B:Nat)(w₀:World)(hB:w₀.heap.size≤B):aR B (fun W=>dI w₀ W):=
 fun W W' row h hg hr k o hk ho=>by
  have h1:=h k o hk ho;refine(hg.block k (aBW.1 h1).1 (fun e=>?_)).trans h1;have:=(hr k e.symm).1;have:=(aBW.1 hk).1;omega
theorem aR.ownsRow(B:Nat)(base:Nat)(e:TypeId)(size:Nat)(v:Value)(n:Nat)(xs:List Value):aR B (fun W=>W.ownsRow base e size v n xs):=
 fun W W' row h hg hr=>by
  refine⟨h.1,?_⟩;rcases h.2 with h2|⟨g,cap,cur,hv,hb,hh,r⟩
  ·exact Or.inl h2
  ·exact Or.inr ⟨g,cap,cur,hv,hb,BY hh rfl hg hr,r⟩
theorem aR.ext{B:Nat}{J:World→Prop}(h:aR B J){W W':World}(hj:J W)(hb:Below W.heap.size W W'):J W':=
 h W W' none hj ⟨hb.os,hb.tape,hb.output,hb.size,fun k hk _=>hb.block k hk⟩ (fun r e=>by cases e)
theorem aR.put{B:Nat}{J:World→Prop}(h:aR B J){W:World}{l:Nat}{o:Obj}(o':Obj)(hj:J W)(hl:B≤l)(ho:W.heap[l]? =some o)(hb:qD o=true):J (W.putObj l o'):=
 h W _ (some l) hj (grownBy_putObj' W l o') (fun r e=>by cases e;exact⟨hl,o,ho,hb⟩)
def kP(JN:World→Prop)(JX:Code→World→Prop):Exit→Act→World→Prop
 | .normal,_,W=>JN W
 | .ret,_,W=>JX .ret W
 | .exit id,_,W=>JX (.exit id) W
 | .goto t,_,W=>JX (.goto t) W
 | .panic _,_,_=>False
 | .outgrown,_,_=>False
def UG{σ α:Type}(P:Program)(gf:Nat)(lb:Array Value)(enc:α→Array Value)(ok:σ→α→Prop)(nx:σ→α→σ)(s0:σ)(Fin:σ→Prop)(Inv:σ→World→Prop):Prop:=
 ∀(l:Nat) (K:σ→World→Prop) (Kx:World→Prop) (W:World),
  (∀s W W',K s W→Below W.heap.size W W'→K s W')→(∀W W',Kx W→Below W.heap.size W W'→Kx W')→(∀s W,K s W→Inv s W)→
  (∀s x W,ok s x→K s W→YieldAt Fence.wide 0 P l (enc x) W fun e W'=>(e=.returned (.bool true)∧K (nx s x) W')∨(e=.returned (.bool false)∧Kx W'))→
  K s0 W→CallsIn Fence.wide 0 P gf (#[.func (.yield l) #[] #[]]++lb) W fun e W'=>(∃v,e=.returned v)∧((∃s,Fin s∧K s W')∨Kx W')
theorem LH{P:Program}{σ α:Type}{g:Operand}{ps:Array Tmp}{assign body:Code}{Q:Exit→Act→World→Prop}{a:Act}{w:World}{gf:Nat}{lb:Array Value}
  (hg:a.eval g=.func (.func gf) #[] lb) (eg:∀args w,(callFunc gf args).run P w=.ok (.enter gf args) w)
  {enc:α→Array Value} {ok:σ→α→Prop} {nx:σ→α→σ} {s0:σ} {Fin:σ→Prop} {Inv:σ→World→Prop} (hit:UG P gf lb enc ok nx s0 Fin Inv)
  (hps:∀x,(enc x).size=ps.size)
  (J:σ→World→Prop) (Jx:Code→World→Prop) (A:σ→α→Act→World→Prop)
  (hJ:∀s,aR w.heap.size (J s)) (hJx:∀c,aR w.heap.size (Jx c)) (hA:∀s x a,aR w.heap.size (A s x a)) (hInv:∀s W,J s W→Inv s W)
  (h0:J s0 w)
  (hassign:∀(l:Nat) (s:σ) (x:α) (W:World),ok s x→J s W→
    assign.wpIn (Fence.wide.inRound l) 0 P (Exit.then (fun a1 W1=>dI W W1∧J s W1∧A s x a1 W1) (fun _ _ _=>False)) {tmps:=(ps.zip (enc x)).foldl (fun t (p,v)=>t.setIfInBounds p v) a.tmps,defers:= []} W)
  (hbody:∀(l:Nat) (s:σ) (x:α) (a1:Act) (W:World),ok s x→J s W→A s x a1 W→
    body.wpIn (Fence.wide.inRound l) 0 P (kP (fun W'=>dI W W'∧J (nx s x) W') (fun c W'=>dI W W'∧Jx c W')) a1 W)
  (hdone:∀(D:Nat) (s:σ) (W:World),w.heap.size≤D→Fin s→J s W→W.heap[D]? =some (.deferred (some []))→Q .normal {a with defers:={target:=.collected D,args:=#[]} :: a.defers} W)
  (hstop:∀(D:Nat) (c:Code) (W:World),w.heap.size≤D→Jx c W→W.heap[D]? =some (.deferred (some []))→c.wpIn Fence.wide 0 P Q {a with defers:={target:=.collected D,args:=#[]} :: a.defers} W):
  (Code.rangeFunc g ps assign body).wpIn Fence.wide 0 P Q a w:=by
 refine wpIn_rangeFunc ?_
 intro fn hfn
 obtain⟨rec,hrec⟩:∃rec:LoopState→Option Code→Loop,rec=fun st pe=>{state:=st,pending:=pe,fn,tmps:=a.tmps,params:=ps,assign,body,defers:=w.heap.size}:=⟨_,rfl⟩
 obtain⟨W1,hW1⟩:∃W1,(w.alloc (.deferred (some []))).alloc (.loop (rec .ready none))=W1:=⟨_,rfl⟩
 have hL1:W1.heap[w.heap.size+1]? =some (.loop (rec .ready none)):=by
  rw[←hW1];have:=World.alloc_heap_new (w.alloc (.deferred (some []))) (.loop (rec .ready none));rwa [World.size_alloc] at this
 have hK1:W1.heap[w.heap.size]? =some (.deferred (some [])):=by
  rw[←hW1];exact(aBR _ _ _ (by simp)).trans (World.alloc_heap_new w _)
 have hb1:Below w.heap.size w W1:=by
  rw[←hW1];exact((aBQ _ w).alloc (aBV _) _).alloc (by simp) _
 have hI1:J s0 W1:=(hJ s0).ext h0 hb1
 have keepE:∀{W W':World} {k:Nat} {o:Obj},W.heap[k]? =some o→Below W.heap.size W W'→W'.heap[k]? =some o:=
  fun hk hb=>(hb.block _ (aBW.1 hk).1).trans hk
 refine⟨w.heap.size+1,[{target:=.collected w.heap.size,args:=#[]}],W1,{target:=.fn (.func gf) lb,args:=#[.func (.yield (w.heap.size+1)) #[] #[]]},W1,gf,
  #[.func (.yield (w.heap.size+1)) #[] #[]]++lb,W1,?_,?_,?_,?_,fun h=>by simp[Fence.wide] at h,?_⟩
 ·rw[←hW1,hrec];exact run_enterLoop_outer _ _ _ _ _
 ·simp only[resolve,hg];simp[go_sem]
 ·intro f' hf';trivial
 ·simp[invoke,go_sem,eg]
 ·refine(hit (w.heap.size+1)
   (fun s W=>J s W∧W.heap[w.heap.size+1]? =some (.loop (rec .ready none))∧W.heap[w.heap.size]? =some (.deferred (some [])))
   (fun W=>∃c,Jx c W∧W.heap[w.heap.size+1]? =some (.loop (rec .done (some c)))∧W.heap[w.heap.size]? =some (.deferred (some [])))
   W1 (fun s A B h hb=>⟨(hJ s).ext h.1 hb,keepE h.2.1 hb,keepE h.2.2 hb⟩)
   (fun A B h hb=>by obtain⟨c,h1,h2,h3⟩:=h;exact⟨c,(hJx c).ext h1 hb,keepE h2 hb,keepE h3 hb⟩)
   (fun s W h=>hInv s W h.1) ?_ ⟨hI1,hL1,hK1⟩).mono ?_
  ·rintro s x W hok ⟨hi,hl,hk⟩;have hy:=run_yield (P:=P) (args:=enc x) hl (by rw[hrec];exact hps x);rw[hrec] at hy;refine⟨fn,_,assign,body,hy,roundIn_of_wpIn hfn (wpIn_mono (hassign _ s x W hok hi) ?_)⟩;rintro e a1 V hp;cases e with
   |normal=>
    obtain⟨hkp,hiV,hAV⟩:=hp;have hlV:=hkp _ _ hl rfl;have hkV:=hkp _ _ hk rfl;have hlt:w.heap.size+1<V.heap.size:=(aBW.1 hlV).1;refine⟨_,run_beginRound hlV (by rw[hrec]),?_⟩;have hl2:(V.putObj (w.heap.size+1) (.loop {rec .ready none with state:=.busy})).heap[w.heap.size+1]? =some (.loop {rec .ready none with state:=.busy}):=World.putObj_heap_same hlt;have hk2:(V.putObj (w.heap.size+1) (.loop {rec .ready none with state:=.busy})).heap[w.heap.size]? =some (.deferred (some [])):=(World.putObj_heap_other (by omega)).trans hkV;refine wpIn_mono (hbody _ s x a1 _ hok ((hJ s).put _ hiV (by omega) hlV rfl) ((hA s x a1).put _ hAV (by omega) hlV rfl)) ?_
    have fin:∀(jump:Option Code) (W3:World),dI (V.putObj (w.heap.size+1) (.loop {rec .ready none with state:=.busy})) W3→
      (Instr.endRound (w.heap.size+1) jump).run P W3=.ok (.bool jump.isNone) (W3.putObj (w.heap.size+1) (.loop (rec (if jump.isNone then .ready else .done) jump)))∧
      W3.heap[w.heap.size+1]? =some (.loop {rec .ready none with state:=.busy})∧
      (W3.putObj (w.heap.size+1) (.loop (rec (if jump.isNone then .ready else .done) jump))).heap[w.heap.size+1]? =some (.loop (rec (if jump.isNone then .ready else .done) jump))∧
      (W3.putObj (w.heap.size+1) (.loop (rec (if jump.isNone then .ready else .done) jump))).heap[w.heap.size]? =some (.deferred (some [])):=fun jump W3 hk3=>by
     have hl3:=hk3 _ _ hl2 rfl;have:=run_endRound (P:=P) jump hl3;rw[hrec] at this⊢;exact⟨this,by rw[hrec] at hl3;exact hl3,World.putObj_heap_same (aBW.1 hl3).1,(World.putObj_heap_other (by omega)).trans (hk3 _ _ hk2 rfl)⟩
    rintro e a3 W3 hp;cases e with
    |normal=>
     obtain⟨hk3,hi3⟩:=hp;obtain⟨hr,hl3,hl4,hk4⟩:=fin none W3 hk3;exact⟨_,_,hr,.inl ⟨rfl,(hJ _).put _ hi3 (by omega) hl3 rfl,hl4,hk4⟩⟩
    |ret=>
     obtain⟨hk3,hi3⟩:=hp;obtain⟨hr,hl3,hl4,hk4⟩:=fin (some .ret) W3 hk3;exact⟨_,_,hr,.inr ⟨rfl,.ret,(hJx _).put _ hi3 (by omega) hl3 rfl,hl4,hk4⟩⟩
    |exit id=>
     obtain⟨hk3,hi3⟩:=hp;obtain⟨hr,hl3,hl4,hk4⟩:=fin (some (.exit id)) W3 hk3;exact⟨_,_,hr,.inr ⟨rfl,.exit id,(hJx _).put _ hi3 (by omega) hl3 rfl,hl4,hk4⟩⟩
    |goto t=>
     obtain⟨hk3,hi3⟩:=hp;obtain⟨hr,hl3,hl4,hk4⟩:=fin (some (.goto t)) W3 hk3;exact⟨_,_,hr,.inr ⟨rfl,.goto t,(hJx _).put _ hi3 (by omega) hl3 rfl,hl4,hk4⟩⟩
    |panic ch=>exact hp.elim
    |outgrown=>exact hp.elim
   |exit id=>exact hp.elim
   |goto t=>exact hp.elim
   |ret=>exact hp.elim
   |panic chain=>exact hp.elim
   |outgrown=>exact hp.elim
  ·rintro e W2 ⟨⟨v,rfl⟩,(⟨s,hS,hi,hl,hk⟩|⟨c,hi,hl,hk⟩)⟩
   ·exact⟨none,_,by have:=run_endLoop (P:=P) hl (by rw[hrec];simp);rw[hrec] at this;exact this,hdone _ s _ (aBV _) hS ((hJ s).put _ hi (by omega) hl rfl) ((World.putObj_heap_other (by omega)).trans hk)⟩
   ·exact⟨some c,_,by have:=run_endLoop (P:=P) hl (by rw[hrec];simp);rw[hrec] at this;exact this,hstop _ c _ (aBV _) ((hJx c).put _ hi (by omega) hl rfl) ((World.putObj_heap_other (by omega)).trans hk)⟩
end

section
open Go.RowKit
def pN(o:Oper):Bool:=match o.op with| .defer _=>false|_=>true
theorem EB{n:Nat}{P:Program}{row:String}{args:Array Value}{w:World}{R:Value→World→Prop}(l:Nat)(h:Rows P row args w R):RowsIn (Fence.wide.inRound l) n P row args w R:=
 fun c cs _=>let ⟨v,w',r,s⟩:=h c cs;⟨v,w',r,stepsIn_wide.2 s⟩
theorem BC{P:Program}{ops:Array Oper}{Q:Exit→Act→World→Prop}(l:Nat)(hn:∀(i:Nat) (o:Oper),ops[i]? =some o→pN o=true)(hQ:¬LetsOut Q):
  ∀(order:List Nat) (a:Act) (w:World),wpOps P ops Q order a w→wpOpsIn (Fence.wide.inRound l) 0 P ops Q order a w:=by
 intro order
 induction order with
 |nil=>intro a w h;exact h
 |cons i rest ih=>
  intro a w h;simp only[wpOps,wpOpsIn] at h⊢;cases ho:ops[i]? with
  |none=>simp only[ho] at h⊢;exact ih a w h
  |some o=>
   simp only[ho] at h⊢;by_cases hw:Region.wanted o (yielded ops a.tmps)=true
   ·simp only[hw,if_true] at h⊢;rcases h with h|⟨_,h⟩
    ·refine⟨fun _ _=>trivial,?_⟩;have hs:Oper.semAt (Fence.wide.inRound l).round a.eval o=execOp a.eval o:=Oper.semAt_some l _ _ (fun c hc=>by have:=hn i o ho;simp[pN,hc] at this);rw[hs];unfold Oper.wp at h;generalize (execOp a.eval o).run P w=r at h;cases r with
     |ok nx w'=>
      cases nx<;>simp only[Oper.upon,Oper.uponIn] at h⊢<;>first
       |exact ih _ _ h
       |exact⟨fun hh=>by simp[Fence.wide,Fence.inRound] at hh,(CallsIn.inRound l (callsIn_wide.2 (h.mono (fun e w'' he=>by cases e<;>first|exact ih _ _ he|exact he))))⟩
       |exact⟨fun hh=>by simp[Fence.wide,Fence.inRound] at hh,EB l (h.mono (fun v w'' hv=>ih _ _ hv))⟩
       |exact h.elim
     |halt x w'=>cases x<;>simp only[Oper.upon,Oper.uponIn] at h⊢<;>exact h
    ·exact absurd h hQ
   ·simp only[hw] at h⊢;exact⟨fun _ _=>trivial,ih _ _ h⟩
theorem jP{K:Act→World→Prop}{Q:Exit→Act→World→Prop}(h:¬LetsOut Q):¬LetsOut (Exit.then K Q):=h
theorem iK{id:Nat}{Q:Exit→Act→World→Prop}(h:¬LetsOut Q):¬LetsOut (Exit.inBlock id Q):=h
theorem iJ{JN:World→Prop}{JX:Code→World→Prop}:¬LetsOut (kP JN JX):=fun⟨_,_,h⟩=>h
end

section
open Go.RowKit
structure aY(w:World) where
 val:World
 ext:Below w.heap.size w val
instance(w:World):Nonempty (aY w):=⟨⟨w,aBQ _ _⟩⟩
theorem aY.cell{w:World}{p:Addr}{v:Value}(h:w.cell? p=some v)(n:aY w):n.val.cell? p=some v:=aH n.ext h
theorem cG{P:Program}{f:FuncId}{args:Array Value}{w:World}{n:aY w}{v:Value}
  (h:Calls P f args n.val fun e w'=>e=.returned v∧Below n.val.heap.size n.val w'):Calls P f args n.val fun e w''=>e=.returned v∧∃m:aY w,w''=m.val:=
 h.mono fun _ w' ⟨he,hb⟩=>⟨he,⟨w',aA n.ext hb⟩,rfl⟩
theorem sC{P:Program}{f:FuncId}{args:Array Value}{w:World}{n:aY w}{v:Value}
  (h:Calls P f args n.val fun e w'=>e=.returned v∧n.val=w'):Calls P f args n.val fun e w''=>e=.returned v∧∃m:aY w,w''=m.val:=
 h.mono fun _ _ ⟨he,hb⟩=>⟨he,n,hb.symm⟩
theorem bB{P:Program}{id:Nat}{Q:Exit→Act→World→Prop}{a:Act}{w:World}{ol:List Oper}(hm:P.follows .mixedOrders=true)(hB:Region.lexB .any ol.toArray=true)
  (h:wpQuiet P ol.toArray (fun w'=>∃n:aY w,w'=n.val) (fun a'=>∀w',(∃n:aY w,w'=n.val)→Q .normal a' w') ol a):(Code.region id ol.toArray true).wp P Q a w:=
 wp_region_quiet (C:=fun w'=>∃n:aY w,w'=n.val) hm hB ⟨⟨_,bZ (aBQ _ _) 1⟩,rfl⟩ (by simpa using h)
structure mD(F:World→Prop) where
 val:World
 prop:F val
theorem mG{F:World→Prop}{w:World}(h:F w):∃n:mD F,w=n.val:=⟨⟨w,h⟩,rfl⟩
theorem wV{F:World→Prop}{w:World}(h:F w):Nonempty (mD F):=⟨⟨w,h⟩⟩
def IC(o:Oper):Bool:=match o.op with
 | .move _| .assign _| .pick .. | .build .. | .load .. | .binOp .. | .unOp .. | .convert .. | .slice .. | .fieldAddr .. | .field .. | .indexAddr .. | .index .. | .lookup .. | .extract .. | .makeInterface .. =>true
 | .nilCheck _=>true
 | .call {callee:=.builtin .len,..}| .call {callee:=.builtin .cap,..}| .call {callee:=.builtin .max,..}| .call {callee:=.builtin .min,..}=>true
 |_=>false
def xU(r:Result Next):Prop:=(∃v w,r=.ok (.value v) w)∨∃h w,r=.halt h w
theorem QV{P:Program}(s:Sem Value)(w:World):xU ((do pure (Next.value (←s)):Sem Next).run P w):=by
 rw[Sem.run_bind]
 cases s.run P w with
 |ok x w'=>exact Or.inl ⟨x,w',by simp[Result.andThen]⟩
 |halt h w'=>exact Or.inr ⟨h,w',by simp[Result.andThen]⟩
theorem jW{P:Program}(v:Value)(w:World):xU ((pure (Next.value v):Sem Next).run P w):=Or.inl ⟨v,w,by simp⟩
theorem qM{α:Type}{P:Program}(s:Sem α)(k:α→Sem Next)(w:World)(hk:∀x w,xU ((k x).run P w)):xU ((s >>= k).run P w):=by
 rw[Sem.run_bind]
 cases s.run P w with
 |ok x w'=>simpa[Result.andThen] using hk x w'
 |halt h w'=>exact Or.inr ⟨h,w',by simp[Result.andThen]⟩
theorem DJ{P:Program}(b:Builtin)(hb:b=.len∨b=.cap∨b=.max∨b=.min)(ts:Array TypeId)(t:TypeId)(cs:Array Bool)(args:Array Value)(w:World):xU ((builtin b ts t cs args).run P w):=by
 rcases hb with rfl|rfl|rfl|rfl<;>exact QV _ _
theorem OH{P:Program}(ρ:Operand→Value)(c:Call)(b:Builtin)(hc:c.callee=.builtin b)(hb:b=.len∨b=.cap∨b=.max∨b=.min)(t:TypeId)(w:World):
  xU ((do let d←resolve ρ c t;invoke d.target d.args:Sem Next).run P w):=by
 simp only[resolve,hc,Sem.run_bind,Sem.run_pure,Result.andThen]
 exact DJ b hb _ _ _ _ _
theorem oZ{P:Program}(w:World):xU ((runtimePanic .nilDeref:Sem Next).run P w):=by
 refine Or.inr ?_
 simp[runtimePanic,Sem.run_bind,program,goPanic,Sem.run,Result.andThen]
theorem WR{P:Program}(ρ:Operand→Value)(o:Oper)(h:IC o=true)(w:World):xU ((execOp ρ o).run P w):=by
 unfold IC at h
 unfold execOp
 cases ho:o.op with
 |call c=>
  simp only[ho] at h⊢;obtain⟨callee,args,ts⟩:=c;cases callee with
  |builtin b=>cases b<;>simp at h<;>exact OH ρ _ _ rfl (by simp) _ _
  |value f=>simp at h
  |invoke r m=>simp at h
 |nilCheck x=>
  simp only
  split
  ·exact oZ w
  ·exact oZ w
  ·exact oZ w
  ·split
   ·exact oZ w
   ·exact qM _ _ _ (fun p w=>qM _ _ _ (fun y w=>by
     split
     ·exact qM _ _ _ (fun _ w=>jW _ _)
     ·exact jW _ _))
   ·exact jW _ _
  ·exact jW _ _
 |move x=>exact jW _ _
 |assign x=>exact jW _ _
 |pick c a b=>exact qM _ _ _ (fun x w=>jW _ _)
 |_=>simp only[ho] at h<;>first|exact QV _ _|(simp at h;done)
def lW(P:Program)(l:List Oper)(S:World→Prop)(Q:Exit→Act→World→Prop):List (Nat×Nat×Option (Nat×Bool))→Act→World→Prop
 | [],a,w=>Q .normal a w
 |(i,n,none) :: rest,a,w=>wpQuiet P l.toArray S (fun a'=>lW P l S Q rest a' w) ((l.drop i).take n) a
 |(i,n,some (e,true)) :: rest,a,w=>wpQuiet P l.toArray S (fun a'=>wpOp P l.toArray Q e (fun a'' w''=>S w''∧lW P l S Q rest a'' w'') a' w) ((l.drop i).take n) a
 |(i,n,some (e,false)) :: rest,a,w=>wpQuiet P l.toArray S (fun a'=>wpOp P l.toArray Q e (fun a'' w''=>lW P l S Q rest a'' w'') a' w) ((l.drop i).take n) a
def kL(l:List Oper):Nat→Nat→Nat→Bool
 |0,j,i=>match l[j]? with
  |some o=>o.after.any fun e=>Region.binds .any e&&e.on==i
  |none=>false
 |n+1,j,i=>kL l 0 j i||(match l[j]? with
  |some o=>o.after.any fun e=>Region.binds .any e&&kL l n e.on i
  |none=>false)
def UU(acc:List Nat)(o:Oper):Nat:=o.after.toList.foldl (fun m e=>if Region.binds .any e then m|||(1 <<< e.on)|||acc.getD e.on 0 else m) 0
def UJ:List Oper→List Nat→List Nat
 | [],acc=>acc
 |o :: l,acc=>UJ l (acc++ [UU acc o])
def reach(l:List Oper)(j i:Nat):Bool:=((UJ l []).getD j 0).testBit i
def rE(l:List Oper)(j:Nat):Bool:=(List.range l.length).all fun i=>i==j||kL l 3 j i||kL l 3 i j||reach l j i||reach l i j
theorem BQ(acc:List Nat)(i:Nat):∀(es:List Edge) (m:Nat),(es.foldl (fun m e=>if Region.binds .any e then m|||(1 <<< e.on)|||acc.getD e.on 0 else m) m).testBit i=true→m.testBit i=true∨∃e∈es,Region.binds .any e=true∧(e.on=i∨(acc.getD e.on 0).testBit i=true)
 | [],m,h=>Or.inl h
 |e :: es,m,h=>by
  rw[List.foldl_cons] at h;rcases BQ acc i es _ h with h1|⟨e',he',hb⟩
  ·by_cases hb:Region.binds .any e=true
   ·rw[if_pos hb,Nat.testBit_or,Nat.testBit_or,Bool.or_eq_true,Bool.or_eq_true] at h1;rcases h1 with (h1|h1)|h1
    ·exact Or.inl h1
    ·refine Or.inr ⟨e,by simp,hb,Or.inl ?_⟩;rw[Nat.one_shiftLeft,Nat.testBit_two_pow] at h1;exact of_decide_eq_true h1
    ·exact Or.inr ⟨e,by simp,hb,Or.inr h1⟩
   ·rw[if_neg hb] at h1;exact Or.inl h1
  ·exact Or.inr ⟨e',by simp[he'],hb⟩
theorem yG(l:List Oper):∀(l2:List Oper) (acc:List Nat),l.drop acc.length=l2→(∀j i,(acc.getD j 0).testBit i=true→∃n,kL l n j i=true)→∀j i,((UJ l2 acc).getD j 0).testBit i=true→∃n,kL l n j i=true
 | [],acc,_,hacc=>hacc
 |o :: l2,acc,hd,hacc=>by
  have ho:l[acc.length]? =some o:=by
   have:(l.drop acc.length)[0]? =some o:=by rw[hd];rfl
   rwa [List.getElem?_drop,Nat.add_zero] at this
  refine yG l l2 (acc++ [UU acc o]) ?_ ?_
  ·have:l.drop (acc.length+1)=l2:=by rw[←List.drop_drop,hd];rfl
   simpa using this
  ·intro j i h;by_cases hj:j<acc.length
   ·rw[aBT,aCC hj,←aBT] at h;exact hacc j i h
   ·by_cases hj2:j=acc.length
    ·subst hj2;rw[aBT,List.getElem?_append_right (aBV _),Nat.sub_self] at h;rcases BQ acc i o.after.toList 0 h with h0|⟨e,he,hb,h1⟩
     ·simp at h0
     ·have he':e∈o.after:=by simpa using he
      rcases h1 with rfl|h1
      ·refine⟨0,?_⟩;unfold kL;rw[ho];exact Array.any_eq_true'.2 ⟨e,he',by simp[hb]⟩
      ·obtain⟨n,hn⟩:=hacc _ _ h1;refine⟨n+1,?_⟩;rw[kL,ho,Bool.or_eq_true];exact Or.inr (Array.any_eq_true'.2 ⟨e,he',by simp[hb,hn]⟩)
    ·rw[aBT,List.getElem?_eq_none (by simp;omega)] at h;simp at h
theorem rQ{l:List Oper}{j i:Nat}(h:reach l j i=true):∃n,kL l n j i=true:=
 yG l l [] rfl (fun j i h=>by simp at h) j i h
def jJ(l:List Oper)(listed:Array Bool):Prop:=∀(j:Nat) (o:Oper),l.toArray[j]? =some o→listed.getD j false=true→∀e∈o.after,Region.binds .any e=true→listed.getD e.on false=true
def qF(l:List Oper):Nat→Nat→Array Bool→Option (Array Bool)
 |0,_,listed=>some listed
 |n+1,i,listed=>
  if (Region.ready .any l.toArray listed).contains i&&Region.free .any l.toArray listed i&&((l[i]?).map IC).getD false then qF l n (i+1) (listed.setIfInBounds i true) else none
def zY(l:List Oper):List (Nat×Nat×Option (Nat×Bool))→Array Bool→Bool
 | [],listed=>(Region.ready .any l.toArray listed).isEmpty
 |(i,n,e) :: rest,listed=>
  match qF l n i listed with
  |none=>false
  |some listed'=>
   match e with
   |none=>zY l rest listed'
   |some (k,true)=>Region.ready .any l.toArray listed'== [k]&&zY l rest (listed'.setIfInBounds k true)
   |some (k,false)=>Region.ready .any l.toArray listed'== [k]&&zY l rest (listed'.setIfInBounds k true)&&rE l k&&rest.isEmpty
section
variable {P:Program} {l:List Oper} {S:World→Prop} {Q:Exit→Act→World→Prop}
theorem GC{listed:Array Bool}(hc:jJ l listed):∀(n j i:Nat),listed.getD j false=true→kL l n j i=true→listed.getD i false=true:=by
 intro n
 induction n with
 |zero=>
  intro j i hj h;unfold kL at h
  split at h
  ·rename_i o ho
   obtain⟨e,he,hb⟩:=Array.any_eq_true'.1 h;simp only[Bool.and_eq_true,beq_iff_eq] at hb;exact hb.2▸hc j o (by simpa using ho) hj e he hb.1
  ·cases h
 |succ n ih=>
  intro j i hj h;have h0:∀(h:kL l 0 j i=true),listed.getD i false=true:=fun h=>by
   unfold kL at h
   split at h
   ·rename_i o ho
    obtain⟨e,he,hb⟩:=Array.any_eq_true'.1 h;simp only[Bool.and_eq_true,beq_iff_eq] at hb;exact hb.2▸hc j o (by simpa using ho) hj e he hb.1
   ·cases h
  rw[kL,Bool.or_eq_true] at h;rcases h with h|h
  ·exact h0 h
  ·split at h
   ·rename_i o ho
    obtain⟨e,he,hb⟩:=Array.any_eq_true'.1 h;simp only[Bool.and_eq_true] at hb;exact ih _ _ (hc j o (by simpa using ho) hj e he hb.1) hb.2
   ·cases h
theorem rN{listed:Array Bool}(hc:jJ l listed){n j i:Nat}(hj:j∈Region.ready .any l.toArray listed)(h:kL l n j i=true):listed.getD i false=true:=by
 obtain⟨_,o,ho,hall⟩:=mem_ready.1 hj
 have ho':l[j]? =some o:=by simpa using ho
 have h0:∀(h:kL l 0 j i=true),listed.getD i false=true:=fun h=>by
  unfold kL at h;rw[ho'] at h;obtain⟨e,he,hb⟩:=Array.any_eq_true'.1 h;simp only[Bool.and_eq_true,beq_iff_eq] at hb;exact hb.2▸hall e he hb.1
 cases n with
 |zero=>exact h0 h
 |succ n=>
  rw[kL,Bool.or_eq_true] at h;rcases h with h|h
  ·exact h0 h
  ·rw[ho'] at h;obtain⟨e,he,hb⟩:=Array.any_eq_true'.1 h;simp only[Bool.and_eq_true] at hb;exact GC hc n _ _ (hall e he hb.1) hb.2
theorem jJ.set{listed:Array Bool}(hc:jJ l listed){i:Nat}(hi:i∈Region.ready .any l.toArray listed):jJ l (listed.setIfInBounds i true):=by
 intro j o ho hl e he hb
 obtain⟨_,oi,hoi,hall⟩:=mem_ready.1 hi
 by_cases hij:i=j
 ·subst hij;rw[ho] at hoi;cases hoi;exact getD_set_true (hall e he hb)
 ·rw[getD_set_ne false hij] at hl;exact getD_set_true (hc j o ho hl e he hb)
theorem yQ(n:Nat):jJ l (Array.replicate n false):=by
 intro j o _ hl
 rcases Nat.lt_or_ge j n with h|h
 ·simp[h] at hl
 ·simp[h] at hl
theorem vK{i j:Nat}{listed:Array Bool}(hc:jJ l listed)(n:Nat)(hi:i∈Region.ready .any l.toArray listed)(hj:j∈Region.ready .any l.toArray listed):kL l n j i=false:=by
 cases h:kL l n j i with
 |false=>rfl
 |true=>
  have h1:=rN hc hj h;have h0:=(mem_ready.1 hi).1;rcases Nat.lt_or_ge i listed.size with h'|h'
  ·simp[h'] at h0 h1;rw[h0] at h1;cases h1
  ·simp[Array.getElem?_eq_none h'] at h1
theorem EM{i j:Nat}{listed:Array Bool}(hc:jJ l listed)(hi:i∈Region.ready .any l.toArray listed)(hj:j∈Region.ready .any l.toArray listed):reach l j i=false:=by
 cases h:reach l j i with
 |false=>rfl
 |true=>
  obtain⟨n,hn⟩:=rQ h;rw[vK hc n hi hj] at hn;cases hn
theorem SM{i j:Nat}{listed:Array Bool}(hc:jJ l listed)(hi:i∈Region.ready .any l.toArray listed)(hj:j∈Region.ready .any l.toArray listed)(hne:i≠j):rE l j=false:=by
 cases h:rE l j with
 |false=>rfl
 |true=>
  unfold rE at h;rw[List.all_eq_true] at h;have hlt:i<l.length:=by
   obtain⟨_,o,ho,_⟩:=mem_ready.1 hi;have:=(aBW.1 ho).1;simpa using this
  have:=h i (List.mem_range.2 hlt);simp only[Bool.or_eq_true,beq_iff_eq,vK hc 3 hi hj,vK hc 3 hj hi,EM hc hi hj,EM hc hj hi,hne] at this;simp at this
def gO(P:Program)(l:List Oper)(Q:Exit→Act→World→Prop)(S:World→Prop):Nat→Array Bool→Act→World→Prop
 |0,listed,a,w=>Region.ready .any l.toArray listed= []∧Q .normal a w
 |fuel+1,listed,a,w=>
  (Region.ready .any l.toArray listed= []→Q .normal a w)∧
  ∀i∈Region.ready .any l.toArray listed,wpOp P l.toArray Q i (fun a' w'=>(rE l i=true∨S w')∧gO P l Q S fuel (listed.setIfInBounds i true) a' w') a w
theorem uC:∀(fuel:Nat) (listed:Array Bool) (a:Act) (w:World),gO P l Q S fuel listed a w→wpAny P .any l.toArray Q fuel listed a w
 |0,_,_,_,h=>h
 |fuel+1,_,_,_,h=>⟨h.1,fun i hi=>wpOp_mono (fun a' w' h'=>uC fuel _ a' w' h'.2) (h.2 i hi)⟩
theorem vT{i:Nat}{oi:Oper}{v:Value}(hi:l.toArray[i]? =some oi)(hs:Region.noSelect l.toArray=true)(hQ:∀c a w,¬Q (.panic c) a w):
  ∀(fuel:Nat) (listed:Array Bool) (a:Act) (w:World),jJ l listed→Region.free .any l.toArray listed i=true→i∈Region.ready .any l.toArray listed→YieldsIf P l.toArray S oi v a→S w→
   gO P l Q S fuel (listed.setIfInBounds i true) (a.put oi.dst v) w→gO P l Q S (fuel+1) listed a w:=by
 have hsel:=Region.noSelect_spec hs
 have key:∀(fuel:Nat) (listed:Array Bool) (a:Act) (w:World),jJ l listed→
   (∀j oj,l.toArray[j]? =some oj→j≠i→listed.getD j true=false→(∀e∈oj.after,Region.binds .any e=true→e.on≠i)→oi.apart l.toArray oj=true)→
   i∈Region.ready .any l.toArray listed→YieldsIf P l.toArray S oi v a→S w→
   gO P l Q S fuel (listed.setIfInBounds i true) (a.put oi.dst v) w→gO P l Q S (fuel+1) listed a w:=by
  intro fuel
  induction fuel with
  |zero=>
   intro listed a w _ _ hr hy hS H;refine⟨fun h=>absurd (h▸hr) (by simp),fun j hj=>?_⟩;by_cases hji:j=i
   ·subst hji;exact hy.wpOp hi hS ⟨Or.inr hS,H⟩
   ·exact absurd (H.1▸ready_mono hj hji) (by simp)
  |succ fuel ih=>
   intro listed a w hcl hfree hr hy hS H;refine⟨fun h=>absurd (h▸hr) (by simp),fun j hj=>?_⟩;by_cases hji:j=i
   ·subst hji;exact hy.wpOp hi hS ⟨Or.inr hS,H⟩
   ·have hal:=SM hcl hr hj (Ne.symm hji);have hnw:=vK hcl 0 hr hj;have h1:=H.2 j (ready_mono hj hji);obtain⟨hjun,oj,hoj,_⟩:=mem_ready.1 hj;have hnot:∀e∈oj.after,Region.binds .any e=true→e.on≠i:=fun e he hb heq=>by
     have:kL l 0 j i=true:=by
      unfold kL;have hoj':l[j]? =some oj:=by simpa using hoj
      rw[hoj'];exact Array.any_eq_true'.2 ⟨e,he,by simp[hb,heq]⟩
     rw[hnw] at this;cases this
    have h2:=wpOp_putIf hoj (hfree j oj hoj hji hjun hnot) (fun cs b=>hsel i oi cs b hi) (fun cs b=>hsel j oj cs b hoj) (fun c a w hp=>absurd hp (hQ _ _ _)) hy h1;refine wpOp_mono (fun a' w' h3=>?_) h2;have hS':S w':=h3.2.1.resolve_left (by rw[hal];simp);refine⟨Or.inr hS',ih (listed.setIfInBounds j true) a' w' (hcl.set hj) (fun k ok hk hki hun hno=>?_) (ready_mono hr (Ne.symm hji)) h3.1 hS' ?_⟩
    ·refine hfree k ok hk hki ?_ hno;by_cases hjk:j=k
     ·subst hjk;exact hjun
     ·rw[getD_set_ne true hjk] at hun;exact hun
    ·rw[Array.setIfInBounds_comm _ _ hji];exact h3.2.2
 intro fuel listed a w hcl hf
 exact key fuel listed a w hcl (Region.free_spec hi hf)
theorem wN{o:Oper}{a:Act}{K:Act→Prop}(hv:IC o=true)(hw:Region.wanted o (yielded l.toArray a.tmps)=true)(h:o.quiet P a S K):
  ∃v,YieldsIf P l.toArray S o v a∧K (a.put o.dst v):=by
 obtain⟨v,h1,h2⟩:=h
 refine⟨v,Or.inl ⟨hw,fun w hs=>?_⟩,h2⟩
 have:=h1 w hs
 unfold Oper.quietAt at this
 rcases WR (P:=P) a.eval o hv w with ⟨x,w',e⟩|⟨x,w',e⟩
 ·rw[e] at this⊢;obtain⟨rfl,rfl⟩:=this;rfl
 ·rw[e] at this;exact this.elim
theorem oX(hs:Region.noSelect l.toArray=true)(hQ:∀c a w,¬Q (.panic c) a w)(fuel:Nat)(w:World)(hS:S w)(K:Act→Prop):
  ∀(n i:Nat) (listed listed':Array Bool) (a:Act),jJ l listed→qF l n i listed=some listed'→(jJ l listed'→∀a',K a'→gO P l Q S fuel listed' a' w)→
   wpQuiet P l.toArray S K ((l.drop i).take n) a→gO P l Q S (fuel+n) listed a w:=by
 intro n
 induction n with
 |zero=>
  intro i listed listed' a hcl hok hK h;simp only[qF,Option.some.injEq] at hok;subst hok;simp only[List.take_zero] at h;exact hK hcl a h
 |succ n ih=>
  intro i listed listed' a hcl hok hK h;simp only[qF] at hok
  split at hok
  ·rename_i hc
   simp only[Bool.and_eq_true] at hc;obtain⟨⟨hr,hf⟩,hv⟩:=hc;cases ho:l[i]? with
   |none=>simp[ho] at hv
   |some o=>
    simp only[ho,Option.map_some,Option.getD_some] at hv;have hlt:i<l.length:=(aBX.1 ho).1;have hd:(l.drop i).take (n+1)=o :: (l.drop (i+1)).take n:=by
     rw[List.drop_eq_getElem_cons hlt,List.take_succ_cons]
     congr 1
     exact(aBX.1 ho).2
    rw[hd] at h;simp only[wpQuiet] at h;have hoA:l.toArray[i]? =some o:=by simpa using ho
    have hr':i∈Region.ready .any l.toArray listed:=by simpa using hr
    have e1:fuel+(n+1)=(fuel+n)+1:=by omega
    rw[e1];by_cases hw:Region.wanted o (yielded l.toArray a.tmps)=true
    ·rw[if_pos hw] at h;obtain⟨v,hy,hk⟩:=wN hv hw h;exact vT hoA hs hQ _ _ _ _ hcl hf hr' hy hS (ih (i+1) _ _ _ (hcl.set hr') hok hK hk)
    ·rw[if_neg hw] at h;exact vT hoA hs hQ _ _ _ _ hcl hf hr' (Or.inr ⟨by simpa using hw,rfl⟩) hS (ih (i+1) _ _ _ (hcl.set hr') hok hK h)
  ·cases hok
def yX:List (Nat×Nat×Option (Nat×Bool))→Nat
 | []=>0
 |(_,n,none) :: rest=>yX rest+n
 |(_,n,some _) :: rest=>yX rest+1+n
theorem SQ(hs:Region.noSelect l.toArray=true)(hQ:∀c a w,¬Q (.panic c) a w):
  ∀(segs:List (Nat×Nat×Option (Nat×Bool))) (listed:Array Bool) (a:Act) (w:World),jJ l listed→zY l segs listed=true→(S w∨segs= [])→lW P l S Q segs a w→gO P l Q S (yX segs) listed a w:=by
 intro segs
 induction segs with
 |nil=>
  intro listed a w _ hok _ h;simp only[zY,List.isEmpty_iff] at hok;exact⟨hok,h⟩
 |cons seg rest ih=>
  intro listed a w hcl hok hS0 h;have hS:S w:=hS0.resolve_right (by simp);clear hS0;obtain⟨i,n,e⟩:=seg;simp only[zY] at hok
  split at hok
  ·cases hok
  ·rename_i listed' hr
   rcases e with _|⟨k,fl⟩
   ·simp only[lW] at h;exact oX hs hQ _ w hS _ n i listed listed' a hcl hr (fun hcl' a' ha'=>ih listed' a' w hcl' hok (Or.inl hS) ha') h
   ·cases fl with
    |true=>
     simp only[Bool.and_eq_true,beq_iff_eq] at hok;simp only[lW] at h;refine oX hs hQ _ w hS _ n i listed listed' a hcl hr (fun hcl' a' ha'=>⟨fun h0=>?_,fun j hj=>?_⟩) h
     ·rw[hok.1] at h0;cases h0
     ·have hcl2:=hcl'.set hj;rw[hok.1,List.mem_singleton] at hj;subst hj;exact wpOp_mono (fun a'' w'' hh=>⟨Or.inr hh.1,ih _ a'' w'' hcl2 hok.2 (Or.inl hh.1) hh.2⟩) ha'
    |false=>
     simp only[Bool.and_eq_true,beq_iff_eq,List.isEmpty_iff] at hok;simp only[lW] at h;refine oX hs hQ _ w hS _ n i listed listed' a hcl hr (fun hcl' a' ha'=>⟨fun h0=>?_,fun j hj=>?_⟩) h
     ·rw[hok.1.1.1] at h0;cases h0
     ·have hcl2:=hcl'.set hj;rw[hok.1.1.1,List.mem_singleton] at hj;subst hj;exact wpOp_mono (fun a'' w'' hh=>⟨Or.inl hok.1.2,ih _ a'' w'' hcl2 hok.1.1.2 (Or.inr hok.2) hh⟩) ha'
def vF(l:List Oper)(segs:List (Nat×Nat×Option (Nat×Bool))):Bool:=
 zY l segs (Array.replicate l.length false)&&(yX segs==l.length)&&Region.noSelect l.toArray
theorem QL(segs:List (Nat×Nat×Option (Nat×Bool)))(hok:vF l segs=true)(hQ:∀c a w,¬Q (.panic c) a w){a:Act}{w:World}(hS:S w)(h:lW P l S Q segs a w):
  wpAny P .any l.toArray Q l.toArray.size (Array.replicate l.toArray.size false) a w:=by
 simp only[vF,Bool.and_eq_true,beq_iff_eq] at hok
 have:=uC _ _ _ _ (SQ hok.2 hQ segs _ a w (yQ _) hok.1.1 (Or.inl hS) h)
 rw[hok.1.2] at this
 simpa using this
theorem qK{id:Nat}{a:Act}{w:World}(S:World→Prop)(segs:List (Nat×Nat×Option (Nat×Bool)))(hm:P.follows .mixedOrders=true)(hok:vF l segs=true)(hS:S w.drew)
  (h:lW P l S (NoPanic Q) segs a w.drew):(Code.region id l.toArray true).wp P Q a w:=
 wp_region_noPanic (wp_region_any hm (QL segs hok (fun _ _ _ hp=>hp) hS h))
theorem sN{id:Nat}{a:Act}{w:World}{r:Nat}(S:World→Prop)(segs:List (Nat×Nat×Option (Nat×Bool)))(hm:P.follows .mixedOrders=true)(hok:vF l segs=true)(hn:l.all pN=true)(hQ:¬LetsOut Q)(hS:S w.drew)
  (h:lW P l S (NoPanic Q) segs a w.drew):(Code.region id l.toArray true).wpIn (Fence.wide.inRound r) 0 P Q a w:=by
 refine wpIn_mono (Q:=NoPanic Q) ?_ NoPanic.imp
 refine wpIn_region_draw fun t=>?_
 refine BC (Q:=NoPanic Q) r (fun i o ho=>?_) hQ _ _ _ ?_
 ·rw[List.all_eq_true] at hn
  exact hn o (by
   have:l[i]? =some o:=by simpa using ho
   exact aBY this)
 ·simp only[Region.schedule,hm,Bool.true_or,if_true];exact wpAny_sound _ t _ a _ (QL segs hok (fun _ _ _ hp=>hp) hS h)
theorem dP{e:Nat}{o:Oper}{K:Act→World→Prop}{a:Act}{w:World}(ho:l[e]? =some o)(hg:o.guard=none)(h:o.wp P a w K Q):wpOp P l.toArray Q e K a w:=by
 unfold wpOp
 have:l.toArray[e]? =some o:=by simpa using ho
 simp only[this]
 rw[if_pos (by simp[Region.wanted,hg])]
 exact Or.inl h
theorem mM{o:Oper}{K:Act→World→Prop}{a:Act}(w0:World)(s x:Operand)(t e:TypeId)(ho:o.op=.call {callee:=.builtin .append,args:=#[s,x],argTypes:=#[t,t]})
  (base:Nat) (z:Value) (size bytes:Nat) (ht:P.underlying t=some (.slice e)) (hinfo:(P.info? e).map (fun i=>(i.zero,i.size,i.bytes))=some (some z,size,bytes)) (hzs:z.cells.size=size) (hsz:0<size)
  (v:Value) (n:Nat) (xs news:List Value) (hs:a.eval s=v) (hown:w0.ownsRow base e size v n xs) (H:Nat) (hH:w0.heap.size=H) (hx:a.eval x=.slice (some ⟨H,0,none⟩) 1 1) (hl:news.length=size) (h1:∀u∈news,u.oneCell'=true)
  (h63:n+1≤maxLen) (hbytes:(n+1)*bytes≤140737488355328) (hbase:base≤w0.heap.size)
  (h:∀g cap w',w'.ownsRow base e size (.slice (some ⟨g,0,none⟩) (n+1) cap) (n+1) (xs++news)→w0.grownBy w' v.ownBlock→(some g=v.ownBlock∨g=H+1)→K (a.put o.dst (.slice (some ⟨g,0,none⟩) (n+1) cap)) w'):
  o.wp P a (w0.alloc (.cells news.toArray e)) K Q:=by
 subst hH
 obtain⟨i,hi,hz,hsize,hby⟩:=info_parts hinfo
 have hnews:∀j u,news[j]? =some u→(w0.alloc (.cells news.toArray e)).cell? ((⟨w0.heap.size,0,none⟩:Addr).add j)=some u:=by
  intro j u hu;have hadd:(⟨w0.heap.size,0,none⟩:Addr).add j=⟨w0.heap.size,j,none⟩:=by unfold Addr.add;split<;>simp_all
  rw[hadd,aBP _ _ _ _ _ _ (World.alloc_heap_new w0 _)];simpa using hu
 obtain⟨v',w',hrun,h2,h3,h4,h5⟩:=run_append_own_at (P:=P) (w0.alloc (.cells news.toArray e)) base t o.type e i z size bytes ht hi hz hsize hby hzs hsz v n xs (hown.alloc _) ⟨w0.heap.size,0,none⟩ 1 1 news (by omega) hnews h1 h63 hbytes (by simp;omega)
 obtain⟨g,cap,rfl⟩:∃g cap,v'=.slice (some ⟨g,0,none⟩) (n+1) cap:=by
  rcases h2.2 with ⟨_,h0⟩|⟨g,cap,cur,hv,_⟩
  ·omega
  ·exact⟨g,cap,hv⟩
 have hg:w0.grownBy w' v.ownBlock:=by
  refine⟨h3.os,h3.tape,h3.output,aCD (by simp) h3.size,fun k hk hne=>?_⟩;rw[h3.block k (by simp;omega) hne];exact aBR _ _ _ hk
 unfold Oper.wp execOp
 simp only[ho,resolve,invoke,builtin,Sem.run_bind,Sem.run_pure,Result.andThen_ok,List.map_toArray,List.map_cons,List.map_nil,hs,hx,hrun]
 refine h g cap w' h2 hg ?_
 rcases h5 with h5|h5
 ·exact Or.inl (by simpa[Value.ownBlock] using h5)
 ·exact Or.inr (by simpa[Value.ownBlock] using h5)
theorem bV{ops:Array Oper}{rest:List Oper}{o:Oper}{a:Act}(hgd:o.guard=none)(w0:World)(s x:Operand)(t e:TypeId)(ho:o.op=.call {callee:=.builtin .append,args:=#[s,x],argTypes:=#[t,t]})
  (base:Nat) (z:Value) (size bytes:Nat) (ht:P.underlying t=some (.slice e)) (hinfo:(P.info? e).map (fun i=>(i.zero,i.size,i.bytes))=some (some z,size,bytes)) (hzs:z.cells.size=size) (hsz:0<size)
  (v:Value) (n:Nat) (xs news:List Value) (hs:a.eval s=v) (hown:w0.ownsRow base e size v n xs) (H:Nat) (hH:w0.heap.size=H) (hx:a.eval x=.slice (some ⟨H,0,none⟩) 1 1) (hl:news.length=size) (h1:∀u∈news,u.oneCell'=true)
  (h63:n+1≤maxLen) (hbytes:(n+1)*bytes≤140737488355328) (hbase:base≤w0.heap.size)
  (h:∀g cap w',w'.ownsRow base e size (.slice (some ⟨g,0,none⟩) (n+1) cap) (n+1) (xs++news)→w0.grownBy w' v.ownBlock→(some g=v.ownBlock∨g=H+1)→wpList P ops Q rest (a.put o.dst (.slice (some ⟨g,0,none⟩) (n+1) cap)) w'):
  wpList P ops Q (o :: rest) a (w0.alloc (.cells news.toArray e)):=
 wpList_plain hgd fun _ hK=>mM w0 s x t e ho base z size bytes ht hinfo hzs hsz v n xs news hs hown H hH hx hl h1 h63 hbytes hbase fun g cap w' h2 h3 h4=>hK _ _ (h g cap w' h2 h3 h4)
theorem CM(w:World)(base:Nat)(t ty e:TypeId)(z:Value)(bytes:Nat)(ht:P.underlying t=some (.slice e))(hinfo:(P.info? e).map (fun i=>(i.zero,i.size,i.bytes))=some (some z,1,bytes))(hzs:z.cells.size=1)
  (v:Value) (n:Nat) (xs:List Value) (hown:w.ownsRow base e 1 v n xs) (A:Option Addr) (m c:Nat) (news:List Value) (hl:news.length=m)
  (hr:∀j u,news[j]? =some u→∃ad,A=some ad∧w.cell? (ad.add j)=some u) (h1:∀u∈news,u.oneCell'=true)
  (h63:n+m≤maxLen) (hbytes:(n+m)*bytes≤140737488355328) (hbase:base≤w.heap.size):
  ∃v' w',(Builtin.append_ #[t,t] ty #[v,.slice A m c]).run P w=.ok v' w'∧w'.ownsRow base e 1 v' (n+m) (xs++news)∧w.grownBy w' v.ownBlock∧(v'.ownBlock=v.ownBlock∨v'.ownBlock=some w.heap.size):=by
 obtain⟨i,hi,hz,hsize,hby⟩:=info_parts hinfo
 rcases A with _|ad
 ·have hm:news= []:=by
   cases news with
   |nil=>rfl
   |cons u l=>obtain⟨ad,h,_⟩:=hr 0 u rfl;cases h
  subst hm;simp only[List.length_nil] at hl;subst hl;refine⟨v,w,?_,by simpa using hown,⟨rfl,rfl,rfl,aBV _,fun _ _ _=>rfl⟩,Or.inl rfl⟩;rcases hown.2 with ⟨rfl,rfl⟩|⟨g,cap,cur,rfl,_,_,hnc,_⟩
  ·simp[Builtin.append_,run_underlying ht,sizeOf,typeInfo,hi,Builtin.lenOf,Builtin.firstCells]
  ·simp[Builtin.append_,run_underlying ht,sizeOf,typeInfo,hi,Builtin.lenOf,Builtin.firstCells,hnc,storeCells]
 ·obtain⟨v',w',hrun,h2,h3,_,h5⟩:=run_append_own_at (P:=P) w base t ty e i z 1 bytes ht hi hz hsize hby hzs (by omega) v n xs hown ad m c news (by omega)
   (fun j u hu=>by obtain⟨ad',h,hc⟩:=hr j u hu;cases h;exact hc) h1 h63 hbytes hbase
  exact⟨v',w',hrun,h2,h3,h5⟩
theorem CD{ops:Array Oper}{rest:List Oper}{o:Oper}{a:Act}(w:World)(hgd:o.guard=none)(s x:Operand)(t e:TypeId)(ho:o.op=.call {callee:=.builtin .append,args:=#[s,x],argTypes:=#[t,t]})
  (base:Nat) (z:Value) (bytes:Nat) (ht:P.underlying t=some (.slice e)) (hinfo:(P.info? e).map (fun i=>(i.zero,i.size,i.bytes))=some (some z,1,bytes)) (hzs:z.cells.size=1)
  (v:Value) (n:Nat) (xs:List Value) (hs:a.eval s=v) (hown:w.ownsRow base e 1 v n xs) (A:Option Addr) (m c:Nat) (hx:a.eval x=.slice A m c) (news:List Value) (hl:news.length=m)
  (hr:∀j u,news[j]? =some u→∃ad,A=some ad∧w.cell? (ad.add j)=some u) (h1:∀u∈news,u.oneCell'=true)
  (h63:n+m≤maxLen) (hbytes:(n+m)*bytes≤140737488355328) (hbase:base≤w.heap.size)
  (h:∀v' w',w'.ownsRow base e 1 v' (n+m) (xs++news)→w.grownBy w' v.ownBlock→(v'.ownBlock=v.ownBlock∨v'.ownBlock=some w.heap.size)→wpList P ops Q rest (a.put o.dst v') w'):
  wpList P ops Q (o :: rest) a w:=by
 refine wpList_plain hgd fun K hK=>?_
 obtain⟨v',w',hrun,h2,h3,h4⟩:=CM (P:=P) w base t o.type e z bytes ht hinfo hzs v n xs hown A m c news hl hr h1 h63 hbytes hbase
 unfold Oper.wp execOp
 simp only[ho,resolve,invoke,builtin,Sem.run_bind,Sem.run_pure,Result.andThen_ok,List.map_toArray,List.map_cons,List.map_nil,hs,hx,hrun]
 exact hK _ _ (h v' w' h2 h3 h4)
end
end

section
open Go.RowKit
theorem uO{α:Type}(cs:α→List Value)(size:Nat)(hs:∀x,(cs x).length=size)(l:List α)(k j:Nat)(hj:j<size)(x:α)(hx:l[k]? =some x):(l.flatMap cs)[k*size+j]? =(cs x)[j]?:=by
 induction l generalizing k with
 |nil=>simp at hx
 |cons y l ih=>
  rw[List.flatMap_cons];cases k with
  |zero=>
   simp only[List.getElem?_cons_zero,Option.some.injEq] at hx;subst hx;rw[Nat.zero_mul,Nat.zero_add,aCC (by rw[hs];exact hj)]
  |succ k=>
   simp only[List.getElem?_cons_succ] at hx;rw[List.getElem?_append_right (by rw[hs,Nat.add_mul];omega),hs,show(k+1)*size+j-size=k*size+j by rw[Nat.add_mul];omega];exact ih k hx
theorem jY{α:Type}(cs:α→List Value)(size:Nat)(hs:∀x,(cs x).length=size)(l:List α):(l.flatMap cs).length=l.length*size:=by
 induction l with
 |nil=>simp
 |cons y l ih=>rw[List.flatMap_cons,List.length_append,ih,hs,List.length_cons,Nat.add_mul];omega
theorem IE{α:Type}(l:List α)(k:Nat)(d:α)(h:k<l.length):l.take (k+1)=l.take k++ [l.getD k d]:=by
 rw[List.take_add_one,aBU h]
 simp[aBT,h]
def kM{α:Type}(size:Nat)(cs:α→List Value)(w:World)(a:Option Addr)(n:Nat)(ls:List α):Prop:=
 ls.length=n∧n≤17592186044416∧∀k x,ls[k]? =some x→∃b o,a=some ⟨b,o,none⟩∧∀j,j<size→w.cell? ⟨b,o+k*size+j,none⟩=(cs x)[j]?
section
variable {α:Type} {size:Nat} {cs:α→List Value} {w w':World} {a:Option Addr} {n:Nat} {ls:List α}
theorem kM.ext(h:kM size cs w a n ls)(hs:∀x,(cs x).length=size)(hb:Below w.heap.size w w'):kM size cs w' a n ls:=
 ⟨h.1,h.2.1,fun k x hx=>by
  obtain⟨b,o,e,hc⟩:=h.2.2 k x hx;refine⟨b,o,e,fun j hj=>?_⟩;have h1:=hc j hj;rw[aBU (by rw[hs];exact hj)] at h1⊢
  exact aH hb h1⟩
theorem kM.nil(size:Nat)(cs:α→List Value)(w:World):kM size cs w none 0 []:=⟨rfl,by omega,fun k x hx=>by simp at hx⟩
theorem kM.at_(h:kM size cs w a n ls){k:Nat}(hk:k<n)(d:α):∃b o,a=some ⟨b,o,none⟩∧∀j,j<size→w.cell? ⟨b,o+k*size+j,none⟩=(cs (ls.getD k d))[j]?:=by
 have hk':k<ls.length:=by rw[h.1];exact hk
 obtain⟨b,o,e,hc⟩:=h.2.2 k (ls.getD k d) (by simp[aBT,hk'])
 exact⟨b,o,e,hc⟩
theorem yD{base:Nat}{e:TypeId}{v:Value}(hs:∀x,(cs x).length=size)(h:w.ownsRow base e size v ls.length (ls.flatMap cs))(hl:ls.length≤17592186044416):∃a c,v=.slice a ls.length c∧kM size cs w a ls.length ls∧∀g o s,a=some ⟨g,o,s⟩→base≤g:=by
 rcases h.2 with ⟨rfl,h0⟩|⟨g,cap,cur,rfl,hb,_⟩
 ·have:ls= []:=List.eq_nil_of_length_eq_zero h0;subst this;exact⟨none,0,rfl,⟨rfl,hl,fun k x hx=>by simp at hx⟩,fun g o s e=>by cases e⟩
 ·refine⟨some ⟨g,0,none⟩,cap,rfl,⟨rfl,hl,fun k x hx=>⟨g,0,rfl,fun j hj=>?_⟩⟩,fun g' o s e=>?_⟩
  ·have hk:=(aBX.1 hx).1;have hlt:k*size+j<ls.length*size:=by
    have:(k+1)*size≤ls.length*size:=Nat.mul_le_mul_right _ hk;rw[Nat.add_mul] at this;omega
   rw[Nat.zero_add,World.ownsRow.cellAt h (k*size+j) hlt,uO cs size hs ls k j hj x hx]
  ·simp only[Option.some.injEq,Addr.mk.injEq] at e;omega
theorem VO(X:World)(H:Nat)(hH:X.heap.size=H)(t:TypeId)(hs:∀x,(cs x).length=size)(hl:ls.length≤17592186044416):kM size cs (X.alloc (.cells (ls.flatMap cs).toArray t)) (some ⟨H,0,none⟩) ls.length ls:=by
 subst hH
 have hh:=aBS X (.cells (ls.flatMap cs).toArray t)
 refine⟨rfl,hl,fun k x hx=>⟨X.heap.size,0,rfl,fun j hj=>?_⟩⟩
 have h1:=uO cs size hs ls k j hj x hx
 rw[aBP _ _ _ _ _ _ hh,Nat.zero_add,←h1]
 simp
end
end

section
open Go.RowKit
theorem rL(b o m:Nat):(⟨b,o,none⟩:Addr).add m=⟨b,o+m,none⟩:=by
 unfold Addr.add
 split<;>simp_all
section
variable {P:Program} {Q:Exit→Act→World→Prop}
theorem yW(w:World)(base:Nat)(t ty e:TypeId)(z:Value)(size bytes:Nat)(ht:P.underlying t=some (.slice e))(hinfo:(P.info? e).map (fun i=>(i.zero,i.size,i.bytes))=some (some z,size,bytes))(hzs:z.cells.size=size)(hsz:0<size)
  (v:Value) (n:Nat) (xs:List Value) (hown:w.ownsRow base e size v n xs) (A:Option Addr) (m c:Nat) (news:List Value) (hl:news.length=m*size)
  (hr:∀j u,news[j]? =some u→∃ad,A=some ad∧w.cell? (ad.add j)=some u) (h1:∀u∈news,u.oneCell'=true)
  (h63:n+m≤maxLen) (hbytes:(n+m)*bytes≤140737488355328) (hbase:base≤w.heap.size):
  ∃v' w',(Builtin.append_ #[t,t] ty #[v,.slice A m c]).run P w=.ok v' w'∧w'.ownsRow base e size v' (n+m) (xs++news)∧w.grownBy w' v.ownBlock∧(v'.ownBlock=v.ownBlock∨v'.ownBlock=some w.heap.size):=by
 obtain⟨i,hi,hz,hsize,hby⟩:=info_parts hinfo
 rcases A with _|ad
 ·have hm:news= []:=by
   cases news with
   |nil=>rfl
   |cons u l=>obtain⟨ad,h,_⟩:=hr 0 u rfl;cases h
  subst hm;obtain rfl:m=0:=by
   simp only[List.length_nil] at hl;rcases Nat.mul_eq_zero.1 hl.symm with h|h<;>omega
  refine⟨v,w,?_,by simpa using hown,⟨rfl,rfl,rfl,aBV _,fun _ _ _=>rfl⟩,Or.inl rfl⟩;rcases hown.2 with ⟨rfl,rfl⟩|⟨g,cap,cur,rfl,_,_,hnc,_⟩
  ·simp[Builtin.append_,run_underlying ht,sizeOf,typeInfo,hi,Builtin.lenOf,Builtin.firstCells]
  ·simp[Builtin.append_,run_underlying ht,sizeOf,typeInfo,hi,Builtin.lenOf,Builtin.firstCells,hnc,storeCells]
 ·obtain⟨v',w',hrun,h2,h3,_,h5⟩:=run_append_own_at (P:=P) w base t ty e i z size bytes ht hi hz hsize hby hzs hsz v n xs hown ad m c news hl
   (fun j u hu=>by obtain⟨ad',h,hc⟩:=hr j u hu;cases h;exact hc) h1 h63 hbytes hbase
  exact⟨v',w',hrun,h2,h3,h5⟩
theorem fN{ops:Array Oper}{rest:List Oper}{o:Oper}{a:Act}(w:World)(hgd:o.guard=none)(s x:Operand)(t e:TypeId)(ho:o.op=.call {callee:=.builtin .append,args:=#[s,x],argTypes:=#[t,t]})
  (base:Nat) (z:Value) (size bytes:Nat) (ht:P.underlying t=some (.slice e)) (hinfo:(P.info? e).map (fun i=>(i.zero,i.size,i.bytes))=some (some z,size,bytes)) (hzs:z.cells.size=size) (hsz:0<size)
  (v:Value) (n:Nat) (xs:List Value) (hs:a.eval s=v) (hown:w.ownsRow base e size v n xs) (A:Option Addr) (m c:Nat) (hx:a.eval x=.slice A m c) (news:List Value) (hl:news.length=m*size)
  (hr:∀j u,news[j]? =some u→∃ad,A=some ad∧w.cell? (ad.add j)=some u) (h1:∀u∈news,u.oneCell'=true)
  (h63:n+m≤maxLen) (hbytes:(n+m)*bytes≤140737488355328) (hbase:base≤w.heap.size)
  (h:∀v' w',w'.ownsRow base e size v' (n+m) (xs++news)→w.grownBy w' v.ownBlock→(v'.ownBlock=v.ownBlock∨v'.ownBlock=some w.heap.size)→wpList P ops Q rest (a.put o.dst v') w'):
  wpList P ops Q (o :: rest) a w:=by
 refine wpList_plain hgd fun K hK=>?_
 obtain⟨v',w',hrun,h2,h3,h4⟩:=yW (P:=P) w base t o.type e z size bytes ht hinfo hzs hsz v n xs hown A m c news hl hr h1 h63 hbytes hbase
 unfold Oper.wp execOp
 simp only[ho,resolve,invoke,builtin,Sem.run_bind,Sem.run_pure,Result.andThen_ok,List.map_toArray,List.map_cons,List.map_nil,hs,hx,hrun]
 exact hK _ _ (h v' w' h2 h3 h4)
end
theorem dY.news{w:World}{a:Option Addr}{n:Nat}{xs:List Int}(h:dY w a n xs):∀j u,(xs.map (Value.int .i64))[j]? =some u→∃ad,a=some ad∧w.cell? (ad.add j)=some u:=by
 intro j u hu
 rw[List.getElem?_map,Option.map_eq_some_iff] at hu
 obtain⟨x,hx,rfl⟩:=hu
 have hlt:=(aBX.1 hx).1
 obtain⟨b,o,e,hc,_⟩:=h.2.2 j (by rw[←h.1];exact hlt)
 refine⟨_,e,?_⟩
 rw[rL,hc]
 simp[aBT,hx]
theorem kM.news{α:Type}{size:Nat}{cs:α→List Value}{w:World}{a:Option Addr}{n:Nat}{ls:List α}(h:kM size cs w a n ls)(hs:∀x,(cs x).length=size)(hpos:0<size):∀j u,(ls.flatMap cs)[j]? =some u→∃ad,a=some ad∧w.cell? (ad.add j)=some u:=by
 intro j u hu
 have hlt:=(aBX.1 hu).1
 rw[jY cs size hs] at hlt
 have hk:j/size<ls.length:=Nat.div_lt_of_lt_mul (by rw[Nat.mul_comm];exact hlt)
 have hj:j%size<size:=Nat.mod_lt _ hpos
 have em:j=j/size*size+j%size:=by rw[Nat.mul_comm];exact(Nat.div_add_mod j size).symm
 obtain⟨b,o,e,hc⟩:=h.2.2 (j/size) ls[j/size] (aBU hk)
 refine⟨_,e,?_⟩
 rw[rL,show o+j=o+j/size*size+j%size by omega,hc _ hj,←uO cs size hs ls _ _ hj _ (aBU hk),←em]
 exact hu
end

section
open Go.RowKit
theorem lY:(Tryz.prog.info? 3).map (fun i=>(i.zero,i.size,i.bytes))=some (some (.int .i64 0),1,8):=by kernel_rfl
def bC(xs:List Int):List Value:=xs.map (Value.int .i64)
theorem yI(xs:List Int):(bC xs).length=xs.length:=by simp[bC]
theorem rR(xs:List Int):∀u∈bC xs,u.oneCell'=true:=by
 intro u hu
 simp only[bC,List.mem_map] at hu
 obtain⟨x,_,rfl⟩:=hu
 rfl
def bN(w:World)(base:Nat)(v:Value)(xs:List Int):Prop:=w.ownsRow base 3 1 v xs.length (bC xs)∧(∀x∈xs,I64 x)∧xs.length≤17592186044416
theorem bN.nil(w:World)(base:Nat):bN w base (.slice none 0 0) []:=⟨World.ownsRow_nil _ _ _ _,by simp,by simp⟩
theorem bN.mono{w:World}{base base':Nat}{v:Value}{xs:List Int}(h:bN w base v xs)(hb:base'≤base):bN w base' v xs:=by
 refine⟨⟨h.1.1,?_⟩,h.2⟩
 rcases h.1.2 with h0|⟨g,cap,cur,hv,h1,r⟩
 ·exact .inl h0
 ·exact .inr ⟨g,cap,cur,hv,aCD hb h1,r⟩
theorem bN.kept{w w':World}{base:Nat}{v:Value}{xs:List Int}{row:Option Nat}(h:bN w base v xs)(hg:w.grownBy w' row)(hne:v.ownBlock=none∨v.ownBlock≠row):bN w' base v xs:=⟨h.1.kept hg hne,h.2⟩
theorem bN.ext{w w':World}{base:Nat}{v:Value}{xs:List Int}(h:bN w base v xs)(hb:Below w.heap.size w w'):bN w' base v xs:=by
 refine⟨h.1.kept (row:=none) ⟨hb.os,hb.tape,hb.output,hb.size,fun k hk _=>hb.block k hk⟩ ?_,h.2⟩
 cases h1:v.ownBlock with
 |none=>exact .inl rfl
 |some k=>exact .inr (by simp)
theorem bN.form{w:World}{base:Nat}{v:Value}{xs:List Int}(h:bN w base v xs):∃a c,v=.slice a xs.length c:=by
 rcases h.1.2 with ⟨rfl,h0⟩|⟨g,cap,cur,hv,_⟩
 ·have h0:xs.length=0:=h0;rw[h0];exact⟨none,0,rfl⟩
 ·exact⟨_,_,hv⟩
theorem bN.ints{w:World}{base:Nat}{a:Option Addr}{n c:Nat}{xs:List Int}(h:bN w base (.slice a n c) xs):dY w a n xs:=by
 rcases h.1.2 with ⟨hv,h0⟩|⟨g,cap,cur,hv,_⟩
 ·injection hv with e1 e2 e3;subst e1 e2;have h0:xs.length=0:=h0;exact⟨h0,by omega,fun k hk=>by omega⟩
 ·injection hv with e1 e2 e3;subst e1 e2 e3;exact YQ h.1 h.2.1 h.2.2
theorem bN.cap{w:World}{base:Nat}{a:Option Addr}{n c:Nat}{xs:List Int}(h:bN w base (.slice a n c) xs):n≤c∧c≤9223372036854775807∧n=xs.length:=by
 rcases h.1.2 with ⟨hv,h0⟩|⟨g,cap,cur,hv,_,_,h1,h2,_⟩
 ·injection hv with e1 e2 e3;subst e1 e2 e3;exact⟨by omega,by omega,by rw[show xs.length=0 from h0]⟩
 ·injection hv with e1 e2 e3;subst e1 e2 e3;unfold maxLen at h2;exact⟨h1,by omega,rfl⟩
def gV(w:World)(xs:List Int)(e:Ending)(w':World):Prop:=∃v,e=.returned v∧bN w' w.heap.size v xs∧Below w.heap.size w w'
theorem mX{W:World}{g:Nat}{xs:List Int}(hg:W.heap.size=g)(base:Nat)(hb:base≤g)(hx:∀x∈xs,I64 x)(hn:xs.length≤1000):bN (W.alloc (.cells (bC xs).toArray 3)) base (.slice (some ⟨g,0,none⟩) xs.length xs.length) xs:=by
 subst hg
 refine⟨?_,hx,by omega⟩
 have:=World.ownsRow_lit (base:=base) (e:=3) (size:=1) W (bC xs).toArray xs.length hb (by unfold maxLen;omega) (by simp[bC])
 simpa using this
theorem tU(a:Option Addr)(n c:Nat)(xs:List Int)(w:World)(h:dY w a n xs):
  Calls Tryz.prog 93 #[.slice a n c] w (gV w xs):=by
 have HL:=aBO h.1
 have hn:=h.2.1
 have HM:=aBO h.mem
 have H:=aBO h
 clear h
 cases a with
 |none=>
  have hq:=fun w n c n' c'=>Lib.run_eql_slice_nil (P:=Tryz.prog) w 22 3 none n c n' c' Tryz.underlying22
  go_enter Tryz.func93,Tryz.ntmps93
  go_wp2
  go_ret
  have h0:xs= []:=by
   cases xs with
   |nil=>rfl
   |cons r l=>obtain⟨b,o,e,_⟩:=H.out.2.2 0 (by rw[←HL.out];simp);cases e
  subst h0;exact⟨_,rfl,bN.nil _ _,aBQ _ _⟩
 |some ad=>
  have hq:=fun w n c n' c'=>Lib.run_eql_slice_nil (P:=Tryz.prog) w 22 3 (some ad) n c n' c' Tryz.underlying22
  go_enter Tryz.func93,Tryz.ntmps93
  go_wp2_with (at_builtin;go_loud (refine fN (w.alloc (.cells #[] 3)) rfl (.tmp 5) (.tmp 6) 22 3 rfl w.heap.size _ 1 8 Tryz.underlying22 lY rfl (by omega) (.slice (some ⟨w.heap.size,0,none⟩) 0 0) 0 [] rfl (World.ownsRow_lit w #[] 0 (by omega) (by unfold maxLen;omega) rfl) (some ad) n c rfl (bC xs) (by rw[yI,HL.out,Nat.mul_one]) ((H.out.ext ((aBQ _ w).alloc (aBV _) _)).news) (rR xs) (by unfold maxLen;omega) (by omega) (by simp) ?_);intro v' w1 ho1 hg1 hv1;have HO1:=aBO ho1;have HG1:=aBO hg1;clear ho1 hg1 hv1)
  go_ret
  have ho:=HO1.out;rw[Nat.zero_add,List.nil_append,←HL.out] at ho;exact⟨_,rfl,⟨ho,HM.out,by rw[HL.out];exact hn⟩,((aBQ _ w).alloc (aBV _) _).grown HG1.out (by simp) (fun k hk=>by simp[Value.ownBlock] at hk;omega)⟩
end

section
open Go.RowKit
theorem UP(t:aT)(h:qE t):∀x∈toD t,I64 x:=by
 intro x hx
 unfold toD at hx
 split at hx
 ·split at hx
  ·simp at hx;subst hx;exact h.2.2.1
  ·split at hx
   ·simp at hx;rcases hx with rfl|rfl
    ·exact h.2.2.1
    ·exact h.2.2.2
   ·cases hx
 ·cases hx
theorem jZ{w w':World}{o:Obj}(h:Below (w.alloc o).heap.size (w.alloc o) w'):w.heap.size≤w'.heap.size:=by have:=h.size;simp at this;omega
theorem ZT(t:aT)(w:World)(h:qE t):Calls Tryz.prog 124 #[zW t] w (gV w (toD t)):=by
 have HT:=aBO h
 have HO:=aBO (UP t h)
 clear h
 obtain⟨k,a,x,y⟩:=t
 by_cases ht:eH ⟨k,a,x,y⟩=true
 ·have HB:=aBO ht;by_cases k1:k=1
  ·subst k1;have HE:Hid (toD ⟨1,a,x,y⟩= [x]):=by rw[Hid,toD,if_pos ht,if_pos rfl]
   clear ht
   go_enter Tryz.func124,Tryz.ntmps124
   go_wp2_with (go_at_call 128;refine(mO ⟨1,a,x,y⟩ _ HT.out).mono ?_;rintro e w' ⟨rfl,hb'⟩;rw[HB.out];obtain⟨g1,g2⟩:=xR hb';have HB':=aBO hb';clear hb')
   go_ret
   rw[HE.out];exact⟨_,rfl,(mX (xs:= [x]) rfl _ (jZ HB'.out) (by have:=HO.out;rwa [HE.out] at this) (by simp)),(aA (aD _ _) HB'.out).alloc (jZ HB'.out) _⟩
  ·have b1:(k==1)=false:=by simpa using k1
   by_cases k2:k=2
   ·subst k2;have HE:Hid (toD ⟨2,a,x,y⟩= [x,y]):=by rw[Hid,toD,if_pos ht,if_neg (by simp),if_pos rfl]
    clear ht k1
    go_enter Tryz.func124,Tryz.ntmps124
    go_wp2_with (first
     |(go_at_call 93
       refine(tU _ _ _ [x,y] _ (vP HK.out [x,y] (by have:=HO.out;rwa [HE.out] at this) (by simp) (fun k hk=>by match k,hk with|0,_=>rfl|1,_=>rfl))).mono ?_;rintro e w2 ⟨v,rfl,ho,hb2⟩;have HO2:=aBO ho;have HB2:=aBO hb2
       clear ho hb2)
     |(go_at_call 128
       refine(mO ⟨2,a,x,y⟩ _ HT.out).mono ?_;rintro e w' ⟨rfl,hb'⟩;rw[HB.out];obtain⟨g1,g2⟩:=xR hb';have HK:=aBO (aB hb' (aBS w (aAU ⟨2,a,x,y⟩)));have HB':=aBO hb'
       clear hb'))
    go_ret
    rw[HE.out];exact⟨_,rfl,HO2.out.mono (jZ HB'.out),aA (aA (aD _ _) HB'.out) HB2.out⟩
   ·have b2:(k==2)=false:=by simpa using k2
    have HE:Hid (toD ⟨k,a,x,y⟩= []):=by rw[Hid,toD,if_pos ht,if_neg k1,if_neg k2]
    clear ht k1 k2
    go_enter Tryz.func124,Tryz.ntmps124
    go_wp2_with (go_at_call 128;refine(mO ⟨k,a,x,y⟩ _ HT.out).mono ?_;rintro e w' ⟨rfl,hb'⟩;rw[HB.out];obtain⟨g1,g2⟩:=xR hb';have HB':=aBO hb';clear hb')
    go_ret
    rw[HE.out];exact⟨_,rfl,bN.nil _ _,aA (aD _ _) HB'.out⟩
 ·have HE:Hid (toD ⟨k,a,x,y⟩= []):=by rw[Hid,toD,if_neg ht]
  have ht':eH ⟨k,a,x,y⟩=false:=by simpa using ht
  have HB:=aBO ht';clear ht ht'
  go_enter Tryz.func124,Tryz.ntmps124
  go_wp2_with (go_at_call 128;refine(mO ⟨k,a,x,y⟩ _ HT.out).mono ?_;rintro e w' ⟨rfl,hb'⟩;rw[HB.out];obtain⟨g1,g2⟩:=xR hb';have HB':=aBO hb';clear hb')
  go_ret
  rw[HE.out];exact⟨_,rfl,bN.nil _ _,aA (aD _ _) HB'.out⟩
end

section
open Go.RowKit
def okL{α:Type}(s:List α)(x:α):Prop:=s.head? =some x
def nxL{α:Type}(s:List α)(_:α):List α:=s.tail
def aAN{α:Type}(s:List α):Prop:=s= []
theorem pM{α:Type}{s:List α}{x:α}(h:okL s x):s=x :: nxL s x:=by
 cases s with
 |nil=>cases h
 |cons y l=>injection h with h;subst h;rfl
def xS{α:Type}(P:Program)(gf:Nat)(lb:Array Value)(enc:α→Array Value)(l:List α)(I:World→Prop):Prop:=
 UG P gf lb enc okL nxL l aAN (fun _ W=>I W)
theorem xS.mono{α:Type}{P:Program}{gf:Nat}{lb:Array Value}{enc:α→Array Value}{l:List α}{I I':World→Prop}(h:xS P gf lb enc l I)(hi:∀W,I' W→I W):xS P gf lb enc l I':=
 fun lp K Kx W hK hKx hInv hY h0=>h lp K Kx W hK hKx (fun s W hs=>hi W (hInv s W hs)) hY h0
def UM{α:Type}(P:Program)(gf:Nat)(lb:Array Value)(enc:α→Array Value)(l:List α)(w:World):Prop:=
 UG P gf lb enc okL nxL l aAN (fun _ W=>Below w.heap.size w W)
theorem EN{P:Program}{ops:Array Oper}{Q:Exit→Act→World→Prop}{l:Nat}(hQ:¬LetsOut Q):
  ∀(rest:List Oper) (a:Act) (w:World),rest.all pN=true→wpList P ops Q rest a w→wpListIn (Fence.wide.inRound l) 0 P ops Q rest a w:=by
 intro rest
 induction rest with
 |nil=>intro a w _ h;exact h
 |cons o rest ih=>
  intro a w hn h;rw[List.all_cons,Bool.and_eq_true] at hn;simp only[wpList,wpListIn] at h⊢;by_cases hw:Region.wanted o (yielded ops a.tmps)=true
  ·simp only[hw,if_true] at h⊢;rcases h with h|⟨_,h⟩
   ·refine⟨fun _ _=>trivial,?_⟩;have hs:Oper.semAt (Fence.wide.inRound l).round a.eval o=execOp a.eval o:=Oper.semAt_some l _ _ (fun c hc=>by have:=hn.1;simp[pN,hc] at this);rw[hs];unfold Oper.wp at h;generalize (execOp a.eval o).run P w=r at h;cases r with
    |ok nx w'=>
     cases nx<;>simp only[Oper.upon,Oper.uponIn] at h⊢<;>first
      |exact ih _ _ hn.2 h
      |exact⟨fun hh=>by simp[Fence.wide,Fence.inRound] at hh,(CallsIn.inRound l (callsIn_wide.2 (h.mono (fun e w'' he=>by cases e<;>first|exact ih _ _ hn.2 he|exact he))))⟩
      |exact⟨fun hh=>by simp[Fence.wide,Fence.inRound] at hh,EB l (h.mono (fun v w'' hv=>ih _ _ hn.2 hv))⟩
      |exact h.elim
    |halt x w'=>cases x<;>simp only[Oper.upon,Oper.uponIn] at h⊢<;>exact h
   ·exact absurd h hQ
  ·simp only[hw] at h⊢;exact⟨fun _ _=>trivial,ih _ _ hn.2 h⟩
theorem lR{P:Program}{id:Nat}{Q:Exit→Act→World→Prop}{a:Act}{w:World}{ol:List Oper}(hm:P.follows .mixedOrders=true)(hB:Region.lexB .any ol.toArray=true)
  (h:wpQuiet P ol.toArray (fun w'=>∃n,w'=w.drewN n) (fun a'=>∀w',(∃n,w'=w.drewN n)→Q .normal a' w') ol a):(Code.region id ol.toArray true).wpIn Fence.wide 0 P Q a w:=
 wpIn_wide.2 (wp_region_quiet_lit hm hB h)
theorem oK{P:Program}{α:Type}{g:Operand}{ps:Array Tmp}{assign body:Code}{Q:Exit→Act→World→Prop}{a:Act}{w:World}{gf:Nat}{lb:Array Value}
  (hg:a.eval g=.func (.func gf) #[] lb) (eg:∀args w,(callFunc gf args).run P w=.ok (.enter gf args) w)
  {enc:α→Array Value} {l:List α} (I:World→Prop) (hit:xS P gf lb enc l I) (hps:∀x,(enc x).size=ps.size)
  (J:List α→List α→World→Prop) (Jx:Code→World→Prop)
  (hJ:∀d r,aR w.heap.size (J d r)) (hJx:∀c,aR w.heap.size (Jx c)) (hInv:∀d r W,J d r W→I W)
  (h0:J [] l w)
  (hround:∀(lp:Nat) (d:List α) (x:α) (r:List α) (W:World),l=d++x :: r→J d (x :: r) W→
    assign.wpIn (Fence.wide.inRound lp) 0 P (Exit.then (fun a1 W1=>dI W W1∧J d (x :: r) W1∧∀(lp:Nat) (W2:World),J d (x :: r) W2→
     body.wpIn (Fence.wide.inRound lp) 0 P (kP (fun W'=>dI W2 W'∧J (d++ [x]) r W') (fun c W'=>dI W2 W'∧Jx c W')) a1 W2) (fun _ _ _=>False)) {tmps:=(ps.zip (enc x)).foldl (fun t (p,v)=>t.setIfInBounds p v) a.tmps,defers:= []} W)
  (hdone:∀(D:Nat) (W:World),w.heap.size≤D→J l [] W→W.heap[D]? =some (.deferred (some []))→Q .normal {a with defers:={target:=.collected D,args:=#[]} :: a.defers} W)
  (hstop:∀(D:Nat) (c:Code) (W:World),w.heap.size≤D→Jx c W→W.heap[D]? =some (.deferred (some []))→c.wpIn Fence.wide 0 P Q {a with defers:={target:=.collected D,args:=#[]} :: a.defers} W):
  (Code.rangeFunc g ps assign body).wpIn Fence.wide 0 P Q a w:=by
 refine LH (enc:=enc) hg eg hit hps (fun s W=>∃d,l=d++s∧J d s W) Jx
  (fun s x a1 _=>∀(d:List α) (lp:Nat) (W2:World),l=d++s→J d s W2→body.wpIn (Fence.wide.inRound lp) 0 P (kP (fun W'=>dI W2 W'∧J (d++ [x]) (nxL s x) W') (fun c W'=>dI W2 W'∧Jx c W')) a1 W2)
  (fun s=>aR.ex fun d=>(aR.pure _ _).and (hJ d s)) hJx (fun _ _ _=>aR.pure _ _) (fun s W ⟨d,_,h⟩=>hInv d s W h) ⟨[],rfl,h0⟩ ?_ ?_ ?_ hstop
 ·rintro lp s x W hok ⟨d,hd,hj⟩;have hs:=pM hok;generalize nxL s x=r at hs⊢;subst hs;refine wpIn_mono (hround lp d x r W hd hj) ?_;rintro e a1 W1 he;cases e with
  |normal=>
   obtain⟨h1,h2,h3⟩:=he;refine⟨h1,⟨d,hd,h2⟩,fun d' lp' W2 hd' hj'=>?_⟩;have:d'=d:=by
    have:=hd'.symm.trans hd;exact List.append_cancel_right this
   subst this;exact h3 lp' W2 hj'
  |_=>exact he.elim
 ·rintro lp s x a1 W hok ⟨d,hd,hj⟩ hA;refine wpIn_mono (hA d lp W hd hj) ?_;rintro e a3 W3 he;cases e with
  |normal=>
   refine⟨he.1,d++ [x],?_,he.2⟩;rw[hd,List.append_assoc]
   congr 1
   exact pM hok
  |ret=>exact he
  |exit id=>exact he
  |goto t=>exact he
  |panic ch=>exact he.elim
  |outgrown=>exact he.elim
 ·rintro D s W hD hf ⟨d,hd,hj⟩ hk;have hf:s= []:=hf;subst hf;rw[List.append_nil] at hd;subst hd;exact hdone D W hD hj hk
end

section
open Go.RowKit Go.Shelf
attribute [local go_sem] Oper.semAt_some cT bM cC bG
def nY(x:Nat):Array Value:=#[.int .i64 (x:Int)]
def gT(f:Nat→Bool)(k:Nat):List Nat:=(List.range' k (200-k)).filter f
theorem BL(f:Nat→Bool):gT f 0=aZ f:=by rw[gT,aZ,List.range_eq_range']
theorem EC(f:Nat→Bool):gT f 200= []:=rfl
theorem BM(f:Nat→Bool)(k:Nat)(h:k<200):gT f k=if f k then k :: gT f (k+1) else gT f (k+1):=by
 rw[gT,show 200-k=(200-(k+1))+1 by omega,List.range'_succ,List.filter_cons]
 rfl
abbrev eA(f:Nat→Bool):Obj:=.cells (aQ f) 124 (0,0)
theorem nB(S:Nat)(w:World):Calls Tryz.prog 88 #[.pointer (some ⟨S,0,none⟩)] w fun e w'=>e=.returned (.func (.func 139) #[] #[.pointer (some ⟨w.heap.size,0,none⟩)])∧w'=w.alloc (.cells #[.pointer (some ⟨S,0,none⟩)] 189):=by
 go_enter Tryz.func88,Tryz.ntmps88
 go_wp2
 go_ret
 exact⟨rfl,rfl⟩
theorem kY(f:Nat→Bool)(G S:Nat):xS Tryz.prog 139 #[.pointer (some ⟨G,0,none⟩)] nY (aZ f) (fun W=>W.cell? ⟨G,0,none⟩=some (.pointer (some ⟨S,0,none⟩))∧W.heap[S]? =some (eA f)):=by
 intro l K Kx W hK hKx hInv hY h0
 refine callsIn_of_wp Tryz.func139 rfl trivial ?_ rfl
 simp only[Tryz.ntmps139,List.size_toArray,List.length_cons,List.length_nil,Nat.reduceAdd,Nat.reduceSub,Array.replicate_succ,Array.replicate_zero,List.push_toArray,List.append_toArray,List.nil_append,List.cons_append]
 have HY:=aBO hY
 have HI:=aBO hInv
 have HK0:=aBO hK
 have H0:Hid (K (gT f 0) W):=by rw[Hid,BL];exact h0
 have hg0:W.cell? ⟨G,0,none⟩=some (.pointer (some ⟨S,0,none⟩)):=(hInv _ _ h0).1
 clear hY hInv hK hKx h0
 gi_wp2
 gi_loopw [6] (fun i wr=>∃k:Nat,i=.int .i64 k∧k≤200∧Hid (K (gT f k) wr)) (fun i _=>200-(intOf i).toNat)
 case atStart=>exact⟨0,rfl,by omega,H0.out⟩
 case round=>
  obtain⟨k,rfl,hk,HK⟩:=hrel;clear hg0;have hSr:=(HI.out _ _ HK.out).2;have hn:∀q,(wr.drewN q).cell? ⟨S,0,none⟩=some (.bool (f 0)):=fun q=>by rw[aBP (wr.drewN q) _ _ _ _ _ hSr,iV _ _ (by omega)]
  have hne:wr.cell? ⟨S,0,none⟩=some (.bool (f 0)):=hn 0;by_cases hlt:k<200
  ·have hc:wr.cell? ⟨S,k,none⟩=some (.bool (f k)):=by rw[aBP _ _ _ _ _ _ hSr,iV _ _ hlt]
   have HST:=aBO (BM f k hlt);have hlt':(k:Int)<200:=by omega
   clear hSr hn;by_cases hf:f k=true
   ·rw[hf] at hc;have HR:Hid (gT f k=k :: gT f (k+1)):=by rw[Hid,HST.out,if_pos hf]
    clear hf HST
    gi_wp2
    refine lR (by kernel_rfl) (by kernel_rfl) ?_
    repeat (go_big_quiet_step (fail))
    refine wpQuiet_nil ?_;rintro _ ⟨nq,rfl⟩;have HKq:Hid (K (gT f k) (wr.drewN nq)):=HK0.out _ _ _ HK.out (bZ (aBQ _ _) nq);obtain⟨fn,tmps,assign,body,hy,hR⟩:=HY.out (gT f k) k (wr.drewN nq) (by rw[HR.out];rfl) HKq.out;unfold nY at hy;have hT:nxL (gT f k) k=gT f (k+1):=by rw[HR.out];rfl
    rw[hT] at hR;have HR2:=aBO hR;clear hT hR HKq
    gi_wp2
    refine HR2.out.mono ?_;rintro e W' (⟨rfl,hJ'⟩|⟨rfl,hX'⟩)
    ·have HK1:=aBO hJ';clear hJ' hy HR2
     gi_wp2
     go_roundw
     case rel=>exact⟨k+1,by go_num,by omega,HK1.out⟩
     case measure=>simp[intOf];omega
    ·have HX:=aBO hX';clear hX' hy HR2
     gi_wp2
     exact bodyPost_ret (v:=.tuple #[]) (by simp[results,Tryz.results139,go_sem]) rfl ⟨⟨_,rfl⟩,Or.inr HX.out⟩
   ·have hf':f k=false:=by simpa using hf
    rw[hf'] at hc;have HR:Hid (gT f k=gT f (k+1)):=by rw[Hid,HST.out,if_neg hf]
    clear hf hf' HST
    gi_wp2
    refine lR (by kernel_rfl) (by kernel_rfl) ?_
    repeat (go_big_quiet_step (fail))
    refine wpQuiet_nil ?_;rintro _ ⟨nq,rfl⟩;have HKq:Hid (K (gT f (k+1)) (wr.drewN nq)):=by rw[←HR.out];exact HK0.out _ _ _ HK.out (bZ (aBQ _ _) nq)
    gi_wp2
    go_roundw
    case rel=>exact⟨k+1,by go_num,by omega,HKq.out⟩
    case measure=>simp[intOf];omega
  ·obtain rfl:k=200:=by omega
   clear hSr hn
   gi_wp2
   go_end0
   exact⟨⟨_,rfl⟩,Or.inl ⟨_,EC f,HK.out⟩⟩
theorem TK(f:Nat→Bool)(G S:Nat)(w:World)(hG:w.cell? ⟨G,0,none⟩=some (.pointer (some ⟨S,0,none⟩)))(hS:w.heap[S]? =some (eA f)):
  UM Tryz.prog 139 #[.pointer (some ⟨G,0,none⟩)] nY (aZ f) w:=
 (kY f G S).mono fun W hb=>⟨aH hb hG,aB hb hS⟩
end

section
open Go.RowKit Go.Shelf
attribute [local go_sem] Oper.semAt_some cT bM cC bG
theorem JZ(l:List Nat)(h:∀x∈l,x<1000000):∀x∈aO l,I64 x:=by
 intro x hx
 simp only[aO,List.mem_map] at hx
 obtain⟨k,hk,rfl⟩:=hx
 have:=h k hk
 unfold I64
 omega
theorem BO{w:World}{base:Nat}{e:TypeId}{size:Nat}{v:Value}{n:Nat}{xs:List Value}(h:w.ownsRow base e size v n xs):∀(j:Nat) (o:Obj),v.ownBlock=some j→w.heap[j]? =some o→qD o=false:=by
 intro j o hj ho
 rcases h.2 with ⟨rfl,_⟩|⟨g,cap,cur,rfl,_,hh,_⟩
 ·cases hj
 ·simp only[Value.ownBlock,Option.some.injEq] at hj;subst hj;rw[hh] at ho;cases ho;rfl
theorem aK{w w':World}{row:Option Nat}(hg:w.grownBy w' row){k:Nat}{o:Obj}(hk:w.heap[k]? =some o)(hne:row≠some k):w'.heap[k]? =some o:=
 (hg.block k (aBW.1 hk).1 (fun e=>hne e.symm)).trans hk
theorem bA(w:World)(b o:Nat)(u:Value):w.grownBy (w.setCell ⟨b,o,none⟩ u) (some b):=
 ⟨rfl,rfl,rfl,by simp,fun k _ hne=>Below.heap_setCell _ _ _ _ (fun e=>hne (by rw[e]))⟩
def AJ(w:World)(B:Nat)(base:Nat)(xs:List Int)(W:World):Prop:=
 ∃v,W.heap[B]? =some (.cells #[v] 22 (0,0))∧bN W base v xs∧v.ownBlock≠some B∧Below w.heap.size w W∧w.heap.size<W.heap.size
theorem aR.ownI(D base:Nat)(v:Value)(xs:List Int):aR D (fun W=>bN W base v xs):=(aR.ownsRow _ _ _ _ _ _ _).and (aR.pure _ _)
theorem aR.size(D n:Nat):aR D (fun W=>n<W.heap.size):=fun _ _ _ h hg _=>Nat.lt_of_lt_of_le h hg.size
theorem AJ.steady{w:World}{B base:Nat}{xs:List Int}{D:Nat}(hD:w.heap.size≤D):aR D (AJ w B base xs):=by
 unfold AJ
 exact aR.ex fun v=>(aR.block _ _ rfl).and ((aR.ownI _ _ _ _).and ((aR.pure _ _).and ((aR.below (aBV _) hD).and (aR.size _ _))))
theorem DQ(gf:Nat)(lb:Array Value)(l:List Nat)(w:World)(eg:∀args w,(callFunc gf args).run Tryz.prog w=.ok (.enter gf args) w)(hit:∀W,Below w.heap.size w W→UM Tryz.prog gf lb nY l W)(hl:l.length≤1000000)(hx:∀x∈l,x<1000000):
  Calls Tryz.prog 179 #[.slice none 0 0,.func (.func gf) #[] lb] w (gV w (aO l)):=by
 refine(callsIn_wide (n:=0)).1 ?_
 refine callsIn_of_wp_marks Tryz.func179 rfl trivial ?_
 simp only[Tryz.ntmps179,List.size_toArray,List.length_cons,List.length_nil,Nat.reduceAdd,Nat.reduceSub,Array.replicate_succ,Array.replicate_zero,List.push_toArray,List.append_toArray,List.nil_append,List.cons_append]
 have HIT:=aBO hit
 have HX:=aBO hx
 clear hit hx
 gi_wp2
 refine oK (ps:=#[7]) (gf:=gf) (lb:=lb) (enc:=nY) (l:=l) rfl eg (fun W=>Below w.heap.size w W) (HIT.out _ (aBQ _ _)) (fun _=>rfl)
  (fun d r W=>Hid (AJ w w.heap.size w.heap.size (aO d) W))
  (fun _ _=>False)
  (fun d r=>AJ.steady (by simp)) (fun c=>aR.pure _ _) (fun d r W h=>by obtain⟨v,_,_,_,hb,_⟩:=h.out;exact hb) ?start ?round ?done ?stop
 case start=>exact⟨_,aBS _ _,bN.nil _ _,by simp[Value.ownBlock],(aBQ _ w).alloc (aBV _) _,by simp⟩
 case round=>
  rintro lp d x r W hd hJ;unfold nY
  gi_wp2
  refine⟨dI.refl _,hJ,?_⟩;clear hJ lp W;rintro lp W hJ;obtain⟨v,hv,ho,hne,hb,hlt0⟩:=hJ.out;obtain⟨av,cv,rfl⟩:=ho.form;have hc0:W.cell? ⟨w.heap.size,0,none⟩=some (.slice av (aO d).length cv):=by rw[aBP _ _ _ _ _ _ hv];rfl
  have hf0:W.frozen? ⟨w.heap.size,0,none⟩=false:=frozen_of_row _ _ _ _ _ hv;have HO:=aBO ho;have HV:=aBO hv;have HB:=aBO hb;have HNE:=aBO hne;have hlen:(aO d).length≤1000000:=by rw[hd] at hl;simp[aO] at hl⊢;omega
  clear hv ho hb hJ hne
  gi_wp2_with (
   (gi_at_builtin
    refine EN (by repeat (first|exact iJ|refine jP ?_|refine iK ?_)) _ _ _ rfl ?_;refine bV rfl W (.tmp 8) (.tmp 10) 22 3 rfl w.heap.size _ 1 8 Tryz.underlying22 lY rfl (by omega) (.slice av (aO d).length cv) (aO d).length _ [.int .i64 (x:Int)] rfl HO.out.1 W.heap.size rfl rfl rfl (by simp[Value.oneCell']) (by simp only[maxLen];omega) (by omega) (by omega) ?_;intro g cap w2 hown2 hg2 hat2;have HO2:=aBO hown2;have HG2:=aBO hg2;have HA2:=aBO hat2;have hv2:=aK hg2 HV.out HNE.out;have hc2:w2.cell? ⟨w.heap.size,0,none⟩=some (.slice av (aO d).length cv):=(by rw[aBP _ _ _ _ _ _ hv2];rfl)
    have hf2:w2.frozen? ⟨w.heap.size,0,none⟩=false:=frozen_of_row _ _ _ _ _ hv2;have hlt2:w.heap.size<w2.heap.size:=(aBW.1 hv2).1;have HV2:=aBO hv2
    clear hown2 hg2 hat2 hv2 hc0 hf0))
  go_wp2;have hb2:Below w.heap.size w w2:=HB.out.grown HG2.out HB.out.size (fun k e=>(HO.out.1.lt k e).1);have hgne:g≠w.heap.size:=by
   rcases HA2.out with h|h
   ·exact fun e=>HNE.out (by rw[←h,e])
   ·omega
  have hd2:aO (d++ [x])=aO d++ [(x:Int)]:=by simp[aO]
  refine⟨(dI.grown HG2.out (BO HO.out.1)).trans (dI.setCell _ _ _),?_⟩;refine⟨_,by have:=heap_setCell_same w2 w.heap.size 0 _ _ (.slice (some ⟨g,0,none⟩) ((aO d).length+1) cap) HV2.out;simpa using this,?_,by simpa[Value.ownBlock] using hgne,?_⟩
  ·rw[hd2];refine bN.kept (row:=some w.heap.size) (w:=w2) ⟨?_,?_,by simp;omega⟩ (bA w2 w.heap.size 0 _) (.inr (by simp[Value.ownBlock];omega))
   ·have:=HO2.out;simpa[bC] using this
   ·intro z hz;rcases aCA.1 hz with h|h
    ·exact HO.out.2.1 z h
    ·simp only[List.mem_singleton] at h;subst h;have:=HX.out x (by rw[hd];simp);unfold I64;omega
  ·exact⟨hb2.setCell (aBV _) _,by simpa using hlt2⟩
 case done=>
  rintro D W hD hJ hK;obtain⟨v,hv,ho,hne,hb,hlt0⟩:=hJ.out;obtain⟨av,cv,rfl⟩:=ho.form;have hc0:W.cell? ⟨w.heap.size,0,none⟩=some (.slice av (aO l).length cv):=by rw[aBP _ _ _ _ _ _ hv];rfl
  have HO:=aBO ho;have HB:=aBO hb;have HJ:=hJ;clear hv ho hb hJ hne
  gi_wp2
  obtain⟨v2,hv2,ho2,_,hb2,_⟩:=(AJ.steady (w:=w) (B:=w.heap.size) (base:=w.heap.size) (xs:=aO l) (D:=w.heap.size) (aBV _)).put (.deferred none) (l:=D) HJ.out (by simp at hD;omega) hK rfl;refine⟨by simp,.inl ⟨_,_,rfl,run_takeDeferred hK,?_⟩⟩;have ho3:bN (W.putObj D (.deferred none)) w.heap.size (.slice av (aO l).length cv) (aO l):=(aR.ownI w.heap.size w.heap.size (.slice av (aO l).length cv) (aO l)).put (.deferred none) (l:=D) HO.out (by simp at hD;omega) hK rfl;exact⟨.slice av (aO l).length cv,by simp[results,Tryz.results179,go_sem],_,rfl,ho3,hb2⟩
 case stop=>rintro D c W hD h;exact h.elim
theorem MO(gf:Nat)(lb:Array Value)(l:List Nat)(w:World)(eg:∀args w,(callFunc gf args).run Tryz.prog w=.ok (.enter gf args) w)(hit:∀W,Below w.heap.size w W→UM Tryz.prog gf lb nY l W)(hl:l.length≤1000000)(hx:∀x∈l,x<1000000):
  Calls Tryz.prog 138 #[.func (.func gf) #[] lb] w (gV w (aO l)):=by
 have HIT:=aBO hit
 have HX:=aBO hx
 have EG:=aBO eg
 clear hit hx eg
 go_enter Tryz.func138,Tryz.ntmps138
 go_wp2_with (go_at_call 179;refine(DQ gf lb l w EG.out HIT.out hl HX.out).mono ?_;rintro e w' ⟨v,rfl,ho,hb⟩;have HO:=aBO ho;have HB:=aBO hb;clear ho hb)
 go_ret
 exact⟨_,rfl,HO.out,HB.out⟩
theorem mZ(f:Nat→Bool):∀x∈aZ f,x<200:=fun x hx=>by simp[aZ] at hx;exact hx.1
theorem pY(f:Nat→Bool):(aZ f).length≤200:=by
 have:=List.length_filter_le f (List.range 200)
 simpa[aZ] using this
theorem jU(args:Array Value)(w:World):(callFunc 139 args).run Tryz.prog w=.ok (.enter 139 args) w:=enters_of Tryz.func139 (by kernel_rfl) rfl args w
theorem vO(f:Nat→Bool)(w:World):Calls Tryz.prog 87 #[.agg (aQ f)] w (gV w (aO (aZ f))):=by
 go_enter Tryz.func87,Tryz.ntmps87
 go_wp2_with (first
  |(go_at_call 88;refine(nB _ _).mono ?_;rintro e w' ⟨rfl,rfl⟩)
  |(go_at_call 138
    refine(MO _ _ (aZ f) _ jU (fun W hW=>TK f _ w.heap.size W ?_ ?_) (by have:=pY f;omega) (fun x hx=>by have:=mZ f x hx;omega)).mono ?_
    ·exact aH hW (by rw[aBP _ _ _ _ _ _ (aU _ _ _ (by simp))];rfl)
    ·exact aB hW ((aBR _ _ _ (by simp)).trans (aBS _ _))
    rintro e w' ⟨v,rfl,ho,hb⟩;have HO:=aBO ho;have HB:=aBO hb
    clear ho hb))
 go_ret
 exact⟨_,rfl,HO.out.mono (by simp;omega),aA ((aD _ _).alloc (by simp) _) HB.out⟩
end

section
open Go.RowKit
theorem bF:(Tryz.prog.info? 124).map (·.size)=some 200:=by kernel_rfl
theorem jK:Tryz.zeroCells124=aQ fun _=>false:=by kernel_rfl
def lK(w:World)(f:Nat→Bool)(e:Ending)(w':World):Prop:=e=.returned (.agg (aQ f))∧Below w.heap.size w w'
theorem oI{W:World}{g:Nat}{f:Nat→Bool}(hg:W.heap[g]? =some (eA f)):(loadVar 124 ⟨g,0,none⟩).run Tryz.prog W=.ok (.agg (aQ f)) W:=
 run_loadVar_row (P:=Tryz.prog) W g 124 124 _ (0,0) _ hg Tryz.underlying124 rfl (by rw[aF];exact bF)
theorem sH{W:World}{g:Nat}{f:Nat→Bool}(hg:W.heap[g]? =some (eA f))(j:Nat)(hj:j<200)(b:Bool):(W.setCell ⟨g,j,none⟩ (.bool b)).heap[g]? =some (eA fun k=>if k=j then b else f k):=by
 rw[heap_setCell_same _ _ _ _ _ _ hg,IP _ _ hj]
theorem fE{W:World}{g:Nat}{f:Nat→Bool}(hg:W.heap[g]? =some (eA f))(j:Nat)(hj:j<200):W.cell? ⟨g,j,none⟩=some (.bool (f j)):=by rw[aBP _ _ _ _ _ _ hg,iV _ _ hj]
theorem lL{W:World}{g:Nat}{f:Nat→Bool}(hg:W.heap[g]? =some (eA f))(j:Nat):W.frozen? ⟨g,j,none⟩=false:=frozen_of_row _ _ _ _ _ hg
theorem aN{W:World}{g:Nat}{o:Obj}(h:W.heap[g]? =some o):g<W.heap.size:=(aBW.1 h).1
theorem EO(f:Nat→Bool)(b:Nat):(fun k=>if k=b then false else f k)=bW f b:=by
 funext k
 by_cases e:k=b<;>simp[bW,e]
theorem AQ(f:Nat→Bool)(b:Nat)(hb:b<200)(w:World):Calls Tryz.prog 131 #[.agg (aQ f),.int .i64 (b:Int)] w (lK w (bW f b)):=by
 go_enter Tryz.func131,Tryz.ntmps131
 go_upto_region 1 with (fail)
 obtain⟨W,hW⟩:∃W,W=(w.alloc (eA f)).alloc (.cells Tryz.zeroCells124 124):=⟨_,rfl⟩
 rw[←hW]
 have hs:W.heap[w.heap.size]? =some (eA f):=by rw[hW,aBR _ _ _ (by simp)];exact aBS _ _
 have hr:W.heap[w.heap.size+1]? =some (eA fun _=>false):=by rw[hW,aU _ _ _ (by simp),jK]
 have hB:Below w.heap.size w W:=by rw[hW];exact(aD _ _).alloc (by simp) _
 have HW:=aBO hW
 clear hW
 have hc:=fE hs b hb
 have hf:=lL hs b
 have hs2:=sH hs b hb false
 rw[EO] at hs2
 have hr2:=(aK (bA W w.heap.size b (.bool false)) hr (by simp))
 have hB2:=hB.setCell (p:=⟨w.heap.size,b,none⟩) (aBV _) (.bool false)
 have HS2:=aBO hs2
 have HR2:=aBO hr2
 have HB2:=aBO hB2
 have hl:=aN hs
 clear hs hr hB hs2 hr2 hB2
 go_wp2_with (first
  |(refine wpList_load_row rfl 124 _ rfl w.heap.size rfl 124 _ (0,0) _ HS2.out Tryz.underlying124 rfl (by rw[aF];exact bF) ?_)
  |(refine wpList_store_row rfl 124 _ _ rfl (w.heap.size+1) (aQ (bW f b)) rfl rfl 124 _ HR2.out (by rw[aF];exact bF) rfl (dE _) ?_))
 exact bodyPost_ret (v:=.agg (aQ (bW f b))) (by simp[results,Tryz.results131,asAddr,Act.put,oI (setRow_heap _ _ _ _ _ _ HR2.out)]) rfl ⟨rfl,below_setRow HB2.out (by omega) _⟩
theorem QK(xs:List Int)(k:Nat)(hk:k<xs.length)(h0:0≤xs.getD k 0)(h1:xs.getD k 0<200):(fun j=>if j=(xs.getD k 0).toNat then true else ofS (xs.take k) j)=ofS (xs.take (k+1)):=by
 funext j
 rw[IE xs k 0 hk,ofS,ofS,List.contains_append]
 generalize xs.getD k 0=x at h0 h1
 by_cases e:j=x.toNat
 ·subst e;have h3:((x.toNat:Nat):Int)=x:=Int.toNat_of_nonneg h0;have h4:x.toNat<200:=by omega
  simp[h3,h4]
 ·have e2:¬(j:Int)=x:=by omega
  simp[e,e2]
theorem vH(xs:List Int)(k:Nat)(hk:k<xs.length)(h:xs.getD k 0<0∨200≤xs.getD k 0):ofS (xs.take k)=ofS (xs.take (k+1)):=by
 funext j
 rw[IE xs k 0 hk,ofS,ofS,List.contains_append]
 generalize xs.getD k 0=x at h
 by_cases hj:j<200
 ·have e2:¬(j:Int)=x:=by omega
  simp[e2]
 ·simp[hj]
theorem uZ{W:World}{g:Nat}{f h:Nat→Bool}{j:Nat}{b:Bool}(hg:W.heap[g]? =some (eA f))(hj:j<200)(e:(fun k=>if k=j then b else f k)=h):(W.setCell ⟨g,j,none⟩ (.bool b)).heap[g]? =some (eA h):=by rw[←e];exact sH hg j hj b
theorem UT(a:Option Addr)(n c:Nat)(xs:List Int)(w:World)(h:dY w a n xs):Calls Tryz.prog 102 #[.slice a n c] w (lK w (ofS xs)):=by
 have HL:=aBO h.1
 have hn:=h.2.1
 have H:=aBO h
 clear h
 go_enter Tryz.func102,Tryz.ntmps102
 go_wp2
 go_loopw [4,7] (fun _ i wr=>∃(k:Nat),k≤n∧i=.int .i64 k∧Hid (wr.heap[w.heap.size]? =some (eA (ofS (xs.take k))))∧Hid (Below w.heap.size w wr)) (fun _ i _=>n-(intOf i).toNat)
 case atStart=>exact⟨0,by omega,rfl,by rw[Hid,aBS,jK];congr 3;funext j;simp[ofS],aD _ _⟩
 case round=>
  obtain⟨k,hk,rfl,HS,HB⟩:=hrel;by_cases hlt:k<n
  ·obtain⟨b,o,rfl,hc,hw1,hw2⟩:=(H.out.ext HB.out).2.2 k hlt;have hkx:k<xs.length:=by rw[HL.out];exact hlt
   by_cases h0:0≤xs.getD k 0
   ·by_cases h1:xs.getD k 0<200
    ·have hx:(xs.getD k 0).toNat<200:=by omega
     have hcell:=fE HS.out _ hx;have hfr:=lL HS.out (xs.getD k 0).toNat;have HS2:=aBO (uZ HS.out hx (QK xs k hkx h0 h1));have hl:=aN HS.out;generalize xs.getD k 0=x at *;generalize ofS (xs.take k) x.toNat=bb at *;go_wp2
     go_roundw
     case rel=>exact⟨k+1,by omega,by go_num,HS2,HB.out.setCell (aBV _) _⟩
     case measure=>simp[intOf];omega
    ·have HS2:Hid (wr.heap[w.heap.size]? =some (eA (ofS (xs.take (k+1))))):=by rw[Hid,←vH xs k hkx (.inr (by omega))];exact HS.out
     generalize xs.getD k 0=x at *;go_wp2
     go_roundw
     case rel=>exact⟨k+1,by omega,by go_num,HS2,HB⟩
     case measure=>simp[intOf];omega
   ·have HS2:Hid (wr.heap[w.heap.size]? =some (eA (ofS (xs.take (k+1))))):=by rw[Hid,←vH xs k hkx (.inl (by omega))];exact HS.out
    generalize xs.getD k 0=x at *;go_wp2
    go_roundw
    case rel=>exact⟨k+1,by omega,by go_num,HS2,HB⟩
    case measure=>simp[intOf];omega
  ·have HT:Hid (xs.take k=xs):=aCB (by rw[HL.out];omega);have HSx:Hid (wr.heap[w.heap.size]? =some (eA (ofS xs))):=by have:=HS.out;rwa [HT.out] at this
   go_wp2_with (first
    |(refine wpList_load_row rfl 124 _ rfl w.heap.size rfl 124 _ (0,0) _ HSx.out Tryz.underlying124 rfl (by rw[aF];exact bF) ?_)
    |(refine wpList_store_row rfl 124 _ _ rfl w.heap.size (aQ (ofS xs)) rfl rfl 124 _ HSx.out (by rw[aF];exact bF) rfl (dE _) ?_))
   exact bodyPost_ret (v:=.agg (aQ (ofS xs))) (by simp[results,Tryz.results102,asAddr,Act.put,oI (setRow_heap _ _ _ _ _ _ HSx.out)]) rfl ⟨rfl,below_setRow HB.out (by omega) _⟩
def AB(w:World)(a:Option Addr)(n:Nat)(L:List (List Nat)):Prop:=
 L.length=n∧n≤1000∧∀k xs,L[k]? =some xs→∃b o ra rc,a=some ⟨b,o,none⟩∧w.cell? ⟨b,o+k,none⟩=some (.slice ra xs.length rc)∧dY w ra xs.length (aO xs)
theorem AB.ext{w w':World}{a:Option Addr}{n:Nat}{L:List (List Nat)}(h:AB w a n L)(hb:Below w.heap.size w w'):AB w' a n L:=
 ⟨h.1,h.2.1,fun k xs hx=>by
  obtain⟨b,o,ra,rc,e,hc,hi⟩:=h.2.2 k xs hx
  exact⟨b,o,ra,rc,e,aH hb hc,hi.ext hb⟩⟩
structure fD where
 pa:Option Addr
 pn:Nat
 pc:Nat
 ba:Option Addr
 bn:Nat
 bc:Nat
 ta:Option Addr
 tc:Nat
 fa:Option Addr
 fc:Nat
abbrev dK(d:fD):Value:=.agg #[.slice d.pa d.pn d.pc,.slice d.ba d.bn d.bc,.slice d.ta d.bn d.tc,.slice d.fa d.bn d.fc]
abbrev kK(d:fD):Obj:=.cells #[.slice d.pa d.pn d.pc,.slice d.ba d.bn d.bc,.slice d.ta d.bn d.tc,.slice d.fa d.bn d.fc] 116
def oE(ts:List aT):List (List Nat):=(List.range ts.length).map (nx ts)
def nA(ts:List aT):List (List Nat):=(List.range ts.length).map (pv ts)
def gH(w:World)(d:fD)(ts:List aT):Prop:=ts.length=d.bn∧d.bn≤200∧AB w d.ta d.bn (oE ts)∧AB w d.fa d.bn (nA ts)
theorem gH.ext{w w':World}{d:fD}{ts:List aT}(h:gH w d ts)(hb:Below w.heap.size w w'):gH w' d ts:=⟨h.1,h.2.1,h.2.2.1.ext hb,h.2.2.2.ext hb⟩
theorem pS(d:fD)(hd:d.bn≤200)(w:World):Calls Tryz.prog 80 #[dK d] w (lK w (aL d.bn)):=by
 go_enter Tryz.func80,Tryz.ntmps80
 go_wp2
 go_loopw [3,8] (fun _ i wr=>∃(k:Nat),k≤d.bn∧i=.int .i64 k∧Hid (wr.heap[w.heap.size+1]? =some (eA (aL k)))∧Hid (Below w.heap.size w wr)) (fun _ i _=>d.bn-(intOf i).toNat)
 case atStart=>exact⟨0,by omega,rfl,by rw[Hid,aU _ _ _ (by simp),jK];rfl,(aD _ _).alloc (by simp) _⟩
 case round=>
  obtain⟨k,hk,rfl,HS,HB⟩:=hrel;by_cases hlt:k<d.bn
  ·have hcell:=fE HS.out k (by omega);have hfr:=lL HS.out k;have HS2:=aBO (uZ (h:=aL (k+1)) (b:=true) HS.out (show k<200 by omega) (by funext j;by_cases e:j=k<;>simp[aL,e]<;>omega));have hl:=aN HS.out;generalize aL k k=bb at *;go_wp2
   go_roundw
   case rel=>exact⟨k+1,by omega,by go_num,HS2,HB.out.setCell (by simp) _⟩
   case measure=>simp[intOf];omega
  ·obtain rfl:k=d.bn:=by omega
   go_wp2_with (first
    |(refine wpList_load_row rfl 124 _ rfl (w.heap.size+1) rfl 124 _ (0,0) _ HS.out Tryz.underlying124 rfl (by rw[aF];exact bF) ?_)
    |(refine wpList_store_row rfl 124 _ _ rfl (w.heap.size+1) (aQ (aL d.bn)) rfl rfl 124 _ HS.out (by rw[aF];exact bF) rfl (dE _) ?_))
   exact bodyPost_ret (v:=.agg (aQ (aL d.bn))) (by simp[results,Tryz.results80,asAddr,Act.put,oI (setRow_heap _ _ _ _ _ _ HS.out)]) rfl ⟨rfl,below_setRow HB.out (by omega) _⟩
end

section
open Go.RowKit
theorem VT{w:World}{base:Nat}{g c:Nat}{xs:List Int}{x:Int}(h:bN w base (.slice (some ⟨g,0,none⟩) (xs.length+1) c) (xs++ [x])):bN w base (.slice (some ⟨g,0,none⟩) xs.length c) xs:=by
 refine⟨⟨by simp[bC],?_⟩,fun z hz=>h.2.1 z (by simp[hz]),by have:=h.2.2;simp at this;omega⟩
 rcases h.1.2 with ⟨hv,_⟩|⟨g',cap,cur,hv,hb,hh,h1,h2,h3,h4⟩
 ·cases hv
 ·injection hv with e1 e2 e3;injection e1 with e1;injection e1 with e1 _ _;subst e1 e3;refine .inr ⟨g,c,cur,rfl,hb,hh,by simp at h1;omega,h2,h3,?_⟩;have h5:(cur.toList.take ((xs++ [x]).length*1)).take xs.length=(bC (xs++ [x])).take xs.length:=by rw[h4]
  rw[List.take_take] at h5;simpa[bC] using h5
theorem SJ{w:World}{base:Nat}{g c:Nat}{xs:List Int}{x:Int}(h:bN w base (.slice (some ⟨g,0,none⟩) (xs.length+1) c) (xs++ [x])):w.cell? ⟨g,xs.length,none⟩=some (.int .i64 x):=by
 have h1:=h.ints
 obtain⟨b,o,e,hc,_⟩:=h1.2.2 xs.length (by omega)
 injection e with e
 injection e with e1 e2
 subst e1 e2
 rw[Nat.zero_add] at hc
 rw[hc]
 simp[aBT]
def WJ(next:Nat→List Nat)(f:Nat→Bool)(b:Nat)(w:World)(st seen:List Nat)(x:Option (Nat×Nat))(v:Value)(wr:World):Prop:=
 nH next f b st (fun y=>seen.contains y) x∧seen.Nodup∧(∀y∈seen,y<200)∧wr.heap[w.heap.size+1]? =some (eA f)∧wr.heap[w.heap.size+1+1]? =some (eA fun y=>seen.contains y)∧
  bN wr (w.heap.size+1+1+1) v (aO st)∧Below w.heap.size w wr
theorem Reach.lt{next:Nat→List Nat}{inn:Nat→Bool}{b y n:Nat}(h:Reach next inn b y)(hx:∀k y,y∈next k→y<200∧(inn y=true→y<n)):y<n:=by
 cases h with
 |one h1 h2=>exact(hx _ _ h1).2 h2
 |step _ h1 h2=>exact(hx _ _ h1).2 h2
theorem FN(d:fD)(b:Nat)(f:Nat→Bool)(ra:Option Addr)(rn rc:Nat)(L:List (List Nat))(next:Nat→List Nat)(w:World)(hb:b<200)(hrn:rn≤200)(hcf:cA f)(hf:f b=true→b<rn)
  (hL:∀k,k<rn→L[k]? =some (next k)) (hx:∀k y,y∈next k→y<200∧(f y=true→y<rn)) (hw:AB w ra rn L):
  Calls Tryz.prog 129 #[dK d,.int .i64 (b:Int),.agg (aQ f),.slice ra rn rc] w (lK w (bL next f b)):=by
 have HC:=aBO hcf
 have HF:=aBO hf
 have HL:=aBO hL
 have HX:=aBO hx
 have HW:=aBO hw
 clear hcf hf hL hx hw
 go_enter Tryz.func129,Tryz.ntmps129
 go_upto_region 1 with (fail)
 obtain⟨W,hW⟩:∃W,W=((w.alloc (kK d)).alloc (eA f)).alloc (.cells Tryz.zeroCells124 124):=⟨_,rfl⟩
 rw[←hW]
 have hs:W.heap[w.heap.size+1]? =some (eA f):=by rw[hW,aBR _ _ _ (by simp)];exact aU _ _ _ (by simp)
 have hr:W.heap[w.heap.size+1+1]? =some (eA fun _=>false):=by rw[hW,aU _ _ _ (by simp),jK]
 have hB:Below w.heap.size w W:=by rw[hW];exact((aD _ _).alloc (by simp) _).alloc (by simp;omega) _
 have hWs:W.heap.size=w.heap.size+1+1+1:=by rw[hW];simp
 have HWs:=aBO hWs
 have hc:=fE hs b hb
 clear hW hWs
 by_cases hfb:f b=true
 ·rw[hfb] at hc;have HS:=aBO hs;have HR:=aBO hr;have HB:=aBO hB;have HFB:=aBO hfb;clear hs hr hB hfb;go_wp2
  go_loopg [9] 201 (fun gg v wr=>∃(st seen:List Nat),st.length+200≤gg+seen.length∧st.length≤seen.length+1∧Hid (WJ next f b w st seen none v wr))
  case atStart=>
   refine⟨[b],[],by simp,by simp,by simpa using nH.start next f b,by simp,by simp,?_,?_,?_,?_⟩
   ·exact(aBR _ _ _ (by rw[HWs.out];omega)).trans HS.out
   ·exact(aBR _ _ _ (by rw[HWs.out];omega)).trans HR.out
   ·exact mX (xs:=aO [b]) rfl _ (by rw[HWs.out];omega) (JZ [b] (by simp;omega)) (by simp[aO])
   ·exact HB.out.alloc (by rw[HWs.out];omega) _
  case round=>
   obtain⟨st,seen,hm,hm2,HJ⟩:=hrel;clear hc HS HR HB HWs;rcases List.eq_nil_or_concat st with rfl|⟨st',x,rfl⟩
   ·obtain⟨h1,h2,h3,h4,h5,h6,h7⟩:=HJ.out;obtain⟨av,cv,rfl⟩:=h6.form;have HE:Hid ((fun y=>seen.contains y)=bL next f b):=IJ HC.out HFB.out h1;rw[HE.out] at h5;have HS:=aBO h5;have HB:=aBO h7;clear h1 h2 h3 h4 h5 h6 h7 HJ hm
    go_wp2_with (first
     |(refine wpList_load_row rfl 124 _ rfl (w.heap.size+1+1) rfl 124 _ (0,0) _ HS.out Tryz.underlying124 rfl (by rw[aF];exact bF) ?_)
     |(refine wpList_store_row rfl 124 _ _ rfl (w.heap.size+1+1) (aQ (bL next f b)) rfl rfl 124 _ HS.out (by rw[aF];exact bF) rfl (dE _) ?_))
    exact bodyPost_ret (v:=.agg (aQ (bL next f b))) (by simp[results,Tryz.results129,asAddr,Act.put,oI (setRow_heap _ _ _ _ _ _ HS.out)]) rfl ⟨rfl,below_setRow HB.out (by omega) _⟩
   ·obtain⟨h1,h2,h3,h4,h5,h6,h7⟩:=id HJ.out;rw[List.concat_eq_append] at h1 h6 hm hm2;have hst:aO (st'++ [x])=aO st'++ [(x:Int)]:=by simp[aO]
    rw[hst] at h6;obtain⟨gb,cb,hv⟩:=eI h6.1 (by simp);have hlen':(aO st'++ [(x:Int)]).length=st'.length+1:=by simp[aO]
    have hlen2:(aO st').length=st'.length:=by simp[aO]
    rw[hlen'] at hv;subst hv;rw[←hlen2] at h6;have hpop:=VT h6;have hlast:=SJ h6;rw[hlen2] at hpop hlast;have hcap:=h6.cap;have hxf:f x=true:=by
     rcases h1.src x (by simp) with e|e
     ·rw[e];exact HFB.out
     ·exact(h1.sound x e).inn
    have hxr:x<rn:=by
     rcases h1.src x (by simp) with e|e
     ·rw[e];exact HF.out HFB.out
     ·exact(h1.sound x e).lt HX.out
    obtain⟨bb,oo,xa,xc,rfl,hcr0,hir⟩:=HW.out.2.2 x (next x) (HL.out x hxr);have hcr:=aH h7 hcr0;have hseen:seen.length≤200:=nT 200 seen h2 h3;have hstl:=hm;simp only[List.length_append,List.length_cons,List.length_nil,Nat.zero_add] at hstl hm2
    have HJ2:Hid (WJ next f b w st' seen (some (x,0)) (.slice (some ⟨gb,0,none⟩) st'.length cb) wr):=
     ⟨h1.take x st' (fun z=>by simp[or_comm]),h2,h3,h4,h5,hpop,h7⟩
    have HIR:=aBO hir;have hnl:(next x).length≤17592186044416:=hir.2.1;have hcb:st'.length+1≤cb:=by have:=hcap.1;omega
    have hcb2:cb≤9223372036854775807:=hcap.2.1;have hstn:st'.length≤1000:=by omega
    clear h1 h2 h3 h4 h5 h6 h7 HJ hm hst hlen' hlen2 hpop hir hxf hcap hcr0;go_wp2;obtain⟨wo,rfl⟩:∃wo:World,wo=wr:=⟨_,rfl⟩
    go_loopg [9,12,39] (next x).length (fun g2 v2 _ j wi=>∃(j':Nat) (st2 seen2:List Nat),j=.int .i64 (j':Int)∧j'≤(next x).length∧(next x).length≤g2+j'∧st2.length+seen.length=st'.length+seen2.length∧Hid (WJ next f b w st2 seen2 (some (x,j')) v2 wi))
    case atStart=>exact⟨0,st',seen,rfl,Nat.zero_le _,aBV _,rfl,HJ2⟩
    case round=>
     obtain⟨j',st2,seen2,rfl,hj,hg2,hcnt,HJ⟩:=hrel;clear HJ2 hlast;obtain⟨h1,h2,h3,h4,h5,h6,h7⟩:=id HJ.out;obtain⟨va,vc,rfl⟩:=h6.form;have hseen2:seen2.length≤200:=nT 200 seen2 h2 h3;by_cases hjl:j'<(next x).length
     ·have hyx:(next x).getD j' 0∈next x:=by rw[aBT,aBU hjl];exact aBZ _
      have hy:=(HX.out x _ hyx).1;obtain⟨b3,o3,rfl,hcy,_⟩:=(HIR.out.ext h7).2.2 j' hjl;have hey:(aO (next x)).getD j' 0=(((next x).getD j' 0:Nat):Int):=by simp[aO,aBT,hjl]
      rw[hey] at hcy;have hcf:=fE h4 _ hy;have hcs:=fE h5 _ hy;have hfs:=lL h5 ((next x).getD j' 0);have hlS:=aN h5;have hjl':(j':Int)<((next x).length:Int):=by omega
      clear hey hyx;by_cases hgo:f ((next x).getD j' 0)=true∧seen2.contains ((next x).getD j' 0)=false
      ·obtain⟨hg1,hg2'⟩:=hgo;have hns:(next x).getD j' 0∉seen2:=by simpa using hg2'
       have hP:=h1.push hjl hg1 (st2++ [(next x).getD j' 0]) (fun z=>by simp[or_comm]) (fun z=>((next x).getD j' 0 :: seen2).contains z) (fun z=>by simp);rw[hg1] at hcf;simp only[hg2'] at hcs;have HP:=aBO hP;have HN:=aBO hns;have e1:(fun k=>if k=(next x).getD j' 0 then true else seen2.contains k)=(fun z=>((next x).getD j' 0 :: seen2).contains z):=by
        funext k
        by_cases e:k=(next x).getD j' 0
        ·simp[e]
        ·simp[e,List.contains_cons]
       have HS1:=aBO (uZ (b:=true) h5 hy e1);have HF1:=aBO (aK (bA wr (w.heap.size+1+1) ((next x).getD j' 0) (.bool true)) h4 (by simp))
       have HO1:=aBO (h6.kept (bA wr (w.heap.size+1+1) ((next x).getD j' 0) (.bool true)) (by
        rcases hvb:(Value.slice va (aO st2).length vc).ownBlock with _|kb
        ·exact .inl rfl
        ·have:=(h6.1.lt kb hvb).1;refine .inr ?_;intro e;injection e with e
         omega))
       have HB1:=aBO (h7.setCell (p:=⟨w.heap.size+1+1,(next x).getD j' 0,none⟩) (by simp;omega) (.bool true));have H2:=aBO h2;have H3:=aBO h3;have hst2:(aO st2).length=st2.length:=by simp[aO]
       have hsl:st2.length≤1000:=by omega
       have hsl2:(aO st2).length≤1000:=by omega
       clear hg1 hg2' hns hP e1 h1 h2 h3 h4 h5 h6 h7 HJ;generalize hyy:(next x).getD j' 0=y at*
       go_wp2_with (
        (at_builtin
         refine bV rfl (wr.setCell ⟨w.heap.size+1+1,y,none⟩ (.bool true)) (.tmp 54) (.tmp 56) 22 3 rfl (w.heap.size+1+1+1) _ 1 8 Tryz.underlying22 lY rfl (by omega) (.slice va (aO st2).length vc) (aO st2).length _ [.int .i64 (y:Int)] rfl HO1.out.1 wr.heap.size (by simp) rfl rfl (by simp[Value.oneCell']) (by simp only[maxLen];omega) (by omega) (by simp;omega) ?_;intro g cap w2 hown2 hg2 hat2;have HO2:=aBO hown2;have HG2:=aBO hg2
         clear hown2 hg2 hat2))
       have hrow:∀(k:Nat),k<w.heap.size+1+1+1→¬(Value.slice va (aO st2).length vc).ownBlock=some k:=fun k hk e=>by
        have:=(HO1.out.1.lt k e).1;omega
       go_roundg ((next x).length-(j'+1))
       case measure=>omega
       case rel=>
        refine⟨j'+1,st2++ [y],y :: seen2,by go_num,by omega,by omega,by simp;omega,HP.out,List.nodup_cons.2 ⟨HN.out,H2.out⟩,?_,?_,?_,?_,?_⟩
        ·intro z hz;rcases List.mem_cons.1 hz with rfl|hz
         ·exact hy
         ·exact H3.out z hz
        ·exact aK HG2.out HF1.out (hrow _ (by omega))
        ·exact aK HG2.out HS1.out (hrow _ (by omega))
        ·have e2:aO (st2++ [y])=aO st2++ [(y:Int)]:=by simp[aO]
         rw[e2];refine⟨?_,?_,by simp;omega⟩
         ·have e3:(aO st2++ [(y:Int)]).length=(aO st2).length+1:=by simp
          have e4:bC (aO st2++ [(y:Int)])=bC (aO st2)++ [.int .i64 (y:Int)]:=by simp[bC]
          rw[e3,e4];have h9:=HO2.out;rw[hst2] at h9⊢;exact h9
         ·intro z hz;rcases aCA.1 hz with h|h
          ·exact HO1.out.2.1 z h
          ·simp only[List.mem_singleton] at h;subst h;unfold I64;omega
        ·exact HB1.out.grown HG2.out (by simp;omega) (fun k e=>by have:=(HO1.out.1.lt k e).1;omega)
      ·have HJ3:Hid (WJ next f b w st2 seen2 (some (x,j'+1)) (.slice va (aO st2).length vc) wr):=by
        refine⟨h1.skip hjl (fun hi=>?_),h2,h3,h4,h5,h6,h7⟩;cases hb2:seen2.contains ((next x).getD j' 0) with
        |true=>rfl
        |false=>exact absurd ⟨hi,hb2⟩ hgo
       have hgo':f ((next x).getD j' 0)=true→seen2.contains ((next x).getD j' 0)=true:=fun hi=>by
        cases hb2:seen2.contains ((next x).getD j' 0) with
        |true=>rfl
        |false=>exact absurd ⟨hi,hb2⟩ hgo
       clear h1 h2 h3 h4 h5 h6 h7 HJ hgo;generalize hyy:(next x).getD j' 0=y at *;cases hfy:f y with
       |true=>
        have hsy:=hgo' hfy;rw[hfy] at hcf;simp only[hsy] at hcs;clear hgo' hsy hfy;go_wp2
        go_roundg ((next x).length-(j'+1))
        case measure=>omega
        case rel=>exact⟨j'+1,st2,seen2,by go_num,by omega,by omega,by omega,HJ3⟩
       |false=>
        rw[hfy] at hcf;clear hgo' hfy;go_wp2
        go_roundg ((next x).length-(j'+1))
        case measure=>omega
        case rel=>exact⟨j'+1,st2,seen2,by go_num,by omega,by omega,by omega,HJ3⟩
     ·obtain rfl:j'=(next x).length:=by omega
      have HJ3:Hid (WJ next f b w st2 seen2 none (.slice va (aO st2).length vc) wr):=⟨h1.fin (aBV _),h2,h3,h4,h5,h6,h7⟩
      clear h1 h2 h3 h4 h5 h6 h7 HJ;go_wp2
      go_roundg (st2.length+200-seen2.length)
      case measure=>omega
      case rel=>exact⟨st2,seen2,by omega,by omega,HJ3⟩
 ·have hfb':f b=false:=by simpa using hfb
  rw[hfb'] at hc;have HE:Hid (bL next f b=fun _=>false):=IK hfb';have HR:=aBO hr;have HB:=aBO hB;clear hfb hfb' hs hr hB
  go_wp2_with (first
   |(refine wpList_load_row rfl 124 _ rfl (w.heap.size+1+1) rfl 124 _ (0,0) _ HR.out Tryz.underlying124 rfl (by rw[aF];exact bF) ?_)
   |(refine wpList_store_row rfl 124 _ _ rfl (w.heap.size+1+1) (aQ fun _=>false) rfl rfl 124 _ HR.out (by rw[aF];exact bF) rfl (dE _) ?_))
  exact bodyPost_ret (v:=.agg (aQ fun _=>false)) (by simp[results,Tryz.results129,asAddr,Act.put,oI (setRow_heap _ _ _ _ _ _ HR.out)]) rfl ⟨by rw[HE.out],below_setRow HB.out (by omega) _⟩
theorem II(d:fD)(b:Nat)(f:Nat→Bool)(ra:Option Addr)(rn rc:Nat)(L:List (List Nat))(next:Nat→List Nat)(w:World)(hb:b<200)(hrn:rn≤200)(hf:∀y,f y=true→y<rn)
  (hL:∀k,k<rn→L[k]? =some (next k)) (hx:∀k y,y∈next k→y<200) (hw:AB w ra rn L):
  Calls Tryz.prog 129 #[dK d,.int .i64 (b:Int),.agg (aQ f),.slice ra rn rc] w (lK w (bL next f b)):=
 FN d b f ra rn rc L next w hb hrn (fun y hy=>by have:=hf y hy;omega) (hf b) hL (fun k y hy=>⟨hx k y hy,hf y⟩) hw
end
end Go.Proofs.YtblhmdhfhaencaaGreat
