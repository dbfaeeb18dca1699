/-
 Stores of whole rows,the world behind under a name of its own;reads in whatever world is grown out of one. No program in sight.
-/
import Derived.Test.YtchdkjenhppleaaGreatA0
import Derived.Test.YtchdkjenhppleaaGreatTQ
import Derived.Laws.Tables
import Derived.Laws.CopyOwn
import Derived.Test.YtchdkjenhppleaaGreatMix
import Derived.Test.YtchdkjenhppleaaGreatFL
import Derived.Deep.RegionHeld3
import Derived.Deep.DeepCutAuto
import Derived.Deep.Light
namespace Go.Proofs.YtchdkjenhppleaaGreat
set_option linter.unusedSimpArgs false
set_option linter.unusedVariables false
set_option linter.unusedSectionVars false
set_option maxRecDepth 100000
set_option maxHeartbeats 40000000
section
open Go.RowKit
section
variable {P:Program} {Q:Exit->Act->World->Prop}
theorem rI{ops:Array Oper}{rest:List Oper}{o:Oper}{a:Act}{w:World}(hgd:o.guard=none)(ty:TypeId)(x y:Operand)(ho:o.op=.store ty x y)
  (g:Nat) (cells:Array Value) (hx:a.eval x=.pointer (some ⟨g,0,none⟩)) (hy:a.eval y=.agg cells)
  (t:TypeId) (old:Array Value) (hg:w.heap[g]? =some (.cells old t (0,0))) (hi:(P.info? ty).map (·.size)=some cells.size)
  (hold:old.size=cells.size) (h1:cells.all (·.oneCell')=true) (B:Nat) (w0:World) (hb:Below B w0 w) (hB:B<=g)
  (h:∀W',Below B w0 W'->W'.heap[g]? =some (.cells cells t (0,0))->wpList P ops Q rest (a.put o.dst undef) W'):wpList P ops Q (o :: rest) a w:=
 aU hgd ty x y ho g cells hx hy t old hg hi hold h1 (h _ (aA hb hB _) (aG _ _ _ _ _ _ hg))
theorem oT{o:Oper}{a:Act}{K:Act->World->Prop}{w:World}(ty:TypeId)(x y:Operand)(ho:o.op=.store ty x y)
  (g:Nat) (cells:Array Value) (hx:a.eval x=.pointer (some ⟨g,0,none⟩)) (hy:a.eval y=.agg cells)
  (t:TypeId) (old:Array Value) (hg:w.heap[g]? =some (.cells old t (0,0))) (hi:(P.info? ty).map (·.size)=some cells.size)
  (hold:old.size=cells.size) (h1:cells.all (·.oneCell')=true) (B:Nat) (w0:World) (hb:Below B w0 w) (hB:B<=g)
  (h:∀W',Below B w0 W'->W'.heap[g]? =some (.cells cells t (0,0))->K (a.put o.dst undef) W'):o.wp P a w K Q:=
 aE ty x y ho g cells hx hy t old hg hi hold h1 (h _ (aA hb hB _) (aG _ _ _ _ _ _ hg))
theorem vJ{o:Oper}{a:Act}{K:Act->World->Prop}{w:World}(ty:TypeId)(ho:o.op=.alloc ty)(z:Value)(hz:∀w,(zeroValue ty).run P w=.ok z w)
  (h:∀g W',Below w.heap.size w W'->g=w.heap.size->W'.heap[g]? =some (.cells z.cells ty (0,0))->K (a.put o.dst (.pointer (some ⟨g,0,none⟩))) W'):o.wp P a w K Q:=by
 have hr:(Instr.alloc ty true (.tuple #[])).run P w=.ok (.pointer (some ⟨w.heap.size,0,none⟩)) (w.alloc (.cells z.cells ty)):=by
  simp[Instr.alloc,hz,newVar,newRow]
 unfold Oper.wp execOp
 simp only[ho,bu,hr,bp,cY]
 exact h _ _ ((ao _ w).alloc (aw _) _) rfl (ai w _)
end
theorem kz{w w2:World}{q:Nat}(h:Below (w.drewN q).heap.size (w.drewN q) w2):Below w.heap.size w w2:=⟨h.os,h.tape,h.output,h.size,h.block⟩
theorem jV{w w2:World}(h:Below w.drew.heap.size w.drew w2):Below w.heap.size w w2:=⟨h.os,h.tape,h.output,h.size,h.block⟩
theorem uG{w:World}{base:Nat}{e:TypeId}{size:Nat}{v:Value}{n:Nat}{xs:List Value}(h:w.ownsRow base e size v n xs)(hn:0<n):∃g c,v=.slice (some ⟨g,0,none⟩) n c:=by
 rcases h.2 with ⟨_,h0⟩|⟨g,cap,cur,hv,_⟩
 .omega
 grind
theorem vE{w:World}{base:Nat}{e:TypeId}{g n c:Nat}{xs:List Int}(h:w.ownsRow base e 1 (.slice (some ⟨g,0,none⟩) n c) n (xs.map (Value.int .i64)))(hx:∀x∈xs,I64 x)(hn:n<=17592186044416):fR w (some ⟨g,0,none⟩) n xs:=by
 have hl:xs.length=n:=by have:=h.1;grind
 refine⟨hl,hn,λk hk=>⟨g,0,rfl,?_,?_⟩⟩
 .rw[aW,dJ h k (by omega)]
  grind
 grind
theorem fR.mem{w:World}{a:Option Addr}{n:Nat}{xs:List Int}(h:fR w a n xs):∀x∈xs,I64 x:=by
 intro x hx
 obtain⟨k,hk,e⟩:=a8.1 hx
 obtain⟨_,_,_,_,hi⟩:=h.2.2 k (by rw[<-h.1];omega)
 grind
theorem eB{w w':World}(h:Below w.heap.size w w'){k:Nat}{o:Obj}(hk:w.heap[k]? =some o):w'.heap[k]? =some o:=(h.block k (am.1 hk).1).trans hk
end

section
open Go.RowKit
def xW(listed:Array Bool)(i:Nat):Nat->Array Bool
 |0=>listed
 |n+1=>xW (listed.setIfInBounds i true) (i+1) n
def xY(l:List Oper):Nat->Nat->Array Bool->Bool
 |0,_,_=>true
 |n+1,i,listed=>(Region.ready .any l.toArray listed).contains i&&Region.free .any l.toArray listed i&&((l[i]?).map MS).getD false&&xY l n (i+1) (listed.setIfInBounds i true)
def LE(l:List Oper)(listed:Array Bool):Bool:=
 (List.range l.length).all λj=> !listed.getD j false||((l[j]?).map λo=>o.after.all λe=> !Region.binds .any e||listed.getD e.on false).getD true
section
variable {P:Program} {l:List Oper} {S:World->Prop} {Q:Exit->Act->World->Prop}
theorem YV{listed:Array Bool}(h:LE l listed=true):mA l listed:=by
 intro j o ho hl e he hb
 unfold LE at h
 rw[bq] at h
 have hlt:j<l.length:=by
  have:=(am.1 ho).1;simpa using this
 have:=h j (be.2 hlt)
 have ho':l[j]? =some o:=by simpa using ho
 simp only[hl,Bool.not_true,Bool.false_or,ho',Option.map_some,dA] at this
 have:=(Array.all_eq_true'.1 this) e he
 simpa[hb] using this
theorem SI:∀(n i:Nat) (listed:Array Bool),xY l n i listed=true->sW l n i listed=some (xW listed i n):=by
 intro n
 induction n with
 |zero=>intro i listed _;rfl
 |succ n ih=>
  intro i listed h;simp only[xY,az] at h;obtain⟨⟨⟨h1,h2⟩,h3⟩,h4⟩:=h;simp only[sW,xW];rw[aX (by simp only[az];exact⟨⟨h1,h2⟩,h3⟩)];exact ih _ _ h4
theorem iZ{id:Nat}{a:Act}{w:World}(S:World->Prop)(hm:P.follows .mixedOrders=true)
  (h:iY P l (NoPanic Q) S l.length (Array.replicate l.length false) a w.drew):(Code.region id l.toArray true).wp P Q a w:=by
 refine wp_region_noPanic (wp_region_any hm ?_)
 have:=wO _ _ _ _ h
 simpa using this
theorem eK{fuel:Nat}{listed:Array Bool}{a:Act}{w:World}(i n:Nat)(hok:(xY l n i listed&&LE l listed&&Region.noSelect l.toArray)=true)(hS:S w)
  (h:wpQuiet P l.toArray S (λa'=>iY P l (NoPanic Q) S fuel (xW listed i n) a' w) ((l.drop i).take n) a):iY P l (NoPanic Q) S (fuel+n) listed a w:=by
 simp only[az] at hok
 exact rB hok.2 (λ_ _ _ hp=>hp) fuel w hS _ n i listed _ a (YV hok.1.2) (SI n i listed hok.1.1) (λ_ a' ha'=>ha') h
theorem eO{fuel:Nat}{listed:Array Bool}{a:Act}{w:World}(e:Nat)(hr:(Region.ready .any l.toArray listed== [e])=true)
  (h:wpOp P l.toArray (NoPanic Q) e (λa' w'=>(qH l e=true\/S w')/\iY P l (NoPanic Q) S fuel (listed.setIfInBounds e true) a' w') a w):iY P l (NoPanic Q) S (fuel+1) listed a w:=by
 have hr:=eq_of_beq hr
 refine⟨λh0=>?_,λi hi=>?_⟩
 .rw[hr] at h0;cases h0
 .rw[hr,bm] at hi;subst hi;exact h
theorem lU{fuel:Nat}{listed:Array Bool}{a:Act}{w:World}(e e':Nat)(hr:(Region.ready .any l.toArray listed== [e,e'])=true)
  (h:wpOp P l.toArray (NoPanic Q) e (λa' w'=>(qH l e=true\/S w')/\iY P l (NoPanic Q) S fuel (listed.setIfInBounds e true) a' w') a w)
  (h':wpOp P l.toArray (NoPanic Q) e' (λa' w'=>(qH l e'=true\/S w')/\iY P l (NoPanic Q) S fuel (listed.setIfInBounds e' true) a' w') a w):iY P l (NoPanic Q) S (fuel+1) listed a w:=by
 have hr:=eq_of_beq hr
 refine⟨λh0=>?_,λi hi=>?_⟩
 .rw[hr] at h0;cases h0
 .rw[hr] at hi;rcases aH.1 hi with rfl|hi
  .exact h
  .rw[bm] at hi;subst hi;exact h'
theorem fJ{listed:Array Bool}{a:Act}{w:World}(hr:(Region.ready .any l.toArray listed== [])=true)(h:Q .normal a w):iY P l (NoPanic Q) S 0 listed a w:=⟨eq_of_beq hr,h⟩
end
end

section
open Go.RowKit
def kN(m:eY):Bool:=
 decide (1<=m.regs/\m.regs<=64)&&decide (m.args.length<=8)&&decide ((m.saved.length:Int)<=m.regs)&&mX m.saved&&ofB m.regs m.args&&ofB m.regs (m.ret :: m.saved)
def lB(w:World)(m:eY)(a1:Option Addr)(n1 c1:Nat)(a2:Option Addr)(n2 c2:Nat):Prop:=
 fR w a1 n1 m.args/\fR w a2 n2 m.saved/\n1<=c1/\n2<=c2/\n1<=1000000/\n2<=1000000/\I64 m.regs/\I64 m.ret
theorem lB.ext{w w':World}{m:eY}{a1 a2:Option Addr}{n1 c1 n2 c2:Nat}(h:lB w m a1 n1 c1 a2 n2 c2)(hb:Below w.heap.size w w'):lB w' m a1 n1 c1 a2 n2 c2:=⟨h.1.ext hb,h.2.1.ext hb,h.2.2⟩
theorem xS(w:World):(zeroValue 124).run Tryz.prog w=.ok (.agg (nO λ_=>false)) w:=by kernel_rfl
theorem oA:(Tryz.prog.info? 3).map (λi=>(i.zero,i.size,i.bytes))=some (some (.int .i64 0),1,8):=by kernel_rfl
theorem gl{m:eY}(h:¬(1<=m.regs/\m.regs<=64/\m.args.length<=8/\(m.saved.length:Int)<=m.regs/\mX m.saved=true)):kN m=false:=by
 cases hq:kN m with
 |false=>rfl
 |true=>
  simp only[kN,az,aR] at hq;exact absurd ⟨hq.1.1.1.1.1.1,hq.1.1.1.1.1.2,hq.1.1.1.1.2,hq.1.1.1.2,hq.1.1.2⟩ h
theorem WL{m:eY}(h:1<=m.regs/\m.regs<=64/\m.args.length<=8/\(m.saved.length:Int)<=m.regs/\mX m.saved=true):kN m=(ofB m.regs m.args&&ofB m.regs (m.ret :: m.saved)):=by
 simp[kN,h.1,h.2.1,h.2.2.1,h.2.2.2.1,h.2.2.2.2]
theorem WM(m:eY)(a1 a2:Option Addr)(n1 c1 n2 c2:Nat)(w:World)(h:lB w m a1 n1 c1 a2 n2 c2)(hno:¬(1<=m.regs/\m.regs<=64/\m.args.length<=8/\(m.saved.length:Int)<=m.regs/\mX m.saved=true)):
  Calls Tryz.prog 27 #[nG m a1 n1 c1 a2 n2 c2] w λe w'=>e=.returned (.bool (kN m))/\Below w.heap.size w w':=by
 obtain⟨h1,h2,h3,h4,h5,h6,⟨h7,h8⟩,h9⟩:=h
 have HE:=ac (gl hno)
 rw[h1.1,h2.1] at hno
 have HN:=ac hno
 have H2:=ac h2
 clear h1 h2 h9 hno
 have key:∀b,mX m.saved=b->(b=false\/¬(1<=m.regs/\m.regs<=64/\n1<=8/\(n2:Int)<=m.regs)):=λb hb=>by
  cases b with
  |false=>exact Or.inl rfl
  |true=>exact Or.inr (λhx=>HN.out ⟨hx.1,hx.2.1,hx.2.2.1,hx.2.2.2,hb⟩)
 rcases key _ rfl with hs|hs
 .go_enter Tryz.func27,Tryz.ntmps27
  go_wp2_with (first
   |(go_at_call 54
     refine(yU a2 n2 c2 m.saved _ (H2.out.ext (eC _ _))).mono ?_;rw[hs];rintro e w1 ⟨rfl,q,hq⟩
     subst hq))
  all_goals
   go_ret
   exact⟨by rw[HE.out];rfl,by first|exact eC _ _|exact eS (eC _ _) _⟩
 .clear key
  go_enter Tryz.func27,Tryz.ntmps27
  go_wp2_with (first
   |(go_at_call 54
     exfalso;apply hs
     refine⟨?_,?_,?_,?_⟩<;>(go_light;omega)))
  all_goals
   go_ret
   exact⟨by rw[HE.out];rfl,eC _ _⟩
theorem RX(m:eY)(a1 a2:Option Addr)(n1 c1 n2 c2:Nat)(w:World)(h:lB w m a1 n1 c1 a2 n2 c2)(hyes:1<=m.regs/\m.regs<=64/\m.args.length<=8/\(m.saved.length:Int)<=m.regs/\mX m.saved=true):
  Calls Tryz.prog 27 #[nG m a1 n1 c1 a2 n2 c2] w λe w'=>e=.returned (.bool (kN m))/\Below w.heap.size w w':=by
 obtain⟨h1,h2,h3,h4,h5,h6,-,h9⟩:=h
 have HE:=ac (WL hyes)
 rw[h1.1,h2.1] at hyes
 obtain⟨g1,g2,g3,g4,g5⟩:=hyes
 have G5:=ac g5
 have H1:=ac h1
 have H2:=ac h2
 have HL1:=ac h1.1
 have HL2:=ac h2.1
 have H9:=ac h9
 clear h1 h2 h9 g5
 go_enter Tryz.func27,Tryz.ntmps27
 go_wp2_with (first
  |(go_at_call 54
    refine(yU a2 n2 c2 m.saved _ (H2.out.ext (eC _ _))).mono ?_;rw[G5.out];rintro e w1 ⟨rfl,q,hq⟩
    subst hq)
  |(go_at_call 55
    refine(vD m.regs (by omega) a1 n1 c1 m.args _ (by exact H1.out.ext (eS (eC _ _) _))).mono ?_;rintro e w1 ⟨f,rfl,-,hb⟩;have HB1:Hid (Below (w.alloc (iK m a1 n1 c1 a2 n2 c2)).heap.size (w.alloc (iK m a1 n1 c1 a2 n2 c2)) w1):=kz hb
    clear hb)
  |(refine rI rfl 124 _ _ rfl w1.heap.size (nO f) rfl rfl 124 _ (ai w1 _) (by rw[gD];exact kR) (by rw[gD];rfl) (pD _) _ _ (eA HB1.out (eC _ _)) HB1.out.size ?_
    intro W0 hb0 _;have HB0:=ac hb0
    clear hb0))
 have HW0:Hid (Below w.heap.size w W0):=eA (eC _ _) HB0.out
 have hM:∀w',Below W0.heap.size W0 w'->w'.heap[w.heap.size]? =some (iK m a1 n1 c1 a2 n2 c2):=λw' hb=>eB (eA HB0.out hb) (ai w _)
 have hc0:∀w',Below W0.heap.size W0 w'->w'.cell? ⟨w.heap.size,0,none⟩=some (.int .i64 m.regs):=λw' hb=>cR (hM w' hb) rfl
 have hc2:∀w',Below W0.heap.size W0 w'->w'.cell? ⟨w.heap.size,2,none⟩=some (.int .i64 m.ret):=λw' hb=>cR (hM w' hb) rfl
 have hc3:∀w',Below W0.heap.size W0 w'->w'.cell? ⟨w.heap.size,3,none⟩=some (.slice a2 n2 c2):=λw' hb=>cR (hM w' hb) rfl
 have k0:∀n:eH W0,n.val.cell? ⟨w.heap.size,0,none⟩=some (.int .i64 m.regs):=λn=>hc0 _ n.ext
 have k2:∀n:eH W0,n.val.cell? ⟨w.heap.size,2,none⟩=some (.int .i64 m.ret):=λn=>hc2 _ n.ext
 have k3:∀n:eH W0,n.val.cell? ⟨w.heap.size,3,none⟩=some (.slice a2 n2 c2):=λn=>hc3 _ n.ext
 clear hM hc0 hc2 hc3
 have HI64:Hid (∀x∈m.ret :: m.saved,I64 x):=λx hx=>by
  rcases aH.1 hx with rfl|hx
  .exact H9.out
  .exact H2.out.mem x hx
 go_cut [6] (λs6 wx=>s6=.bool (ofB m.regs (m.ret :: m.saved))/\Hid (Below w.heap.size w wx))
 case first=>
  refine iZ (λw'=>∃n:eH W0,w'=n.val) (by kernel_rfl) ?_;obtain⟨w0,E0,hw0⟩:∃w0,Below W0.heap.size W0 w0/\W0.drew=w0:=⟨_,eS (ao _ _) 1,rfl⟩
  rw[hw0];clear hw0;refine eK 0 4 (by kernel_rfl) ⟨⟨_,E0⟩,rfl⟩ ?_;simp only[ak,aq,aj,ap]
  repeat (go_big_quiet_step (fail))
  refine ar ?_;refine eK 5 2 (by kernel_rfl) ⟨⟨_,E0⟩,rfl⟩ ?_;simp only[ak,aq,aj,ap]
  repeat (go_big_quiet_step (fail))
  refine ar ?_;refine lU 4 12 (by kernel_rfl) ?_ ?_
  .refine eE rfl rfl ?_;go_simp;have E1:Below W0.heap.size W0 (w0.alloc (.cells #[.int .i64 m.ret] 3)):=eA E0 (eC _ _);have FB:(w0.alloc (.cells #[.int .i64 m.ret] 3)).ownsRow W0.heap.size 3 1 (.slice (some ⟨w0.heap.size,0,none⟩) 1 1) 1 [.int .i64 m.ret]:=dy _ #[.int .i64 m.ret] 1 E0.size (by unfold maxLen;omega) rfl;refine⟨Or.inr ⟨⟨_,E1⟩,rfl⟩,?_⟩
   try simp only[Act.put,ae,ah,ag]
   generalize w0.heap.size=gB at *;generalize w0.alloc (.cells #[.int .i64 m.ret] 3)=w1 at *;refine lU 7 12 (by kernel_rfl) ?_ ?_
   .refine eE rfl rfl ?_;refine qM _ (.tmp 48) (.tmp 50) 22 3 rfl W0.heap.size _ 1 8 aQ oA rfl (by omega) _ 1 [.int .i64 m.ret] rfl FB a2 n2 c2 rfl (m.saved.map (Value.int .i64)) (by rw[bR,HL2.out,dK]) ((H2.out.ext HW0.out).ext E1).news (by simp[Value.oneCell']) (by unfold maxLen;omega) (by omega) E1.size ?_;intro v' w2 ho hg hv hk;obtain⟨g2,k2,hv'⟩:=uG ho (by omega);subst hv';have FA:=vE (xs:=m.ret :: m.saved) ho HI64.out (by omega);have E2:Below W0.heap.size W0 w2:=hk _ E1;refine⟨Or.inr ⟨⟨_,E2⟩,rfl⟩,?_⟩
    try simp only[Act.put,ae,ah,ag]
    clear ho hg hv hk FB;refine lU 8 12 (by kernel_rfl) ?_ ?_
    .refine eE rfl rfl ?_;go_simp;refine(vD m.regs (by omega) _ _ _ (m.ret :: m.saved) _ FA).mono ?_;rintro e w3 ⟨f3,rfl,-,hb⟩;have E3:Below W0.heap.size W0 w3:=eA E2 hb;refine⟨Or.inr ⟨⟨_,E3⟩,rfl⟩,?_⟩
     try simp only[Act.put,ae,ah,ag]
     clear hb FA;refine eK 9 3 (by kernel_rfl) ⟨⟨_,E3⟩,rfl⟩ ?_;simp only[ak,aq,aj,ap]
     repeat (go_big_quiet_step (fail))
     refine ar ?_;refine eO 12 (by kernel_rfl) ?_;refine eE rfl rfl ?_;refine vJ 124 rfl _ xS ?_;intro px w4 hb hpx FX;have E4:Below W0.heap.size W0 w4:=eA E3 hb;have hpB:W0.heap.size<=px:=by rw[hpx];exact E3.size
     refine⟨Or.inr ⟨⟨_,E4⟩,rfl⟩,?_⟩
     try simp only[Act.put,ae,ah,ag]
     clear hb hpx;refine eO 13 (by kernel_rfl) ?_;refine eE rfl rfl ?_;refine oT 124 _ _ rfl px (nO f3) rfl rfl 124 _ FX (by rw[gD];exact kR) (by rw[gD];rfl) (pD _) _ _ E4 hpB ?_;intro w5 E5 _;refine⟨Or.inr ⟨⟨_,E5⟩,rfl⟩,?_⟩
     try simp only[Act.put,ae,ah,ag]
     refine eK 14 1 (by kernel_rfl) ⟨⟨_,E5⟩,rfl⟩ ?_;simp only[ak,aq,aj,ap]
     repeat (go_big_quiet_step (fail))
     refine ar ?_;refine fJ (by kernel_rfl) ?_
     go_wp2_with fail
     go_meet
     exact⟨rfl,eA HW0.out E5⟩
    .refine eE rfl rfl ?_;refine vJ 124 rfl _ xS ?_;intro px w3 hb hpx FX;have E3:Below W0.heap.size W0 w3:=eA E2 hb;have hpB:W0.heap.size<=px:=by rw[hpx];exact E2.size
     replace FA:=FA.ext hb
     refine⟨Or.inr ⟨⟨_,E3⟩,rfl⟩,?_⟩
     try simp only[Act.put,ae,ah,ag]
     clear hb hpx;refine eO 8 (by kernel_rfl) ?_;refine eE rfl rfl ?_;go_simp;refine(vD m.regs (by omega) _ _ _ (m.ret :: m.saved) _ FA).mono ?_;rintro e w4 ⟨f3,rfl,-,hb⟩;have E4:Below W0.heap.size W0 w4:=eA E3 hb
     replace FX:=eB hb FX
     refine⟨Or.inr ⟨⟨_,E4⟩,rfl⟩,?_⟩
     try simp only[Act.put,ae,ah,ag]
     clear hb FA;refine eK 9 3 (by kernel_rfl) ⟨⟨_,E4⟩,rfl⟩ ?_;simp only[ak,aq,aj,ap]
     repeat (go_big_quiet_step (fail))
     refine ar ?_;refine eO 13 (by kernel_rfl) ?_;refine eE rfl rfl ?_;refine oT 124 _ _ rfl px (nO f3) rfl rfl 124 _ FX (by rw[gD];exact kR) (by rw[gD];rfl) (pD _) _ _ E4 hpB ?_;intro w5 E5 _;refine⟨Or.inr ⟨⟨_,E5⟩,rfl⟩,?_⟩
     try simp only[Act.put,ae,ah,ag]
     refine eK 14 1 (by kernel_rfl) ⟨⟨_,E5⟩,rfl⟩ ?_;simp only[ak,aq,aj,ap]
     repeat (go_big_quiet_step (fail))
     refine ar ?_;refine fJ (by kernel_rfl) ?_
     go_wp2_with fail
     go_meet
     exact⟨rfl,eA HW0.out E5⟩
   .refine eE rfl rfl ?_;refine vJ 124 rfl _ xS ?_;intro px w2 hb hpx FX;have E2:Below W0.heap.size W0 w2:=eA E1 hb;have hpB:W0.heap.size<=px:=by rw[hpx];exact E1.size
    have hne:px≠gB:=by have:=(FB.lt gB rfl).2;omega
    replace FB:=jC FB ((Chg.refl (λ_=>False) _).of_ext hb) (λ_ _ h=>h)
    refine⟨Or.inr ⟨⟨_,E2⟩,rfl⟩,?_⟩
    try simp only[Act.put,ae,ah,ag]
    clear hb hpx;refine eO 7 (by kernel_rfl) ?_;refine eE rfl rfl ?_;refine qM _ (.tmp 48) (.tmp 50) 22 3 rfl W0.heap.size _ 1 8 aQ oA rfl (by omega) _ 1 [.int .i64 m.ret] rfl FB a2 n2 c2 rfl (m.saved.map (Value.int .i64)) (by rw[bR,HL2.out,dK]) ((H2.out.ext HW0.out).ext E2).news (by simp[Value.oneCell']) (by unfold maxLen;omega) (by omega) E2.size ?_;intro v' w3 ho hg hv hk;obtain⟨g2,k2,hv'⟩:=uG ho (by omega);subst hv';have FA:=vE (xs:=m.ret :: m.saved) ho HI64.out (by omega);have E3:Below W0.heap.size W0 w3:=hk _ E2
    replace FX:=(hg.block px (am.1 FX).1 (λe=>hne (Option.some.inj e))).trans FX
    refine⟨Or.inr ⟨⟨_,E3⟩,rfl⟩,?_⟩
    try simp only[Act.put,ae,ah,ag]
    clear ho hg hv hk FB;refine eO 8 (by kernel_rfl) ?_;refine eE rfl rfl ?_;go_simp;refine(vD m.regs (by omega) _ _ _ (m.ret :: m.saved) _ FA).mono ?_;rintro e w4 ⟨f3,rfl,-,hb⟩;have E4:Below W0.heap.size W0 w4:=eA E3 hb
    replace FX:=eB hb FX
    refine⟨Or.inr ⟨⟨_,E4⟩,rfl⟩,?_⟩
    try simp only[Act.put,ae,ah,ag]
    clear hb FA;refine eK 9 3 (by kernel_rfl) ⟨⟨_,E4⟩,rfl⟩ ?_;simp only[ak,aq,aj,ap]
    repeat (go_big_quiet_step (fail))
    refine ar ?_;refine eO 13 (by kernel_rfl) ?_;refine eE rfl rfl ?_;refine oT 124 _ _ rfl px (nO f3) rfl rfl 124 _ FX (by rw[gD];exact kR) (by rw[gD];rfl) (pD _) _ _ E4 hpB ?_;intro w5 E5 _;refine⟨Or.inr ⟨⟨_,E5⟩,rfl⟩,?_⟩
    try simp only[Act.put,ae,ah,ag]
    refine eK 14 1 (by kernel_rfl) ⟨⟨_,E5⟩,rfl⟩ ?_;simp only[ak,aq,aj,ap]
    repeat (go_big_quiet_step (fail))
    refine ar ?_;refine fJ (by kernel_rfl) ?_
    go_wp2_with fail
    go_meet
    exact⟨rfl,eA HW0.out E5⟩
  .refine eE rfl rfl ?_;refine vJ 124 rfl _ xS ?_;intro px w1 hb hpx FX;have E1:Below W0.heap.size W0 w1:=eA E0 hb;have hpB:W0.heap.size<=px:=by rw[hpx];exact E0.size
   refine⟨Or.inr ⟨⟨_,E1⟩,rfl⟩,?_⟩
   try simp only[Act.put,ae,ah,ag]
   clear hb hpx;refine eO 4 (by kernel_rfl) ?_;refine eE rfl rfl ?_;go_simp;have E2:Below W0.heap.size W0 (w1.alloc (.cells #[.int .i64 m.ret] 3)):=eA E1 (eC _ _);have FB:(w1.alloc (.cells #[.int .i64 m.ret] 3)).ownsRow W0.heap.size 3 1 (.slice (some ⟨w1.heap.size,0,none⟩) 1 1) 1 [.int .i64 m.ret]:=dy _ #[.int .i64 m.ret] 1 E1.size (by unfold maxLen;omega) rfl;have hne:px≠w1.heap.size:=by have:=(am.1 FX).1;omega
   replace FX:=eB (eC w1 (.cells #[.int .i64 m.ret] 3)) FX
   refine⟨Or.inr ⟨⟨_,E2⟩,rfl⟩,?_⟩
   try simp only[Act.put,ae,ah,ag]
   generalize w1.heap.size=gB at *;generalize w1.alloc (.cells #[.int .i64 m.ret] 3)=w2 at *;refine eO 7 (by kernel_rfl) ?_;refine eE rfl rfl ?_;refine qM _ (.tmp 48) (.tmp 50) 22 3 rfl W0.heap.size _ 1 8 aQ oA rfl (by omega) _ 1 [.int .i64 m.ret] rfl FB a2 n2 c2 rfl (m.saved.map (Value.int .i64)) (by rw[bR,HL2.out,dK]) ((H2.out.ext HW0.out).ext E2).news (by simp[Value.oneCell']) (by unfold maxLen;omega) (by omega) E2.size ?_;intro v' w3 ho hg hv hk;obtain⟨g2,k2,hv'⟩:=uG ho (by omega);subst hv';have FA:=vE (xs:=m.ret :: m.saved) ho HI64.out (by omega);have E3:Below W0.heap.size W0 w3:=hk _ E2
   replace FX:=(hg.block px (am.1 FX).1 (λe=>hne (Option.some.inj e))).trans FX
   refine⟨Or.inr ⟨⟨_,E3⟩,rfl⟩,?_⟩
   try simp only[Act.put,ae,ah,ag]
   clear ho hg hv hk FB;refine eO 8 (by kernel_rfl) ?_;refine eE rfl rfl ?_;go_simp;refine(vD m.regs (by omega) _ _ _ (m.ret :: m.saved) _ FA).mono ?_;rintro e w4 ⟨f3,rfl,-,hb⟩;have E4:Below W0.heap.size W0 w4:=eA E3 hb
   replace FX:=eB hb FX
   refine⟨Or.inr ⟨⟨_,E4⟩,rfl⟩,?_⟩
   try simp only[Act.put,ae,ah,ag]
   clear hb FA;refine eK 9 3 (by kernel_rfl) ⟨⟨_,E4⟩,rfl⟩ ?_;simp only[ak,aq,aj,ap]
   repeat (go_big_quiet_step (fail))
   refine ar ?_;refine eO 13 (by kernel_rfl) ?_;refine eE rfl rfl ?_;refine oT 124 _ _ rfl px (nO f3) rfl rfl 124 _ FX (by rw[gD];exact kR) (by rw[gD];rfl) (pD _) _ _ E4 hpB ?_;intro w5 E5 _;refine⟨Or.inr ⟨⟨_,E5⟩,rfl⟩,?_⟩
   try simp only[Act.put,ae,ah,ag]
   refine eK 14 1 (by kernel_rfl) ⟨⟨_,E5⟩,rfl⟩ ?_;simp only[ak,aq,aj,ap]
   repeat (go_big_quiet_step (fail))
   refine ar ?_;refine fJ (by kernel_rfl) ?_
   go_wp2_with fail
   go_meet
   exact⟨rfl,eA HW0.out E5⟩
 case rest=>
  obtain⟨rfl,HC⟩:=hcut;clear k0 k2 k3;go_wp2
  all_goals
   go_ret
   exact⟨rY (by rw[HE.out];go_light;simp[*]),HC.out⟩
theorem nK(m:eY)(a1 a2:Option Addr)(n1 c1 n2 c2:Nat)(w:World)(h:lB w m a1 n1 c1 a2 n2 c2):
  Calls Tryz.prog 27 #[nG m a1 n1 c1 a2 n2 c2] w λe w'=>e=.returned (.bool (kN m))/\Below w.heap.size w w':=by
 by_cases hyes:1<=m.regs/\m.regs<=64/\m.args.length<=8/\(m.saved.length:Int)<=m.regs/\mX m.saved=true
 .exact RX m a1 a2 n1 c1 n2 c2 w h hyes
 .exact WM m a1 a2 n1 c1 n2 c2 w h hyes
end
end Go.Proofs.YtchdkjenhppleaaGreat
