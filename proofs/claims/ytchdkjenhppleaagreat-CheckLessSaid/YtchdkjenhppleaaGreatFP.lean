/-
 Flat:check.Does.
-/
import Derived.Test.YtchdkjenhppleaaGreatA0
import Derived.Test.YtchdkjenhppleaaGreatFM
import Derived.Deep.Onto
import Derived.ChangeKeysEq
import Derived.Laws.StructEq
import Derived.Test.YtchdkjenhppleaaGreatTQ
namespace Go.Proofs.YtchdkjenhppleaaGreat
set_option linter.unusedSimpArgs false
set_option linter.unusedVariables false
set_option linter.unusedSectionVars false
set_option maxRecDepth 100000
set_option maxHeartbeats 40000000
section
open Go.RowKit
def lZ(r:fW):Bool:=r.d.op==14
def eQ(r:fW):Bool:=QY r.d.op
def DO(n:Nat)(r:fW):Bool:=decide ((n:Int)<r.d.many)
theorem YO(r:fW)(w:World):Calls Tryz.prog 21 (#[qB r]++ #[]) w λe w'=>e=.returned (.bool (lZ r))/\Below w.heap.size w w':=by
 show Calls Tryz.prog 21 #[qB r] w _
 go_enter Tryz.func21,Tryz.ntmps21
 go_wp2
 go_ret
 exact⟨rfl,eC _ _⟩
theorem TW(args:Array Value)(w:World):(callFunc 21 args).run Tryz.prog w=.ok (.enter 21 args) w:=by kernel_rfl
theorem YN(r:fW)(w:World):Calls Tryz.prog 22 (#[qB r]++ #[]) w λe w'=>e=.returned (.bool (eQ r))/\Below w.heap.size w w':=by
 show Calls Tryz.prog 22 #[qB r] w _
 go_enter Tryz.func22,Tryz.ntmps22
 go_wp2_with (go_at_call 23;refine(tJ _ _).mono ?_;rintro e w' ⟨rfl,rfl⟩)
 go_ret
 exact⟨rfl,eC _ _⟩
theorem TU(args:Array Value)(w:World):(callFunc 22 args).run Tryz.prog w=.ok (.enter 22 args) w:=by kernel_rfl
theorem YM(r:fW)(w:World)(M:Nat)(a1:Option Addr)(n1 c1:Nat)(hn:n1<=1000000)(hM:w.cell? ⟨M,1,none⟩=some (.slice a1 n1 c1)):
  Calls Tryz.prog 26 (#[qB r]++ #[.pointer (some ⟨M,0,none⟩)]) w λe w'=>e=.returned (.bool (DO n1 r))/\Below w.heap.size w w':=by
 show Calls Tryz.prog 26 #[qB r,.pointer (some ⟨M,0,none⟩)] w _
 have hlt:M<w.heap.size:=aF w _ hM
 go_enter Tryz.func26,Tryz.ntmps26
 go_wp2
 go_ret
 exact⟨rfl,eC _ _⟩
theorem TT(args:Array Value)(w:World):(callFunc 26 args).run Tryz.prog w=.ok (.enter 26 args) w:=by kernel_rfl
theorem lJ(cs:Array Value)(o:Nat)(v:Value)(w:World)(h:cs[o]? =some v):(part 3 cs o).run Tryz.prog w=.ok v w:=by
 have hu:(underlying 3).run Tryz.prog w=.ok (.int .i64) w:=aZ aP w
 simp[part,isAgg,hu,h]
theorem jp(w:World)(x0 x1 y0 y1:Int):(Op.equalIn 10000 27 (.agg #[.int .i64 x0,.int .i64 x1]) (.agg #[.int .i64 y0,.int .i64 y1])).run Tryz.prog w=.ok (x0==y0&&x1==y1) w:=by
 obtain⟨i,hi,-,-,-⟩:=info_parts oA
 have h1:Tryz.prog.cellsOf 3=1:=by kernel_rfl
 have e0:=run_equalIn_int w 9998 3 .i64 .i64 x0 y0 aP
 have e1:=run_equalIn_int w 9998 3 .i64 .i64 x1 y1 aP
 rw[run_equalIn_array w 9999 _ _ dH hi,h1]
 simp only[List.range,List.range.loop,Op.eqItems,bu,bx,Nat.one_mul]
 rw[lJ _ 0 (.int .i64 x0) w rfl]
 simp only[bp]
 rw[lJ _ 0 (.int .i64 y0) w rfl]
 simp only[bp]
 rw[e0]
 simp only[bp]
 cases hq:(x0==y0) with
 |false=>simp
 |true=>
  simp only[Bool.not_true,dS,if_false,bu];rw[lJ _ 1 (.int .i64 x1) w rfl];simp only[bp];rw[lJ _ 1 (.int .i64 y1) w rfl];simp only[bp];rw[e1];simp only[bp];cases hq:(x1==y1)<;>simp
theorem ZS(w:World)(x0 x1 y0 y1:Int):(binOp .neq 27 (.agg #[.int .i64 x0,.int .i64 x1]) (.agg #[.int .i64 y0,.int .i64 y1])).run Tryz.prog w=.ok (.bool (!(x0==y0&&x1==y1))) w:=by
 rw[run_neq_struct,jp]
 rfl
def UF(n:Nat)(l:List fW):Bool:=l.any (DO n)
structure mP where
 ins:List fW
 kind:Int
 a:Int
 to0:Int
 to1:Int
abbrev KC(s:mP)(ia:Option Addr)(n c:Nat):Value:=.agg #[.slice ia n c,.int .i64 s.kind,.int .i64 s.a,.int .i64 s.to0,.int .i64 s.to1]
abbrev pK(s:mP)(ia:Option Addr)(n c:Nat):Obj:=.cells #[.slice ia n c,.int .i64 s.kind,.int .i64 s.a,.int .i64 s.to0,.int .i64 s.to1] 31
def oH(w:World)(s:mP)(ia:Option Addr)(n c:Nat):Prop:=vP w ia n s.ins/\n<=1000000/\n<=c/\I64 s.kind/\I64 s.a/\I64 s.to0/\I64 s.to1
theorem oH.ext{w w':World}{s:mP}{ia:Option Addr}{n c:Nat}(h:oH w s ia n c)(hb:Below w.heap.size w w'):oH w' s ia n c:=⟨h.1.ext hb,h.2⟩
def RF(s t:mP):Bool:=s.to0==t.to0&&s.to1==t.to1
def IC(s:mP):List fW:=s.ins.filter λx=> !lZ x
def BD(t:mP):List fW:=t.ins.filter λx=> !eQ x
def RE(m:eY)(s:mP):Int:=if s.a=0 then -1 else m.ret
def qD(m:eY)(s t:mP):Bool:=
 kN m&&tX pO (IC s) (BD t)&& !UF m.args.length (BD t)&&(s.kind==t.kind)&&RF s t&&(s.kind != 3||t.a==RE m s)
theorem RD(w:World)(o1 o2 o3:Obj):((((w.alloc o1).alloc o2).alloc o3).heap[w.heap.size]? =some o1)/\((((w.alloc o1).alloc o2).alloc o3).heap[w.heap.size+1]? =some o2)/\((((w.alloc o1).alloc o2).alloc o3).heap[w.heap.size+1+1]? =some o3):=by
 have h1:=ai w o1
 have h2:=ai (w.alloc o1) o2
 have h3:=ai ((w.alloc o1).alloc o2) o3
 simp only[World.size_alloc] at h2 h3
 exact⟨eB (eC _ _) (eB (eC _ _) h1),eB (eC _ _) h2,h3⟩
theorem BU{w:World}{B:Nat}{v:Value}{rs:List fW}(h:nU w B v rs)(hl:rs.length<=1000000)(hok:∀r∈rs,qF w r):∃a c,v=.slice a rs.length c/\vP w a rs.length rs:=by
 obtain⟨a,c,e,hr,_⟩:=pG lK h (by omega)
 exact⟨a,c,e,hr,hok⟩
theorem yG(m:eY)(a1 a2:Option Addr)(n1 c1 n2 c2:Nat)(s t:mP)(sa ta:Option Addr)(ns cs nt ct:Nat)(w:World)(hm:lB w m a1 n1 c1 a2 n2 c2)(hs:oH w s sa ns cs)(ht:oH w t ta nt ct):
  Calls Tryz.prog 12 #[nG m a1 n1 c1 a2 n2 c2,KC s sa ns cs,KC t ta nt ct] w λe w'=>e=.returned (.bool (qD m s t))/\Below w.heap.size w w':=by
 have HM:=ac hm
 have HS:=ac hs
 have HT:=ac ht
 have q1:=hm.2.2.2.2.1
 have q2:=hs.2.1
 have q3:=ht.2.1
 have HLm:=ac hm.1.1
 have HLs:=ac hs.1.1.1
 have HLt:=ac ht.1.1.1
 clear hm hs ht
 go_enter Tryz.func12,Tryz.ntmps12
 go_wp2
 obtain⟨W0,HW0,hM,hS,hT,hW0⟩:∃W0,Hid (Below w.heap.size w W0)/\W0.heap[w.heap.size]? =some (iK m a1 n1 c1 a2 n2 c2)/\W0.heap[w.heap.size+1]? =some (pK s sa ns cs)/\W0.heap[w.heap.size+1+1]? =some (pK t ta nt ct)/\((w.alloc (iK m a1 n1 c1 a2 n2 c2)).alloc (pK s sa ns cs)).alloc (pK t ta nt ct)=W0:=
  ⟨_,eA (eA (eC _ _) (eC _ _)) (eC _ _),(RD w _ _ _).1,(RD w _ _ _).2.1,(RD w _ _ _).2.2,rfl⟩
 rw[hW0]
 clear hW0
 generalize w.heap.size=pM at hM hS hT|-
 generalize pM+1=pS at*
 generalize pS+1=pT at*
 have m0:∀w',Below W0.heap.size W0 w'->w'.cell? ⟨pM,0,none⟩=some (.int .i64 m.regs):=λw' hb=>cR (eB hb hM) rfl
 have m1:∀w',Below W0.heap.size W0 w'->w'.cell? ⟨pM,1,none⟩=some (.slice a1 n1 c1):=λw' hb=>cR (eB hb hM) rfl
 have m2:∀w',Below W0.heap.size W0 w'->w'.cell? ⟨pM,2,none⟩=some (.int .i64 m.ret):=λw' hb=>cR (eB hb hM) rfl
 have m3:∀w',Below W0.heap.size W0 w'->w'.cell? ⟨pM,3,none⟩=some (.slice a2 n2 c2):=λw' hb=>cR (eB hb hM) rfl
 have s0:∀w',Below W0.heap.size W0 w'->w'.cell? ⟨pS,0,none⟩=some (.slice sa ns cs):=λw' hb=>cR (eB hb hS) rfl
 have s1:∀w',Below W0.heap.size W0 w'->w'.cell? ⟨pS,1,none⟩=some (.int .i64 s.kind):=λw' hb=>cR (eB hb hS) rfl
 have s2:∀w',Below W0.heap.size W0 w'->w'.cell? ⟨pS,2,none⟩=some (.int .i64 s.a):=λw' hb=>cR (eB hb hS) rfl
 have s3:∀w',Below W0.heap.size W0 w'->w'.cell? ⟨pS,3,none⟩=some (.int .i64 s.to0):=λw' hb=>cR (eB hb hS) rfl
 have s4:∀w',Below W0.heap.size W0 w'->w'.cell? ⟨pS,4,none⟩=some (.int .i64 s.to1):=λw' hb=>cR (eB hb hS) rfl
 have t0:∀w',Below W0.heap.size W0 w'->w'.cell? ⟨pT,0,none⟩=some (.slice ta nt ct):=λw' hb=>cR (eB hb hT) rfl
 have t1:∀w',Below W0.heap.size W0 w'->w'.cell? ⟨pT,1,none⟩=some (.int .i64 t.kind):=λw' hb=>cR (eB hb hT) rfl
 have t2:∀w',Below W0.heap.size W0 w'->w'.cell? ⟨pT,2,none⟩=some (.int .i64 t.a):=λw' hb=>cR (eB hb hT) rfl
 have t3:∀w',Below W0.heap.size W0 w'->w'.cell? ⟨pT,3,none⟩=some (.int .i64 t.to0):=λw' hb=>cR (eB hb hT) rfl
 have t4:∀w',Below W0.heap.size W0 w'->w'.cell? ⟨pT,4,none⟩=some (.int .i64 t.to1):=λw' hb=>cR (eB hb hT) rfl
 have ks:∀n:eH W0,n.val.cell? ⟨pS,0,none⟩=some (.slice sa ns cs):=λn=>s0 _ n.ext
 have kt:∀n:eH W0,n.val.cell? ⟨pT,0,none⟩=some (.slice ta nt ct):=λn=>t0 _ n.ext
 clear hM hS hT s0 t0
 go_cut [9,10] (λs9 s10 wx=>∃us ut,s9=us/\s10=ut/\Hid (nU wx W0.heap.size us (IC s))/\Hid (nU wx W0.heap.size ut (BD t))/\Below W0.heap.size W0 wx)
 case first=>
  clear m0 m1 m2 m3 s1 s2 s3 s4 t1 t2 t3 t4;refine iZ (λw'=>∃n:eH W0,w'=n.val) (by kernel_rfl) ?_;obtain⟨w0,E0,hw0⟩:∃w0,Below W0.heap.size W0 w0/\W0.drew=w0:=⟨_,eS (ao _ _) 1,rfl⟩
  rw[hw0];clear hw0;refine eK 0 2 (by kernel_rfl) ⟨⟨_,E0⟩,rfl⟩ ?_;simp only[ak,aq,aj,ap]
  repeat (go_big_quiet_step (fail))
  refine ar ?_;refine eK 3 1 (by kernel_rfl) ⟨⟨_,E0⟩,rfl⟩ ?_;simp only[ak,aq,aj,ap]
  repeat (go_big_quiet_step (fail))
  refine ar ?_;refine eK 5 2 (by kernel_rfl) ⟨⟨_,E0⟩,rfl⟩ ?_;simp only[ak,aq,aj,ap]
  repeat (go_big_quiet_step (fail))
  refine ar ?_;refine eK 8 1 (by kernel_rfl) ⟨⟨_,E0⟩,rfl⟩ ?_;simp only[ak,aq,aj,ap]
  repeat (go_big_quiet_step (fail))
  refine ar ?_;refine eO 2 (by kernel_rfl) ?_;refine eE rfl rfl ?_;go_simp;refine(zL sa ns cs s.ins w0 ((HS.out.ext HW0.out).ext E0).1 (by omega)).mono ?_;rintro e w1 ⟨vs,rfl,Rs,hb⟩;have E1:Below W0.heap.size W0 w1:=eA E0 hb
  replace Rs:=Rs.mono E0.size
  refine⟨Or.inr ⟨⟨_,E1⟩,rfl⟩,?_⟩
  try simp only[Act.put,ae,ah,ag]
  clear hb;refine eO 4 (by kernel_rfl) ?_;refine eE rfl rfl ?_;go_simp;refine(vW W0.heap.size 21 #[] TW lZ vs s.ins w1 Rs (by rw[HLs.out];exact q2) (λr hr=>(((HS.out.ext HW0.out).ext E1).1).2 r hr) E1.size (λr W _ _=>YO r W)).mono ?_;rintro e w2 ⟨us,rfl,os,Qs,hc⟩;have E2:Below W0.heap.size W0 w2:=E1.trans (hc.below E1.size (λk hk=>(Rs.lt k hk).1));refine⟨Or.inr ⟨⟨_,E2⟩,rfl⟩,?_⟩
  try simp only[Act.put,ae,ah,ag]
  clear hc;refine eO 7 (by kernel_rfl) ?_;refine eE rfl rfl ?_;go_simp;refine(zL ta nt ct t.ins w2 ((HT.out.ext HW0.out).ext E2).1 (by omega)).mono ?_;rintro e w3 ⟨vt,rfl,Rt,hb⟩;have E3:Below W0.heap.size W0 w3:=eA E2 hb;have sep:qc us vt:=λg h1 h2=>by have:=(Qs.lt g h1).2;have:=(Rt.lt g h2).1;omega
  replace Qs:=jC Qs ((Chg.refl (λ_=>False) _).of_ext hb) (λ_ _ h=>h)
  replace Rt:=Rt.mono E2.size
  refine⟨Or.inr ⟨⟨_,E3⟩,rfl⟩,?_⟩
  try simp only[Act.put,ae,ah,ag]
  clear hb;refine eO 9 (by kernel_rfl) ?_;refine eE rfl rfl ?_;go_simp;refine(vW W0.heap.size 22 #[] TU eQ vt t.ins w3 Rt (by rw[HLt.out];exact q3) (λr hr=>(((HT.out.ext HW0.out).ext E3).1).2 r hr) E3.size (λr W _ _=>YN r W)).mono ?_;rintro e w4 ⟨ut,rfl,ot,Qt,hc⟩;have E4:Below W0.heap.size W0 w4:=E3.trans (hc.below E3.size (λk hk=>(Rt.lt k hk).1))
  replace Qs:=jC Qs hc (λg hg h=>sep g hg h)
  refine⟨Or.inr ⟨⟨_,E4⟩,rfl⟩,?_⟩
  try simp only[Act.put,ae,ah,ag]
  clear hc;refine eK 10 2 (by kernel_rfl) ⟨⟨_,E4⟩,rfl⟩ ?_;simp only[ak,aq,aj,ap]
  repeat (go_big_quiet_step (fail))
  refine ar ?_;refine fJ (by kernel_rfl) ?_
  go_wp2_with fail
  go_meet
  exact⟨us,ut,rfl,rfl,Qs,Qt,E4⟩
 case rest=>
  obtain⟨us,ut,rfl,rfl,HQs,HQt,E⟩:=hcut;clear ks kt;have hlS:(IC s).length<=1000000:=by have:=bY (λx=> !lZ x) s.ins;rw[HLs.out] at this;unfold IC;omega
  have hlT:(BD t).length<=1000000:=by have:=bY (λx=> !eQ x) t.ins;rw[HLt.out] at this;unfold BD;omega
  obtain⟨as_,ks,e1,hSs⟩:=BU HQs.out hlS (λr hr=>(((HS.out.ext HW0.out).ext E).1).2 r (bO.1 hr).1);obtain⟨at_,kt,e2,hSt⟩:=BU HQt.out hlT (λr hr=>(((HT.out.ext HW0.out).ext E).1).2 r (bO.1 hr).1);subst e1;subst e2;have HSs:=ac hSs;have HSt:=ac hSt;clear hSs hSt HQs HQt hlS hlT;generalize hbs:IC s=bs at *;generalize hbt:BD t=bt at *;have HE:Hid (qD m s t=(kN m&&tX pO bs bt&& !UF n1 bt&&(s.kind==t.kind)&&RF s t&&(s.kind != 3||t.a==RE m s))):=by rw[Hid,qD,hbs,hbt,HLm.out]
  clear hbs hbt;have hnq:∀w,(binOp .neq 27 (.agg #[.int .i64 s.to0,.int .i64 s.to1]) (.agg #[.int .i64 t.to0,.int .i64 t.to1])).run Tryz.prog w=.ok (.bool (!RF s t)) w:=λw=>ZS w s.to0 s.to1 t.to0 t.to1
  go_wp2_with (first
   |(go_at_call 27
     refine(nK m a1 a2 n1 c1 n2 c2 _ ((HM.out.ext HW0.out).ext E)).mono ?_;rintro e x1 ⟨rfl,hb⟩;have E1:Below W0.heap.size W0 x1:=eA E hb;have HX1:=ac hb
     clear hb)
   |(go_at_call 28
     refine(MA as_ at_ _ ks _ kt bs bt _ (HSs.out.ext HX1.out) (HSt.out.ext HX1.out)).mono ?_;rintro e x2 ⟨rfl,hb⟩;have E2:Below W0.heap.size W0 x2:=eA E1 hb;have HX2:=ac (eA HX1.out hb)
     clear hb)
   |(go_at_call 30
     refine(CN 26 #[.pointer (some ⟨pM,0,none⟩)] TT (DO n1) at_ _ kt bt _ (λr W _ hb=>YM r W pM a1 n1 c1 q1 (m1 W (eA E2 hb))) (HSt.out.ext HX2.out)).mono ?_;rw[show bt.any (DO n1)=UF n1 bt from rfl];rintro e x3 ⟨rfl,hb⟩;have E3:Below W0.heap.size W0 x3:=eA E2 hb
     clear hb))
  all_goals
   go_ret
   refine⟨rY ?_,by first|exact eA HW0.out E3|exact eA HW0.out E2|exact eA HW0.out E1⟩;rw[HE.out];clear m0 m1 m2 m3 s1 s2 s3 s4 t1 t2 t3 t4 hnq HE
   go_light
   simp_all[RE]
end

section
open Go.RowKit
def yJ(w:World)(xs:List Int)(e:Ending)(w':World):Prop:=∃a c,e=.returned (.slice a xs.length c)/\xs.length<=c/\fR w' a xs.length xs/\Below w.heap.size w w'
def gY(m:eY)(k:Nat):List Int:=((List.range k).map Int.ofNat).filter λr=> !m.saved.contains r
def xJ(m:eY):List Int:=if kN m then gY m m.regs.toNat else []
theorem uN(m:eY)(k:Nat):gY m (k+1)=gY m k++(if oV m.saved k then [] else [(k:Int)]):=by
 rw[gY,gY,cU,bN,bE]
 congr 1
 rw[cn,cW]
 by_cases h:oV m.saved k=true
 .rw[aX h];have h':m.saved.contains (k:Int)=true:=h;simp only[bK,show Int.ofNat k=(k:Int) from rfl,h'];rfl
 .have h':m.saved.contains (k:Int)=false:=by rw[oV] at h;exact bU.2 h
  rw[aC h];simp only[bK,show Int.ofNat k=(k:Int) from rfl,h'];rfl
theorem SO(m:eY)(k:Nat):∀x∈gY m k,0<=x/\x<k:=by
 intro x hx
 rw[gY,bO,bi] at hx
 obtain⟨⟨j,hj,rfl⟩,_⟩:=hx
 rw[be] at hj
 exact⟨by simp,by simp;omega⟩
theorem EV(m:eY)(k:Nat):(gY m k).length<=k:=by
 have:=bY (λr=> !m.saved.contains r) ((List.range k).map Int.ofNat)
 rw[gY]
 simpa using this
theorem sI(cs:Array Value)(o:Nat)(v:Value)(w:World)(h:cs[o]? =some v):(part 4 cs o).run Tryz.prog w=.ok v w:=by
 have hu:(underlying 4).run Tryz.prog w=.ok .bool w:=aZ ce w
 simp[part,isAgg,hu,h]
theorem yX(w:World)(f g:Nat->Bool)(xs ys:Array Value):∀(is:List Nat),(∀i∈is,xs[i]? =some (.bool (f i))/\ys[i]? =some (.bool (g i)))->(Op.eqItems 9999 4 1 xs ys is).run Tryz.prog w=.ok (is.all λi=>f i==g i) w
 | [],_=>by simp[Op.eqItems]
 |i :: is,h=>by
  obtain⟨h1,h2⟩:=h i (by simp);have ih:=yX w f g xs ys is (λj hj=>h j (by simp[hj]));simp only[Op.eqItems,bu,dK];rw[sI _ i _ w h1];simp only[bp];rw[sI _ i _ w h2];simp only[bp];rw[run_equalIn_bool' w 9998 4 (f i) (g i) ce];simp only[bp];cases hq:(f i==g i) with
  |false=>simp[hq]
  |true=>simp[hq,ih]
theorem YH(w:World)(f g:Nat->Bool):(Op.equalIn 10000 124 (.agg (nO f)) (.agg (nO g))).run Tryz.prog w=.ok ((List.range 64).all λi=>f i==g i) w:=by
 have hi:∃i,Tryz.prog.info? 4=some i:=dN.1 (by kernel_rfl)
 obtain⟨i,hi⟩:=hi
 have h1:Tryz.prog.cellsOf 4=1:=by kernel_rfl
 rw[run_equalIn_array w 9999 _ _ dq hi,h1]
 exact yX w f g _ _ _ (λi hi=>⟨sV f i (be.1 hi),sV g i (be.1 hi)⟩)
theorem me(w:World)(f:Nat->Bool):(binOp .eql 124 (.agg (nO f)) (.agg (nO λ_=>false))).run Tryz.prog w=.ok (.bool ((List.range 64).all λi=>f i==false)) w:=by
 rw[run_eql_struct,YH]
 rfl
theorem WH(w:World)(b:Nat)(r:Int)(h0:0<=r)(h1:r<=64):(Instr.sliceAt 124 (.pointer (some ⟨b,0,none⟩)) none (some (.int .i64 r)) none).run Tryz.prog w=.ok (.slice (some ⟨b,0,none⟩) r.toNat 64) w:=by
 have e1:Tryz.prog.arrayLen 124=64:=by kernel_rfl
 have e2:Tryz.prog.elem 124=4:=by kernel_rfl
 have hi:∃i,Tryz.prog.info? 4=some i:=dN.1 (by kernel_rfl)
 obtain⟨i,hi⟩:=hi
 rw[run_sliceAt_array_h w 124 ⟨b,0,none⟩ (by rw[e1,e2];exact dq) .i64 r h0 (by rw[e1];exact h1),e1,e2,run_sizeOf w hi]
 simp[slicedAt,mT]
def UD(l:List Int):Bool:=(List.range 64).all λi=>oV l i==false
theorem XJ{l:List Int}(regs:Int)(h:ofB regs l=true)(hr:regs<=64)(hn:UD l=true):∀k,oV l k=false:=by
 intro k
 cases hq:oV l k with
 |false=>rfl
 |true=>
  have hm:(k:Int)∈l:=by rw[oV,List.contains_iff_mem] at hq;exact hq
  obtain⟨j,hj,e⟩:=a8.1 hm;have h2:=(CU regs l).1 h j hj;rw[ax,au hj,dA,e] at h2;have h3:k<64:=by omega
  rw[UD,bq] at hn;have:=hn k (be.2 h3);rw[hq] at this;cases this
theorem ig{regs x:Int}{l:List Int}(h:ofB regs (x :: l)=true):ofB regs l=true:=by
 rw[CU] at h|-
 intro k hk
 have:=h (k+1) (by simp;omega)
 simp only[bl,ak,aH,not_or] at this
 exact⟨this.1,this.2.1,this.2.2.2⟩
theorem JH{w:World}{base:Nat}{e:TypeId}{v:Value}{xs:List Int}(h:w.ownsRow base e 1 v xs.length (xs.map (Value.int .i64)))(hx:∀x∈xs,I64 x)(hn:xs.length<=17592186044416):∃a c,v=.slice a xs.length c/\xs.length<=c/\fR w a xs.length xs:=by
 rcases id h.2 with ⟨rfl,h0⟩|⟨g,cap,cur,rfl,_,_,hnc,_⟩
 .have:xs= []:=bB h0;subst this;exact⟨none,0,rfl,aw _,rfl,by simp,λk hk=>absurd hk (by simp)⟩
 .exact⟨_,_,rfl,hnc,vE h hx hn⟩
theorem NQ(m:eY)(k:Nat)(hk:k<=64):∀x∈gY m k,I64 x:=λx hx=>by
 have:=SO m k x hx
 exact⟨by omega,by omega⟩
theorem im(m:eY)(a1 a2:Option Addr)(n1 c1 n2 c2:Nat)(w:World)(h:lB w m a1 n1 c1 a2 n2 c2):
  Calls Tryz.prog 66 #[nG m a1 n1 c1 a2 n2 c2] w (yJ w (xJ m)):=by
 have H:=ac h
 have HL2:=ac h.2.1.1
 obtain⟨h7,h8⟩:=h.2.2.2.2.2.2.1
 clear h
 cases hr:kN m with
 |false=>
  have HE:Hid (xJ m= []):=by rw[Hid,xJ,hr];rfl
  go_enter Tryz.func66,Tryz.ntmps66
  go_wp2_with (go_at_call 27;refine(nK m a1 a2 n1 c1 n2 c2 _ (H.out.ext (eC _ _))).mono ?_;rw[hr];rintro e w1 ⟨rfl,hb⟩;have HB:=ac hb;clear hb)
  go_ret
  rw[yJ,HE.out];exact⟨none,0,rfl,aw _,⟨rfl,by simp,λk hk=>absurd hk (by simp)⟩,eA (eC _ _) HB.out⟩
 |true=>
  have HE:Hid (xJ m=gY m m.regs.toNat):=by rw[Hid,xJ,hr];rfl
  have hr':=hr;simp only[kN,az,aR] at hr';have HO:Hid (ofB m.regs m.saved=true):=ig hr'.2;have hreg:1<=m.regs/\m.regs<=64:=hr'.1.1.1.1.1;clear hr';obtain⟨g1,g2⟩:=hreg;have hM:∀w',Below (w.alloc (iK m a1 n1 c1 a2 n2 c2)).heap.size (w.alloc (iK m a1 n1 c1 a2 n2 c2)) w'->w'.heap[w.heap.size]? =some (iK m a1 n1 c1 a2 n2 c2):=λw' hb=>eB hb (ai w _);have hq:∀w,(binOp .eql 124 (.agg (nO (oV m.saved))) (.agg #[.bool false,.bool false,.bool false,.bool false,.bool false,.bool false,.bool false,.bool false,.bool false,.bool false,.bool false,.bool false,.bool false,.bool false,.bool false,.bool false,.bool false,.bool false,.bool false,.bool false,.bool false,.bool false,.bool false,.bool false,.bool false,.bool false,.bool false,.bool false,.bool false,.bool false,.bool false,.bool false,.bool false,.bool false,.bool false,.bool false,.bool false,.bool false,.bool false,.bool false,.bool false,.bool false,.bool false,.bool false,.bool false,.bool false,.bool false,.bool false,.bool false,.bool false,.bool false,.bool false,.bool false,.bool false,.bool false,.bool false,.bool false,.bool false,.bool false,.bool false,.bool false,.bool false,.bool false,.bool false])).run Tryz.prog w=.ok (.bool (UD m.saved)) w:=λw=>me w (oV m.saved);have hsl:=λw b=>WH w b m.regs (by omega) g2;obtain⟨bn,hbn⟩:∃bn,UD m.saved=bn:=⟨_,rfl⟩
  rw[hbn] at hq;have HN:=ac hbn;clear hbn;cases bn
  all_goals
   go_enter Tryz.func66,Tryz.ntmps66
   go_wp2_with (first
    |(go_at_call 27
      refine(nK m a1 a2 n1 c1 n2 c2 _ (H.out.ext (eC _ _))).mono ?_;rw[hr];rintro e w1 ⟨rfl,hb⟩;have HB1:=ac hb;obtain⟨x0,-,-,x3⟩:=wD (hM _ hb) rfl
      clear hb)
    |(go_at_call 55
      refine(vD m.regs (by omega) a2 n2 c2 m.saved _ ((H.out.ext (eA (eC _ _) HB1.out)).2.1)).mono ?_;rintro e w2 ⟨f,rfl,hf,hb⟩;have hf:=hf HO.out;subst hf;rw[HO.out];have HB2:=ac (eA HB1.out hb)
      clear hb)
    |(refine rI rfl 124 _ _ rfl w2.heap.size (nO (oV m.saved)) rfl rfl 124 _ (ai w2 _) (by rw[gD];exact kR) (by rw[gD];rfl) (pD _) _ _ (eA HB2.out (eC _ _)) HB2.out.size ?_
      intro W0 hb0 hS;have HS:=ac hS;have HB0:=ac hb0;have y0:=cK 0 (hM _ hb0) rfl
      clear hb0 hS)
    |(refine ay rfl 124 _ rfl w2.heap.size rfl 124 _ (0,0) _ HS.out dq rfl (by rw[gD];exact kR) ?_))
  .have c0:∀(k:Nat),(k:Int)<m.regs->W0.cell? ⟨w2.heap.size,k,none⟩=some (.bool (oV m.saved k)):=λk hk=>by rw[bd _ _ _ _ _ _ HS.out,sV _ _ (by omega)]
   have C0:=ac c0;have hmx:max m.regs 0=m.regs:=by omega
   clear c0 hsl hq hM;simp only[hmx];clear hmx
   go_loopw [2,6,7,37] (λv _ _ i wr=>∃(k:Nat),(k:Int)<=m.regs/\i=.int .i64 k/\Hid (wr.ownsRow W0.heap.size 3 1 v (gY m k).length ((gY m k).map (Value.int .i64)))/\Hid (Below W0.heap.size W0 wr)) (λ_ _ _ i _=>m.regs.toNat-(intOf i).toNat)
   case atStart=>exact⟨0,by omega,rfl,cC _ _ _ _,ao _ _⟩
   case round=>
    obtain⟨k,hk,rfl,HR,HB⟩:=hrel;have hll:=EV m k;by_cases hlt:(k:Int)<m.regs
    .have hc:wr.cell? ⟨w2.heap.size,k,none⟩=some (.bool (oV m.saved k)):=eN HB.out (C0.out k hlt);have hlt':k<m.regs.toNat:=by omega
     cases hq:oV m.saved k with
     |true=>
      have HS2:Hid (gY m (k+1)=gY m k):=by rw[Hid,uN,hq];simp
      rw[hq] at hc;go_wp2
      go_roundw
      case rel=>exact⟨k+1,by omega,by go_num,by rw[Hid,HS2.out];exact HR.out,HB⟩
      case measure=>simp[intOf];omega
     |false=>
      have HS2:Hid (gY m (k+1)=gY m k++ [(k:Int)]):=by rw[Hid,uN,hq];simp
      rw[hq] at hc
      go_wp2_with (first
       |(at_builtin
         refine fN rfl wr (.tmp 44) (.tmp 46) 22 3 rfl W0.heap.size _ 1 8 aQ oA rfl (by omega) u2 _ _ [.int .i64 (k:Int)] rfl HR.out wr.heap.size rfl rfl rfl (by simp[Value.oneCell']) (by simp only[maxLen];omega) (by omega) HB.out.size ?_;intro g cap w3 hown3 hg3 hat3;have HR3:Hid (w3.ownsRow W0.heap.size 3 1 (.slice (some ⟨g,0,none⟩) ((gY m k).length+1) cap) ((gY m k).length+1) ((gY m (k+1)).map (Value.int .i64))):=by rw[Hid,HS2.out,bN];exact hown3
         have HB3:Hid (Below W0.heap.size W0 w3):=HB.out.grown hg3 HB.out.size (λj e=>(HR.out.lt j e).1)
         clear hown3 hg3 hat3))
      go_roundw
      case rel=>exact⟨k+1,by omega,by go_num,by rw[Hid,show(gY m (k+1)).length=(gY m k).length+1 by rw[HS2.out];simp];exact HR3.out,HB3⟩
      case measure=>simp[intOf];omega
    .obtain rfl:k=m.regs.toNat:=by omega
     have hlt':¬m.regs.toNat<m.regs.toNat:=by omega
     go_wp2
     go_ret
     rw[yJ,HE.out];obtain⟨a,c,e,h1,h2⟩:=JH HR.out (NQ m _ (by omega)) (by omega);exact⟨a,c,aL _ e,h1,h2,eA (eA (eC _ _) HB0.out) HB.out⟩
  .have HF:=ac (XJ m.regs HO.out g2 HN.out);clear hsl hq hM
   go_loopw [2,5,24] (λv _ i wr=>∃(k:Nat),(k:Int)<=m.regs/\i=.int .i64 k/\Hid (wr.ownsRow W0.heap.size 3 1 v (gY m k).length ((gY m k).map (Value.int .i64)))/\Hid (Below W0.heap.size W0 wr)) (λ_ _ i _=>m.regs.toNat-(intOf i).toNat)
   case atStart=>exact⟨0,by omega,rfl,cC _ _ _ _,ao _ _⟩
   case round=>
    obtain⟨k,hk,rfl,HR,HB⟩:=hrel;have hll:=EV m k;by_cases hlt:(k:Int)<m.regs
    .have HS2:Hid (gY m (k+1)=gY m k++ [(k:Int)]):=by rw[Hid,uN,HF.out k];simp
     go_wp2_with (first
      |(at_builtin
        refine fN rfl wr (.tmp 27) (.tmp 29) 22 3 rfl W0.heap.size _ 1 8 aQ oA rfl (by omega) u2 _ _ [.int .i64 (k:Int)] rfl HR.out wr.heap.size rfl rfl rfl (by simp[Value.oneCell']) (by simp only[maxLen];omega) (by omega) HB.out.size ?_;intro g cap w3 hown3 hg3 hat3;have HR3:Hid (w3.ownsRow W0.heap.size 3 1 (.slice (some ⟨g,0,none⟩) ((gY m k).length+1) cap) ((gY m k).length+1) ((gY m (k+1)).map (Value.int .i64))):=by rw[Hid,HS2.out,bN];exact hown3
        have HB3:Hid (Below W0.heap.size W0 w3):=HB.out.grown hg3 HB.out.size (λj e=>(HR.out.lt j e).1)
        clear hown3 hg3 hat3))
     go_roundw
     case rel=>exact⟨k+1,by omega,by go_num,by rw[Hid,show(gY m (k+1)).length=(gY m k).length+1 by rw[HS2.out];simp];exact HR3.out,HB3⟩
     case measure=>simp[intOf];omega
    .obtain rfl:k=m.regs.toNat:=by omega
     go_wp2
     go_ret
     rw[yJ,HE.out];obtain⟨a,c,e,h1,h2⟩:=JH HR.out (NQ m _ (by omega)) (by omega);exact⟨a,c,aL _ e,h1,h2,eA (eA (eC _ _) HB0.out) HB.out⟩
end

section
open Go.RowKit
theorem FG : (Tryz.prog.fieldsOf 42).toList.map (fun f => (f.name, f.type, f.offset)) = [("Slot", 4, 0), ("N", 3, 1)] := by kernel_rfl
theorem AE:Tryz.prog.underlying 42=some (.struct (Tryz.prog.fieldsOf 42)):=by kernel_rfl
theorem WC:Tryz.prog.stoodInHeld 42=false:=by kernel_rfl
theorem wP:Tryz.prog.underlying 44=some (.struct (Tryz.prog.fieldsOf 44)):=by kernel_rfl
theorem RR:Tryz.prog.stoodInHeld 44=false:=by kernel_rfl
theorem BY : (Tryz.prog.fieldsOf 44).toList.map (fun f => (f.name, f.type, f.offset)) = [("Var", 3, 0), ("At", 42, 1)] := by kernel_rfl
theorem JR (w : World) (d : Nat) (xs ys : Array Value) (fs : List Field) (n0 n1 : String) (t0 t1 : TypeId) (o0 o1 : Nat) (hf : fs.map (fun f => (f.name, f.type, f.offset)) = [(n0, t0, o0), (n1, t1, o1)]) (h0 : n0 ≠ "_") (h1 : n1 ≠ "_")
  (x0 y0 x1 y1:Value) (b0 b1:Bool) (px0:(part t0 xs o0).run Tryz.prog w=.ok x0 w) (py0:(part t0 ys o0).run Tryz.prog w=.ok y0 w) (px1:(part t1 xs o1).run Tryz.prog w=.ok x1 w) (py1:(part t1 ys o1).run Tryz.prog w=.ok y1 w)
  (e0:(Op.equalIn d t0 x0 y0).run Tryz.prog w=.ok b0 w) (e1:(Op.equalIn d t1 x1 y1).run Tryz.prog w=.ok b1 w):(Op.eqFields d xs ys fs).run Tryz.prog w=.ok (b0&&b1) w:=by
 match fs,hf with
 | [f,g],hf=>
   simp only[cn,cW,dr,Prod.mk.injEq,and_true] at hf;obtain⟨⟨rfl,rfl,rfl⟩,⟨rfl,rfl,rfl⟩⟩:=hf;simp only[Op.eqFields,bu,Sem.run_ite,h0,h1,ne_eq,not_false_eq_true,if_true,px0,py0,e0,bp];cases b0 with
   |false=>simp
   |true=>cases b1<;>simp[px1,py1,e1]
theorem JQ(w:World)(d:Nat)(b b':Bool)(x y:Int):(Op.equalIn (d+2) 42 (.agg #[.bool b,.int .i64 x]) (.agg #[.bool b',.int .i64 y])).run Tryz.prog w=.ok (b==b'&&x==y) w:=by
 rw[run_equalIn_struct w (d+1) _ _ _ AE WC]
 exact JR w (d+1) _ _ _ _ _ _ _ _ _ FG (by decide) (by decide) (.bool b) (.bool b') (.int .i64 x) (.int .i64 y) _ _ (sI _ _ _ w rfl) (sI _ _ _ w rfl) (lJ _ _ _ w rfl) (lJ _ _ _ w rfl) (run_equalIn_bool' w d _ b b' ce) (run_equalIn_int w d _ .i64 .i64 x y aP)
theorem DS(cs:Array Value)(o:Nat)(u v:Value)(w:World)(h:cs.extract o (o+2)= #[u,v]):(part 42 cs o).run Tryz.prog w=.ok (.agg #[u,v]) w:=by
 have hu:(underlying 42).run Tryz.prog w=.ok (.struct (Tryz.prog.fieldsOf 42)) w:=aZ AE w
 obtain⟨i,hi,-,hs,-⟩:=info_parts DY
 have hz:(sizeOf 42).run Tryz.prog w=.ok 2 w:=by simp[sizeOf,typeInfo,hi,hs]
 simp[part,isAgg,hu,hz,h]
abbrev UI(x:Int×Bool×Int):Value:=.agg #[.int .i64 x.1,.bool x.2.1,.int .i64 x.2.2]
def nY(x y:Int×Bool×Int):Bool:=x.1==y.1&&(x.2.1==y.2.1&&x.2.2==y.2.2)
theorem FH(w:World)(x y:Int×Bool×Int):(Op.equalIn 10000 44 (UI x) (UI y)).run Tryz.prog w=.ok (nY x y) w:=by
 rw[run_equalIn_struct w 9999 _ _ _ wP RR]
 exact JR w 9999 _ _ _ _ _ _ _ _ _ BY (by decide) (by decide) (.int .i64 x.1) (.int .i64 y.1) (.agg #[.bool x.2.1,.int .i64 x.2.2]) (.agg #[.bool y.2.1,.int .i64 y.2.2]) _ _ (lJ _ _ _ w rfl) (lJ _ _ _ w rfl) (DS _ _ _ _ w rfl) (DS _ _ _ _ w rfl) (run_equalIn_int w 9998 _ .i64 .i64 _ _ aP) (JQ w 9997 _ _ _ _)
def mY(x y:Bool×Int):Bool:=x.1==y.1&&x.2==y.2
theorem VD(w:World)(b b':Bool)(x y:Int):(binOp .eql 42 (.agg #[.bool b,.int .i64 x]) (.agg #[.bool b',.int .i64 y])).run Tryz.prog w=.ok (.bool (mY (b,x) (b',y))) w:=by
 rw[run_eql_struct,JQ w 9998]
 rfl
theorem jq(w:World)(x y:Int×Bool×Int):(binOp .eql 44 (UI x) (UI y)).run Tryz.prog w=.ok (.bool (nY x y)) w:=by
 rw[run_eql_struct,FH w]
 rfl
theorem gK{w:World}{a:Option Addr}{n:Nat}{ls:List (Bool×Int)}(h:MQ w a n ls){k:Nat}(hk:k<n):∃r b o,ls[k]? =some r/\a=some ⟨b,o,none⟩/\w.cell? ⟨b,o+k*2,none⟩=some (.bool r.1)/\w.cell? ⟨b,o+k*2+1,none⟩=some (.int .i64 r.2):=by
 have hk':k<ls.length:=by rw[h.1];exact hk
 obtain⟨r,hr⟩:∃r,ls[k]? =some r:=⟨ls[k],au hk'⟩
 obtain⟨b,o,e,hc⟩:=h.2.2 k r hr
 exact⟨r,b,o,hr,e,hc 0 (by omega),hc 1 (by omega)⟩
end
end Go.Proofs.YtchdkjenhppleaaGreat
