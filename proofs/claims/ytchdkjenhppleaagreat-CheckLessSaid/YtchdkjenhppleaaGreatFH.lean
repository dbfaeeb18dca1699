/-
 Flat:ir.none,the closure of IsIns.
-/
import Derived.Test.YtchdkjenhppleaaGreatA0
import Derived.Test.YtchdkjenhppleaaGreatFF
import Derived.Outline
import Derived.Deep.Light
namespace Go.Proofs.YtchdkjenhppleaaGreat
set_option linter.unusedSimpArgs false
set_option linter.unusedVariables false
set_option linter.unusedSectionVars false
set_option maxRecDepth 100000
set_option maxHeartbeats 40000000
section
open Go.RowKit
theorem XK(x:Int)(w:World):Calls Tryz.prog 156 #[.int .i64 x] w λe w'=>e=.returned (.bool (x != 0))/\w=w':=by
 go_enter Tryz.func156,Tryz.ntmps156
 go_wp2
 go_ret
 exact⟨rfl,rfl⟩
theorem TR(args:Array Value)(w:World):(callFunc 156 args).run Tryz.prog w=.ok (.enter 156 args) w:=by kernel_rfl
def UE(xs:List Int):Bool:= !xs.any (λx=>x != 0)
theorem NN(a:Option Addr)(n c:Nat)(xs:List Int)(w:World)(h:fR w a n xs):
  Calls Tryz.prog 134 #[.slice a n c] w λe w'=>e=.returned (.bool (UE xs))/\w=w':=by
 have H:=ac h
 clear h
 go_enter Tryz.func134,Tryz.ntmps134
 go_wp2_with (go_at_call 119;refine(oQ _ TR (λx=>x != 0) XK a n c xs w H.out).mono ?_;rintro e w' ⟨rfl,rfl⟩)
 go_ret
 exact⟨rfl,rfl⟩
theorem NM(x:Int)(w:World):Calls Tryz.prog 133 #[.int .i64 x] w λe w'=>e=.returned (.bool (!DA x))/\w=w':=by
 go_enter Tryz.func133,Tryz.ntmps133
 go_wp2_with (go_at_call 106;refine(yO _ _).mono ?_;rintro e w' ⟨rfl,rfl⟩)
 go_ret
 exact⟨rfl,rfl⟩
theorem JT(args:Array Value)(w:World):(callFunc 133 args).run Tryz.prog w=.ok (.enter 133 args) w:=by kernel_rfl
end

section
open Go.RowKit
def rL(i:mI):Bool:=
 let s:=iH i.op
 if !s.2||i.many != 0 then false
 else if s.1.2.2.2.2 then UE [i.a,i.b,i.imm]&&decide (0<=i.callee/\i.callee<=99)&&rT (i.dst != 0) i.dst&&decide (i.args.length<=8)&& !i.args.any (λx=> !DA x)
 else if (!s.1.2.2.2.1&&i.imm != 0)||decide (i.imm< -1099511627776)||decide (i.imm>1099511627776) then false
 else i.callee==0&&i.args.length==0&&rT s.1.1 i.dst&&rT s.1.2.1 i.a&&rT s.1.2.2.1 i.b
theorem wQ(X:World)(H:Nat)(hH:X.heap.size=H)(x y z:Int)(hx:I64 x)(hy:I64 y)(hz:I64 z)(t:TypeId):fR (X.alloc (.cells #[.int .i64 x,.int .i64 y,.int .i64 z] t)) (some ⟨H,0,none⟩) 3 [x,y,z]:=by
 subst hH
 refine⟨rfl,by omega,λk hk=>?_⟩
 match k,hk with
 |0,_=>exact⟨X.heap.size,0,rfl,cR (ai X _) rfl,hx⟩
 |1,_=>exact⟨X.heap.size,0,rfl,cR (ai X _) rfl,hy⟩
 |2,_=>exact⟨X.heap.size,0,rfl,cR (ai X _) rfl,hz⟩
theorem II(x:Int)(h1: -9223372036854775808<=x)(h2:x<=9223372036854775807):IntKind.u64.wrap x<=99↔(0<=x/\x<=99):=by
 have e:IntKind.u64.wrap x=x%18446744073709551616:=rfl
 rw[e]
 omega
theorem NX{i:mI}{x:(Bool×Bool×Bool×Bool×Bool)×Bool}(h:iH i.op=x):rL i=(if !x.2||i.many != 0 then false
 else if x.1.2.2.2.2 then UE [i.a,i.b,i.imm]&&decide (0<=i.callee/\i.callee<=99)&&rT (i.dst != 0) i.dst&&decide (i.args.length<=8)&& !i.args.any (λx=> !DA x)
 else if (!x.1.2.2.2.1&&i.imm != 0)||decide (i.imm< -1099511627776)||decide (i.imm>1099511627776) then false
 else i.callee==0&&i.args.length==0&&rT x.1.1 i.dst&&rT x.1.2.1 i.a&&rT x.1.2.2.1 i.b):=by rw[rL,h]
theorem SZ(i:mI)(aa:Option Addr)(na ca:Nat)(w:World)(h:fR w aa na i.args)(h1:I64 i.a)(h2:I64 i.b)(h3:I64 i.imm)(h4:I64 i.callee)(ho:iH i.op=((false,false,false,false,true),true)):
  Calls Tryz.prog 101 #[wC i aa na ca] w λe w'=>e=.returned (.bool (rL i))/\Below w.heap.size w w':=by
 have HS:=ac ho
 have H:=ac h
 have HLA:=ac h.1
 have H1:=ac h1
 have H2:=ac h2
 have H3:=ac h3
 have hna:=h.2.1
 obtain⟨h4,h5⟩:=h4
 clear h h1 h2 h3 ho
 go_enter Tryz.func101,Tryz.ntmps101
 go_wp2_with (first
  |(go_at_call 132
    refine(EO _ _).mono ?_;rw[HS.out,oJ];rintro e w1 ⟨rfl,hb1⟩;have hx:=hb1.block w.heap.size (by simp);rw[ai w _] at hx;obtain⟨-,c1,c2,c3,c4,c5,c6,c7⟩:=RC hx rfl;have HB1:=ac (eA (eC w _) hb1);have hl1:w.heap.size<w1.heap.size:=by have:=hb1.size;simp at this;omega
    clear hx hb1)
  |(go_at_call 134
    refine(NN _ 3 3 [i.a,i.b,i.imm] _ (wQ _ _ (by simp) _ _ _ H1.out H2.out H3.out _)).mono ?_
    rintro e w2 ⟨rfl,rfl⟩)
  |(go_at_call 135
    refine(OF _ _ _).mono ?_
    rintro e w2 ⟨rfl,rfl⟩)
  |(go_at_call 119
    refine(oQ _ JT (λx=> !DA x) NM aa na ca i.args _ (H.out.ext (eA HB1.out (eA (eC _ _) (eC _ _))))).mono ?_
    rintro e w2 ⟨rfl,rfl⟩))
 all_goals
  go_ret
  refine⟨rY ?_,?_⟩
  .go_light
   rw[NX HS.out,HLA.out];simp only[<-II i.callee h4 h5];simp[*]
   try omega
  .first
   |exact eA HB1.out (eA (eC _ _) (eC _ _))
   |exact eA HB1.out (eC _ _)
   |exact HB1.out
theorem SY(i:mI)(aa:Option Addr)(na ca:Nat)(w:World)(h:fR w aa na i.args)(h1:I64 i.a)(h2:I64 i.b)(h3:I64 i.imm)(h4:I64 i.callee)(d a b m is:Bool)(ho:iH i.op=((d,a,b,m,false),is)):
  Calls Tryz.prog 101 #[wC i aa na ca] w λe w'=>e=.returned (.bool (rL i))/\Below w.heap.size w w':=by
 have HS:=ac ho
 have H:=ac h
 have HLA:=ac h.1
 have H1:=ac h1
 have H2:=ac h2
 have H3:=ac h3
 have hna:=h.2.1
 obtain⟨h4,h5⟩:=h4
 clear h h1 h2 h3 ho
 go_enter Tryz.func101,Tryz.ntmps101
 go_wp2_with (first
  |(go_at_call 132
    refine(EO _ _).mono ?_;rw[HS.out,oJ];rintro e w1 ⟨rfl,hb1⟩;have hx:=hb1.block w.heap.size (by simp);rw[ai w _] at hx;obtain⟨-,c1,c2,c3,c4,c5,c6,c7⟩:=RC hx rfl;have HB1:=ac (eA (eC w _) hb1);have hl1:w.heap.size<w1.heap.size:=by have:=hb1.size;simp at this;omega
    clear hx hb1)
  |(go_at_call 134
    refine(NN _ 3 3 [i.a,i.b,i.imm] _ (wQ _ _ (by simp) _ _ _ H1.out H2.out H3.out _)).mono ?_
    rintro e w2 ⟨rfl,rfl⟩)
  |(go_at_call 135
    refine(OF _ _ _).mono ?_
    rintro e w2 ⟨rfl,rfl⟩)
  |(go_at_call 119
    refine(oQ _ JT (λx=> !DA x) NM aa na ca i.args _ (H.out.ext (eA HB1.out (eA (eC _ _) (eC _ _))))).mono ?_
    rintro e w2 ⟨rfl,rfl⟩))
 all_goals
  go_ret
  refine⟨rY ?_,?_⟩
  .go_light
   rw[NX HS.out,HLA.out];simp only[<-II i.callee h4 h5];simp[*]
   try omega
  .first
   |exact eA HB1.out (eA (eC _ _) (eC _ _))
   |exact eA HB1.out (eC _ _)
   |exact HB1.out
theorem JG(i:mI)(aa:Option Addr)(na ca:Nat)(w:World)(h:fR w aa na i.args)(h1:I64 i.a)(h2:I64 i.b)(h3:I64 i.imm)(h4:I64 i.callee):
  Calls Tryz.prog 101 #[wC i aa na ca] w λe w'=>e=.returned (.bool (rL i))/\Below w.heap.size w w':=by
 match ho:iH i.op with
 |((d,a,b,m,false),is)=>exact SY i aa na ca w h h1 h2 h3 h4 d a b m is ho
 |((d,a,b,m,true),is)=>
  refine SZ i aa na ca w h h1 h2 h3 h4 ?_;unfold iH at ho|-
  split
  .rfl
  .rename_i h0
   rw[aC h0] at ho;exfalso
   revert ho
   repeat' split
   all_goals simp
end
end Go.Proofs.YtchdkjenhppleaaGreat
