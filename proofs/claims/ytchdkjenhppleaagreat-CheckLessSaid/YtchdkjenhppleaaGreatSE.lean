/-
 ir.shaped,IsIns,Defines (beside tile's none,variable,fits). Printed by gen_sa.py.
-/
import Derived.Test.YtchdkjenhppleaaGreatA0
import Derived.Test.YtchdkjenhppleaaGreatTA
import Derived.Test.YtchdkjenhppleaaGreatInsR
import Derived.Outline
import Derived.Deep.Light
import Derived.Test.YtchdkjenhppleaaGreatTE
import Derived.Test.YtchdkjenhppleaaGreatFL
import Derived.Test.YtchdkjenhppleaaGreatFM
namespace Go.Proofs.YtchdkjenhppleaaGreat
set_option linter.unusedSimpArgs false
set_option linter.unusedVariables false
set_option linter.unusedSectionVars false
set_option maxRecDepth 100000
set_option maxHeartbeats 40000000
section
open Go.RowKit
def iC(o:Int):(Bool×Bool×Bool×Bool×Bool)×Bool:=
 if o=13 then ((false,false,false,false,true),true) else if o=1 then ((true,false,false,true,false),true) else if o=12 then ((false,true,true,true,false),true) else if o=11 then ((true,true,false,true,false),true) else if o=14 then ((true,true,false,false,false),true) else ((true,true,true,false,false),decide (2<=o/\o<=10))
def kS(x:(Bool×Bool×Bool×Bool×Bool)×Bool):Value:=.tuple #[.agg #[.bool x.1.1,.bool x.1.2.1,.bool x.1.2.2.1,.bool x.1.2.2.2.1,.bool x.1.2.2.2.2],.bool x.2]
theorem yR(o:Int)(w:World):Calls Tryz.prog 132 #[.int .i64 o] w λe w'=>e=.returned (kS (iC o))/\Below w.heap.size w w':=by
 by_cases h13:o=13
 .subst h13
  go_enter cF,co
  go_wp2;exact aD (v:=kS (iC 13)) (by simp[results,b7,go_sem,kS,iC]) rfl ⟨rfl,eD _ _⟩
 have b13:(o==13)=false:=by simpa using h13
 by_cases h1:o=1
 .subst h1
  go_enter cF,co
  go_wp2;exact aD (v:=kS (iC 1)) (by simp[results,b7,go_sem,kS,iC]) rfl ⟨rfl,eD _ _⟩
 have b1:(o==1)=false:=by simpa using h1
 by_cases h12:o=12
 .subst h12
  go_enter cF,co
  go_wp2;exact aD (v:=kS (iC 12)) (by simp[results,b7,go_sem,kS,iC]) rfl ⟨rfl,eD _ _⟩
 have b12:(o==12)=false:=by simpa using h12
 by_cases h11:o=11
 .subst h11
  go_enter cF,co
  go_wp2;exact aD (v:=kS (iC 11)) (by simp[results,b7,go_sem,kS,iC]) rfl ⟨rfl,eD _ _⟩
 have b11:(o==11)=false:=by simpa using h11
 by_cases h14:o=14
 .subst h14
  go_enter cF,co
  go_wp2;exact aD (v:=kS (iC 14)) (by simp[results,b7,go_sem,kS,iC]) rfl ⟨rfl,eD _ _⟩
 have b14:(o==14)=false:=by simpa using h14
 have HE:Hid (iC o=((true,true,true,false,false),decide (2<=o/\o<=10))):=by
  rw[Hid,iC,aC h13,aC h1,aC h12,aC h11,aC h14]
 clear h13 h1 h12 h11 h14
 by_cases h2:2<=o
 .have d2:decide (2<=o)=true:=by simpa using h2
  have HF:Hid (decide (2<=o/\o<=10)=decide (o<=10)):=by rw[Hid,di];omega
  go_enter cF,co
  go_wp2;exact aD (v:=.tuple #[.agg #[.bool true,.bool true,.bool true,.bool false,.bool false],.bool (decide (o<=10))]) (by simp[results,b7,go_sem]) rfl ⟨by rw[HE.out,HF.out];rfl,eD _ _⟩
 .have d2:decide (2<=o)=false:=by simpa using h2
  have HF:Hid (decide (2<=o/\o<=10)=false):=by rw[Hid,bA];omega
  go_enter cF,co
  go_wp2;exact aD (v:=.tuple #[.agg #[.bool true,.bool true,.bool true,.bool false,.bool false],.bool false]) (by simp[results,b7,go_sem]) rfl ⟨by rw[HE.out,HF.out];rfl,eD _ _⟩
theorem FW(F:Nat)(eF:∀args w,(callFunc F args).run Tryz.prog w=.ok (.enter F args) w)(p:Int->Bool)(hp:∀(x:Int) (W:World),Calls Tryz.prog F #[.int .i64 x] W λe W'=>e=.returned (.bool (p x))/\W=W')(a:Option Addr)(n c:Nat)(xs:List Int)(w:World)(h:fR w a n xs):
  Calls Tryz.prog 150 #[.slice a n c,.func (.func F) #[] #[]] w λe w'=>e=.returned (.int .i64 (iA p xs))/\w=w':=by
 obtain⟨hl,hn,hc⟩:=h
 have HL:=ac hl
 have HC:=ac hc
 have HP:=ac hp
 clear hl hc hp
 go_enter Tryz.func150,Tryz.ntmps150
 go_wp2
 go_loop [5,8] (λ_ i=>∃(k:Nat),k<=n/\i=.int .i64 k/\Hid (∀j y,j<k->xs[j]? =some y->p y=false)) (λ_ i=>n-(intOf i).toNat)
 case atStart=>exact⟨0,by omega,rfl,λj y hj=>absurd hj (by omega)⟩
 case round=>
  obtain⟨k,hk,rfl,HR⟩:=hrel;by_cases hlt:k<n
  .obtain⟨b,o,rfl,hcell,hw1,hw2⟩:=HC.out k hlt;have hgk:xs[k]? =some (xs.getD k 0):=by
    have hk':k<xs.length:=by rw[HL.out];exact hlt
    simp[ax,hk']
   have HG:=ac hgk;clear hgk;generalize xs.getD k 0=y at *;by_cases hy:p y=true
   .have HE:Hid (iA p xs=k):=pU p xs k y HG.out hy HR.out;go_wp2;refine(HP.out y w).mono ?_;rintro e w' ⟨rfl,rfl⟩;rw[hy];go_wp2
    go_ret
    exact⟨by rw[HE.out];rfl,rfl⟩
   .have hy':p y=false:=by simpa using hy
    have HE:Hid (∀j z,j<k+1->xs[j]? =some z->p z=false):=λj z hj hz=>by
     by_cases e:j=k
     .subst e;rw[HG.out] at hz;injection hz with hz;subst hz;exact hy'
     .exact HR.out j z (by omega) hz
    go_wp2;refine(HP.out y w).mono ?_;rintro e w' ⟨rfl,rfl⟩;rw[hy'];go_wp2
    go_round
    case rel=>exact⟨k+1,by omega,by go_num,HE⟩
    case measure=>simp[intOf];omega
  .obtain rfl:k=n:=by omega
   have HE:Hid (iA p xs= -1):=rG p xs (λz hz=>by
    obtain⟨j,hj,e⟩:=a8.1 hz
    exact HR.out j z (by rw[HL.out] at hj;exact hj) (by rw[au hj,e]))
   go_wp2
   go_ret
   exact⟨by rw[HE.out];rfl,rfl⟩
theorem oC(F:Nat)(eF:∀args w,(callFunc F args).run Tryz.prog w=.ok (.enter F args) w)(p:Int->Bool)(hp:∀(x:Int) (W:World),Calls Tryz.prog F #[.int .i64 x] W λe W'=>e=.returned (.bool (p x))/\W=W')(a:Option Addr)(n c:Nat)(xs:List Int)(w:World)(h:fR w a n xs):
  Calls Tryz.prog 119 #[.slice a n c,.func (.func F) #[] #[]] w λe w'=>e=.returned (.bool (xs.any p))/\w=w':=by
 have HA:=ac (tD p xs)
 have HP:=ac hp
 have H:=ac h
 go_enter Tryz.func119,Tryz.ntmps119
 go_wp2_with (refine(FW F eF p HP.out a n c xs w H.out).mono ?_;rintro e w' ⟨rfl,rfl⟩)
 go_ret
 exact⟨by rw[<-HA.out];rfl,rfl⟩
theorem SJ(x:Int)(w:World):Calls Tryz.prog 156 #[.int .i64 x] w λe w'=>e=.returned (.bool (x != 0))/\w=w':=by
 go_wp2
 go_ret
 simp
theorem IX(a:Option Addr)(n c:Nat)(xs:List Int)(w:World)(h:fR w a n xs):
  Calls Tryz.prog 134 #[.slice a n c] w λe w'=>e=.returned (.bool (mZ xs))/\w=w':=by
 have H:=ac h
 go_enter Tryz.func134,Tryz.ntmps134
 go_wp2_with (refine(oC _ zP (λx=>x != 0) SJ a n c xs w H.out).mono ?_;rintro e w' ⟨rfl,rfl⟩)
 go_ret
 trivial
theorem ET(x:Int)(w:World):Calls Tryz.prog 133 #[.int .i64 x] w λe w'=>e=.returned (.bool (!iG x))/\w=w':=by
 go_enter Tryz.func133,Tryz.ntmps133
 go_wp2_with (refine(kX _ _).mono ?_;rintro e w' ⟨rfl,rfl⟩)
 go_ret
 simp
theorem CD(args:Array Value)(w:World):(callFunc 133 args).run Tryz.prog w=.ok (.enter 133 args) w:=by simp
def iQ(i:lQ):Bool:=
 let s:=iC i.op
 if !s.2||i.many != 0 then false
 else if s.1.2.2.2.2 then mZ [i.a,i.b,i.imm]&&decide (0<=i.callee/\i.callee<=99)&&oZ (i.dst != 0) i.dst&&decide (i.args.length<=8)&& !i.args.any (λx=> !iG x)
 else if (!s.1.2.2.2.1&&i.imm != 0)||decide (i.imm< -1099511627776)||decide (i.imm>1099511627776) then false
 else i.callee==0&&i.args.length==0&&oZ s.1.1 i.dst&&oZ s.1.2.1 i.a&&oZ s.1.2.2.1 i.b
theorem yQ(X:World)(H:Nat)(hH:X.heap.size=H)(x y z:Int)(hx:I64 x)(hy:I64 y)(hz:I64 z)(t:TypeId):fR (X.alloc (.cells #[.int .i64 x,.int .i64 y,.int .i64 z] t)) (some ⟨H,0,none⟩) 3 [x,y,z]:=by
 refine⟨rfl,by omega,λk hk=>?_⟩
 grind[cR,heap_alloc_new]
theorem BI(x:Int)(h1: -9223372036854775808<=x)(h2:x<=9223372036854775807):IntKind.u64.wrap x<=99↔(0<=x/\x<=99):=by
 have e:IntKind.u64.wrap x=x%18446744073709551616:=rfl
 omega
theorem EY{i:lQ}{x:(Bool×Bool×Bool×Bool×Bool)×Bool}(h:iC i.op=x):iQ i=(if !x.2||i.many != 0 then false
 else if x.1.2.2.2.2 then mZ [i.a,i.b,i.imm]&&decide (0<=i.callee/\i.callee<=99)&&oZ (i.dst != 0) i.dst&&decide (i.args.length<=8)&& !i.args.any (λx=> !iG x)
 else if (!x.1.2.2.2.1&&i.imm != 0)||decide (i.imm< -1099511627776)||decide (i.imm>1099511627776) then false
 else i.callee==0&&i.args.length==0&&oZ x.1.1 i.dst&&oZ x.1.2.1 i.a&&oZ x.1.2.2.1 i.b):=by rw[iQ,h]
theorem LV(i:lQ)(aa:Option Addr)(na ca:Nat)(w:World)(h:fR w aa na i.args)(h1:I64 i.a)(h2:I64 i.b)(h3:I64 i.imm)(h4:I64 i.callee)(ho:iC i.op=((false,false,false,false,true),true)):
  Calls Tryz.prog 101 #[zX i aa na ca] w λe w'=>e=.returned (.bool (iQ i))/\Below w.heap.size w w':=by
 have HS:=ac ho
 have H:=ac h
 have HLA:=ac h.1
 have H1:=ac h1
 have H2:=ac h2
 have H3:=ac h3
 have hna:=h.2.1
 obtain⟨h4,h5⟩:=h4
 clear h h1 h2 h3 ho
 go_enter Tryz.func101,Tryz.ntmps101
 go_wp2_with (first
  |(go_at_call 132
    refine(yR _ _).mono ?_;rw[HS.out,kS];rintro e w1 ⟨rfl,hb1⟩;have hx:=hb1.block w.heap.size (by simp);rw[ai w _] at hx;obtain⟨-,c1,c2,c3,c4,c5,c6,c7⟩:=RC hx rfl;have HB1:=ac (eA (eD w _) hb1);have hl1:w.heap.size<w1.heap.size:=by have:=hb1.size;simp at this;omega
    clear hx hb1)
  |(go_at_call 134
    refine(IX _ 3 3 [i.a,i.b,i.imm] _ (yQ _ _ (by simp) _ _ _ H1.out H2.out H3.out _)).mono ?_
    rintro e w2 ⟨rfl,rfl⟩)
  |(go_at_call 135
    refine(tF _ _ _).mono ?_
    rintro e w2 ⟨rfl,rfl⟩)
  |(go_at_call 119
    refine(oC _ CD (λx=> !iG x) ET aa na ca i.args _ (H.out.ext (eA HB1.out (eA (eD _ _) (eD _ _))))).mono ?_
    rintro e w2 ⟨rfl,rfl⟩))
 all_goals
  go_ret
  refine⟨rY ?_,?_⟩
  .go_light
   rw[EY HS.out,HLA.out];simp only[<-BI i.callee h4 h5];simp[*]
   try omega
  .first
   |exact eA HB1.out (eA (eD _ _) (eD _ _))
   |exact eA HB1.out (eD _ _)
   |exact HB1.out
theorem LU(i:lQ)(aa:Option Addr)(na ca:Nat)(w:World)(h:fR w aa na i.args)(h1:I64 i.a)(h2:I64 i.b)(h3:I64 i.imm)(h4:I64 i.callee)(d a b m is:Bool)(ho:iC i.op=((d,a,b,m,false),is)):
  Calls Tryz.prog 101 #[zX i aa na ca] w λe w'=>e=.returned (.bool (iQ i))/\Below w.heap.size w w':=by
 have HS:=ac ho
 have H:=ac h
 have HLA:=ac h.1
 have H1:=ac h1
 have H2:=ac h2
 have H3:=ac h3
 have hna:=h.2.1
 obtain⟨h4,h5⟩:=h4
 clear h h1 h2 h3 ho
 go_enter Tryz.func101,Tryz.ntmps101
 go_wp2_with (first
  |(go_at_call 132
    refine(yR _ _).mono ?_;rw[HS.out,kS];rintro e w1 ⟨rfl,hb1⟩;have hx:=hb1.block w.heap.size (by simp);rw[ai w _] at hx;obtain⟨-,c1,c2,c3,c4,c5,c6,c7⟩:=RC hx rfl;have HB1:=ac (eA (eD w _) hb1);have hl1:w.heap.size<w1.heap.size:=by have:=hb1.size;simp at this;omega
    clear hx hb1)
  |(go_at_call 134
    refine(IX _ 3 3 [i.a,i.b,i.imm] _ (yQ _ _ (by simp) _ _ _ H1.out H2.out H3.out _)).mono ?_
    rintro e w2 ⟨rfl,rfl⟩)
  |(go_at_call 135
    refine(tF _ _ _).mono ?_
    rintro e w2 ⟨rfl,rfl⟩)
  |(go_at_call 119
    refine(oC _ CD (λx=> !iG x) ET aa na ca i.args _ (H.out.ext (eA HB1.out (eA (eD _ _) (eD _ _))))).mono ?_
    rintro e w2 ⟨rfl,rfl⟩))
 all_goals
  go_ret
  refine⟨rY ?_,?_⟩
  .go_light
   rw[EY HS.out,HLA.out];simp only[<-BI i.callee h4 h5];simp[*]
   try omega
  .first
   |exact eA HB1.out (eA (eD _ _) (eD _ _))
   |exact eA HB1.out (eD _ _)
   |exact HB1.out
theorem uO(i:lQ)(aa:Option Addr)(na ca:Nat)(w:World)(h:fR w aa na i.args)(h1:I64 i.a)(h2:I64 i.b)(h3:I64 i.imm)(h4:I64 i.callee):
  Calls Tryz.prog 101 #[zX i aa na ca] w λe w'=>e=.returned (.bool (iQ i))/\Below w.heap.size w w':=by
 match ho:iC i.op with
 |((d,a,b,m,false),is)=>grind[LU]
 |((d,a,b,m,true),is)=>
  refine LV i aa na ca w h h1 h2 h3 h4 ?_;unfold iC at ho|-
  grind
def fG(i:lQ):Int:=if iQ i then i.dst else 0
theorem vX(i:lQ)(aa:Option Addr)(na ca:Nat)(w:World)(h:fR w aa na i.args)(h1:I64 i.a)(h2:I64 i.b)(h3:I64 i.imm)(h4:I64 i.callee):
  Calls Tryz.prog 67 #[zX i aa na ca] w λe w'=>e=.returned (.int .i64 (fG i))/\Below w.heap.size w w':=by
 have H:=ac h
 have H1:=ac h1
 have H2:=ac h2
 have H3:=ac h3
 have H4:=ac h4
 clear h h1 h2 h3 h4
 go_enter Tryz.func67,Tryz.ntmps67
 go_wp2_with (first
  |(go_at_call 101
    refine(uO i aa na ca _ (H.out.ext (eD _ _)) H1.out H2.out H3.out H4.out).mono ?_;rintro e w1 ⟨rfl,hb1⟩;have hx:=hb1.block w.heap.size (by simp);rw[ai w _] at hx;have c1:=cK 1 hx rfl
    have HB1:=ac (eA (eD w _) hb1)))
 all_goals
  go_ret
  exact⟨xO (by grind[fG]),HB1.out⟩
end

section
open Go.RowKit
abbrev zY(i:lQ)(aa:Option Addr)(na ca:Nat):Obj:=.cells #[.int .i64 i.op,.int .i64 i.dst,.int .i64 i.a,.int .i64 i.b,.int .i64 i.imm,.int .i64 i.callee,.slice aa na ca,.int .i64 i.many] 62
theorem IS(cs:Array Value)(o:Nat)(v:Value)(w:World)(h:cs[o]? =some v):(part 3 cs o).run Tryz.prog w=.ok v w:=by
 have hu:(underlying 3).run Tryz.prog w=.ok (.int .i64) w:=aZ aP w
 simp[part,isAgg,hu,h]
theorem wS{w:World}{base:Nat}{e:TypeId}{size:Nat}{v:Value}{n:Nat}{xs:List Value}(h:w.ownsRow base e size v n xs):∃a c,v=.slice a n c:=by
 rcases h.2 with ⟨rfl,h0⟩|⟨g,cap,cur,hv,_⟩
 .grind
 grind
def gA(i:lQ):List Int:=if iQ i then ([i.a,i.b].filter λx=>x != 0)++i.args else []
def kM(i:lQ)(k:Nat):List Int:=([i.a,i.b].take k).filter λx=>x != 0
theorem RQ(i:lQ)(k:Nat):(kM i k).length<=2:=by
 have h1:=bY (λx:Int=>x != 0) ([i.a,i.b].take k)
 have h3:([i.a,i.b].take k).length<=2:=by grind
 exact bP h1 h3
theorem rA(i:lQ)(k:Nat)(x:Int)(h: [i.a,i.b][k]? =some x):kM i (k+1)=if x != 0 then kM i k++ [x] else kM i k:=by
 grind[kM]
theorem PZ{w:World}{a:Option Addr}{n:Nat}{xs:List Int}(h:fR w a n xs):∀j u,(xs.map (Value.int .i64))[j]? =some u->∃ad,a=some ad/\w.cell? (ad.add j)=some u:=h.news
theorem BV(w:World)(x y:Int):(Instr.index 27 (.agg #[.int .i64 x,.int .i64 y]) (.int .i64 0)).run Tryz.prog w=.ok (.int .i64 x) w/\(Instr.index 27 (.agg #[.int .i64 x,.int .i64 y]) (.int .i64 1)).run Tryz.prog w=.ok (.int .i64 y) w:=by
 have hz:(sizeOf 3).run Tryz.prog w=.ok 1 w:=Tryz.sizeOf3 w
 have p0:(part 3 #[.int .i64 x,.int .i64 y] 0).run Tryz.prog w=.ok (.int .i64 x) w:=IS _ _ _ w rfl
 have p1:(part 3 #[.int .i64 x,.int .i64 y] 1).run Tryz.prog w=.ok (.int .i64 y) w:=IS _ _ _ w rfl
 constructor
 .simp[Instr.index,asIntOf,aZ (w:=w) dH,hz,p0,Result.andThen]
 .simp[Instr.index,asIntOf,aZ (w:=w) dH,hz,p1,Result.andThen]
theorem yT(i:lQ)(aa:Option Addr)(na ca:Nat)(w:World)(h:fR w aa na i.args)(h1:I64 i.a)(h2:I64 i.b)(h3:I64 i.imm)(h4:I64 i.callee)(h5:na<=1000000):
  Calls Tryz.prog 64 #[zX i aa na ca] w (mG w (gA i)):=by
 have H:=ac h
 have HL:=ac h.1
 have H1:=ac h1
 have H2:=ac h2
 have HC:=ac (λW (hb:Below w.heap.size w W)=>uO i aa na ca W (h.ext hb) h1 h2 h3 h4)
 have hix:=λw=>(BV w i.a i.b).1
 have hiy:=λw=>(BV w i.a i.b).2
 have HX:Hid (∀q∈i.args,I64 q):=λq hq=>by
  obtain⟨k,hk,rfl⟩:=a8.1 hq;obtain⟨_,_,_,_,hi⟩:=h.2.2 k (by rw[<-h.1];exact hk);rw[ax,au hk] at hi;exact hi
 clear h h1 h2 h3 h4
 cases hr:iQ i with
 |false=>
  have HR:=ac hr;clear hr
  go_enter Tryz.func64,Tryz.ntmps64
  go_wp2_with (
   (go_at_call 101
    refine(HC.out _ (eD w _)).mono ?_;rintro e w1 ⟨rfl,hb1⟩;rw[HR.out];have HB1:=ac (eA (eD w _) hb1)
    clear hb1))
  go_ret
  have e:gA i= []:=by unfold gA;rw[HR.out];rfl
  rw[e];exact⟨_,rfl,fQ.nil _ _,HB1.out⟩
 |true=>
  have HR:=ac hr;clear hr
  go_enter Tryz.func64,Tryz.ntmps64
  go_wp2_with (
   (go_at_call 101
    refine(HC.out _ (eD w _)).mono ?_;rintro e w1 ⟨rfl,hb1⟩;rw[HR.out];have hx1:=eB hb1 (ai w (zY i aa na ca));have HX1:=ac hx1;obtain⟨-,-,x2,x3⟩:=wD hx1 rfl;have HB1:=ac (eA (eD w _) hb1)
    clear hb1 hx1))
  have hsz1:w.heap.size<w1.heap.size:=(am.1 HX1.out).1;have HSZ:=ac hsz1;clear hsz1
  go_loopw [2,4,13] (λv _ t wr=>∃k,k<=2/\t=.int .i64 (k:Nat)/\Hid (wr.ownsRow w1.heap.size 3 1 v (kM i k).length ((kM i k).map (Value.int .i64)))/\Hid (Below w1.heap.size w1 wr)) (λ_ _ t _=>2-(intOf t).toNat)
  case atStart=>exact⟨0,by omega,rfl,cC _ _ _ _,ao _ _⟩
  case round=>
   obtain⟨k,hk,rfl,HO,HB⟩:=hrel;clear x2 x3;have hl2:=RQ i k;by_cases hlt:k<2
   .obtain rfl|rfl:k=0\/k=1:=by omega
    .by_cases hx:i.a=0
     .have hb:(i.a != 0)=false:=by simpa using hx
      have HT:Hid (kM i 1=kM i 0):=by rw[Hid,rA i 0 (i.a) rfl,hb];rfl
      clear hx;go_wp2
      go_roundw
      case rel=>exact⟨1,by omega,by go_num,by rw[Hid,HT.out];exact HO.out,HB⟩
      case measure=>simp[intOf]
     .have hb:(i.a != 0)=true:=by simpa using hx
      have HT:Hid (kM i 1=kM i 0++ [i.a]):=by rw[Hid,rA i 0 (i.a) rfl,hb];rfl
      clear hx;generalize kM i 0=ls at *;obtain⟨av,cv,rfl⟩:=wS HO.out
      go_wp2_with (
       (at_builtin
        refine fN rfl wr (.tmp 18) (.tmp 20) 22 3 rfl w1.heap.size _ 1 8 aQ tP rfl (by omega) (.slice av ls.length cv) ls.length _ [.int .i64 (i.a)] rfl HO.out wr.heap.size rfl rfl rfl (by simp[Value.oneCell']) (by simp only[maxLen];omega) (by omega) HB.out.size ?_;intro g2 cap w3 hown3 hgr3 hat3;have HO3:Hid (w3.ownsRow w1.heap.size 3 1 (.slice (some ⟨g2,0,none⟩) (ls.length+1) cap) (ls++ [i.a]).length ((ls++ [i.a]).map (Value.int .i64))):=(by rw[Hid,bN,aT];exact hown3)
        have HB3:Hid (Below w1.heap.size w1 w3):=(HB.out.grown hgr3 HB.out.size (λq e=>(HO.out.lt q e).1))
        clear hown3 hgr3 hat3))
      go_roundw
      case rel=>exact⟨1,by omega,by go_num,by rw[Hid,HT.out];exact HO3.out,HB3⟩
      case measure=>simp[intOf]
    .by_cases hx:i.b=0
     .have hb:(i.b != 0)=false:=by simpa using hx
      have HT:Hid (kM i 2=kM i 1):=by rw[Hid,rA i 1 (i.b) rfl,hb];rfl
      clear hx;go_wp2
      go_roundw
      case rel=>exact⟨2,by omega,by go_num,by rw[Hid,HT.out];exact HO.out,HB⟩
      case measure=>simp[intOf]
     .have hb:(i.b != 0)=true:=by simpa using hx
      have HT:Hid (kM i 2=kM i 1++ [i.b]):=by rw[Hid,rA i 1 (i.b) rfl,hb];rfl
      clear hx;generalize kM i 1=ls at *;obtain⟨av,cv,rfl⟩:=wS HO.out
      go_wp2_with (
       (at_builtin
        refine fN rfl wr (.tmp 18) (.tmp 20) 22 3 rfl w1.heap.size _ 1 8 aQ tP rfl (by omega) (.slice av ls.length cv) ls.length _ [.int .i64 (i.b)] rfl HO.out wr.heap.size rfl rfl rfl (by simp[Value.oneCell']) (by simp only[maxLen];omega) (by omega) HB.out.size ?_;intro g2 cap w3 hown3 hgr3 hat3;have HO3:Hid (w3.ownsRow w1.heap.size 3 1 (.slice (some ⟨g2,0,none⟩) (ls.length+1) cap) (ls++ [i.b]).length ((ls++ [i.b]).map (Value.int .i64))):=(by rw[Hid,bN,aT];exact hown3)
        have HB3:Hid (Below w1.heap.size w1 w3):=(HB.out.grown hgr3 HB.out.size (λq e=>(HO.out.lt q e).1))
        clear hown3 hgr3 hat3))
      go_roundw
      case rel=>exact⟨2,by omega,by go_num,by rw[Hid,HT.out];exact HO3.out,HB3⟩
      case measure=>simp[intOf]
   .obtain rfl:k=2:=by omega
    have HT:Hid (gA i=kM i 2++i.args):=by rw[Hid];unfold gA;rw[HR.out,aX rfl];rfl
    have HI2:Hid (∀q∈kM i 2,I64 q):=λq hq=>by
     have:=(bO.1 hq).1;simp at this;rcases this with rfl|rfl
     .exact H1.out
     .exact H2.out
    have hxr:=eB HB.out HX1.out;have x6:=cK 6 hxr rfl;have HHr:=ac (H.out.ext (eA HB1.out HB.out));have hsz:=HSZ.out;clear hxr HC HX1;generalize kM i 2=ls at *;obtain⟨av,cv,rfl⟩:=wS HO.out
    go_wp2_with (
     (at_builtin
      refine uW wr rfl (.tmp 23) (.tmp 25) 22 3 rfl w1.heap.size (.int .i64 0) 8 aQ tP rfl (.slice av ls.length cv) ls.length _ rfl HO.out aa na ca rfl (i.args.map (Value.int .i64)) (by rw[bR,HL.out]) (PZ HHr.out) (by intro u hu;obtain⟨q,_,rfl⟩:=bi.1 hu;rfl) (by simp only[maxLen];omega) (by omega) HB.out.size ?_;intro v3 w3 hown3 hgr3 hat3;have HO3:Hid (w3.ownsRow w1.heap.size 3 1 v3 (gA i).length ((gA i).map (Value.int .i64))):=(by rw[Hid,HT.out,bN,aT,HL.out];exact hown3)
      have HB3:Hid (Below w.heap.size w w3):=(eA HB1.out (HB.out.grown hgr3 HB.out.size (λq e=>(HO.out.lt q e).1)))
      clear hown3 hgr3 hat3))
    go_ret
    have hq:∀q∈gA i,I64 q:=λq hq=>by
     rw[HT.out] at hq;rcases bh.1 hq with hq|hq
     .exact HI2.out q hq
     .exact HX.out q hq
    have hle:(gA i).length<=1000002:=by rw[HT.out,aT,HL.out];omega
    have hoI:fQ w3 w1.heap.size v3 (gA i):=⟨HO3.out,hq,by omega⟩
    exact⟨v3,rfl,hoI.mono HB1.out.size,HB3.out⟩
def mL(t:fC):List Int:=if jK t&&t.a != 0 then [t.a] else []
theorem SK(t:fC)(w:World)(h:rM t):Calls Tryz.prog 147 #[HH t] w (mG w (mL t)):=by
 have HA:Hid (I64 t.a):=h.2.1
 have HT:=ac (λW=>mF t W h)
 clear h
 cases hb:jK t with
 |false=>
  have HE:Hid (mL t= []):=by rw[Hid,mL,hb];rfl
  go_enter Tryz.func147,Tryz.ntmps147
  go_wp2_with (
   (go_at_call 107
    refine(HT.out _).mono ?_;rintro e w1 ⟨rfl,hb1⟩;rw[hb];have HB1:=ac (eA (eD w _) hb1)
    clear hb1))
  go_ret
  rw[HE.out];exact⟨_,rfl,fQ.nil _ _,HB1.out⟩
 |true=>
  by_cases h0:t.a=0
  .have b0:(t.a==0)=true:=by grind
   have HE:Hid (mL t= []):=by rw[Hid,mL,h0];simp
   clear h0
   go_enter Tryz.func147,Tryz.ntmps147
   go_wp2_with (
    (go_at_call 107
     refine(HT.out _).mono ?_;rintro e w1 ⟨rfl,hb1⟩;rw[hb];have hx1:=eB hb1 (ai w (ZN t));have x1:=cK 1 hx1 rfl;have HB1:=ac (eA (eD w _) hb1)
     clear hb1 hx1))
   go_ret
   rw[HE.out];exact⟨_,rfl,fQ.nil _ _,HB1.out⟩
  .have b0:(t.a==0)=false:=by grind
   have HE:Hid (mL t= [t.a]):=by rw[Hid,mL,hb];grind
   clear h0
   go_enter Tryz.func147,Tryz.ntmps147
   go_wp2_with (
    (go_at_call 107
     refine(HT.out _).mono ?_;rintro e w1 ⟨rfl,hb1⟩;rw[hb];have hx1:=eB hb1 (ai w (ZN t));have x1:=cK 1 hx1 rfl;have HB1:=ac (eA (eD w _) hb1)
     clear hb1 hx1))
   go_ret
   rw[HE.out];refine⟨_,rfl,fQ.mono (base:=w1.heap.size) ?_ HB1.out.size,eA HB1.out (eD _ _)⟩;exact⟨⟨rfl,.inr ⟨w1.heap.size,1,#[.int .i64 t.a],rfl,aw _,ai _ _,aw _,by decide,rfl,rfl⟩⟩,λx hx=>by rw[bm] at hx;subst hx;trivial,by simp⟩
end
end Go.Proofs.YtchdkjenhppleaaGreat
