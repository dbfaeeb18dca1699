/-
 Instructions as they lie in memory. No program in sight. (As flat's XFB,XFI have it;for seats without mir.)
-/
import Derived.Test.YtbknbcmppdglhaaGreatDoorA0
import Derived.Test.YtbknbcmppdglhaaGreatDoorOwnR
import Derived.Test.YtbknbcmppdglhaaGreatDoorSortI
import Derived.Outline
import Derived.Deep.Light
namespace Go.Proofs.YtbknbcmppdglhaaGreatDoor
set_option linter.unusedSimpArgs false
set_option linter.unusedVariables false
set_option linter.unusedSectionVars false
set_option maxRecDepth 100000
set_option maxHeartbeats 40000000
section
open Go.RowKit
structure uP where
 op:Int
 dst:Int
 a:Int
 b:Int
 imm:Int
 callee:Int
 args:List Int
 many:Int
abbrev MW(i:uP)(aa:Option Addr)(na ca:Nat):Value:=.agg #[.int .i64 i.op,.int .i64 i.dst,.int .i64 i.a,.int .i64 i.b,.int .i64 i.imm,.int .i64 i.callee,.slice aa na ca,.int .i64 i.many]
structure lP where
 d:uP
 aa:Option Addr
 na:Nat
 ca:Nat
def MX(r:lP):List Value:= [.int .i64 r.d.op,.int .i64 r.d.dst,.int .i64 r.d.a,.int .i64 r.d.b,.int .i64 r.d.imm,.int .i64 r.d.callee,.slice r.aa r.na r.ca,.int .i64 r.d.many]
theorem VR(r:lP):(MX r).length=8:=rfl
def rD(w:World)(r:lP):Prop:=iJ w r.aa r.na r.d.args/\r.na<=r.ca/\I64 r.d.op/\I64 r.d.dst/\I64 r.d.a/\I64 r.d.b/\I64 r.d.imm/\I64 r.d.callee/\I64 r.d.many
theorem rD.ext{w w':World}{r:lP}(h:rD w r)(hb:Below w.heap.size w w'):rD w' r:=⟨h.1.ext hb,h.2⟩
def tC(w:World)(a:Option Addr)(n:Nat)(rs:List lP):Prop:=tI 8 MX w a n rs/\∀r∈rs,rD w r
theorem tC.ext{w w':World}{a:Option Addr}{n:Nat}{rs:List lP}(h:tC w a n rs)(hb:Below w.heap.size w w'):tC w' a n rs:=
 ⟨h.1.ext VR hb,λr hr=>(h.2 r hr).ext hb⟩
theorem tC.cells{w:World}{a:Option Addr}{n:Nat}{rs:List lP}(h:tC w a n rs){k:Nat}(hk:k<n):∃r b o,rs[k]? =some r/\rD w r/\a=some ⟨b,o,none⟩/\
  w.cell? ⟨b,o+k*8,none⟩=some (.int .i64 r.d.op)/\w.cell? ⟨b,o+k*8+1,none⟩=some (.int .i64 r.d.dst)/\w.cell? ⟨b,o+k*8+2,none⟩=some (.int .i64 r.d.a)/\w.cell? ⟨b,o+k*8+3,none⟩=some (.int .i64 r.d.b)/\
  w.cell? ⟨b,o+k*8+4,none⟩=some (.int .i64 r.d.imm)/\w.cell? ⟨b,o+k*8+5,none⟩=some (.int .i64 r.d.callee)/\w.cell? ⟨b,o+k*8+6,none⟩=some (.slice r.aa r.na r.ca)/\w.cell? ⟨b,o+k*8+7,none⟩=some (.int .i64 r.d.many):=by
 have hk':k<rs.length:=by rw[h.1.1];exact hk
 obtain⟨r,hr⟩:∃r,rs[k]? =some r:=⟨rs[k],ah hk'⟩
 obtain⟨b,o,e,hc⟩:=h.1.2.2 k r hr
 exact⟨r,b,o,hr,h.2 r (aK hr),e,hc 0 (by omega),hc 1 (by omega),hc 2 (by omega),hc 3 (by omega),hc 4 (by omega),hc 5 (by omega),hc 6 (by omega),hc 7 (by omega)⟩
abbrev NV(r:lP):Value:=MW r.d r.aa r.na r.ca
end

section
open Go.RowKit
def oD(o:Int):(Bool×Bool×Bool×Bool×Bool)×Bool:=
 if o=13 then ((false,false,false,false,true),true) else if o=1 then ((true,false,false,true,false),true) else if o=12 then ((false,true,true,true,false),true) else if o=11 then ((true,true,false,true,false),true) else if o=14 then ((true,true,false,false,false),true) else ((true,true,true,false,false),decide (2<=o/\o<=10))
def rV(x:(Bool×Bool×Bool×Bool×Bool)×Bool):Value:=.tuple #[.agg #[.bool x.1.1,.bool x.1.2.1,.bool x.1.2.2.1,.bool x.1.2.2.2.1,.bool x.1.2.2.2.2],.bool x.2]
theorem KX(o:Int)(w:World):Calls Tryz.prog 214 #[.int .i64 o] w λe w'=>e=.returned (rV (oD o))/\Below w.heap.size w w':=by
 by_cases h13:o=13
 .subst h13
  go_enter fA,eX
  go_wp2;exact aR (v:=rV (oD 13)) (by simp[results,eJ,go_sem,rV,oD]) rfl ⟨rfl,fD _ _⟩
 have b13:(o==13)=false:=by simpa using h13
 by_cases h1:o=1
 .subst h1
  go_enter fA,eX
  go_wp2;exact aR (v:=rV (oD 1)) (by simp[results,eJ,go_sem,rV,oD]) rfl ⟨rfl,fD _ _⟩
 have b1:(o==1)=false:=by simpa using h1
 by_cases h12:o=12
 .subst h12
  go_enter fA,eX
  go_wp2;exact aR (v:=rV (oD 12)) (by simp[results,eJ,go_sem,rV,oD]) rfl ⟨rfl,fD _ _⟩
 have b12:(o==12)=false:=by simpa using h12
 by_cases h11:o=11
 .subst h11
  go_enter fA,eX
  go_wp2;exact aR (v:=rV (oD 11)) (by simp[results,eJ,go_sem,rV,oD]) rfl ⟨rfl,fD _ _⟩
 have b11:(o==11)=false:=by simpa using h11
 by_cases h14:o=14
 .subst h14
  go_enter fA,eX
  go_wp2;exact aR (v:=rV (oD 14)) (by simp[results,eJ,go_sem,rV,oD]) rfl ⟨rfl,fD _ _⟩
 have b14:(o==14)=false:=by simpa using h14
 have HE:Hid (oD o=((true,true,true,false,false),decide (2<=o/\o<=10))):=by
  rw[Hid,oD,az h13,az h1,az h12,az h11,az h14]
 clear h13 h1 h12 h11 h14
 by_cases h2:2<=o
 .have d2:decide (2<=o)=true:=by simpa using h2
  have HF:Hid (decide (2<=o/\o<=10)=decide (o<=10)):=by rw[Hid,eR];omega
  go_enter fA,eX
  go_wp2;exact aR (v:=.tuple #[.agg #[.bool true,.bool true,.bool true,.bool false,.bool false],.bool (decide (o<=10))]) (by simp[results,eJ,go_sem]) rfl ⟨by rw[HE.out,HF.out];rfl,fD _ _⟩
 .have d2:decide (2<=o)=false:=by simpa using h2
  have HF:Hid (decide (2<=o/\o<=10)=false):=by rw[Hid,cg];omega
  go_enter fA,eX
  go_wp2;exact aR (v:=.tuple #[.agg #[.bool true,.bool true,.bool true,.bool false,.bool false],.bool false]) (by simp[results,eJ,go_sem]) rfl ⟨by rw[HE.out,HF.out];rfl,fD _ _⟩
theorem MN(F:Nat)(eF:∀args w,(callFunc F args).run Tryz.prog w=.ok (.enter F args) w)(p:Int->Bool)(hp:∀(x:Int) (W:World),Calls Tryz.prog F #[.int .i64 x] W λe W'=>e=.returned (.bool (p x))/\W=W')(a:Option Addr)(n c:Nat)(xs:List Int)(w:World)(h:iJ w a n xs):
  Calls Tryz.prog 234 #[.slice a n c,.func (.func F) #[] #[]] w λe w'=>e=.returned (.int .i64 (pF p xs))/\w=w':=by
 obtain⟨hl,hn,hc⟩:=h
 have HL:=ac hl
 have HC:=ac hc
 have HP:=ac hp
 clear hl hc hp
 go_enter Tryz.func234,Tryz.ntmps234
 go_wp2
 go_loop [5,8] (λ_ i=>∃(k:Nat),k<=n/\i=.int .i64 k/\Hid (∀j y,j<k->xs[j]? =some y->p y=false)) (λ_ i=>n-(intOf i).toNat)
 case atStart=>exact⟨0,by omega,rfl,λj y hj=>absurd hj (by omega)⟩
 case round=>
  obtain⟨k,hk,rfl,HR⟩:=hrel;by_cases hlt:k<n
  .obtain⟨b,o,rfl,hcell,hw1,hw2⟩:=HC.out k hlt;have hgk:xs[k]? =some (xs.getD k 0):=by
    have hk':k<xs.length:=by rw[HL.out];exact hlt
    simp[ak,hk']
   have HG:=ac hgk;clear hgk;generalize xs.getD k 0=y at *;by_cases hy:p y=true
   .have HE:Hid (pF p xs=k):=xO p xs k y HG.out hy HR.out;go_wp2;refine(HP.out y w).mono ?_;rintro e w' ⟨rfl,rfl⟩;rw[hy];go_wp2
    go_ret
    exact⟨by rw[HE.out];rfl,rfl⟩
   .have hy':p y=false:=by simpa using hy
    have HE:Hid (∀j z,j<k+1->xs[j]? =some z->p z=false):=λj z hj hz=>by
     by_cases e:j=k
     .subst e;rw[HG.out] at hz;injection hz with hz;subst hz;exact hy'
     .exact HR.out j z (by omega) hz
    go_wp2;refine(HP.out y w).mono ?_;rintro e w' ⟨rfl,rfl⟩;rw[hy'];go_wp2
    go_round
    case rel=>exact⟨k+1,by omega,by go_num,HE⟩
    case measure=>simp[intOf];omega
  .obtain rfl:k=n:=by omega
   have HE:Hid (pF p xs= -1):=AT p xs (λz hz=>by
    obtain⟨j,hj,e⟩:=bj.1 hz
    exact HR.out j z (by rw[HL.out] at hj;exact hj) (by rw[ah hj,e]))
   go_wp2
   go_ret
   exact⟨by rw[HE.out];rfl,rfl⟩
theorem rQ(F:Nat)(eF:∀args w,(callFunc F args).run Tryz.prog w=.ok (.enter F args) w)(p:Int->Bool)(hp:∀(x:Int) (W:World),Calls Tryz.prog F #[.int .i64 x] W λe W'=>e=.returned (.bool (p x))/\W=W')(a:Option Addr)(n c:Nat)(xs:List Int)(w:World)(h:iJ w a n xs):
  Calls Tryz.prog 216 #[.slice a n c,.func (.func F) #[] #[]] w λe w'=>e=.returned (.bool (xs.any p))/\w=w':=by
 have HA:=ac (DJ p xs)
 have hg:=CU p xs
 have HP:=ac hp
 have H:=ac h
 clear hp h
 go_enter Tryz.func216,Tryz.ntmps216
 go_wp2_with (go_at_call 234;refine(MN F eF p HP.out a n c xs w H.out).mono ?_;rintro e w' ⟨rfl,rfl⟩)
 go_ret
 exact⟨by rw[<-HA.out];rfl,rfl⟩
theorem gu(x:Int)(w:World):Calls Tryz.prog 250 #[.int .i64 x] w λe w'=>e=.returned (.bool (x != 0))/\w=w':=by
 go_enter Tryz.func250,Tryz.ntmps250
 go_wp2
 go_ret
 exact⟨rfl,rfl⟩
theorem OS(a:Option Addr)(n c:Nat)(xs:List Int)(w:World)(h:iJ w a n xs):
  Calls Tryz.prog 211 #[.slice a n c] w λe w'=>e=.returned (.bool (yB xs))/\w=w':=by
 have H:=ac h
 clear h
 go_enter Tryz.func211,Tryz.ntmps211
 go_wp2_with (go_at_call 216;refine(rQ _ LY (λx=>x != 0) gu a n c xs w H.out).mono ?_;rintro e w' ⟨rfl,rfl⟩)
 go_ret
 exact⟨rfl,rfl⟩
theorem VC(x:Int)(w:World):Calls Tryz.prog 215 #[.int .i64 x] w λe w'=>e=.returned (.bool (!qG x))/\w=w':=by
 go_enter Tryz.func215,Tryz.ntmps215
 go_wp2_with (go_at_call 132;refine(pL _ _).mono ?_;rintro e w' ⟨rfl,rfl⟩)
 go_ret
 exact⟨rfl,rfl⟩
theorem PM(args:Array Value)(w:World):(callFunc 215 args).run Tryz.prog w=.ok (.enter 215 args) w:=by kernel_rfl
def oQ(i:uP):Bool:=
 let s:=oD i.op
 if !s.2||i.many != 0 then false
 else if s.1.2.2.2.2 then yB [i.a,i.b,i.imm]&&decide (0<=i.callee/\i.callee<=99)&&sS (i.dst != 0) i.dst&&decide (i.args.length<=8)&& !i.args.any (λx=> !qG x)
 else if (!s.1.2.2.2.1&&i.imm != 0)||decide (i.imm< -1099511627776)||decide (i.imm>1099511627776) then false
 else i.callee==0&&i.args.length==0&&sS s.1.1 i.dst&&sS s.1.2.1 i.a&&sS s.1.2.2.1 i.b
theorem KT(X:World)(H:Nat)(hH:X.heap.size=H)(x y z:Int)(hx:I64 x)(hy:I64 y)(hz:I64 z)(t:TypeId):iJ (X.alloc (.cells #[.int .i64 x,.int .i64 y,.int .i64 z] t)) (some ⟨H,0,none⟩) 3 [x,y,z]:=by
 subst hH
 refine⟨rfl,by omega,λk hk=>?_⟩
 match k,hk with
 |0,_=>exact⟨X.heap.size,0,rfl,cR (ae X _) rfl,hx⟩
 |1,_=>exact⟨X.heap.size,0,rfl,cR (ae X _) rfl,hy⟩
 |2,_=>exact⟨X.heap.size,0,rfl,cR (ae X _) rfl,hz⟩
theorem NY(x:Int)(h1: -9223372036854775808<=x)(h2:x<=9223372036854775807):IntKind.u64.wrap x<=99↔(0<=x/\x<=99):=by
 have e:IntKind.u64.wrap x=x%18446744073709551616:=rfl
 rw[e]
 omega
theorem VN{i:uP}{x:(Bool×Bool×Bool×Bool×Bool)×Bool}(h:oD i.op=x):oQ i=(if !x.2||i.many != 0 then false
 else if x.1.2.2.2.2 then yB [i.a,i.b,i.imm]&&decide (0<=i.callee/\i.callee<=99)&&sS (i.dst != 0) i.dst&&decide (i.args.length<=8)&& !i.args.any (λx=> !qG x)
 else if (!x.1.2.2.2.1&&i.imm != 0)||decide (i.imm< -1099511627776)||decide (i.imm>1099511627776) then false
 else i.callee==0&&i.args.length==0&&sS x.1.1 i.dst&&sS x.1.2.1 i.a&&sS x.1.2.2.1 i.b):=by rw[oQ,h]
theorem iq(i:uP)(aa:Option Addr)(na ca:Nat)(w:World)(h:iJ w aa na i.args)(h1:I64 i.a)(h2:I64 i.b)(h3:I64 i.imm)(h4:I64 i.callee)(ho:oD i.op=((false,false,false,false,true),true)):
  Calls Tryz.prog 136 #[MW i aa na ca] w λe w'=>e=.returned (.bool (oQ i))/\Below w.heap.size w w':=by
 have HS:=ac ho
 have H:=ac h
 have HLA:=ac h.1
 have H1:=ac h1
 have H2:=ac h2
 have H3:=ac h3
 have hna:=h.2.1
 obtain⟨h4,h5⟩:=h4
 clear h h1 h2 h3 ho
 go_enter Tryz.func136,Tryz.ntmps136
 go_wp2_with (first
  |(go_at_call 214
    refine(KX _ _).mono ?_;rw[HS.out,rV];rintro e w1 ⟨rfl,hb1⟩;have hx:=hb1.block w.heap.size (by simp);rw[ae w _] at hx;obtain⟨-,c1,c2,c3,c4,c5,c6,c7⟩:=Cx hx rfl;have HB1:=ac (fC (fD w _) hb1);have hl1:w.heap.size<w1.heap.size:=by have:=hb1.size;simp at this;omega
    clear hx hb1)
  |(go_at_call 211
    refine(OS _ 3 3 [i.a,i.b,i.imm] _ (KT _ _ (by simp) _ _ _ H1.out H2.out H3.out _)).mono ?_
    rintro e w2 ⟨rfl,rfl⟩)
  |(go_at_call 212
    refine(DM _ _ _).mono ?_
    rintro e w2 ⟨rfl,rfl⟩)
  |(go_at_call 216
    refine(rQ _ PM (λx=> !qG x) VC aa na ca i.args _ (H.out.ext (fC HB1.out (fC (fD _ _) (fD _ _))))).mono ?_
    rintro e w2 ⟨rfl,rfl⟩))
 all_goals
  go_ret
  refine⟨yT ?_,?_⟩
  .go_light
   rw[VN HS.out,HLA.out];simp only[<-NY i.callee h4 h5];simp[*]
   try omega
  .first
   |exact fC HB1.out (fC (fD _ _) (fD _ _))
   |exact fC HB1.out (fD _ _)
   |exact HB1.out
theorem ip(i:uP)(aa:Option Addr)(na ca:Nat)(w:World)(h:iJ w aa na i.args)(h1:I64 i.a)(h2:I64 i.b)(h3:I64 i.imm)(h4:I64 i.callee)(d a b m is:Bool)(ho:oD i.op=((d,a,b,m,false),is)):
  Calls Tryz.prog 136 #[MW i aa na ca] w λe w'=>e=.returned (.bool (oQ i))/\Below w.heap.size w w':=by
 have HS:=ac ho
 have H:=ac h
 have HLA:=ac h.1
 have H1:=ac h1
 have H2:=ac h2
 have H3:=ac h3
 have hna:=h.2.1
 obtain⟨h4,h5⟩:=h4
 clear h h1 h2 h3 ho
 go_enter Tryz.func136,Tryz.ntmps136
 go_wp2_with (first
  |(go_at_call 214
    refine(KX _ _).mono ?_;rw[HS.out,rV];rintro e w1 ⟨rfl,hb1⟩;have hx:=hb1.block w.heap.size (by simp);rw[ae w _] at hx;obtain⟨-,c1,c2,c3,c4,c5,c6,c7⟩:=Cx hx rfl;have HB1:=ac (fC (fD w _) hb1);have hl1:w.heap.size<w1.heap.size:=by have:=hb1.size;simp at this;omega
    clear hx hb1)
  |(go_at_call 211
    refine(OS _ 3 3 [i.a,i.b,i.imm] _ (KT _ _ (by simp) _ _ _ H1.out H2.out H3.out _)).mono ?_
    rintro e w2 ⟨rfl,rfl⟩)
  |(go_at_call 212
    refine(DM _ _ _).mono ?_
    rintro e w2 ⟨rfl,rfl⟩)
  |(go_at_call 216
    refine(rQ _ PM (λx=> !qG x) VC aa na ca i.args _ (H.out.ext (fC HB1.out (fC (fD _ _) (fD _ _))))).mono ?_
    rintro e w2 ⟨rfl,rfl⟩))
 all_goals
  go_ret
  refine⟨yT ?_,?_⟩
  .go_light
   rw[VN HS.out,HLA.out];simp only[<-NY i.callee h4 h5];simp[*]
   try omega
  .first
   |exact fC HB1.out (fC (fD _ _) (fD _ _))
   |exact fC HB1.out (fD _ _)
   |exact HB1.out
theorem FC(i:uP)(aa:Option Addr)(na ca:Nat)(w:World)(h:iJ w aa na i.args)(h1:I64 i.a)(h2:I64 i.b)(h3:I64 i.imm)(h4:I64 i.callee):
  Calls Tryz.prog 136 #[MW i aa na ca] w λe w'=>e=.returned (.bool (oQ i))/\Below w.heap.size w w':=by
 match ho:oD i.op with
 |((d,a,b,m,false),is)=>exact ip i aa na ca w h h1 h2 h3 h4 d a b m is ho
 |((d,a,b,m,true),is)=>
  refine iq i aa na ca w h h1 h2 h3 h4 ?_;unfold oD at ho|-
  split
  .rfl
  .rename_i h0
   rw[az h0] at ho;exfalso
   revert ho
   repeat' split
   all_goals simp
def gM(i:uP):Int:=if oQ i then i.dst else 0
theorem sZ(i:uP)(aa:Option Addr)(na ca:Nat)(w:World)(h:iJ w aa na i.args)(h1:I64 i.a)(h2:I64 i.b)(h3:I64 i.imm)(h4:I64 i.callee):
  Calls Tryz.prog 74 #[MW i aa na ca] w λe w'=>e=.returned (.int .i64 (gM i))/\Below w.heap.size w w':=by
 have H:=ac h
 have H1:=ac h1
 have H2:=ac h2
 have H3:=ac h3
 have H4:=ac h4
 clear h h1 h2 h3 h4
 go_enter Tryz.func74,Tryz.ntmps74
 go_wp2_with (first
  |(go_at_call 136
    refine(FC i aa na ca _ (H.out.ext (fD _ _)) H1.out H2.out H3.out H4.out).mono ?_;rintro e w1 ⟨rfl,hb1⟩;have hx:=hb1.block w.heap.size (by simp);rw[ae w _] at hx;have c1:=cK 1 hx rfl;have HB1:=ac (fC (fD w _) hb1)
    clear hx hb1))
 all_goals
  go_ret
  exact⟨zo (by go_light;cases hq:oQ i<;>simp_all[gM]),HB1.out⟩
end
end Go.Proofs.YtbknbcmppdglhaaGreatDoor
