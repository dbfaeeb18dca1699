/-
 Flat:MachineOf,check.alike,ir.variable,ir.fits.
-/
import Derived.Test.YtchdkjenhppleaaGreatA0
import Derived.Test.YtchdkjenhppleaaGreatFC
namespace Go.Proofs.YtchdkjenhppleaaGreat
set_option linter.unusedSimpArgs false
set_option linter.unusedVariables false
set_option linter.unusedSectionVars false
set_option maxRecDepth 100000
set_option maxHeartbeats 40000000
section
open Go.RowKit
theorem vT(m:eY)(a1 a2:Option Addr)(n1 c1 n2 c2:Nat)(w:World)(h1:n1<=17592186044416)(h2:n2<=17592186044416):
  Calls Tryz.prog 5 #[nG m a1 n1 c1 a2 n2 c2] w λe w'=>e=.returned (.int .i64 ((n1:Int)+(n2:Int)))/\Below w.heap.size w w':=by
 go_enter Tryz.func5,Tryz.ntmps5
 go_wp2
 go_ret
 exact⟨rfl,eC _ _⟩
def DA(n:Int):Bool:=decide (1<=n/\n<=200)
theorem yO(n:Int)(w:World):Calls Tryz.prog 106 #[.int .i64 n] w λe w'=>e=.returned (.bool (DA n))/\w=w':=by
 by_cases h1:1<=n
 .have d1:decide (1<=n)=true:=by simpa using h1
  have HE:Hid (DA n=decide (n<=200)):=by rw[Hid,DA,di];omega
  go_enter Tryz.func106,Tryz.ntmps106
  go_wp2
  go_ret
  exact⟨by rw[HE.out];rfl,rfl⟩
 .have d1:decide (1<=n)=false:=by simpa using h1
  have HE:Hid (DA n=false):=by rw[Hid,DA,bA];omega
  go_enter Tryz.func106,Tryz.ntmps106
  go_wp2
  go_ret
  exact⟨by rw[HE.out];rfl,rfl⟩
def rT(b:Bool)(n:Int):Bool:=if b then DA n else decide (n=0)
theorem OF(b:Bool)(n:Int)(w:World):Calls Tryz.prog 135 #[.bool b,.int .i64 n] w λe w'=>e=.returned (.bool (rT b n))/\w=w':=by
 cases b with
 |true=>
  go_enter Tryz.func135,Tryz.ntmps135
  go_wp2_with (go_at_call 106;refine(yO _ _).mono ?_;rintro e w' ⟨rfl,rfl⟩)
  go_ret
  exact⟨rfl,rfl⟩
 |false=>
  have HE:Hid (rT false n=(n==0)):=by
   rw[Hid,rT,aC (by simp)];by_cases h:n=0<;>simp[h]
  go_enter Tryz.func135,Tryz.ntmps135
  go_wp2
  go_ret
  exact⟨by rw[HE.out];rfl,rfl⟩
end

section
open Go.RowKit
def nT(s t:mI):Bool:=decide (s.op=t.op/\s.imm=t.imm/\s.callee=t.callee/\(s.args.length:Int)=t.many)
theorem JY(s t:mI)(aa ba:Option Addr)(na ca nb cb:Nat)(w:World)(hs:s.args.length=na)(hn:na<=17592186044416):
  Calls Tryz.prog 29 #[wC s aa na ca,wC t ba nb cb] w λe w'=>e=.returned (.bool (nT s t))/\Below w.heap.size w w':=by
 have HB:=ac (eA (eC w (kY s aa na ca)) (eC _ (kY t ba nb cb)))
 by_cases h1:s.op=t.op
 .have b1:(s.op==t.op)=true:=by simpa using h1
  by_cases h2:s.imm=t.imm
  .have b2:(s.imm==t.imm)=true:=by simpa using h2
   by_cases h3:s.callee=t.callee
   .have b3:(s.callee==t.callee)=true:=by simpa using h3
    have HE:Hid (nT s t=((na:Int)==t.many)):=by
     rw[Hid,nT,hs];by_cases h:(na:Int)=t.many<;>simp[h1,h2,h3,h]
    clear h1 h2 h3
    go_enter Tryz.func29,Tryz.ntmps29
    go_wp2
    go_ret
    exact⟨by rw[HE.out];rfl,HB.out⟩
   .have b3:(s.callee==t.callee)=false:=by simpa using h3
    have HE:Hid (nT s t=false):=by rw[Hid,nT];simp[h3]
    clear h1 h2 h3
    go_enter Tryz.func29,Tryz.ntmps29
    go_wp2
    go_ret
    exact⟨by rw[HE.out];rfl,HB.out⟩
  .have b2:(s.imm==t.imm)=false:=by simpa using h2
   have HE:Hid (nT s t=false):=by rw[Hid,nT];simp[h2]
   clear h1 h2
   go_enter Tryz.func29,Tryz.ntmps29
   go_wp2
   go_ret
   exact⟨by rw[HE.out];rfl,HB.out⟩
 .have b1:(s.op==t.op)=false:=by simpa using h1
  have HE:Hid (nT s t=false):=by rw[Hid,nT];simp[h1]
  clear h1
  go_enter Tryz.func29,Tryz.ntmps29
  go_wp2
  go_ret
  exact⟨by rw[HE.out];rfl,HB.out⟩
def iH(o:Int):(Bool×Bool×Bool×Bool×Bool)×Bool:=
 if o=13 then ((false,false,false,false,true),true) else if o=1 then ((true,false,false,true,false),true) else if o=12 then ((false,true,true,true,false),true) else if o=11 then ((true,true,false,true,false),true) else if o=14 then ((true,true,false,false,false),true) else ((true,true,true,false,false),decide (2<=o/\o<=10))
def oJ(x:(Bool×Bool×Bool×Bool×Bool)×Bool):Value:=.tuple #[.agg #[.bool x.1.1,.bool x.1.2.1,.bool x.1.2.2.1,.bool x.1.2.2.2.1,.bool x.1.2.2.2.2],.bool x.2]
theorem EO(o:Int)(w:World):Calls Tryz.prog 132 #[.int .i64 o] w λe w'=>e=.returned (oJ (iH o))/\Below w.heap.size w w':=by
 by_cases h13:o=13
 .subst h13
  go_enter cF,co
  go_wp2;exact aD (v:=oJ (iH 13)) (by simp[results,b7,go_sem,oJ,iH]) rfl ⟨rfl,eC _ _⟩
 have b13:(o==13)=false:=by simpa using h13
 by_cases h1:o=1
 .subst h1
  go_enter cF,co
  go_wp2;exact aD (v:=oJ (iH 1)) (by simp[results,b7,go_sem,oJ,iH]) rfl ⟨rfl,eC _ _⟩
 have b1:(o==1)=false:=by simpa using h1
 by_cases h12:o=12
 .subst h12
  go_enter cF,co
  go_wp2;exact aD (v:=oJ (iH 12)) (by simp[results,b7,go_sem,oJ,iH]) rfl ⟨rfl,eC _ _⟩
 have b12:(o==12)=false:=by simpa using h12
 by_cases h11:o=11
 .subst h11
  go_enter cF,co
  go_wp2;exact aD (v:=oJ (iH 11)) (by simp[results,b7,go_sem,oJ,iH]) rfl ⟨rfl,eC _ _⟩
 have b11:(o==11)=false:=by simpa using h11
 by_cases h14:o=14
 .subst h14
  go_enter cF,co
  go_wp2;exact aD (v:=oJ (iH 14)) (by simp[results,b7,go_sem,oJ,iH]) rfl ⟨rfl,eC _ _⟩
 have b14:(o==14)=false:=by simpa using h14
 have HE:Hid (iH o=((true,true,true,false,false),decide (2<=o/\o<=10))):=by
  rw[Hid,iH,aC h13,aC h1,aC h12,aC h11,aC h14]
 clear h13 h1 h12 h11 h14
 by_cases h2:2<=o
 .have d2:decide (2<=o)=true:=by simpa using h2
  have HF:Hid (decide (2<=o/\o<=10)=decide (o<=10)):=by rw[Hid,di];omega
  go_enter cF,co
  go_wp2;exact aD (v:=.tuple #[.agg #[.bool true,.bool true,.bool true,.bool false,.bool false],.bool (decide (o<=10))]) (by simp[results,b7,go_sem]) rfl ⟨by rw[HE.out,HF.out];rfl,eC _ _⟩
 .have d2:decide (2<=o)=false:=by simpa using h2
  have HF:Hid (decide (2<=o/\o<=10)=false):=by rw[Hid,bA];omega
  go_enter cF,co
  go_wp2;exact aD (v:=.tuple #[.agg #[.bool true,.bool true,.bool true,.bool false,.bool false],.bool false]) (by simp[results,b7,go_sem]) rfl ⟨by rw[HE.out,HF.out];rfl,eC _ _⟩
end

section
open Go.RowKit
def nQ{α:Type}(p:α->Bool):List α->Int
 | []=>-1
 |y :: l=>if p y then 0 else if nQ p l<0 then -1 else nQ p l+1
theorem KZ{α:Type}(p:α->Bool)(l:List α): -1<=nQ p l/\nQ p l<l.length:=by
 induction l with
 |nil=>simp[nQ]
 |cons y l ih=>
  simp only[nQ,aN]
  split
  .omega
  .split<;>omega
theorem FC{α:Type}(p:α->Bool)(l:List α)(k:Nat)(x:α)(hx:l[k]? =some x)(hp:p x=true)(hno:∀j y,j<k->l[j]? =some y->p y=false):nQ p l=k:=by
 induction l generalizing k with
 |nil=>simp at hx
 |cons y l ih=>
  cases k with
  |zero=>simp at hx;subst hx;simp[nQ,hp]
  |succ k=>
   have h0:=hno 0 y (by omega) rfl;have:=ih k (by simpa using hx) (λj z hj hz=>hno (j+1) z (by omega) (by simpa using hz));simp only[nQ,h0,this];simp;omega
theorem JK{α:Type}(p:α->Bool)(l:List α)(hno:∀y∈l,p y=false):nQ p l= -1:=by
 induction l with
 |nil=>rfl
 |cons y l ih=>simp[nQ,hno y (by simp),ih (λz hz=>hno z (by simp[hz]))]
theorem jc{α:Type}(p:α->Bool)(l:List α):0<=nQ p l↔l.any p=true:=by
 induction l with
 |nil=>simp[nQ]
 |cons y l ih=>
  have hg:=KZ p l;have e:nQ p (y :: l)=(if p y then 0 else if nQ p l<0 then -1 else nQ p l+1):=rfl;rw[e,List.any_cons,bZ,<-ih];by_cases hp:p y=true
  .simp[hp]
  .rw[aC hp]
   split
   .constructor
    .intro h;omega
    .rintro(h|h)
     .exact absurd h hp
     .omega
   .constructor
    .intro h;exact .inr (by omega)
    .intro h;omega
theorem OA{α:Type}(p:α->Bool)(l:List α):decide (0<=nQ p l)=l.any p:=by
 rw[cp,aR]
 exact jc p l
theorem GP(F:Nat)(eF:∀args w,(callFunc F args).run Tryz.prog w=.ok (.enter F args) w)(p:Int->Bool)(hp:∀(x:Int) (W:World),Calls Tryz.prog F #[.int .i64 x] W λe W'=>e=.returned (.bool (p x))/\W=W')(a:Option Addr)(n c:Nat)(xs:List Int)(w:World)(h:fR w a n xs):
  Calls Tryz.prog 150 #[.slice a n c,.func (.func F) #[] #[]] w λe w'=>e=.returned (.int .i64 (nQ p xs))/\w=w':=by
 obtain⟨hl,hn,hc⟩:=h
 have HL:=ac hl
 have HC:=ac hc
 have HP:=ac hp
 clear hl hc hp
 go_enter Tryz.func150,Tryz.ntmps150
 go_wp2
 go_loop [5,8] (λ_ i=>∃(k:Nat),k<=n/\i=.int .i64 k/\Hid (∀j y,j<k->xs[j]? =some y->p y=false)) (λ_ i=>n-(intOf i).toNat)
 case atStart=>exact⟨0,by omega,rfl,λj y hj=>absurd hj (by omega)⟩
 case round=>
  obtain⟨k,hk,rfl,HR⟩:=hrel;by_cases hlt:k<n
  .obtain⟨b,o,rfl,hcell,hw1,hw2⟩:=HC.out k hlt;have hgk:xs[k]? =some (xs.getD k 0):=by
    have hk':k<xs.length:=by rw[HL.out];exact hlt
    simp[ax,hk']
   have HG:=ac hgk;clear hgk;generalize xs.getD k 0=y at *;by_cases hy:p y=true
   .have HE:Hid (nQ p xs=k):=FC p xs k y HG.out hy HR.out;go_wp2;refine(HP.out y w).mono ?_;rintro e w' ⟨rfl,rfl⟩;rw[hy];go_wp2
    go_ret
    exact⟨by rw[HE.out];rfl,rfl⟩
   .have hy':p y=false:=by simpa using hy
    have HE:Hid (∀j z,j<k+1->xs[j]? =some z->p z=false):=λj z hj hz=>by
     by_cases e:j=k
     .subst e;rw[HG.out] at hz;injection hz with hz;subst hz;exact hy'
     .exact HR.out j z (by omega) hz
    go_wp2;refine(HP.out y w).mono ?_;rintro e w' ⟨rfl,rfl⟩;rw[hy'];go_wp2
    go_round
    case rel=>exact⟨k+1,by omega,by go_num,HE⟩
    case measure=>simp[intOf];omega
  .obtain rfl:k=n:=by omega
   have HE:Hid (nQ p xs= -1):=JK p xs (λz hz=>by
    obtain⟨j,hj,e⟩:=a8.1 hz
    exact HR.out j z (by rw[HL.out] at hj;exact hj) (by rw[au hj,e]))
   go_wp2
   go_ret
   exact⟨by rw[HE.out];rfl,rfl⟩
theorem oQ(F:Nat)(eF:∀args w,(callFunc F args).run Tryz.prog w=.ok (.enter F args) w)(p:Int->Bool)(hp:∀(x:Int) (W:World),Calls Tryz.prog F #[.int .i64 x] W λe W'=>e=.returned (.bool (p x))/\W=W')(a:Option Addr)(n c:Nat)(xs:List Int)(w:World)(h:fR w a n xs):
  Calls Tryz.prog 119 #[.slice a n c,.func (.func F) #[] #[]] w λe w'=>e=.returned (.bool (xs.any p))/\w=w':=by
 have HA:=ac (OA p xs)
 have hg:=KZ p xs
 have HP:=ac hp
 have H:=ac h
 clear hp h
 go_enter Tryz.func119,Tryz.ntmps119
 go_wp2_with (go_at_call 150;refine(GP F eF p HP.out a n c xs w H.out).mono ?_;rintro e w' ⟨rfl,rfl⟩)
 go_ret
 exact⟨by rw[<-HA.out];rfl,rfl⟩
end
end Go.Proofs.YtchdkjenhppleaaGreat
