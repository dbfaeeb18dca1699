/-
 Slices of records of some cells that read as lists. No program in sight.
-/
import Derived.Test.YtchdkjenhppleaaGreatA0
import Derived.Test.YtchdkjenhppleaaGreatTQ
import Derived.Laws.OwnMore
import Derived.Test.YtchdkjenhppleaaGreatFA
namespace Go.Proofs.YtchdkjenhppleaaGreat
set_option linter.unusedSimpArgs false
set_option linter.unusedVariables false
set_option linter.unusedSectionVars false
set_option maxRecDepth 100000
set_option maxHeartbeats 40000000
section
open Go.RowKit
theorem kD{α:Type}(cs:α->List Value)(size:Nat)(hs:∀x,(cs x).length=size)(l:List α)(k j:Nat)(hj:j<size)(x:α)(hx:l[k]? =some x):(l.flatMap cs)[k*size+j]? =(cs x)[j]?:=by
 induction l generalizing k with
 |nil=>grind
 |cons y l ih=>
  cases k with
  |zero=>
   grind
  |succ k=>
   grind
theorem gU{α:Type}(cs:α->List Value)(size:Nat)(hs:∀x,(cs x).length=size)(l:List α):(l.flatMap cs).length=l.length*size:=by
 induction l with
 |nil=>simp
 |cons y l ih=>grind
theorem DF{α:Type}(l:List α)(k:Nat)(d:α)(h:k<l.length):l.take (k+1)=l.take k++ [l.getD k d]:=by
 simp_all
def mO{α:Type}(size:Nat)(cs:α->List Value)(w:World)(a:Option Addr)(n:Nat)(ls:List α):Prop:=
 ls.length=n/\n<=17592186044416/\∀k x,ls[k]? =some x->∃b o,a=some ⟨b,o,none⟩/\∀j,j<size->w.cell? ⟨b,o+k*size+j,none⟩=(cs x)[j]?
section
variable {α:Type} {size:Nat} {cs:α->List Value} {w w':World} {a:Option Addr} {n:Nat} {ls:List α}
theorem mO.ext(h:mO size cs w a n ls)(hs:∀x,(cs x).length=size)(hb:Below w.heap.size w w'):mO size cs w' a n ls:=
 ⟨h.1,h.2.1,λk x hx=>by
  obtain⟨b,o,e,hc⟩:=h.2.2 k x hx
  grind[eN]⟩
theorem mO.drewN(h:mO size cs w a n ls)(q:Nat):mO size cs (w.drewN q) a n ls:=h
theorem mO.nil(size:Nat)(cs:α->List Value)(w:World):mO size cs w none 0 []:=⟨rfl,by omega,λk x hx=>by grind⟩
theorem mO.at_(h:mO size cs w a n ls){k:Nat}(hk:k<n)(d:α):∃b o,a=some ⟨b,o,none⟩/\∀j,j<size->w.cell? ⟨b,o+k*size+j,none⟩=(cs (ls.getD k d))[j]?:=by
 have hk':k<ls.length:=by rw[h.1];omega
 obtain⟨b,o,e,hc⟩:=h.2.2 k (ls.getD k d) (by grind)
 grind
theorem pG{base:Nat}{e:TypeId}{v:Value}(hs:∀x,(cs x).length=size)(h:w.ownsRow base e size v ls.length (ls.flatMap cs))(hl:ls.length<=17592186044416):∃a c,v=.slice a ls.length c/\mO size cs w a ls.length ls/\∀g o s,a=some ⟨g,o,s⟩->base<=g:=by
 rcases h.2 with ⟨rfl,h0⟩|⟨g,cap,cur,rfl,hb,_⟩
 .have:ls= []:=bB h0;subst this;exact⟨none,0,rfl,⟨rfl,hl,λk x hx=>by grind⟩,λg o s e=>by cases e⟩
 .refine⟨some ⟨g,0,none⟩,cap,rfl,⟨rfl,hl,λk x hx=>⟨g,0,rfl,λj hj=>?_⟩⟩,λg' o s e=>?_⟩
  .have hk:=(aI.1 hx).1;have hlt:k*size+j<ls.length*size:=by
    have:(k+1)*size<=ls.length*size:=dI _ hk
    grind
   rw[aW,dJ h (k*size+j) hlt,kD cs size hs ls k j hj x hx]
  grind
theorem gp(X:World)(H:Nat)(hH:X.heap.size=H)(t:TypeId)(hs:∀x,(cs x).length=size)(hl:ls.length<=17592186044416):mO size cs (X.alloc (.cells (ls.flatMap cs).toArray t)) (some ⟨H,0,none⟩) ls.length ls:=by
 subst hH
 refine⟨rfl,hl,λk x hx=>⟨X.heap.size,0,rfl,λj hj=>?_⟩⟩
 simp_all[kD]
end
end

section
open Go.RowKit
def eG(p x:Int):Bool:=bits BinOp.and IntKind.u8 p x != 0
theorem mR(p x:Int)(w:World):Calls Tryz.prog 96 #[.int .u8 p,.int .u8 x] w λe w'=>e=.returned (.bool (eG p x))/\w=w':=by
 go_enter Tryz.func96,Tryz.ntmps96
 go_wp2
 go_ret
 exact⟨rfl,rfl⟩
def GE(p:Bool×Int):List Value:= [.bool p.1,.int .i64 p.2]
theorem yC(p:Bool×Int):(GE p).length=2:=rfl
abbrev MQ:=mO 2 GE
theorem DY:(Tryz.prog.info? 42).map (λi=>(i.zero,i.size,i.bytes))=some (some (.agg #[.bool false,.int .i64 0]),2,16):=by kernel_rfl
def kV(w:World)(ls:List (Bool×Int))(e:Ending)(w':World):Prop:=∃a c,e=.returned (.slice a ls.length c)/\MQ w' a ls.length ls/\Below w.heap.size w w'
theorem nE(a:Option Addr)(n c:Nat)(xs:List Int)(w:World)(h:fR w a n xs)(hn:n<=1000000):
  Calls Tryz.prog 97 #[.slice a n c] w (kV w (xs.map λx=>(false,x))):=by
 have HL:=ac h.1
 have H:=ac h
 clear h
 go_enter Tryz.func97,Tryz.ntmps97
 go_wp2
 go_loopw [2,4,7] (λv x i wr=>∃(k:Nat),k<=n/\i=.int .i64 k/\Hid (wr.ownsRow w.heap.size 42 2 v k (((xs.take k).map λx=>(false,x)).flatMap GE))/\Hid (Below w.heap.size w wr)) (λ_ _ i _=>n-(intOf i).toNat)
 case atStart=>exact⟨0,by omega,rfl,cC _ _ _ _,ao _ _⟩
 case round=>
  obtain⟨k,hk,rfl,HO,HB⟩:=hrel;by_cases hlt:k<n
  .obtain⟨b,o,rfl,hc,_⟩:=(H.out.ext HB.out).2.2 k hlt;have HS:Hid (((xs.take (k+1)).map λx=>(false,x)).flatMap GE=((xs.take k).map λx=>(false,x)).flatMap GE++ [.bool false,.int .i64 (xs.getD k 0)]):=by
    have hk':k<xs.length:=by rw[HL.out];exact hlt
    rw[Hid,DF xs k 0 hk',bN,cB];rfl
   generalize xs.getD k 0=x at*
   go_wp2_with (first
    |(at_builtin
      refine fN rfl wr (.tmp 11) (.tmp 14) 128 42 rfl w.heap.size _ 2 16 Tryz.underlying128 DY rfl (by omega) u2 k _ [.bool false,.int .i64 x] rfl HO.out wr.heap.size rfl rfl rfl (by simp[Value.oneCell']) (by simp only[maxLen];omega) (by omega) HB.out.size ?_;intro g cap w2 hown2 hg2 hat2;have HO2:Hid (w2.ownsRow w.heap.size 42 2 (.slice (some ⟨g,0,none⟩) (k+1) cap) (k+1) (((xs.take (k+1)).map λx=>(false,x)).flatMap GE)):=by rw[Hid,HS.out];exact hown2
      have HB2:Hid (Below w.heap.size w w2):=HB.out.grown hg2 HB.out.size (λj e=>(HO.out.lt j e).1)
      clear hown2 hg2 hat2))
   go_roundw
   case rel=>exact⟨k+1,by omega,by go_num,HO2,HB2⟩
   case measure=>simp[intOf];omega
  .obtain rfl:k=n:=by omega
   go_wp2
   go_ret
   have ho:=HO.out;rw[bF (by rw[HL.out];omega)] at ho;have hlen:(xs.map λx=>(false,x)).length=k:=by rw[bR,HL.out]
   rw[<-hlen] at ho;obtain⟨a2,c2,e2,hr,_⟩:=pG yC ho (by rw[hlen];omega);exact⟨a2,c2,aL _ e2,hr,HB.out⟩
structure mI where
 op:Int
 dst:Int
 a:Int
 b:Int
 imm:Int
 callee:Int
 args:List Int
 many:Int
structure eY where
 regs:Int
 args:List Int
 ret:Int
 saved:List Int
def fU(m:eY)(i:mI):List (Bool×Int):=
 if hZ i.op=32 then [(false,m.ret)] else if eG (hZ i.op) 1 then [(false,i.dst)] else if eG (hZ i.op) 16 then [(true,i.imm)] else []
def gN(m:eY)(i:mI):List (Bool×Int):=
 if hZ i.op=32 then (m.args.take (max (min i.many m.args.length) 0).toNat).map (λx=>(false,x)) else if eG (hZ i.op) 4 then [(false,i.a),(false,i.b)] else if eG (hZ i.op) 2 then [(false,i.a)] else if eG (hZ i.op) 16 then [(true,i.imm)] else []
theorem OC(o:Int):hZ o=0\/hZ o=3\/hZ o=7\/hZ o=9\/hZ o=11\/hZ o=14\/hZ o=17\/hZ o=18\/hZ o=32:=by
 unfold hZ
 repeat (first|(split;omega)|omega)
abbrev wC(i:mI)(aa:Option Addr)(na ca:Nat):Value:=.agg #[.int .i64 i.op,.int .i64 i.dst,.int .i64 i.a,.int .i64 i.b,.int .i64 i.imm,.int .i64 i.callee,.slice aa na ca,.int .i64 i.many]
abbrev nG(m:eY)(a1:Option Addr)(n1 c1:Nat)(a2:Option Addr)(n2 c2:Nat):Value:=.agg #[.int .i64 m.regs,.slice a1 n1 c1,.int .i64 m.ret,.slice a2 n2 c2]
theorem sA(X:World)(H:Nat)(hH:X.heap.size=H)(x:Int)(hx:I64 x)(t:TypeId):fR (X.alloc (.cells #[.int .i64 x] t)) (some ⟨H,0,none⟩) 1 [x]:=by
 subst hH
 refine⟨rfl,by omega,λk hk=>?_⟩
 obtain rfl:k=0:=by omega
 exact⟨X.heap.size,0,rfl,cR (ai X _) rfl,hx⟩
theorem NA(X:World)(H:Nat)(hH:X.heap.size=H)(x y:Int)(hx:I64 x)(hy:I64 y)(t:TypeId):fR (X.alloc (.cells #[.int .i64 x,.int .i64 y] t)) (some ⟨H,0,none⟩) 2 [x,y]:=by
 subst hH
 refine⟨rfl,by omega,λk hk=>?_⟩
 match k,hk with
 |0,_=>exact⟨X.heap.size,0,rfl,cR (ai X _) rfl,hx⟩
 |1,_=>exact⟨X.heap.size,0,rfl,cR (ai X _) rfl,hy⟩
theorem CT(X:World)(H:Nat)(hH:X.heap.size=H)(b:Bool)(x:Int)(t:TypeId):MQ (X.alloc (.cells #[.bool b,.int .i64 x] t)) (some ⟨H,0,none⟩) 1 [(b,x)]:=
 gp (ls:= [(b,x)]) X H hH t yC (by simp)
theorem GG(w:World)(o1 o2:Obj)(W:World)(h:Below ((w.alloc o1).alloc o2).heap.size ((w.alloc o1).alloc o2) W):W.heap[w.heap.size]? =some o1/\W.heap[w.heap.size+1]? =some o2/\Below w.heap.size w W:=by
 refine⟨?_,?_,eA (eA (eC w o1) (eC _ o2)) h⟩
 .rw[h.block _ (by simp;omega),aJ _ _ _ (by simp)];exact ai w o1
 .rw[h.block _ (by simp)];have:=ai (w.alloc o1) o2;simpa using this
abbrev iK(m:eY)(a1:Option Addr)(n1 c1:Nat)(a2:Option Addr)(n2 c2:Nat):Obj:=.cells #[.int .i64 m.regs,.slice a1 n1 c1,.int .i64 m.ret,.slice a2 n2 c2] 24
abbrev kY(i:mI)(aa:Option Addr)(na ca:Nat):Obj:=.cells #[.int .i64 i.op,.int .i64 i.dst,.int .i64 i.a,.int .i64 i.b,.int .i64 i.imm,.int .i64 i.callee,.slice aa na ca,.int .i64 i.many] 62
theorem qI{W:World}{M I:Nat}{m:eY}{i:mI}{a1 a2 aa:Option Addr}{n1 c1 n2 c2 na ca:Nat}(h1:W.heap[M]? =some (iK m a1 n1 c1 a2 n2 c2))(h2:W.heap[I]? =some (kY i aa na ca)):
  W.cell? ⟨M,1,none⟩=some (.slice a1 n1 c1)/\W.cell? ⟨M,2,none⟩=some (.int .i64 m.ret)/\W.cell? ⟨I,1,none⟩=some (.int .i64 i.dst)/\W.cell? ⟨I,2,none⟩=some (.int .i64 i.a)/\W.cell? ⟨I,3,none⟩=some (.int .i64 i.b)/\W.cell? ⟨I,4,none⟩=some (.int .i64 i.imm)/\W.cell? ⟨I,7,none⟩=some (.int .i64 i.many):=by
 refine⟨?_,?_,?_,?_,?_,?_,?_⟩
 all_goals (first|(rw[bd _ _ _ _ _ _ h1];rfl)|(rw[bd _ _ _ _ _ _ h2];rfl))
theorem RP(m:eY)(i:mI)(a1 a2 aa:Option Addr)(n1 c1 n2 c2 na ca:Nat)(w:World)(h1:I64 m.ret)(h2:I64 i.dst):
  Calls Tryz.prog 59 #[nG m a1 n1 c1 a2 n2 c2,wC i aa na ca] w (kV w (fU m i)):=by
 have H1:=ac h1
 have H2:=ac h2
 clear h1 h2
 rcases OC i.op with hv|hv|hv|hv|hv|hv|hv|hv|hv
 all_goals
  have HV:=ac hv;clear hv
  go_enter Tryz.func59,Tryz.ntmps59
  go_wp2_with (first
   |(go_at_call 95
     refine(qZ _ _).mono ?_;rintro e w1 ⟨rfl,hb1⟩;obtain⟨x1,x2,x3⟩:=GG w (iK m a1 n1 c1 a2 n2 c2) (kY i aa na ca) w1 hb1;obtain⟨-,y1,y2,-,-,y3,-⟩:=qI x1 x2;have HB1:=ac x3;clear x1 x2 x3 hb1
     rw[HV.out])
   |(go_at_call 96
     refine(mR _ _ _).mono ?_;rintro e w' ⟨rfl,rfl⟩
     simp only[show eG 0 32=false from rfl,show eG 3 32=false from rfl,show eG 7 32=false from rfl,show eG 9 32=false from rfl,show eG 11 32=false from rfl,show eG 14 32=false from rfl,show eG 17 32=false from rfl,show eG 18 32=false from rfl,show eG 32 32=true from rfl,show eG 0 1=false from rfl,show eG 3 1=true from rfl,show eG 7 1=true from rfl,show eG 9 1=true from rfl,show eG 11 1=true from rfl,show eG 14 1=false from rfl,show eG 17 1=true from rfl,show eG 18 1=false from rfl,show eG 0 16=false from rfl,show eG 14 16=false from rfl,show eG 18 16=true from rfl])
   |(go_at_call 97
     (first
       |refine(nE (some ⟨w1.heap.size,0,none⟩) 1 1 [m.ret] _ (sA w1 w1.heap.size rfl m.ret H1.out _) (by omega)).mono ?_
       |refine(nE (some ⟨w1.heap.size,0,none⟩) 1 1 [i.dst] _ (sA w1 w1.heap.size rfl i.dst H2.out _) (by omega)).mono ?_)
     rintro e w2 ⟨a3,c3,rfl,hl3,hb3⟩;have HL3:=ac hl3;have HB3:=ac (eA (eA HB1.out (eC w1 _)) hb3)
     clear hl3 hb3))
  go_ret
  first
   |(have hw:fU m i= [(false,m.ret)]:=(by unfold fU;rw[HV.out];rfl)
     rw[kV,hw]
     exact⟨a3,c3,rfl,HL3.out,HB3.out⟩)
   |(have hw:fU m i= [(false,i.dst)]:=(by unfold fU;rw[HV.out];rfl)
     rw[kV,hw]
     exact⟨a3,c3,rfl,HL3.out,HB3.out⟩)
   |(have hw:fU m i= [(true,i.imm)]:=(by unfold fU;rw[HV.out];rfl)
     rw[kV,hw]
     exact⟨_,_,rfl,CT _ _ rfl _ _ _,eA HB1.out (eC _ _)⟩)
   |(have hw:fU m i= []:=(by unfold fU;rw[HV.out];rfl)
     rw[kV,hw]
     exact⟨none,0,rfl,mO.nil _ _ _,HB1.out⟩)
theorem SB(m:eY)(i:mI)(a1 a2 aa:Option Addr)(n1 c1 n2 c2 na ca:Nat)(w:World)(h:fR w a1 n1 m.args)(hn:n1<=1000000)(hc:n1<=c1)(h1:I64 i.a)(h2:I64 i.b)(h3:I64 i.many)(h32:¬hZ i.op=32):
  Calls Tryz.prog 58 #[nG m a1 n1 c1 a2 n2 c2,wC i aa na ca] w (kV w (gN m i)):=by
 have H1:=ac h1
 have H2:=ac h2
 have H:=ac h
 have HLA:=ac h.1
 obtain⟨h3,h4⟩:=h3
 clear h1 h2 h
 have hx:hZ i.op=0\/hZ i.op=3\/hZ i.op=7\/hZ i.op=9\/hZ i.op=11\/hZ i.op=14\/hZ i.op=17\/hZ i.op=18:=by
  have:=OC i.op;omega
 clear h32
 rcases hx with hv|hv|hv|hv|hv|hv|hv|hv
 all_goals
  have HV:=ac hv;clear hv
  go_enter Tryz.func58,Tryz.ntmps58
  go_wp2_with (first
   |(go_at_call 95
     refine(qZ _ _).mono ?_;rintro e w1 ⟨rfl,hb1⟩;obtain⟨x1,x2,x3⟩:=GG w (iK m a1 n1 c1 a2 n2 c2) (kY i aa na ca) w1 hb1;obtain⟨y0,y1,y2,y3,y4,y5,y6⟩:=qI x1 x2;have HB1:=ac x3;clear x1 x2 x3 hb1
     rw[HV.out])
   |(go_at_call 96
     refine(mR _ _ _).mono ?_;rintro e w' ⟨rfl,rfl⟩
     simp only[show eG 0 1=false from rfl,show eG 0 2=false from rfl,show eG 0 4=false from rfl,show eG 0 16=false from rfl,show eG 0 32=false from rfl,show eG 3 1=true from rfl,show eG 3 2=true from rfl,show eG 3 4=false from rfl,show eG 3 16=false from rfl,show eG 3 32=false from rfl,show eG 7 1=true from rfl,show eG 7 2=true from rfl,show eG 7 4=true from rfl,show eG 7 16=false from rfl,show eG 7 32=false from rfl,show eG 9 1=true from rfl,show eG 9 2=false from rfl,show eG 9 4=false from rfl,show eG 9 16=false from rfl,show eG 9 32=false from rfl,show eG 11 1=true from rfl,show eG 11 2=true from rfl,show eG 11 4=false from rfl,show eG 11 16=false from rfl,show eG 11 32=false from rfl,show eG 14 1=false from rfl,show eG 14 2=true from rfl,show eG 14 4=true from rfl,show eG 14 16=false from rfl,show eG 14 32=false from rfl,show eG 17 1=true from rfl,show eG 17 2=false from rfl,show eG 17 4=false from rfl,show eG 17 16=true from rfl,show eG 17 32=false from rfl,show eG 18 1=false from rfl,show eG 18 2=true from rfl,show eG 18 4=false from rfl,show eG 18 16=true from rfl,show eG 18 32=false from rfl,show eG 32 1=false from rfl,show eG 32 2=false from rfl,show eG 32 4=false from rfl,show eG 32 16=false from rfl,show eG 32 32=true from rfl])
   |(go_at_call 97
     (first
       |(with_reducible refine(nE (some ⟨w1.heap.size,0,none⟩) 2 2 [i.a,i.b] _ (NA w1 w1.heap.size rfl i.a i.b H1.out H2.out _) (by omega)).mono ?_)
       |(with_reducible refine(nE (some ⟨w1.heap.size,0,none⟩) 1 1 [i.a] _ (sA w1 w1.heap.size rfl i.a H1.out _) (by omega)).mono ?_))
     rintro e w2 ⟨a3,c3,rfl,hl3,hb3⟩;have HL3:=ac hl3;have HB3:=ac (eA (eA HB1.out (eC w1 _)) hb3)
     clear hl3 hb3))
  go_ret
  first
   |(have hw:gN m i= [(false,i.a),(false,i.b)]:=(by unfold gN;rw[HV.out];rfl)
     rw[kV,hw]
     exact⟨a3,c3,rfl,HL3.out,HB3.out⟩)
   |(have hw:gN m i= [(false,i.a)]:=(by unfold gN;rw[HV.out];rfl)
     rw[kV,hw]
     exact⟨a3,c3,rfl,HL3.out,HB3.out⟩)
   |(have hw:gN m i= [(true,i.imm)]:=(by unfold gN;rw[HV.out];rfl)
     rw[kV,hw]
     exact⟨_,_,rfl,CT _ _ rfl _ _ _,eA HB1.out (eC _ _)⟩)
   |(have hw:gN m i= []:=(by unfold gN;rw[HV.out];rfl)
     rw[kV,hw]
     exact⟨none,0,rfl,mO.nil _ _ _,HB1.out⟩)
end

section
open Go.RowKit
theorem fR.takeN{w:World}{a:Option Addr}{n:Nat}{xs:List Int}(h:fR w a n xs)(m:Nat)(hm:m<=n):fR w a m (xs.take m):=by
 refine⟨by rw[ck,h.1];omega,by have:=h.2.1;omega,λk hk=>?_⟩
 have e:(xs.take m).getD k 0=xs.getD k 0:=by simp[ax,dD,hk]
 rw[e]
 exact h.2.2 k (by omega)
theorem SC(m:eY)(i:mI)(a1 a2 aa:Option Addr)(n1 c1 n2 c2 na ca:Nat)(w:World)(h:fR w a1 n1 m.args)(hn:n1<=1000000)(hc:n1<=c1)(h1:I64 i.a)(h2:I64 i.b)(h3:I64 i.many)(h32:hZ i.op=32):
  Calls Tryz.prog 58 #[nG m a1 n1 c1 a2 n2 c2,wC i aa na ca] w (kV w (gN m i)):=by
 have H1:=ac h1
 have H2:=ac h2
 have H:=ac h
 have HLA:=ac h.1
 obtain⟨h3,h4⟩:=h3
 clear h1 h2 h
 have HV:=ac h32
 clear h32
 obtain⟨K,hK1,hK2⟩:∃K:Nat,(max (min i.many (n1:Int)) 0)=(K:Int)/\K<=n1:=⟨(max (min i.many (n1:Int)) 0).toNat,by omega,by omega⟩
 have HK:Hid (gN m i=(m.args.take K).map λx=>(false,x)):=by
  rw[Hid,gN,aX HV.out,HLA.out,hK1];rfl
 by_cases hm1:i.many<=(n1:Int)
 .by_cases hm2:i.many<0
  .obtain rfl:K=0:=by omega
   clear hK1
   go_enter Tryz.func58,Tryz.ntmps58
   go_wp2_with (first
    |(go_at_call 95
      refine(qZ _ _).mono ?_;rintro e w1 ⟨rfl,hb1⟩;obtain⟨x1,x2,x3⟩:=GG w (iK m a1 n1 c1 a2 n2 c2) (kY i aa na ca) w1 hb1;obtain⟨y0,y1,y2,y3,y4,y5,y6⟩:=qI x1 x2;have HB1:=ac x3;clear x1 x2 x3 hb1
      rw[HV.out])
    |(go_at_call 96
      refine(mR _ _ _).mono ?_;rintro e w' ⟨rfl,rfl⟩
      simp only[show eG 0 1=false from rfl,show eG 0 2=false from rfl,show eG 0 4=false from rfl,show eG 0 16=false from rfl,show eG 0 32=false from rfl,show eG 3 1=true from rfl,show eG 3 2=true from rfl,show eG 3 4=false from rfl,show eG 3 16=false from rfl,show eG 3 32=false from rfl,show eG 7 1=true from rfl,show eG 7 2=true from rfl,show eG 7 4=true from rfl,show eG 7 16=false from rfl,show eG 7 32=false from rfl,show eG 9 1=true from rfl,show eG 9 2=false from rfl,show eG 9 4=false from rfl,show eG 9 16=false from rfl,show eG 9 32=false from rfl,show eG 11 1=true from rfl,show eG 11 2=true from rfl,show eG 11 4=false from rfl,show eG 11 16=false from rfl,show eG 11 32=false from rfl,show eG 14 1=false from rfl,show eG 14 2=true from rfl,show eG 14 4=true from rfl,show eG 14 16=false from rfl,show eG 14 32=false from rfl,show eG 17 1=true from rfl,show eG 17 2=false from rfl,show eG 17 4=false from rfl,show eG 17 16=true from rfl,show eG 17 32=false from rfl,show eG 18 1=false from rfl,show eG 18 2=true from rfl,show eG 18 4=false from rfl,show eG 18 16=true from rfl,show eG 18 32=false from rfl,show eG 32 1=false from rfl,show eG 32 2=false from rfl,show eG 32 4=false from rfl,show eG 32 16=false from rfl,show eG 32 32=true from rfl])
    |(go_at_call 97
      try rw[show(max (min i.many (n1:Int)) 0).toNat=0 by omega]
      refine(nE a1 0 c1 (m.args.take 0) _ ((H.out.ext HB1.out).takeN 0 (by omega)) (by omega)).mono ?_;rw[<-HK.out];rintro e w2 ⟨a3,c3,rfl,hl3,hb3⟩;have HL3:=ac hl3;have HB3:=ac (eA HB1.out hb3)
      clear hl3 hb3))
   go_ret
   exact⟨a3,c3,rfl,HL3.out,HB3.out⟩
  .obtain rfl:i.many.toNat=K:=by omega
   have hm3:0<=i.many:=by omega
   have hkn:i.many.toNat<=n1:=by omega
   have hm4:i.many<=(c1:Int):=by omega
   clear hK1
   go_enter Tryz.func58,Tryz.ntmps58
   go_wp2_with (first
    |(go_at_call 95
      refine(qZ _ _).mono ?_;rintro e w1 ⟨rfl,hb1⟩;obtain⟨x1,x2,x3⟩:=GG w (iK m a1 n1 c1 a2 n2 c2) (kY i aa na ca) w1 hb1;obtain⟨y0,y1,y2,y3,y4,y5,y6⟩:=qI x1 x2;have HB1:=ac x3;clear x1 x2 x3 hb1
      rw[HV.out])
    |(go_at_call 96
      refine(mR _ _ _).mono ?_;rintro e w' ⟨rfl,rfl⟩
      simp only[show eG 0 1=false from rfl,show eG 0 2=false from rfl,show eG 0 4=false from rfl,show eG 0 16=false from rfl,show eG 0 32=false from rfl,show eG 3 1=true from rfl,show eG 3 2=true from rfl,show eG 3 4=false from rfl,show eG 3 16=false from rfl,show eG 3 32=false from rfl,show eG 7 1=true from rfl,show eG 7 2=true from rfl,show eG 7 4=true from rfl,show eG 7 16=false from rfl,show eG 7 32=false from rfl,show eG 9 1=true from rfl,show eG 9 2=false from rfl,show eG 9 4=false from rfl,show eG 9 16=false from rfl,show eG 9 32=false from rfl,show eG 11 1=true from rfl,show eG 11 2=true from rfl,show eG 11 4=false from rfl,show eG 11 16=false from rfl,show eG 11 32=false from rfl,show eG 14 1=false from rfl,show eG 14 2=true from rfl,show eG 14 4=true from rfl,show eG 14 16=false from rfl,show eG 14 32=false from rfl,show eG 17 1=true from rfl,show eG 17 2=false from rfl,show eG 17 4=false from rfl,show eG 17 16=true from rfl,show eG 17 32=false from rfl,show eG 18 1=false from rfl,show eG 18 2=true from rfl,show eG 18 4=false from rfl,show eG 18 16=true from rfl,show eG 18 32=false from rfl,show eG 32 1=false from rfl,show eG 32 2=false from rfl,show eG 32 4=false from rfl,show eG 32 16=false from rfl,show eG 32 32=true from rfl])
    |(go_at_call 97
      try rw[show(max (min i.many (n1:Int)) 0).toNat=i.many.toNat by omega]
      refine(nE a1 i.many.toNat c1 (m.args.take i.many.toNat) _ ((H.out.ext HB1.out).takeN i.many.toNat (by omega)) (by omega)).mono ?_;rw[<-HK.out];rintro e w2 ⟨a3,c3,rfl,hl3,hb3⟩;have HL3:=ac hl3;have HB3:=ac (eA HB1.out hb3)
      clear hl3 hb3))
   go_ret
   exact⟨a3,c3,rfl,HL3.out,HB3.out⟩
 .obtain rfl:n1=K:=by omega
  have hm5:(n1:Int)<i.many:=by omega
  clear hK1
  go_enter Tryz.func58,Tryz.ntmps58
  go_wp2_with (first
   |(go_at_call 95
     refine(qZ _ _).mono ?_;rintro e w1 ⟨rfl,hb1⟩;obtain⟨x1,x2,x3⟩:=GG w (iK m a1 n1 c1 a2 n2 c2) (kY i aa na ca) w1 hb1;obtain⟨y0,y1,y2,y3,y4,y5,y6⟩:=qI x1 x2;have HB1:=ac x3;clear x1 x2 x3 hb1
     rw[HV.out])
   |(go_at_call 96
     refine(mR _ _ _).mono ?_;rintro e w' ⟨rfl,rfl⟩
     simp only[show eG 0 1=false from rfl,show eG 0 2=false from rfl,show eG 0 4=false from rfl,show eG 0 16=false from rfl,show eG 0 32=false from rfl,show eG 3 1=true from rfl,show eG 3 2=true from rfl,show eG 3 4=false from rfl,show eG 3 16=false from rfl,show eG 3 32=false from rfl,show eG 7 1=true from rfl,show eG 7 2=true from rfl,show eG 7 4=true from rfl,show eG 7 16=false from rfl,show eG 7 32=false from rfl,show eG 9 1=true from rfl,show eG 9 2=false from rfl,show eG 9 4=false from rfl,show eG 9 16=false from rfl,show eG 9 32=false from rfl,show eG 11 1=true from rfl,show eG 11 2=true from rfl,show eG 11 4=false from rfl,show eG 11 16=false from rfl,show eG 11 32=false from rfl,show eG 14 1=false from rfl,show eG 14 2=true from rfl,show eG 14 4=true from rfl,show eG 14 16=false from rfl,show eG 14 32=false from rfl,show eG 17 1=true from rfl,show eG 17 2=false from rfl,show eG 17 4=false from rfl,show eG 17 16=true from rfl,show eG 17 32=false from rfl,show eG 18 1=false from rfl,show eG 18 2=true from rfl,show eG 18 4=false from rfl,show eG 18 16=true from rfl,show eG 18 32=false from rfl,show eG 32 1=false from rfl,show eG 32 2=false from rfl,show eG 32 4=false from rfl,show eG 32 16=false from rfl,show eG 32 32=true from rfl])
   |(go_at_call 97
     try rw[show(max (min i.many (n1:Int)) 0).toNat=n1 by omega]
     refine(nE a1 n1 c1 (m.args.take n1) _ ((H.out.ext HB1.out).takeN n1 (by omega)) (by omega)).mono ?_;rw[<-HK.out];rintro e w2 ⟨a3,c3,rfl,hl3,hb3⟩;have HL3:=ac hl3;have HB3:=ac (eA HB1.out hb3)
     clear hl3 hb3))
  go_ret
  exact⟨a3,c3,rfl,HL3.out,HB3.out⟩
theorem WP(m:eY)(i:mI)(a1 a2 aa:Option Addr)(n1 c1 n2 c2 na ca:Nat)(w:World)(h:fR w a1 n1 m.args)(hn:n1<=1000000)(hc:n1<=c1)(h1:I64 i.a)(h2:I64 i.b)(h3:I64 i.many):
  Calls Tryz.prog 58 #[nG m a1 n1 c1 a2 n2 c2,wC i aa na ca] w (kV w (gN m i)):=by
 by_cases h32:hZ i.op=32
 .exact SC m i a1 a2 aa n1 c1 n2 c2 na ca w h hn hc h1 h2 h3 h32
 .exact SB m i a1 a2 aa n1 c1 n2 c2 na ca w h hn hc h1 h2 h3 h32
end
end Go.Proofs.YtchdkjenhppleaaGreat
