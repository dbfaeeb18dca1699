/-
 ir.shaped,IsIns,Defines (beside tile's none,variable,fits). Printed by gen_sa.py.
-/
import Derived.Test.YtnmkjliioogbgaaGreatDoorTA
import Derived.Test.YtnmkjliioogbgaaGreatDoorInsR
import Derived.Outline
import Derived.Deep.Light
import Derived.Test.YtnmkjliioogbgaaGreatDoorSB
import Derived.Deep.LoopGhost
import Derived.Test.YtnmkjliioogbgaaGreatDoorNR
import Derived.Laws.StructEq
import Derived.ChangeKeysEq
namespace Go.Proofs.YtnmkjliioogbgaaGreatDoor
set_option linter.unusedSimpArgs false
set_option linter.unusedVariables false
set_option linter.unusedSectionVars false
set_option maxRecDepth 100000
set_option maxHeartbeats 40000000
section
open Go.RowKit
def shapeD(o:Int):(Bool×Bool×Bool×Bool×Bool)×Bool:=
 if o=13 then ((false,false,false,false,true),true) else if o=1 then ((true,false,false,true,false),true) else if o=12 then ((false,true,true,true,false),true) else if o=11 then ((true,true,false,true,false),true) else if o=14 then ((true,true,false,false,false),true) else ((true,true,true,false,false),decide (2≤o∧o≤10))
def shapeV(x:(Bool×Bool×Bool×Bool×Bool)×Bool):Value:=.tuple #[.agg #[.bool x.1.1,.bool x.1.2.1,.bool x.1.2.2.1,.bool x.1.2.2.2.1,.bool x.1.2.2.2.2],.bool x.2]
theorem shaped_any(o:Int)(w:World):Calls Tryz.prog 149 #[.int .i64 o] w fun e w'=>e=.returned (shapeV (shapeD o))∧Below w.heap.size w w':=by
 by_cases h13:o=13
 ·subst h13
  go_enter Tryz.func149,Tryz.ntmps149
  go_wp2;exact bodyPost_ret (v:=shapeV (shapeD 13)) (by simp[results,Tryz.results149,go_sem,shapeV,shapeD]) rfl ⟨rfl,ext_alloc _ _⟩
 have b13:(o==13)=false:=by simpa using h13
 by_cases h1:o=1
 ·subst h1
  go_enter Tryz.func149,Tryz.ntmps149
  go_wp2;exact bodyPost_ret (v:=shapeV (shapeD 1)) (by simp[results,Tryz.results149,go_sem,shapeV,shapeD]) rfl ⟨rfl,ext_alloc _ _⟩
 have b1:(o==1)=false:=by simpa using h1
 by_cases h12:o=12
 ·subst h12
  go_enter Tryz.func149,Tryz.ntmps149
  go_wp2;exact bodyPost_ret (v:=shapeV (shapeD 12)) (by simp[results,Tryz.results149,go_sem,shapeV,shapeD]) rfl ⟨rfl,ext_alloc _ _⟩
 have b12:(o==12)=false:=by simpa using h12
 by_cases h11:o=11
 ·subst h11
  go_enter Tryz.func149,Tryz.ntmps149
  go_wp2;exact bodyPost_ret (v:=shapeV (shapeD 11)) (by simp[results,Tryz.results149,go_sem,shapeV,shapeD]) rfl ⟨rfl,ext_alloc _ _⟩
 have b11:(o==11)=false:=by simpa using h11
 by_cases h14:o=14
 ·subst h14
  go_enter Tryz.func149,Tryz.ntmps149
  go_wp2;exact bodyPost_ret (v:=shapeV (shapeD 14)) (by simp[results,Tryz.results149,go_sem,shapeV,shapeD]) rfl ⟨rfl,ext_alloc _ _⟩
 have b14:(o==14)=false:=by simpa using h14
 have HE:Hid (shapeD o=((true,true,true,false,false),decide (2≤o∧o≤10))):=by
  rw[Hid,shapeD,if_neg h13,if_neg h1,if_neg h12,if_neg h11,if_neg h14]
 clear h13 h1 h12 h11 h14
 by_cases h2:2≤o
 ·have d2:decide (2≤o)=true:=by simpa using h2
  have HF:Hid (decide (2≤o∧o≤10)=decide (o≤10)):=by rw[Hid,decide_eq_decide];omega
  go_enter Tryz.func149,Tryz.ntmps149
  go_wp2;exact bodyPost_ret (v:=.tuple #[.agg #[.bool true,.bool true,.bool true,.bool false,.bool false],.bool (decide (o≤10))]) (by simp[results,Tryz.results149,go_sem]) rfl ⟨by rw[HE.out,HF.out];rfl,ext_alloc _ _⟩
 ·have d2:decide (2≤o)=false:=by simpa using h2
  have HF:Hid (decide (2≤o∧o≤10)=false):=by rw[Hid,decide_eq_false_iff_not];omega
  go_enter Tryz.func149,Tryz.ntmps149
  go_wp2;exact bodyPost_ret (v:=.tuple #[.agg #[.bool true,.bool true,.bool true,.bool false,.bool false],.bool false]) (by simp[results,Tryz.results149,go_sem]) rfl ⟨by rw[HE.out,HF.out];rfl,ext_alloc _ _⟩
theorem indexFunc0_any(F:Nat)(eF:∀args w,(callFunc F args).run Tryz.prog w=.ok (.enter F args) w)(p:Int→Bool)(hp:∀(x:Int) (W:World),Calls Tryz.prog F #[.int .i64 x] W fun e W'=>e=.returned (.bool (p x))∧W=W')(a:Option Addr)(n c:Nat)(xs:List Int)(w:World)(h:Ints w a n xs):
  Calls Tryz.prog 31 #[.slice a n c,.func (.func F) #[] #[]] w fun e w'=>e=.returned (.int .i64 (idxF p xs))∧w=w':=by
 obtain⟨hl,hn,hc⟩:=h
 have HL:=Lib.hid hl
 have HC:=Lib.hid hc
 have HP:=Lib.hid hp
 clear hl hc hp
 go_enter Tryz.func31,Tryz.ntmps31
 go_wp2
 go_loop [5,8] (fun _ i=>∃(k:Nat),k≤n∧i=.int .i64 k∧Hid (∀j y,j<k→xs[j]? =some y→p y=false)) (fun _ i=>n-(intOf i).toNat)
 case atStart=>exact⟨0,by omega,rfl,fun j y hj=>absurd hj (by omega)⟩
 case round=>
  obtain⟨k,hk,rfl,HR⟩:=hrel;by_cases hlt:k<n
  ·obtain⟨b,o,rfl,hcell,hw1,hw2⟩:=HC.out k hlt;have hgk:xs[k]? =some (xs.getD k 0):=by
    have hk':k<xs.length:=by rw[HL.out];exact hlt
    simp[List.getD_eq_getElem?_getD,hk']
   have HG:=Lib.hid hgk;clear hgk;generalize xs.getD k 0=y at *;by_cases hy:p y=true
   ·have HE:Hid (idxF p xs=k):=idxF_found p xs k y HG.out hy HR.out;go_wp2;refine(HP.out y w).mono ?_;rintro e w' ⟨rfl,rfl⟩;rw[hy];go_wp2
    go_ret
    exact⟨by rw[HE.out];rfl,rfl⟩
   ·have hy':p y=false:=by simpa using hy
    have HE:Hid (∀j z,j<k+1→xs[j]? =some z→p z=false):=fun j z hj hz=>by
     by_cases e:j=k
     ·subst e;rw[HG.out] at hz;injection hz with hz;subst hz;exact hy'
     ·exact HR.out j z (by omega) hz
    go_wp2;refine(HP.out y w).mono ?_;rintro e w' ⟨rfl,rfl⟩;rw[hy'];go_wp2
    go_round
    case rel=>exact⟨k+1,by omega,by go_num,HE⟩
    case measure=>simp[intOf];omega
  ·obtain rfl:k=n:=by omega
   have HE:Hid (idxF p xs= -1):=idxF_none p xs (fun z hz=>by
    obtain⟨j,hj,e⟩:=List.mem_iff_getElem.1 hz
    exact HR.out j z (by rw[HL.out] at hj;exact hj) (by rw[List.getElem?_eq_getElem hj,e]))
   go_wp2
   go_ret
   exact⟨by rw[HE.out];rfl,rfl⟩
theorem containsFunc0_any(F:Nat)(eF:∀args w,(callFunc F args).run Tryz.prog w=.ok (.enter F args) w)(p:Int→Bool)(hp:∀(x:Int) (W:World),Calls Tryz.prog F #[.int .i64 x] W fun e W'=>e=.returned (.bool (p x))∧W=W')(a:Option Addr)(n c:Nat)(xs:List Int)(w:World)(h:Ints w a n xs):
  Calls Tryz.prog 20 #[.slice a n c,.func (.func F) #[] #[]] w fun e w'=>e=.returned (.bool (xs.any p))∧w=w':=by
 have HA:=Lib.hid (idxF_any p xs)
 have hg:=idxF_ge p xs
 have HP:=Lib.hid hp
 have H:=Lib.hid h
 clear hp h
 go_enter Tryz.func20,Tryz.ntmps20
 go_wp2_with (go_at_call 31;refine(indexFunc0_any F eF p HP.out a n c xs w H.out).mono ?_;rintro e w' ⟨rfl,rfl⟩)
 go_ret
 exact⟨by rw[←HA.out];rfl,rfl⟩
theorem none10_any(x:Int)(w:World):Calls Tryz.prog 166 #[.int .i64 x] w fun e w'=>e=.returned (.bool (x != 0))∧w=w':=by
 go_enter Tryz.func166,Tryz.ntmps166
 go_wp2
 go_ret
 exact⟨rfl,rfl⟩
theorem none0_any(a:Option Addr)(n c:Nat)(xs:List Int)(w:World)(h:Ints w a n xs):
  Calls Tryz.prog 134 #[.slice a n c] w fun e w'=>e=.returned (.bool (noneB xs))∧w=w':=by
 have H:=Lib.hid h
 clear h
 go_enter Tryz.func134,Tryz.ntmps134
 go_wp2_with (go_at_call 20;refine(containsFunc0_any _ call_none1 (fun x=>x != 0) none10_any a n c xs w H.out).mono ?_;rintro e w' ⟨rfl,rfl⟩)
 go_ret
 exact⟨rfl,rfl⟩
theorem odd1_any(x:Int)(w:World):Calls Tryz.prog 150 #[.int .i64 x] w fun e w'=>e=.returned (.bool (!varB x))∧w=w':=by
 go_enter Tryz.func150,Tryz.ntmps150
 go_wp2_with (go_at_call 110;refine(variable_any _ _).mono ?_;rintro e w' ⟨rfl,rfl⟩)
 go_ret
 exact⟨rfl,rfl⟩
theorem call_odd1(args:Array Value)(w:World):(callFunc 150 args).run Tryz.prog w=.ok (.enter 150 args) w:=by kernel_rfl
def isInsB(i:InsD):Bool:=
 let s:=shapeD i.op
 if !s.2||i.many != 0 then false
 else if s.1.2.2.2.2 then noneB [i.a,i.b,i.imm]&&decide (0≤i.callee∧i.callee≤99)&&fitsV (i.dst != 0) i.dst&&decide (i.args.length≤8)&& !i.args.any (fun x=> !varB x)
 else if (!s.1.2.2.2.1&&i.imm != 0)||decide (i.imm< -1099511627776)||decide (i.imm>1099511627776) then false
 else i.callee==0&&i.args.length==0&&fitsV s.1.1 i.dst&&fitsV s.1.2.1 i.a&&fitsV s.1.2.2.1 i.b
theorem three_ints(X:World)(H:Nat)(hH:X.heap.size=H)(x y z:Int)(hx:I64 x)(hy:I64 y)(hz:I64 z)(t:TypeId):Ints (X.alloc (.cells #[.int .i64 x,.int .i64 y,.int .i64 z] t)) (some ⟨H,0,none⟩) 3 [x,y,z]:=by
 subst hH
 refine⟨rfl,by omega,fun k hk=>?_⟩
 match k,hk with
 |0,_=>exact⟨X.heap.size,0,rfl,by rw[cell_of_row _ _ _ _ _ _ (heap_alloc_new X _)];rfl,hx⟩
 |1,_=>exact⟨X.heap.size,0,rfl,by rw[cell_of_row _ _ _ _ _ _ (heap_alloc_new X _)];rfl,hy⟩
 |2,_=>exact⟨X.heap.size,0,rfl,by rw[cell_of_row _ _ _ _ _ _ (heap_alloc_new X _)];rfl,hz⟩
theorem u64_small(x:Int)(h1: -9223372036854775808≤x)(h2:x≤9223372036854775807):IntKind.u64.wrap x≤99↔(0≤x∧x≤99):=by
 have e:IntKind.u64.wrap x=x%18446744073709551616:=rfl
 rw[e]
 omega
theorem isIns_at{i:InsD}{x:(Bool×Bool×Bool×Bool×Bool)×Bool}(h:shapeD i.op=x):isInsB i=(if !x.2||i.many != 0 then false
 else if x.1.2.2.2.2 then noneB [i.a,i.b,i.imm]&&decide (0≤i.callee∧i.callee≤99)&&fitsV (i.dst != 0) i.dst&&decide (i.args.length≤8)&& !i.args.any (fun x=> !varB x)
 else if (!x.1.2.2.2.1&&i.imm != 0)||decide (i.imm< -1099511627776)||decide (i.imm>1099511627776) then false
 else i.callee==0&&i.args.length==0&&fitsV x.1.1 i.dst&&fitsV x.1.2.1 i.a&&fitsV x.1.2.2.1 i.b):=by rw[isInsB,h]
theorem isIns_call(i:InsD)(aa:Option Addr)(na ca:Nat)(w:World)(h:Ints w aa na i.args)(h1:I64 i.a)(h2:I64 i.b)(h3:I64 i.imm)(h4:I64 i.callee)(ho:shapeD i.op=((false,false,false,false,true),true)):
  Calls Tryz.prog 113 #[insV i aa na ca] w fun e w'=>e=.returned (.bool (isInsB i))∧Below w.heap.size w w':=by
 have HS:=Lib.hid ho
 have H:=Lib.hid h
 have HLA:=Lib.hid h.1
 have H1:=Lib.hid h1
 have H2:=Lib.hid h2
 have H3:=Lib.hid h3
 have hna:=h.2.1
 obtain⟨h4,h5⟩:=h4
 clear h h1 h2 h3 ho
 go_enter Tryz.func113,Tryz.ntmps113
 go_wp2_with (first
  |(go_at_call 149
    refine(shaped_any _ _).mono ?_;rw[HS.out,shapeV];rintro e w1 ⟨rfl,hb1⟩;have hx:=hb1.block w.heap.size (by simp);rw[heap_alloc_new w _] at hx;have c1:w1.cell? ⟨w.heap.size,1,none⟩=some (.int .i64 i.dst):=by rw[cell_of_row _ _ _ _ _ _ hx];rfl
    have c2:w1.cell? ⟨w.heap.size,2,none⟩=some (.int .i64 i.a):=by rw[cell_of_row _ _ _ _ _ _ hx];rfl
    have c3:w1.cell? ⟨w.heap.size,3,none⟩=some (.int .i64 i.b):=by rw[cell_of_row _ _ _ _ _ _ hx];rfl
    have c4:w1.cell? ⟨w.heap.size,4,none⟩=some (.int .i64 i.imm):=by rw[cell_of_row _ _ _ _ _ _ hx];rfl
    have c5:w1.cell? ⟨w.heap.size,5,none⟩=some (.int .i64 i.callee):=by rw[cell_of_row _ _ _ _ _ _ hx];rfl
    have c6:w1.cell? ⟨w.heap.size,6,none⟩=some (.slice aa na ca):=by rw[cell_of_row _ _ _ _ _ _ hx];rfl
    have c7:w1.cell? ⟨w.heap.size,7,none⟩=some (.int .i64 i.many):=by rw[cell_of_row _ _ _ _ _ _ hx];rfl
    have HB1:=Lib.hid (ext_trans (ext_alloc w _) hb1);have hl1:w.heap.size<w1.heap.size:=by have:=hb1.size;simp at this;omega
    clear hx hb1)
  |(go_at_call 134
    refine(none0_any _ 3 3 [i.a,i.b,i.imm] _ (three_ints _ _ (by simp) _ _ _ H1.out H2.out H3.out _)).mono ?_
    rintro e w2 ⟨rfl,rfl⟩)
  |(go_at_call 135
    refine(fits_any _ _ _).mono ?_
    rintro e w2 ⟨rfl,rfl⟩)
  |(go_at_call 20
    refine(containsFunc0_any _ call_odd1 (fun x=> !varB x) odd1_any aa na ca i.args _ (H.out.ext (ext_trans HB1.out (ext_trans (ext_alloc _ _) (ext_alloc _ _))))).mono ?_
    rintro e w2 ⟨rfl,rfl⟩))
 all_goals
  go_ret
  refine⟨ret_bool ?_,?_⟩
  ·go_light
   rw[isIns_at HS.out,HLA.out];simp only[←u64_small i.callee h4 h5];simp[*]
   try omega
  ·first
   |exact ext_trans HB1.out (ext_trans (ext_alloc _ _) (ext_alloc _ _))
   |exact ext_trans HB1.out (ext_alloc _ _)
   |exact HB1.out
theorem isIns_rest(i:InsD)(aa:Option Addr)(na ca:Nat)(w:World)(h:Ints w aa na i.args)(h1:I64 i.a)(h2:I64 i.b)(h3:I64 i.imm)(h4:I64 i.callee)(d a b m is:Bool)(ho:shapeD i.op=((d,a,b,m,false),is)):
  Calls Tryz.prog 113 #[insV i aa na ca] w fun e w'=>e=.returned (.bool (isInsB i))∧Below w.heap.size w w':=by
 have HS:=Lib.hid ho
 have H:=Lib.hid h
 have HLA:=Lib.hid h.1
 have H1:=Lib.hid h1
 have H2:=Lib.hid h2
 have H3:=Lib.hid h3
 have hna:=h.2.1
 obtain⟨h4,h5⟩:=h4
 clear h h1 h2 h3 ho
 go_enter Tryz.func113,Tryz.ntmps113
 go_wp2_with (first
  |(go_at_call 149
    refine(shaped_any _ _).mono ?_;rw[HS.out,shapeV];rintro e w1 ⟨rfl,hb1⟩;have hx:=hb1.block w.heap.size (by simp);rw[heap_alloc_new w _] at hx;have c1:w1.cell? ⟨w.heap.size,1,none⟩=some (.int .i64 i.dst):=by rw[cell_of_row _ _ _ _ _ _ hx];rfl
    have c2:w1.cell? ⟨w.heap.size,2,none⟩=some (.int .i64 i.a):=by rw[cell_of_row _ _ _ _ _ _ hx];rfl
    have c3:w1.cell? ⟨w.heap.size,3,none⟩=some (.int .i64 i.b):=by rw[cell_of_row _ _ _ _ _ _ hx];rfl
    have c4:w1.cell? ⟨w.heap.size,4,none⟩=some (.int .i64 i.imm):=by rw[cell_of_row _ _ _ _ _ _ hx];rfl
    have c5:w1.cell? ⟨w.heap.size,5,none⟩=some (.int .i64 i.callee):=by rw[cell_of_row _ _ _ _ _ _ hx];rfl
    have c6:w1.cell? ⟨w.heap.size,6,none⟩=some (.slice aa na ca):=by rw[cell_of_row _ _ _ _ _ _ hx];rfl
    have c7:w1.cell? ⟨w.heap.size,7,none⟩=some (.int .i64 i.many):=by rw[cell_of_row _ _ _ _ _ _ hx];rfl
    have HB1:=Lib.hid (ext_trans (ext_alloc w _) hb1);have hl1:w.heap.size<w1.heap.size:=by have:=hb1.size;simp at this;omega
    clear hx hb1)
  |(go_at_call 134
    refine(none0_any _ 3 3 [i.a,i.b,i.imm] _ (three_ints _ _ (by simp) _ _ _ H1.out H2.out H3.out _)).mono ?_
    rintro e w2 ⟨rfl,rfl⟩)
  |(go_at_call 135
    refine(fits_any _ _ _).mono ?_
    rintro e w2 ⟨rfl,rfl⟩)
  |(go_at_call 20
    refine(containsFunc0_any _ call_odd1 (fun x=> !varB x) odd1_any aa na ca i.args _ (H.out.ext (ext_trans HB1.out (ext_trans (ext_alloc _ _) (ext_alloc _ _))))).mono ?_
    rintro e w2 ⟨rfl,rfl⟩))
 all_goals
  go_ret
  refine⟨ret_bool ?_,?_⟩
  ·go_light
   rw[isIns_at HS.out,HLA.out];simp only[←u64_small i.callee h4 h5];simp[*]
   try omega
  ·first
   |exact ext_trans HB1.out (ext_trans (ext_alloc _ _) (ext_alloc _ _))
   |exact ext_trans HB1.out (ext_alloc _ _)
   |exact HB1.out
theorem isIns_any(i:InsD)(aa:Option Addr)(na ca:Nat)(w:World)(h:Ints w aa na i.args)(h1:I64 i.a)(h2:I64 i.b)(h3:I64 i.imm)(h4:I64 i.callee):
  Calls Tryz.prog 113 #[insV i aa na ca] w fun e w'=>e=.returned (.bool (isInsB i))∧Below w.heap.size w w':=by
 match ho:shapeD i.op with
 |((d,a,b,m,false),is)=>exact isIns_rest i aa na ca w h h1 h2 h3 h4 d a b m is ho
 |((d,a,b,m,true),is)=>
  refine isIns_call i aa na ca w h h1 h2 h3 h4 ?_;unfold shapeD at ho⊢
  split
  ·rfl
  ·rename_i h0
   rw[if_neg h0] at ho;exfalso
   revert ho
   repeat' split
   all_goals simp
def definesV(i:InsD):Int:=if isInsB i then i.dst else 0
theorem defines_any(i:InsD)(aa:Option Addr)(na ca:Nat)(w:World)(h:Ints w aa na i.args)(h1:I64 i.a)(h2:I64 i.b)(h3:I64 i.imm)(h4:I64 i.callee):
  Calls Tryz.prog 100 #[insV i aa na ca] w fun e w'=>e=.returned (.int .i64 (definesV i))∧Below w.heap.size w w':=by
 have H:=Lib.hid h
 have H1:=Lib.hid h1
 have H2:=Lib.hid h2
 have H3:=Lib.hid h3
 have H4:=Lib.hid h4
 clear h h1 h2 h3 h4
 go_enter Tryz.func100,Tryz.ntmps100
 go_wp2_with (first
  |(go_at_call 113
    refine(isIns_any i aa na ca _ (H.out.ext (ext_alloc _ _)) H1.out H2.out H3.out H4.out).mono ?_;rintro e w1 ⟨rfl,hb1⟩;have hx:=hb1.block w.heap.size (by simp);rw[heap_alloc_new w _] at hx;have c1:w1.cell? ⟨w.heap.size,1,none⟩=some (.int .i64 i.dst):=by rw[cell_of_row _ _ _ _ _ _ hx];rfl
    have HB1:=Lib.hid (ext_trans (ext_alloc w _) hb1)
    clear hx hb1))
 all_goals
  go_ret
  exact⟨ret_int (by go_light;cases hq:isInsB i<;>simp_all[definesV]),HB1.out⟩
end

section
open Go.RowKit
abbrev insO(i:InsD)(aa:Option Addr)(na ca:Nat):Obj:=.cells #[.int .i64 i.op,.int .i64 i.dst,.int .i64 i.a,.int .i64 i.b,.int .i64 i.imm,.int .i64 i.callee,.slice aa na ca,.int .i64 i.many] 60
theorem part_int0(cs:Array Value)(o:Nat)(v:Value)(w:World)(h:cs[o]? =some v):(part 3 cs o).run Tryz.prog w=.ok v w:=by
 have hu:(underlying 3).run Tryz.prog w=.ok (.int .i64) w:=run_underlying Tryz.underlying3 w
 simp[part,isAgg,hu,h]
theorem row_form{w:World}{base:Nat}{e:TypeId}{size:Nat}{v:Value}{n:Nat}{xs:List Value}(h:w.ownsRow base e size v n xs):∃a c,v=.slice a n c:=by
 rcases h.2 with ⟨rfl,h0⟩|⟨g,cap,cur,hv,_⟩
 ·rw[h0];exact⟨none,0,rfl⟩
 ·exact⟨_,_,hv⟩
def readsI(i:InsD):List Int:=if isInsB i then ([i.a,i.b].filter fun x=>x != 0)++i.args else []
def twoL(i:InsD)(k:Nat):List Int:=([i.a,i.b].take k).filter fun x=>x != 0
theorem twoL_len(i:InsD)(k:Nat):(twoL i k).length≤2:=by
 have h1:=List.length_filter_le (fun x:Int=>x != 0) ([i.a,i.b].take k)
 have h2:=List.length_take_le k [i.a,i.b]
 have h3:([i.a,i.b].take k).length≤2:=by rw[List.length_take];simp;omega
 exact Nat.le_trans h1 h3
theorem twoL_step(i:InsD)(k:Nat)(x:Int)(h: [i.a,i.b][k]? =some x):twoL i (k+1)=if x != 0 then twoL i k++ [x] else twoL i k:=by
 unfold twoL
 rw[List.take_add_one,h,List.filter_append]
 cases hx:(x != 0)<;>simp[hx]
theorem ints_news{w:World}{a:Option Addr}{n:Nat}{xs:List Int}(h:Ints w a n xs):∀j u,(xs.map (Value.int .i64))[j]? =some u→∃ad,a=some ad∧w.cell? (ad.add j)=some u:=h.news
theorem index_two(w:World)(x y:Int):(Instr.index 63 (.agg #[.int .i64 x,.int .i64 y]) (.int .i64 0)).run Tryz.prog w=.ok (.int .i64 x) w∧(Instr.index 63 (.agg #[.int .i64 x,.int .i64 y]) (.int .i64 1)).run Tryz.prog w=.ok (.int .i64 y) w:=by
 have hz:(sizeOf 3).run Tryz.prog w=.ok 1 w:=Tryz.sizeOf3 w
 have p0:(part 3 #[.int .i64 x,.int .i64 y] 0).run Tryz.prog w=.ok (.int .i64 x) w:=part_int0 _ _ _ w rfl
 have p1:(part 3 #[.int .i64 x,.int .i64 y] 1).run Tryz.prog w=.ok (.int .i64 y) w:=part_int0 _ _ _ w rfl
 constructor
 ·simp[Instr.index,asIntOf,run_underlying (w:=w) Tryz.underlying63,hz,p0,Result.andThen]
 ·simp[Instr.index,asIntOf,run_underlying (w:=w) Tryz.underlying63,hz,p1,Result.andThen]
theorem readsI_any(i:InsD)(aa:Option Addr)(na ca:Nat)(w:World)(h:Ints w aa na i.args)(h1:I64 i.a)(h2:I64 i.b)(h3:I64 i.imm)(h4:I64 i.callee)(h5:na≤1000000):
  Calls Tryz.prog 99 #[insV i aa na ca] w (IntsPost w (readsI i)):=by
 have H:=Lib.hid h
 have HL:=Lib.hid h.1
 have H1:=Lib.hid h1
 have H2:=Lib.hid h2
 have HC:=Lib.hid (fun W (hb:Below w.heap.size w W)=>isIns_any i aa na ca W (h.ext hb) h1 h2 h3 h4)
 have hix:=fun w=>(index_two w i.a i.b).1
 have hiy:=fun w=>(index_two w i.a i.b).2
 have HX:Hid (∀q∈i.args,I64 q):=fun q hq=>by
  obtain⟨k,hk,rfl⟩:=List.mem_iff_getElem.1 hq;obtain⟨_,_,_,_,hi⟩:=h.2.2 k (by rw[←h.1];exact hk);rw[List.getD_eq_getElem?_getD,List.getElem?_eq_getElem hk] at hi;exact hi
 clear h h1 h2 h3 h4
 cases hr:isInsB i with
 |false=>
  have HR:=Lib.hid hr;clear hr
  go_enter Tryz.func99,Tryz.ntmps99
  go_wp2_with (
   (go_at_call 113
    refine(HC.out _ (ext_alloc w _)).mono ?_;rintro e w1 ⟨rfl,hb1⟩;rw[HR.out];have HB1:=Lib.hid (ext_trans (ext_alloc w _) hb1)
    clear hb1))
  go_ret
  have e:readsI i= []:=by unfold readsI;rw[HR.out];rfl
  rw[e];exact⟨_,rfl,OwnI.nil _ _,HB1.out⟩
 |true=>
  have HR:=Lib.hid hr;clear hr
  go_enter Tryz.func99,Tryz.ntmps99
  go_wp2_with (
   (go_at_call 113
    refine(HC.out _ (ext_alloc w _)).mono ?_;rintro e w1 ⟨rfl,hb1⟩;rw[HR.out];have hx1:=block_ext hb1 (heap_alloc_new w (insO i aa na ca));have HX1:=Lib.hid hx1;have x2:w1.cell? ⟨w.heap.size,2,none⟩=some (.int .i64 i.a):=(by rw[cell_of_row _ _ _ _ _ _ hx1];rfl)
    have x3:w1.cell? ⟨w.heap.size,3,none⟩=some (.int .i64 i.b):=(by rw[cell_of_row _ _ _ _ _ _ hx1];rfl)
    have HB1:=Lib.hid (ext_trans (ext_alloc w _) hb1)
    clear hb1 hx1))
  have hsz1:w.heap.size<w1.heap.size:=(Array.getElem?_eq_some_iff.1 HX1.out).1;have HSZ:=Lib.hid hsz1;clear hsz1
  go_loopw [2,4,13] (fun v _ t wr=>∃k,k≤2∧t=.int .i64 (k:Nat)∧Hid (wr.ownsRow w1.heap.size 3 1 v (twoL i k).length ((twoL i k).map (Value.int .i64)))∧Hid (Below w1.heap.size w1 wr)) (fun _ _ t _=>2-(intOf t).toNat)
  case atStart=>exact⟨0,by omega,rfl,World.ownsRow_nil _ _ _ _,Below.refl _ _⟩
  case round=>
   obtain⟨k,hk,rfl,HO,HB⟩:=hrel;clear x2 x3;have hl2:=twoL_len i k;by_cases hlt:k<2
   ·obtain rfl|rfl:k=0∨k=1:=by omega
    ·by_cases hx:i.a=0
     ·have hb:(i.a != 0)=false:=by simpa using hx
      have HT:Hid (twoL i 1=twoL i 0):=by rw[Hid,twoL_step i 0 (i.a) rfl,hb];rfl
      clear hx;go_wp2
      go_roundw
      case rel=>exact⟨1,by omega,by go_num,by rw[Hid,HT.out];exact HO.out,HB⟩
      case measure=>simp[intOf]
     ·have hb:(i.a != 0)=true:=by simpa using hx
      have HT:Hid (twoL i 1=twoL i 0++ [i.a]):=by rw[Hid,twoL_step i 0 (i.a) rfl,hb];rfl
      clear hx;generalize twoL i 0=ls at *;obtain⟨av,cv,rfl⟩:=row_form HO.out
      go_wp2_with (
       (at_builtin
        refine wpList_append1 rfl wr (.tmp 18) (.tmp 20) 22 3 rfl w1.heap.size _ 1 8 Tryz.underlying22 infoI rfl (by omega) (.slice av ls.length cv) ls.length _ [.int .i64 (i.a)] rfl HO.out wr.heap.size rfl rfl rfl (by simp[Value.oneCell']) (by simp only[maxLen];omega) (by omega) HB.out.size ?_;intro g2 cap w3 hown3 hgr3 hat3;have HO3:Hid (w3.ownsRow w1.heap.size 3 1 (.slice (some ⟨g2,0,none⟩) (ls.length+1) cap) (ls++ [i.a]).length ((ls++ [i.a]).map (Value.int .i64))):=(by rw[Hid,List.map_append,List.length_append];exact hown3)
        have HB3:Hid (Below w1.heap.size w1 w3):=(HB.out.grown hgr3 HB.out.size (fun q e=>(HO.out.lt q e).1))
        clear hown3 hgr3 hat3))
      go_roundw
      case rel=>exact⟨1,by omega,by go_num,by rw[Hid,HT.out];exact HO3.out,HB3⟩
      case measure=>simp[intOf]
    ·by_cases hx:i.b=0
     ·have hb:(i.b != 0)=false:=by simpa using hx
      have HT:Hid (twoL i 2=twoL i 1):=by rw[Hid,twoL_step i 1 (i.b) rfl,hb];rfl
      clear hx;go_wp2
      go_roundw
      case rel=>exact⟨2,by omega,by go_num,by rw[Hid,HT.out];exact HO.out,HB⟩
      case measure=>simp[intOf]
     ·have hb:(i.b != 0)=true:=by simpa using hx
      have HT:Hid (twoL i 2=twoL i 1++ [i.b]):=by rw[Hid,twoL_step i 1 (i.b) rfl,hb];rfl
      clear hx;generalize twoL i 1=ls at *;obtain⟨av,cv,rfl⟩:=row_form HO.out
      go_wp2_with (
       (at_builtin
        refine wpList_append1 rfl wr (.tmp 18) (.tmp 20) 22 3 rfl w1.heap.size _ 1 8 Tryz.underlying22 infoI rfl (by omega) (.slice av ls.length cv) ls.length _ [.int .i64 (i.b)] rfl HO.out wr.heap.size rfl rfl rfl (by simp[Value.oneCell']) (by simp only[maxLen];omega) (by omega) HB.out.size ?_;intro g2 cap w3 hown3 hgr3 hat3;have HO3:Hid (w3.ownsRow w1.heap.size 3 1 (.slice (some ⟨g2,0,none⟩) (ls.length+1) cap) (ls++ [i.b]).length ((ls++ [i.b]).map (Value.int .i64))):=(by rw[Hid,List.map_append,List.length_append];exact hown3)
        have HB3:Hid (Below w1.heap.size w1 w3):=(HB.out.grown hgr3 HB.out.size (fun q e=>(HO.out.lt q e).1))
        clear hown3 hgr3 hat3))
      go_roundw
      case rel=>exact⟨2,by omega,by go_num,by rw[Hid,HT.out];exact HO3.out,HB3⟩
      case measure=>simp[intOf]
   ·obtain rfl:k=2:=by omega
    have HT:Hid (readsI i=twoL i 2++i.args):=by rw[Hid];unfold readsI;rw[HR.out,if_pos rfl];rfl
    have HI2:Hid (∀q∈twoL i 2,I64 q):=fun q hq=>by
     have:=(List.mem_filter.1 hq).1;simp at this;rcases this with rfl|rfl
     ·exact H1.out
     ·exact H2.out
    have hxr:=block_ext HB.out HX1.out;have x6:wr.cell? ⟨w.heap.size,6,none⟩=some (.slice aa na ca):=by rw[cell_of_row _ _ _ _ _ _ hxr];rfl
    have HHr:=Lib.hid (H.out.ext (ext_trans HB1.out HB.out));have hsz:=HSZ.out;clear hxr HC HX1;generalize twoL i 2=ls at *;obtain⟨av,cv,rfl⟩:=row_form HO.out
    go_wp2_with (
     (at_builtin
      refine wpList_appendS wr rfl (.tmp 23) (.tmp 25) 22 3 rfl w1.heap.size (.int .i64 0) 8 Tryz.underlying22 infoI rfl (.slice av ls.length cv) ls.length _ rfl HO.out aa na ca rfl (i.args.map (Value.int .i64)) (by rw[List.length_map,HL.out]) (ints_news HHr.out) (by intro u hu;obtain⟨q,_,rfl⟩:=List.mem_map.1 hu;rfl) (by simp only[maxLen];omega) (by omega) HB.out.size ?_;intro v3 w3 hown3 hgr3 hat3;have HO3:Hid (w3.ownsRow w1.heap.size 3 1 v3 (readsI i).length ((readsI i).map (Value.int .i64))):=(by rw[Hid,HT.out,List.map_append,List.length_append,HL.out];exact hown3)
      have HB3:Hid (Below w.heap.size w w3):=(ext_trans HB1.out (HB.out.grown hgr3 HB.out.size (fun q e=>(HO.out.lt q e).1)))
      clear hown3 hgr3 hat3))
    go_ret
    have hq:∀q∈readsI i,I64 q:=fun q hq=>by
     rw[HT.out] at hq;rcases List.mem_append.1 hq with hq|hq
     ·exact HI2.out q hq
     ·exact HX.out q hq
    have hle:(readsI i).length≤1000002:=by rw[HT.out,List.length_append,HL.out];omega
    have hoI:OwnI w3 w1.heap.size v3 (readsI i):=⟨HO3.out,hq,by omega⟩
    exact⟨v3,rfl,hoI.mono HB1.out.size,HB3.out⟩
def needsT(t:TermD):List Int:=if termB t&&t.a != 0 then [t.a] else []
theorem needsT_any(t:TermD)(w:World)(h:TermOK t):Calls Tryz.prog 79 #[termV t] w (IntsPost w (needsT t)):=by
 have HA:Hid (I64 t.a):=h.2.1
 have HT:=Lib.hid (fun W=>isTerm_any t W h)
 clear h
 cases hb:termB t with
 |false=>
  have HE:Hid (needsT t= []):=by rw[Hid,needsT,hb];rfl
  go_enter Tryz.func79,Tryz.ntmps79
  go_wp2_with (
   (go_at_call 88
    refine(HT.out _).mono ?_;rintro e w1 ⟨rfl,hb1⟩;rw[hb];have HB1:=Lib.hid (ext_trans (ext_alloc w _) hb1)
    clear hb1))
  go_ret
  rw[HE.out];exact⟨_,rfl,OwnI.nil _ _,HB1.out⟩
 |true=>
  by_cases h0:t.a=0
  ·have b0:(t.a==0)=true:=by simpa using h0
   have HE:Hid (needsT t= []):=by rw[Hid,needsT,h0];simp
   clear h0
   go_enter Tryz.func79,Tryz.ntmps79
   go_wp2_with (
    (go_at_call 88
     refine(HT.out _).mono ?_;rintro e w1 ⟨rfl,hb1⟩;rw[hb];have hx1:=block_ext hb1 (heap_alloc_new w (termO t));have x1:w1.cell? ⟨w.heap.size,1,none⟩=some (.int .i64 t.a):=(by rw[cell_of_row _ _ _ _ _ _ hx1];rfl)
     have HB1:=Lib.hid (ext_trans (ext_alloc w _) hb1)
     clear hb1 hx1))
   go_ret
   rw[HE.out];exact⟨_,rfl,OwnI.nil _ _,HB1.out⟩
  ·have b0:(t.a==0)=false:=by simpa using h0
   have HE:Hid (needsT t= [t.a]):=by rw[Hid,needsT,hb];simp[h0]
   clear h0
   go_enter Tryz.func79,Tryz.ntmps79
   go_wp2_with (
    (go_at_call 88
     refine(HT.out _).mono ?_;rintro e w1 ⟨rfl,hb1⟩;rw[hb];have hx1:=block_ext hb1 (heap_alloc_new w (termO t));have x1:w1.cell? ⟨w.heap.size,1,none⟩=some (.int .i64 t.a):=(by rw[cell_of_row _ _ _ _ _ _ hx1];rfl)
     have HB1:=Lib.hid (ext_trans (ext_alloc w _) hb1)
     clear hb1 hx1))
   go_ret
   rw[HE.out];refine⟨_,rfl,OwnI.mono (base:=w1.heap.size) ?_ HB1.out.size,ext_trans HB1.out (ext_alloc _ _)⟩;exact⟨⟨rfl,.inr ⟨w1.heap.size,1,#[.int .i64 t.a],rfl,Nat.le_refl _,heap_alloc_new _ _,Nat.le_refl _,by decide,rfl,rfl⟩⟩,fun x hx=>by rw[List.mem_singleton] at hx;subst hx;exact HA.out,by simp⟩
end

section
open Go.RowKit
theorem ownI_pop{w:World}{base:Nat}{g c:Nat}{xs:List Int}{x:Int}(h:OwnI w base (.slice (some ⟨g,0,none⟩) (xs.length+1) c) (xs++ [x])):OwnI w base (.slice (some ⟨g,0,none⟩) xs.length c) xs:=by
 refine⟨⟨by simp[intVals],?_⟩,fun z hz=>h.2.1 z (by simp[hz]),by have:=h.2.2;simp at this;omega⟩
 rcases h.1.2 with ⟨hv,_⟩|⟨g',cap,cur,hv,hb,hh,h1,h2,h3,h4⟩
 ·cases hv
 ·injection hv with e1 e2 e3;injection e1 with e1;injection e1 with e1 _ _;subst e1 e3;refine .inr ⟨g,c,cur,rfl,hb,hh,by simp at h1;omega,h2,h3,?_⟩;have h5:(cur.toList.take ((xs++ [x]).length*1)).take xs.length=(intVals (xs++ [x])).take xs.length:=by rw[h4]
  rw[List.take_take] at h5;simpa[intVals] using h5
theorem ownI_last{w:World}{base:Nat}{g c:Nat}{xs:List Int}{x:Int}(h:OwnI w base (.slice (some ⟨g,0,none⟩) (xs.length+1) c) (xs++ [x])):w.cell? ⟨g,xs.length,none⟩=some (.int .i64 x):=by
 have h1:=h.ints
 obtain⟨b,o,e,hc,_⟩:=h1.2.2 xs.length (by omega)
 injection e with e
 injection e with e1 e2
 subst e1 e2
 rw[Nat.zero_add] at hc
 rw[hc]
 simp[List.getD_eq_getElem?_getD]
def WJ(next:Nat→List Nat)(f:Nat→Bool)(b:Nat)(w:World)(st seen:List Nat)(x:Option (Nat×Nat))(v:Value)(wr:World):Prop:=
 WInv next f b st (fun y=>seen.contains y) x∧seen.Nodup∧(∀y∈seen,y<200)∧wr.heap[w.heap.size+1]? =some (setO f)∧wr.heap[w.heap.size+1+1]? =some (setO fun y=>seen.contains y)∧
  OwnI wr (w.heap.size+1+1+1) v (intsN st)∧Below w.heap.size w wr
theorem Reach.lt{next:Nat→List Nat}{inn:Nat→Bool}{b y n:Nat}(h:Reach next inn b y)(hx:∀k y,y∈next k→y<200∧(inn y=true→y<n)):y<n:=by
 cases h with
 |one h1 h2=>exact(hx _ _ h1).2 h2
 |step _ h1 h2=>exact(hx _ _ h1).2 h2
theorem walk_at(d:WalkD)(b:Nat)(f:Nat→Bool)(ra:Option Addr)(rn rc:Nat)(L:List (List Nat))(next:Nat→List Nat)(w:World)(hb:b<200)(hrn:rn≤200)(hcf:Canon f)(hf:f b=true→b<rn)
  (hL:∀k,k<rn→L[k]? =some (next k)) (hx:∀k y,y∈next k→y<200∧(f y=true→y<rn)) (hw:NRows w ra rn L):
  Calls Tryz.prog 89 #[walkV d,.int .i64 (b:Int),.agg (setA f),.slice ra rn rc] w (SetPost w (walkF next f b)):=by
 have HC:=Lib.hid hcf
 have HF:=Lib.hid hf
 have HL:=Lib.hid hL
 have HX:=Lib.hid hx
 have HW:=Lib.hid hw
 clear hcf hf hL hx hw
 go_enter Tryz.func89,Tryz.ntmps89
 go_upto_region 1 with (fail)
 obtain⟨W,hW⟩:∃W,W=((w.alloc (walkO d)).alloc (setO f)).alloc (.cells Tryz.zeroCells141 141):=⟨_,rfl⟩
 rw[←hW]
 have hs:W.heap[w.heap.size+1]? =some (setO f):=by rw[hW,Below.heap_alloc _ _ _ (by simp)];exact heap_at _ _ _ (by simp)
 have hr:W.heap[w.heap.size+1+1]? =some (setO fun _=>false):=by rw[hW,heap_at _ _ _ (by simp),zero_set]
 have hB:Below w.heap.size w W:=by rw[hW];exact((ext_alloc _ _).alloc (by simp) _).alloc (by simp;omega) _
 have hWs:W.heap.size=w.heap.size+1+1+1:=by rw[hW];simp
 have HWs:=Lib.hid hWs
 have hc:=set_cell hs b hb
 clear hW hWs
 by_cases hfb:f b=true
 ·rw[hfb] at hc;have HS:=Lib.hid hs;have HR:=Lib.hid hr;have HB:=Lib.hid hB;have HFB:=Lib.hid hfb;clear hs hr hB hfb;go_wp2
  go_loopg [9] 201 (fun gg v wr=>∃(st seen:List Nat),st.length+200≤gg+seen.length∧st.length≤seen.length+1∧Hid (WJ next f b w st seen none v wr))
  case atStart=>
   refine⟨[b],[],by simp,by simp,by simpa using WInv.start next f b,by simp,by simp,?_,?_,?_,?_⟩
   ·exact(Below.heap_alloc _ _ _ (by rw[HWs.out];omega)).trans HS.out
   ·exact(Below.heap_alloc _ _ _ (by rw[HWs.out];omega)).trans HR.out
   ·exact ownI_lit (xs:=intsN [b]) rfl _ (by rw[HWs.out];omega) (intsN_ok [b] (by simp;omega)) (by simp[intsN])
   ·exact HB.out.alloc (by rw[HWs.out];omega) _
  case round=>
   obtain⟨st,seen,hm,hm2,HJ⟩:=hrel;clear hc HS HR HB HWs;rcases List.eq_nil_or_concat st with rfl|⟨st',x,rfl⟩
   ·obtain⟨h1,h2,h3,h4,h5,h6,h7⟩:=HJ.out;obtain⟨av,cv,rfl⟩:=h6.form;have HE:Hid ((fun y=>seen.contains y)=walkF next f b):=walkF_of HC.out HFB.out h1;rw[HE.out] at h5;have HS:=Lib.hid h5;have HB:=Lib.hid h7;clear h1 h2 h3 h4 h5 h6 h7 HJ hm
    go_wp2_with (first
     |(refine wpList_load_row rfl 141 _ rfl (w.heap.size+1+1) rfl 141 _ (0,0) _ HS.out Tryz.underlying141 rfl (by rw[setA_size];exact size_set) ?_)
     |(refine wpList_store_row rfl 141 _ _ rfl (w.heap.size+1+1) (setA (walkF next f b)) rfl rfl 141 _ HS.out (by rw[setA_size];exact size_set) rfl (setA_all _) ?_))
    exact bodyPost_ret (v:=.agg (setA (walkF next f b))) (by simp[results,Tryz.results89,asAddr,Act.put,load_set (setRow_heap _ _ _ _ _ _ HS.out)]) rfl ⟨rfl,below_setRow HB.out (by omega) _⟩
   ·obtain⟨h1,h2,h3,h4,h5,h6,h7⟩:=id HJ.out;rw[List.concat_eq_append] at h1 h6 hm hm2;have hst:intsN (st'++ [x])=intsN st'++ [(x:Int)]:=by simp[intsN]
    rw[hst] at h6;obtain⟨gb,cb,hv⟩:=own_form h6.1 (by simp);have hlen':(intsN st'++ [(x:Int)]).length=st'.length+1:=by simp[intsN]
    have hlen2:(intsN st').length=st'.length:=by simp[intsN]
    rw[hlen'] at hv;subst hv;rw[←hlen2] at h6;have hpop:=ownI_pop h6;have hlast:=ownI_last h6;rw[hlen2] at hpop hlast;have hcap:=h6.cap;have hxf:f x=true:=by
     rcases h1.src x (by simp) with e|e
     ·rw[e];exact HFB.out
     ·exact(h1.sound x e).inn
    have hxr:x<rn:=by
     rcases h1.src x (by simp) with e|e
     ·rw[e];exact HF.out HFB.out
     ·exact(h1.sound x e).lt HX.out
    obtain⟨bb,oo,xa,xc,rfl,hcr0,hir⟩:=HW.out.2.2 x (next x) (HL.out x hxr);have hcr:=cell_ext h7 hcr0;have hseen:seen.length≤200:=nodup_len 200 seen h2 h3;have hstl:=hm;simp only[List.length_append,List.length_cons,List.length_nil,Nat.zero_add] at hstl hm2
    have HJ2:Hid (WJ next f b w st' seen (some (x,0)) (.slice (some ⟨gb,0,none⟩) st'.length cb) wr):=
     ⟨h1.take x st' (fun z=>by simp[or_comm]),h2,h3,h4,h5,hpop,h7⟩
    have HIR:=Lib.hid hir;have hnl:(next x).length≤17592186044416:=hir.2.1;have hcb:st'.length+1≤cb:=by have:=hcap.1;omega
    have hcb2:cb≤9223372036854775807:=hcap.2.1;have hstn:st'.length≤1000:=by omega
    clear h1 h2 h3 h4 h5 h6 h7 HJ hm hst hlen' hlen2 hpop hir hxf hcap hcr0;go_wp2;obtain⟨wo,rfl⟩:∃wo:World,wo=wr:=⟨_,rfl⟩
    go_loopg [9,12,39] (next x).length (fun g2 v2 _ j wi=>∃(j':Nat) (st2 seen2:List Nat),j=.int .i64 (j':Int)∧j'≤(next x).length∧(next x).length≤g2+j'∧st2.length+seen.length=st'.length+seen2.length∧Hid (WJ next f b w st2 seen2 (some (x,j')) v2 wi))
    case atStart=>exact⟨0,st',seen,rfl,Nat.zero_le _,Nat.le_refl _,rfl,HJ2⟩
    case round=>
     obtain⟨j',st2,seen2,rfl,hj,hg2,hcnt,HJ⟩:=hrel;clear HJ2 hlast;obtain⟨h1,h2,h3,h4,h5,h6,h7⟩:=id HJ.out;obtain⟨va,vc,rfl⟩:=h6.form;have hseen2:seen2.length≤200:=nodup_len 200 seen2 h2 h3;by_cases hjl:j'<(next x).length
     ·have hyx:(next x).getD j' 0∈next x:=by rw[List.getD_eq_getElem?_getD,List.getElem?_eq_getElem hjl];exact List.getElem_mem _
      have hy:=(HX.out x _ hyx).1;obtain⟨b3,o3,rfl,hcy,_⟩:=(HIR.out.ext h7).2.2 j' hjl;have hey:(intsN (next x)).getD j' 0=(((next x).getD j' 0:Nat):Int):=by simp[intsN,List.getD_eq_getElem?_getD,hjl]
      rw[hey] at hcy;have hcf:=set_cell h4 _ hy;have hcs:=set_cell h5 _ hy;have hfs:=set_free h5 ((next x).getD j' 0);have hlS:=lt_of_heap h5;have hjl':(j':Int)<((next x).length:Int):=by omega
      clear hey hyx;by_cases hgo:f ((next x).getD j' 0)=true∧seen2.contains ((next x).getD j' 0)=false
      ·obtain⟨hg1,hg2'⟩:=hgo;have hns:(next x).getD j' 0∉seen2:=by simpa using hg2'
       have hP:=h1.push hjl hg1 (st2++ [(next x).getD j' 0]) (fun z=>by simp[or_comm]) (fun z=>((next x).getD j' 0 :: seen2).contains z) (fun z=>by simp);rw[hg1] at hcf;simp only[hg2'] at hcs;have HP:=Lib.hid hP;have HN:=Lib.hid hns;have e1:(fun k=>if k=(next x).getD j' 0 then true else seen2.contains k)=(fun z=>((next x).getD j' 0 :: seen2).contains z):=by
        funext k
        by_cases e:k=(next x).getD j' 0
        ·simp[e]
        ·simp[e,List.contains_cons]
       have HS1:=Lib.hid (store_to (b:=true) h5 hy e1);have HF1:=Lib.hid (grown_row (grown_setCell wr (w.heap.size+1+1) ((next x).getD j' 0) (.bool true)) h4 (by simp))
       have HO1:=Lib.hid (h6.kept (grown_setCell wr (w.heap.size+1+1) ((next x).getD j' 0) (.bool true)) (by
        rcases hvb:(Value.slice va (intsN st2).length vc).ownBlock with _|kb
        ·exact .inl rfl
        ·have:=(h6.1.lt kb hvb).1;refine .inr ?_;intro e;injection e with e
         omega))
       have HB1:=Lib.hid (h7.setCell (p:=⟨w.heap.size+1+1,(next x).getD j' 0,none⟩) (by simp;omega) (.bool true));have H2:=Lib.hid h2;have H3:=Lib.hid h3;have hst2:(intsN st2).length=st2.length:=by simp[intsN]
       have hsl:st2.length≤1000:=by omega
       have hsl2:(intsN st2).length≤1000:=by omega
       clear hg1 hg2' hns hP e1 h1 h2 h3 h4 h5 h6 h7 HJ;generalize hyy:(next x).getD j' 0=y at*
       go_wp2_with (
        (at_builtin
         refine wpList_append1 rfl (wr.setCell ⟨w.heap.size+1+1,y,none⟩ (.bool true)) (.tmp 54) (.tmp 56) 22 3 rfl (w.heap.size+1+1+1) _ 1 8 Tryz.underlying22 infoI rfl (by omega) (.slice va (intsN st2).length vc) (intsN st2).length _ [.int .i64 (y:Int)] rfl HO1.out.1 wr.heap.size (by simp) rfl rfl (by simp[Value.oneCell']) (by simp only[maxLen];omega) (by omega) (by simp;omega) ?_;intro g cap w2 hown2 hg2 hat2;have HO2:=Lib.hid hown2;have HG2:=Lib.hid hg2
         clear hown2 hg2 hat2))
       have hrow:∀(k:Nat),k<w.heap.size+1+1+1→¬(Value.slice va (intsN st2).length vc).ownBlock=some k:=fun k hk e=>by
        have:=(HO1.out.1.lt k e).1;omega
       go_roundg ((next x).length-(j'+1))
       case measure=>omega
       case rel=>
        refine⟨j'+1,st2++ [y],y :: seen2,by go_num,by omega,by omega,by simp;omega,HP.out,List.nodup_cons.2 ⟨HN.out,H2.out⟩,?_,?_,?_,?_,?_⟩
        ·intro z hz;rcases List.mem_cons.1 hz with rfl|hz
         ·exact hy
         ·exact H3.out z hz
        ·exact grown_row HG2.out HF1.out (hrow _ (by omega))
        ·exact grown_row HG2.out HS1.out (hrow _ (by omega))
        ·have e2:intsN (st2++ [y])=intsN st2++ [(y:Int)]:=by simp[intsN]
         rw[e2];refine⟨?_,?_,by simp;omega⟩
         ·have e3:(intsN st2++ [(y:Int)]).length=(intsN st2).length+1:=by simp
          have e4:intVals (intsN st2++ [(y:Int)])=intVals (intsN st2)++ [.int .i64 (y:Int)]:=by simp[intVals]
          rw[e3,e4];have h9:=HO2.out;rw[hst2] at h9⊢;exact h9
         ·intro z hz;rcases List.mem_append.1 hz with h|h
          ·exact HO1.out.2.1 z h
          ·simp only[List.mem_singleton] at h;subst h;unfold I64;omega
        ·exact HB1.out.grown HG2.out (by simp;omega) (fun k e=>by have:=(HO1.out.1.lt k e).1;omega)
      ·have HJ3:Hid (WJ next f b w st2 seen2 (some (x,j'+1)) (.slice va (intsN st2).length vc) wr):=by
        refine⟨h1.skip hjl (fun hi=>?_),h2,h3,h4,h5,h6,h7⟩;cases hb2:seen2.contains ((next x).getD j' 0) with
        |true=>rfl
        |false=>exact absurd ⟨hi,hb2⟩ hgo
       have hgo':f ((next x).getD j' 0)=true→seen2.contains ((next x).getD j' 0)=true:=fun hi=>by
        cases hb2:seen2.contains ((next x).getD j' 0) with
        |true=>rfl
        |false=>exact absurd ⟨hi,hb2⟩ hgo
       clear h1 h2 h3 h4 h5 h6 h7 HJ hgo;generalize hyy:(next x).getD j' 0=y at *;cases hfy:f y with
       |true=>
        have hsy:=hgo' hfy;rw[hfy] at hcf;simp only[hsy] at hcs;clear hgo' hsy hfy;go_wp2
        go_roundg ((next x).length-(j'+1))
        case measure=>omega
        case rel=>exact⟨j'+1,st2,seen2,by go_num,by omega,by omega,by omega,HJ3⟩
       |false=>
        rw[hfy] at hcf;clear hgo' hfy;go_wp2
        go_roundg ((next x).length-(j'+1))
        case measure=>omega
        case rel=>exact⟨j'+1,st2,seen2,by go_num,by omega,by omega,by omega,HJ3⟩
     ·obtain rfl:j'=(next x).length:=by omega
      have HJ3:Hid (WJ next f b w st2 seen2 none (.slice va (intsN st2).length vc) wr):=⟨h1.fin (Nat.le_refl _),h2,h3,h4,h5,h6,h7⟩
      clear h1 h2 h3 h4 h5 h6 h7 HJ;go_wp2
      go_roundg (st2.length+200-seen2.length)
      case measure=>omega
      case rel=>exact⟨st2,seen2,by omega,by omega,HJ3⟩
 ·have hfb':f b=false:=by simpa using hfb
  rw[hfb'] at hc;have HE:Hid (walkF next f b=fun _=>false):=walkF_no hfb';have HR:=Lib.hid hr;have HB:=Lib.hid hB;clear hfb hfb' hs hr hB
  go_wp2_with (first
   |(refine wpList_load_row rfl 141 _ rfl (w.heap.size+1+1) rfl 141 _ (0,0) _ HR.out Tryz.underlying141 rfl (by rw[setA_size];exact size_set) ?_)
   |(refine wpList_store_row rfl 141 _ _ rfl (w.heap.size+1+1) (setA fun _=>false) rfl rfl 141 _ HR.out (by rw[setA_size];exact size_set) rfl (setA_all _) ?_))
  exact bodyPost_ret (v:=.agg (setA fun _=>false)) (by simp[results,Tryz.results89,asAddr,Act.put,load_set (setRow_heap _ _ _ _ _ _ HR.out)]) rfl ⟨by rw[HE.out],below_setRow HB.out (by omega) _⟩
theorem walk_any(d:WalkD)(b:Nat)(f:Nat→Bool)(ra:Option Addr)(rn rc:Nat)(L:List (List Nat))(next:Nat→List Nat)(w:World)(hb:b<200)(hrn:rn≤200)(hf:∀y,f y=true→y<rn)
  (hL:∀k,k<rn→L[k]? =some (next k)) (hx:∀k y,y∈next k→y<200) (hw:NRows w ra rn L):
  Calls Tryz.prog 89 #[walkV d,.int .i64 (b:Int),.agg (setA f),.slice ra rn rc] w (SetPost w (walkF next f b)):=
 walk_at d b f ra rn rc L next w hb hrn (fun y hy=>by have:=hf y hy;omega) (hf b) hL (fun k y hy=>⟨hx k y hy,hf y⟩) hw
end

section
open Go.RowKit
def frameGo:Act→List (Option Nat)→Nat→(Nat→Value)→Act
 |a,[],_,_=>a
 |a,none :: ds,k,ν=>frameGo a ds (k+1) ν
 |a,some d :: ds,k,ν=>frameGo {tmps:=a.tmps.setIfInBounds d (ν k),defers:=a.defers} ds (k+1) ν
def frameOf(a:Act)(ds:List (Option Nat))(ν:Nat→Value):Act:=frameGo a ds 0 ν
def updN{α:Type}(ν:Nat→α)(i:Nat)(v:α):Nat→α:=fun j=>if j=i then v else ν j
theorem put_some(a:Act)(d:Nat)(v:Value):a.put (some d) v={tmps:=a.tmps.setIfInBounds d v,defers:=a.defers}:=rfl
theorem put_none(a:Act)(v:Value):a.put none v=a:=rfl
theorem frameGo_congr:∀(ds:List (Option Nat)) (a:Act) (k:Nat) (ν ν':Nat→Value),(∀j,k≤j→ν j=ν' j)→frameGo a ds k ν=frameGo a ds k ν'
 | [],_,_,_,_,_=>rfl
 |none :: ds,a,k,ν,ν',h=>frameGo_congr ds a (k+1) ν ν' (fun j hj=>h j (by omega))
 |some d :: ds,a,k,ν,ν',h=>by
  simp only[frameGo];rw[h k (Nat.le_refl _)];exact frameGo_congr ds _ (k+1) ν ν' (fun j hj=>h j (by omega))
theorem frameGo_put:∀(ds:List (Option Nat)) (a:Act) (k:Nat) (ν:Nat→Value) (d:Nat) (v:Value),some d∉ds→(frameGo a ds k ν).put (some d) v=frameGo (a.put (some d) v) ds k ν
 | [],_,_,_,_,_,_=>rfl
 |none :: ds,a,k,ν,d,v,h=>frameGo_put ds a (k+1) ν d v (fun hm=>h (by simp[hm]))
 |some d' :: ds,a,k,ν,d,v,h=>by
  have hne:d'≠d:=fun e=>h (by simp[e]);simp only[frameGo];rw[frameGo_put ds _ (k+1) ν d v (fun hm=>h (by simp[hm]))]
  congr 1
  simp only[put_some];rw[Array.setIfInBounds_comm _ _ hne]
theorem frameGo_upd:∀(ds:List (Option Nat)) (a:Act) (k:Nat) (ν:Nat→Value) (i d:Nat) (v:Value),(ds.filterMap id).Nodup→ds[i]? =some (some d)→(frameGo a ds k ν).put (some d) v=frameGo a ds k (updN ν (k+i) v)
 | [],_,_,_,i,_,_,_,h=>by simp at h
 |none :: ds,a,k,ν,i,d,v,hn,h=>by
  cases i with
  |zero=>simp at h
  |succ i=>
   simp only[List.filterMap_cons_none,id_eq] at hn;have:=frameGo_upd ds a (k+1) ν i d v hn (by simpa using h);simp only[frameGo];rw[this,show k+1+i=k+(i+1) by omega]
 |some d' :: ds,a,k,ν,i,d,v,hn,h=>by
  simp only[List.filterMap_cons,id_eq,List.nodup_cons] at hn;have hmem:∀x,some x∈ds→x∈ds.filterMap id:=fun x hx=>List.mem_filterMap.2 ⟨some x,hx,rfl⟩;cases i with
  |zero=>
   simp only[List.getElem?_cons_zero,Option.some.injEq] at h;subst h;simp only[frameGo];rw[frameGo_put ds _ (k+1) ν d' v (fun hm=>hn.1 (hmem _ hm))];simp only[put_some,Array.setIfInBounds_setIfInBounds];have e:updN ν (k+0) v k=v:=by simp[updN]
   rw[e];exact frameGo_congr ds _ (k+1) ν _ (fun j hj=>by simp only[updN];rw[if_neg (by omega)])
  |succ i=>
   simp only[frameGo];rw[frameGo_upd ds _ (k+1) ν i d v hn.2 (by simpa using h),show k+1+i=k+(i+1) by omega];have e:updN ν (k+(i+1)) v k=ν k:=by simp only[updN];rw[if_neg (by omega)]
   rw[e]
theorem frame_put(a:Act)(ds:List (Option Nat))(ν:Nat→Value)(i:Nat)(v:Value)(hn:(ds.filterMap id).Nodup)(hi:i<ds.length):(frameOf a ds ν).put (ds.getD i none) v=frameOf a ds (updN ν i v):=by
 have hg:ds[i]? =some (ds.getD i none):=by rw[List.getD_eq_getElem?_getD,List.getElem?_eq_getElem hi];rfl
 cases hd:ds.getD i none with
 |some d=>
  rw[hd] at hg;have:=frameGo_upd ds a 0 ν i d v hn hg;rw[Nat.zero_add] at this;exact this
 |none=>
  rw[hd] at hg;show frameOf a ds ν=_;unfold frameOf;have key:∀(ds:List (Option Nat)) (a:Act) (k i:Nat),ds[i]? =some none→frameGo a ds k ν=frameGo a ds k (updN ν (k+i) v):=by
   intro ds
   induction ds with
   |nil=>intro a k i h;simp at h
   |cons x ds ih=>
    intro a k i h;cases i with
    |zero=>
     simp only[List.getElem?_cons_zero,Option.some.injEq] at h;subst h;simp only[frameGo];exact frameGo_congr ds a (k+1) ν _ (fun j hj=>by simp only[updN];rw[if_neg (by omega)])
    |succ i=>
     have h':ds[i]? =some none:=by simpa using h
     have e2:k+1+i=k+(i+1):=by omega
     cases x with
     |none=>simp only[frameGo];rw[ih a (k+1) i h',e2]
     |some d'=>
      simp only[frameGo];have e:updN ν (k+(i+1)) v k=ν k:=by simp only[updN];rw[if_neg (by omega)]
      rw[ih _ (k+1) i h',e2,e]
  have:=key ds a 0 i hg
  rwa [Nat.zero_add] at this
def frame0(a:Act)(ds:List (Option Nat)):Nat→Value:=fun k=>match ds.getD k none with
 |some d=>a.tmps.getD d undef
 |none=>undef
theorem set_self(t:Array Value)(d:Nat):t.setIfInBounds d (t.getD d undef)=t:=by
 apply Array.ext_getElem?
 intro k
 rw[Array.getElem?_setIfInBounds]
 by_cases e:d=k
 ·subst e;rw[if_pos rfl];by_cases h:d<t.size
  ·simp[h,Array.getD_eq_getD_getElem?]
  ·rw[if_neg h,Array.getElem?_eq_none (by omega)]
 ·rw[if_neg e]
theorem frame_start(a:Act)(ds:List (Option Nat)):frameOf a ds (frame0 a ds)=a:=by
 have key:∀(ds:List (Option Nat)) (k:Nat) (ν:Nat→Value),(∀j d,ds[j]? =some (some d)→ν (k+j)=a.tmps.getD d undef)→frameGo a ds k ν=a:=by
  intro ds
  induction ds with
  |nil=>intro k ν _;rfl
  |cons x ds ih=>
   intro k ν h;have h':∀j d,ds[j]? =some (some d)→ν (k+1+j)=a.tmps.getD d undef:=fun j d hj=>by
    have:=h (j+1) d (by simpa using hj)
    rwa [show k+(j+1)=k+1+j by omega] at this
   cases x with
   |none=>exact ih (k+1) ν h'
   |some d=>
    have h0:=h 0 d (by simp);rw[Nat.add_zero] at h0;simp only[frameGo];rw[h0,set_self];exact ih (k+1) ν h'
 refine key ds 0 _ (fun j d hj=>?_)
 rw[Nat.zero_add]
 unfold frame0
 have:ds.getD j none=some d:=by rw[List.getD_eq_getElem?_getD,hj];rfl
 rw[this]
theorem getD_set_at(L:Array Bool)(i:Nat)(h:i<L.size):(L.setIfInBounds i true).getD i false=true:=by
 rw[Array.getD_eq_getD_getElem?,Array.getElem?_setIfInBounds_self_of_lt h]
 rfl
theorem filt_one(p p':Nat→Bool)(i:Nat)(hp:p i=true)(he:∀j,p' j=(j != i&&p j)):∀(L:List Nat),L.Nodup→i∈L→(L.filter p').length+1=(L.filter p).length:=by
 intro L
 induction L with
 |nil=>intro _ h;cases h
 |cons x L ih=>
  intro hn hm;rw[List.nodup_cons] at hn;by_cases e:x=i
  ·subst e;have h1:L.filter p'=L.filter p:=List.filter_congr fun j hj=>by
    rw[he];have:j≠x:=fun e=>hn.1 (e▸hj);simp[this]
   have h2:p' x=false:=by rw[he];simp
   simp[List.filter_cons,hp,h2,h1]
  ·have h2:p' x=p x:=by rw[he];simp[e]
   have:=ih hn.2 ((List.mem_cons.1 hm).resolve_left (fun h=>e h.symm));simp only[List.filter_cons,h2]
   split<;>simp_all
theorem filt_ge(m:Nat):∀n,((List.range n).filter fun j=> !decide (j<m)).length=n-m:=by
 intro n
 induction n with
 |zero=>simp
 |succ n ih=>
  rw[List.range_succ,List.filter_append,List.length_append,ih];by_cases h:n<m
  ·simp[h];omega
  ·simp[h];omega
def depB(l:List Oper)(i j:Nat):Bool:=((l[i]?).map fun o=>o.after.any fun e=>Region.binds .any e&&e.on==j).getD false
def freeOK(l:List Oper)(m:Nat)(ds:List (Option Nat)):Bool:=
 decide (ds.length=m∧m≤l.length∧(ds.filterMap id).Nodup)&&((List.range m).all fun i=>((l[i]?).map fun o=>o.dst==ds.getD i none&&o.after.all fun e=> !Region.binds .any e||decide (e.on<i)).getD false)&&
  ((List.range l.length).all fun j=>(decide (j<m)||(List.range j).all fun i=>reach l j i)&&((l[j]?).map fun o=>o.after.all fun e=> !Region.binds .any e||decide (e.on<j)).getD false)
inductive SpecK where
 |val (c:Value)
 |new (o:Obj)
 |any (p:Value→Nat→Nat→World→Prop)
abbrev Spec:=Nat→Value→Nat→Nat→World→Prop
def specK:SpecK→Value→Nat→Nat→World→Prop
 | .val c,v,_,_,_=>v=c
 | .new o,v,lo,hi,w=>v=.pointer (some ⟨lo,0,none⟩)∧lo<hi∧w.heap[lo]? =some o
 | .any p,v,lo,hi,w=>p v lo hi w
def specB(ks:List SpecK):Spec:=fun i v lo hi w=>specK (ks.getD i (.any fun _ _ _ _=>True)) v lo hi w
def monoK:SpecK→Prop
 | .any p=>∀v lo hi w w',Below w.heap.size w w'→p v lo hi w→p v lo hi w'
 |_=>True
theorem specB_mono{ks:List SpecK}(h:∀k∈ks,monoK k):∀i v lo hi w w',Below w.heap.size w w'→specB ks i v lo hi w→specB ks i v lo hi w':=by
 intro i v lo hi w w' hb hs
 unfold specB at*
 have hk:monoK (ks.getD i (.any fun _ _ _ _=>True)):=by
  rw[List.getD_eq_getElem?_getD];cases e:ks[i]? with
  |none=>exact fun _ _ _ _ _ _ h=>h
  |some k=>exact h k (List.mem_of_getElem? e)
 generalize ks.getD i (.any fun _ _ _ _=>True)=k at*
 cases k with
 |val c=>exact hs
 |new o=>exact⟨hs.1,hs.2.1,block_ext hb hs.2.2⟩
 |any p=>exact hk v lo hi w w' hb hs
section
variable {P:Program} {l:List Oper} {Q:Exit→Act→World→Prop}
theorem free_tail(m:Nat)(hok:∀j,m≤j→j<l.length→∀i,i<j→reach l j i=true)(hup:∀j o,l[j]? =some o→∀e∈o.after,Region.binds .any e=true→e.on<j):
  ∀(k j:Nat) (listed:Array Bool) (a:Act) (w:World),l.length-j=k→m≤j→j≤l.length→listed.size=l.length→(∀i,i<l.length→listed.getD i false=decide (i<j))→Closed l listed→wpList P l.toArray Q (l.drop j) a w→wpAny P .any l.toArray Q k listed a w:=by
 intro k
 induction k with
 |zero=>
  intro j listed a w hk hm hj hs hL hc h;have hr:Region.ready .any l.toArray listed= []:=by
   cases hr:Region.ready .any l.toArray listed with
   |nil=>rfl
   |cons i r=>
    have hi:i∈Region.ready .any l.toArray listed:=by rw[hr];simp
    obtain⟨h1,o,ho,_⟩:=mem_ready.1 hi;have hlt:i<l.length:=by have:=(Array.getElem?_eq_some_iff.1 ho).1;simpa using this
    have h2:=hL i hlt;have e:listed.getD i true=listed.getD i false:=by simp[hs,hlt]
    rw[e,h2] at h1;simp at h1;omega
  rw[List.drop_of_length_le (by omega)] at h;exact⟨hr,h⟩
 |succ k ih=>
  intro j listed a w hk hm hj hs hL hc h;have hjl:j<l.length:=by omega
  have hj0:l[j]? =some l[j]:=List.getElem?_eq_getElem hjl;have only:∀i∈Region.ready .any l.toArray listed,i=j:=fun i hi=>by
   obtain⟨h1,o,ho,_⟩:=mem_ready.1 hi;have hlt:i<l.length:=by have:=(Array.getElem?_eq_some_iff.1 ho).1;simpa using this
   have h2:=hL i hlt;have e:listed.getD i true=listed.getD i false:=by simp[hs,hlt]
   rw[e,h2] at h1;simp at h1;by_cases hij:i=j
   ·exact hij
   ·obtain⟨n,hn⟩:=reach_sound (hok i (by omega) hlt j (by omega));have h3:=waits_ready hc hi hn;rw[hL j hjl] at h3;simp at h3
  have hrj:j∈Region.ready .any l.toArray listed:=by
   refine mem_ready.2 ⟨?_,l[j],by simp[hjl],fun e he hb=>?_⟩
   ·have e:listed.getD j true=listed.getD j false:=by simp[hs,hjl]
    rw[e,hL j hjl];simp
   ·have hon:=hup j l[j] hj0 e he hb;rw[hL e.on (by omega)];simpa using hon
  refine⟨fun h0=>absurd hrj (by rw[h0];simp),fun i hi=>?_⟩;obtain rfl:=only i hi;rw[List.drop_eq_getElem_cons hjl] at h;have hget:l.toArray[i]? =some l[i]:=by simp[hjl]
  unfold wpOp;simp only[hget];have hnext:∀a' w',wpList P l.toArray Q (l.drop (i+1)) a' w'→wpAny P .any l.toArray Q k (listed.setIfInBounds i true) a' w':=fun a' w' h'=>by
   refine ih (i+1) _ a' w' (by omega) (by omega) (by omega) (by simpa using hs) (fun q hq=>?_) (hc.set hrj) h';by_cases e:i=q
   ·subst e;rw[getD_set_at _ _ (by rw[hs];exact hjl)];simp
   ·rw[getD_set_ne false e,hL q hq];rw[decide_eq_decide];omega
  rw[wpList] at h
  split
  ·rename_i hw
   rw[if_pos hw] at h;exact h.imp (fun h=>Oper.wp_mono hnext h) id
  ·rename_i hw
   rw[if_neg hw] at h;exact hnext _ _ h
theorem free_any{P:Program}{l:List Oper}{Q:Exit→Act→World→Prop}(m:Nat)(ds:List (Option Nat))(hok:freeOK l m ds=true)(S:Spec)(a0:Act)(w0:World)
  (hmono:∀i v lo hi w w',Below w.heap.size w w'→S i v lo hi w→S i v lo hi w')
  (hops:∀i,i<m→∀(ν:Nat→Value) (lo hi:Nat→Nat) (w:World) (K:Act→World→Prop),Below w0.heap.size w0 w→(∀j,depB l i j=true→S j (ν j) (lo j) (hi j) w)→
    (∀v w',Below w.heap.size w w'→S i v w.heap.size w'.heap.size w'→K ((frameOf a0 ds ν).put (ds.getD i none) v) w')→wpOp P l.toArray Q i K (frameOf a0 ds ν) w)
  (hend:∀(ν:Nat→Value) (lo hi:Nat→Nat) (w:World),Below w0.heap.size w0 w→(∀i,i<m→S i (ν i) (lo i) (hi i) w)→(∀i,i<m→w0.heap.size≤lo i∧lo i≤hi i∧hi i≤w.heap.size)→
    (∀i j,i<m→j<m→i≠j→hi i≤lo j∨hi j≤lo i)→wpList P l.toArray Q (l.drop m) (frameOf a0 ds ν) w):
  wpAny P .any l.toArray Q l.length (Array.replicate l.length false) a0 w0:=by
 simp only[freeOK,Bool.and_eq_true,decide_eq_true_eq,List.all_eq_true,List.mem_range] at hok
 obtain⟨⟨⟨hds,hml,hnd⟩,h1⟩,h2⟩:=hok
 have hup:∀j o,l[j]? =some o→∀e∈o.after,Region.binds .any e=true→e.on<j:=fun j o hj e he hb=>by
  have hlt:j<l.length:=(List.getElem?_eq_some_iff.1 hj).1;have:=(h2 j hlt).2;rw[hj] at this;simp only[Option.map_some,Option.getD_some] at this;have:=(Array.all_eq_true'.1 this) e he;simpa[hb] using this
 have htail:∀j,m≤j→j<l.length→∀i,i<j→reach l j i=true:=fun j hj hlt i hi=>by
  have:=(h2 j hlt).1;simp only[Bool.or_eq_true,decide_eq_true_eq,List.all_eq_true,List.mem_range] at this;exact(this.resolve_left (by omega)) i hi
 have key:∀(fuel:Nat) (listed:Array Bool) (ν:Nat→Value) (lo hi:Nat→Nat) (w:World),((List.range l.length).filter fun j=> !listed.getD j true).length=fuel→listed.size=l.length→Closed l listed→
   (∀j,m≤j→listed.getD j false=false)→Below w0.heap.size w0 w→(∀i,i<m→listed.getD i false=true→S i (ν i) (lo i) (hi i) w∧w0.heap.size≤lo i∧lo i≤hi i∧hi i≤w.heap.size)→
   (∀i j,i<m→j<m→i≠j→listed.getD i false=true→listed.getD j false=true→hi i≤lo j∨hi j≤lo i)→wpAny P .any l.toArray Q fuel listed (frameOf a0 ds ν) w:=by
  intro fuel
  induction fuel with
  |zero=>
   intro listed ν lo hi w hf hs hc htl hB hS hD;by_cases hall:∀i,i<m→listed.getD i false=true
   ·have hL:∀i,i<l.length→listed.getD i false=decide (i<m):=fun i _=>by
     by_cases h:i<m
     ·rw[hall i h];simp[h]
     ·rw[htl i (by omega)];simp[h]
    have hcnt:l.length-m=0:=by
     rw[←hf,←filt_ge m l.length]
     congr 1
     refine List.filter_congr fun j hj=>?_;have hj:=List.mem_range.1 hj;have e:listed.getD j true=listed.getD j false:=by simp[hs,hj]
     rw[e,hL j hj]
    exact free_tail m htail hup 0 m listed _ w hcnt (Nat.le_refl _) hml hs hL hc (hend ν lo hi w hB (fun i h=>(hS i h (hall i h)).1) (fun i h=>(hS i h (hall i h)).2) (fun i j h h' hne=>hD i j h h' hne (hall i h) (hall j h')))
   ·exfalso;have⟨i,hi⟩:=Classical.not_forall.1 hall;have⟨him,hin⟩:=Classical.not_imp.1 hi;have hlt:i<l.length:=by omega
    have hmem:i∈(List.range l.length).filter fun j=> !listed.getD j true:=by
     rw[List.mem_filter,List.mem_range];refine⟨hlt,?_⟩;have e:listed.getD i true=listed.getD i false:=by simp[hs,hlt]
     rw[e];simpa using hin
    rw[List.eq_nil_of_length_eq_zero hf] at hmem;cases hmem
  |succ fuel ih=>
   intro listed ν lo hi w hf hs hc htl hB hS hD;by_cases hall:∀i,i<m→listed.getD i false=true
   ·have hL:∀i,i<l.length→listed.getD i false=decide (i<m):=fun i _=>by
     by_cases h:i<m
     ·rw[hall i h];simp[h]
     ·rw[htl i (by omega)];simp[h]
    have hcnt:l.length-m=fuel+1:=by
     rw[←hf,←filt_ge m l.length]
     congr 1
     refine List.filter_congr fun j hj=>?_;have hj:=List.mem_range.1 hj;have e:listed.getD j true=listed.getD j false:=by simp[hs,hj]
     rw[e,hL j hj]
    exact free_tail m htail hup (fuel+1) m listed _ w hcnt (Nat.le_refl _) hml hs hL hc (hend ν lo hi w hB (fun i h=>(hS i h (hall i h)).1) (fun i h=>(hS i h (hall i h)).2) (fun i j h h' hne=>hD i j h h' hne (hall i h) (hall j h')))
   · -- the least that is to come
     have hex:∀k,(∃i,i<m∧i≤k∧listed.getD i false=false)→∃i,i<m∧listed.getD i false=false∧∀j,j<i→listed.getD j false=true:=by
      intro k
      induction k with
      |zero=>
       rintro⟨i,h1,h2,h3⟩;exact⟨i,h1,h3,fun j hj=>by omega⟩
      |succ k ihk=>
       rintro⟨i,h1,h2,h3⟩;by_cases h:∃i,i<m∧i≤k∧listed.getD i false=false
       ·exact ihk h
       ·refine⟨i,h1,h3,fun j hj=>?_⟩;cases e:listed.getD j false with
        |true=>rfl
        |false=>exact absurd ⟨j,by omega,by omega,e⟩ h
     have⟨i1,hi1⟩:=Classical.not_forall.1 hall;have⟨him1,hin1⟩:=Classical.not_imp.1 hi1;obtain⟨i0,h0m,h0f,h0all⟩:=hex i1 ⟨i1,him1,Nat.le_refl _,by simpa using hin1⟩;have h0l:i0<l.length:=by omega
     have hr0:i0∈Region.ready .any l.toArray listed:=by
      refine mem_ready.2 ⟨?_,l[i0],by simp[h0l],fun e he hb=>h0all e.on (hup i0 l[i0] (List.getElem?_eq_getElem h0l) e he hb)⟩;have e:listed.getD i0 true=listed.getD i0 false:=by simp[hs,h0l]
      rw[e,h0f]
     refine⟨fun h=>absurd hr0 (by rw[h];simp),fun i hir=>?_⟩;obtain⟨hi1',o,ho,hdep⟩:=mem_ready.1 hir;have hil:i<l.length:=by have:=(Array.getElem?_eq_some_iff.1 ho).1;simpa using this
     have hif:listed.getD i false=false:=by
      have e:listed.getD i true=listed.getD i false:=by simp[hs,hil]
      rw[←e];exact hi1'
     have him:i<m:=by
      apply Classical.byContradiction;intro hge;obtain⟨n,hn⟩:=reach_sound (htail i (by omega) hil i0 (by omega));have h9:=waits_ready hc hir hn;rw[h0f] at h9;cases h9
     refine hops i him ν lo hi w _ hB (fun j hj=>?_) (fun v w' hb hsp=>?_)
     ·have ho':l[i]? =some o:=by simpa using ho
      simp only[depB,ho',Option.map_some,Option.getD_some] at hj;obtain⟨e,he,hbe⟩:=Array.any_eq_true'.1 hj;simp only[Bool.and_eq_true,beq_iff_eq] at hbe;have hlj:listed.getD j false=true:=hbe.2▸hdep e he hbe.1;have hji:j<i:=hbe.2▸hup i o ho' e he hbe.1;exact(hS j (by omega) hlj).1
     ·rw[frame_put a0 ds ν i v hnd (by omega)];have hsz:=hb.size;refine ih (listed.setIfInBounds i true) (updN ν i v) (updN lo i w.heap.size) (updN hi i w'.heap.size) w' ?_ (by simpa using hs) (hc.set hir) (fun j hj=>?_) (hB.trans (hb.mono hB.size)) (fun j hj hlj=>?_) (fun j k hj hk hne hlj hlk=>?_)
      ·have:=filt_one (fun j=> !listed.getD j true) (fun j=> !(listed.setIfInBounds i true).getD j true) i (by simp[hi1']) (fun j=>by
        by_cases e:i=j
        ·subst e;have:(listed.setIfInBounds i true).getD i true=true:=by
          have h1:=getD_set_at listed i (by rw[hs];exact hil);rw[Array.getD_eq_getD_getElem?] at h1⊢;cases h2:(listed.setIfInBounds i true)[i]? with
          |none=>rfl
          |some b=>rw[h2] at h1;exact h1
         simp[this]
        ·have e':(j != i)=true:=by simpa using fun h=>e h.symm
         rw[getD_set_ne true e,e',Bool.true_and]) (List.range l.length) List.nodup_range (List.mem_range.2 hil)
       omega
      ·rw[getD_set_ne false (by omega)];exact htl j hj
      ·by_cases e:i=j
       ·subst e;simp only[updN,if_pos rfl];exact⟨hsp,hB.size,hsz,Nat.le_refl _⟩
       ·have e':¬j=i:=fun h=>e h.symm;rw[getD_set_ne false e] at hlj;simp only[updN,if_neg e'];obtain⟨s1,s2,s3,s4⟩:=hS j hj hlj;exact⟨hmono j _ _ _ w w' hb s1,s2,s3,by omega⟩
      ·by_cases ej:i=j
       ·subst ej;have e':¬k=i:=fun h=>hne h.symm;rw[getD_set_ne false hne] at hlk;obtain⟨_,s2,s3,s4⟩:=hS k hk hlk;simp only[updN,if_pos rfl,if_neg e'];exact .inr s4
       ·have ej':¬j=i:=fun h=>ej h.symm;rw[getD_set_ne false ej] at hlj;obtain⟨_,s2,s3,s4⟩:=hS j hj hlj;by_cases ek:i=k
        ·subst ek;simp only[updN,if_pos rfl,if_neg ej'];exact .inl s4
        ·have ek':¬k=i:=fun h=>ek h.symm;rw[getD_set_ne false ek] at hlk;simp only[updN,if_neg ej',if_neg ek'];exact hD j k hj hk hne hlj hlk
 have h3:=key l.length (Array.replicate l.length false) (frame0 a0 ds) (fun _=>0) (fun _=>0) w0 (by
  have:(List.range l.length).filter (fun j=> !(Array.replicate l.length false).getD j true)=List.range l.length:=by
   rw[List.filter_eq_self];intro j hj;have:=List.mem_range.1 hj;simp[this]
  rw[this];simp) (by simp) (closed_none _) (fun j hj=>by
  by_cases h:j<l.length<;>simp[h]) (Below.refl _ _) (fun i hi h=>by
  by_cases h':i<l.length
  ·simp[h'] at h
  ·omega) (fun i j hi hj _ h=>by
  by_cases h':i<l.length
  ·simp[h'] at h
  ·omega)
 rwa [frame_start] at h3
theorem region_free{id:Nat}{a:Act}{w:World}(m:Nat)(ds:List (Option Nat))(hm:P.follows .mixedOrders=true)(hok:freeOK l m ds=true)(S:Spec)
  (hmono:∀i v lo hi w w',Below w.heap.size w w'→S i v lo hi w→S i v lo hi w')
  (hops:∀i,i<m→∀(ν:Nat→Value) (lo hi:Nat→Nat) (w':World) (K:Act→World→Prop),Below w.heap.size w w'→(∀j,depB l i j=true→S j (ν j) (lo j) (hi j) w')→
    (∀v w'',Below w'.heap.size w' w''→S i v w'.heap.size w''.heap.size w''→K ((frameOf a ds ν).put (ds.getD i none) v) w'')→wpOp P l.toArray Q i K (frameOf a ds ν) w')
  (hend:∀(ν:Nat→Value) (lo hi:Nat→Nat) (w':World),Below w.heap.size w w'→(∀i,i<m→S i (ν i) (lo i) (hi i) w')→(∀i,i<m→w.heap.size≤lo i∧lo i≤hi i∧hi i≤w'.heap.size)→
    (∀i j,i<m→j<m→i≠j→hi i≤lo j∨hi j≤lo i)→wpList P l.toArray Q (l.drop m) (frameOf a ds ν) w'):
  (Code.region id l.toArray true).wp P Q a w:=by
 refine wp_region_any hm ?_
 have:=free_any (P:=P) (l:=l) (Q:=Q) m ds hok S a w.drew hmono (fun i hi ν lo hi' w' K hB=>hops i hi ν lo hi' w' K (unDrew1 hB)) (fun ν lo hi w' hB=>hend ν lo hi w' (unDrew1 hB))
 simpa using this
theorem round_free{id:Nat}{a:Act}{w:World}{lp:Nat}(m:Nat)(ds:List (Option Nat))(hm:P.follows .mixedOrders=true)(hn:l.all notDefer=true)(hQ:¬LetsOut Q)(hok:freeOK l m ds=true)(S:Spec)
  (hmono:∀i v lo hi w w',Below w.heap.size w w'→S i v lo hi w→S i v lo hi w')
  (hops:∀i,i<m→∀(ν:Nat→Value) (lo hi:Nat→Nat) (w':World) (K:Act→World→Prop),Below w.heap.size w w'→(∀j,depB l i j=true→S j (ν j) (lo j) (hi j) w')→
    (∀v w'',Below w'.heap.size w' w''→S i v w'.heap.size w''.heap.size w''→K ((frameOf a ds ν).put (ds.getD i none) v) w'')→wpOp P l.toArray Q i K (frameOf a ds ν) w')
  (hend:∀(ν:Nat→Value) (lo hi:Nat→Nat) (w':World),Below w.heap.size w w'→(∀i,i<m→S i (ν i) (lo i) (hi i) w')→(∀i,i<m→w.heap.size≤lo i∧lo i≤hi i∧hi i≤w'.heap.size)→
    (∀i j,i<m→j<m→i≠j→hi i≤lo j∨hi j≤lo i)→wpList P l.toArray Q (l.drop m) (frameOf a ds ν) w'):
  (Code.region id l.toArray true).wpIn (Fence.wide.inRound lp) 0 P Q a w:=by
 refine wpIn_region_draw fun t=>?_
 refine wpOpsIn_of lp (fun i o ho=>?_) hQ _ _ _ ?_
 ·rw[List.all_eq_true] at hn
  exact hn o (by
   have:l[i]? =some o:=by simpa using ho
   exact List.mem_of_getElem? this)
 ·simp only[Region.schedule,hm,Bool.true_or,if_true];refine wpAny_sound _ t _ a _ ?_;have:=free_any (P:=P) (l:=l) (Q:=Q) m ds hok S a w.drew hmono (fun i hi ν lo hi' w' K hB=>hops i hi ν lo hi' w' K (unDrew1 hB)) (fun ν lo hi w' hB=>hend ν lo hi w' (unDrew1 hB));simpa using this
theorem wpOp_atK{e:Nat}{o:Oper}{K:Act→World→Prop}{a:Act}{w:World}(ho:l[e]? =some o)(hg:o.guard=none)(h:o.wp P a w K Q):wpOp P l.toArray Q e K a w:=wpOp_at ho hg h
end
theorem zA(a:Act)(ds:List (Option Nat))(v:Nat→Value):frameOf a ds v=frameGo a ds 0 v:=rfl
theorem zB(a:Act)(k:Nat)(v:Nat→Value):frameGo a [] k v=a:=rfl
theorem zC(a:Act)(ds:List (Option Nat))(k:Nat)(v:Nat→Value):frameGo a (none :: ds) k v=frameGo a ds (k+1) v:=rfl
theorem zD(a:Act)(d:Nat)(ds:List (Option Nat))(k:Nat)(v:Nat→Value):frameGo a (some d :: ds) k v=frameGo {tmps:=a.tmps.setIfInBounds d (v k),defers:=a.defers} ds (k+1) v:=rfl
theorem zE{α:Type}(x d:α)(l:List α):(x :: l).getD 0 d=x:=rfl
theorem zF{α:Type}(x d:α)(l:List α)(n:Nat):(x :: l).getD (n+1) d=l.getD n d:=rfl
theorem zG{α:Type}(l:List α)(i:Nat)(x:α):l.toArray.setIfInBounds i x=(l.set i x).toArray:=List.setIfInBounds_toArray l i x
theorem zH{α:Type}(a:α)(l:List α)(n:Nat)(b:α):(a :: l).set (n+1) b=a :: l.set n b:=rfl
theorem zJ(a:Act)(d:Nat)(v:Value):a.put (some d) v={tmps:=a.tmps.setIfInBounds d v,defers:=a.defers}:=rfl
theorem zK(a:Act)(v:Value):a.put none v=a:=rfl
theorem zI{α:Type}(a:α)(l:List α)(b:α):(a :: l).set 0 b=b :: l:=rfl
end

section
open Go.RowKit
theorem size_walk:(Tryz.prog.info? 133).map (·.size)=some 4:=by kernel_rfl
theorem WalkOK.nx_lt{w:World}{d:WalkD}{ts:List TermD}(h:goodB ts=true):(∀k y,y∈nx ts k→y<200)∧(∀k y,y∈pv ts k→y<200):=by
 have hl:=((goodB_iff ts).1 h).1
 refine⟨fun k y hy=>?_,fun k y hy=>?_⟩
 ·have:=good_nx h hy;omega
 ·have hk:=(mem_pv ts k y).1 hy;by_cases hy2:y<ts.length
  ·omega
  ·rw[nx_none ts y (by omega)] at hk;cases hk
theorem WalkOK.nx_to{w:World}{d:WalkD}{ts:List TermD}(h:goodB ts=true)(hok:WalkOK w d ts)(f:Nat→Bool):(∀k y,y∈nx ts k→y<200∧(f y=true→y<d.bn))∧(∀k y,y∈pv ts k→y<200∧(f y=true→y<d.bn)):=by
 have hl:=((goodB_iff ts).1 h).1
 rw[←hok.1]
 refine⟨fun k y hy=>?_,fun k y hy=>?_⟩
 ·have:=good_nx h hy;exact⟨by omega,fun _=>by omega⟩
 ·have hk:=(mem_pv ts k y).1 hy;by_cases hy2:y<ts.length
  ·exact⟨by omega,fun _=>hy2⟩
  ·rw[nx_none ts y (by omega)] at hk;cases hk
theorem knot_any(d:WalkD)(ts:List TermD)(b:Nat)(f:Nat→Bool)(w:World)(hb:b<200)(hok:WalkOK w d ts)(hg:goodB ts=true)(hcf:Canon f)(hf:f b=true→b<d.bn):
  Calls Tryz.prog 140 #[walkV d,.int .i64 (b:Int),.agg (setA f)] w (SetPost w (knotS ts b f)):=by
 have HOK:=Lib.hid hok
 have HF:=Lib.hid hf
 have HCF:=Lib.hid hcf
 have HX:=Lib.hid (WalkOK.nx_to hg hok f)
 clear hok hg hcf hf
 go_enter Tryz.func140,Tryz.ntmps140
 go_upto_region 1 with (fail)
 obtain⟨W,hW⟩:∃W,W=((w.alloc (walkO d)).alloc (setO f)).alloc (.cells Tryz.zeroCells141 141):=⟨_,rfl⟩
 rw[←hW]
 have hk:W.heap[w.heap.size]? =some (walkO d):=by rw[hW,Below.heap_alloc _ _ _ (by simp;omega),Below.heap_alloc _ _ _ (by simp)];exact heap_alloc_new _ _
 have hs:W.heap[w.heap.size+1]? =some (setO f):=by rw[hW,Below.heap_alloc _ _ _ (by simp)];exact heap_at _ _ _ (by simp)
 have hr:W.heap[w.heap.size+1+1]? =some (setO fun _=>false):=by rw[hW,heap_at _ _ _ (by simp),zero_set]
 have hB:Below w.heap.size w W:=by rw[hW];exact((ext_alloc _ _).alloc (by simp) _).alloc (by simp;omega) _
 have hWs:W.heap.size=w.heap.size+1+1+1:=by rw[hW];simp
 have HWs:=Lib.hid hWs
 have HK:=Lib.hid hk
 have HS:=Lib.hid hs
 have HR:=Lib.hid hr
 have HB:=Lib.hid hB
 have HC2:Hid (W.cell? ⟨w.heap.size,2,none⟩=some (.slice d.ta d.bn d.tc)):=by rw[Hid,cell_of_row _ _ _ _ _ _ hk];rfl
 have HC3:Hid (W.cell? ⟨w.heap.size,3,none⟩=some (.slice d.fa d.bn d.fc)):=by rw[Hid,cell_of_row _ _ _ _ _ _ hk];rfl
 clear hW hWs hk hs hr hB
 go_cut [7,8] (fun s7 s8 wr=>∃p7 p8:Nat,s7=.pointer (some ⟨p7,0,none⟩)∧s8=.pointer (some ⟨p8,0,none⟩)∧w.heap.size+1+1+1≤p7∧w.heap.size+1+1+1≤p8∧p7≠p8∧Hid (wr.heap[p7]? =some (setO (walkF (nx ts) f b)))∧Hid (wr.heap[p8]? =some (setO (walkF (pv ts) f b)))∧Hid (wr.heap[w.heap.size+1+1]? =some (setO fun _=>false))∧Hid (Below w.heap.size w wr))
 case first=>
  refine region_free 14 [some 10,some 11,some 12,some 13,some 14,some 15,some 16,some 17,some 18,some 19,some 20,some 21,some 7,some 8] (by kernel_rfl) (by kernel_rfl) (specB [.val (walkV d),.val (.int .i64 (b:Int)),.val (.agg (setA f)),.val (.pointer (some ⟨w.heap.size,2,none⟩)),.val (.slice d.ta d.bn d.tc),.val (.agg (setA (walkF (nx ts) f b))),.val (walkV d),.val (.int .i64 (b:Int)),.val (.agg (setA f)),.val (.pointer (some ⟨w.heap.size,3,none⟩)),.val (.slice d.fa d.bn d.fc),.val (.agg (setA (walkF (pv ts) f b))),.new (setO fun _=>false),.new (setO fun _=>false)]) (specB_mono ?_) ?_ ?_
  ·intro k hk;simp only[List.mem_cons,List.not_mem_nil,or_false] at hk;rcases hk with rfl|rfl|rfl|rfl|rfl|rfl|rfl|rfl|rfl|rfl|rfl|rfl|rfl|rfl
   ·exact trivial
   ·exact trivial
   ·exact trivial
   ·exact trivial
   ·exact trivial
   ·exact trivial
   ·exact trivial
   ·exact trivial
   ·exact trivial
   ·exact trivial
   ·exact trivial
   ·exact trivial
   ·exact trivial
   ·exact trivial
  ·intro i hi ν lo hi' w1 K hB hD hK;have hcase:i=0∨i=1∨i=2∨i=3∨i=4∨i=5∨i=6∨i=7∨i=8∨i=9∨i=10∨i=11∨i=12∨i=13:=by omega
   clear hi;rcases hcase with rfl|rfl|rfl|rfl|rfl|rfl|rfl|rfl|rfl|rfl|rfl|rfl|rfl|rfl
   ·clear hD;refine wpOp_atK rfl rfl ?_;simp only[zA,zB,zC,zD,zE,zF,zJ,zK,zG,zH,zI] at hK⊢;refine wp_load_row 133 _ rfl w.heap.size rfl 133 _ (0,0) _ (block_ext hB HK.out) Tryz.underlying133 rfl size_walk ?_;exact hK _ _ (Below.refl _ _) rfl
   ·clear hD;refine wpOp_atK rfl rfl ?_;simp only[zA,zB,zC,zD,zE,zF,zJ,zK,zG,zH,zI] at hK⊢;go_simp;exact hK _ _ (Below.refl _ _) rfl
   ·clear hD;refine wpOp_atK rfl rfl ?_;simp only[zA,zB,zC,zD,zE,zF,zJ,zK,zG,zH,zI] at hK⊢;refine wp_load_row 141 _ rfl (w.heap.size+1) rfl 141 _ (0,0) _ (block_ext hB HS.out) Tryz.underlying141 rfl (by rw[setA_size];exact size_set) ?_;exact hK _ _ (Below.refl _ _) rfl
   ·clear hD;refine wpOp_atK rfl rfl ?_;simp only[zA,zB,zC,zD,zE,zF,zJ,zK,zG,zH,zI] at hK⊢;go_simp;exact hK _ _ (Below.refl _ _) rfl
   ·have e3:=hD 3 (by kernel_rfl)
    replace e3:ν 3=(.pointer (some ⟨w.heap.size,2,none⟩)):=e3
    clear hD;refine wpOp_atK rfl rfl ?_;simp only[zA,zB,zC,zD,zE,zF,zJ,zK,zG,zH,zI,e3] at hK⊢;have c0:=cell_ext hB HC2.out;go_simp;exact hK _ _ (Below.refl _ _) rfl
   ·have e0:=hD 0 (by kernel_rfl)
    replace e0:ν 0=(walkV d):=e0
    have e1:=hD 1 (by kernel_rfl)
    replace e1:ν 1=(.int .i64 (b:Int)):=e1
    have e2:=hD 2 (by kernel_rfl)
    replace e2:ν 2=(.agg (setA f)):=e2
    have e4:=hD 4 (by kernel_rfl)
    replace e4:ν 4=(.slice d.ta d.bn d.tc):=e4
    clear hD;refine wpOp_atK rfl rfl ?_;simp only[zA,zB,zC,zD,zE,zF,zJ,zK,zG,zH,zI,e0,e1,e2,e4] at hK⊢;go_simp;refine(walk_at d b f d.ta d.bn d.tc (toRows ts) (nx ts) w1 hb HOK.out.2.1 HCF.out HF.out (fun k hk=>by simp[toRows,HOK.out.1,hk]) HX.out.1 ((HOK.out.2.2.1).ext (ext_trans HB.out hB))).mono ?_;rintro e w2 ⟨rfl,hb2⟩;exact hK _ _ hb2 rfl
   ·clear hD;refine wpOp_atK rfl rfl ?_;simp only[zA,zB,zC,zD,zE,zF,zJ,zK,zG,zH,zI] at hK⊢;refine wp_load_row 133 _ rfl w.heap.size rfl 133 _ (0,0) _ (block_ext hB HK.out) Tryz.underlying133 rfl size_walk ?_;exact hK _ _ (Below.refl _ _) rfl
   ·clear hD;refine wpOp_atK rfl rfl ?_;simp only[zA,zB,zC,zD,zE,zF,zJ,zK,zG,zH,zI] at hK⊢;go_simp;exact hK _ _ (Below.refl _ _) rfl
   ·clear hD;refine wpOp_atK rfl rfl ?_;simp only[zA,zB,zC,zD,zE,zF,zJ,zK,zG,zH,zI] at hK⊢;refine wp_load_row 141 _ rfl (w.heap.size+1) rfl 141 _ (0,0) _ (block_ext hB HS.out) Tryz.underlying141 rfl (by rw[setA_size];exact size_set) ?_;exact hK _ _ (Below.refl _ _) rfl
   ·clear hD;refine wpOp_atK rfl rfl ?_;simp only[zA,zB,zC,zD,zE,zF,zJ,zK,zG,zH,zI] at hK⊢;go_simp;exact hK _ _ (Below.refl _ _) rfl
   ·have e9:=hD 9 (by kernel_rfl)
    replace e9:ν 9=(.pointer (some ⟨w.heap.size,3,none⟩)):=e9
    clear hD;refine wpOp_atK rfl rfl ?_;simp only[zA,zB,zC,zD,zE,zF,zJ,zK,zG,zH,zI,e9] at hK⊢;have c0:=cell_ext hB HC3.out;go_simp;exact hK _ _ (Below.refl _ _) rfl
   ·have e5:=hD 5 (by kernel_rfl)
    replace e5:ν 5=(.agg (setA (walkF (nx ts) f b))):=e5
    have e6:=hD 6 (by kernel_rfl)
    replace e6:ν 6=(walkV d):=e6
    have e7:=hD 7 (by kernel_rfl)
    replace e7:ν 7=(.int .i64 (b:Int)):=e7
    have e8:=hD 8 (by kernel_rfl)
    replace e8:ν 8=(.agg (setA f)):=e8
    have e10:=hD 10 (by kernel_rfl)
    replace e10:ν 10=(.slice d.fa d.bn d.fc):=e10
    clear hD;refine wpOp_atK rfl rfl ?_;simp only[zA,zB,zC,zD,zE,zF,zJ,zK,zG,zH,zI,e5,e6,e7,e8,e10] at hK⊢;go_simp;refine(walk_at d b f d.fa d.bn d.fc (fromRows ts) (pv ts) w1 hb HOK.out.2.1 HCF.out HF.out (fun k hk=>by simp[fromRows,HOK.out.1,hk]) HX.out.2 ((HOK.out.2.2.2).ext (ext_trans HB.out hB))).mono ?_;rintro e w2 ⟨rfl,hb2⟩;exact hK _ _ hb2 rfl
   ·clear hD;refine wpOp_atK rfl rfl ?_;simp only[zA,zB,zC,zD,zE,zF,zJ,zK,zG,zH,zI] at hK⊢;go_simp;refine hK _ _ (ext_alloc _ _) ⟨rfl,by simp,?_⟩;rw[heap_alloc_new,zero_set]
   ·clear hD;refine wpOp_atK rfl rfl ?_;simp only[zA,zB,zC,zD,zE,zF,zJ,zK,zG,zH,zI] at hK⊢;go_simp;refine hK _ _ (ext_alloc _ _) ⟨rfl,by simp,?_⟩;rw[heap_alloc_new,zero_set]
  ·intro ν lo hi w1 hB hS hI hD;have e0:ν 0=(walkV d):=hS 0 (by omega);have e1:ν 1=(.int .i64 (b:Int)):=hS 1 (by omega);have e2:ν 2=(.agg (setA f)):=hS 2 (by omega);have e3:ν 3=(.pointer (some ⟨w.heap.size,2,none⟩)):=hS 3 (by omega);have e4:ν 4=(.slice d.ta d.bn d.tc):=hS 4 (by omega);have e5:ν 5=(.agg (setA (walkF (nx ts) f b))):=hS 5 (by omega);have e6:ν 6=(walkV d):=hS 6 (by omega);have e7:ν 7=(.int .i64 (b:Int)):=hS 7 (by omega);have e8:ν 8=(.agg (setA f)):=hS 8 (by omega);have e9:ν 9=(.pointer (some ⟨w.heap.size,3,none⟩)):=hS 9 (by omega);have e10:ν 10=(.slice d.fa d.bn d.fc):=hS 10 (by omega);have e11:ν 11=(.agg (setA (walkF (pv ts) f b))):=hS 11 (by omega);obtain⟨e12,l12,h12⟩:=hS 12 (by omega);obtain⟨e13,l13,h13⟩:=hS 13 (by omega);clear hS;simp only[List.drop_succ_cons,List.drop_zero,zA,zB,zC,zD,zE,zF,zJ,zK,zG,zH,zI,e0,e1,e2,e3,e4,e5,e6,e7,e8,e9,e10,e11,e12,e13];have i12:=hI 12 (by omega);have i13:=hI 13 (by omega);have hne:lo 12≠lo 13:=by
    have:=hD 12 13 (by omega) (by omega) (by omega);omega
   rw[HWs.out] at i12 i13;have hr1:=block_ext hB HR.out;have HBw:Hid (Below w.heap.size w w1):=ext_trans HB.out hB;generalize lo 12=p7 at *;generalize lo 13=p8 at *;have h13':(w1.setRow p7 (setA (walkF (nx ts) f b))).heap[p8]? =some (setO fun _=>false):=(setRow_other _ _ _ _ (by omega)).trans h13;have H12:=Lib.hid h12;have H13:=Lib.hid h13';have HR1:=Lib.hid hr1;have HI12:=i12.1;have HI13:=i13.1;clear hI hD hB e0 e1 e2 e3 e4 e5 e6 e7 e8 e9 e10 e11 e12 e13 h12 h13 h13' hr1 i12 i13
   go_wp2_with (first
    |(refine wpList_store_row rfl 141 _ _ rfl p7 (setA (walkF (nx ts) f b)) rfl rfl 141 _ H12.out (by rw[setA_size];exact size_set) rfl (setA_all _) ?_)
    |(refine wpList_store_row rfl 141 _ _ rfl p8 (setA (walkF (pv ts) f b)) rfl rfl 141 _ H13.out (by rw[setA_size];exact size_set) rfl (setA_all _) ?_))
   go_meet
   exact⟨p7,p8,rfl,rfl,HI12,HI13,hne,(setRow_other _ _ _ _ hne).trans (setRow_heap _ _ _ _ _ _ H12.out),setRow_heap _ _ _ _ _ _ H13.out,(setRow_other _ _ _ _ (by omega)).trans ((setRow_other _ _ _ _ (by omega)).trans HR1.out),below_setRow (below_setRow HBw.out (by omega) _) (by omega) _⟩
 case rest=>
  obtain⟨p7,p8,rfl,rfl,hp7,hp8,hne,H7,H8,HR,HB⟩:=hcut;clear HK HS HC2 HC3 HWs;go_wp2
  go_loopw [9,22] (fun _ i wx=>∃(k:Nat),k≤200∧i=.int .i64 k∧Hid (wx.heap[w.heap.size+1+1]? =some (setO fun j=>decide (j<k)&&knotS ts b f j))∧Hid (wx.heap[p7]? =some (setO (walkF (nx ts) f b)))∧Hid (wx.heap[p8]? =some (setO (walkF (pv ts) f b)))∧Hid (Below w.heap.size w wx)) (fun _ i _=>200-(intOf i).toNat)
  case atStart=>exact⟨0,by omega,rfl,by have e:(fun j=>decide (j<0)&&knotS ts b f j)=(fun _=>false):=(by funext j;simp);rw[Hid,e];exact HR.out,H7,H8,HB⟩
  case round=>
   obtain⟨k,hk,rfl,HR2,G7,G8,HB2⟩:=hrel;clear HR H7 H8 HB;by_cases hlt:k<200
   ·have c7:=set_cell G7.out k hlt;have c8:=set_cell G8.out k hlt;have cr:=set_cell HR2.out k hlt;have fr:=set_free HR2.out k;have hl:=lt_of_heap HR2.out;have e1:(fun j=>if j=k then (walkF (nx ts) f b k&&walkF (pv ts) f b k) else (decide (j<k)&&knotS ts b f j))=(fun j=>decide (j<k+1)&&knotS ts b f j):=by
     funext j
     by_cases e:j=k
     ·subst e;simp[knotS]
     ·rw[if_neg e]
      congr 1
      rw[decide_eq_decide];omega
    have HS2:=Lib.hid (store_to HR2.out hlt e1);have HG7:=Lib.hid (grown_row (grown_setCell _ (w.heap.size+1+1) k (.bool (walkF (nx ts) f b k&&walkF (pv ts) f b k))) G7.out (by simp;omega));have HG8:=Lib.hid (grown_row (grown_setCell _ (w.heap.size+1+1) k (.bool (walkF (nx ts) f b k&&walkF (pv ts) f b k))) G8.out (by simp;omega));have hlt':(k:Int)<200:=by omega
    clear e1 G7 G8 HR2;generalize (decide (k<k)&&knotS ts b f k)=x0 at *;cases hx1:walkF (nx ts) f b k<;>simp only[hx1,Bool.true_and,Bool.false_and] at HS2 HG7 HG8 c7
    all_goals
     generalize walkF (pv ts) f b k=x2 at *;clear hx1;go_wp2
     go_roundw
     case rel=>exact⟨k+1,by omega,by go_num,HS2,HG7,HG8,HB2.out.setCell (by simp;omega) _⟩
     case measure=>simp[intOf];omega
   ·obtain rfl:k=200:=by omega
    have HE:Hid ((fun j=>decide (j<200)&&knotS ts b f j)=knotS ts b f):=by
     have hc:Canon f:=HCF.out
     funext j
     cases e:knotS ts b f j with
     |false=>simp
     |true=>have:=knot_canon hc b j e;simp[this]
    rw[HE.out] at HR2
    go_wp2_with (first
     |(refine wpList_load_row rfl 141 _ rfl (w.heap.size+1+1) rfl 141 _ (0,0) _ HR2.out Tryz.underlying141 rfl (by rw[setA_size];exact size_set) ?_)
     |(refine wpList_store_row rfl 141 _ _ rfl (w.heap.size+1+1) (setA (knotS ts b f)) rfl rfl 141 _ HR2.out (by rw[setA_size];exact size_set) rfl (setA_all _) ?_))
    exact bodyPost_ret (v:=.agg (setA (knotS ts b f))) (by simp[results,Tryz.results140,asAddr,Act.put,load_set (setRow_heap _ _ _ _ _ _ HR2.out)]) rfl ⟨rfl,below_setRow HB2.out (by omega) _⟩
end

section
open Go.RowKit
theorem part_bool(cs:Array Value)(o:Nat)(v:Value)(w:World)(h:cs[o]? =some v):(part 4 cs o).run Tryz.prog w=.ok v w:=by
 have hu:(underlying 4).run Tryz.prog w=.ok .bool w:=run_underlying Tryz.underlying4 w
 simp[part,isAgg,hu,h]
theorem eqItems_bool(w:World)(f g:Nat→Bool)(xs ys:Array Value):∀(is:List Nat),(∀i∈is,xs[i]? =some (.bool (f i))∧ys[i]? =some (.bool (g i)))→(Op.eqItems 9999 4 1 xs ys is).run Tryz.prog w=.ok (is.all fun i=>f i==g i) w
 | [],_=>by simp[Op.eqItems]
 |i :: is,h=>by
  obtain⟨h1,h2⟩:=h i (by simp);have ih:=eqItems_bool w f g xs ys is (fun j hj=>h j (by simp[hj]));simp only[Op.eqItems,Sem.run_bind,Nat.mul_one];rw[part_bool _ i _ w h1];simp only[Result.andThen_ok];rw[part_bool _ i _ w h2];simp only[Result.andThen_ok];rw[run_equalIn_bool' w 9998 4 (f i) (g i) Tryz.underlying4];simp only[Result.andThen_ok];cases hq:(f i==g i) with
  |false=>simp[hq]
  |true=>simp[hq,ih]
theorem equal_set(w:World)(f g:Nat→Bool):(Op.equalIn 10000 141 (.agg (setA f)) (.agg (setA g))).run Tryz.prog w=.ok (eqS f g) w:=by
 have hi:∃i,Tryz.prog.info? 4=some i:=Option.isSome_iff_exists.1 (by kernel_rfl)
 obtain⟨i,hi⟩:=hi
 have h1:Tryz.prog.cellsOf 4=1:=by kernel_rfl
 rw[run_equalIn_array w 9999 _ _ Tryz.underlying141 hi,h1]
 exact eqItems_bool w f g _ _ _ (fun i hi=>⟨setA_at f i (List.mem_range.1 hi),setA_at g i (List.mem_range.1 hi)⟩)
structure BlkH where
 ia:Option Addr
 n:Nat
 c:Nat
 t:TermD
def blkC(b:BlkH):List Value:= [.slice b.ia b.n b.c,.int .i64 b.t.kind,.int .i64 b.t.a,.int .i64 b.t.t0,.int .i64 b.t.t1]
theorem blkC_len(b:BlkH):(blkC b).length=5:=rfl
def BlksOK(w:World)(a:Option Addr)(n:Nat)(bs:List BlkH):Prop:=Recs 5 blkC w a n bs∧∀b∈bs,TermOK b.t
theorem BlksOK.ext{w w':World}{a:Option Addr}{n:Nat}{bs:List BlkH}(h:BlksOK w a n bs)(hb:Below w.heap.size w w'):BlksOK w' a n bs:=⟨h.1.ext blkC_len hb,h.2⟩
def tsOf(bs:List BlkH):List TermD:=bs.map (·.t)
theorem tsOf_len(bs:List BlkH):(tsOf bs).length=bs.length:=by simp[tsOf]
theorem tsOf_at(bs:List BlkH)(k:Nat)(b:BlkH)(h:bs[k]? =some b):(tsOf bs).getD k zTerm=b.t:=by
 simp[tsOf,List.getD_eq_getElem?_getD,h]
abbrev blkV(b:BlkH):Value:=.agg #[.slice b.ia b.n b.c,.int .i64 b.t.kind,.int .i64 b.t.a,.int .i64 b.t.t0,.int .i64 b.t.t1]
abbrev blkO(b:BlkH):Obj:=.cells #[.slice b.ia b.n b.c,.int .i64 b.t.kind,.int .i64 b.t.a,.int .i64 b.t.t0,.int .i64 b.t.t1] 67
theorem BlksOK.cells{w:World}{a:Option Addr}{n:Nat}{bs:List BlkH}(h:BlksOK w a n bs){k:Nat}(hk:k<n):∃x b o,bs[k]? =some x∧TermOK x.t∧a=some ⟨b,o,none⟩∧
  w.cell? ⟨b,o+k*5,none⟩=some (.slice x.ia x.n x.c)∧w.cell? ⟨b,o+k*5+1,none⟩=some (.int .i64 x.t.kind)∧w.cell? ⟨b,o+k*5+2,none⟩=some (.int .i64 x.t.a)∧w.cell? ⟨b,o+k*5+3,none⟩=some (.int .i64 x.t.t0)∧w.cell? ⟨b,o+k*5+4,none⟩=some (.int .i64 x.t.t1):=by
 have hk':k<bs.length:=by rw[h.1.1];exact hk
 obtain⟨b,o,e,hc⟩:=h.1.2.2 k bs[k] (List.getElem?_eq_getElem hk')
 exact⟨bs[k],b,o,List.getElem?_eq_getElem hk',h.2 _ (List.getElem_mem hk'),e,hc 0 (by omega),hc 1 (by omega),hc 2 (by omega),hc 3 (by omega),hc 4 (by omega)⟩
def Sep(v v':Value):Prop:=∀g,v.ownBlock=some g→v'.ownBlock≠some g
theorem Sep.symm{v v':Value}(h:Sep v v'):Sep v' v:=fun g h1 h2=>h g h2 h1
structure Fam(w:World)(B n k:Nat)(hF hT:Nat→Value)(xF xT:Nat→List Int):Prop where
 F:∀y,y<n→OwnI w B (hF y) (xF y)
 T:∀j,j<k→OwnI w B (hT j) (xT j)
 FF:∀y y',y<n→y'<n→y≠y'→Sep (hF y) (hF y')
 FT:∀y j,y<n→j<k→Sep (hF y) (hT j)
section
variable {w w':World} {B n k:Nat} {hF hT:Nat→Value} {xF xT:Nat→List Int}
theorem Fam.kept{row:Option Nat}(h:Fam w B n k hF hT xF xT)(hg:w.grownBy w' row)(hr:∀r,row=some r→r<B∨w.heap.size≤r):Fam w' B n k hF hT xF xT:=by
 have key:∀v xs,OwnI w B v xs→OwnI w' B v xs:=fun v xs ho=>by
  refine ho.kept hg ?_;cases e:v.ownBlock with
  |none=>exact .inl rfl
  |some g=>
   have:=ho.1.lt g e;refine .inr fun e2=>?_;have:=hr g e2.symm;omega
 exact⟨fun y hy=>key _ _ (h.F y hy),fun j hj=>key _ _ (h.T j hj),h.FF,h.FT⟩
theorem Fam.ext(h:Fam w B n k hF hT xF xT)(hb:Below w.heap.size w w'):Fam w' B n k hF hT xF xT:=
 h.kept (row:=none) ⟨hb.os,hb.tape,hb.output,hb.size,fun k hk _=>hb.block k hk⟩ (fun r e=>by cases e)
theorem Fam.add(h:Fam w B n k hF hT xF xT)(hb:Below w.heap.size w w')(hB:B≤w.heap.size)(v:Value)(xs:List Int)(ho:OwnI w' w.heap.size v xs):Fam w' B n (k+1) hF (updN hT k v) xF (updN xT k xs):=by
 have h':=h.ext hb
 have hlt:∀y,y<n→Sep (hF y) v:=fun y hy g e1 e2=>by
  have h1:=(h.F y hy).1.lt g e1;have h2:=ho.1.lt g e2;omega
 refine⟨h'.F,fun j hj=>?_,h.FF,fun y j hy hj=>?_⟩
 ·by_cases e:j=k
  ·simp only[updN,if_pos e];exact ho.mono hB
  ·simp only[updN,if_neg e];exact h'.T j (by omega)
 ·by_cases e:j=k
  ·simp only[updN,if_pos e];exact hlt y hy
  ·simp only[updN,if_neg e];exact h.FT y j hy (by omega)
theorem Fam.turn(h:Fam w B n k hF hT xF xT)(y:Nat)(hy:y<n)(hg:w.grownBy w' (hF y).ownBlock)(v:Value)(xs:List Int)(ho:OwnI w' B v xs)(hv:v.ownBlock=(hF y).ownBlock∨∃g,v.ownBlock=some g∧w.heap.size≤g):Fam w' B n k (updN hF y v) hT (updN xF y xs) xT:=by
 have keep:∀v' xs',OwnI w B v' xs'→Sep (hF y) v'→OwnI w' B v' xs':=fun v' xs' ho' hs=>by
  refine ho'.kept hg ?_;cases e:v'.ownBlock with
  |none=>exact .inl rfl
  |some g=>exact .inr fun e2=>hs g e2.symm e
 have sep:∀v' xs',OwnI w B v' xs'→Sep (hF y) v'→Sep v v':=fun v' xs' ho' hs g e1 e2=>by
  rcases hv with e|⟨g',e,hge⟩
  ·exact hs g (by rw[←e];exact e1) e2
  ·rw[e] at e1;injection e1 with e1;have:=(ho'.1.lt g e2).2;omega
 refine⟨fun z hz=>?_,fun j hj=>keep _ _ (h.T j hj) (h.FT y j hy hj),fun z z' hz hz' hne=>?_,fun z j hz hj=>?_⟩
 ·by_cases e:z=y
  ·simp only[updN,if_pos e];exact ho
  ·simp only[updN,if_neg e];exact keep _ _ (h.F z hz) (h.FF y z hy hz (fun e2=>e e2.symm))
 ·by_cases e:z=y
  ·have e':¬z'=y:=fun e2=>hne (e.trans e2.symm);simp only[updN,if_pos e,if_neg e'];exact sep _ _ (h.F z' hz') (h.FF y z' hy hz' (fun e2=>e' e2.symm))
  ·by_cases e':z'=y
   ·simp only[updN,if_pos e',if_neg e];exact(sep _ _ (h.F z hz) (h.FF y z hy hz (fun e2=>e e2.symm))).symm
   ·simp only[updN,if_neg e',if_neg e];exact h.FF z z' hz hz' hne
 ·by_cases e:z=y
  ·simp only[updN,if_pos e];exact sep _ _ (h.T j hj) (h.FT y j hy hj)
  ·simp only[updN,if_neg e];exact h.FT z j hz hj
end
def hdrA(n:Nat)(h:Nat→Value):Array Value:=((List.range n).map h).toArray
abbrev nilV:Value:=.slice none 0 0
abbrev hdrO(n:Nat)(h:Nat→Value):Obj:=.cells (hdrA n h) 22 (0,0)
theorem hdrA_at(n:Nat)(h:Nat→Value)(j:Nat)(hj:j<n):(hdrA n h)[j]? =some (h j):=by simp[hdrA,hj]
theorem hdrA_size(n:Nat)(h:Nat→Value):(hdrA n h).size=n:=by simp[hdrA]
theorem hdrA_put(n:Nat)(h:Nat→Value)(j:Nat)(v:Value):(hdrA n h).setIfInBounds j v=hdrA n (updN h j v):=by
 apply Array.ext_getElem?
 intro k
 rw[Array.getElem?_setIfInBounds]
 by_cases hk:k<n
 ·rw[hdrA_at n h k hk,hdrA_at n _ k hk,hdrA_size];by_cases e:j=k
  ·subst e;simp[updN,hk]
  ·have e':¬k=j:=fun h=>e h.symm;simp[updN,e,e']
 ·have h1:(hdrA n h)[k]? =none:=Array.getElem?_eq_none (by rw[hdrA_size];omega);have h2:(hdrA n (updN h j v))[k]? =none:=Array.getElem?_eq_none (by rw[hdrA_size];omega);rw[h1,h2];by_cases e:j=k
  ·subst e;rw[if_pos rfl,hdrA_size,if_neg hk]
  ·rw[if_neg e]
theorem hdr_cell{W:World}{g n:Nat}{h:Nat→Value}(hg:W.heap[g]? =some (hdrO n h))(j:Nat)(hj:j<n):W.cell? ⟨g,j,none⟩=some (h j):=by rw[cell_of_row _ _ _ _ _ _ hg,hdrA_at _ _ _ hj]
theorem hdr_free{W:World}{g n:Nat}{h:Nat→Value}(hg:W.heap[g]? =some (hdrO n h))(j:Nat):W.frozen? ⟨g,j,none⟩=false:=frozen_of_row _ _ _ _ _ hg
theorem hdr_put{W:World}{g n:Nat}{h:Nat→Value}(hg:W.heap[g]? =some (hdrO n h))(j:Nat)(v:Value):(W.setCell ⟨g,j,none⟩ v).heap[g]? =some (hdrO n (updN h j v)):=by rw[heap_setCell_same _ _ _ _ _ _ hg,hdrA_put]
def pvAt(ts:List TermD)(k i y:Nat):List Nat:=((List.range k).flatMap fun q=>((nx ts q).filter (fun x=>x==y)).map fun _=>q)++(((nx ts k).take i).filter (fun x=>x==y)).map fun _=>k
theorem pvAt_zero(ts:List TermD)(y:Nat):pvAt ts 0 0 y= []:=by simp[pvAt]
theorem pvAt_next(ts:List TermD)(k i y:Nat)(h:(nx ts k).length≤i):pvAt ts k i y=pvAt ts (k+1) 0 y:=by
 simp only[pvAt,List.take_of_length_le h,List.range_succ,List.flatMap_append,List.flatMap_cons,List.flatMap_nil,List.append_nil,List.take_zero,List.filter_nil,List.map_nil]
theorem pvAt_end(ts:List TermD)(y:Nat):pvAt ts ts.length 0 y=pv ts y:=by simp[pvAt,pv]
theorem pvAt_step(ts:List TermD)(k i:Nat)(x:Nat)(h:(nx ts k)[i]? =some x)(y:Nat):pvAt ts k (i+1) y=if y=x then pvAt ts k i y++ [k] else pvAt ts k i y:=by
 have e:(nx ts k).take (i+1)=(nx ts k).take i++ [x]:=by rw[List.take_add_one,h];rfl
 simp only[pvAt,e,List.filter_append,List.map_append]
 by_cases hy:y=x
 ·subst hy;simp
 ·have:(x==y)=false:=by simpa using fun e=>hy e.symm
  simp[hy,this]
theorem pvAt_len(ts:List TermD)(k i y:Nat):(pvAt ts k i y).length≤2*k+2:=by
 have hn:∀q,(nx ts q).length≤2:=fun q=>by rw[nx,List.length_map];exact toD_len _
 have h1:∀k,((List.range k).flatMap fun q=>((nx ts q).filter (fun x=>x==y)).map fun _=>q).length≤2*k:=by
  intro k
  induction k with
  |zero=>simp
  |succ k ih=>
   rw[List.range_succ,List.flatMap_append,List.length_append];have h2:=List.length_filter_le (fun x=>x==y) (nx ts k);have h3:=hn k;simp;simp at ih;omega
 have h2:=List.length_filter_le (fun x=>x==y) ((nx ts k).take i)
 have h3:((nx ts k).take i).length≤2:=by rw[List.length_take];have:=hn k;omega
 have h4:=h1 k
 simp only[pvAt,List.length_append,List.length_map]
 omega
end
end Go.Proofs.YtnmkjliioogbgaaGreatDoor
