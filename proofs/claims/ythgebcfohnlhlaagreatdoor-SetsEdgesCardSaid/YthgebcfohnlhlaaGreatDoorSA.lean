/-
 ir.shaped,IsIns,Defines (beside tile's none,variable,fits). Printed by gen_sa.py.
-/
import Derived.Test.YthgebcfohnlhlaaGreatDoorTB
import Derived.Test.YthgebcfohnlhlaaGreatDoorInsR
import Derived.Outline
import Derived.Deep.Light
namespace Go.Proofs.YthgebcfohnlhlaaGreatDoor
set_option linter.unusedSimpArgs false
set_option linter.unusedVariables false
set_option linter.unusedSectionVars false
set_option maxRecDepth 100000
set_option maxHeartbeats 40000000
section
open Go.RowKit
def shapeD(o:Int):(Bool×Bool×Bool×Bool×Bool)×Bool:=
 if o=13 then ((false,false,false,false,true),true) else if o=1 then ((true,false,false,true,false),true) else if o=12 then ((false,true,true,true,false),true) else if o=11 then ((true,true,false,true,false),true) else if o=14 then ((true,true,false,false,false),true) else ((true,true,true,false,false),decide (2≤o∧o≤10))
def shapeV(x:(Bool×Bool×Bool×Bool×Bool)×Bool):Value:=.tuple #[.agg #[.bool x.1.1,.bool x.1.2.1,.bool x.1.2.2.1,.bool x.1.2.2.2.1,.bool x.1.2.2.2.2],.bool x.2]
theorem shaped_any(o:Int)(w:World):Calls Tryz.prog 239 #[.int .i64 o] w fun e w'=>e=.returned (shapeV (shapeD o))∧Below w.heap.size w w':=by
 by_cases h13:o=13
 ·subst h13
  go_enter Tryz.func239,Tryz.ntmps239
  go_wp2;exact bodyPost_ret (v:=shapeV (shapeD 13)) (by simp[results,Tryz.results239,go_sem,shapeV,shapeD]) rfl ⟨rfl,ext_alloc _ _⟩
 have b13:(o==13)=false:=by simpa using h13
 by_cases h1:o=1
 ·subst h1
  go_enter Tryz.func239,Tryz.ntmps239
  go_wp2;exact bodyPost_ret (v:=shapeV (shapeD 1)) (by simp[results,Tryz.results239,go_sem,shapeV,shapeD]) rfl ⟨rfl,ext_alloc _ _⟩
 have b1:(o==1)=false:=by simpa using h1
 by_cases h12:o=12
 ·subst h12
  go_enter Tryz.func239,Tryz.ntmps239
  go_wp2;exact bodyPost_ret (v:=shapeV (shapeD 12)) (by simp[results,Tryz.results239,go_sem,shapeV,shapeD]) rfl ⟨rfl,ext_alloc _ _⟩
 have b12:(o==12)=false:=by simpa using h12
 by_cases h11:o=11
 ·subst h11
  go_enter Tryz.func239,Tryz.ntmps239
  go_wp2;exact bodyPost_ret (v:=shapeV (shapeD 11)) (by simp[results,Tryz.results239,go_sem,shapeV,shapeD]) rfl ⟨rfl,ext_alloc _ _⟩
 have b11:(o==11)=false:=by simpa using h11
 by_cases h14:o=14
 ·subst h14
  go_enter Tryz.func239,Tryz.ntmps239
  go_wp2;exact bodyPost_ret (v:=shapeV (shapeD 14)) (by simp[results,Tryz.results239,go_sem,shapeV,shapeD]) rfl ⟨rfl,ext_alloc _ _⟩
 have b14:(o==14)=false:=by simpa using h14
 have HE:Hid (shapeD o=((true,true,true,false,false),decide (2≤o∧o≤10))):=by
  rw[Hid,shapeD,if_neg h13,if_neg h1,if_neg h12,if_neg h11,if_neg h14]
 clear h13 h1 h12 h11 h14
 by_cases h2:2≤o
 ·have d2:decide (2≤o)=true:=by simpa using h2
  have HF:Hid (decide (2≤o∧o≤10)=decide (o≤10)):=by rw[Hid,decide_eq_decide];omega
  go_enter Tryz.func239,Tryz.ntmps239
  go_wp2;exact bodyPost_ret (v:=.tuple #[.agg #[.bool true,.bool true,.bool true,.bool false,.bool false],.bool (decide (o≤10))]) (by simp[results,Tryz.results239,go_sem]) rfl ⟨by rw[HE.out,HF.out];rfl,ext_alloc _ _⟩
 ·have d2:decide (2≤o)=false:=by simpa using h2
  have HF:Hid (decide (2≤o∧o≤10)=false):=by rw[Hid,decide_eq_false_iff_not];omega
  go_enter Tryz.func239,Tryz.ntmps239
  go_wp2;exact bodyPost_ret (v:=.tuple #[.agg #[.bool true,.bool true,.bool true,.bool false,.bool false],.bool false]) (by simp[results,Tryz.results239,go_sem]) rfl ⟨by rw[HE.out,HF.out];rfl,ext_alloc _ _⟩
theorem indexFunc0_any(F:Nat)(eF:∀args w,(callFunc F args).run Tryz.prog w=.ok (.enter F args) w)(p:Int→Bool)(hp:∀(x:Int) (W:World),Calls Tryz.prog F #[.int .i64 x] W fun e W'=>e=.returned (.bool (p x))∧W=W')(a:Option Addr)(n c:Nat)(xs:List Int)(w:World)(h:Ints w a n xs):
  Calls Tryz.prog 261 #[.slice a n c,.func (.func F) #[] #[]] w fun e w'=>e=.returned (.int .i64 (idxF p xs))∧w=w':=by
 obtain⟨hl,hn,hc⟩:=h
 have HL:=Lib.hid hl
 have HC:=Lib.hid hc
 have HP:=Lib.hid hp
 clear hl hc hp
 go_enter Tryz.func261,Tryz.ntmps261
 go_wp2
 go_loop [5,8] (fun _ i=>∃(k:Nat),k≤n∧i=.int .i64 k∧Hid (∀j y,j<k→xs[j]? =some y→p y=false)) (fun _ i=>n-(intOf i).toNat)
 case atStart=>exact⟨0,by omega,rfl,fun j y hj=>absurd hj (by omega)⟩
 case round=>
  obtain⟨k,hk,rfl,HR⟩:=hrel;by_cases hlt:k<n
  ·obtain⟨b,o,rfl,hcell,hw1,hw2⟩:=HC.out k hlt;have hgk:xs[k]? =some (xs.getD k 0):=by
    have hk':k<xs.length:=by rw[HL.out];exact hlt
    simp[List.getD_eq_getElem?_getD,hk']
   have HG:=Lib.hid hgk;clear hgk;generalize xs.getD k 0=y at *;by_cases hy:p y=true
   ·have HE:Hid (idxF p xs=k):=idxF_found p xs k y HG.out hy HR.out;go_wp2;refine(HP.out y w).mono ?_;rintro e w' ⟨rfl,rfl⟩;rw[hy];go_wp2
    go_ret
    exact⟨by rw[HE.out];rfl,rfl⟩
   ·have hy':p y=false:=by simpa using hy
    have HE:Hid (∀j z,j<k+1→xs[j]? =some z→p z=false):=fun j z hj hz=>by
     by_cases e:j=k
     ·subst e;rw[HG.out] at hz;injection hz with hz;subst hz;exact hy'
     ·exact HR.out j z (by omega) hz
    go_wp2;refine(HP.out y w).mono ?_;rintro e w' ⟨rfl,rfl⟩;rw[hy'];go_wp2
    go_round
    case rel=>exact⟨k+1,by omega,by go_num,HE⟩
    case measure=>simp[intOf];omega
  ·obtain rfl:k=n:=by omega
   have HE:Hid (idxF p xs= -1):=idxF_none p xs (fun z hz=>by
    obtain⟨j,hj,e⟩:=List.mem_iff_getElem.1 hz
    exact HR.out j z (by rw[HL.out] at hj;exact hj) (by rw[List.getElem?_eq_getElem hj,e]))
   go_wp2
   go_ret
   exact⟨by rw[HE.out];rfl,rfl⟩
theorem containsFunc0_any(F:Nat)(eF:∀args w,(callFunc F args).run Tryz.prog w=.ok (.enter F args) w)(p:Int→Bool)(hp:∀(x:Int) (W:World),Calls Tryz.prog F #[.int .i64 x] W fun e W'=>e=.returned (.bool (p x))∧W=W')(a:Option Addr)(n c:Nat)(xs:List Int)(w:World)(h:Ints w a n xs):
  Calls Tryz.prog 241 #[.slice a n c,.func (.func F) #[] #[]] w fun e w'=>e=.returned (.bool (xs.any p))∧w=w':=by
 have HA:=Lib.hid (idxF_any p xs)
 have hg:=idxF_ge p xs
 have HP:=Lib.hid hp
 have H:=Lib.hid h
 clear hp h
 go_enter Tryz.func241,Tryz.ntmps241
 go_wp2_with (go_at_call 261;refine(indexFunc0_any F eF p HP.out a n c xs w H.out).mono ?_;rintro e w' ⟨rfl,rfl⟩)
 go_ret
 exact⟨by rw[←HA.out];rfl,rfl⟩
theorem none10_any(x:Int)(w:World):Calls Tryz.prog 267 #[.int .i64 x] w fun e w'=>e=.returned (.bool (x != 0))∧w=w':=by
 go_enter Tryz.func267,Tryz.ntmps267
 go_wp2
 go_ret
 exact⟨rfl,rfl⟩
theorem none0_any(a:Option Addr)(n c:Nat)(xs:List Int)(w:World)(h:Ints w a n xs):
  Calls Tryz.prog 236 #[.slice a n c] w fun e w'=>e=.returned (.bool (noneB xs))∧w=w':=by
 have H:=Lib.hid h
 clear h
 go_enter Tryz.func236,Tryz.ntmps236
 go_wp2_with (go_at_call 241;refine(containsFunc0_any _ call_none1 (fun x=>x != 0) none10_any a n c xs w H.out).mono ?_;rintro e w' ⟨rfl,rfl⟩)
 go_ret
 exact⟨rfl,rfl⟩
theorem odd1_any(x:Int)(w:World):Calls Tryz.prog 240 #[.int .i64 x] w fun e w'=>e=.returned (.bool (!varB x))∧w=w':=by
 go_enter Tryz.func240,Tryz.ntmps240
 go_wp2_with (go_at_call 157;refine(variable_any _ _).mono ?_;rintro e w' ⟨rfl,rfl⟩)
 go_ret
 exact⟨rfl,rfl⟩
theorem call_odd1(args:Array Value)(w:World):(callFunc 240 args).run Tryz.prog w=.ok (.enter 240 args) w:=by kernel_rfl
def isInsB(i:InsD):Bool:=
 let s:=shapeD i.op
 if !s.2||i.many != 0 then false
 else if s.1.2.2.2.2 then noneB [i.a,i.b,i.imm]&&decide (0≤i.callee∧i.callee≤99)&&fitsV (i.dst != 0) i.dst&&decide (i.args.length≤8)&& !i.args.any (fun x=> !varB x)
 else if (!s.1.2.2.2.1&&i.imm != 0)||decide (i.imm< -1099511627776)||decide (i.imm>1099511627776) then false
 else i.callee==0&&i.args.length==0&&fitsV s.1.1 i.dst&&fitsV s.1.2.1 i.a&&fitsV s.1.2.2.1 i.b
theorem three_ints(X:World)(H:Nat)(hH:X.heap.size=H)(x y z:Int)(hx:I64 x)(hy:I64 y)(hz:I64 z)(t:TypeId):Ints (X.alloc (.cells #[.int .i64 x,.int .i64 y,.int .i64 z] t)) (some ⟨H,0,none⟩) 3 [x,y,z]:=by
 subst hH
 refine⟨rfl,by omega,fun k hk=>?_⟩
 match k,hk with
 |0,_=>exact⟨X.heap.size,0,rfl,by rw[cell_of_row _ _ _ _ _ _ (heap_alloc_new X _)];rfl,hx⟩
 |1,_=>exact⟨X.heap.size,0,rfl,by rw[cell_of_row _ _ _ _ _ _ (heap_alloc_new X _)];rfl,hy⟩
 |2,_=>exact⟨X.heap.size,0,rfl,by rw[cell_of_row _ _ _ _ _ _ (heap_alloc_new X _)];rfl,hz⟩
theorem u64_small(x:Int)(h1: -9223372036854775808≤x)(h2:x≤9223372036854775807):IntKind.u64.wrap x≤99↔(0≤x∧x≤99):=by
 have e:IntKind.u64.wrap x=x%18446744073709551616:=rfl
 rw[e]
 omega
theorem isIns_at{i:InsD}{x:(Bool×Bool×Bool×Bool×Bool)×Bool}(h:shapeD i.op=x):isInsB i=(if !x.2||i.many != 0 then false
 else if x.1.2.2.2.2 then noneB [i.a,i.b,i.imm]&&decide (0≤i.callee∧i.callee≤99)&&fitsV (i.dst != 0) i.dst&&decide (i.args.length≤8)&& !i.args.any (fun x=> !varB x)
 else if (!x.1.2.2.2.1&&i.imm != 0)||decide (i.imm< -1099511627776)||decide (i.imm>1099511627776) then false
 else i.callee==0&&i.args.length==0&&fitsV x.1.1 i.dst&&fitsV x.1.2.1 i.a&&fitsV x.1.2.2.1 i.b):=by rw[isInsB,h]
theorem isIns_call(i:InsD)(aa:Option Addr)(na ca:Nat)(w:World)(h:Ints w aa na i.args)(h1:I64 i.a)(h2:I64 i.b)(h3:I64 i.imm)(h4:I64 i.callee)(ho:shapeD i.op=((false,false,false,false,true),true)):
  Calls Tryz.prog 161 #[insV i aa na ca] w fun e w'=>e=.returned (.bool (isInsB i))∧Below w.heap.size w w':=by
 have HS:=Lib.hid ho
 have H:=Lib.hid h
 have HLA:=Lib.hid h.1
 have H1:=Lib.hid h1
 have H2:=Lib.hid h2
 have H3:=Lib.hid h3
 have hna:=h.2.1
 obtain⟨h4,h5⟩:=h4
 clear h h1 h2 h3 ho
 go_enter Tryz.func161,Tryz.ntmps161
 go_wp2_with (first
  |(go_at_call 239
    refine(shaped_any _ _).mono ?_;rw[HS.out,shapeV];rintro e w1 ⟨rfl,hb1⟩;have hx:=hb1.block w.heap.size (by simp);rw[heap_alloc_new w _] at hx;have c1:w1.cell? ⟨w.heap.size,1,none⟩=some (.int .i64 i.dst):=by rw[cell_of_row _ _ _ _ _ _ hx];rfl
    have c2:w1.cell? ⟨w.heap.size,2,none⟩=some (.int .i64 i.a):=by rw[cell_of_row _ _ _ _ _ _ hx];rfl
    have c3:w1.cell? ⟨w.heap.size,3,none⟩=some (.int .i64 i.b):=by rw[cell_of_row _ _ _ _ _ _ hx];rfl
    have c4:w1.cell? ⟨w.heap.size,4,none⟩=some (.int .i64 i.imm):=by rw[cell_of_row _ _ _ _ _ _ hx];rfl
    have c5:w1.cell? ⟨w.heap.size,5,none⟩=some (.int .i64 i.callee):=by rw[cell_of_row _ _ _ _ _ _ hx];rfl
    have c6:w1.cell? ⟨w.heap.size,6,none⟩=some (.slice aa na ca):=by rw[cell_of_row _ _ _ _ _ _ hx];rfl
    have c7:w1.cell? ⟨w.heap.size,7,none⟩=some (.int .i64 i.many):=by rw[cell_of_row _ _ _ _ _ _ hx];rfl
    have HB1:=Lib.hid (ext_trans (ext_alloc w _) hb1);have hl1:w.heap.size<w1.heap.size:=by have:=hb1.size;simp at this;omega
    clear hx hb1)
  |(go_at_call 236
    refine(none0_any _ 3 3 [i.a,i.b,i.imm] _ (three_ints _ _ (by simp) _ _ _ H1.out H2.out H3.out _)).mono ?_
    rintro e w2 ⟨rfl,rfl⟩)
  |(go_at_call 237
    refine(fits_any _ _ _).mono ?_
    rintro e w2 ⟨rfl,rfl⟩)
  |(go_at_call 241
    refine(containsFunc0_any _ call_odd1 (fun x=> !varB x) odd1_any aa na ca i.args _ (H.out.ext (ext_trans HB1.out (ext_trans (ext_alloc _ _) (ext_alloc _ _))))).mono ?_
    rintro e w2 ⟨rfl,rfl⟩))
 all_goals
  go_ret
  refine⟨ret_bool ?_,?_⟩
  ·go_light
   rw[isIns_at HS.out,HLA.out];simp only[←u64_small i.callee h4 h5];simp[*]
   try omega
  ·first
   |exact ext_trans HB1.out (ext_trans (ext_alloc _ _) (ext_alloc _ _))
   |exact ext_trans HB1.out (ext_alloc _ _)
   |exact HB1.out
theorem isIns_rest(i:InsD)(aa:Option Addr)(na ca:Nat)(w:World)(h:Ints w aa na i.args)(h1:I64 i.a)(h2:I64 i.b)(h3:I64 i.imm)(h4:I64 i.callee)(d a b m is:Bool)(ho:shapeD i.op=((d,a,b,m,false),is)):
  Calls Tryz.prog 161 #[insV i aa na ca] w fun e w'=>e=.returned (.bool (isInsB i))∧Below w.heap.size w w':=by
 have HS:=Lib.hid ho
 have H:=Lib.hid h
 have HLA:=Lib.hid h.1
 have H1:=Lib.hid h1
 have H2:=Lib.hid h2
 have H3:=Lib.hid h3
 have hna:=h.2.1
 obtain⟨h4,h5⟩:=h4
 clear h h1 h2 h3 ho
 go_enter Tryz.func161,Tryz.ntmps161
 go_wp2_with (first
  |(go_at_call 239
    refine(shaped_any _ _).mono ?_;rw[HS.out,shapeV];rintro e w1 ⟨rfl,hb1⟩;have hx:=hb1.block w.heap.size (by simp);rw[heap_alloc_new w _] at hx;have c1:w1.cell? ⟨w.heap.size,1,none⟩=some (.int .i64 i.dst):=by rw[cell_of_row _ _ _ _ _ _ hx];rfl
    have c2:w1.cell? ⟨w.heap.size,2,none⟩=some (.int .i64 i.a):=by rw[cell_of_row _ _ _ _ _ _ hx];rfl
    have c3:w1.cell? ⟨w.heap.size,3,none⟩=some (.int .i64 i.b):=by rw[cell_of_row _ _ _ _ _ _ hx];rfl
    have c4:w1.cell? ⟨w.heap.size,4,none⟩=some (.int .i64 i.imm):=by rw[cell_of_row _ _ _ _ _ _ hx];rfl
    have c5:w1.cell? ⟨w.heap.size,5,none⟩=some (.int .i64 i.callee):=by rw[cell_of_row _ _ _ _ _ _ hx];rfl
    have c6:w1.cell? ⟨w.heap.size,6,none⟩=some (.slice aa na ca):=by rw[cell_of_row _ _ _ _ _ _ hx];rfl
    have c7:w1.cell? ⟨w.heap.size,7,none⟩=some (.int .i64 i.many):=by rw[cell_of_row _ _ _ _ _ _ hx];rfl
    have HB1:=Lib.hid (ext_trans (ext_alloc w _) hb1);have hl1:w.heap.size<w1.heap.size:=by have:=hb1.size;simp at this;omega
    clear hx hb1)
  |(go_at_call 236
    refine(none0_any _ 3 3 [i.a,i.b,i.imm] _ (three_ints _ _ (by simp) _ _ _ H1.out H2.out H3.out _)).mono ?_
    rintro e w2 ⟨rfl,rfl⟩)
  |(go_at_call 237
    refine(fits_any _ _ _).mono ?_
    rintro e w2 ⟨rfl,rfl⟩)
  |(go_at_call 241
    refine(containsFunc0_any _ call_odd1 (fun x=> !varB x) odd1_any aa na ca i.args _ (H.out.ext (ext_trans HB1.out (ext_trans (ext_alloc _ _) (ext_alloc _ _))))).mono ?_
    rintro e w2 ⟨rfl,rfl⟩))
 all_goals
  go_ret
  refine⟨ret_bool ?_,?_⟩
  ·go_light
   rw[isIns_at HS.out,HLA.out];simp only[←u64_small i.callee h4 h5];simp[*]
   try omega
  ·first
   |exact ext_trans HB1.out (ext_trans (ext_alloc _ _) (ext_alloc _ _))
   |exact ext_trans HB1.out (ext_alloc _ _)
   |exact HB1.out
theorem isIns_any(i:InsD)(aa:Option Addr)(na ca:Nat)(w:World)(h:Ints w aa na i.args)(h1:I64 i.a)(h2:I64 i.b)(h3:I64 i.imm)(h4:I64 i.callee):
  Calls Tryz.prog 161 #[insV i aa na ca] w fun e w'=>e=.returned (.bool (isInsB i))∧Below w.heap.size w w':=by
 match ho:shapeD i.op with
 |((d,a,b,m,false),is)=>exact isIns_rest i aa na ca w h h1 h2 h3 h4 d a b m is ho
 |((d,a,b,m,true),is)=>
  refine isIns_call i aa na ca w h h1 h2 h3 h4 ?_;unfold shapeD at ho⊢
  split
  ·rfl
  ·rename_i h0
   rw[if_neg h0] at ho;exfalso
   revert ho
   repeat' split
   all_goals simp
def definesV(i:InsD):Int:=if isInsB i then i.dst else 0
theorem defines_any(i:InsD)(aa:Option Addr)(na ca:Nat)(w:World)(h:Ints w aa na i.args)(h1:I64 i.a)(h2:I64 i.b)(h3:I64 i.imm)(h4:I64 i.callee):
  Calls Tryz.prog 97 #[insV i aa na ca] w fun e w'=>e=.returned (.int .i64 (definesV i))∧Below w.heap.size w w':=by
 have H:=Lib.hid h
 have H1:=Lib.hid h1
 have H2:=Lib.hid h2
 have H3:=Lib.hid h3
 have H4:=Lib.hid h4
 clear h h1 h2 h3 h4
 go_enter Tryz.func97,Tryz.ntmps97
 go_wp2_with (first
  |(go_at_call 161
    refine(isIns_any i aa na ca _ (H.out.ext (ext_alloc _ _)) H1.out H2.out H3.out H4.out).mono ?_;rintro e w1 ⟨rfl,hb1⟩;have hx:=hb1.block w.heap.size (by simp);rw[heap_alloc_new w _] at hx;have c1:w1.cell? ⟨w.heap.size,1,none⟩=some (.int .i64 i.dst):=by rw[cell_of_row _ _ _ _ _ _ hx];rfl
    have HB1:=Lib.hid (ext_trans (ext_alloc w _) hb1)
    clear hx hb1))
 all_goals
  go_ret
  exact⟨ret_int (by go_light;cases hq:isInsB i<;>simp_all[definesV]),HB1.out⟩
end
end Go.Proofs.YthgebcfohnlhlaaGreatDoor
