/-
 Pairs looked for;whether two are near.
-/
import Derived.Test.YtnmkjliioogbgaaGreatDoorInsR
import Derived.Test.YtnmkjliioogbgaaGreatDoorNR
import Derived.Test.YtnmkjliioogbgaaGreatDoorPE
import Derived.Deep.LoopGhost
import Derived.Lib.SliceRun
namespace Go.Proofs.YtnmkjliioogbgaaGreatDoor
set_option linter.unusedSimpArgs false
set_option linter.unusedVariables false
set_option linter.unusedSectionVars false
set_option maxRecDepth 100000
set_option maxHeartbeats 40000000
section
open Go.RowKit
theorem prs_cells{w:World}{a:Option Addr}{n:Nat}{ls:List (Pr2)}(h:PrS w a n ls){k:Nat}(hk:k<n):∃r b o,ls[k]? =some r∧a=some ⟨b,o,none⟩∧w.cell? ⟨b,o+k*2,none⟩=some (.int .i64 r.1)∧w.cell? ⟨b,o+k*2+1,none⟩=some (.int .i64 r.2):=by
 have hk':k<ls.length:=by rw[h.1];exact hk
 obtain⟨r,hr⟩:∃r,ls[k]? =some r:=⟨ls[k],List.getElem?_eq_getElem hk'⟩
 obtain⟨b,o,e,hc⟩:=h.2.2 k r hr
 exact⟨r,b,o,hr,e,hc 0 (by omega),hc 1 (by omega)⟩
theorem indexPr_any(a:Option Addr)(n c:Nat)(ls:List (Pr2))(x:Pr2)(w:World)(h:PrS w a n ls):
  Calls Tryz.prog 32 #[.slice a n c,.agg #[.int .i64 x.1,.int .i64 x.2]] w fun e w'=>e=.returned (.int .i64 (idxF (samePr x) ls))∧Below w.heap.size w w':=by
 have HL:=Lib.hid h.1
 have hn:=h.2.1
 have H:=Lib.hid h
 clear h
 have hq:=fun(w:World) (q:Pr2)=>eql_pair w x q
 go_enter Tryz.func32,Tryz.ntmps32
 go_wp2
 go_loopw [5,8] (fun _ i wr=>∃(k:Nat),k≤n∧i=.int .i64 k∧Hid (∀j y,j<k→ls[j]? =some y→samePr x y=false)∧Hid (Below (w.alloc (.cells #[.int .i64 x.1,.int .i64 x.2] 49)).heap.size (w.alloc (.cells #[.int .i64 x.1,.int .i64 x.2] 49)) wr)) (fun _ i _=>n-(intOf i).toNat)
 case atStart=>exact⟨0,by omega,rfl,fun j y hj=>absurd hj (by omega),Below.refl _ _⟩
 case round=>
  obtain⟨k,hk,rfl,HR,HB⟩:=hrel;have HBw:Hid (Below w.heap.size w wr):=ext_trans (ext_alloc _ _) HB.out;have hx:=block_ext HB.out (heap_alloc_new w _);have x0:wr.cell? ⟨w.heap.size,0,none⟩=some (.int .i64 x.1):=by rw[cell_of_row _ _ _ _ _ _ hx];rfl
  have x1:wr.cell? ⟨w.heap.size,1,none⟩=some (.int .i64 x.2):=by rw[cell_of_row _ _ _ _ _ _ hx];rfl
  clear hx;by_cases hlt:k<n
  ·obtain⟨r,b,o,hr,rfl,c0,c1⟩:=prs_cells (H.out.ext csP_len HBw.out) hlt;have HG:=Lib.hid hr;clear hr;have hk0:(0:Int)≤(k:Int):=by omega
   have hk1:(k:Int)<(n:Int):=by omega
   have hq2:∀w,(binOp .eql 49 (.agg #[.int .i64 x.1,.int .i64 x.2]) (.agg #[.int .i64 r.1,.int .i64 r.2])).run Tryz.prog w=.ok (.bool (samePr x r)) w:=fun w=>hq w r;by_cases hy:samePr x r=true
   ·have HE:Hid (idxF (samePr x) ls=k):=idxF_found _ ls k r HG.out hy HR.out;go_wp2
    go_quiet (fail)
    go_wp2
    go_ret
    exact⟨by rw[HE.out];rfl,ext_drewN HBw.out _⟩
   ·have hy':samePr x r=false:=by simpa using hy
    have HE:Hid (∀j z,j<k+1→ls[j]? =some z→samePr x z=false):=fun j z hj hz=>by
     by_cases e:j=k
     ·subst e;rw[HG.out] at hz;injection hz with hz;subst hz;exact hy'
     ·exact HR.out j z (by omega) hz
    go_wp2
    go_quiet (fail)
    go_wp2
    go_roundw
    case rel=>exact⟨k+1,by omega,by go_num,HE,ext_drewN HB.out _⟩
    case measure=>simp[intOf];omega
  ·obtain rfl:k=n:=by omega
   have HE:Hid (idxF (samePr x) ls= -1):=idxF_none _ ls (fun z hz=>by
    obtain⟨j,hj,e⟩:=List.mem_iff_getElem.1 hz
    exact HR.out j z (by rw[HL.out] at hj;exact hj) (by rw[List.getElem?_eq_getElem hj,e]))
   go_wp2
   go_ret
   exact⟨by rw[HE.out];rfl,HBw.out⟩
def hasPr(ls:List (Pr2))(x:Pr2):Bool:=ls.any (samePr x)
theorem containsPr_any(a:Option Addr)(n c:Nat)(ls:List (Pr2))(x:Pr2)(w:World)(h:PrS w a n ls):
  Calls Tryz.prog 23 #[.slice a n c,.agg #[.int .i64 x.1,.int .i64 x.2]] w fun e w'=>e=.returned (.bool (hasPr ls x))∧Below w.heap.size w w':=by
 have HA:=Lib.hid (idxF_any (samePr x) ls)
 have hg:=idxF_ge (samePr x) ls
 have H:=Lib.hid h
 clear h
 go_enter Tryz.func23,Tryz.ntmps23
 go_wp2_with (go_at_call 32;refine(indexPr_any a n c ls x _ (H.out.ext csP_len (ext_alloc _ _))).mono ?_;rintro e w' ⟨rfl,hb'⟩;have HB':=Lib.hid (ext_trans (ext_alloc _ _) hb');clear hb')
 go_ret
 exact⟨ret_bool (by rw[hasPr,←HA.out]),HB'.out⟩
theorem hasPr_iff(ps:List Pr2)(x:Pr2):hasPr ps x=decide (x∈ps):=by
 unfold hasPr
 apply Bool.eq_iff_iff.2
 rw[List.any_eq_true,decide_eq_true_eq]
 constructor
 ·rintro⟨y,hy,e⟩;rw[samePr_iff] at e;rw[e];exact hy
 ·intro h;exact⟨x,h,(samePr_iff x x).2 rfl⟩
abbrev graphV(va:Option Addr)(vn vc:Nat)(pa:Option Addr)(pn pc:Nat)(aa:Option Addr)(an ac:Nat):Value:=.agg #[.slice va vn vc,.slice pa pn pc,.slice aa an ac]
abbrev graphO(va:Option Addr)(vn vc:Nat)(pa:Option Addr)(pn pc:Nat)(aa:Option Addr)(an ac:Nat):Obj:=.cells #[.slice va vn vc,.slice pa pn pc,.slice aa an ac] 25 (0,0)
theorem cNear_any(va:Option Addr)(vn vc:Nat)(pa:Option Addr)(pn pc:Nat)(aa:Option Addr)(an ac:Nat)(ps:List Pr2)(x y:Int)(w:World)(h:PrS w pa pn ps):
  Calls Tryz.prog 9 #[graphV va vn vc pa pn pc aa an ac,.int .i64 x,.int .i64 y] w fun e w'=>e=.returned (.bool (nearG ps x y))∧Below w.heap.size w w':=by
 have H:=Lib.hid h
 clear h
 go_enter Tryz.func9,Tryz.ntmps9
 go_upto_region 1 with (fail)
 obtain⟨W,hW⟩:∃W,W=w.alloc (graphO va vn vc pa pn pc aa an ac):=⟨_,rfl⟩
 rw[←hW]
 have HB:Hid (Below w.heap.size w W):=by rw[hW];exact ext_alloc _ _
 have h1:W.heap[w.heap.size]? =some (graphO va vn vc pa pn pc aa an ac):=by rw[hW];exact heap_alloc_new _ _
 have HG:=Lib.hid h1
 have x1:W.cell? ⟨w.heap.size,1,none⟩=some (.slice pa pn pc):=by rw[cell_of_row _ _ _ _ _ _ h1];rfl
 clear hW h1
 have HN:Hid (nearG ps x y=(hasPr ps (x,y)||hasPr ps (y,x))):=by rw[Hid,hasPr_iff,hasPr_iff];rfl
 cases h2:hasPr ps (x,y) with
 |true=>
  go_wp2_with (
   (go_at_call 23
    refine(containsPr_any pa pn pc ps (x,y) W (H.out.ext csP_len HB.out)).mono ?_;rintro e w1 ⟨rfl,hb⟩;rw[h2];have HB1:=Lib.hid (ext_trans HB.out hb)
    clear hb))
  go_ret
  exact⟨by rw[HN.out,h2];rfl,HB1.out⟩
 |false=>
  go_wp2_with (first
   |(go_at_call 23
     refine(containsPr_any pa pn pc ps (y,x) w1 (H.out.ext csP_len HB1.out)).mono ?_;rintro e w2 ⟨rfl,hb⟩;have HB2:=Lib.hid (ext_trans HB1.out hb)
     clear hb)
   |(go_at_call 23
     refine(containsPr_any pa pn pc ps (x,y) W (H.out.ext csP_len HB.out)).mono ?_;rintro e w1 ⟨rfl,hb⟩;rw[h2];have x2:w1.cell? ⟨w.heap.size,1,none⟩=some (.slice pa pn pc):=cell_ext hb x1;have HB1:=Lib.hid (ext_trans HB.out hb)
     clear hb))
  go_ret
  exact⟨by rw[HN.out,h2];rfl,HB2.out⟩
end

section
open Go.RowKit
section
variable {α:Type}
theorem idxF_spec(p:α→Bool)(l:List α):(idxF p l= -1∧∀y∈l,p y=false)∨∃(k:Nat) (x:α),idxF p l=k∧l[k]? =some x∧p x=true∧∀j y,j<k→l[j]? =some y→p y=false:=by
 induction l with
 |nil=>exact Or.inl ⟨rfl,by simp⟩
 |cons y l ih=>
  by_cases hy:p y=true
  ·exact Or.inr ⟨0,y,by simp[idxF,hy],rfl,hy,fun j z hj=>absurd hj (by omega)⟩
  ·have hy':p y=false:=by simpa using hy
   rcases ih with ⟨h1,h2⟩|⟨k,x,h1,h2,h3,h4⟩
   ·exact Or.inl ⟨by simp[idxF,hy',h1],by simpa[hy'] using h2⟩
   ·refine Or.inr ⟨k+1,x,?_,by simpa using h2,h3,fun j z hj hz=>?_⟩
    ·simp only[idxF,hy',h1];rw[if_neg (by simp),if_neg (by omega)];omega
    ·cases j with
     |zero=>simp at hz;rw[←hz];exact hy'
     |succ j=>exact h4 j z (by omega) (by simpa using hz)
def KeptAt(p:α→Bool)(rs:List α)(i j:Nat)(L:List α):Prop:=
 i<j∧j≤rs.length∧L.length=rs.length∧L.take i=(rs.take j).filter (fun x=> !p x)∧∀k,j≤k→L[k]? =rs[k]?
theorem KeptAt.start{p:α→Bool}{rs:List α}{k:Nat}{x:α}(hx:rs[k]? =some x)(hp:p x=true)(hno:∀j y,j<k→rs[j]? =some y→p y=false):KeptAt p rs k (k+1) rs:=by
 have hk:=(List.getElem?_eq_some_iff.1 hx).1
 refine⟨by omega,by omega,rfl,?_,fun _ _=>rfl⟩
 rw[List.take_add_one,hx,List.filter_append]
 have h1:(rs.take k).filter (fun x=> !p x)=rs.take k:=by
  rw[List.filter_eq_self];intro y hy;obtain⟨j,hj,e⟩:=List.mem_iff_getElem.1 hy;have hj':j<k:=by rw[List.length_take] at hj;omega
  rw[List.getElem_take] at e;simp[hno j y hj' (by rw[List.getElem?_eq_getElem (by omega),e])]
 rw[h1]
 simp[hp]
theorem KeptAt.keep{p:α→Bool}{rs L:List α}{i j:Nat}{x:α}(h:KeptAt p rs i j L)(hx:rs[j]? =some x)(hp:p x=false):KeptAt p rs (i+1) (j+1) (L.set i x):=by
 obtain⟨h1,h2,h3,h4,h5⟩:=h
 have hj:=(List.getElem?_eq_some_iff.1 hx).1
 refine⟨by omega,by omega,by simpa using h3,?_,fun k hk=>?_⟩
 ·rw[List.take_add_one,List.take_set_of_le (by omega),h4,List.take_add_one (l:=rs),hx,List.filter_append,List.getElem?_set_self (by omega)];simp[hp]
 ·rw[List.getElem?_set_ne (by omega)];exact h5 k (by omega)
theorem KeptAt.skip{p:α→Bool}{rs L:List α}{i j:Nat}{x:α}(h:KeptAt p rs i j L)(hx:rs[j]? =some x)(hp:p x=true):KeptAt p rs i (j+1) L:=by
 obtain⟨h1,h2,h3,h4,h5⟩:=h
 have hj:=(List.getElem?_eq_some_iff.1 hx).1
 refine⟨by omega,by omega,h3,?_,fun k hk=>h5 k (by omega)⟩
 rw[h4,List.take_add_one (l:=rs),hx,List.filter_append]
 simp[hp]
theorem KeptAt.done{p:α→Bool}{rs L:List α}{i:Nat}(h:KeptAt p rs i rs.length L):L.take i=rs.filter (fun x=> !p x):=by
 rw[h.2.2.2.1,List.take_length]
end
theorem ownsRow_cap{w:World}{base:Nat}{e:TypeId}{size g n c:Nat}{xs:List Value}(h:w.ownsRow base e size (.slice (some ⟨g,0,none⟩) n c) n xs):n≤c:=by
 rcases h.2 with ⟨h0,_⟩|⟨g',cap,cur,hv,_,_,hnc,_⟩
 ·cases h0
 ·simp only[Value.slice.injEq] at hv;omega
theorem ownsRow_trunc{w:World}{base:Nat}{e:TypeId}{size g n c:Nat}{xs:List Value}(h:w.ownsRow base e size (.slice (some ⟨g,0,none⟩) n c) n xs)(i:Nat)(hi:i≤n):w.ownsRow base e size (.slice (some ⟨g,0,none⟩) i c) i (xs.take (i*size)):=by
 have hm:i*size≤n*size:=Nat.mul_le_mul_right _ hi
 refine⟨by rw[List.length_take,h.1];omega,?_⟩
 rcases h.2 with ⟨h0,_⟩|⟨g',cap,cur,hv,hb,hg,hnc,hcm,hcs,ht⟩
 ·cases h0
 ·simp only[Value.slice.injEq,Option.some.injEq,Addr.mk.injEq,and_true,true_and] at hv;obtain⟨rfl,rfl⟩:=hv;exact Or.inr ⟨g,c,cur,rfl,hb,hg,by omega,hcm,hcs,by rw[←ht,List.take_take,Nat.min_eq_left hm]⟩
theorem ownsRow_beyond{base:Nat}{e:TypeId}{size g i c:Nat}{xs:List Value}:∀(vs:List Value) (o:Nat) (w:World),w.ownsRow base e size (.slice (some ⟨g,0,none⟩) i c) i xs→i*size≤o→(w.setCells g o vs).ownsRow base e size (.slice (some ⟨g,0,none⟩) i c) i xs
 | [],_,_,h,_=>h
 |v :: r,o,w,h,ho=>by
  have h1:=(h.stored o v).1;rw[List.set_eq_of_length_le (by rw[h.1];exact ho)] at h1;exact ownsRow_beyond r (o+1) _ h1 (by omega)
theorem ownsRow_take{w:World}{base:Nat}{e:TypeId}{size g n c:Nat}{xs:List Value}(h:w.ownsRow base e size (.slice (some ⟨g,0,none⟩) n c) n xs)(i:Nat)(hi:i≤n)(vs:List Value):(w.setCells g (i*size) vs).ownsRow base e size (.slice (some ⟨g,0,none⟩) i c) i (xs.take (i*size)):=
 ownsRow_beyond vs _ w (ownsRow_trunc h i hi) (Nat.le_refl _)
theorem run_clear_rows{P:Program}(w:World)(t e ty:TypeId)(z:Value)(ht:P.underlying t=some (.slice e))(hv:∀w,(zeroValue e).run P w=.ok z w)(size:Nat)(hz:z.cells.size=size)(h1:∀u∈z.cells.toList,u.oneCell'=true)(b o n c:Nat)(hn:0<n)
  (hc:∀j,j<n*size→(w.cell? ⟨b,o+j,none⟩).isSome=true) (hf:∀j,j<n*size→w.frozen? ⟨b,o+j,none⟩=false):
  ∃vs:List Value,(Builtin.clear_ #[t] ty #[.slice (some ⟨b,o,none⟩) n c]).run P w=.ok (.tuple #[]) (w.setCells b o vs):=by
 refine⟨(Builtin.zeroCells z.cells n).toList,?_⟩
 have hl:(Builtin.zeroCells z.cells n).toList.length=n*size:=by simp[Builtin.zeroCells,hz]
 have hst:=run_storeCells_cells (P:=P) b o (Builtin.zeroCells z.cells n).toList 0 w (by simpa[hl] using hc) (by simpa[hl] using hf) (by
  intro v hv';simp only[Builtin.zeroCells,Array.toList_map,List.mem_map,Array.toList_range,List.mem_range] at hv';obtain⟨q,hq,rfl⟩:=hv';have hpos:0<z.cells.size:=by
   rcases Nat.eq_zero_or_pos z.cells.size with h0|h0
   ·rw[h0] at hq;omega
   ·exact h0
  have hlt:=Nat.mod_lt q hpos;rw[getElem!_pos z.cells _ hlt]
  exact h1 _ (by simp))
 simp only[Nat.add_zero] at hst
 obtain⟨m,rfl⟩:∃m,n=m+1:=⟨n-1,by omega⟩
 simp[Builtin.clear_,run_underlying ht,hv,hst]
def askD(dst:Int)(y:Int):Bool:=decide (y∈[dst])
theorem enter_askD(args:Array Value)(w:World):(callFunc 102 args).run Tryz.prog w=.ok (.enter 102 args) w:=enters_of Tryz.func102 (by kernel_rfl) rfl args w
theorem askD_any(P:Nat)(dst y:Int)(w:World)(hc:w.cell? ⟨P,1,none⟩=some (.int .i64 dst)):Calls Tryz.prog 102 (#[.int .i64 y]++ #[.pointer (some ⟨P,0,none⟩)]) w fun e w'=>e=.returned (.bool (askD dst y))∧Below w.heap.size w w':=by
 have hl:=World.block_lt_of_cell? _ _ hc
 have HQ:Hid ((y==dst)=askD dst y):=by unfold askD;rw[Hid,Bool.eq_iff_iff];simp
 show Calls Tryz.prog 102 #[.int .i64 y,.pointer (some ⟨P,0,none⟩)] w _
 go_enter Tryz.func102,Tryz.ntmps102
 go_wp2
 go_ret
 exact⟨congrArg (fun b=>Ending.returned (.bool b)) HQ.out,Below.refl _ _⟩
abbrev IntRow(w:World)(B:Nat)(v:Value)(xs:List Int):Prop:=w.ownsRow B 3 1 v xs.length (intVals xs)
def DelPost(B:Nat)(xs:List Int)(p:Int→Bool)(v:Value)(w:World)(e:Ending)(w':World):Prop:=
 ∃v',e=.returned v'∧IntRow w' B v' (xs.filter fun x=> !p x)∧Chg (fun k=>v.ownBlock=some k) w w'
theorem intVals_take(l:List Int)(i:Nat):(intVals l).take (i*1)=intVals (l.take i):=by simp[intVals]
theorem intVals_at{l:List Int}{k:Nat}{x:Int}(h:l[k]? =some x):(intVals l)[k]? =some (.int .i64 x):=by simp[intVals,h]
theorem deleteI_some(B P:Nat)(dst:Int)(g c:Nat)(rs:List Int)(w:World)
  (hown:OwnI w B (.slice (some ⟨g,0,none⟩) rs.length c) rs) (hn:rs.length≤1000000) (hB:B≤w.heap.size) (hP:P<B) (hd:w.cell? ⟨P,1,none⟩=some (.int .i64 dst)):
  Calls Tryz.prog 103 #[.slice (some ⟨g,0,none⟩) rs.length c,.func (.func 102) #[] #[.pointer (some ⟨P,0,none⟩)]] w (DelPost B rs (askD dst) (.slice (some ⟨g,0,none⟩) rs.length c) w):=by
 have hgB:B≤g∧g<w.heap.size:=hown.1.lt g rfl
 have hp:∀(x:Int) (W:World),Below B w W→Calls Tryz.prog 102 (#[.int .i64 x]++ #[.pointer (some ⟨P,0,none⟩)]) W fun e W'=>e=.returned (.bool (askD dst x))∧Below W.heap.size W W':=fun x W hb=>by
  refine askD_any P dst x W ?_;rw[←hd];have:=hb.block P hP;unfold World.cell?;simp only[this]
 have hI:=indexFunc_any 102 _ enter_askD (askD dst) (some ⟨g,0,none⟩) rs.length c rs w (fun r W _ hb=>hp r W (hb.mono hB)) hown.ints
 have HI:=Lib.hid hI
 have HO:=Lib.hid hown.1
 have HIN:=Lib.hid hown.2.1
 have HP:=Lib.hid hp
 clear hI hown hp hd
 obtain⟨n,HN⟩:∃n,Hid (rs.length=n):=⟨_,rfl⟩
 rcases idxF_spec (askD dst) rs with ⟨hx,hall⟩|⟨k,x,hx,hk,hpx,hno⟩
 ·have HE:Hid (rs.filter (fun x=> !askD dst x)=rs):=by
   rw[Hid,List.filter_eq_self];intro y hy;simp[hall y hy]
  have HX:=Lib.hid hx;clear hx hall
  go_enter Tryz.func103,Tryz.ntmps103
  go_wp2_with (go_at_call 31;refine HI.out.mono ?_;rw[HX.out];rintro e w1 ⟨rfl,hb1⟩;have HB1:=Lib.hid hb1;clear hb1)
  go_ret
  refine⟨_,rfl,?_,(Chg.refl _ _).of_ext HB1.out⟩;rw[HE.out];exact ownsRow_chg HO.out ((Chg.refl (fun _=>False) w).of_ext HB1.out) (fun _ _ h=>h)
 ·have HX:=Lib.hid hx;have HK:=Lib.hid (KeptAt.start hk hpx hno);have hkl:=(List.getElem?_eq_some_iff.1 hk).1;clear hx hk hpx hno;have hne1:((k:Int)== -1)=false:=beq_eq_false_iff_ne.2 (by omega);obtain⟨n,hnn⟩:∃n,rs.length=n:=⟨_,rfl⟩
  have HN:=Lib.hid hnn;have hnc:rs.length≤c:=ownsRow_cap HO.out;rw[hnn] at hn hkl hnc;have hI2:=HI.out;rw[hnn] at hI2;have HI:=Lib.hid hI2;rw[hnn];clear hnn hI2
  go_enter Tryz.func103,Tryz.ntmps103
  go_wp2_with (go_at_call 31;refine HI.out.mono ?_;rw[HX.out];rintro e w1 ⟨rfl,hb1⟩;have HB1:=Lib.hid hb1;clear hb1)
  go_loopg [5,6,7] n (fun gg s5 s6 _ wr=>∃(i j:Nat) (L:List Int),s5=.int .i64 i∧s6=.int .i64 j∧j≤n∧i<j∧n-j≤gg∧Hid (IntRow wr B (.slice (some ⟨g,0,none⟩) L.length c) L)∧Hid (KeptAt (askD dst) rs i j L)∧Hid (Chg (fun k=>k=g) w wr))
  case atStart=>
   refine⟨k,k+1,rs,rfl,by go_num,by omega,by omega,by omega,?_,HK,(Chg.refl _ _).of_ext HB1.out⟩;exact ownsRow_chg HO.out ((Chg.refl (fun _=>False) w).of_ext HB1.out) (fun _ _ h=>h)
  case round=>
   obtain⟨i,j,L,rfl,rfl,hj,hij,hgg,HR,HA,HC⟩:=hrel;have HLn:Hid (L.length=n):=HA.out.2.2.1.trans HN.out;by_cases hlt:j<n
   ·have hjr:j<rs.length:=by rw[HN.out];exact hlt
    obtain⟨x,hx⟩:∃x,rs[j]? =some x:=⟨rs[j],List.getElem?_eq_getElem hjr⟩
    have hxL:L[j]? =some x:=(HA.out.2.2.2.2 j (Nat.le_refl _)).trans hx;have c0:wr.cell? ⟨g,j,none⟩=some (.int .i64 x):=by
     rw[World.ownsRow.cellAt HR.out j (by rw[HLn.out];omega)];exact intVals_at hxL
    have c1:∃v,wr.cell? ⟨g,i,none⟩=some v:=by
     rw[World.ownsRow.cellAt HR.out i (by rw[HLn.out];omega)];exact⟨_,List.getElem?_eq_getElem (by simp[intVals,HLn.out];omega)⟩
    obtain⟨v1,c1⟩:=c1;have c2:=HR.out.frozenAt i;have HX:=Lib.hid hx;have HCALL:=Lib.hid (HP.out x wr (HC.out.below hB (fun k hk=>by rw[hk];exact hgB.1)));clear hx hxL;cases hq:askD dst x with
    |true=>
     rw[hq] at HCALL
     go_wp2_with (go_at_call 102;refine HCALL.out.mono ?_;rintro e w2 ⟨rfl,hb2⟩;have HB2:=Lib.hid hb2;clear hb2)
     go_roundg (n-(j+1))
     case measure=>omega
     case rel=>exact⟨i,j+1,L,rfl,by go_num,by omega,by omega,Nat.le_refl _,ownsRow_chg HR.out ((Chg.refl (fun _=>False) _).of_ext HB2.out) (fun _ _ h=>h),HA.out.skip HX.out hq,HC.out.of_ext HB2.out⟩
    |false=>
     rw[hq] at HCALL
     go_wp2_with (go_at_call 102;refine HCALL.out.mono ?_;rintro e w2 ⟨rfl,hb2⟩;have HB2:=Lib.hid hb2;have e1:=cell_ext hb2 c1;have HR2:Hid (IntRow w2 B (.slice (some ⟨g,0,none⟩) L.length c) L):=(ownsRow_chg HR.out ((Chg.refl (fun _=>False) _).of_ext hb2) (fun _ _ h=>h));have e2:=HR2.out.frozenAt i;clear hb2)
     go_roundg (n-(j+1))
     case measure=>omega
     case rel=>
      have hset:=(HR2.out.stored i (.int .i64 x)).1;refine⟨i+1,j+1,L.set i x,by go_num,by go_num,by omega,by omega,Nat.le_refl _,?_,HA.out.keep HX.out hq,?_⟩
      ·rw[Hid,List.length_set];unfold IntRow;rw[List.length_set];have:(intVals L).set i (.int .i64 x)=intVals (L.set i x):=by simp[intVals,List.map_set]
       rw[←this];exact hset
      ·exact(HC.out.of_ext HB2.out).setCell (Or.inl rfl) _
   ·obtain rfl:j=n:=by omega
    obtain⟨vs,hcl⟩:=run_clear_rows (P:=Tryz.prog) wr 22 3 0 _ Tryz.underlying22 zero_intV 1 rfl (by simp[Value.cells,Value.oneCell']) g i (j-i) (c-i) (by omega) (fun q hq=>by
     rw[World.ownsRow.cellAt HR.out (i+q) (by rw[HLn.out];omega)];rw[List.getElem?_eq_getElem (by simp[intVals,HLn.out];omega)]
     rfl) (fun q _=>HR.out.frozenAt _)
    go_wp2
    go_ret
    have ht:=ownsRow_take HR.out i (by rw[HLn.out];omega) vs;have hA:=HA.out;rw[←HN.out] at hA;have hd:=hA.done;have hli:(L.take i).length=i:=by rw[List.length_take,HLn.out];omega
    rw[intVals_take] at ht;rw[hd] at ht;refine⟨_,rfl,?_,(chg_setCells (S:=fun k=>k=g) rfl vs _ _ HC.out).mono (fun k hk=>by rw[hk];rfl)⟩;rw[hd] at hli;unfold IntRow;rw[hli];rw[Nat.mul_one] at ht;exact ht
theorem deleteI_any(B P:Nat)(dst:Int)(v:Value)(xs:List Int)(w:World)(hown:OwnI w B v xs)(hn:xs.length≤1000000)(hB:B≤w.heap.size)(hP:P<B)(hd:w.cell? ⟨P,1,none⟩=some (.int .i64 dst)):
  Calls Tryz.prog 103 #[v,.func (.func 102) #[] #[.pointer (some ⟨P,0,none⟩)]] w fun e w'=>∃v',e=.returned v'∧OwnI w' B v' (lessL xs [dst])∧Below B w w':=by
 rcases id hown.1.2 with ⟨rfl,h0⟩|⟨g,cap,cur,rfl,hb,hh,_⟩
 ·have h0:xs= []:=List.eq_nil_of_length_eq_zero h0;subst h0;have HI:=Lib.hid (indexFunc_any 102 #[.pointer (some ⟨P,0,none⟩)] enter_askD (askD dst) none 0 0 [] w (fun r W h=>by cases h) ⟨rfl,by omega,fun k h=>by omega⟩);clear hd
  go_enter Tryz.func103,Tryz.ntmps103
  go_wp2_with (go_at_call 31;refine HI.out.mono ?_;rw[show idxF (askD dst) []= -1 from rfl];rintro e w1 ⟨rfl,hb1⟩;have HB1:=Lib.hid hb1;clear hb1)
  go_ret
  exact⟨_,rfl,OwnI.nil _ _,HB1.out.mono hB⟩
 ·have HO:=Lib.hid hown;refine(deleteI_some B P dst g cap xs w hown hn hB hP hd).mono ?_;rintro e w' ⟨v',rfl,hr,hc⟩;have hlen:(xs.filter fun x=> !askD dst x).length≤xs.length:=List.length_filter_le _ _;refine⟨v',rfl,⟨hr,fun x hx=>HO.out.2.1 x (List.mem_filter.1 hx).1,by have:=HO.out.2.2;unfold lessL;unfold askD at hlen;omega⟩,hc.below hB fun k hk=>?_⟩;simp only[Value.ownBlock,Option.some.injEq] at hk;omega
end

section
open Go.RowKit
def CK(w W:World):Prop:=∀(g o:Nat) (v:Value),w.cell? ⟨g,o,none⟩=some v→W.cell? ⟨g,o,none⟩=some v
theorem CK.refl(w:World):CK w w:=fun _ _ _ h=>h
theorem CK.trans{a b c:World}(h:CK a b)(k:CK b c):CK a c:=fun g o v x=>k g o v (h g o v x)
theorem CK.ext{w W:World}(h:Below w.heap.size w W):CK w W:=fun _ _ _ x=>cell_ext h x
theorem CK.map{w W:World}{b:Nat}{p:Int→Prop}(h:VHas w b p)(hc:Chg (fun j=>j=b) w W):CK w W:=fun _ _ _ x=>cell_chg hc x (h.nocell x)
theorem CK.x{w W:World}(h:CK w W){g o:Nat}{v:Value}(hc:w.cell? ⟨g,o,none⟩=some v)(n:ExtW W):n.val.cell? ⟨g,o,none⟩=some v:=cell_ext n.ext (h _ _ _ hc)
theorem CK.l{w W:World}(h:CK w W){g o:Nat}{v:Value}(hc:w.cell? ⟨g,o,none⟩=some v):g<W.heap.size:=World.block_lt_of_cell? _ _ (h _ _ _ hc)
theorem CK.xl{w W:World}(h:CK w W){g o:Nat}{v:Value}(hc:w.cell? ⟨g,o,none⟩=some v)(n:ExtW W):g<n.val.heap.size:=Nat.lt_of_lt_of_le (h.l hc) n.ext.size
theorem Ints.ck{w W:World}{a:Option Addr}{n:Nat}{xs:List Int}(h:Ints w a n xs)(k:CK w W):Ints W a n xs:=
 ⟨h.1,h.2.1,fun j hj=>let ⟨g,o,e,h3,h4⟩:=h.2.2 j hj;⟨g,o,e,k _ _ _ h3,h4⟩⟩
theorem IntsAt.ck{w W:World}{a:Option Addr}{n:Nat}{f:Nat→List Int}(h:IntsAt w a n f)(k:CK w W):IntsAt W a n f:=fun j hj=>
 let ⟨g,o,a',c',e,h1,h2⟩:=h j hj
 ⟨g,o,a',c',e,k _ _ _ h1,h2.ck k⟩
theorem IntsAt2.ck{w W:World}{a:Option Addr}{n:Nat}{m:Nat→Nat}{f:Nat→Nat→List Int}(h:IntsAt2 w a n m f)(k:CK w W):IntsAt2 W a n m f:=fun j hj=>
 let ⟨g,o,a',c',e,h1,h2⟩:=h j hj
 ⟨g,o,a',c',e,k _ _ _ h1,h2.ck k⟩
theorem LiveR.ck{w W:World}{bs:List BkL}{n:Nat}{h:LiveH}(hl:LiveR w bs n h)(k:CK w W):LiveR W bs n h:=⟨hl.1.ck k,hl.2.1.ck k,hl.2.2.ck k⟩
theorem Recs.ck{α:Type}{size:Nat}{cs:α→List Value}{w W:World}{a:Option Addr}{n:Nat}{ls:List α}(h:Recs size cs w a n ls)(hs:∀x,(cs x).length=size)(k:CK w W):Recs size cs W a n ls:=
 ⟨h.1,h.2.1,fun j x hx=>by
  obtain⟨b,o,e,hc⟩:=h.2.2 j x hx;refine⟨b,o,e,fun i hi=>?_⟩;have h1:=hc i hi;have h2:(cs x)[i]? =some ((cs x)[i]'(by rw[hs];exact hi)):=List.getElem?_eq_getElem _;rw[h2] at h1⊢
  exact k _ _ _ h1⟩
theorem InsS.ck{w W:World}{a:Option Addr}{n:Nat}{rs:List InsR}(h:InsS w a n rs)(k:CK w W):InsS W a n rs:=
 ⟨h.1.ck insC_len k,fun r hr=>let ⟨h1,h2⟩:=h.2 r hr;⟨h1.ck k,h2⟩⟩
theorem BlksR.ck{w W:World}{a:Option Addr}{n:Nat}{bs:List BlkR}(h:BlksR w a n bs)(k:CK w W):BlksR W a n bs:=
 ⟨h.1.ck blkC'_len k,fun b hb=>⟨(h.2 b hb).1,(h.2 b hb).2.ck k⟩⟩
structure CS(w:World)(r d l a:Nat)(R D L A:Int→Prop)(W:World):Prop where
 ck:CK w W
 fr:VHas W r R
 fd:VHas W d D
 fl:VHas W l L
 fa:VHas W a A
 ch:Chg (fun j=>j=r∨j=d∨j=l∨j=a) w W
def Apart4(r d l a:Nat):Prop:=r≠d∧r≠l∧r≠a∧d≠l∧d≠a∧l≠a
section
variable {w W W':World} {r d l a:Nat} {R D L A R' D' L' A':Int→Prop}
theorem VHas.ne{b g:Nat}{p:Int→Prop}{cs:Array Value}{t:TypeId}{f:Nat×Nat}(h:VHas W b p)(hr:W.heap[g]? =some (.cells cs t f)):g≠b:=fun e=>by
 obtain⟨L,⟨es,c,h1,_⟩,_⟩:=h
 rw[←e,hr] at h1
 cases h1
theorem VHas.ext{b:Nat}{p:Int→Prop}(h:VHas W b p)(hb:Below W.heap.size W W'):VHas W' b p:=h.kept (hb.block b h.lt)
theorem CS.ext(h:CS w r d l a R D L A W)(hb:Below W.heap.size W W'):CS w r d l a R D L A W':=
 ⟨h.ck.trans (CK.ext hb),h.fr.ext hb,h.fd.ext hb,h.fl.ext hb,h.fa.ext hb,h.ch.of_ext hb⟩
theorem CS.addR(h:CS w r d l a R D L A W)(hn:Apart4 r d l a)(hv:VHas W' r R')(hg:Chg (fun j=>j=r) W W'):CS w r d l a R' D L A W':=by
 obtain⟨h1,h2,h3,h4,h5,h6⟩:=hn
 exact⟨h.ck.trans (CK.map h.fr hg),hv,h.fd.chg hg (by simpa using h1.symm),h.fl.chg hg (by simpa using h2.symm),h.fa.chg hg (by simpa using h3.symm),h.ch.trans (hg.mono fun k e=>.inl e)⟩
theorem CS.addD(h:CS w r d l a R D L A W)(hn:Apart4 r d l a)(hv:VHas W' d D')(hg:Chg (fun j=>j=d) W W'):CS w r d l a R D' L A W':=by
 obtain⟨h1,h2,h3,h4,h5,h6⟩:=hn
 exact⟨h.ck.trans (CK.map h.fd hg),h.fr.chg hg (by simpa using h1),hv,h.fl.chg hg (by simpa using h4.symm),h.fa.chg hg (by simpa using h5.symm),h.ch.trans (hg.mono fun k e=>.inr (.inl e))⟩
theorem CS.addL(h:CS w r d l a R D L A W)(hn:Apart4 r d l a)(hv:VHas W' l L')(hg:Chg (fun j=>j=l) W W'):CS w r d l a R D L' A W':=by
 obtain⟨h1,h2,h3,h4,h5,h6⟩:=hn
 exact⟨h.ck.trans (CK.map h.fl hg),h.fr.chg hg (by simpa using h2),h.fd.chg hg (by simpa using h4),hv,h.fa.chg hg (by simpa using h6.symm),h.ch.trans (hg.mono fun k e=>.inr (.inr (.inl e)))⟩
theorem CS.addA(h:CS w r d l a R D L A W)(hn:Apart4 r d l a)(hv:VHas W' a A')(hg:Chg (fun j=>j=a) W W'):CS w r d l a R D L A' W':=by
 obtain⟨h1,h2,h3,h4,h5,h6⟩:=hn
 exact⟨h.ck.trans (CK.map h.fa hg),h.fr.chg hg (by simpa using h3),h.fd.chg hg (by simpa using h5),h.fl.chg hg (by simpa using h6),hv,h.ch.trans (hg.mono fun k e=>.inr (.inr (.inr e)))⟩
theorem CS.congr(h:CS w r d l a R D L A W)(e1:∀y,R y↔R' y)(e2:∀y,D y↔D' y)(e3:∀y,L y↔L' y)(e4:∀y,A y↔A' y):CS w r d l a R' D' L' A' W:=
 ⟨h.ck,h.fr.congr e1,h.fd.congr e2,h.fl.congr e3,h.fa.congr e4,h.ch⟩
theorem Steady.vhas(B b:Nat)(p:Int→Prop):Steady B (fun W=>VHas W b p):=Steady.ex fun L=>(Steady.setM B b L).and (Steady.pure _ _)
theorem CS.base{w1:World}(h:CS w1 r d l a R D L A W)(hb:Below w.heap.size w w1):CS w r d l a R D L A W:=
 ⟨(CK.ext hb).trans h.ck,h.fr,h.fd,h.fl,h.fa,((Chg.refl _ w).of_ext hb).trans h.ch⟩
theorem keep_map{b:Nat}{p:Int→Prop}(h:VHas W b p)(hg:Chg (fun j=>j=b) W W'):Keep W W':=fun k o hk ho=>
 (hg.block k (Array.getElem?_eq_some_iff.1 hk).1 fun e=>by
   obtain⟨L,⟨es,c,h1,_⟩,_⟩:=h;have e:k=b:=e;subst e;rw[hk] at h1;cases h1
   cases ho).trans hk
theorem CS.steady{B:Nat}(hB:w.heap.size≤B):Steady B (CS w r d l a R D L A):=fun W V row h hg hr=>by
 refine⟨fun g o v x=>?_,Steady.vhas _ _ _ W V row h.fr hg hr,Steady.vhas _ _ _ W V row h.fd hg hr,Steady.vhas _ _ _ W V row h.fl hg hr,Steady.vhas _ _ _ W V row h.fa hg hr,h.ch.grown hg fun k e=>.inr (Nat.le_trans hB (hr k e).1)⟩
 have h1:=h.ck g o v x
 have hl:g<w.heap.size:=World.block_lt_of_cell? _ _ x
 rw[←h1]
 have:=hg.block g (World.block_lt_of_cell? _ _ h1) fun e=>by have:=(hr g e.symm).1;omega
 unfold World.cell?
 simp only[this]
end
theorem mem_callsFrom{n:Nat}{r:InsR}:∀{l:List InsR} {k:Nat},(n,r)∈callsFrom k l↔∃j,n=k+j∧l[j]? =some r∧r.d.op=13
 | [],k=>by simp[callsFrom]
 |x :: l,k=>by
  have ih:=mem_callsFrom (n:=n) (r:=r) (l:=l) (k:=k+1);have key:(n,r)∈callsFrom (k+1) l↔∃j,n=k+(j+1)∧(x :: l)[j+1]? =some r∧r.d.op=13:=by
   rw[ih];exact⟨fun⟨j,h1,h2,h3⟩=>⟨j,by omega,by simpa using h2,h3⟩,fun⟨j,h1,h2,h3⟩=>⟨j,by omega,by simpa using h2,h3⟩⟩
  unfold callsFrom
  split
  ·rename_i hop
   rw[List.mem_cons,key];constructor
   ·rintro(h|⟨j,h1,h2,h3⟩)
    ·injection h with e1 e2;subst e1 e2;exact⟨0,rfl,rfl,hop⟩
    ·exact⟨j+1,h1,h2,h3⟩
   ·rintro⟨j,h1,h2,h3⟩;cases j with
    |zero=>left;simp at h2;rw[h1,h2];rfl
    |succ j=>right;exact⟨j,h1,h2,h3⟩
  ·rename_i hop
   rw[key];constructor
   ·rintro⟨j,h1,h2,h3⟩;exact⟨j+1,h1,h2,h3⟩
   ·rintro⟨j,h1,h2,h3⟩;cases j with
    |zero=>simp at h2;subst h2;exact absurd h3 hop
    |succ j=>exact⟨j,h1,h2,h3⟩
def acrF(bs:List BlkR)(b:Nat)(l:List (Nat×InsR)):List Int:=l.flatMap fun x=>lessL (atL (bksL bs) b (x.1+1)) [x.2.d.dst]
theorem acrF_mem{bs:List BlkR}{b:Nat}{x:BlkR}(hx:bs[b]? =some x)(y:Int):y∈acrF bs b (callsFrom 0 x.rs)↔y∈acrM bs b:=by
 have e:insAt bs b=x.rs:=by simp[insAt,hx]
 unfold acrF acrM
 rw[List.mem_flatMap,List.mem_flatMap,e]
 constructor
 ·rintro⟨⟨n,r⟩,h1,h2⟩;obtain⟨j,h3,h4,h5⟩:=mem_callsFrom.1 h1;rw[Nat.zero_add] at h3;subst h3;refine⟨n,by simpa using (List.getElem?_eq_some_iff.1 h4).1,?_⟩;simp only[h4,h5,if_true];exact h2
 ·rintro⟨n,h1,h2⟩;cases hr:x.rs[n]? with
  |none=>rw[hr] at h2;cases h2
  |some r=>
   rw[hr] at h2;simp only at h2
   split at h2
   ·rename_i h5
    exact⟨(n,r),mem_callsFrom.2 ⟨n,by omega,hr,h5⟩,h2⟩
   ·cases h2
end
end Go.Proofs.YtnmkjliioogbgaaGreatDoor
