/-
 ClashRight's walk.
-/
import Derived.Test.YtnmkjliioogbgaaGreatDoorYK
import Derived.Test.YtnmkjliioogbgaaGreatDoorSets
import Derived.Test.YtnmkjliioogbgaaGreatDoorYL
import Derived.Test.YtnmkjliioogbgaaGreatDoorSD
import Derived.Test.YtnmkjliioogbgaaGreatDoorTA
namespace Go.Proofs.YtnmkjliioogbgaaGreatDoor
set_option linter.unusedSimpArgs false
set_option linter.unusedVariables false
set_option linter.unusedSectionVars false
set_option maxRecDepth 100000
set_option maxHeartbeats 40000000
section
open Go.RowKit Go.Shelf
attribute [local go_sem] Oper.semAt_some wide_fn wide_depth wide_fnR wide_depthR
abbrev zGr:Obj:=graphO none 0 0 none 0 0 none 0 0
def LiP(B:Nat)(xs:List Int)(b:Bool)(v:Value)(w:World):Prop:=b=true→Lent w B v xs
def PaP(B:Nat)(ls:List Pr2)(b:Bool)(v:Value)(w:World):Prop:=b=true→OwnP w B v ls
def PgP(B:Nat)(b:Bool)(v:Value)(w:World):Prop:=b=true→∃p,v=.pointer (some ⟨p,0,none⟩)∧B≤p∧w.heap[p]? =some zGr
section
variable {B:Nat} {xs:List Int} {ls:List Pr2} {b:Bool} {v u:Value} {w w':World}
theorem LiP.ext(h:LiP B xs b v w)(hb:Below w.heap.size w w'):LiP B xs b v w':=fun h'=>(h h').ext hb
theorem PaP.ext(h:PaP B ls b v w)(hb:Below w.heap.size w w'):PaP B ls b v w':=fun h'=>OwnR.ext (h h') hb
theorem PgP.ext(h:PgP B b v w)(hb:Below w.heap.size w w'):PgP B b v w':=fun h'=>let ⟨p,e,h1,h2⟩:=h h';⟨p,e,h1,block_ext hb h2⟩
theorem impF{p:Prop}(h:b=false):b=true→p:=fun h'=>by rw[h] at h';cases h'
theorem oth_own{k:List Pr2}(ho:OwnP w B u k){q:Nat}(hq:u.ownBlock=some q):∃cs f,w.heap[q]? =some (.cells cs 49 f):=own_ty ho.1 hq
theorem LiP.kept{k:List Pr2}(h:LiP B xs b v w)(ho:OwnP w B u k)(hg:w.grownBy w' u.ownBlock):LiP B xs b v w':=fun h'=>by
 obtain⟨g,cap,e,hr⟩:=h h'
 exact⟨g,cap,e,own_kept_ty hr hg fun q hq=>by
  obtain⟨cs,f,hc⟩:=oth_own ho hq
  exact OtherTy.of hc (by decide)⟩
theorem PgP.kept{k:List Pr2}(h:PgP B b v w)(ho:OwnP w B u k)(hg:w.grownBy w' u.ownBlock):PgP B b v w':=fun h'=>by
 obtain⟨p,e,h1,h2⟩:=h h'
 refine⟨p,e,h1,(hg.block p (lt_of_heap h2) fun hq=>?_).trans h2⟩
 obtain⟨cs,f,hc⟩:=oth_own ho hq.symm
 rw[hc] at h2
 injection h2 with h2
 injection h2 with _ e2 _
 exact absurd e2 (by decide)
theorem Lent.chgP{S:Nat→Prop}(h:Lent w B v xs)(hc:Chg S w w')(ht:∀q,S q→OtherTy w 3 q):Lent w' B v xs:=by
 obtain⟨g,cap,e,hr⟩:=h
 exact⟨g,cap,e,ownsRow_chg hr hc fun q e hS=>own_ne_ty hr (ht q hS) e⟩
end
theorem prs_news{w:World}{a:Option Addr}{n:Nat}{ls:List Pr2}(h:PrS w a n ls):∀j u,(ls.flatMap csP)[j]? =some u→∃ad,a=some ad∧w.cell? (ad.add j)=some u:=fun j u hj=>by
 have hl:=(List.getElem?_eq_some_iff.1 hj).1
 rw[flatMap_len csP 2 csP_len] at hl
 have hk:j/2<ls.length:=by omega
 have hr:ls[j/2]? =some ls[j/2]:=List.getElem?_eq_getElem hk
 obtain⟨b,o,e,hc⟩:=h.2.2 _ _ hr
 refine⟨_,e,?_⟩
 rw[addr_add]
 have h2:=hc (j%2) (by omega)
 have h3:=flatMap_at csP 2 csP_len ls (j/2) (j%2) (by omega) _ hr
 rw[show j/2*2+j%2=j by omega] at h3
 rw[Nat.add_assoc,show j/2*2+j%2=j by omega] at h2
 rw[h2,←h3,hj]
theorem drew_ext{w w':World}{q:Nat}(h:w'=w.drewN q):Below w.heap.size w w':=by rw[h];exact ext_drewN (Below.refl _ _) q
theorem lent_ints{w:World}{B:Nat}{b n k:Nat}{xs:List Int}{a:Option Addr}(h:Lent w B (.slice (some ⟨b,0,none⟩) n k) xs)(hx:Ints w a n xs):Ints w (some ⟨b,0,none⟩) n xs:=by
 obtain⟨g,cap,e,h1,h2,h3,h4⟩:=h.cells
 injection e with e0 e1 e2
 injection e0 with e0
 injection e0 with e0 _ _
 subst e0
 refine⟨hx.1,hx.2.1,fun i hi=>⟨b,0,rfl,?_,?_⟩⟩
 ·rw[Nat.zero_add];exact h3 i (by rw[hx.1];exact hi)
 ·obtain⟨_,_,_,_,h5⟩:=hx.2.2 i hi;exact h5
abbrev zR:Obj:=graphOR none 0 0 none 0 0 none 0 0
theorem zero_graphR(w:World):(zeroValue 31).run Tryz.prog w=.ok (.agg #[.slice none 0 0,.slice none 0 0,.slice none 0 0]) w:=by kernel_rfl
theorem zero_graph(w:World):(zeroValue 25).run Tryz.prog w=.ok (.agg #[.slice none 0 0,.slice none 0 0,.slice none 0 0]) w:=by kernel_rfl
theorem clashRight_walk(va:Option Addr)(vn vc:Nat)(pa:Option Addr)(pn pc:Nat)(aa:Option Addr)(an ac:Nat)(vs:List Int)(ps:List Pr2)(l:List Int)(x y:Int)(w:World)(hv:Ints w va vn vs)(hp:PrS w pa pn ps)(ha:Ints w aa an l)(hT:Tab w):
  Calls Tryz.prog 3 #[graphV va vn vc pa pn pc aa an ac,.int .i64 x,.int .i64 y] w fun e w'=>e=.returned (.bool true)∧Below w.heap.size w w':=by
 have HV:=Lib.hid hv
 have HP:=Lib.hid hp
 have HA:=Lib.hid ha
 have HTB:=Lib.hid hT
 have hvn:=hv.2.1
 have hpn:=hp.2.1
 have han:=ha.2.1
 clear hv hp ha hT
 go_enter Tryz.func3,Tryz.ntmps3
 go_upto_region 1 with (fail)
 obtain⟨W,hW⟩:∃z,z=w.alloc (graphO va vn vc pa pn pc aa an ac):=⟨_,rfl⟩
 rw[←hW]
 have HBW:Hid (Below w.heap.size w W):=by rw[hW];exact ext_alloc _ _
 have h1:W.heap[w.heap.size]? =some (graphO va vn vc pa pn pc aa an ac):=by rw[hW];exact heap_alloc_new _ _
 have HG:=Lib.hid h1
 have x0:W.cell? ⟨w.heap.size,0,none⟩=some (.slice va vn vc):=by rw[cell_of_row _ _ _ _ _ _ h1];rfl
 have x1:W.cell? ⟨w.heap.size,1,none⟩=some (.slice pa pn pc):=by rw[cell_of_row _ _ _ _ _ _ h1];rfl
 have x2:W.cell? ⟨w.heap.size,2,none⟩=some (.slice aa an ac):=by rw[cell_of_row _ _ _ _ _ _ h1];rfl
 have hlW:=lt_of_heap h1
 clear hW h1
 by_cases hgt:300<vn+pn+an
 ·have hgt':(300:Int)<(vn:Int)+(pn:Int)+(an:Int):=by omega
  go_wp2_with (
   (go_at_call 4
    refine(awake20_any W (HTB.out.ext HBW.out)).mono ?_;rintro e w1 ⟨rfl,hb⟩;have HB1:=Lib.hid (ext_trans HBW.out hb)
    clear hb))
  go_ret
  exact⟨rfl,HB1.out⟩
 ·have hgt':¬(300:Int)<(vn:Int)+(pn:Int)+(an:Int):=by omega
  go_upto_region 3 with (fail)
  obtain⟨B,hB⟩:∃z,z=W.heap.size:=⟨_,rfl⟩
  have n1:vn≤1000000:=by omega
  have n2:an≤1000000:=by omega
  have n3:pn≤300:=by omega
  have g0:∀n:ExtW W,n.val.cell? ⟨w.heap.size,0,none⟩=some (.slice va vn vc):=ExtW.cell x0;have g1:∀n:ExtW W,n.val.cell? ⟨w.heap.size,1,none⟩=some (.slice pa pn pc):=ExtW.cell x1;have g2:∀n:ExtW W,n.val.cell? ⟨w.heap.size,2,none⟩=some (.slice aa an ac):=ExtW.cell x2;clear x0 x1 x2 hlW;refine z_start (fun w'=>∃n:ExtW W,w'=n.val) (by kernel_rfl) ?_;obtain⟨v0,F0,hv0⟩:∃v0,Below W.heap.size W v0∧W.drew=v0:=⟨_,ext_drewN (Below.refl _ _) 1,rfl⟩
  rw[hv0];clear hv0;refine z_reads 0 2 (by kernel_rfl) ⟨⟨_,F0⟩,rfl⟩ ?_;simp only[List.take_succ_cons,List.take_zero,List.drop_succ_cons,List.drop_zero]
  repeat (go_big_quiet_step (fail))
  refine wpQuiet_nil ?_;refine z_reads 4 2 (by kernel_rfl) ⟨⟨_,F0⟩,rfl⟩ ?_;simp only[List.take_succ_cons,List.take_zero,List.drop_succ_cons,List.drop_zero]
  repeat (go_big_quiet_step (fail))
  refine wpQuiet_nil ?_;refine z_reads 7 2 (by kernel_rfl) ⟨⟨_,F0⟩,rfl⟩ ?_;simp only[List.take_succ_cons,List.take_zero,List.drop_succ_cons,List.drop_zero]
  repeat (go_big_quiet_step (fail))
  refine wpQuiet_nil ?_;clear g0 g1 g2;have hBW:=HBW.out.size;refine z_sets [2,3,6,9,10,11] 6 6 1 #[true,true,true,true,true,true,true,true,true,true,true,true,false] (by kernel_rfl) (fun a0 L a w'=>∃v24 v25 v28 v31 v7 v32,a=putMany a0 [(24,v24),(25,v25),(28,v28),(31,v31),(7,v7),(32,v32)]∧Below W.heap.size W w'∧LiP W.heap.size vs (L.getD 2 false) v24 w'∧PaP W.heap.size [] (L.getD 3 false&& !L.getD 6 false) v25 w'∧PaP W.heap.size ps (L.getD 6 false) v28 w'∧LiP W.heap.size l (L.getD 9 false) v31 w'∧PgP W.heap.size (L.getD 11 false) v7 w'∧(L.getD 10 false=true→(L.getD 2 false=true∧L.getD 6 false=true∧L.getD 9 false=true)∧v32=.agg #[v24,v28,v31])) ?_ ?_ ?_
  ·exact⟨undef,undef,undef,undef,undef,undef,rfl,F0,impF (by kernel_rfl),impF (by kernel_rfl),impF (by kernel_rfl),impF (by kernel_rfl),impF (by kernel_rfl),impF (by kernel_rfl)⟩
  ·intro L e he hLe hsz hr a w' hJ;obtain⟨v24,v25,v28,v31,v7,v32,rfl,hB,hL2,hL3,hL6,hL9,hL11,hL10⟩:=hJ;simp only[List.mem_cons,List.not_mem_nil,or_false] at he;rcases he with rfl|rfl|rfl|rfl|rfl|rfl
   ·clear hr;refine wpOp_atU rfl (by rfl) ?_;intro K' HK;simp only[putMany,List.foldl_cons,List.foldl_nil,List.setIfInBounds_toArray,List.set_cons_succ,List.set_cons_zero];go_simp;refine(lentInts_any va vn vc vs w' ((HV.out.ext HBW.out).ext hB) n1).mono ?_;rintro e w3 ⟨v,rfl,hl,hb⟩;have F1:=ext_trans hB hb;refine HK.out _ _ ⟨Or.inr ⟨⟨_,F1⟩,rfl⟩,v,v25,v28,v31,v7,v32,rfl,F1,?_,?_,?_,?_,?_,?_⟩
    ·rw[getD_set_eq L 2 (by rw[hsz];decide)];exact fun _=>hl.mono hB.size
    ·rw[getD_set_ne L 2 3 (by omega),getD_set_ne L 2 6 (by omega)];exact hL3.ext hb
    ·rw[getD_set_ne L 2 6 (by omega)];exact hL6.ext hb
    ·rw[getD_set_ne L 2 9 (by omega)];exact hL9.ext hb
    ·rw[getD_set_ne L 2 11 (by omega)];exact hL11.ext hb
    ·rw[getD_set_ne L 2 10 (by omega)];intro h10;have:=(hL10 h10).1.1;rw[hLe] at this;cases this
   ·clear hr;refine wpOp_atU rfl (by rfl) ?_;intro K' HK;simp only[putMany,List.foldl_cons,List.foldl_nil,List.setIfInBounds_toArray,List.set_cons_succ,List.set_cons_zero];go_simp;have F1:=ext_trans hB (ext_alloc w' (.cells #[] 49));have hb:=ext_alloc w' (.cells #[] 49);refine HK.out _ _ ⟨Or.inr ⟨⟨_,F1⟩,rfl⟩,v24,_,v28,v31,v7,v32,rfl,F1,?_,?_,?_,?_,?_,?_⟩
    ·rw[getD_set_ne L 3 2 (by omega)];exact hL2.ext hb
    ·exact fun _=>⟨World.ownsRow_lit w' _ 0 hB.size (by decide) rfl,by simp⟩
    ·rw[getD_set_ne L 3 6 (by omega)];exact hL6.ext hb
    ·rw[getD_set_ne L 3 9 (by omega)];exact hL9.ext hb
    ·rw[getD_set_ne L 3 11 (by omega)];exact hL11.ext hb
    ·rw[getD_set_ne L 3 10 (by omega),getD_set_ne L 3 2 (by omega),getD_set_ne L 3 6 (by omega),getD_set_ne L 3 9 (by omega)];exact hL10
   ·obtain⟨_,o,ho,hall⟩:=mem_ready.1 hr;injection ho with ho;subst ho;have d3:L.getD 3 false=true:=hall {on:=3,ground:=.data} (by simp) rfl;clear hr hall;have hO:OwnP w' W.heap.size v25 []:=hL3 (by rw[d3,hLe];rfl);refine wpOp_atU rfl (by rfl) ?_;intro K' HK;simp only[putMany,List.foldl_cons,List.foldl_nil,List.setIfInBounds_toArray,List.set_cons_succ,List.set_cons_zero];have hps:=(HP.out.ext csP_len HBW.out).ext csP_len hB;refine op_appendR w' (.tmp 25) (.tmp 27) 23 49 rfl W.heap.size _ 2 16 Tryz.underlying23 infoP rfl (by omega) v25 0 [] rfl hO.1 pa pn pc rfl (ps.flatMap csP) (by rw[flatMap_len csP 2 csP_len,hps.1]) (prs_news hps) (csP_one ps) (by unfold maxLen;omega) (by omega) hB.size ?_;intro v' w3 hown hg hat hbel;have F1:=hbel W hB;refine HK.out _ _ ⟨Or.inr ⟨⟨_,F1⟩,rfl⟩,v24,v25,v',v31,v7,v32,rfl,F1,?_,?_,?_,?_,?_,?_⟩
    ·rw[getD_set_ne L 6 2 (by omega)];exact hL2.kept hO hg
    ·rw[getD_set_ne L 6 3 (by omega),getD_set_eq L 6 (by rw[hsz];decide),d3];exact impF rfl
    ·rw[getD_set_eq L 6 (by rw[hsz];decide)];exact fun _=>⟨by have:=hown;rw[Nat.zero_add,List.nil_append,←hps.1] at this;exact this,by rw[hps.1];omega⟩
    ·rw[getD_set_ne L 6 9 (by omega)];exact hL9.kept hO hg
    ·rw[getD_set_ne L 6 11 (by omega)];exact hL11.kept hO hg
    ·rw[getD_set_ne L 6 10 (by omega)];intro h10;have:=(hL10 h10).1.2.1;rw[hLe] at this;cases this
   ·clear hr;refine wpOp_atU rfl (by rfl) ?_;intro K' HK;simp only[putMany,List.foldl_cons,List.foldl_nil,List.setIfInBounds_toArray,List.set_cons_succ,List.set_cons_zero];go_simp;refine(lentInts_any aa an ac l w' ((HA.out.ext HBW.out).ext hB) n2).mono ?_;rintro e w3 ⟨v,rfl,hl,hb⟩;have F1:=ext_trans hB hb;refine HK.out _ _ ⟨Or.inr ⟨⟨_,F1⟩,rfl⟩,v24,v25,v28,v,v7,v32,rfl,F1,?_,?_,?_,?_,?_,?_⟩
    ·rw[getD_set_ne L 9 2 (by omega)];exact hL2.ext hb
    ·rw[getD_set_ne L 9 3 (by omega),getD_set_ne L 9 6 (by omega)];exact hL3.ext hb
    ·rw[getD_set_ne L 9 6 (by omega)];exact hL6.ext hb
    ·rw[getD_set_eq L 9 (by rw[hsz];decide)];exact fun _=>hl.mono hB.size
    ·rw[getD_set_ne L 9 11 (by omega)];exact hL11.ext hb
    ·rw[getD_set_ne L 9 10 (by omega)];intro h10;have:=(hL10 h10).1.2.2;rw[hLe] at this;cases this
   ·obtain⟨_,o,ho,hall⟩:=mem_ready.1 hr;injection ho with ho;subst ho;have d2:L.getD 2 false=true:=hall {on:=2,ground:=.data} (by simp) rfl;have d6:L.getD 6 false=true:=hall {on:=6,ground:=.data} (by simp) rfl;have d9:L.getD 9 false=true:=hall {on:=9,ground:=.data} (by simp) rfl;clear hr hall;refine wpOp_atU rfl (by rfl) ?_;intro K' HK;simp only[putMany,List.foldl_cons,List.foldl_nil,List.setIfInBounds_toArray,List.set_cons_succ,List.set_cons_zero];obtain⟨b1,k1,e1,_⟩:=hL2 d2;obtain⟨b2,k2,e2⟩:=(hL6 d6).form;obtain⟨b3,k3,e3,_⟩:=hL9 d9;subst e1 e2 e3;go_simp;refine HK.out _ _ ⟨Or.inr ⟨⟨_,hB⟩,rfl⟩,_,v25,_,_,v7,_,rfl,hB,?_,?_,?_,?_,?_,?_⟩
    ·rw[getD_set_ne L 10 2 (by omega)];exact hL2
    ·rw[getD_set_ne L 10 3 (by omega),getD_set_ne L 10 6 (by omega)];exact hL3
    ·rw[getD_set_ne L 10 6 (by omega)];exact hL6
    ·rw[getD_set_ne L 10 9 (by omega)];exact hL9
    ·rw[getD_set_ne L 10 11 (by omega)];exact hL11
    ·rw[getD_set_ne L 10 2 (by omega),getD_set_ne L 10 6 (by omega),getD_set_ne L 10 9 (by omega)];exact fun _=>⟨⟨d2,d6,d9⟩,rfl⟩
   ·clear hr;refine wpOp_atU rfl (by rfl) ?_;intro K' HK;simp only[putMany,List.foldl_cons,List.foldl_nil,List.setIfInBounds_toArray,List.set_cons_succ,List.set_cons_zero];refine op_allocB 25 rfl _ zero_graph ?_;intro px w3 hb hpx FX;have F1:=ext_trans hB hb;have hpB:W.heap.size≤px:=by rw[hpx];exact hB.size
    refine HK.out _ _ ⟨Or.inr ⟨⟨_,F1⟩,rfl⟩,v24,v25,v28,v31,_,v32,rfl,F1,?_,?_,?_,?_,?_,?_⟩
    ·rw[getD_set_ne L 11 2 (by omega)];exact hL2.ext hb
    ·rw[getD_set_ne L 11 3 (by omega),getD_set_ne L 11 6 (by omega)];exact hL3.ext hb
    ·rw[getD_set_ne L 11 6 (by omega)];exact hL6.ext hb
    ·rw[getD_set_ne L 11 9 (by omega)];exact hL9.ext hb
    ·rw[getD_set_eq L 11 (by rw[hsz];decide)];exact fun _=>⟨px,rfl,hpB,FX⟩
    ·rw[getD_set_ne L 11 10 (by omega),getD_set_ne L 11 2 (by omega),getD_set_ne L 11 6 (by omega),getD_set_ne L 11 9 (by omega)];exact hL10
  ·intro a w' hJ;obtain⟨v24,v25,v28,v31,v7,v32,rfl,hB,hL2,hL3,hL6,hL9,hL11,hL10⟩:=hJ;have l24:=hL2 rfl;have o28:=hL6 rfl;have l31:=hL9 rfl;obtain⟨p7,rfl,hp7,hh7⟩:=hL11 rfl;obtain⟨_,rfl⟩:=hL10 rfl;clear hL2 hL3 hL6 hL9 hL11 hL10;obtain⟨b1,k1,e1,_⟩:=id l24;obtain⟨b2,k2,e2⟩:=o28.form;obtain⟨b3,k3,e3,_⟩:=id l31;rw[HV.out.1] at e1;rw[HP.out.1] at e2;rw[HA.out.1] at e3;subst e1 e2 e3;simp only[putMany,List.foldl_cons,List.foldl_nil,List.setIfInBounds_toArray,List.set_cons_succ,List.set_cons_zero];have c5:=chg_setRow w' p7 #[.slice (some ⟨b1,0,none⟩) vn k1,.slice b2 pn k2,.slice (some ⟨b3,0,none⟩) an k3];have h5:=setRow_heap w' p7 _ #[.slice (some ⟨b1,0,none⟩) vn k1,.slice b2 pn k2,.slice (some ⟨b3,0,none⟩) an k3] _ _ hh7;have B5:=hB.trans (c5.below hB.size (fun k hk=>by omega));have l5:=l24.chgP c5 (fun q hq=>by subst hq;exact OtherTy.of hh7 (by decide));have o5:OwnP _ W.heap.size (.slice b2 pn k2) ps:=⟨ownsRow_chg o28.1 c5 (fun q e hS=>own_ne_ty o28.1 (by subst hS;exact OtherTy.of hh7 (by decide)) e),o28.2⟩
   have m5:=l31.chgP c5 (fun q hq=>by subst hq;exact OtherTy.of hh7 (by decide));refine z_one 12 (by kernel_rfl) ?_;refine wpOp_atU rfl (by rfl) ?_;intro K' HK;refine wp_store_row 25 _ _ rfl p7 #[.slice (some ⟨b1,0,none⟩) vn k1,.slice b2 pn k2,.slice (some ⟨b3,0,none⟩) an k3] rfl rfl 25 _ hh7 (by kernel_rfl) rfl (by simp[Value.oneCell']) ?_;refine HK.out _ _ (And.intro (.inl (by kernel_rfl)) ?_);clear HK K';generalize w'.setRow p7 _=W5 at *;refine z_done (by kernel_rfl) ?_
   try simp only[Act.put,List.setIfInBounds_toArray,List.set_cons_succ,List.set_cons_zero]
   have H5:Hid (W5.heap[p7]? =some (graphO (some ⟨b1,0,none⟩) vn k1 b2 pn k2 (some ⟨b3,0,none⟩) an k3)):=h5;have HB5:=Lib.hid B5;have HL5:=Lib.hid l5;have HO5:=Lib.hid o5;have HM5:=Lib.hid m5;have HP7:=Lib.hid hp7;clear h5 B5 l5 o5 m5 hp7 c5 hh7 l24 o28 l31 hB;have hg5:=block_ext HB5.out HG.out;have G5:=Lib.hid hg5;have g0:∀n:ExtW W5,n.val.cell? ⟨w.heap.size,0,none⟩=some (.slice va vn vc):=ExtW.cell (by rw[cell_of_row _ _ _ _ _ _ hg5];rfl);have g1:∀n:ExtW W5,n.val.cell? ⟨w.heap.size,1,none⟩=some (.slice pa pn pc):=ExtW.cell (by rw[cell_of_row _ _ _ _ _ _ hg5];rfl);have g2:∀n:ExtW W5,n.val.cell? ⟨w.heap.size,2,none⟩=some (.slice aa an ac):=ExtW.cell (by rw[cell_of_row _ _ _ _ _ _ hg5];rfl);clear hg5;go_upto_region 4 with (fail)
   refine z_start (fun w'=>∃n:ExtW W5,w'=n.val) (by kernel_rfl) ?_;obtain⟨v1,F1,hv1⟩:∃v1,Below W5.heap.size W5 v1∧W5.drew=v1:=⟨_,ext_drewN (Below.refl _ _) 1,rfl⟩
   rw[hv1];clear hv1;refine z_reads 0 4 (by kernel_rfl) ⟨⟨_,F1⟩,rfl⟩ ?_;simp only[List.take_succ_cons,List.take_zero,List.drop_succ_cons,List.drop_zero]
   repeat (go_big_quiet_step (fail))
   refine wpQuiet_nil ?_;refine z_reads 5 2 (by kernel_rfl) ⟨⟨_,F1⟩,rfl⟩ ?_;simp only[List.take_succ_cons,List.take_zero,List.drop_succ_cons,List.drop_zero]
   repeat (go_big_quiet_step (fail))
   refine wpQuiet_nil ?_;clear g0 g1 g2;have n4:pn≤1000000:=by omega
   refine z_sets [4,7,8] 3 3 1 #[true,true,true,true,true,true,true,true,true,false] (by kernel_rfl) (fun a0 L a w'=>∃v37 v40 v8,a=putMany a0 [(37,v37),(40,v40),(8,v8)]∧Below W5.heap.size W5 w'∧(L.getD 4 false=true→OwnQ w' W5.heap.size v37 ps)∧(L.getD 7 false=true→L.getD 4 false=true∧v40=.agg #[.slice va vn vc,v37,.slice aa an ac])∧(L.getD 8 false=true→∃p,v8=.pointer (some ⟨p,0,none⟩)∧W5.heap.size≤p∧w'.heap[p]? =some zR)) ?_ ?_ ?_
   ·exact⟨undef,undef,undef,rfl,F1,impF (by kernel_rfl),impF (by kernel_rfl),impF (by kernel_rfl)⟩
   ·intro L e he hLe hsz hr a w' hJ;obtain⟨v37,v40,v8,rfl,hB,hL4,hL7,hL8⟩:=hJ;simp only[List.mem_cons,List.not_mem_nil,or_false] at he;rcases he with rfl|rfl|rfl
    ·clear hr;refine wpOp_atU rfl (by rfl) ?_;intro K' HK;simp only[putMany,List.foldl_cons,List.foldl_nil,List.setIfInBounds_toArray,List.set_cons_succ,List.set_cons_zero];go_simp;refine(refs_any pa pn pc ps w' (((HP.out.ext csP_len HBW.out).ext csP_len HB5.out).ext csP_len hB) n4).mono ?_;rintro e w3 ⟨v,rfl,ho,hb⟩;have F2:=ext_trans hB hb;refine HK.out _ _ ⟨Or.inr ⟨⟨_,F2⟩,rfl⟩,v,v40,v8,rfl,F2,?_,?_,?_⟩
     ·rw[getD_set_eq L 4 (by rw[hsz];decide)];exact fun _=>ho.mono hB.size
     ·rw[getD_set_ne L 4 7 (by omega)];intro h7;have:=(hL7 h7).1;rw[hLe] at this;cases this
     ·rw[getD_set_ne L 4 8 (by omega)];intro h8;obtain⟨p,e1,h1,h2⟩:=hL8 h8;exact⟨p,e1,h1,block_ext hb h2⟩
    ·obtain⟨_,o,ho,hall⟩:=mem_ready.1 hr;injection ho with ho;subst ho;have d4:L.getD 4 false=true:=hall {on:=4,ground:=.data} (by simp) rfl;clear hr hall;refine wpOp_atU rfl (by rfl) ?_;intro K' HK;simp only[putMany,List.foldl_cons,List.foldl_nil,List.setIfInBounds_toArray,List.set_cons_succ,List.set_cons_zero];obtain⟨b4,k4,e4⟩:=(hL4 d4).form;subst e4;go_simp;refine HK.out _ _ ⟨Or.inr ⟨⟨_,hB⟩,rfl⟩,_,_,v8,rfl,hB,?_,?_,?_⟩
     ·rw[getD_set_ne L 7 4 (by omega)];exact hL4
     ·rw[getD_set_ne L 7 4 (by omega)];exact fun _=>⟨d4,rfl⟩
     ·rw[getD_set_ne L 7 8 (by omega)];exact hL8
    ·clear hr;refine wpOp_atU rfl (by rfl) ?_;intro K' HK;simp only[putMany,List.foldl_cons,List.foldl_nil,List.setIfInBounds_toArray,List.set_cons_succ,List.set_cons_zero];refine op_allocB 31 rfl _ zero_graphR ?_;intro px w3 hb hpx FX;have F2:=ext_trans hB hb;have hpB:W5.heap.size≤px:=by rw[hpx];exact hB.size
     refine HK.out _ _ ⟨Or.inr ⟨⟨_,F2⟩,rfl⟩,v37,v40,_,rfl,F2,?_,?_,?_⟩
     ·rw[getD_set_ne L 8 4 (by omega)];exact fun h4=>OwnR.ext (hL4 h4) hb
     ·rw[getD_set_ne L 8 7 (by omega),getD_set_ne L 8 4 (by omega)];exact hL7
     ·rw[getD_set_eq L 8 (by rw[hsz];decide)];exact fun _=>⟨px,rfl,hpB,FX⟩
   ·intro a w' hJ;obtain⟨v37,v40,v8,rfl,hB,hL4,hL7,hL8⟩:=hJ;have o37:=hL4 rfl;obtain⟨_,rfl⟩:=hL7 rfl;obtain⟨p8,rfl,hp8,hh8⟩:=hL8 rfl;clear hL4 hL7 hL8;obtain⟨b4,k4,e4⟩:=o37.form;rw[HP.out.1] at e4;subst e4;simp only[putMany,List.foldl_cons,List.foldl_nil,List.setIfInBounds_toArray,List.set_cons_succ,List.set_cons_zero];have c6:=chg_setRow w' p8 #[.slice va vn vc,.slice b4 pn k4,.slice aa an ac];have h6:=setRow_heap w' p8 _ #[.slice va vn vc,.slice b4 pn k4,.slice aa an ac] _ _ hh8;have B6:=hB.trans (c6.below hB.size (fun k hk=>by omega));have o6:OwnQ _ W5.heap.size (.slice b4 pn k4) ps:=⟨ownsRow_chg o37.1 c6 (fun q e hS=>own_ne_ty o37.1 (by subst hS;exact OtherTy.of hh8 (by decide)) e),o37.2⟩
    refine z_one 9 (by kernel_rfl) ?_;refine wpOp_atU rfl (by rfl) ?_;intro K' HK;refine wp_store_row 31 _ _ rfl p8 #[.slice va vn vc,.slice b4 pn k4,.slice aa an ac] rfl rfl 31 _ hh8 (by kernel_rfl) rfl (by simp[Value.oneCell']) ?_;refine HK.out _ _ (And.intro (.inl (by kernel_rfl)) ?_);clear HK K';generalize w'.setRow p8 _=W6 at *;refine z_done (by kernel_rfl) ?_
    try simp only[Act.put,List.setIfInBounds_toArray,List.set_cons_succ,List.set_cons_zero]
    have H6:Hid (W6.heap[p8]? =some (graphOR va vn vc b4 pn k4 aa an ac)):=h6;have HB6:=Lib.hid B6;have HO6:=Lib.hid o6;have HP8:=Lib.hid hp8;clear h6 B6 o6 hp8 c6 hh8 o37 hB;have fa0:∀n:ExtW W6,n.val.cell? ⟨p7,0,none⟩=some (.slice (some ⟨b1,0,none⟩) vn k1):=ExtW.cell (by rw[cell_of_row _ _ _ _ _ _ (block_ext HB6.out H5.out)];rfl);have fa1:∀n:ExtW W6,n.val.cell? ⟨p7,1,none⟩=some (.slice b2 pn k2):=ExtW.cell (by rw[cell_of_row _ _ _ _ _ _ (block_ext HB6.out H5.out)];rfl);have fa2:∀n:ExtW W6,n.val.cell? ⟨p7,2,none⟩=some (.slice (some ⟨b3,0,none⟩) an k3):=ExtW.cell (by rw[cell_of_row _ _ _ _ _ _ (block_ext HB6.out H5.out)];rfl);have fb0:∀n:ExtW W6,n.val.cell? ⟨p8,0,none⟩=some (.slice va vn vc):=ExtW.cell (by rw[cell_of_row _ _ _ _ _ _ H6.out];rfl);have fb1:∀n:ExtW W6,n.val.cell? ⟨p8,1,none⟩=some (.slice b4 pn k4):=ExtW.cell (by rw[cell_of_row _ _ _ _ _ _ H6.out];rfl);have fb2:∀n:ExtW W6,n.val.cell? ⟨p8,2,none⟩=some (.slice aa an ac):=ExtW.cell (by rw[cell_of_row _ _ _ _ _ _ H6.out];rfl);have fc0:∀n:ExtW W6,n.val.cell? ⟨w.heap.size,0,none⟩=some (.slice va vn vc):=ExtW.cell (by rw[cell_of_row _ _ _ _ _ _ (block_ext HB6.out G5.out)];rfl);have fc1:∀n:ExtW W6,n.val.cell? ⟨w.heap.size,1,none⟩=some (.slice pa pn pc):=ExtW.cell (by rw[cell_of_row _ _ _ _ _ _ (block_ext HB6.out G5.out)];rfl);have fc2:∀n:ExtW W6,n.val.cell? ⟨w.heap.size,2,none⟩=some (.slice aa an ac):=ExtW.cell (by rw[cell_of_row _ _ _ _ _ _ (block_ext HB6.out G5.out)];rfl);obtain⟨RB,hRB⟩:∃z,z=rightG vs ps l:=⟨_,rfl⟩
    obtain⟨NB,hNB⟩:∃z,z=nearG ps x y:=⟨_,rfl⟩
    have HRB:=Lib.hid hRB;have HNB:=Lib.hid hNB;have HR2:Hid (RB=rightR20 vs ps l):=by rw[Hid,hRB,right_eq20]
    clear hRB hNB;have HL6:=Lib.hid (HL5.out.ext HB6.out);have HQ6:=Lib.hid (OwnR.ext HO5.out HB6.out);have HM6:=Lib.hid (HM5.out.ext HB6.out);have HV6:=Lib.hid (((HV.out.ext HBW.out).ext HB5.out).ext HB6.out);have HP6:=Lib.hid (((HP.out.ext csP_len HBW.out).ext csP_len HB5.out).ext csP_len HB6.out);have HA6:=Lib.hid (((HA.out.ext HBW.out).ext HB5.out).ext HB6.out);have HW6:=Lib.hid (ext_trans (ext_trans HBW.out HB5.out) HB6.out);have HK1:Hid (Ints W6 (some ⟨b1,0,none⟩) vn vs):=lent_ints HL6.out HV6.out;have HK3:Hid (Ints W6 (some ⟨b3,0,none⟩) an l):=lent_ints HM6.out HA6.out;have HK2:Hid (PrS W6 b2 pn ps):=HQ6.out.recs csP_len;have HK4:Hid (PrS W6 b4 pn ps):=HO6.out.recs csP_len;clear H5 H6 G5 HL5 HO5 HM5 HO6 HB5 HB6;go_upto_region 5 with (fail)
    refine z_start (fun w'=>∃n:ExtW W6,w'=n.val) (by kernel_rfl) ?_;obtain⟨u0,FX,hu0⟩:∃u0,Hid (Below W6.heap.size W6 u0)∧W6.drew=u0:=⟨_,ext_drewN (Below.refl _ _) 1,rfl⟩
    rw[hu0];clear hu0;refine z_reads 0 1 (by kernel_rfl) ⟨⟨_,FX.out⟩,rfl⟩ ?_;simp only[List.take_succ_cons,List.take_zero,List.drop_succ_cons,List.drop_zero]
    repeat (go_big_quiet_step (fail))
    refine wpQuiet_nil ?_;refine z_reads 2 1 (by kernel_rfl) ⟨⟨_,FX.out⟩,rfl⟩ ?_;simp only[List.take_succ_cons,List.take_zero,List.drop_succ_cons,List.drop_zero]
    repeat (go_big_quiet_step (fail))
    refine wpQuiet_nil ?_;refine z_one 1 (by kernel_rfl) ?_;refine wpOp_atU rfl (by rfl) ?_;intro K' HK;go_simp;refine(cRight_any (some ⟨b1,0,none⟩) vn k1 b2 pn k2 (some ⟨b3,0,none⟩) an k3 vs ps l u0 (HK1.out.ext FX.out) (HK2.out.ext csP_len FX.out) (HK3.out.ext FX.out)).mono ?_;rintro e u1 ⟨rfl,hb⟩;rw[←HRB.out];have FY:=Lib.hid (ext_trans FX.out hb);refine HK.out _ _ ⟨.inr ⟨⟨_,FY.out⟩,rfl⟩,?_⟩;clear HK K' FX hb;have FX:=FY;clear FY
    try simp only[Act.put,List.setIfInBounds_toArray,List.set_cons_succ,List.set_cons_zero]
    refine z_one 3 (by kernel_rfl) ?_;refine wpOp_atU rfl (by rfl) ?_;intro K' HK;go_simp;refine(right20_any va vn vc b4 pn k4 aa an ac vs ps l u1 (HV6.out.ext FX.out) (HK4.out.ext csP_len FX.out) (HA6.out.ext FX.out)).mono ?_;rintro e u2 ⟨rfl,hb⟩;rw[←HR2.out];have FY:=Lib.hid (ext_trans FX.out hb);refine HK.out _ _ ⟨.inr ⟨⟨_,FY.out⟩,rfl⟩,?_⟩;clear HK K' FX hb;have FX:=FY;clear FY
    try simp only[Act.put,List.setIfInBounds_toArray,List.set_cons_succ,List.set_cons_zero]
    refine z_reads 4 5 (by kernel_rfl) ⟨⟨_,FX.out⟩,rfl⟩ ?_;simp only[List.take_succ_cons,List.take_zero,List.drop_succ_cons,List.drop_zero]
    repeat (go_big_quiet_step (fail))
    refine wpQuiet_nil ?_;refine z_reads 10 3 (by kernel_rfl) ⟨⟨_,FX.out⟩,rfl⟩ ?_;simp only[List.take_succ_cons,List.take_zero,List.drop_succ_cons,List.drop_zero]
    repeat (go_big_quiet_step (fail))
    refine wpQuiet_nil ?_;refine z_one 9 (by kernel_rfl) ?_;refine wpOp_atU rfl (by rfl) ?_;intro K' HK;go_simp;refine(cNear_any (some ⟨b1,0,none⟩) vn k1 b2 pn k2 (some ⟨b3,0,none⟩) an k3 ps x y u2 (HK2.out.ext csP_len FX.out)).mono ?_;rintro e u3 ⟨rfl,hb⟩;rw[←HNB.out];have FY:=Lib.hid (ext_trans FX.out hb);refine HK.out _ _ ⟨.inr ⟨⟨_,FY.out⟩,rfl⟩,?_⟩;clear HK K' FX hb;have FX:=FY;clear FY
    try simp only[Act.put,List.setIfInBounds_toArray,List.set_cons_succ,List.set_cons_zero]
    refine z_one 13 (by kernel_rfl) ?_;refine wpOp_atU rfl (by rfl) ?_;intro K' HK;go_simp;refine(near20_any va vn vc b4 pn k4 aa an ac ps x y u3 (HK4.out.ext csP_len FX.out)).mono ?_;rintro e u4 ⟨rfl,hb⟩;rw[←HNB.out];have FY:=Lib.hid (ext_trans FX.out hb);refine HK.out _ _ ⟨.inr ⟨⟨_,FY.out⟩,rfl⟩,?_⟩;clear HK K' FX hb;have FX:=FY;clear FY
    try simp only[Act.put,List.setIfInBounds_toArray,List.set_cons_succ,List.set_cons_zero]
    refine z_reads 14 7 (by kernel_rfl) ⟨⟨_,FX.out⟩,rfl⟩ ?_;simp only[List.take_succ_cons,List.take_zero,List.drop_succ_cons,List.drop_zero]
    repeat (go_big_quiet_step (fail))
    refine wpQuiet_nil ?_;refine z_one 21 (by kernel_rfl) ?_;refine wpOp_atU rfl (by rfl) ?_;intro K' HK;go_simp;refine(keptInts_any _ _ va vn vc vs u4 (HL6.out.ext FX.out) (HV6.out.ext FX.out) n1).mono ?_;rintro e u5 ⟨rfl,q,hq⟩;have hb:=drew_ext hq;clear hq;have FY:=Lib.hid (ext_trans FX.out hb);refine HK.out _ _ ⟨.inr ⟨⟨_,FY.out⟩,rfl⟩,?_⟩;clear HK K' FX hb;have FX:=FY;clear FY
    try simp only[Act.put,List.setIfInBounds_toArray,List.set_cons_succ,List.set_cons_zero]
    refine z_reads 22 6 (by kernel_rfl) ⟨⟨_,FX.out⟩,rfl⟩ ?_;simp only[List.take_succ_cons,List.take_zero,List.drop_succ_cons,List.drop_zero]
    repeat (go_big_quiet_step (fail))
    refine wpQuiet_nil ?_;refine z_one 28 (by kernel_rfl) ?_;refine wpOp_atU rfl (by rfl) ?_;intro K' HK;go_simp;refine(refs_any pa pn pc ps u5 (HP6.out.ext csP_len FX.out) n4).mono ?_;rintro e u6 ⟨v9,rfl,ho9,hb⟩;obtain⟨b9,k9,e9⟩:=ho9.form;rw[HP.out.1] at e9;subst e9;have HS9:Hid (PrS _ b9 pn ps):=ho9.recs csP_len;clear ho9;have FY:=Lib.hid (ext_trans FX.out hb);refine HK.out _ _ ⟨.inr ⟨⟨_,FY.out⟩,rfl⟩,?_⟩;clear HK K' FX hb;have FX:=FY;clear FY
    try simp only[Act.put,List.setIfInBounds_toArray,List.set_cons_succ,List.set_cons_zero]
    refine z_one 29 (by kernel_rfl) ?_;refine wpOp_atU rfl (by rfl) ?_;intro K' HK;go_simp;refine(samePairs_any b2 b9 pn k2 k9 ps u6 (HK2.out.ext csP_len FX.out) HS9.out).mono ?_;rintro e u7 ⟨rfl,hb⟩;have FY:=Lib.hid (ext_trans FX.out hb);refine HK.out _ _ ⟨.inr ⟨⟨_,FY.out⟩,rfl⟩,?_⟩;clear HK K' FX hb;have FX:=FY;clear FY
    try simp only[Act.put,List.setIfInBounds_toArray,List.set_cons_succ,List.set_cons_zero]
    refine z_reads 30 6 (by kernel_rfl) ⟨⟨_,FX.out⟩,rfl⟩ ?_;simp only[List.take_succ_cons,List.take_zero,List.drop_succ_cons,List.drop_zero]
    repeat (go_big_quiet_step (fail))
    refine wpQuiet_nil ?_;refine z_one 36 (by kernel_rfl) ?_;refine wpOp_atU rfl (by rfl) ?_;intro K' HK;go_simp;refine(keptInts_any _ _ aa an ac l u7 (HM6.out.ext FX.out) (HA6.out.ext FX.out) n2).mono ?_;rintro e u8 ⟨rfl,q,hq⟩;have hb:=drew_ext hq;clear hq;have FY:=Lib.hid (ext_trans FX.out hb);refine HK.out _ _ ⟨.inr ⟨⟨_,FY.out⟩,rfl⟩,?_⟩;clear HK K' FX hb;have FX:=FY;clear FY
    try simp only[Act.put,List.setIfInBounds_toArray,List.set_cons_succ,List.set_cons_zero]
    refine z_reads 37 2 (by kernel_rfl) ⟨⟨_,FX.out⟩,rfl⟩ ?_;simp only[List.take_succ_cons,List.take_zero,List.drop_succ_cons,List.drop_zero]
    repeat (go_big_quiet_step (fail))
    refine wpQuiet_nil ?_;refine z_one 39 (by kernel_rfl) ?_;refine wpOp_atU rfl (by rfl) ?_;intro K' HK;go_simp;refine(awake20_any u8 (HTB.out.ext (ext_trans HW6.out FX.out))).mono ?_;rintro e u9 ⟨rfl,hb⟩;have FY:=Lib.hid (ext_trans FX.out hb);refine HK.out _ _ ⟨.inr ⟨⟨_,FY.out⟩,rfl⟩,?_⟩;clear HK K' FX hb;have FX:=FY;clear FY
    try simp only[Act.put,List.setIfInBounds_toArray,List.set_cons_succ,List.set_cons_zero]
    refine z_reads 40 2 (by kernel_rfl) ⟨⟨_,FX.out⟩,rfl⟩ ?_;simp only[List.take_succ_cons,List.take_zero,List.drop_succ_cons,List.drop_zero]
    repeat (go_big_quiet_step (fail))
    refine wpQuiet_nil ?_;refine z_done (by kernel_rfl) ?_;have HF:=Lib.hid (ext_trans HW6.out FX.out);go_wp2
    go_ret
    exact⟨rfl,HF.out⟩
end
end Go.Proofs.YtnmkjliioogbgaaGreatDoor
