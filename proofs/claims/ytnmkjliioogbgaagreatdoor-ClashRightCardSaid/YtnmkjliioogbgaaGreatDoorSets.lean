/-
 law20.refs:the pairs as the reference's own.
-/
import Derived.Test.YtnmkjliioogbgaaGreatDoorInsR
import Derived.Test.YtnmkjliioogbgaaGreatDoorPG
import Derived.Test.YtnmkjliioogbgaaGreatDoorYL
namespace Go.Proofs.YtnmkjliioogbgaaGreatDoor
set_option linter.unusedSimpArgs false
set_option linter.unusedVariables false
set_option linter.unusedSectionVars false
set_option maxRecDepth 100000
set_option maxHeartbeats 40000000
section
open Go.RowKit Go.Shelf
attribute [local go_sem] Oper.semAt_some wide_fn wide_depth wide_fnR wide_depthR
abbrev OwnQ(w:World)(base:Nat)(v:Value)(l:List Pr2):Prop:=OwnR 50 2 csP w base v l
theorem infoQ:(Tryz.prog.info? 50).map (fun i=>(i.zero,i.size,i.bytes))=some (some (.agg #[.int .i64 0,.int .i64 0]),2,16):=by kernel_rfl
def RefsPost(w:World)(ls:List Pr2)(e:Ending)(w':World):Prop:=∃v,e=.returned v∧OwnQ w' w.heap.size v ls∧Below w.heap.size w w'
theorem refs_any(a:Option Addr)(n c:Nat)(ls:List Pr2)(w:World)(h:PrS w a n ls)(hn:n≤1000000):
  Calls Tryz.prog 6 #[.slice a n c] w (RefsPost w ls):=by
 have H:=Lib.hid h
 have HL:=Lib.hid h.1
 clear h
 go_enter Tryz.func6,Tryz.ntmps6
 go_wp2
 go_loopw [3,4] (fun v3 v4 wr=>∃k:Nat,v4=.int .i64 (k:Int)∧k≤n∧Hid (OwnQ wr w.heap.size v3 (ls.take k))∧Hid (Below w.heap.size w wr)) (fun _ v4 _=>n-(intOf v4).toNat)
 case atStart=>exact⟨0,rfl,by omega,OwnR.nil _ _ _ _ _,Below.refl _ _⟩
 case round=>
  obtain⟨k,rfl,hk,HO,HB⟩:=hrel;by_cases hlt:k<n
  ·have hlt2:(k:Int)<(n:Int):=by omega
   obtain⟨⟨p1,p2⟩,b,o,hr,rfl,c0,c1⟩:=prs_cells (H.out.ext csP_len HB.out) hlt;have HTK:Hid (ls.take (k+1)=ls.take k++ [(p1,p2)]):=by rw[Hid,List.take_add_one,hr];rfl
   have HTL:Hid ((ls.take k).length=k):=by
    have:=HL.out;rw[Hid,List.length_take];omega
   obtain⟨av,cv,hv⟩:=HO.out.form;rw[HTL.out] at hv;subst hv;have g0:∀m:ExtW wr,m.val.cell? ⟨b,o+k*2,none⟩=some (.int .i64 p1):=ExtW.cell c0;have g1:∀m:ExtW wr,m.val.cell? ⟨b,o+k*2+1,none⟩=some (.int .i64 p2):=ExtW.cell c1;clear c0 c1 hr;go_upto_region 5 with (fail)
   refine z_start (fun w'=>∃m:ExtW wr,w'=m.val) (by kernel_rfl) ?_;obtain⟨v0,F0,hv0⟩:∃v0,Below wr.heap.size wr v0∧wr.drew=v0:=⟨_,ext_drewN (Below.refl _ _) 1,rfl⟩
   rw[hv0];clear hv0;refine z_reads 0 11 (by kernel_rfl) ⟨⟨_,F0⟩,rfl⟩ ?_;simp only[List.take_succ_cons,List.take_zero,List.drop_succ_cons,List.drop_zero]
   repeat (go_big_quiet_step (fail))
   refine wpQuiet_nil ?_;clear g0 g1;refine z_one 11 (by kernel_rfl) ?_;refine wpOp_atU rfl (by rfl) ?_;intro K' HK;go_simp;refine HK.out _ _ ⟨.inr ⟨⟨_,F0⟩,rfl⟩,?_⟩;clear HK K'
   try simp only[Act.put,List.setIfInBounds_toArray,List.set_cons_succ,List.set_cons_zero]
   refine z_one 12 (by kernel_rfl) ?_;refine wpOp_atU rfl (by rfl) ?_;intro K' HK;go_simp;refine HK.out _ _ ⟨.inr ⟨⟨_,ext_trans F0 (ext_alloc _ _)⟩,rfl⟩,?_⟩;clear HK K'
   try simp only[Act.put,List.setIfInBounds_toArray,List.set_cons_succ,List.set_cons_zero]
   have HO0:=Lib.hid (HO.out.ext F0);have HB0:=Lib.hid (ext_trans HB.out F0);have hsz0:w.heap.size≤v0.heap.size:=HB0.out.size;clear F0;refine z_one 13 (by kernel_rfl) ?_;refine wpOp_atU rfl (by rfl) ?_;intro K' HK;refine op_append1 v0 (.tmp 11) (.tmp 23) 28 50 rfl w.heap.size _ 2 16 Tryz.underlying28 infoQ rfl (by omega) (.slice av k cv) k _ (csP (p1,p2)) rfl (by have:=HO0.out.1;rwa [HTL.out] at this) v0.heap.size rfl rfl rfl (by simp[csP,Value.oneCell']) (by simp only[maxLen];omega) (by omega) (by omega) ?_;intro g2 cap w2 hown2 hgr2 hat2;have HO2:Hid (OwnQ w2 w.heap.size (.slice (some ⟨g2,0,none⟩) (k+1) cap) (ls.take (k+1))):=by
    rw[Hid,HTK.out];refine⟨?_,by simp;omega⟩;rw[List.flatMap_append,List.length_append,HTL.out];simpa using hown2
   have HB2:Hid (Below w.heap.size w w2):=HB0.out.grown hgr2 hsz0 (fun q e=>(HO0.out.low e).1);refine HK.out _ _ (And.intro (.inl (by kernel_rfl)) ?_);clear HK K' hown2 hgr2 hat2
   try simp only[Act.put,List.setIfInBounds_toArray,List.set_cons_succ,List.set_cons_zero]
   refine z_one 14 (by kernel_rfl) ?_;refine wpOp_atU rfl (by rfl) ?_;intro K' HK;go_simp;refine HK.out _ _ (And.intro (.inl (by kernel_rfl)) ?_);clear HK K';refine z_done (by kernel_rfl) ?_
   try simp only[Act.put,List.setIfInBounds_toArray,List.set_cons_succ,List.set_cons_zero]
   go_wp2
   go_roundw
   case rel=>exact⟨k+1,by go_num,by omega,HO2,HB2⟩
   case measure=>simp[intOf];omega
  ·obtain rfl:k=n:=by omega
   have hlt2:¬(k:Int)<(k:Int):=by omega
   have hT:ls.take k=ls:=List.take_of_length_le (by rw[HL.out];exact Nat.le_refl _);rw[hT] at HO;clear hT;go_wp2
   go_ret
   exact⟨_,rfl,HO.out,HB.out⟩
end

section
open Go.RowKit Go.Shelf
attribute [local go_sem] Oper.semAt_some wide_fn wide_depth wide_fnR wide_depthR
theorem samePairs_any(a a':Option Addr)(n c c':Nat)(ls:List Pr2)(w:World)(h:PrS w a n ls)(h':PrS w a' n ls):
  Calls Tryz.prog 12 #[.slice a n c,.slice a' n c'] w fun e w'=>e=.returned (.bool true)∧Below w.heap.size w w':=by
 have H:=Lib.hid h
 have H':=Lib.hid h'
 have hn:=h.2.1
 clear h h'
 go_enter Tryz.func12,Tryz.ntmps12
 go_wp2
 go_loopw [5] (fun i wr=>∃k:Nat,i=.int .i64 (k:Int)∧k≤n∧Hid (Below w.heap.size w wr)) (fun i _=>n-(intOf i).toNat)
 case atStart=>exact⟨0,rfl,by omega,Below.refl _ _⟩
 case round=>
  obtain⟨k,rfl,hk,HB⟩:=hrel;by_cases hlt:k<n
  ·have hlt2:(k:Int)<(n:Int):=by omega
   obtain⟨⟨p1,p2⟩,b,o,hr,rfl,c0,c1⟩:=prs_cells (H.out.ext csP_len HB.out) hlt;obtain⟨q,b',o',hr',rfl,d0,d1⟩:=prs_cells (H'.out.ext csP_len HB.out) hlt;rw[hr] at hr';cases hr';clear hr;dsimp only at c0 c1 d0 d1;go_wp2
   go_quiet (fail)
   go_wp2
   go_roundw
   case rel=>exact⟨k+1,by go_num,by omega,ext_drewN HB.out _⟩
   case measure=>simp[intOf];omega
  ·obtain rfl:k=n:=by omega
   have hlt2:¬(k:Int)<(k:Int):=by omega
   go_wp2
   go_ret
   exact⟨rfl,HB.out⟩
end

section
open Go.RowKit
def remB(es:List Nat)(L:Array Bool):Nat:=(es.filter fun e=> !L.getD e false).length
def nextB(l:List Oper)(L:Array Bool):List (Array Bool):=(Region.ready .any l.toArray L).map fun i=>L.setIfInBounds i true
def dedupB:List (Array Bool)→List (Array Bool)
 | []=> []
 |L :: r=>if r.contains L then dedupB r else L :: dedupB r
def statesB(l:List Oper):Nat→List (Array Bool)→List (Array Bool)
 |0,Ls=>Ls
 |n+1,Ls=>Ls++statesB l n (dedupB (Ls.flatMap (nextB l)))
def okSets(l:List Oper)(es:List Nat)(Ls:List (Array Bool))(Lf:Array Bool):Bool:=
 Ls.all fun L=>(remB es L==0&&L==Lf)||(!(Region.ready .any l.toArray L).isEmpty&&(Region.ready .any l.toArray L).all fun i=>es.contains i&& !L.getD i false&&Ls.contains (L.setIfInBounds i true)&&(remB es (L.setIfInBounds i true)+1==remB es L))
section
variable {P:Program} {l:List Oper} {S:World→Prop} {Q:Exit→Act→World→Prop}
theorem z_sets_all(es:List Nat)(Ls:List (Array Bool))(Lf:Array Bool)(hok:okSets l es Ls Lf=true)(J:Array Bool→Act→World→Prop)(fuel0:Nat)
  (hstep:∀L e,L∈Ls→e∈es→L.getD e false=false→e∈Region.ready .any l.toArray L→∀a w,J L a w→wpOp P l.toArray (NoPanic Q) e (fun a' w'=>(aloneB l e=true∨S w')∧J (L.setIfInBounds e true) a' w') a w)
  (hend:∀a w,J Lf a w→wpAnyZ P l (NoPanic Q) S fuel0 Lf a w):
  ∀(k:Nat) (L:Array Bool),L∈Ls→remB es L=k→∀a w,J L a w→wpAnyZ P l (NoPanic Q) S (fuel0+k) L a w:=by
 intro k
 induction k with
 |zero=>
  intro L hL hk a w hJ;have h1:=List.all_eq_true.1 hok L hL;rw[Bool.or_eq_true] at h1;rcases h1 with h1|h1
  ·rw[Bool.and_eq_true] at h1;have:L=Lf:=by simpa using h1.2
   subst this;exact hend a w hJ
  ·rw[Bool.and_eq_true] at h1;obtain⟨h1,h2⟩:=h1;cases hr:Region.ready .any l.toArray L with
   |nil=>rw[hr] at h1;simp at h1
   |cons i r=>
    rw[List.all_eq_true] at h2;have:=h2 i (by rw[hr];simp);simp only[Bool.and_eq_true,beq_iff_eq] at this;omega
 |succ k ih=>
  intro L hL hk a w hJ;have h1:=List.all_eq_true.1 hok L hL;rw[Bool.or_eq_true] at h1;rcases h1 with h1|h1
  ·rw[Bool.and_eq_true,beq_iff_eq] at h1;omega
  ·rw[Bool.and_eq_true] at h1;obtain⟨h1,h2⟩:=h1;rw[List.all_eq_true] at h2;refine⟨fun h0=>?_,fun i hi=>?_⟩
   ·rw[h0] at h1;simp at h1
   ·have h3:=h2 i hi;simp only[Bool.and_eq_true,beq_iff_eq,Bool.not_eq_true'] at h3;obtain⟨⟨⟨h4,h5⟩,h6⟩,h7⟩:=h3;refine wpOp_mono (fun a' w' h'=>⟨h'.1,ih (L.setIfInBounds i true) (by simpa using h6) (by omega) a' w' h'.2⟩) (hstep L i hL (by simpa using h4) h5 hi a w hJ)
theorem z_sets{a0:Act}{w0:World}{L0:Array Bool}(es:List Nat)(n k fuel0:Nat)(Lf:Array Bool)(hok:(okSets l es (statesB l n [L0]) Lf&&remB es L0==k&&(statesB l n [L0]).contains L0)=true)(J:Act→Array Bool→Act→World→Prop)
  (h0:J a0 L0 a0 w0)
  (hstep:∀L e,e∈es→L.getD e false=false→L.size=L0.size→e∈Region.ready .any l.toArray L→∀a w,J a0 L a w→wpOp P l.toArray (NoPanic Q) e (fun a' w'=>(aloneB l e=true∨S w')∧J a0 (L.setIfInBounds e true) a' w') a w)
  (hend:∀a w,J a0 Lf a w→wpAnyZ P l (NoPanic Q) S fuel0 Lf a w):wpAnyZ P l (NoPanic Q) S (fuel0+k) L0 a0 w0:=by
 simp only[Bool.and_eq_true,beq_iff_eq] at hok
 obtain⟨⟨h1,h2⟩,h3⟩:=hok
 refine z_sets_all es _ Lf h1 (fun L a w=>L.size=L0.size∧J a0 L a w) fuel0 ?_ (fun a w h=>hend a w h.2) k L0 (by simpa using h3) h2 a0 w0 ⟨rfl,h0⟩
 intro L e _ he hL hr a w hJ
 exact wpOp_mono (fun a' w' h'=>⟨h'.1,by simpa using hJ.1,h'.2⟩) (hstep L e he hL hJ.1 hr a w hJ.2)
end
def putMany(a:Act)(ps:List (Nat×Value)):Act:={a with tmps:=ps.foldl (fun t p=>t.setIfInBounds p.1 p.2) a.tmps}
theorem getD_set_ne(L:Array Bool)(i j:Nat)(h:i≠j):(L.setIfInBounds i true).getD j false=L.getD j false:=by
 rw[Array.getD_eq_getD_getElem?,Array.getD_eq_getD_getElem?,Array.getElem?_setIfInBounds_ne h]
theorem getD_set_eq(L:Array Bool)(i:Nat)(h:i<L.size):(L.setIfInBounds i true).getD i false=true:=by
 rw[Array.getD_eq_getD_getElem?,Array.getElem?_setIfInBounds_self_of_lt h]
 rfl
end
end Go.Proofs.YtnmkjliioogbgaaGreatDoor
