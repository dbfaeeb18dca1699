/-
 live.Of:what the sets' numbers are;what lies where at the first turn.
-/
import Derived.Test.YthgebcfohnlhlaaGreatDoorLentI
import Derived.Test.YthgebcfohnlhlaaGreatDoorUE
import Derived.Test.YthgebcfohnlhlaaGreatDoorSameG
import Derived.Test.YthgebcfohnlhlaaGreatDoorSortI
namespace Go.Proofs.YthgebcfohnlhlaaGreatDoor
set_option linter.unusedSimpArgs false
set_option linter.unusedVariables false
set_option linter.unusedSectionVars false
set_option maxRecDepth 100000
set_option maxHeartbeats 40000000
section
open Go.RowKit
theorem point_var(x:BlkR)(i:Nat){v:Int}(h:withinL ((bkL x).ops.drop i) (bkL x).nd v=1):1≤v∧v≤200:=by
 have:=bksL_vars [{x with rs:=x.rs.drop i}] 0 (by simp[bksL_len]) v
 refine this ?_
 rw[bksL_at (b:={x with rs:=x.rs.drop i}) (by rfl),←h]
 show withinL ((x.rs.drop i).map fun r=>(⟨readsI r.d,definesV r.d⟩:OpL)) _ _=withinL ((x.rs.map fun r=>(⟨readsI r.d,definesV r.d⟩:OpL)).drop i) _ _
 rw[List.map_drop]
 rfl
theorem live_lists{bs:List BlkR}{inn out:Nat→Nat}(hl:LivOK (bksL bs) inn out)(he:LivEnd (bksL bs) inn out)(hti:toIn bs=true){k:Nat}{x:BlkR}(hx:bs[k]? =some x):
  intsN (bitsL 1024 (inn k))=vInL (bksL bs) k∧intsN (bitsL 1024 (out k))=vOutL (bksL bs) k∧∀i,intsN (bitsL 1024 (pointN x.h.t (out k) (x.rs.drop i)))=atL (bksL bs) k i:=by
 have hto:=toIn_ok hti
 have hvr:=bksL_vars bs
 have hk:k<(bksL bs).length:=by rw[bksL_len];exact(List.getElem?_eq_some_iff.1 hx).1
 have hd:=fun(j:Nat) (hj:j<1024)=>hl.done hto he.1 he.2 hj hk
 have hbk:bkOf (bksL bs) k=bkL x:=bksL_at hx
 have hov:∀j:Nat,NeedOut (bksL bs) (j:Int) k→1≤(j:Int)∧(j:Int)≤200:=fun j ⟨c,hc,h⟩=>needIn_var hvr hto (hto k hk c hc) h
 have hob:∀j:Nat,j<1024→bitF (out k) (j:Int)=vOutB (bksL bs) (j:Int) k:=fun j hj=>by
  rw[bitF_nat,Bool.eq_iff_iff,vOutB_iff hto _ hk];exact(hd j hj).2
 refine⟨vars_bits fun j hj=>?_,vars_bits fun j hj=>?_,fun i=>vars_bits fun j hj=>?_⟩
 ·rw[(hd j hj).1,needB_iff hto _ hk];exact⟨fun h=>by have:=needIn_var hvr hto hk h;exact⟨by omega,by omega,h⟩,fun h=>h.2.2⟩
 ·rw[(hd j hj).2,vOutB_iff hto _ hk];exact⟨fun h=>by have:=hov j h;exact⟨by omega,by omega,h⟩,fun h=>h.2.2⟩
 ·have e:(pointN x.h.t (out k) (x.rs.drop i)).testBit j=atP (bksL bs) k i (j:Int):=by
   rw[pointN_bit _ _ _ hj,List.map_drop,atP,hbk];show aheadL ((bkL x).ops.drop i) (bkL x).nd _ _=_;rw[ahead_within,ahead_within,hob j hj]
  rw[e];refine⟨fun h=>?_,fun h=>h.2.2⟩;have h1:=h;rw[atP,ahead_within,hbk] at h1;simp only[Bool.or_eq_true,Bool.and_eq_true,decide_eq_true_eq] at h1;rcases h1 with h1|h1
  ·have:=point_var x i h1;exact⟨by omega,by omega,h⟩
  ·have:=hov j ((vOutB_iff hto _ hk).1 h1.2);exact⟨by omega,by omega,h⟩
section
variable {w:World} {fo:Obj} {bs:List BkL} {n R0 R1 PF:Nat} {inn out:Nat→Nat} {vI vO vA:Value} {gs:Nat→Nat} {kI kO kA:Nat} {W W':World} {row:Option Nat}
theorem LfJ.ia(h:LfJ w fo bs n R0 R1 PF inn out vI vO vA gs kI kO kA W):∀q,vI.ownBlock=some q→w.heap.size+2≤q∧q≠PF∧R0≠q∧R1≠q:=fun q e=>by
 obtain⟨h1,_,cs,f,h3⟩:=h.gI.lt e
 obtain⟨a1,_,a3,a4,_⟩:=h.sets.2 q cs _ f h3 (.inl rfl)
 exact⟨h1,a1,a3,a4⟩
theorem LfJ.oa(h:LfJ w fo bs n R0 R1 PF inn out vI vO vA gs kI kO kA W):∀q,vO.ownBlock=some q→w.heap.size+2≤q∧q≠PF∧R0≠q∧R1≠q:=fun q e=>by
 obtain⟨h1,_,cs,f,h3⟩:=h.gO.lt e
 obtain⟨a1,_,a3,a4,_⟩:=h.sets.2 q cs _ f h3 (.inl rfl)
 exact⟨h1,a1,a3,a4⟩
theorem LfJ.cls(h:LfJ w fo bs n R0 R1 PF inn out vI vO vA gs kI kO kA W)(hr:∀q,row=some q→w.heap.size+2≤q∧q≠PF∧R0≠q∧R1≠q)(hg:W.grownBy W' row):
  W'.heap[w.heap.size+1]? =some (liveO vI vO vA)∧W'.heap[PF]? =some (flowO n R0 R1)∧OwnW W' (w.heap.size+2) (.slice (some ⟨R0,0,none⟩) n n) n inn∧OwnW W' (w.heap.size+2) (.slice (some ⟨R1,0,none⟩) n n) n out:=
 ⟨(hg.block _ (lt_of_heap h.lv) fun e=>by have:=(hr _ e.symm).1;omega).trans h.lv,(hg.block _ (lt_of_heap h.fl) fun e=>(hr _ e.symm).2.1 rfl).trans h.fl,
   OwnR.kept h.inn hg (ne_opt fun q e he=>by simp only[Value.ownBlock,Option.some.injEq] at he;exact(hr q e).2.2.1 he),OwnR.kept h.out hg (ne_opt fun q e he=>by simp only[Value.ownBlock,Option.some.injEq] at he;exact(hr q e).2.2.2 he)⟩
end
theorem keep_ownR{W W':World}{base:Nat}{e:TypeId}{size:Nat}{v:Value}{n:Nat}{xs:List Value}(h:W.ownsRow base e size v n xs)(hg:W.grownBy W' v.ownBlock):Keep W W':=fun k o hk hb=>
 (hg.block k (lt_of_heap hk) fun e=>by
   obtain⟨cs,f,h3⟩:=own_ty h e.symm;rw[h3] at hk;cases hk
   cases hb).trans hk
theorem famL_snoc{α:Type}(n:Nat)(f:Nat→α):famL n f++ [f n]=famL (n+1) f:=by simp[famL,List.range_succ]
theorem famL_congr{α:Type}{n:Nat}{f g:Nat→α}(h:∀k,k<n→f k=g k):famL n f=famL n g:=by
 unfold famL
 exact List.map_congr_left fun k hk=>h k (List.mem_range.1 hk)
theorem own_slice{W:World}{base:Nat}{e:TypeId}{size:Nat}{v:Value}{n:Nat}{xs:List Value}(h:W.ownsRow base e size v n xs):∃a c,v=.slice a n c:=by
 rcases h.2 with ⟨rfl,h0⟩|⟨g,cap,cur,rfl,_⟩
 ·exact⟨none,0,by rw[h0]⟩
 ·exact⟨_,cap,rfl⟩
section
variable {w:World} {fo:Obj} {bs:List BkL} {n R0 R1 PF:Nat} {inn out:Nat→Nat} {vI vO vA:Value} {gs:Nat→Nat} {kI kO kA:Nat} {W W':World}
theorem book_ty{W:World}{q:Nat}{o:Obj}(hq:W.heap[q]? =some o)(ho:isBook o=true):∀cs t f,W.heap[q]?≠some (.cells cs t f):=fun cs t f e=>by
 rw[hq] at e
 cases e
 cases ho
theorem LfJ.steady{B:Nat}(hB:w.heap.size+2≤B):Steady B (LfJ w fo bs n R0 R1 PF inn out vI vO vA gs kI kO kA):=fun W V row h hg hr=>
 h.keep hg fun q e=>by
  obtain⟨h2,o,h3,h4⟩:=hr q e;have hb:=book_ty h3 h4;refine⟨by omega,fun e2=>?_,fun cs f=>hb cs _ f,fun cs f=>hb cs _ f,fun e2=>?_,fun e2=>?_,fun e2=>?_,fun e2=>?_,fun j hj e2=>?_⟩
  ·subst e2;exact hb _ _ _ h.fl
  ·obtain⟨cs,f,h5⟩:=ownW_ty h.inn;subst e2;exact hb _ _ _ h5
  ·obtain⟨cs,f,h5⟩:=ownW_ty h.out;subst e2;exact hb _ _ _ h5
  ·obtain⟨_,_,cs,f,h5⟩:=h.gI.lt e2;exact hb _ _ _ h5
  ·obtain⟨_,_,cs,f,h5⟩:=h.gO.lt e2;exact hb _ _ _ h5
  ·obtain⟨us,h5,_⟩:=h.tb j hj;subst e2;exact hb _ _ _ h5
theorem LfJ.post{ai ao aA:Option Addr}{ci co cA:Nat}(h:LfJ w fo bs n R0 R1 PF inn out (.slice ai n ci) (.slice ao n co) (.slice aA n cA) gs n n n W):LiveR W bs n ⟨ai,ci,ao,co,aA,cA⟩:=by
 refine⟨?_,?_,fun j hj=>?_⟩
 ·have:=h.gI.at_ (f:=vInL bs) fun k hk=>famL_at (by rwa [famL_len] at hk)
  rwa [famL_len] at this
 ·have:=h.gO.at_ (f:=vOutL bs) fun k hk=>famL_at (by rwa [famL_len] at hk)
  rwa [famL_len] at this
 ·obtain⟨g,c',e⟩:∃g c',(Value.slice aA n cA)=.slice (some ⟨g,0,none⟩) n c':=own_form h.gA (by omega);injection e with e _ _;subst e;refine⟨g,0,some ⟨gs j,0,none⟩,atN bs j,rfl,?_,(h.tb j hj).at_⟩;have:=World.ownsRow.cellAt h.gA j (by omega);rw[Nat.zero_add,this,famL_at hj];rfl
end
structure LfJt(w:World)(fo:Obj)(bs:List BkL)(n R0 R1 PF:Nat)(inn out:Nat→Nat)(vI vO vA:Value)(gs:Nat→Nat)(k:Nat)(x:BlkR)(TG P7 S0 hi:Nat)(ds:List Deferred)(m:Nat)(W:World):Prop where
 f:LfJ w fo bs n R0 R1 PF inn out vI vO vA gs (k+1) (k+1) k W
 t:TabL W (w.heap.size+2) TG (x.h.n+1) m (atL bs k)
 p7:W.heap[P7]? =some (.cells #[.slice (some ⟨TG,0,none⟩) (x.h.n+1) (x.h.n+1)] 49 (0,0))
 s0:W.heap[S0]? =some (blkO x.h)
 s1:W.heap[S0+1]? =some (bsO (out k))
 ma:Marks (w.heap.size+2) hi ds W
section
variable {w:World} {fo:Obj} {bs:List BkL} {n R0 R1 PF:Nat} {inn out:Nat→Nat} {vI vO vA:Value} {gs:Nat→Nat} {k:Nat} {x:BlkR} {TG P7 S0 hi m:Nat} {ds:List Deferred} {W W':World} {row:Option Nat}
theorem LfJt.steadyO{B:Nat}(hf:isOw fo=false)(hB:w.heap.size+2≤B)(h0:R0<B)(h1:R1<B)(hp:PF<B)(ht:TG<B)(hh:hi≤B)(hs:S0+1<B):SteadyO B (LfJt w fo bs n R0 R1 PF inn out vI vO vA gs k x TG P7 S0 hi ds m):=fun W V row h hg hr=>by
 refine⟨LfJ.steadyO hf hB h0 h1 hp W V row h.f hg hr,h.t.kept hg (fun e=>by have:=(hr _ e).1;omega) fun q e=>?_,block_keepO h.p7 rfl hg hr,block_keepO h.s0 rfl hg hr,SteadyO.low hs _ W V row h.s1 hg hr,?_⟩
 ·obtain⟨_,o,h3,h4⟩:=hr q e;exact(isOw_ty h3 h4).1
 ·obtain⟨Ds,e,hn,hD⟩:=h.ma;refine⟨Ds,e,hn,fun D hm=>⟨(hD D hm).1,(hD D hm).2.1,?_⟩⟩;have h2:=(hD D hm).2.2;refine(hg.block D (lt_of_heap h2) fun e=>?_).trans h2;have h3:=(hr D e.symm).1;have h4:=(hD D hm).2.1;omega
theorem LfJt.ext(h:LfJt w fo bs n R0 R1 PF inn out vI vO vA gs k x TG P7 S0 hi ds m W)(hb:Below W.heap.size W W'):LfJt w fo bs n R0 R1 PF inn out vI vO vA gs k x TG P7 S0 hi ds m W':=
 ⟨h.f.ext hb,h.t.ext hb,block_ext hb h.p7,block_ext hb h.s0,block_ext hb h.s1,h.ma.keep (Keep.ext hb)⟩
theorem LfJt.put(h:LfJt w fo bs n R0 R1 PF inn out vI vO vA gs k x TG P7 S0 hi ds (m+1) W)(hm:m<x.h.n+1)(hg2:w.heap.size+2≤TG)(hI:vI.ownBlock≠some TG)(hO:vO.ownBlock≠some TG)(hgs:∀j,j<k→gs j≠TG)(hT:TG≠P7∧TG≠S0∧TG≠S0+1){u:Value}(hu:OwnI W (w.heap.size+2) u (atL bs k m)):
  LfJt w fo bs n R0 R1 PF inn out vI vO vA gs k x TG P7 S0 hi ds m (W.setCell ⟨TG,m,none⟩ u)∧W.frozen? ⟨TG,m,none⟩=false∧(∃z,W.cell? ⟨TG,m,none⟩=some z)∧TG<W.heap.size:=by
 obtain⟨t1,t2,t3⟩:=h.t.put hm hu
 obtain⟨us,h5,_⟩:=h.t
 refine⟨⟨h.f.fill ⟨_,_,h5⟩ hg2 hI hO hgs,t1,?_,?_,?_,h.ma.keep (Keep.setCell _ _ _)⟩,t2,t3,lt_of_heap h5⟩
 ·rw[Below.heap_setCell _ _ _ _ (by simpa using fun e=>hT.1 e.symm)];exact h.p7
 ·rw[Below.heap_setCell _ _ _ _ (by simpa using fun e=>hT.2.1 e.symm)];exact h.s0
 ·rw[Below.heap_setCell _ _ _ _ (by simpa using fun e=>hT.2.2 e.symm)];exact h.s1
end
theorem LfJ.start{w:World}{fo:Obj}{bs:List BkL}{n R0 R1 PF:Nat}{inn out:Nat→Nat}{W:World}(h1:W.heap[w.heap.size]? =some fo)(h2:W.heap[w.heap.size+1]? =some (liveO nilS nilS nilS))(h3:W.heap[PF]? =some (flowO n R0 R1))
  (h4:OwnW W (w.heap.size+2) (.slice (some ⟨R0,0,none⟩) n n) n inn) (h5:OwnW W (w.heap.size+2) (.slice (some ⟨R1,0,none⟩) n n) n out) (hb:Below w.heap.size w W):LfJ w fo bs n R0 R1 PF inn out nilS nilS nilS (fun _=>0) 0 0 0 W:=
 ⟨h1,h2,h3,h4,h5,ListsIn.nil _ _,ListsIn.nil _ _,World.ownsRow_nil _ _ _ _,fun j hj=>absurd hj (by omega),fun j hj=>absurd hj (by omega),fun j hj=>absurd hj (by omega),fun q e=>(by cases e),hb⟩
end

section
open Go.RowKit Go.Shelf
attribute [local go_sem] Oper.semAt_some wide_fn wide_depth wide_fnR wide_depthR
theorem bitsL_len(n S:Nat):(bitsL n S).length≤n:=by
 have:=List.length_filter_le S.testBit (List.range n)
 simpa[bitsL] using this
def AJB(w:World)(S:Nat)(xs:List Int)(W:World):Prop:=
 ∃v,W.heap[w.heap.size+1]? =some (.cells #[v] 22 (0,0))∧OwnI W (w.heap.size+3) v xs∧W.heap[w.heap.size+1+1]? =some (bsO S)∧Below w.heap.size w W
theorem AJB.steady{w:World}{S:Nat}{xs:List Int}{D:Nat}(hD:w.heap.size≤D):Steady D (AJB w S xs):=by
 unfold AJB
 exact Steady.ex fun v=>(Steady.block _ _ rfl).and ((Steady.ownI _ _ _ _).and ((Steady.block _ _ rfl).and (Steady.below (Nat.le_refl _) hD)))
theorem bList_any(S:Nat)(w:World)(hT:Tab w):Calls Tryz.prog 83 #[.agg (setW S)] w (IntsPost w (intsN (bitsL 1024 S))):=by
 refine(callsIn_wide (n:=0)).1 ?_
 refine callsIn_of_wp_marks Tryz.func83 rfl trivial ?_
 simp only[Tryz.ntmps83,List.size_toArray,List.length_cons,List.length_nil,Nat.reduceAdd,Nat.reduceSub,Array.replicate_succ,Array.replicate_zero,List.push_toArray,List.append_toArray,List.nil_append,List.cons_append]
 obtain⟨W0,hW0⟩:∃W0,W0=(w.alloc (bsO S)).alloc (.cells #[.slice none 0 0] 22 (0,0)):=⟨_,rfl⟩
 have hb0:W0.heap[w.heap.size]? =some (bsO S):=by rw[hW0,Below.heap_alloc _ _ _ (by simp)];exact heap_alloc_new _ _
 have hb1:W0.heap[w.heap.size+1]? =some (.cells #[.slice none 0 0] 22 (0,0)):=by
  rw[hW0];have:=heap_alloc_new (w.alloc (bsO S)) (.cells #[.slice none 0 0] 22 (0,0));simpa using this
 have hB0:Below w.heap.size w W0:=by rw[hW0];exact((Below.refl _ w).alloc (Nat.le_refl _) _).alloc (by simp) _
 have hs0:W0.heap.size=w.heap.size+1+1:=by rw[hW0];simp
 obtain⟨W1,hW1⟩:∃W1,W1=W0.alloc (bsO S):=⟨_,rfl⟩
 have h11:W1.heap[w.heap.size+1]? =some (.cells #[.slice none 0 0] 22 (0,0)):=by rw[hW1,Below.heap_alloc _ _ _ (by omega)];exact hb1
 have h12:W1.heap[w.heap.size+1+1]? =some (bsO S):=by rw[hW1,←hs0];exact heap_alloc_new _ _
 have hB1:Below w.heap.size w W1:=by rw[hW1];exact hB0.alloc (by omega) _
 have hs1:W1.heap.size=w.heap.size+3:=by rw[hW1];simp[hs0]
 have HT:=Lib.hid hT
 have HW0:=Lib.hid hW0
 have HW1:=Lib.hid hW1
 have HS0:=Lib.hid hs0
 have HB0:=Lib.hid hb0
 have H11:=Lib.hid h11
 have H12:=Lib.hid h12
 have HBB:=Lib.hid hB1
 have HS1:=Lib.hid hs1
 clear hT hW0 hW1 hb0 hb1 hB0 hs0 h11 h12 hB1 hs1
 gi_wp2_with (first
  |(rw[←HW0.out];refine wpListIn_load_rowG rfl 168 _ rfl w.heap.size rfl 168 _ (0,0) _ HB0.out Tryz.underlying168 rfl (by rw[setW_size];exact size_bset) ?_)
  |(gi_at_call 181
    refine(callsIn_wide.2 (bEach_any S W0)).mono ?_;rw[←HW1.out,HS0.out]
    rintro e w2 ⟨rfl,rfl⟩))
 refine range_list (ps:=#[6]) (gf:=252) (lb:=#[.pointer (some ⟨w.heap.size+1+1,0,none⟩)]) (enc:=encN) (l:=bitsL 1024 S) rfl enter_bEach _ (bEach_iterI S (w.heap.size+1+1)) (fun _=>rfl)
  (fun d r W=>Hid (AJB w S (intsN d) W))
  (fun _ _=>False)
  (fun d r=>AJB.steady (by rw[HS1.out];omega)) (fun c=>Steady.pure _ _) (fun d r W h=>by obtain⟨v,_,_,h3,hb⟩:=h.out;exact⟨h3,HT.out.ext hb⟩) ?start ?round ?done ?stop
 case start=>exact⟨_,H11.out,OwnI.nil _ _,H12.out,HBB.out⟩
 case round=>
  rintro lp d x r W hd hJ;unfold encN
  gi_wp2
  refine⟨Keep.refl _,hJ,?_⟩;clear hJ lp W;rintro lp W hJ;obtain⟨v,hv,ho,hbx,hb⟩:=hJ.out;obtain⟨av,cv,rfl⟩:=ho.form;have hc0:W.cell? ⟨w.heap.size+1,0,none⟩=some (.slice av (intsN d).length cv):=by rw[cell_of_row _ _ _ _ _ _ hv];rfl
  have hf0:W.frozen? ⟨w.heap.size+1,0,none⟩=false:=frozen_of_row _ _ _ _ _ hv;have HO:=Lib.hid ho;have HV:=Lib.hid hv;have HB:=Lib.hid hb;have HBX:=Lib.hid hbx;have hws:w.heap.size+3≤W.heap.size:=by have:=(Array.getElem?_eq_some_iff.1 hbx).1;omega
  have hlen:(intsN d).length≤1000000:=by
   have h1:=bitsL_len 1024 S;rw[hd] at h1;simp[intsN] at h1⊢;omega
  clear hv ho hb hJ hbx
  gi_wp2_with (
   (gi_at_builtin
    refine listIn_of (by repeat (first|exact noOut_round|refine noOut_then ?_|refine noOut_block ?_)) _ _ _ rfl ?_;refine wpList_append1 rfl W (.tmp 7) (.tmp 9) 22 3 rfl (w.heap.size+3) _ 1 8 Tryz.underlying22 infoI rfl (by omega) (.slice av (intsN d).length cv) (intsN d).length _ [.int .i64 (x:Int)] rfl HO.out.1 W.heap.size rfl rfl rfl (by simp[Value.oneCell']) (by simp only[maxLen];omega) (by omega) (by omega) ?_;intro g cap w2 hown2 hg2 hat2;have HO2:=Lib.hid hown2;have HG2:=Lib.hid hg2;have HA2:=Lib.hid hat2;have hv2:=grown_row hg2 HV.out (fun e=>by have:=(HO.out.1.lt _ e).1;omega);have hx2:=grown_row hg2 HBX.out (fun e=>by have:=(HO.out.1.lt _ e).1;omega);have hc2:w2.cell? ⟨w.heap.size+1,0,none⟩=some (.slice av (intsN d).length cv):=(by rw[cell_of_row _ _ _ _ _ _ hv2];rfl)
    have hf2:w2.frozen? ⟨w.heap.size+1,0,none⟩=false:=frozen_of_row _ _ _ _ _ hv2;have hlt2:w.heap.size+1<w2.heap.size:=(Array.getElem?_eq_some_iff.1 hv2).1;have HV2:=Lib.hid hv2;have HX2:=Lib.hid hx2
    clear hown2 hg2 hat2 hv2 hx2 hc0 hf0))
  go_wp2;have hb2:Below w.heap.size w w2:=HB.out.grown HG2.out HB.out.size (fun k e=>by have:=(HO.out.1.lt k e).1;omega);have hgb:w.heap.size+3≤g:=by
   rcases HA2.out with h|h
   ·exact(HO.out.1.lt g h.symm).1
   ·omega
  have hd2:intsN (d++ [x])=intsN d++ [(x:Int)]:=by simp[intsN]
  have hx3:(w2.setCell ⟨w.heap.size+1,0,none⟩ (.slice (some ⟨g,0,none⟩) ((intsN d).length+1) cap)).heap[w.heap.size+1+1]? =some (bsO S):=by rw[Below.heap_setCell _ _ _ _ (by simp)];exact HX2.out
  refine⟨(Keep.grown HG2.out (own_nobook HO.out.1)).trans (Keep.setCell _ _ _),?_⟩;refine⟨_,by have:=heap_setCell_same w2 (w.heap.size+1) 0 _ _ (.slice (some ⟨g,0,none⟩) ((intsN d).length+1) cap) HV2.out;simpa using this,?_,hx3,?_⟩
  ·rw[hd2];refine OwnI.kept (row:=some (w.heap.size+1)) (w:=w2) ⟨?_,?_,by simp;omega⟩ (grown_setCell w2 (w.heap.size+1) 0 _) (.inr (by simp[Value.ownBlock];omega))
   ·have:=HO2.out;simpa[intVals] using this
   ·intro z hz;rcases List.mem_append.1 hz with h|h
    ·exact HO.out.2.1 z h
    ·simp only[List.mem_singleton] at h;subst h;have h2:x∈bitsL 1024 S:=by rw[hd];simp
     have:=(bits_mem.1 h2).1;unfold I64;omega
  ·exact hb2.setCell (by simp) _
 case done=>
  rintro D W hD hJ hK;obtain⟨v,hv,ho,hbx,hb⟩:=hJ.out;obtain⟨av,cv,rfl⟩:=ho.form;have hc0:W.cell? ⟨w.heap.size+1,0,none⟩=some (.slice av (intsN (bitsL 1024 S)).length cv):=by rw[cell_of_row _ _ _ _ _ _ hv];rfl
  have hf0:W.frozen? ⟨w.heap.size+1,0,none⟩=false:=frozen_of_row _ _ _ _ _ hv;have hDl:w.heap.size+3≤D:=by have:=HS1.out;omega
  have hv2:(W.setCell ⟨w.heap.size+1,0,none⟩ (.slice av (intsN (bitsL 1024 S)).length cv)).heap[w.heap.size+1]? =some (.cells #[.slice av (intsN (bitsL 1024 S)).length cv] 22 (0,0)):=by
   have:=heap_setCell_same W (w.heap.size+1) 0 _ _ (.slice av (intsN (bitsL 1024 S)).length cv) hv;simpa using this
  have hJ2:AJB w S (intsN (bitsL 1024 S)) (W.setCell ⟨w.heap.size+1,0,none⟩ (.slice av (intsN (bitsL 1024 S)).length cv)):=by
   refine⟨_,hv2,ho.kept (grown_setCell W (w.heap.size+1) 0 _) ?_,?_,hb.setCell (by simp) _⟩
   ·cases ha:(Value.slice av (intsN (bitsL 1024 S)).length cv).ownBlock with
    |none=>exact .inl rfl
    |some q=>exact .inr (by have:=(ho.1.lt q ha).1;simp;omega)
   ·rw[Below.heap_setCell _ _ _ _ (by simp)];exact hbx
  have hK2:(W.setCell ⟨w.heap.size+1,0,none⟩ (.slice av (intsN (bitsL 1024 S)).length cv)).heap[D]? =some (.deferred (some [])):=by
   rw[Below.heap_setCell _ _ _ _ (by simp;omega)];exact hK
  obtain⟨v4,hv4,ho4,_,hb4⟩:=(AJB.steady (w:=w) (S:=S) (xs:=intsN (bitsL 1024 S)) (D:=w.heap.size) (Nat.le_refl _)).put (.deferred none) (l:=D) hJ2 (by omega) hK2 rfl;have HV4:=Lib.hid hv4;have HO4:=Lib.hid ho4;have HB4:=Lib.hid hb4;have HK2:=Lib.hid hK2;clear hv ho hb hJ hbx hv2 hJ2 hK2 hv4 ho4 hb4 hK
  gi_wp2
  refine⟨by simp,.inl ⟨_,_,rfl,run_takeDeferred HK2.out,?_⟩⟩;have hc4:((W.setCell ⟨w.heap.size+1,0,none⟩ (.slice av (intsN (bitsL 1024 S)).length cv)).putObj D (.deferred none)).cell? ⟨w.heap.size+1,0,none⟩=some v4:=by rw[cell_of_row _ _ _ _ _ _ HV4.out];rfl
  exact⟨v4,by simp[results,Tryz.results83,go_sem,hc4],_,rfl,HO4.out.mono (by omega),HB4.out⟩
 case stop=>rintro D c W hD h;exact h.elim
end
end Go.Proofs.YthgebcfohnlhlaaGreatDoor
