/-
 Records of sets of a call's own;what tiles that stand hold.
-/
import Derived.Test.YthgebcfohnlhlaaGreatDoorPJ
import Derived.Test.YthgebcfohnlhlaaGreatDoorVN
import Derived.Test.YthgebcfohnlhlaaGreatDoorTX
import Derived.Test.YthgebcfohnlhlaaGreatDoorInsR
import Derived.Test.YthgebcfohnlhlaaGreatDoorSI
import Derived.Test.YthgebcfohnlhlaaGreatDoorZed
namespace Go.Proofs.YthgebcfohnlhlaaGreatDoor
set_option linter.unusedSimpArgs false
set_option linter.unusedVariables false
set_option linter.unusedSectionVars false
set_option maxRecDepth 100000
set_option maxHeartbeats 40000000
section
open Go.RowKit
theorem tile_len{ts:List TermD}{l:List TileD}(h:rightB ts l=true):l.length≤200:=by
 simp only[rightB,Bool.and_eq_true,decide_eq_true_eq,beq_iff_eq,List.all_eq_true,List.mem_range] at h
 exact h.1.1.1.1.2
theorem tile_blocks{ts:List TermD}{l:List TileD}(h:rightB ts l=true){k:Nat}{t:TileD}(ht:l[k]? =some t):∀v∈t.blocks,0≤v∧v<ts.length:=by
 intro v hv
 simp only[rightB,Bool.and_eq_true,decide_eq_true_eq,beq_iff_eq,List.all_eq_true,List.mem_range] at h
 have hk:=(List.getElem?_eq_some_iff.1 ht).1
 have h1:=(h.2 k hk).1
 simp only[standsB,Bool.and_eq_true] at h1
 have e:l.getD k zTile=t:=by rw[List.getD_eq_getElem?_getD,ht];rfl
 rw[e] at h1
 have h2:=h1.2
 simp only[risingB,List.all_eq_true,List.mem_range,Bool.and_eq_true,decide_eq_true_eq] at h2
 obtain⟨i,hi,rfl⟩:=List.getElem_of_mem hv
 have h3:=(h2 i hi).1
 rw[List.getD_eq_getElem?_getD,List.getElem?_eq_getElem hi] at h3
 exact h3
structure SetR where
 v:Nat→Value
 d:SetD
def setC(s:SetR):List Value:= [s.v 0,s.v 1,s.v 2,s.v 3,s.v 4,s.v 5,s.v 6]
theorem setC_len(s:SetR):(setC s).length=7:=rfl
def SetsIn(W:World)(B:Nat)(v:Value)(ls:List SetR):Prop:=
 OwnR 39 7 setC W B v ls∧∀s∈ls,∀j,j<7→OwnI W B (s.v j) (s.d.rows.getD j [])
def SetsOf(W:World)(B:Nat)(v:Value)(ds:List SetD):Prop:=∃ls:List SetR,ls.map (·.d)=ds∧SetsIn W B v ls
section
variable {W W':World} {B:Nat} {v:Value} {ls:List SetR} {row:Option Nat}
theorem SetsIn.nil(W:World)(B:Nat):SetsIn W B (.slice none 0 0) []:=⟨OwnR.nil _ _ _ _ _,fun s h=>by cases h⟩
theorem SetsIn.ext(h:SetsIn W B v ls)(hb:Below W.heap.size W W'):SetsIn W' B v ls:=⟨OwnR.ext h.1 hb,fun s hs j hj=>(h.2 s hs j hj).ext hb⟩
theorem SetsIn.mono{B':Nat}(h:SetsIn W B v ls)(hb:B'≤B):SetsIn W B' v ls:=⟨OwnR.mono h.1 hb,fun s hs j hj=>(h.2 s hs j hj).mono hb⟩
theorem SetsIn.chg{S:Nat→Prop}(h:SetsIn W B v ls)(hc:Chg S W W')(hv:∀q,v.ownBlock=some q→¬S q)(ht:∀q,S q→OtherTy W 3 q):SetsIn W' B v ls:=
 ⟨⟨ownsRow_chg h.1.1 hc hv,h.1.2⟩,fun s hs j hj=>(h.2 s hs j hj).chgT hc ht⟩
theorem SetsIn.ty(h:SetsIn W B v ls){q:Nat}(hq:v.ownBlock=some q):∃cs f,W.heap[q]? =some (.cells cs 39 f):=own_ty h.1.1 hq
theorem SetsIn.push{s:SetR}{g cap:Nat}(h:SetsIn W B v ls)(hown:W'.ownsRow B 39 7 (.slice (some ⟨g,0,none⟩) (ls.length+1) cap) (ls.length+1) (ls.flatMap setC++setC s))(hg:W.grownBy W' v.ownBlock)(hl:ls.length≤1000000)(hs:∀j,j<7→OwnI W B (s.v j) (s.d.rows.getD j [])):
  SetsIn W' B (.slice (some ⟨g,0,none⟩) (ls.length+1) cap) (ls++ [s]):=by
 have ht:∀q,v.ownBlock=some q→OtherTy W 3 q:=fun q e=>by
  obtain⟨cs,f,h3⟩:=h.ty e;exact OtherTy.of h3 (by decide)
 refine⟨⟨by simpa[List.flatMap_append] using hown,by simp;omega⟩,fun s' hs' j hj=>?_⟩
 rcases List.mem_append.1 hs' with h1|h1
 ·exact(h.2 s' h1 j hj).keptT hg ht
 ·rw[List.mem_singleton] at h1;subst h1;exact(hs j hj).keptT hg ht
end
end

section
theorem ahead_begin{nd:List Int}{out:Int→Bool}{v:Int}:∀(ops:List OpL) (i:Nat),aheadL (ops.drop i) nd out v=true→aheadL ops nd out v=true∨defsL ops v=true
 |ops,0,h=>.inl h
 | [],i+1,h=>.inl (by simpa using h)
 |o :: l,i+1,h=>by
  rw[List.drop_succ_cons] at h;by_cases e:o.df=v
  ·right;simp[defsL,e]
  ·rcases ahead_begin l i h with h|h
   ·left;unfold aheadL;simp[h,e]
   ·right;unfold defsL at *;rw[List.any_cons,h,Bool.or_true]
theorem within_two{nd:List Int}{v:Int}:∀ops:List OpL,withinL ops nd v≤2∧(withinL ops nd v=2→defsL ops v=true)∧(withinL ops nd v=0→defsL ops v=false)
 | []=>by unfold withinL;split<;>simp[defsL]
 |o :: l=>by
  have ih:=within_two (nd:=nd) (v:=v) l;unfold withinL
  split
  ·simp
  ·split
   ·rename_i h
    simp[defsL,h]
   ·rename_i h
    refine⟨ih.1,fun e=>?_,fun e=>?_⟩
    ·unfold defsL at *;rw[List.any_cons,ih.2.1 e,Bool.or_true]
    ·have:=ih.2.2 e;unfold defsL at *;rw[List.any_cons,this];simpa using h
theorem needIn_out{bs:List BkL}{v:Int}{b:Nat}(h:NeedOut bs v b)(hd:defsL (bkOf bs b).ops v=false):NeedIn bs v b:=by
 obtain⟨h1,h2,_⟩:=within_two (nd:=(bkOf bs b).nd) (v:=v) (bkOf bs b).ops
 refine(needIn_iff bs v b).2 ?_
 have:withinL (bkOf bs b).ops (bkOf bs b).nd v=0∨withinL (bkOf bs b).ops (bkOf bs b).nd v=1∨withinL (bkOf bs b).ops (bkOf bs b).nd v=2:=by omega
 rcases this with e|e|e
 ·exact .inr ⟨e,h⟩
 ·exact .inl e
 ·rw[h2 e] at hd;cases hd
theorem lacks_of{bs:List BkL}{ps:List Int}{v:Int}(hto:ToOK bs){b:Nat}(hn:NeedIn bs v b):b<bs.length→LackIn bs ps v b→Lacks bs ps v:=by
 unfold NeedIn at hn
 induction hn with
 | @here b h=>exact fun hb hl=>⟨b,hb,hl,by simpa[needG] using h⟩
 | @step b c hc hcl ih=>
   intro hb hl;unfold needX at hc
   split at hc
   ·rename_i h0
    exact ih (hto b hb c hc) (.step (List.mem_filter.2 ⟨(preds_mem bs c b).2 ⟨hb,hc⟩,by simp[(within_two _).2.2 h0]⟩) hl)
   ·cases hc
section
variable {ps:List Int} {bs:List BlkR} {l:List TileD} {k b:Nat} {v:Int}
theorem blk_at(hb:b<bs.length):∃x,bs[b]? =some x∧(tsOf (hOf bs)).getD b zTerm=x.h.t∧bkOf (bksL bs) b=bkL x:=
 ⟨bs[b],List.getElem?_eq_getElem hb,tsOf_at _ _ _ (by simp[hOf,hb]),bksL_at (List.getElem?_eq_getElem hb)⟩
theorem tsh_len:(tsOf (hOf bs)).length=bs.length:=by simp[tsOf,hOf]
theorem edge_to{x:EdgeD}(h:x∈edgesL (tsOf (hOf bs))):0≤x.fr∧x.fr.toNat<bs.length∧x.to.toNat∈(bkOf (bksL bs) x.fr.toNat).to:=by
 obtain⟨b,j,hb,hj,rfl⟩:=(mem_edgesL _ _).1 h
 rw[tsh_len] at hb
 obtain⟨y,_,h2,h3⟩:=blk_at hb
 refine⟨Int.natCast_nonneg _,by simpa using hb,?_⟩
 show _∈(bkOf (bksL bs) ((b:Int)).toNat).to
 rw[Int.toNat_natCast,h3]
 rw[h2] at hj⊢
 exact List.mem_map.2 ⟨_,by rw[List.getD_eq_getElem?_getD,List.getElem?_eq_getElem hj];exact List.getElem_mem hj,rfl⟩
theorem to_edge(hti:toIn bs=true){p:Nat}(hp:p<bs.length)(hb:b∈(bkOf (bksL bs) p).to):∃x∈edgesL (tsOf (hOf bs)),x.fr=(p:Int)∧x.to=(b:Int):=by
 obtain⟨y,h1,h2,h3⟩:=blk_at hp
 rw[h3] at hb
 obtain⟨z,hz,hzb⟩:=List.mem_map.1 hb
 have h4:=List.all_eq_true.1 (List.all_eq_true.1 hti y (List.mem_of_getElem? h1)) z hz
 simp only[decide_eq_true_eq] at h4
 obtain⟨j,hj,e⟩:=List.mem_iff_getElem.1 hz
 refine⟨⟨p,j,(toD ((tsOf (hOf bs)).getD p zTerm)).getD j 0⟩,(mem_edgesL _ _).2 ⟨p,j,by rw[tsh_len];exact hp,by rw[h2];exact hj,rfl⟩,rfl,?_⟩
 show(toD ((tsOf (hOf bs)).getD p zTerm)).getD j 0=_
 rw[h2,List.getD_eq_getElem?_getD,List.getElem?_eq_getElem hj,e]
 show z=_
 omega
theorem mem_blkM(hrt:rightB (tsOf (hOf bs)) l=true)(hb:b<bs.length):(k<l.length∧b∈blkM l k)↔ownF l b=k:=by
 rw[←own_iff (right_own hrt) (by rw[tsh_len];exact hb) k]
 refine and_congr_right fun hk=>?_
 have e:blkL l k=((l.getD k ⟨0,0,[]⟩).blocks):=by
  simp only[blkL,List.getD_eq_getElem?_getD,List.getElem?_eq_getElem hk,Option.getD_some]
 rw[e]
 unfold blkM
 rw[List.mem_map]
 constructor
 ·rintro⟨z,hz,rfl⟩;have:=tile_blocks hrt (k:=k) (t:=l[k]) (List.getElem?_eq_getElem hk) z (by simpa[List.getD_eq_getElem?_getD,List.getElem?_eq_getElem hk] using hz)
  rwa [show((z.toNat:Nat):Int)=z by omega]
 ·exact fun h=>⟨_,h,by simp⟩
theorem blkM_lt(hrt:rightB (tsOf (hOf bs)) l=true)(hk:k<l.length)(h:b∈blkM l k):b<bs.length:=by
 unfold blkM at h
 obtain⟨z,hz,rfl⟩:=List.mem_map.1 h
 have:=tile_blocks hrt (k:=k) (t:=l[k]) (List.getElem?_eq_getElem hk) z (by simpa[List.getD_eq_getElem?_getD,List.getElem?_eq_getElem hk] using hz)
 rw[tsh_len] at this
 omega
theorem mem_rows{ask:EdgeD→Bool}{r:RowD}:r∈rowsL (tsOf (hOf bs)) l ask↔∃x∈edgesL (tsOf (hOf bs)),ownF l x.fr.toNat≠ownF l x.to.toNat∧ask x=true∧rowOf l x=r:=by
 simp only[rowsL,List.mem_map,List.mem_filter,betwB,Bool.and_eq_true,bne_iff_ne,ne_eq]
 constructor
 ·rintro⟨x,⟨h1,h2,h3⟩,h4⟩;exact⟨x,h1,h2,h3,h4⟩
 ·rintro⟨x,h1,h2,h3,h4⟩;exact⟨x,⟨h1,h2,h3⟩,h4⟩
theorem mem_edgM{rs:List RowD}:v∈edgM bs rs↔∃r∈rs,v∈vInL (bksL bs) r.e.to.toNat:=by simp[edgM]
theorem vIn_iff(hti:toIn bs=true)(hb:b<bs.length):v∈vInL (bksL bs) b↔1≤v∧v≤200∧NeedIn (bksL bs) v b:=by
 unfold vInL
 rw[varsL_mem,needB_iff (toIn_ok hti) v (by rw[bksL_len];exact hb)]
theorem vOut_iff(hti:toIn bs=true)(hb:b<bs.length):v∈vOutL (bksL bs) b↔1≤v∧v≤200∧NeedOut (bksL bs) v b:=by
 unfold vOutL
 rw[varsL_mem,vOutB_iff (toIn_ok hti) v (by rw[bksL_len];exact hb)]
theorem def_mem(hb:b<bs.length)(hv:1≤v)(h:defsL (bkOf (bksL bs) b).ops v=true):v∈defM ps bs b:=by
 obtain⟨x,h1,_,h3⟩:=blk_at hb
 rw[h3] at h
 unfold defsL bkL at h
 simp only[List.any_map,List.any_eq_true,Function.comp_apply,decide_eq_true_eq] at h
 obtain⟨r,hr,e⟩:=h
 refine List.mem_append.2 (.inr (List.mem_filter.2 ⟨List.mem_map.2 ⟨r,by unfold insAt;rw[h1];exact hr,e⟩,by simp;omega⟩))
theorem liv_from(hti:toIn bs=true)(hb:b<bs.length)(h:v∈livM bs b):NeedIn (bksL bs) v b∨defsL (bkOf (bksL bs) b).ops v=true:=by
 have hb':b<(bksL bs).length:=by rw[bksL_len];exact hb
 rcases List.mem_append.1 h with h|h
 ·rcases List.mem_append.1 h with h|h
  ·exact .inl ((vIn_iff hti hb).1 h).2.2
  ·cases hd:defsL (bkOf (bksL bs) b).ops v with
   |true=>exact .inr rfl
   |false=>exact .inl (needIn_out ((vOut_iff hti hb).1 h).2.2 hd)
 ·obtain⟨i,_,h⟩:=List.mem_flatMap.1 h;rcases ahead_begin _ _ (varsL_mem.1 h).2.2 with h|h
  ·left;rw[ahead_within] at h;simp only[Bool.or_eq_true,Bool.and_eq_true,decide_eq_true_eq] at h;exact(needIn_iff _ v b).2 (h.imp_right fun x=>⟨x.1,(vOutB_iff (toIn_ok hti) v hb').1 x.2⟩)
  ·exact .inr h
theorem need_from(hti:toIn bs=true)(hrt:rightB (tsOf (hOf bs)) l=true)(hla:anyLack ps (bksL bs)=false)(hv:1≤v∧v≤200)(hr:Reach0 (bksL bs) b):b<bs.length→ownF l b=k→NeedIn (bksL bs) v b→
  (∃c,c<bs.length∧ownF l c=k∧v∈defM ps bs c)∨∃r∈rowsL (tsOf (hOf bs)) l (intoB l k),v∈vInL (bksL bs) r.e.to.toNat:=by
 unfold Reach0 at hr
 induction hr with
 | @here b h=>
   intro hb ho hn;simp only[decide_eq_true_eq] at h;subst h;by_cases hp:v∈ps
   ·exact .inl ⟨0,hb,ho,List.mem_append.2 (.inl (by rw[if_pos rfl];exact hp))⟩
   ·exfalso;have h1:=lacks_of (ps:=ps) (toIn_ok hti) hn (by rw[bksL_len];exact hb) (.here (by simp[lackG,hp]));have h2:=(lacks_iff ps (bksL bs) v).2 h1;have h3:anyLack ps (bksL bs)=true:=List.any_eq_true.2 ⟨v.toNat,List.mem_range'_1.2 (by omega),by rw[show((v.toNat:Nat):Int)=v by omega];exact h2⟩;rw[hla] at h3;cases h3
 | @step b p hp hpl ih=>
   intro hb ho hn;obtain⟨hpb,hpt⟩:=(preds_mem _ b p).1 hp;rw[bksL_len] at hpb;have hno:NeedOut (bksL bs) v p:=⟨b,hpt,hn⟩
   by_cases e:ownF l p=k
   ·cases hd:defsL (bkOf (bksL bs) p).ops v with
    |true=>exact .inl ⟨p,hpb,e,def_mem hpb hv.1 hd⟩
    |false=>exact ih hpb e (needIn_out hno hd)
   ·obtain⟨x,hx,hf,ht⟩:=to_edge hti hpb hpt;refine .inr ⟨rowOf l x,mem_rows.2 ⟨x,hx,?_,?_,rfl⟩,?_⟩
    ·rw[hf,ht,Int.toNat_natCast,Int.toNat_natCast,ho];exact e
    ·unfold intoB;rw[ht,Int.toNat_natCast,ho];simp
    ·show v∈vInL _ x.to.toNat;rw[ht,Int.toNat_natCast];exact(vIn_iff hti hb).2 ⟨hv.1,hv.2,hn⟩
theorem in_live(hrt:rightB (tsOf (hOf bs)) l=true)(hti:toIn bs=true){x:EdgeD}(hx:x∈edgesL (tsOf (hOf bs)))(h:v∈vInL (bksL bs) x.to.toNat):
  (x.to.toNat<bs.length∧v∈livM bs x.to.toNat)∧x.fr.toNat<bs.length∧v∈livM bs x.fr.toNat:=by
 obtain⟨_,h1,h2⟩:=edge_to hx
 have h3:=toIn_ok hti _ (by rw[bksL_len];exact h1) _ h2
 rw[bksL_len] at h3
 have h4:=(vIn_iff hti h3).1 h
 exact⟨⟨h3,List.mem_append.2 (.inl (List.mem_append.2 (.inl h)))⟩,h1,List.mem_append.2 (.inl (List.mem_append.2 (.inr ((vOut_iff hti h1).2 ⟨h4.1,h4.2.1,_,h2,h4.2.2⟩))))⟩
theorem own_mem(hrt:rightB (tsOf (hOf bs)) l=true){f:Nat→List Int}(hb:b<bs.length)(ho:ownF l b=k)(h:v∈f b):v∈(blkM l k).flatMap f:=
 List.mem_flatMap.2 ⟨b,((mem_blkM hrt hb).2 ho).2,h⟩
theorem sets_edge(hrt:rightB (tsOf (hOf bs)) l=true)(hti:toIn bs=true){r:RowD}(hr:r∈rowsL (tsOf (hOf bs)) l fun _=>true)(h:v∈vInL (bksL bs) r.e.to.toNat):
  v∈(setM ps bs l (ownF l r.e.fr.toNat)).live∧v∈(setM ps bs l (ownF l r.e.to.toNat)).live∧v∈(setM ps bs l (ownF l r.e.fr.toNat)).out∧v∈(setM ps bs l (ownF l r.e.to.toNat)).inn:=by
 obtain⟨x,hx,hne,_,rfl⟩:=mem_rows.1 hr
 obtain⟨⟨h1,h2⟩,h3,h4⟩:=in_live hrt hti hx h
 have hv:=varsL_mem.1 h
 refine⟨risL_mem.2 ⟨hv.1,hv.2.1,own_mem hrt h3 rfl h4⟩,risL_mem.2 ⟨hv.1,hv.2.1,own_mem hrt h1 rfl h2⟩,risL_mem.2 ⟨hv.1,hv.2.1,?_⟩,risL_mem.2 ⟨hv.1,hv.2.1,?_⟩⟩
 ·exact mem_edgM.2 ⟨_,mem_rows.2 ⟨x,hx,hne,by simp[outB,rowOf],rfl⟩,h⟩
 ·exact mem_edgM.2 ⟨_,mem_rows.2 ⟨x,hx,hne,by simp[intoB,rowOf],rfl⟩,h⟩
theorem less_mem{xs ys:List Int}:v∈lessL xs ys↔v∈xs∧v∉ys:=by simp[lessL]
theorem acr_live(h:v∈acrM bs b):v∈livM bs b:=by
 obtain⟨n,hn,h⟩:=List.mem_flatMap.1 h
 rw[List.mem_range] at hn
 refine List.mem_append.2 (.inr (List.mem_flatMap.2 ⟨n+1,List.mem_range.2 (by omega),?_⟩))
 split at h
 ·split at h
  ·exact(less_mem.1 h).1
  ·cases h
 ·cases h
theorem ref_live(hb:b<bs.length)(h:v∈refM bs b):v∈livM bs b:=by
 obtain⟨x,h1,_,h3⟩:=blk_at hb
 have hv:=refM_var bs b v h
 have hi:insAt bs b=x.rs:=by unfold insAt;rw[h1]
 have he:endAt bs b=needsT x.h.t:=by unfold endAt;rw[h1]
 unfold refM at h
 rw[hi,he] at h
 refine List.mem_append.2 (.inr (List.mem_flatMap.2 ?_))
 rw[hi]
 rcases List.mem_append.1 h with h|h
 ·obtain⟨r,hr,h⟩:=List.mem_flatMap.1 h;obtain⟨n,hn,rfl⟩:=List.mem_iff_getElem.1 hr;refine⟨n,List.mem_range.2 (by omega),varsL_mem.2 ⟨hv.1,hv.2,?_⟩⟩;unfold atP;rw[h3];have:(bkL x).ops.drop n=⟨readsI x.rs[n].d,definesV x.rs[n].d⟩ :: (bkL x).ops.drop (n+1):=by
   unfold bkL;rw[List.drop_eq_getElem_cons (by simpa using hn)];simp
  rw[this];unfold aheadL;simp[h]
 ·refine⟨x.rs.length,List.mem_range.2 (by omega),varsL_mem.2 ⟨hv.1,hv.2,?_⟩⟩;unfold atP;rw[h3];have:(bkL x).ops.drop x.rs.length= []:=by unfold bkL;simp
  rw[this];unfold aheadL bkL;simp[h]
theorem sets_tile(hrt:rightB (tsOf (hOf bs)) l=true)(hti:toIn bs=true)(hal:allReach (bksL bs)=true)(hla:anyLack ps (bksL bs)=false)(hk:k<l.length):
  (∀v∈(setM ps bs l k).thr,v∈(setM ps bs l k).live)∧(∀v∈(setM ps bs l k).across,v∈(setM ps bs l k).live)∧(∀v∈(setM ps bs l k).inn,v∈(setM ps bs l k).live)∧(∀v∈(setM ps bs l k).out,v∈(setM ps bs l k).live)∧(∀v∈(setM ps bs l k).defs,v∈(setM ps bs l k).refs)∧
  (∀v∈(setM ps bs l k).live,v∈(setM ps bs l k).inn++(setM ps bs l k).defs)∧(∀v∈(setM ps bs l k).live,v∈(setM ps bs l k).refs++(setM ps bs l k).thr)∧
  ∀v∈(setM ps bs l k).refs,(v∈(setM ps bs l k).live∨v∈(setM ps bs l k).defs)∧v∉(setM ps bs l k).thr:=by
 refine⟨fun v h=>(less_mem.1 h).1,fun v h=>?_,fun v h=>?_,fun v h=>?_,fun v h=>?_,fun v h=>?_,fun v h=>?_,fun v h=>⟨?_,fun c=>?_⟩⟩
 ·obtain⟨h1,h2,h3⟩:=risL_mem.1 h;obtain⟨b,hb,h3⟩:=List.mem_flatMap.1 h3;exact risL_mem.2 ⟨h1,h2,List.mem_flatMap.2 ⟨b,hb,acr_live h3⟩⟩
 ·obtain⟨h1,h2,h3⟩:=risL_mem.1 h;obtain⟨r,hr,h3⟩:=mem_edgM.1 h3;obtain⟨x,hx,hne,ha,rfl⟩:=mem_rows.1 hr;obtain⟨⟨h4,h5⟩,_⟩:=in_live hrt hti hx h3;exact risL_mem.2 ⟨h1,h2,own_mem hrt h4 (Int.ofNat.inj (by simpa[intoB] using ha)) h5⟩
 ·obtain⟨h1,h2,h3⟩:=risL_mem.1 h;obtain⟨r,hr,h3⟩:=mem_edgM.1 h3;obtain⟨x,hx,hne,ha,rfl⟩:=mem_rows.1 hr;obtain⟨_,h4,h5⟩:=in_live hrt hti hx h3;exact risL_mem.2 ⟨h1,h2,own_mem hrt h4 (Int.ofNat.inj (by simpa[outB] using ha)) h5⟩
 ·obtain⟨h1,h2,h3⟩:=risL_mem.1 h;exact risL_mem.2 ⟨h1,h2,List.mem_append.2 (.inr h3)⟩
 ·obtain⟨h1,h2,h3⟩:=risL_mem.1 h;obtain⟨b,hb,h3⟩:=List.mem_flatMap.1 h3;have hbl:=blkM_lt hrt hk hb;have ho:=(mem_blkM hrt hbl).1 ⟨hk,hb⟩;have key:(∃c,c<bs.length∧ownF l c=k∧v∈defM ps bs c)∨∃r∈rowsL (tsOf (hOf bs)) l (intoB l k),v∈vInL (bksL bs) r.e.to.toNat:=by
   rcases liv_from hti hbl h3 with h4|h4
   ·exact need_from hti hrt hla ⟨h1,h2⟩ ((allReach_iff _).1 hal b (by rw[bksL_len];exact hbl)) hbl ho h4
   ·exact .inl ⟨b,hbl,ho,def_mem hbl h1 h4⟩
  refine List.mem_append.2 (key.symm.imp (fun h=>?_) fun⟨c,hc,hoc,hd⟩=>?_)
  ·exact risL_mem.2 ⟨h1,h2,mem_edgM.2 h⟩
  ·exact risL_mem.2 ⟨h1,h2,own_mem hrt hc hoc hd⟩
 ·by_cases hr:v∈(blkM l k).flatMap (refM bs)++(blkM l k).flatMap (defM ps bs)
  ·have hv:=risL_mem.1 h;exact List.mem_append.2 (.inl (risL_mem.2 ⟨hv.1,hv.2.1,hr⟩))
  ·exact List.mem_append.2 (.inr (less_mem.2 ⟨h,hr⟩))
 ·obtain⟨h1,h2,h3⟩:=risL_mem.1 h;rcases List.mem_append.1 h3 with h3|h3
  ·obtain⟨b,hb,h3⟩:=List.mem_flatMap.1 h3;exact .inl (risL_mem.2 ⟨h1,h2,List.mem_flatMap.2 ⟨b,hb,ref_live (blkM_lt hrt hk hb) h3⟩⟩)
  ·exact .inr (risL_mem.2 ⟨h1,h2,h3⟩)
 ·exact(less_mem.1 c).2 (risL_mem.1 h).2.2
end
end

section
open Go.RowKit
theorem among19_any(a:Option Addr)(n c:Nat)(xs:List Int)(x:Int)(w:World)(h:Ints w a n xs):Calls Tryz.prog 38 #[.slice a n c,.int .i64 x] w fun e w'=>e=.returned (.bool (decide (x∈xs)))∧w=w':=by
 have H:=Lib.hid h
 have HL:=Lib.hid h.1
 have hn:=h.2.1
 clear h
 go_enter Tryz.func38,Tryz.ntmps38
 go_wp2
 go_loopw [5] (fun i wr=>∃k:Nat,i=.int .i64 k∧k≤n∧wr=w∧Hid (∀j y,j<k→xs[j]? =some y→y≠x)) (fun i _=>n-(intOf i).toNat)
 case atStart=>exact⟨0,rfl,by omega,rfl,fun j y hj=>absurd hj (by omega)⟩
 case round=>
  obtain⟨k,rfl,hk,rfl,HM⟩:=hrel;by_cases hlt:k<n
  ·obtain⟨b,o,rfl,hc,_⟩:=H.out.2.2 k hlt;have hkx:k<xs.length:=by rw[HL.out];exact hlt
   obtain⟨y,hy⟩:∃y,xs[k]? =some y:=⟨xs[k],List.getElem?_eq_getElem hkx⟩
   have hgd:xs.getD k 0=y:=by rw[List.getD_eq_getElem?_getD,hy];rfl
   rw[hgd] at hc;have HY:=Lib.hid hy;have hlt':(k:Int)<(n:Int):=by omega
   clear hy hgd;by_cases e:y=x
   ·have HE:Hid (decide (x∈xs)=true):=by rw[Hid,decide_eq_true_eq,←e];exact List.mem_of_getElem? HY.out
    have b0:(y==x)=true:=by simpa using e
    clear e;go_wp2
    go_ret
    exact⟨by rw[HE.out];rfl,rfl⟩
   ·have b0:(y==x)=false:=by simpa using e
    have HM2:Hid (∀j z,j<k+1→xs[j]? =some z→z≠x):=fun j z hj hz=>by
     by_cases e2:j=k
     ·subst e2;rw[HY.out] at hz;cases hz;exact e
     ·exact HM.out j z (by omega) hz
    clear e;go_wp2
    go_roundw
    case rel=>exact⟨k+1,by go_num,by omega,trivial,HM2⟩
    case measure=>simp[intOf];omega
  ·have HE:Hid (decide (x∈xs)=false):=by
    rw[Hid,decide_eq_false_iff_not];intro hm;obtain⟨j,hj,e⟩:=List.mem_iff_getElem.1 hm;exact HM.out j x (by have:=HL.out;omega) (by rw[List.getElem?_eq_getElem hj,e]) rfl
   have hlt':¬(k:Int)<(n:Int):=by omega
   go_wp2
   go_ret
   exact⟨by rw[HE.out];rfl,rfl⟩
theorem within19_any(a a2:Option Addr)(n c n2 c2:Nat)(xs ys:List Int)(w:World)(h:Ints w a n xs)(h2:Ints w a2 n2 ys):
  Calls Tryz.prog 37 #[.slice a n c,.slice a2 n2 c2] w fun e w'=>e=.returned (.bool (xs.all fun x=>decide (x∈ys)))∧w=w':=by
 have H:=Lib.hid h
 have H2:=Lib.hid h2
 have HL:=Lib.hid h.1
 have hn:=h.2.1
 clear h h2
 go_enter Tryz.func37,Tryz.ntmps37
 go_wp2
 go_loopw [5] (fun i wr=>∃k:Nat,i=.int .i64 k∧k≤n∧wr=w∧Hid (∀j y,j<k→xs[j]? =some y→y∈ys)) (fun i _=>n-(intOf i).toNat)
 case atStart=>exact⟨0,rfl,by omega,rfl,fun j y hj=>absurd hj (by omega)⟩
 case round=>
  obtain⟨k,rfl,hk,rfl,HM⟩:=hrel;by_cases hlt:k<n
  ·obtain⟨b,o,rfl,hc,_⟩:=H.out.2.2 k hlt;have hkx:k<xs.length:=by rw[HL.out];exact hlt
   obtain⟨y,hy⟩:∃y,xs[k]? =some y:=⟨xs[k],List.getElem?_eq_getElem hkx⟩
   have hgd:xs.getD k 0=y:=by rw[List.getD_eq_getElem?_getD,hy];rfl
   rw[hgd] at hc;have HY:=Lib.hid hy;have hlt':(k:Int)<(n:Int):=by omega
   clear hy hgd;by_cases e:y∈ys
   ·have HE:=Lib.hid e;clear e;have HM2:Hid (∀j z,j<k+1→xs[j]? =some z→z∈ys):=fun j z hj hz=>by
     by_cases e2:j=k
     ·subst e2;rw[HY.out] at hz;cases hz;exact HE.out
     ·exact HM.out j z (by omega) hz
    go_wp2_with (go_at_call 38;refine(among19_any a2 n2 c2 ys y wr H2.out).mono ?_;rw[decide_eq_true HE.out];rintro e w1 ⟨rfl,rfl⟩)
    go_roundw
    case rel=>exact⟨k+1,by go_num,by omega,trivial,HM2⟩
    case measure=>simp[intOf];omega
   ·have HE:Hid ((xs.all fun x=>decide (x∈ys))=false):=List.all_eq_false.2 ⟨y,List.mem_of_getElem? HY.out,by simpa using e⟩;have HN:=Lib.hid e;clear e
    go_wp2_with (go_at_call 38;refine(among19_any a2 n2 c2 ys y wr H2.out).mono ?_;rw[decide_eq_false HN.out];rintro e w1 ⟨rfl,rfl⟩)
    go_ret
    exact⟨by rw[HE.out];rfl,rfl⟩
  ·have HE:Hid ((xs.all fun x=>decide (x∈ys))=true):=by
    rw[Hid,List.all_eq_true];intro y hm;obtain⟨j,hj,e⟩:=List.mem_iff_getElem.1 hm;exact decide_eq_true (HM.out j y (by have:=HL.out;omega) (by rw[List.getElem?_eq_getElem hj,e]))
   have hlt':¬(k:Int)<(n:Int):=by omega
   go_wp2
   go_ret
   exact⟨by rw[HE.out];rfl,rfl⟩
end

section
open Go.RowKit Go.Shelf
def GreatPost19(bn:Nat)(pn:Nat)(bs:List BlkR)(n:Nat)(ls:List TileR)(w:World)(e:Ending)(w':World):Prop:=
 ∃b,e=.returned (.bool b)∧Below w.heap.size w w'∧(b=false→bn≤30∧n+totL (tdOf ls)≤90∧(pn:Int)≤400∧(bs.length:Int)≤400∧∀b∈bs,BigOK 400 b)
theorem great19_any(pa:Option Addr)(pn pc:Nat)(hpn:pn≤17592186044416)(ba:Option Addr)(bn bc:Nat)(bs:List BlkR)(a:Option Addr)(n c:Nat)(ls:List TileR)(w:World)(h:BlksR w ba bn bs)(ht:TilesOK w a n ls):
  Calls Tryz.prog 7 #[funcV pa pn pc ba bn bc,.slice a n c] w (GreatPost19 bn pn bs n ls w):=by
 have HX:=Lib.hid h
 have HT:=Lib.hid ht
 have hn:=ht.1.2.1
 have HLN:=Lib.hid ht.1.1
 have hbn:=h.1.2.1
 clear h ht
 go_enter Tryz.func7,Tryz.ntmps7
 go_wp2
 go_loopw [5,6] (fun s5 s6 wr=>∃(i:Nat) (acc:Nat),s6=.int .i64 i∧s5=.int .i64 acc∧i≤n∧acc=n+totN ls i∧acc≤35184372088832∧Hid (wr=w.alloc (funcO pa pn pc ba bn bc))) (fun _ s6 _=>n-(intOf s6).toNat)
 case atStart=>exact⟨0,n,rfl,rfl,by omega,by simp[totN],by omega,rfl⟩
 case round=>
  obtain⟨i,acc,rfl,rfl,hi,hacc,hab,HW⟩:=hrel;have HBw:Hid (Below w.heap.size w wr):=by rw[Hid,HW.out];exact ext_alloc _ _
  have hk0:wr.heap[w.heap.size]? =some (funcO pa pn pc ba bn bc):=by rw[HW.out];exact heap_alloc_new _ _
  have HK:=Lib.hid hk0;have k0:wr.cell? ⟨w.heap.size,0,none⟩=some (.slice pa pn pc):=by rw[cell_of_row _ _ _ _ _ _ hk0];rfl
  have k1:wr.cell? ⟨w.heap.size,1,none⟩=some (.slice ba bn bc):=by rw[cell_of_row _ _ _ _ _ _ hk0];rfl
  clear hk0;have HTOT:Hid (i=n→totN ls i=totL (tdOf ls)):=fun e=>by subst e;exact totN_all HT.out
  by_cases hgo:i<n∧acc≤90
  ·obtain⟨hlt,hle⟩:=hgo;have hlt':(i:Int)<(n:Int):=by omega
   have hd1:decide ((i:Int)<(n:Int))=true:=by simpa using hlt
   have hd2:decide ((acc:Int)≤90)=true:=by simp;omega
   obtain⟨t,b,o,hlk,⟨hI,_⟩,rfl,c0,c1,c2⟩:=(HT.out.ext HBw.out).cells hlt;have hst:=totN_step ls i t hlk;have hb:=hI.2.1;clear c0 c1 hlk hI;go_wp2
   go_roundw
   case rel=>exact⟨i+1,n+totN ls i+t.bn,by go_num,by go_num,by omega,by omega,by omega,HW⟩
   case measure=>simp[intOf];omega
  ·have HAC:=Lib.hid hacc;have HGO:Hid (i=n∨90<acc):=by
    rcases Nat.lt_or_ge i n with h|h
    ·exact .inr (by have:¬acc≤90:=fun h2=>hgo ⟨h,h2⟩;omega)
    ·exact .inl (by omega)
   have hend:(decide ((i:Int)<(n:Int))=false∧¬(i:Int)<(n:Int))∨(decide ((i:Int)<(n:Int))=true∧(i:Int)<(n:Int)∧decide ((acc:Int)≤90)=false∧¬(acc:Int)≤90):=by
    rcases Nat.lt_or_ge i n with h|h
    ·have h2:¬acc≤90:=fun h2=>hgo ⟨h,h2⟩;exact .inr ⟨by simp;omega,by omega,by simp;omega,by omega⟩
    ·exact .inl ⟨by simp;omega,by omega⟩
   clear hacc hgo;rcases hend with ⟨hd1,hd1'⟩|⟨hd1,hd1',hd2,hd2'⟩
   all_goals
    go_wp2_with (
     (go_at_call 42
      refine(funcOf_any2 pa pn pc hpn ba bn bc bs 400 (by omega) (by omega) wr (HX.out.ext HBw.out)).mono ?_;rintro e w2 ⟨z,rfl,hz0,hz1,hz2,hb2⟩;have HB2:=Lib.hid (ext_trans HBw.out hb2);have HZ:=Lib.hid hz2
      clear hb2 hz2))
   all_goals
    go_ret
    first
     |exact⟨_,rfl,HBw.out,fun h=>by first|cases h|(simp at h;done)|(simp at h;omega)⟩
     |exact⟨_,rfl,HB2.out,fun h=>by first|cases h|(simp at h;done)|(simp at h;omega)⟩
     |exact⟨_,rfl,HB2.out,fun h=>⟨by first|omega|(simp at h;omega),by have:=HTOT.out;have:=HAC.out;have:=HGO.out;first|omega|(simp at h;omega),HZ.out (by first|(simp at h;done)|(simp at h;omega))⟩⟩
end

section
open Go.RowKit
section
variable {P:Program} {l:List Oper} {S S':World→Prop} {Q:Exit→Act→World→Prop}
theorem z_mono(h:∀w,S' w→S w):∀{fuel:Nat} {listed:Array Bool} {a:Act} {w:World},wpAnyZ P l Q S' fuel listed a w→wpAnyZ P l Q S fuel listed a w
 |0,_,_,_,hz=>hz
 |_+1,_,_,_,hz=>⟨hz.1,fun i hi=>wpOp_mono (fun _ _ h'=>⟨h'.1.imp id (h _),z_mono h h'.2⟩) (hz.2 i hi)⟩
theorem z_later{W W':World}(h:Below W.heap.size W W'){fuel:Nat}{listed:Array Bool}{a:Act}{w:World}(hz:wpAnyZ P l Q (fun w'=>∃n:ExtW W',w'=n.val) fuel listed a w):wpAnyZ P l Q (fun w'=>∃n:ExtW W,w'=n.val) fuel listed a w:=
 z_mono (fun _ hn=>by obtain⟨n,rfl⟩:=hn;exact⟨⟨n.val,ext_trans h n.ext⟩,rfl⟩) hz
end
end
end Go.Proofs.YthgebcfohnlhlaaGreatDoor
