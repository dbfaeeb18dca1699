/-
 Edge:over,where tiles are right.
-/
import Derived.Test.YtnmkjliioogbgaaGreatDoorEE
namespace Go.Proofs.YtnmkjliioogbgaaGreatDoor
set_option linter.unusedSimpArgs false
set_option linter.unusedVariables false
set_option linter.unusedSectionVars false
set_option maxRecDepth 100000
set_option maxHeartbeats 40000000
section
open Go.RowKit Go.Shelf
attribute [local go_sem] Oper.semAt_some wide_fn wide_depth wide_fnR wide_depthR
theorem right_fits{ts:List TermD}{l:List TileD}(h:rightB ts l=true):fitsB ts=true:=by
 simp only[rightB,Bool.and_eq_true] at h;exact h.1.1.1.1.1
theorem right_parents{ts:List TermD}{l:List TileD}(h:rightB ts l=true):parentsB l=true:=by
 simp only[rightB,Bool.and_eq_true] at h;exact h.1.1.1.2
theorem right_own{ts:List TermD}{l:List TileD}(h:rightB ts l=true):ownB l ts.length=true:=by
 simp only[rightB,Bool.and_eq_true] at h;exact h.1.1.2
theorem right_len{ts:List TermD}{l:List TileD}(h:rightB ts l=true):l.length≤200:=by
 simp only[rightB,Bool.and_eq_true,decide_eq_true_eq] at h;exact h.1.1.1.1.2
theorem op_mapUpdate{P:Program}{Q:Exit→Act→World→Prop}{o:Oper}{K:Act→World→Prop}{a:Act}{w w':World}(t:TypeId)(m k x:Operand)(ho:o.op=.mapUpdate t m k x)
  (hrun:(Instr.mapUpdate t (a.eval m) (a.eval k) (a.eval x)).run P w=.ok () w') (h:K (a.put o.dst undef) w'):o.wp P a w K Q:=by
 unfold Oper.wp execOp
 simp only[ho,Sem.run_bind,hrun,Result.andThen,Sem.run_pure]
 exact h
theorem unDrew{w w2:World}{row:Option Nat}(h:w.drew.grownBy w2 row):w.grownBy w2 row:=⟨h.os,h.tape,h.output,h.size,h.block⟩
theorem grown_trans{a b c:World}{row row':Option Nat}(h:a.grownBy b row)(k:b.grownBy c row')(hr:row'=row∨∀q,row'=some q→a.heap.size≤q):a.grownBy c row:=by
 refine⟨k.os.trans h.os,k.tape.trans h.tape,k.output.trans h.output,Nat.le_trans h.size k.size,fun q hq hne=>?_⟩
 rw[k.block q (Nat.lt_of_lt_of_le hq h.size) ?_,h.block q hq hne]
 intro e
 rcases hr with hr|hr
 ·exact hne (hr▸e)
 ·have:=hr q e.symm;omega
theorem grown_below{a b:World}(h:Below a.heap.size a b)(row:Option Nat):a.grownBy b row:=⟨h.os,h.tape,h.output,h.size,fun k hk _=>h.block k hk⟩
theorem grown_setRow(w:World)(g:Nat)(cs:Array Value):w.grownBy (w.setRow g cs) (some g):=⟨rfl,rfl,rfl,by simp[World.setRow],fun k _ hne=>setRow_other w g k cs (fun e=>hne (by rw[e]))⟩
abbrev nilI:Value:=.slice none 0 0
def MK(base M:Nat)(l:List TileD)(k D:Nat)(d:List Int)(f:Int→Option Value)(W:World):Prop:=
 IMap W M f∧(∀b:Nat,b<k→∃a c,f b=some (.slice a (inL l b).length c)∧OwnI W base (.slice a (inL l b).length c) (inL l b)∧∀q,(Value.slice a (inL l b).length c).ownBlock=some q→q<D)∧
  (∀b:Nat,k<b→f b=none)∧OwnI W D ((f k).getD nilI) d∧M<base∧base≤D∧D≤W.heap.size
def MJ2(base M:Nat)(l:List TileD)(k:Nat)(W:World):Prop:=
 ∃f,IMap W M f∧(∀b:Nat,b<k→∃a c,f b=some (.slice a (inL l b).length c)∧OwnI W base (.slice a (inL l b).length c) (inL l b))∧(∀b:Nat,k≤b→f b=none)∧M<base∧base≤W.heap.size
theorem MJ2.start{base M:Nat}{l:List TileD}{k:Nat}{W:World}(h:MJ2 base M l k W):∃f,MK base M l k W.heap.size [] f W:=by
 obtain⟨f,h1,h2,h3,h4,h5⟩:=h
 refine⟨f,h1,fun b hb=>?_,fun b hb=>h3 b (by omega),?_,h4,h5,Nat.le_refl _⟩
 ·obtain⟨a,c,e,ho⟩:=h2 b hb;exact⟨a,c,e,ho,fun q hq=>(ho.1.lt q hq).2⟩
 ·rw[h3 k (Nat.le_refl _)];exact OwnI.nil _ _
theorem MK.fin{base M:Nat}{l:List TileD}{k D:Nat}{f:Int→Option Value}{W:World}(h:MK base M l k D (inL l k) f W)(hne:inL l k≠[]):MJ2 base M l (k+1) W:=by
 obtain⟨h1,h2,h3,h4,h5,h6,h7⟩:=h
 refine⟨f,h1,fun b hb=>?_,fun b hb=>h3 b (by omega),h5,by omega⟩
 by_cases e:b=k
 ·subst e;cases e:f b with
  |none=>
   rw[e] at h4;obtain⟨a,c,e2⟩:=h4.form;injection e2 with _ e3 _;exact absurd (List.eq_nil_of_length_eq_zero e3.symm) hne
  |some v=>
   rw[e] at h4;obtain⟨a,c,e2⟩:=h4.form;simp only[Option.getD_some] at e2;subst e2;exact⟨a,c,rfl,h4.mono h6⟩
 ·obtain⟨a,c,e2,ho,_⟩:=h2 b (by omega);exact⟨a,c,e2,ho⟩
theorem MK.step{base M:Nat}{l:List TileD}{k D:Nat}{d:List Int}{f:Int→Option Value}{W W':World}(h:MK base M l k D d f W)(x:Int)(hx:I64 x)(g cap:Nat)
  (hown:W'.ownsRow D 3 1 (.slice (some ⟨g,0,none⟩) (d.length+1) cap) (d.length+1) (intVals d++ [.int .i64 x])) (hg:W.grownBy W' ((f k).getD nilI).ownBlock) (o:Obj)
  (him:IMap (W'.putObj M o) M (upd f k (.slice (some ⟨g,0,none⟩) (d.length+1) cap))) (hl:d.length<1000000):
  MK base M l k D (d++ [x]) (upd f k (.slice (some ⟨g,0,none⟩) (d.length+1) cap)) (W'.putObj M o):=by
 obtain⟨h1,h2,h3,h4,h5,h6,h7⟩:=h
 have hgp:=grownBy_putObj' W' M o
 have hrow:∀q,((f k).getD nilI).ownBlock=some q→D≤q:=fun q hq=>(h4.1.lt q hq).1
 have hgD:D≤g:=(hown.lt g rfl).1
 refine⟨him,fun b hb=>?_,fun b hb=>?_,?_,h5,h6,?_⟩
 ·obtain⟨a,c,e,ho,hq⟩:=h2 b hb;refine⟨a,c,?_,?_,hq⟩
  ·simp only[upd];rw[if_neg (by omega)];exact e
  ·refine(ho.kept hg ?_).kept hgp ?_
   ·cases e1:(Value.slice a (inL l b).length c).ownBlock with
    |none=>exact .inl rfl
    |some q=>
     refine .inr fun e2=>?_;have:=hrow q e2.symm;have:=hq q e1;omega
   ·cases e1:(Value.slice a (inL l b).length c).ownBlock with
    |none=>exact .inl rfl
    |some q=>
     refine .inr fun e2=>?_;have:=(ho.1.lt q e1).1;injection e2 with e2;omega
 ·simp only[upd];rw[if_neg (by omega)];exact h3 b hb
 ·have e:(upd f (k:Int) (.slice (some ⟨g,0,none⟩) (d.length+1) cap) (k:Int)).getD nilI=.slice (some ⟨g,0,none⟩) (d.length+1) cap:=by simp[upd]
  rw[e];refine OwnI.kept (w:=W') ⟨?_,?_,?_⟩ hgp (.inr fun e=>?_)
  ·have:intVals (d++ [x])=intVals d++ [.int .i64 x]:=by simp[intVals]
   rw[this,List.length_append];exact hown
  ·intro z hz;rcases List.mem_append.1 hz with hz|hz
   ·exact h4.2.1 z hz
   ·have:z=x:=by simpa using hz
    subst this;exact hx
  ·simp;omega
  ·simp only[Value.ownBlock,Option.some.injEq] at e;omega
 ·have:=hg.size;have:=hgp.size;omega
def NFo(A M:Nat)(f:Int→Option Value)(W:World):Prop:=W.cell? ⟨A,2,none⟩=some (.map (some M))∧IMap W M f
theorem NFo.ext{A M:Nat}{f:Int→Option Value}{W W':World}(h:NFo A M f W)(hb:Below W.heap.size W W'):NFo A M f W':=⟨cell_ext hb h.1,h.2.ext hb⟩
theorem overE_yes(pa:Option Addr)(pn pc:Nat)(ba:Option Addr)(bn bc:Nat)(bs:List BlkH)(a:Option Addr)(n c:Nat)(ls:List TileR)(w:World)(h:BlksOK w ba bn bs)(ht:TilesOK w a n ls)(hT:totL (tdOf ls)≤1000000)(hr:rightB (tsOf bs) (tdOf ls)=true):
  Calls Tryz.prog 143 #[funcV pa pn pc ba bn bc,.slice a n c] w (OverEPost (tsOf bs) (tdOf ls) bn a n c w):=by
 have H:=Lib.hid h
 have HT:=Lib.hid ht
 clear h ht
 go_enter Tryz.func143,Tryz.ntmps143
 go_upto_region 1 with (fail)
 obtain⟨W,hW⟩:∃W,W=(w.alloc (funcO pa pn pc ba bn bc)).alloc (aroundO none 0 0 (.slice none 0 0) none):=⟨_,rfl⟩
 rw[←hW]
 have hk0:W.heap[w.heap.size]? =some (funcO pa pn pc ba bn bc):=by rw[hW];exact block_ext (ext_alloc _ _) (heap_alloc_new _ _)
 have hk1:W.heap[w.heap.size+1]? =some (aroundO none 0 0 (.slice none 0 0) none):=by rw[hW];have:=heap_alloc_new (w.alloc (funcO pa pn pc ba bn bc)) (aroundO none 0 0 (.slice none 0 0) none);simpa using this
 have hB:Below w.heap.size w W:=by rw[hW];exact ext_trans (ext_alloc _ _) (ext_alloc _ _)
 have HK:=Lib.hid hk0
 have HX:=Lib.hid hk1
 have HB:=Lib.hid hB
 clear hW hk0 hk1 hB
 have hf:=right_fits hr
 have HE:Hid (overErr (tsOf bs) (tdOf ls)=0):=by simp[Hid,overErr,hf,hr]
 have hmm:= @run_makeMap Tryz.prog
 have HF:=Lib.hid hf
 have HR:=Lib.hid hr
 clear hf hr
 go_upto_region 6 with (first
  |(refine wpList_load_row (o:=⟨some 8,.load 40 _,_,_,_,_⟩) rfl 40 _ rfl w.heap.size rfl 40 _ (0,0) _ HK.out Tryz.underlying40 rfl size_func ?_)
  |(refine wpList_store_row (o:=⟨none,.store 227 _ _,_,_,_,_⟩) rfl 227 _ _ rfl (w.heap.size+1) #[.slice a n c,.slice none 0 0,.map (some w3.heap.size)] rfl rfl 227 _ (block_ext (ext_alloc _ _) HX3.out) size_around rfl (by simp[Value.oneCell']) ?_)
  |(go_at_call 42
    refine(tright_any pa pn pc ba bn bc bs a n c ls w2 (H.out.ext HB2.out) (HT.out.ext HB2.out) hT).mono ?_;rintro e w3 ⟨rfl,hb⟩;rw[HR.out];have HK3:=Lib.hid (block_ext hb HK2.out);have HX3:=Lib.hid (block_ext hb HX2.out);have HB3:=Lib.hid (ext_trans HB2.out hb)
    clear hb)
  |(refine wpList_load_row (o:=⟨some 12,.load 40 _,_,_,_,_⟩) rfl 40 _ rfl w.heap.size rfl 40 _ (0,0) _ HK2.out Tryz.underlying40 rfl size_func ?_)
  |(go_at_call 170
    refine(tfits_any pa pn pc ba bn bc bs W (H.out.ext HB.out)).mono ?_;rintro e w2 ⟨rfl,hb⟩;rw[HF.out];have HK2:=Lib.hid (block_ext hb HK.out);have HX2:=Lib.hid (block_ext hb HX.out);have HB2:=Lib.hid (ext_trans HB.out hb)
    clear hb))
 obtain⟨W5,hW5⟩:∃W5,W5=(w3.alloc (.map #[] 0)).setRow (w.heap.size+1) #[.slice a n c,.slice none 0 0,.map (some w3.heap.size)]:=⟨_,rfl⟩
 rw[←hW5]
 have hA3:w.heap.size+1<w3.heap.size:=(Array.getElem?_eq_some_iff.1 HX3.out).1
 have hk5:W5.heap[w.heap.size]? =some (funcO pa pn pc ba bn bc):=by rw[hW5,setRow_other _ _ _ _ (by omega)];exact block_ext (ext_alloc _ _) HK3.out
 have hx5:W5.heap[w.heap.size+1]? =some (aroundO a n c (.slice none 0 0) (some w3.heap.size)):=by rw[hW5];exact setRow_heap _ _ _ _ _ _ (block_ext (ext_alloc _ _) HX3.out)
 have hm5:IMap W5 w3.heap.size (fun _=>none):=by rw[hW5];exact(IMap.made w3).of_block (setRow_other _ _ _ _ (by omega))
 have hB5:Below w.heap.size w W5:=by rw[hW5];exact below_setRow (ext_trans HB3.out (ext_alloc _ _)) (by omega) _
 have hs5:w3.heap.size<W5.heap.size:=hm5.lt
 generalize w3.heap.size=M at*
 have HK5:=Lib.hid hk5
 have HX5:=Lib.hid hx5
 have HM5:=Lib.hid hm5
 have HB5:=Lib.hid hB5
 clear hW5 hk5 hx5 hm5 hB5 HK3 HX3 HB3 HK2 HX2 HB2 HK HX HB
 go_upto_region 7 with (first
  |(refine wpList_load_row (o:=⟨some 21,.load 40 _,_,_,_,_⟩) rfl 40 _ rfl w.heap.size rfl 40 _ (0,0) _ HK5.out Tryz.underlying40 rfl size_func ?_)
  |(go_at_call 171
    refine(town_any pa pn pc ba bn bc bs a n c ls W5 (H.out.ext HB5.out) (HT.out.ext HB5.out)).mono ?_;rintro e w6 ⟨v,en,rfl,hb6,_,_,h3⟩;obtain⟨rfl,g,cc,rfl,ho⟩:=h3 HF.out (by have:=right_own HR.out;rw[show(tsOf bs).length=bn by rw[tsOf_len];exact H.out.1.1] at this;exact this);have hx6:=block_ext hb6 HX5.out;have x1:w6.cell? ⟨w.heap.size+1,1,none⟩=some (.slice none 0 0):=(by rw[cell_of_row _ _ _ _ _ _ hx6];rfl)
    have f1:w6.frozen? ⟨w.heap.size+1,1,none⟩=false:=frozen_of_row _ _ _ _ _ hx6;have hg5:W5.heap.size≤g:=(ho.1.lt g rfl).1;have HX6:=Lib.hid hx6;have HM6:=Lib.hid (HM5.out.ext hb6);have HB6:=Lib.hid (ext_trans HB5.out hb6);have HO6:=Lib.hid ho
    clear hb6 hx6 ho h3))
 obtain⟨W7,hW7⟩:∃W7,W7=w6.setCell ⟨w.heap.size+1,1,none⟩ (.slice (some ⟨g,0,none⟩) bn cc):=⟨_,rfl⟩
 rw[←hW7]
 have hx7:W7.heap[w.heap.size+1]? =some (aroundO a n c (.slice (some ⟨g,0,none⟩) bn cc) (some M)):=by
  rw[hW7];have:=heap_setCell_same w6 (w.heap.size+1) 1 _ _ (.slice (some ⟨g,0,none⟩) bn cc) HX6.out;simpa using this
 have hm7:IMap W7 M (fun _=>none):=by rw[hW7];exact HM6.out.setCell _ _
 have hB7:Below w.heap.size w W7:=by rw[hW7];exact HB6.out.setCell (by show w.heap.size≤w.heap.size+1;omega) _
 have ho7:OwnI W7 W5.heap.size (.slice (some ⟨g,0,none⟩) bn cc) (ownL (tdOf ls) bn):=by
  rw[hW7];exact HO6.out.kept (grown_setCell w6 (w.heap.size+1) 1 _) (.inr (by simp[Value.ownBlock];omega))
 have hJ7:MJ2 W7.heap.size M (tdOf ls) 0 W7:=⟨_,hm7,fun b hb=>absurd hb (by omega),fun _ _=>rfl,hm7.lt,Nat.le_refl _⟩
 have hx71:W7.cell? ⟨w.heap.size+1,1,none⟩=some (.slice (some ⟨g,0,none⟩) bn cc):=by rw[cell_of_row _ _ _ _ _ _ hx7];rfl
 have hMg:M≠g:=by omega
 have HX7:=Lib.hid hx7
 have HO7:=Lib.hid ho7
 have HB7:=Lib.hid hB7
 have HJ7:=Lib.hid hJ7
 have HG5:=Lib.hid hg5
 have HPAR:=Lib.hid (right_parents HR.out)
 have HLN:Hid ((tdOf ls).length=n):=by rw[Hid,tdOf_len];exact HT.out.1.1
 have hbn:(tsOf bs).length=bn:=by rw[tsOf_len];exact H.out.1.1
 have hbn2:bn≤200:=by rw[←hbn];exact((goodB_iff _).1 (fits_good HF.out)).1.2
 have hn2:n≤200:=by rw[←HLN.out];exact right_len HR.out
 have HOW:Hid (ownB (tdOf ls) bn=true):=by have:=right_own HR.out;rw[hbn] at this;exact this
 clear hW7 hx7 hm7 hB7 ho7 hJ7 HX6 HM6 HB6 HO6 hbn hg5 x1 f1
 go_wp2
 go_loopw [6,7,30] (fun _ _ i wr=>∃k:Nat,i=.int .i64 k∧k≤bn∧Hid (W7.grownBy wr (some M))∧Hid (MJ2 W7.heap.size M (tdOf ls) k wr)) (fun _ _ i _=>bn-(intOf i).toNat)
 case atStart=>exact⟨0,rfl,by omega,grown_refl _ _,HJ7⟩
 case round=>
  obtain⟨k,rfl,hk,HGR,HJ⟩:=hrel;clear HJ7 hx71;by_cases hlt:k<bn
  ·have hor:OwnI wr W5.heap.size (.slice (some ⟨g,0,none⟩) bn cc) (ownL (tdOf ls) bn):=HO7.out.kept HGR.out (.inr (by simp[Value.ownBlock];exact fun e=>hMg e.symm));obtain⟨b0,o0,e0,hck,_⟩:=hor.ints.2.2 k hlt;injection e0 with e0;injection e0 with e1 e2;subst e1 e2;have hv:(ownL (tdOf ls) bn).getD k 0=(ownF (tdOf ls) k:Int):=by
    have:(List.range bn)[k]? =some k:=by rw[List.getElem?_range hlt]
    simp[ownL,List.getD_eq_getElem?_getD,this]
   rw[hv,Nat.zero_add] at hck;have hlt':(k:Int)<(bn:Int):=by omega
   have how:=own_lt HOW.out hlt;rw[HLN.out] at how;have HIN:Hid (inL (tdOf ls) k= []++chainL (tdOf ls) (ownF (tdOf ls) k:Int)):=by simp[Hid,inL]
   have HLEN:Hid ((inL (tdOf ls) k).length≤200):=by
    have:=inL_len HPAR.out (k:Int) (by simpa using (by rw[HLN.out];exact how));rw[HLN.out] at this;rw[Hid];omega
   have HNE:Hid (inL (tdOf ls) k≠[]):=by
    rw[Hid,inL,Int.toNat_natCast,chainL_step HPAR.out (by omega) (by rw[HLN.out];omega)];simp
   have HST:=Lib.hid HJ.out.start;clear hor hv HJ;generalize ownF (tdOf ls) k=q0 at *;go_wp2;obtain⟨wo,rfl⟩:∃wo:World,wo=wr:=⟨_,rfl⟩
   go_loopw [7] (fun kk wi=>∃(x:Int) (d:List Int),kk=.int .i64 x∧-1≤x∧x<n∧Hid (inL (tdOf ls) k=d++chainL (tdOf ls) x)∧Hid (∃f,MK W7.heap.size M (tdOf ls) k wo.heap.size d f wi)∧Hid (wo.grownBy wi (some M))) (fun kk _=>(intOf kk+1).toNat)
   case atStart=>exact⟨(q0:Int),[],rfl,by omega,by omega,HIN,HST,grown_refl _ _⟩
   case round=>
    obtain⟨x,d,rfl,hx0,hxn,HC,HMK,HGI⟩:=hrel;by_cases hneg:x<0
    ·obtain rfl:x= -1:=by omega
     have HD:Hid (inL (tdOf ls) k=d):=by have:=HC.out;rw[chainL_end _ (by omega),List.append_nil] at this;exact this
     have HJ2:Hid (MJ2 W7.heap.size M (tdOf ls) (k+1) wr):=by
      obtain⟨f,hf⟩:=HMK.out;rw[←HD.out] at hf;exact hf.fin HNE.out
     have HG2:=Lib.hid (grown_trans HGR.out HGI.out (.inl rfl));clear HMK HC HD;go_wp2
     go_roundw
     case rel=>exact⟨k+1,by go_num,by omega,HG2,HJ2⟩
     case measure=>simp[intOf];omega
    ·obtain⟨y,rfl⟩:∃y:Nat,x=y:=⟨x.toNat,by omega⟩
     obtain⟨f,hmk⟩:=HMK.out;have hyn:y<n:=by omega
     obtain⟨t,b,o,hlk,⟨hI,hcap,hI1,hI2⟩,rfl,c0,c1,c2⟩:=HT.out.cells hyn;have htd:=tdOf_at ls y t hlk;have hpar:=(parentsB_iff _).1 HPAR.out y (by rw[HLN.out];exact hyn);have hcs:=HC.out;rw[chainL_step HPAR.out (by omega) (by rw[HLN.out];omega),Int.toNat_natCast] at hcs;rw[parL,htd] at hpar hcs;have HCS:Hid (inL (tdOf ls) k=(d++ [(y:Int)])++chainL (tdOf ls) t.d.parent):=by rw[Hid,hcs];simp
     have hdl:d.length≤200:=by have:=HLEN.out;rw[hcs,List.length_append] at this;omega
     have hB9:Below w.heap.size w wr:=HB7.out.grown (grown_trans HGR.out HGI.out (.inl rfl)) HB7.out.size (fun q e=>by injection e with e;omega);have hx9:wr.heap[w.heap.size+1]? =some (aroundO (some ⟨b,o,none⟩) n c (.slice (some ⟨g,0,none⟩) bn cc) (some M)):=((grown_trans HGR.out HGI.out (.inl rfl)).block _ (Array.getElem?_eq_some_iff.1 HX7.out).1 (fun e=>by injection e with e;omega)).trans HX7.out;have hnf:NFo (w.heap.size+1) M f wr:=⟨by rw[cell_of_row _ _ _ _ _ _ hx9];rfl,hmk.1⟩
     have HF9:=Lib.hid hnf;have HMK9:=Lib.hid hmk;have HB9:=Lib.hid hB9;have C1:=Lib.hid c1;have hy0:¬(y:Int)<0:=by omega
     have hy1:(0:Int)≤(y:Int):=by omega
     have hpr1:=hpar.1;have hpr2:=hpar.2;clear hmk hnf hx9 hB9 hcs hpar c0 c1 c2 hlk hI hcap hI1 hI2 HMK HC hneg;go_wp2;refine region_mix (fun w'=>∃n:ClsW (NFo (w.heap.size+1) M f),w'=n.val) [(0,8,some (8,true)),(9,0,some (9,true)),(10,0,some (10,false))] (by kernel_rfl) (by kernel_rfl) (cls_mk (HF9.out.ext (ext_drewN (Below.refl _ _) 1))) ?_;simp only[wpMix,List.take_succ_cons,List.take_zero,List.drop_succ_cons,List.drop_zero];have hne:Nonempty (ClsW (NFo (w.heap.size+1) M f)):=cls_ne HF9.out;have g1:∀n:ClsW (NFo (w.heap.size+1) M f),n.val.cell? ⟨w.heap.size+1,2,none⟩=some (.map (some M)):=fun n=>n.prop.1
     have g4:∀n:ClsW (NFo (w.heap.size+1) M f),(Instr.lookup 225 (.map (some M)) (.int .i64 (k:Int)) false).run Tryz.prog n.val=.ok ((f k).getD nilI) n.val:=
      fun n=>IMap.look n.prop.2 Tryz.underlying225 Tryz.underlying3 (zero_ints _) k
     repeat (go_big_quiet_step (fail))
     refine wpQuiet_nil ?_;clear g1 g4 hne;refine wpOp_at rfl rfl ?_;go_simp;refine⟨cls_mk (HF9.out.ext (ext_drewN (ext_alloc _ _) 1)),?_⟩;refine wpQuiet_nil ?_;refine wpOp_at rfl rfl ?_;refine op_append1 wr.drew (.tmp 48) (.tmp 50) 22 3 rfl wo.heap.size _ 1 8 Tryz.underlying22 infoI rfl (by omega) ((f k).getD nilI) d.length (intVals d) [.int .i64 (y:Int)] rfl HMK9.out.2.2.2.1.1 wr.heap.size rfl rfl rfl (by simp[Value.oneCell']) (by simp only[maxLen];omega) (by omega) HMK9.out.2.2.2.2.2.2 ?_;intro gg cap w8 hown8 hg8 hat8;have hg8:=unDrew hg8;have hMb:=HMK9.out.2.2.2.2.1;have hbD:=HMK9.out.2.2.2.2.2.1;have hrow:∀q,((f k).getD nilI).ownBlock=some q→wo.heap.size≤q:=fun q hq=>(HMK9.out.2.2.2.1.1.lt q hq).1;have hA9:w.heap.size+1<wr.heap.size:=World.block_lt_of_cell? _ _ HF9.out.1;have hAM:w.heap.size+1<M:=by omega
     have hm8:IMap w8 M f:=HMK9.out.1.grown hg8 (fun e=>by have:=hrow M e.symm;omega);have hx8:w8.cell? ⟨w.heap.size+1,2,none⟩=some (.map (some M)):=(cell_heap (hg8.block _ hA9 (fun e=>by have:=hrow _ e.symm;omega))).trans HF9.out.1;refine⟨cls_mk ⟨hx8,hm8⟩,?_⟩;refine wpQuiet_nil ?_;refine wpOp_at rfl rfl ?_;obtain⟨o2,hrun,him⟩:=hm8.put (P:=Tryz.prog) Tryz.underlying225 Tryz.underlying3 (k:Int) (.slice (some ⟨gg,0,none⟩) (d.length+1) cap);refine op_mapUpdate 225 (.tmp 43) (.tmp 44) (.tmp 51) rfl hrun ?_;have HMKN:=Lib.hid (HMK9.out.step (y:Int) (by unfold I64;omega) gg cap hown8 hg8 o2 him (by omega));have HGN:=Lib.hid (grown_trans (grown_trans HGI.out hg8 (.inr hrow)) (grownBy_putObj' w8 M o2) (.inl rfl));have HBN:Hid (Below w.heap.size w (w8.putObj M o2)):=HB7.out.grown (grown_trans HGR.out HGN.out (.inl rfl)) HB7.out.size (fun q e=>by injection e with e;omega);clear hrun him hx8 hm8 hat8 hg8 hown8 hrow hA9 HMK9 HF9;generalize w8.putObj M o2=w9 at *;have c1:=cell_ext HBN.out C1.out;refine NoPanic.normal ?_;simp only[Act.put,List.setIfInBounds_toArray,List.set_cons_succ,List.set_cons_zero];go_wp2
     go_roundw
     case rel=>exact⟨t.d.parent,d++ [(y:Int)],rfl,hpr1,by omega,HCS,⟨_,HMKN.out⟩,HGN⟩
     case measure=>simp[intOf];omega
  ·obtain rfl:k=bn:=by omega
   have hxr:wr.heap[w.heap.size+1]? =some (aroundO a n c (.slice (some ⟨g,0,none⟩) k cc) (some M)):=(HGR.out.block _ (Array.getElem?_eq_some_iff.1 HX7.out).1 (fun e=>by injection e with e;omega)).trans HX7.out;have HXR:=Lib.hid hxr;have hBr:Below w.heap.size w wr:=HB7.out.grown HGR.out HB7.out.size (fun q e=>by injection e with e;omega);have HBR:=Lib.hid hBr;have HOR:=Lib.hid (HO7.out.kept HGR.out (.inr (by simp[Value.ownBlock];exact fun e=>hMg e.symm)));clear hxr hBr
   go_wp2_with (first
    |(refine wpList_load_row (o:=⟨some 53,.load 227 _,_,_,_,_⟩) rfl 227 _ rfl (w.heap.size+1) rfl 227 _ (0,0) _ HXR.out Tryz.underlying227 rfl size_around ?_)
    |(refine wpList_store_row (o:=⟨none,.store 227 _ _,_,_,_,_⟩) rfl 227 _ _ rfl (w.heap.size+1) #[.slice a n c,.slice (some ⟨g,0,none⟩) k cc,.map (some M)] rfl rfl 227 _ HXR.out size_around rfl (by simp[Value.oneCell']) ?_))
   have hl:=run_loadVar_row (P:=Tryz.prog) _ (w.heap.size+1) 227 227 _ (0,0) _ (setRow_heap _ _ _ #[.slice a n c,.slice (some ⟨g,0,none⟩) k cc,.map (some M)] _ _ HXR.out) Tryz.underlying227 rfl size_around;refine bodyPost_ret (v:=.tuple #[.agg #[.slice a n c,.slice (some ⟨g,0,none⟩) k cc,.map (some M)],.int .i64 0]) ?_ rfl ⟨_,by rw[HE.out],rfl,by simp[Value.oneCell'],below_setRow HBR.out (by omega) _,fun h=>(by rw[HR.out] at h;cases h),fun _=>⟨g,cc,M,rfl,?_,by have:=HG5.out;have:=HJ.out.choose_spec.2.2.2.1;omega,?_⟩⟩
   ·simp[results,Tryz.results143,asAddr,Act.put,hl]
   ·exact(HOR.out.kept (grown_setRow wr (w.heap.size+1) _) (.inr (by simp[Value.ownBlock];have:=HG5.out;omega))).ints
   ·obtain⟨f,h1,h2,_,h4,_⟩:=HJ.out;refine⟨f,h1.grown (grown_setRow wr (w.heap.size+1) _) (by simp;omega),by omega,fun b hb=>?_⟩;obtain⟨av,cv,e,ho⟩:=h2 b hb;refine⟨av,cv,e,(ho.kept (grown_setRow wr (w.heap.size+1) _) ?_).ints,fun q o e=>by have:=Far.own ho q o e;omega⟩;cases e1:(Value.slice av (inL (tdOf ls) b).length cv).ownBlock with
    |none=>exact .inl rfl
    |some q=>
     refine .inr fun e2=>?_;injection e2 with e2;have:=(ho.1.lt q e1).1;omega
theorem overE_any(pa:Option Addr)(pn pc:Nat)(ba:Option Addr)(bn bc:Nat)(bs:List BlkH)(a:Option Addr)(n c:Nat)(ls:List TileR)(w:World)(h:BlksOK w ba bn bs)(ht:TilesOK w a n ls)(hT:totL (tdOf ls)≤1000000):
  Calls Tryz.prog 143 #[funcV pa pn pc ba bn bc,.slice a n c] w (OverEPost (tsOf bs) (tdOf ls) bn a n c w):=by
 cases hr:rightB (tsOf bs) (tdOf ls) with
 |false=>exact overE_no pa pn pc ba bn bc bs a n c ls w h ht hT hr
 |true=>exact overE_yes pa pn pc ba bn bc bs a n c ls w h ht hT hr
end
end Go.Proofs.YtnmkjliioogbgaaGreatDoor
