/-
 Edge:besides (which tiles a block lies in,and another one not).
-/
import Derived.Test.YtnmkjliioogbgaaGreatDoorEF
import Derived.Test.YtnmkjliioogbgaaGreatDoorSB
import Derived.Test.YtnmkjliioogbgaaGreatDoorTH
namespace Go.Proofs.YtnmkjliioogbgaaGreatDoor
set_option linter.unusedSimpArgs false
set_option linter.unusedVariables false
set_option linter.unusedSectionVars false
set_option maxRecDepth 100000
set_option maxHeartbeats 40000000
section
open Go.RowKit Go.Shelf
attribute [local go_sem] Oper.semAt_some wide_fn wide_depth wide_fnR wide_depthR
def besTo(l:List TileD)(b o:Int)(j:Nat):List Int:=((inL l b).take j).filter fun k=> !(inL l o).contains k
theorem besTo_step(l:List TileD)(b o:Int)(j:Nat)(h:j<(inL l b).length):besTo l b o (j+1)=besTo l b o j++if (inL l o).contains ((inL l b).getD j 0) then [] else [(inL l b).getD j 0]:=by
 rw[besTo,besTo,List.take_add_one,List.getElem?_eq_getElem h,Option.toList_some,List.filter_append]
 congr 1
 have e:(inL l b).getD j 0=(inL l b)[j]:=by simp[List.getD_eq_getElem?_getD,h]
 rw[e,List.filter_cons,List.filter_nil]
 cases (inL l o).contains (inL l b)[j]<;>rfl
theorem besides_any(l:List TileD)(n:Nat)(a:Option Addr)(ln lc:Nat)(v:Value)(b o:Nat)(hb:b<n)(ho:o<n)(w:World)(base:Nat)(h:AroundOK w base l n a ln lc v)(hl:(inL l b).length≤1000):
  Calls Tryz.prog 145 #[v,.int .i64 (b:Int),.int .i64 (o:Int)] w (IntsPost w (besL l b o)):=by
 obtain⟨g,c,M,rfl,hown,_,hm⟩:=h
 obtain⟨f,him,_,hall⟩:=hm
 obtain⟨xa,xc,fb,hib,_⟩:=hall b hb
 obtain⟨ya,yc,fo,hio,_⟩:=hall o ho
 have HIM:=Lib.hid him
 have HIB:=Lib.hid hib
 have HIO:=Lib.hid hio
 have HFB:=Lib.hid fb
 have HFO:=Lib.hid fo
 clear hown hall him hib hio fb fo
 go_enter Tryz.func145,Tryz.ntmps145
 go_upto_region 1 with (fail)
 obtain⟨W,hW⟩:∃W,W=w.alloc (aroundO a ln lc (.slice (some ⟨g,0,none⟩) n c) (some M)):=⟨_,rfl⟩
 rw[←hW]
 have hk0:W.heap[w.heap.size]? =some (aroundO a ln lc (.slice (some ⟨g,0,none⟩) n c) (some M)):=by rw[hW];exact heap_alloc_new _ _
 have hB:Below w.heap.size w W:=by rw[hW];exact ext_alloc _ _
 have HK:=Lib.hid hk0
 have HB:=Lib.hid hB
 have hc2:W.cell? ⟨w.heap.size,2,none⟩=some (.map (some M)):=by rw[cell_of_row _ _ _ _ _ _ hk0];rfl
 have hlk:(Instr.lookup 225 (.map (some M)) (.int .i64 (b:Int)) false).run Tryz.prog W=.ok (.slice xa (inL l b).length xc) W:=by
  have:=IMap.look (P:=Tryz.prog) (HIM.out.ext hB) Tryz.underlying225 Tryz.underlying3 (zero_ints _) (b:Int);rw[HFB.out] at this;exact this
 clear hW hk0 hB
 go_wp2
 clear hc2 hlk
 have HI0:Hid (Below w.heap.size w W):=HB.out
 go_loopw [6,14] (fun v i wr=>∃j:Nat,i=.int .i64 j∧j≤(inL l b).length∧Hid (OwnI wr W.heap.size v (besTo l b o j))∧Hid (Below W.heap.size W wr)) (fun _ i _=>(inL l b).length-(intOf i).toNat)
 case atStart=>exact⟨0,rfl,by omega,OwnI.nil _ _,Below.refl _ _⟩
 case round=>
  obtain⟨j,rfl,hj,HO,HBr⟩:=hrel;obtain⟨av,cv,rfl⟩:=HO.out.form;have HBw:Hid (Below w.heap.size w wr):=ext_trans HB.out HBr.out;by_cases hlt:j<(inL l b).length
  ·obtain⟨xb,xo,rfl,cx,hxi⟩:=(HIB.out.ext HBw.out).2.2 j hlt;have hk9:=block_ext HBr.out HK.out;have hc2:wr.cell? ⟨w.heap.size,2,none⟩=some (.map (some M)):=by rw[cell_of_row _ _ _ _ _ _ hk9];rfl
   have hlk:(Instr.lookup 225 (.map (some M)) (.int .i64 (o:Int)) false).run Tryz.prog wr=.ok (.slice ya (inL l o).length yc) wr:=by
    have:=IMap.look (P:=Tryz.prog) (HIM.out.ext HBw.out) Tryz.underlying225 Tryz.underlying3 (zero_ints _) (o:Int);rw[HFO.out] at this;exact this
   have HST:=Lib.hid (besTo_step l b o j hlt);have HDC:Hid (decide (0≤idx (inL l o) ((inL l b).getD j 0))=(inL l o).contains ((inL l b).getD j 0)):=by
    rw[Hid,Bool.eq_iff_iff,decide_eq_true_eq,List.contains_iff_mem];have:=idx_neg_iff (inL l o) ((inL l b).getD j 0);constructor
    ·intro h;apply Classical.byContradiction;intro hn;have:=this.2 hn;omega
    ·intro h;apply Classical.byContradiction;intro hn;exact this.1 (by omega) h
   have HXI:=Lib.hid hxi;have hbl:(besTo l b o j).length≤1000:=by
    have h1:=List.length_filter_le (fun k=> !(inL l o).contains k) ((inL l b).take j);have h2:=List.length_take_le' j (inL l b);unfold besTo;omega
   clear hk9 hxi;generalize (inL l b).getD j 0=x at *;cases hh:(inL l o).contains x with
   |true=>
    have HD:Hid (decide (0≤idx (inL l o) x)=true):=HDC.out.trans hh;have HST2:Hid (besTo l b o (j+1)=besTo l b o j):=by rw[Hid,HST.out,hh];simp
    clear hh HDC HST
    go_wp2_with (go_at_call 92;refine(scontains_any ya _ yc (inL l o) x wr (HIO.out.ext HBw.out)).mono ?_;rintro e w' ⟨rfl,rfl⟩;rw[HD.out])
    go_roundw
    case rel=>exact⟨j+1,by go_num,by omega,by rw[HST2.out];exact HO,HBr⟩
    case measure=>simp[intOf];omega
   |false=>
    have HD:Hid (decide (0≤idx (inL l o) x)=false):=HDC.out.trans hh;have HST2:Hid (besTo l b o (j+1)=besTo l b o j++ [x]):=by rw[Hid,HST.out,hh];simp
    clear hh HDC HST
    go_wp2_with (first
     |(at_builtin
       refine wpList_append1 rfl wr (.tmp 25) (.tmp 27) 22 3 rfl W.heap.size _ 1 8 Tryz.underlying22 infoI rfl (by omega) (.slice av (besTo l b o j).length cv) _ _ [.int .i64 x] rfl HO.out.1 wr.heap.size rfl rfl rfl (by simp[Value.oneCell']) (by simp only[maxLen];omega) (by omega) HBr.out.size ?_;intro g2 cap w2 hown2 hgr2 hat2;have HO2:=Lib.hid hown2;have HB2:=Lib.hid (HBr.out.grown hgr2 HBr.out.size (fun q e=>(HO.out.1.lt q e).1))
       clear hown2 hgr2 hat2)
     |(go_at_call 92;refine(scontains_any ya _ yc (inL l o) x wr (HIO.out.ext HBw.out)).mono ?_;rintro e w' ⟨rfl,rfl⟩;rw[HD.out]))
    go_roundw
    case rel=>
     refine⟨j+1,by go_num,by omega,⟨?_,?_,?_⟩,HB2⟩
     ·rw[HST2.out,List.length_append];have:=HO2.out;simpa[intVals] using this
     ·rw[HST2.out];intro z hz;rcases List.mem_append.1 hz with hz|hz
      ·exact HO.out.2.1 z hz
      ·have:z=x:=by simpa using hz
       subst this;exact HXI.out
     ·rw[HST2.out,List.length_append];simp;omega
    case measure=>simp[intOf];omega
  ·obtain rfl:j=(inL l b).length:=by omega
   have HE:Hid (besTo l b o (inL l b).length=besL l b o):=by rw[Hid,besTo,List.take_length,besL]
   go_wp2
   go_ret
   rw[←HE.out];exact⟨_,rfl,HO.out.mono HB.out.size,HBw.out⟩
end

section
open Go.RowKit Go.Shelf
structure RowH where
 r:RowD
 lv:Value
 en:Value
def csR(h:RowH):List Value:= [.int .i64 h.r.e.fr,.int .i64 h.r.e.arm,.int .i64 h.r.e.to,h.lv,h.en]
theorem csR_len(h:RowH):(csR h).length=5:=rfl
theorem infoRow:(Tryz.prog.info? 191).map (fun i=>(i.zero,i.size,i.bytes))=some (some (.agg #[.int .i64 0,.int .i64 0,.int .i64 0,.slice none 0 0,.slice none 0 0]),5,72):=by kernel_rfl
theorem size_row:(Tryz.prog.info? 191).map (·.size)=some 5:=by kernel_rfl
def RowsIn(W:World)(base:Nat)(v:Value)(hs:List RowH):Prop:=
 OwnR 191 5 csR W base v hs∧∀h∈hs,OwnI W base h.lv h.r.lv∧OwnI W base h.en h.r.en∧(∀q,h.lv.ownBlock=some q→v.ownBlock≠some q)∧∀q,h.en.ownBlock=some q→v.ownBlock≠some q
theorem RowsIn.nil(W:World)(base:Nat):RowsIn W base (.slice none 0 0) []:=⟨OwnR.nil _ _ _ _ _,fun h hh=>by cases hh⟩
theorem kept_ne{o:Option Nat}{row:Option Nat}(h:∀q,o=some q→row≠some q):o=none∨o≠row:=by
 cases o with
 |none=>exact .inl rfl
 |some q=>exact .inr fun e=>h q rfl e.symm
theorem RowsIn.grown{W W':World}{base:Nat}{v:Value}{hs:List RowH}{row:Option Nat}(h:RowsIn W base v hs)(hg:W.grownBy W' row)(hr:∀q,row=some q→q<base∨W.heap.size≤q):RowsIn W' base v hs:=by
 obtain⟨h1,h2⟩:=h
 refine⟨h1.kept hg (kept_ne fun q hq e=>?_),fun x hx=>?_⟩
 ·have:=h1.low hq;have:=hr q e;omega
 ·obtain⟨h3,h4,h5,h6⟩:=h2 x hx;refine⟨h3.kept hg (kept_ne fun q hq e=>?_),h4.kept hg (kept_ne fun q hq e=>?_),h5,h6⟩
  ·have:=h3.1.lt q hq;have:=hr q e;omega
  ·have:=h4.1.lt q hq;have:=hr q e;omega
theorem RowsIn.mono{W:World}{base base':Nat}{v:Value}{hs:List RowH}(h:RowsIn W base v hs)(hb:base'≤base):RowsIn W base' v hs:=
 ⟨h.1.mono hb,fun x hx=>let ⟨h3,h4,h5,h6⟩:=h.2 x hx;⟨h3.mono hb,h4.mono hb,h5,h6⟩⟩
theorem own_one{w:World}{base:Nat}{v:Value}{xs:List Int}(h:OwnI w base v xs):v.oneCell'=true:=by
 obtain⟨a,c,rfl⟩:=h.form;rfl
theorem RowsIn.one{W:World}{base:Nat}{v:Value}{hs:List RowH}(h:RowsIn W base v hs):∀u∈hs.flatMap csR,u.oneCell'=true:=by
 intro u hu
 simp only[List.mem_flatMap,csR] at hu
 obtain⟨x,hx,hu⟩:=hu
 obtain⟨h3,h4,_⟩:=h.2 x hx
 simp only[List.mem_cons,List.not_mem_nil,or_false] at hu
 rcases hu with rfl|rfl|rfl|rfl|rfl
 ·rfl
 ·rfl
 ·rfl
 ·exact own_one h3
 ·exact own_one h4
theorem one_row{r:RowD}{a b:Value}(ha:a.oneCell'=true)(hb:b.oneCell'=true):∀u∈csR ⟨r,a,b⟩,u.oneCell'=true:=by
 intro u hu
 simp only[csR,List.mem_cons,List.not_mem_nil,or_false] at hu
 rcases hu with rfl|rfl|rfl|rfl|rfl
 ·rfl
 ·rfl
 ·rfl
 ·exact ha
 ·exact hb
def rowsTo(l:List TileD)(ask:EdgeD→Bool)(d:List EdgeD):List RowD:=(d.filter (betwB l ask)).map (rowOf l)
theorem rowsTo_step(l:List TileD)(ask:EdgeD→Bool)(d:List EdgeD)(x:EdgeD):rowsTo l ask (d++ [x])=rowsTo l ask d++if betwB l ask x then [rowOf l x] else []:=by
 rw[rowsTo,rowsTo,List.filter_append,List.map_append]
 congr 1
 rw[List.filter_cons,List.filter_nil]
 cases betwB l ask x<;>rfl
theorem rowsTo_len(l:List TileD)(ask:EdgeD→Bool)(d:List EdgeD):(rowsTo l ask d).length≤d.length:=by
 rw[rowsTo,List.length_map];exact List.length_filter_le _ _
def RJ(w1:World)(B:Nat)(l:List TileD)(ask:EdgeD→Bool)(d:List EdgeD)(W:World):Prop:=
 ∃v hs,W.heap[B]? =some (.cells #[v] 146 (0,0))∧RowsIn W w1.heap.size v hs∧hs.map (·.r)=rowsTo l ask d∧w1.grownBy W (some B)∧B<w1.heap.size
theorem Steady.rowsIn(D base:Nat)(v:Value)(hs:List RowH):Steady D (fun W=>RowsIn W base v hs):=
 (Steady.ownR _ _ _ _).and (Steady.all fun h=>Steady.imp ((Steady.ownI _ _ _ _).and ((Steady.ownI _ _ _ _).and (Steady.pure _ _))))
theorem Steady.grown{D:Nat}{w1:World}{B:Nat}(hD:w1.heap.size≤D):Steady D (fun W=>w1.grownBy W (some B)):=fun W W' row h hg hr=>
 grown_trans h hg (.inr fun q e=>Nat.le_trans hD (hr q e).1)
theorem RJ.steady{w1:World}{B:Nat}{l:List TileD}{ask:EdgeD→Bool}{d:List EdgeD}{D:Nat}(hD:w1.heap.size≤D):Steady D (RJ w1 B l ask d):=by
 unfold RJ
 exact Steady.ex fun v=>Steady.ex fun hs=>(Steady.block _ _ rfl).and ((Steady.rowsIn _ _ _ _).and ((Steady.pure _ _).and ((Steady.grown hD).and (Steady.pure _ _))))
theorem row_end{W1 W2 w5 w6:World}{B g2 cap:Nat}{l:List TileD}{ask:EdgeD→Bool}{d:List EdgeD}{x:EdgeD}{v v6 v12:Value}{hs:List RowH}
  (hV:W2.heap[B]? =some (.cells #[v] 146 (0,0))) (hrows:RowsIn W2 W1.heap.size v hs) (hmap:hs.map (·.r)=rowsTo l ask d) (hgr:W1.grownBy W2 (some B)) (hBW:B<W1.heap.size)
  (h25:W2.grownBy w5 none) (hk25:Keep W2 w5) (h6:OwnI w5 W2.heap.size v6 (besL l x.fr x.to)) (h12:OwnI w5 W2.heap.size v12 (besL l x.to x.fr).reverse)
  (hown:w6.ownsRow W1.heap.size 191 5 (.slice (some ⟨g2,0,none⟩) (hs.length+1) cap) (hs.length+1) (hs.flatMap csR++csR ⟨rowOf l x,v6,v12⟩))
  (hg:w5.grownBy w6 v.ownBlock) (hat:some g2=v.ownBlock∨g2=w5.heap.size+1) (hbt:betwB l ask x=true) (hlen:hs.length≤1000):
  Keep W2 (w6.setCell ⟨B,0,none⟩ (.slice (some ⟨g2,0,none⟩) (hs.length+1) cap))∧RJ W1 B l ask (d++ [x]) (w6.setCell ⟨B,0,none⟩ (.slice (some ⟨g2,0,none⟩) (hs.length+1) cap))∧
   Tch (TV B 146) W2 (w6.setCell ⟨B,0,none⟩ (.slice (some ⟨g2,0,none⟩) (hs.length+1) cap)):=by
 have hBW2:=(Array.getElem?_eq_some_iff.1 hV).1
 have hvlow:∀q,v.ownBlock=some q→W1.heap.size≤q∧q<W2.heap.size:=fun q hq=>hrows.1.low hq
 have hrows5:=hrows.grown h25 (fun q e=>by cases e)
 have hV5:w5.heap[B]? =some (.cells #[v] 146 (0,0)):=(h25.block B hBW2 (fun e=>by cases e)).trans hV
 have hBW5:=(Array.getElem?_eq_some_iff.1 hV5).1
 have hV6:w6.heap[B]? =some (.cells #[v] 146 (0,0)):=(hg.block B hBW5 (fun e=>by have:=hvlow B e.symm;omega)).trans hV5
 have hst:=heap_setCell_same w6 B 0 _ _ (.slice (some ⟨g2,0,none⟩) (hs.length+1) cap) hV6
 simp only[List.setIfInBounds_toArray,List.set_cons_zero] at hst
 have hset:=grown_setCell w6 B 0 (.slice (some ⟨g2,0,none⟩) (hs.length+1) cap)
 have hs25:=h25.size
 have hs56:=hg.size
 have hg2:W1.heap.size≤g2:=(hown.lt g2 rfl).1
 have hgW1:W1.heap.size≤W2.heap.size:=hgr.size
 have own6:∀{u:Value} {ys:List Int},OwnI w5 W1.heap.size u ys→(∀q,u.ownBlock=some q→v.ownBlock≠some q)→OwnI (w6.setCell ⟨B,0,none⟩ (.slice (some ⟨g2,0,none⟩) (hs.length+1) cap)) W1.heap.size u ys:=fun {u ys} ho hne=>
  (ho.kept hg (kept_ne hne)).kept hset (kept_ne fun q hq e=>by have:=(ho.1.lt q hq).1;injection e with e;omega)
 have ne2:∀{u:Value} {ys:List Int},OwnI w5 W1.heap.size u ys→(∀q,u.ownBlock=some q→v.ownBlock≠some q)→∀q,u.ownBlock=some q→(Value.slice (some ⟨g2,0,none⟩) (hs.length+1) cap).ownBlock≠some q:=fun {u ys} ho hne q hq e=>by
  simp only[Value.ownBlock,Option.some.injEq] at e;subst e;rcases hat with h|h
  ·exact hne g2 hq h.symm
  ·have:=(ho.1.lt g2 hq).2;omega
 have hne6:∀q,v6.ownBlock=some q→v.ownBlock≠some q:=fun q hq e=>by have:=(h6.1.lt q hq).1;have:=hvlow q e;omega
 have hne12:∀q,v12.ownBlock=some q→v.ownBlock≠some q:=fun q hq e=>by have:=(h12.1.lt q hq).1;have:=hvlow q e;omega
 refine⟨(hk25.trans (Keep.grown hg (own_nobook hrows5.1.1))).trans (Keep.setCell _ _ _),⟨_,hs++ [⟨rowOf l x,v6,v12⟩],hst,⟨⟨?_,by simp;omega⟩,?_⟩,?_,?_,hBW⟩,?_⟩
 ·have:(hs++ [(⟨rowOf l x,v6,v12⟩:RowH)]).flatMap csR=hs.flatMap csR++csR ⟨rowOf l x,v6,v12⟩:=by simp
  rw[this,List.length_append];exact hown.kept hset (.inr (by simp[Value.ownBlock];omega))
 ·intro h hh;rcases List.mem_append.1 hh with hh|hh
  ·obtain⟨h1,h2,h3,h4⟩:=hrows5.2 h hh;exact⟨own6 h1 h3,own6 h2 h4,ne2 h1 h3,ne2 h2 h4⟩
  ·have:h=⟨rowOf l x,v6,v12⟩:=by simpa using hh
   subst this;have a6:=h6.mono hgW1;have a12:=h12.mono hgW1;exact⟨own6 a6 hne6,own6 a12 hne12,ne2 a6 hne6,ne2 a12 hne12⟩
 ·rw[rowsTo_step,hbt,List.map_append,hmap];rfl
 ·exact grown_trans (grown_trans (grown_trans hgr h25 (.inr fun q e=>by cases e)) hg (.inr fun q e=>(hvlow q e).1)) hset (.inl rfl)
 ·refine tch_var hV hst (by simp;omega) (fun k hk hkB hkv=>?_) (fun k hk=>?_)
  ·rw[Below.heap_setCell _ _ _ _ (fun e=>hkB e),hg.block k (by omega) (fun e=>hkv e.symm),h25.block k hk (fun e=>by cases e)]
  ·simp only[Value.ownBlock,Option.some.injEq] at hk;subst hk;rcases hat with h|h
   ·exact .inl h.symm
   ·exact .inr (by omega)
end

section
open Go.RowKit
section
variable {P:Program} {l:List Oper} {Q:Exit→Act→World→Prop}
theorem depB_waits{l:List Oper}{j k:Nat}(h:depB l j k=true):waits l 0 j k=true:=by
 unfold depB at h
 simp only[waits]
 cases e:l[j]? with
 |none=>rw[e] at h;cases h
 |some o=>rw[e] at h;exact h
theorem free_anyL{P:Program}{l:List Oper}{Q:Exit→Act→World→Prop}(m:Nat)(ds:List (Option Nat))(hok:freeOK l m ds=true)(S:Spec)(Lk:Nat→Value→(Nat→Value)→Prop)(hcong:∀i v ν ν',(∀j,depB l i j=true→ν j=ν' j)→Lk i v ν→Lk i v ν')(a0:Act)(w0:World)
  (hmono:∀i v lo hi w w',Below w.heap.size w w'→S i v lo hi w→S i v lo hi w')
  (hops:∀i,i<m→∀(ν:Nat→Value) (lo hi:Nat→Nat) (w:World) (K:Act→World→Prop),Below w0.heap.size w0 w→(∀j,depB l i j=true→S j (ν j) (lo j) (hi j) w)→
    (∀v w',Below w.heap.size w w'→S i v w.heap.size w'.heap.size w'→Lk i v ν→K ((frameOf a0 ds ν).put (ds.getD i none) v) w')→wpOp P l.toArray Q i K (frameOf a0 ds ν) w)
  (hend:∀(ν:Nat→Value) (lo hi:Nat→Nat) (w:World),Below w0.heap.size w0 w→(∀i,i<m→S i (ν i) (lo i) (hi i) w)→(∀i,i<m→w0.heap.size≤lo i∧lo i≤hi i∧hi i≤w.heap.size)→
    (∀i j,i<m→j<m→i≠j→hi i≤lo j∨hi j≤lo i)→(∀i,i<m→Lk i (ν i) ν)→wpList P l.toArray Q (l.drop m) (frameOf a0 ds ν) w):
  wpAny P .any l.toArray Q l.length (Array.replicate l.length false) a0 w0:=by
 simp only[freeOK,Bool.and_eq_true,decide_eq_true_eq,List.all_eq_true,List.mem_range] at hok
 obtain⟨⟨⟨hds,hml,hnd⟩,h1⟩,h2⟩:=hok
 have hup:∀j o,l[j]? =some o→∀e∈o.after,Region.binds .any e=true→e.on<j:=fun j o hj e he hb=>by
  have hlt:j<l.length:=(List.getElem?_eq_some_iff.1 hj).1;have:=(h2 j hlt).2;rw[hj] at this;simp only[Option.map_some,Option.getD_some] at this;have:=(Array.all_eq_true'.1 this) e he;simpa[hb] using this
 have htail:∀j,m≤j→j<l.length→∀i,i<j→reach l j i=true:=fun j hj hlt i hi=>by
  have:=(h2 j hlt).1;simp only[Bool.or_eq_true,decide_eq_true_eq,List.all_eq_true,List.mem_range] at this;exact(this.resolve_left (by omega)) i hi
 have key:∀(fuel:Nat) (listed:Array Bool) (ν:Nat→Value) (lo hi:Nat→Nat) (w:World),((List.range l.length).filter fun j=> !listed.getD j true).length=fuel→listed.size=l.length→Closed l listed→
   (∀j,m≤j→listed.getD j false=false)→Below w0.heap.size w0 w→(∀i,i<m→listed.getD i false=true→S i (ν i) (lo i) (hi i) w∧w0.heap.size≤lo i∧lo i≤hi i∧hi i≤w.heap.size)→
   (∀i j,i<m→j<m→i≠j→listed.getD i false=true→listed.getD j false=true→hi i≤lo j∨hi j≤lo i)→(∀i,i<m→listed.getD i false=true→Lk i (ν i) ν)→wpAny P .any l.toArray Q fuel listed (frameOf a0 ds ν) w:=by
  intro fuel
  induction fuel with
  |zero=>
   intro listed ν lo hi w hf hs hc htl hB hS hD hL0;by_cases hall:∀i,i<m→listed.getD i false=true
   ·have hL:∀i,i<l.length→listed.getD i false=decide (i<m):=fun i _=>by
     by_cases h:i<m
     ·rw[hall i h];simp[h]
     ·rw[htl i (by omega)];simp[h]
    have hcnt:l.length-m=0:=by
     rw[←hf,←filt_ge m l.length]
     congr 1
     refine List.filter_congr fun j hj=>?_;have hj:=List.mem_range.1 hj;have e:listed.getD j true=listed.getD j false:=by simp[hs,hj]
     rw[e,hL j hj]
    exact free_tail m htail hup 0 m listed _ w hcnt (Nat.le_refl _) hml hs hL hc (hend ν lo hi w hB (fun i h=>(hS i h (hall i h)).1) (fun i h=>(hS i h (hall i h)).2) (fun i j h h' hne=>hD i j h h' hne (hall i h) (hall j h')) (fun i h=>hL0 i h (hall i h)))
   ·exfalso;have⟨i,hi⟩:=Classical.not_forall.1 hall;have⟨him,hin⟩:=Classical.not_imp.1 hi;have hlt:i<l.length:=by omega
    have hmem:i∈(List.range l.length).filter fun j=> !listed.getD j true:=by
     rw[List.mem_filter,List.mem_range];refine⟨hlt,?_⟩;have e:listed.getD i true=listed.getD i false:=by simp[hs,hlt]
     rw[e];simpa using hin
    rw[List.eq_nil_of_length_eq_zero hf] at hmem;cases hmem
  |succ fuel ih=>
   intro listed ν lo hi w hf hs hc htl hB hS hD hL0;by_cases hall:∀i,i<m→listed.getD i false=true
   ·have hL:∀i,i<l.length→listed.getD i false=decide (i<m):=fun i _=>by
     by_cases h:i<m
     ·rw[hall i h];simp[h]
     ·rw[htl i (by omega)];simp[h]
    have hcnt:l.length-m=fuel+1:=by
     rw[←hf,←filt_ge m l.length]
     congr 1
     refine List.filter_congr fun j hj=>?_;have hj:=List.mem_range.1 hj;have e:listed.getD j true=listed.getD j false:=by simp[hs,hj]
     rw[e,hL j hj]
    exact free_tail m htail hup (fuel+1) m listed _ w hcnt (Nat.le_refl _) hml hs hL hc (hend ν lo hi w hB (fun i h=>(hS i h (hall i h)).1) (fun i h=>(hS i h (hall i h)).2) (fun i j h h' hne=>hD i j h h' hne (hall i h) (hall j h')) (fun i h=>hL0 i h (hall i h)))
   · -- the least that is to come
     have hex:∀k,(∃i,i<m∧i≤k∧listed.getD i false=false)→∃i,i<m∧listed.getD i false=false∧∀j,j<i→listed.getD j false=true:=by
      intro k
      induction k with
      |zero=>
       rintro⟨i,h1,h2,h3⟩;exact⟨i,h1,h3,fun j hj=>by omega⟩
      |succ k ihk=>
       rintro⟨i,h1,h2,h3⟩;by_cases h:∃i,i<m∧i≤k∧listed.getD i false=false
       ·exact ihk h
       ·refine⟨i,h1,h3,fun j hj=>?_⟩;cases e:listed.getD j false with
        |true=>rfl
        |false=>exact absurd ⟨j,by omega,by omega,e⟩ h
     have⟨i1,hi1⟩:=Classical.not_forall.1 hall;have⟨him1,hin1⟩:=Classical.not_imp.1 hi1;obtain⟨i0,h0m,h0f,h0all⟩:=hex i1 ⟨i1,him1,Nat.le_refl _,by simpa using hin1⟩;have h0l:i0<l.length:=by omega
     have hr0:i0∈Region.ready .any l.toArray listed:=by
      refine mem_ready.2 ⟨?_,l[i0],by simp[h0l],fun e he hb=>h0all e.on (hup i0 l[i0] (List.getElem?_eq_getElem h0l) e he hb)⟩;have e:listed.getD i0 true=listed.getD i0 false:=by simp[hs,h0l]
      rw[e,h0f]
     refine⟨fun h=>absurd hr0 (by rw[h];simp),fun i hir=>?_⟩;obtain⟨hi1',o,ho,hdep⟩:=mem_ready.1 hir;have hil:i<l.length:=by have:=(Array.getElem?_eq_some_iff.1 ho).1;simpa using this
     have hif:listed.getD i false=false:=by
      have e:listed.getD i true=listed.getD i false:=by simp[hs,hil]
      rw[←e];exact hi1'
     have him:i<m:=by
      apply Classical.byContradiction;intro hge;obtain⟨n,hn⟩:=reach_sound (htail i (by omega) hil i0 (by omega));have h9:=waits_ready hc hir hn;rw[h0f] at h9;cases h9
     refine hops i him ν lo hi w _ hB (fun j hj=>?_) (fun v w' hb hsp hlk0=>?_)
     ·have ho':l[i]? =some o:=by simpa using ho
      simp only[depB,ho',Option.map_some,Option.getD_some] at hj;obtain⟨e,he,hbe⟩:=Array.any_eq_true'.1 hj;simp only[Bool.and_eq_true,beq_iff_eq] at hbe;have hlj:listed.getD j false=true:=hbe.2▸hdep e he hbe.1;have hji:j<i:=hbe.2▸hup i o ho' e he hbe.1;exact(hS j (by omega) hlj).1
     ·rw[frame_put a0 ds ν i v hnd (by omega)];have hsz:=hb.size;refine ih (listed.setIfInBounds i true) (updN ν i v) (updN lo i w.heap.size) (updN hi i w'.heap.size) w' ?_ (by simpa using hs) (hc.set hir) (fun j hj=>?_) (hB.trans (hb.mono hB.size)) (fun j hj hlj=>?_) (fun j k hj hk hne hlj hlk=>?_) (fun j hj hlj=>?_)
      ·have:=filt_one (fun j=> !listed.getD j true) (fun j=> !(listed.setIfInBounds i true).getD j true) i (by simp[hi1']) (fun j=>by
        by_cases e:i=j
        ·subst e;have:(listed.setIfInBounds i true).getD i true=true:=by
          have h1:=getD_set_at listed i (by rw[hs];exact hil);rw[Array.getD_eq_getD_getElem?] at h1⊢;cases h2:(listed.setIfInBounds i true)[i]? with
          |none=>rfl
          |some b=>rw[h2] at h1;exact h1
         simp[this]
        ·have e':(j != i)=true:=by simpa using fun h=>e h.symm
         rw[getD_set_ne true e,e',Bool.true_and]) (List.range l.length) List.nodup_range (List.mem_range.2 hil)
       omega
      ·rw[getD_set_ne false (by omega)];exact htl j hj
      ·by_cases e:i=j
       ·subst e;simp only[updN,if_pos rfl];exact⟨hsp,hB.size,hsz,Nat.le_refl _⟩
       ·have e':¬j=i:=fun h=>e h.symm;rw[getD_set_ne false e] at hlj;simp only[updN,if_neg e'];obtain⟨s1,s2,s3,s4⟩:=hS j hj hlj;exact⟨hmono j _ _ _ w w' hb s1,s2,s3,by omega⟩
      ·by_cases ej:i=j
       ·subst ej;have e':¬k=i:=fun h=>hne h.symm;rw[getD_set_ne false hne] at hlk;obtain⟨_,s2,s3,s4⟩:=hS k hk hlk;simp only[updN,if_pos rfl,if_neg e'];exact .inr s4
       ·have ej':¬j=i:=fun h=>ej h.symm;rw[getD_set_ne false ej] at hlj;obtain⟨_,s2,s3,s4⟩:=hS j hj hlj;by_cases ek:i=k
        ·subst ek;simp only[updN,if_pos rfl,if_neg ej'];exact .inl s4
        ·have ek':¬k=i:=fun h=>ek h.symm;rw[getD_set_ne false ek] at hlk;simp only[updN,if_neg ej',if_neg ek'];exact hD j k hj hk hne hlj hlk
      ·by_cases e:i=j
       ·subst e;have e1:updN ν i v i=v:=by simp[updN]
        rw[e1];refine hcong i v ν _ (fun k hk=>?_) hlk0;have hki:k<i:=by
         have ho':l[i]? =some o:=by simpa using ho
         simp only[depB,ho',Option.map_some,Option.getD_some] at hk;obtain⟨e,he,hbe⟩:=Array.any_eq_true'.1 hk;simp only[Bool.and_eq_true,beq_iff_eq] at hbe;exact hbe.2▸hup i o ho' e he hbe.1
        simp only[updN];rw[if_neg (by omega)]
       ·have e':¬j=i:=fun h=>e h.symm;rw[getD_set_ne false e] at hlj;have e1:updN ν i v j=ν j:=by simp[updN,e']
        rw[e1];refine hcong j (ν j) ν _ (fun k hk=>?_) (hL0 j hj hlj);have hlk:listed.getD k false=true:=waits_listed hc 0 j k hlj (depB_waits hk);have hne:k≠i:=fun h=>by subst h;rw[hif] at hlk;cases hlk
        simp only[updN];rw[if_neg hne]
 have h3:=key l.length (Array.replicate l.length false) (frame0 a0 ds) (fun _=>0) (fun _=>0) w0 (by
  have:(List.range l.length).filter (fun j=> !(Array.replicate l.length false).getD j true)=List.range l.length:=by
   rw[List.filter_eq_self];intro j hj;have:=List.mem_range.1 hj;simp[this]
  rw[this];simp) (by simp) (closed_none _) (fun j hj=>by
  by_cases h:j<l.length<;>simp[h]) (Below.refl _ _) (fun i hi h=>by
  by_cases h':i<l.length
  ·simp[h'] at h
  ·omega) (fun i j hi hj _ h=>by
  by_cases h':i<l.length
  ·simp[h'] at h
  ·omega) (fun i hi h=>by
  by_cases h':i<l.length
  ·simp[h'] at h
  ·omega)
 rwa [frame_start] at h3
theorem region_freeL{id:Nat}{a:Act}{w:World}(m:Nat)(ds:List (Option Nat))(hm:P.follows .mixedOrders=true)(hok:freeOK l m ds=true)(S:Spec)(Lk:Nat→Value→(Nat→Value)→Prop)(hcong:∀i v ν ν',(∀j,depB l i j=true→ν j=ν' j)→Lk i v ν→Lk i v ν') 
  (hmono:∀i v lo hi w w',Below w.heap.size w w'→S i v lo hi w→S i v lo hi w')
  (hops:∀i,i<m→∀(ν:Nat→Value) (lo hi:Nat→Nat) (w':World) (K:Act→World→Prop),Below w.heap.size w w'→(∀j,depB l i j=true→S j (ν j) (lo j) (hi j) w')→
    (∀v w'',Below w'.heap.size w' w''→S i v w'.heap.size w''.heap.size w''→Lk i v ν→K ((frameOf a ds ν).put (ds.getD i none) v) w'')→wpOp P l.toArray Q i K (frameOf a ds ν) w')
  (hend:∀(ν:Nat→Value) (lo hi:Nat→Nat) (w':World),Below w.heap.size w w'→(∀i,i<m→S i (ν i) (lo i) (hi i) w')→(∀i,i<m→w.heap.size≤lo i∧lo i≤hi i∧hi i≤w'.heap.size)→
    (∀i j,i<m→j<m→i≠j→hi i≤lo j∨hi j≤lo i)→(∀i,i<m→Lk i (ν i) ν)→wpList P l.toArray Q (l.drop m) (frameOf a ds ν) w'):
  (Code.region id l.toArray true).wp P Q a w:=by
 refine wp_region_any hm ?_
 have:=free_anyL (P:=P) (l:=l) (Q:=Q) m ds hok S Lk hcong a w.drew hmono (fun i hi ν lo hi' w' K hB=>hops i hi ν lo hi' w' K (unDrew1 hB)) (fun ν lo hi w' hB=>hend ν lo hi w' (unDrew1 hB))
 simpa using this
theorem round_freeL{id:Nat}{a:Act}{w:World}{lp:Nat}(m:Nat)(ds:List (Option Nat))(hm:P.follows .mixedOrders=true)(hn:l.all notDefer=true)(hQ:¬LetsOut Q)(hok:freeOK l m ds=true)(S:Spec)(Lk:Nat→Value→(Nat→Value)→Prop)(hcong:∀i v ν ν',(∀j,depB l i j=true→ν j=ν' j)→Lk i v ν→Lk i v ν') 
  (hmono:∀i v lo hi w w',Below w.heap.size w w'→S i v lo hi w→S i v lo hi w')
  (hops:∀i,i<m→∀(ν:Nat→Value) (lo hi:Nat→Nat) (w':World) (K:Act→World→Prop),Below w.heap.size w w'→(∀j,depB l i j=true→S j (ν j) (lo j) (hi j) w')→
    (∀v w'',Below w'.heap.size w' w''→S i v w'.heap.size w''.heap.size w''→Lk i v ν→K ((frameOf a ds ν).put (ds.getD i none) v) w'')→wpOp P l.toArray Q i K (frameOf a ds ν) w')
  (hend:∀(ν:Nat→Value) (lo hi:Nat→Nat) (w':World),Below w.heap.size w w'→(∀i,i<m→S i (ν i) (lo i) (hi i) w')→(∀i,i<m→w.heap.size≤lo i∧lo i≤hi i∧hi i≤w'.heap.size)→
    (∀i j,i<m→j<m→i≠j→hi i≤lo j∨hi j≤lo i)→(∀i,i<m→Lk i (ν i) ν)→wpList P l.toArray Q (l.drop m) (frameOf a ds ν) w'):
  (Code.region id l.toArray true).wpIn (Fence.wide.inRound lp) 0 P Q a w:=by
 refine wpIn_region_draw fun t=>?_
 refine wpOpsIn_of lp (fun i o ho=>?_) hQ _ _ _ ?_
 ·rw[List.all_eq_true] at hn
  exact hn o (by
   have:l[i]? =some o:=by simpa using ho
   exact List.mem_of_getElem? this)
 ·simp only[Region.schedule,hm,Bool.true_or,if_true];refine wpAny_sound _ t _ a _ ?_;have:=free_anyL (P:=P) (l:=l) (Q:=Q) m ds hok S Lk hcong a w.drew hmono (fun i hi ν lo hi' w' K hB=>hops i hi ν lo hi' w' K (unDrew1 hB)) (fun ν lo hi w' hB=>hend ν lo hi w' (unDrew1 hB));simpa using this
end
end
end Go.Proofs.YtnmkjliioogbgaaGreatDoor
