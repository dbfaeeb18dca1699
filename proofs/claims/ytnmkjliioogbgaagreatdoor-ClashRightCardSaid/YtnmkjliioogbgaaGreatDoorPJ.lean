/-
 (*sets.collector).tile,its begin:six new sets;states of six sets.
-/
import Derived.Test.YtnmkjliioogbgaaGreatDoorPH
namespace Go.Proofs.YtnmkjliioogbgaaGreatDoor
set_option linter.unusedSimpArgs false
set_option linter.unusedVariables false
set_option linter.unusedSectionVars false
set_option maxRecDepth 100000
set_option maxHeartbeats 40000000
section
open Go.RowKit Go.Shelf
attribute [local go_sem] Oper.semAt_some wide_fn wide_depth wide_fnR wide_depthR
theorem TilesOK.ck{w W:World}{a:Option Addr}{n:Nat}{ls:List TileR}(h:TilesOK w a n ls)(k:CK w W):TilesOK W a n ls:=⟨h.1.ck tileC_len k,fun t ht=>⟨(h.2 t ht).1.ck k,(h.2 t ht).2⟩⟩
theorem ColAt.ck{w W:World}{C:Nat}{h:ColH}{r d l a i o:Option Nat}(hc:ColAt w C h r d l a i o)(k:CK w W):ColAt W C h r d l a i o:=fun j v hj=>k _ _ _ (hc j v hj)
theorem colAt_row{w:World}{C:Nat}{h:ColH}{r d l a i o:Option Nat}(hc:w.heap[C]? =some (colO h r d l a i o)):ColAt w C h r d l a i o:=fun j v hj=>by rw[cell_of_row _ _ _ _ _ _ hc];exact hj
theorem Chg.thn{S T:Nat→Prop}{a b c:World}(h:Chg S a b)(k:Chg T b c)(hs:∀q,T q→S q∨a.heap.size≤q):Chg S a c:=
 ⟨k.os.trans h.os,k.tape.trans h.tape,k.output.trans h.output,Nat.le_trans h.size k.size,fun q hq hn=>
  (k.block q (Nat.lt_of_lt_of_le hq h.size) (fun ht=>(hs q ht).elim hn (by omega))).trans (h.block q hq hn)⟩
structure C6(w:World)(m:Nat→Nat)(p:Nat→Int→Prop)(W:World):Prop where
 ck:CK w W
 v:∀j,j<6→VHas W (m j) (p j)
 ch:Chg (fun q=>∃j,j<6∧q=m j) w W
def Apart6(m:Nat→Nat):Prop:=∀i j,i<6→j<6→m i=m j→i=j
section
variable {w W W':World} {m:Nat→Nat} {p p':Nat→Int→Prop}
theorem C6.ext(h:C6 w m p W)(hb:Below W.heap.size W W'):C6 w m p W':=⟨h.ck.trans (CK.ext hb),fun j hj=>(h.v j hj).ext hb,h.ch.of_ext hb⟩
theorem C6.turn(h:C6 w m p W)(hn:Apart6 m){k:Nat}(hk:k<6){q:Int→Prop}(hv:VHas W' (m k) q)(hg:Chg (fun j=>j=m k) W W'):C6 w m (fun j=>if j=k then q else p j) W':=by
 refine⟨h.ck.trans (CK.map (h.v k hk) hg),fun j hj=>?_,h.ch.trans (hg.mono fun x e=>⟨k,hk,e⟩)⟩
 by_cases e:j=k
 ·subst e;rw[if_pos rfl];exact hv
 ·rw[if_neg e];exact(h.v j hj).chg hg fun e2=>e (hn j k hj hk e2)
theorem C6.congr(h:C6 w m p W)(e:∀j,j<6→∀y,p j y↔p' j y):C6 w m p' W:=⟨h.ck,fun j hj=>(h.v j hj).congr (e j hj),h.ch⟩
end
def newF(m f:Nat→Option Nat)(k j:Nat):Option Nat:=if j<k then m j else f j
theorem colC_put(h:ColH)(m f:Nat→Option Nat)(k:Nat)(hk:k<6)(q:Nat)(hq:m k=some q):
  (colC h (newF m f k 0) (newF m f k 1) (newF m f k 2) (newF m f k 3) (newF m f k 4) (newF m f k 5)).setIfInBounds (6+k) (.map (some q))=colC h (newF m f (k+1) 0) (newF m f (k+1) 1) (newF m f (k+1) 2) (newF m f (k+1) 3) (newF m f (k+1) 4) (newF m f (k+1) 5):=by
 have hcase:k=0∨k=1∨k=2∨k=3∨k=4∨k=5:=by omega
 rcases hcase with rfl|rfl|rfl|rfl|rfl|rfl<;>simp[newF,hq]
theorem newF_zero(m f:Nat→Option Nat)(j:Nat):newF m f 0 j=f j:=by simp[newF]
theorem newF_congr{m m' f:Nat→Option Nat}{k:Nat}(h:∀j,j<k→m j=m' j):newF m f k=newF m' f k:=by
 funext j
 unfold newF
 split
 ·exact h j (by assumption)
 ·rfl
theorem colC_at(h:ColH)(m f:Nat→Option Nat)(k j:Nat)(hj:j<6):(colC h (newF m f k 0) (newF m f k 1) (newF m f k 2) (newF m f k 3) (newF m f k 4) (newF m f k 5))[6+j]? =some (.map (newF m f k j)):=by
 have hcase:j=0∨j=1∨j=2∨j=3∨j=4∨j=5:=by omega
 rcases hcase with rfl|rfl|rfl|rfl|rfl|rfl<;>rfl
def p6(R D L A I O:Int→Prop)(j:Nat):Int→Prop:=match j with|0=>R|1=>D|2=>L|3=>A|4=>I|_=>O
theorem allSix{P:Nat→Prop}(h0:P 0)(h1:P 1)(h2:P 2)(h3:P 3)(h4:P 4)(h5:P 5):∀j,j<6→P j:=fun j hj=>by
 have hcase:j=0∨j=1∨j=2∨j=3∨j=4∨j=5:=by omega
 rcases hcase with rfl|rfl|rfl|rfl|rfl|rfl<;>assumption
section
variable {w W W':World} {m:Nat→Nat} {R D L A I O q:Int→Prop}
theorem CS.to6(h:CS w (m 0) (m 1) (m 2) (m 3) R D L A W)(hn:Apart6 m)(h4:VHas w (m 4) I)(h5:VHas w (m 5) O):C6 w m (p6 R D L A I O) W:=
 ⟨h.ck,allSix h.fr h.fd h.fl h.fa (h4.chg h.ch fun e=>by rcases e with e|e|e|e<;>have:=hn _ _ (by omega) (by omega) e<;>omega) (h5.chg h.ch fun e=>by rcases e with e|e|e|e<;>have:=hn _ _ (by omega) (by omega) e<;>omega),
  h.ch.mono fun x e=>by rcases e with e|e|e|e<;>exact⟨_,by omega,e⟩⟩
theorem C6.turn0(h:C6 w m (p6 R D L A I O) W)(hn:Apart6 m)(hv:VHas W' (m 0) q)(hg:Chg (fun j=>j=m 0) W W'):C6 w m (p6 q D L A I O) W':=
 (h.turn hn (by omega) hv hg).congr (allSix (fun _=>Iff.rfl) (fun _=>Iff.rfl) (fun _=>Iff.rfl) (fun _=>Iff.rfl) (fun _=>Iff.rfl) (fun _=>Iff.rfl))
theorem C6.turn4(h:C6 w m (p6 R D L A I O) W)(hn:Apart6 m)(hv:VHas W' (m 4) q)(hg:Chg (fun j=>j=m 4) W W'):C6 w m (p6 R D L A q O) W':=
 (h.turn hn (by omega) hv hg).congr (allSix (fun _=>Iff.rfl) (fun _=>Iff.rfl) (fun _=>Iff.rfl) (fun _=>Iff.rfl) (fun _=>Iff.rfl) (fun _=>Iff.rfl))
theorem C6.turn5(h:C6 w m (p6 R D L A I O) W)(hn:Apart6 m)(hv:VHas W' (m 5) q)(hg:Chg (fun j=>j=m 5) W W'):C6 w m (p6 R D L A I q) W':=
 (h.turn hn (by omega) hv hg).congr (allSix (fun _=>Iff.rfl) (fun _=>Iff.rfl) (fun _=>Iff.rfl) (fun _=>Iff.rfl) (fun _=>Iff.rfl) (fun _=>Iff.rfl))
end
theorem rows_to{ts:List TermD}{l:List TileD}{ask:EdgeD→Bool}(hr:rightB ts l=true){r:RowD}(h:r∈rowsL ts l ask):0≤r.e.to∧r.e.to<ts.length:=by
 obtain⟨x,hx,rfl⟩:=List.mem_map.1 h
 have h1:x∈allE ts:=by
  unfold allE;rw[if_pos (right_fits hr)];exact(List.mem_filter.1 hx).1
 have:=allE_mem h1
 exact⟨by show 0≤x.to;omega,this.2.2.2⟩
theorem C6.other{w W W':World}{m:Nat→Nat}{p:Nat→Int→Prop}{q:Nat}{r:Int→Prop}(h:C6 w m p W)(hq:w.heap.size≤q)(hne:∀j,j<6→m j≠q)(hv:VHas W q r)(hc:Chg (fun j=>j=q) W W'):C6 w m p W':=
 ⟨h.ck.trans (CK.map hv hc),fun j hj=>(h.v j hj).chg hc (hne j hj),⟨hc.os.trans h.ch.os,hc.tape.trans h.ch.tape,hc.output.trans h.ch.output,Nat.le_trans h.ch.size hc.size,fun k hk hn=>(hc.block k (Nat.lt_of_lt_of_le hk h.ch.size) (by omega)).trans (h.ch.block k hk hn)⟩⟩
theorem apart_of{v:Nat→Value}{b:Nat→Nat}(hb:∀j,j<7→b j≤b (j+1))(h:∀j,j<7→∀q,(v j).ownBlock=some q→b j≤q∧q<b (j+1)):
  ∀i j,i<7→j<7→i≠j→∀q,(v i).ownBlock=some q→(v j).ownBlock≠some q:=by
 have mono:∀d i,i+d≤7→b i≤b (i+d):=fun d=>by
  induction d with
  |zero=>intro i _;exact Nat.le_refl _
  |succ d ih=>intro i hi;exact Nat.le_trans (ih i (by omega)) (hb (i+d) (by omega))
 have key:∀i j,i<j→j<7→∀q,(v i).ownBlock=some q→(v j).ownBlock=some q→False:=fun i j hij hj q h1 h2=>by
  have h3:=h i (by omega) q h1;have h4:=h j hj q h2;have h5:=mono (j-(i+1)) (i+1) (by omega);rw[show i+1+(j-(i+1))=j by omega] at h5;omega
 intro i j hi hj hne q h1 h2
 rcases Nat.lt_or_gt_of_ne hne with h3|h3
 ·exact key i j h3 hj q h1 h2
 ·exact key j i h3 hi q h2 h1
theorem allSeven{P:Nat→Prop}(h0:P 0)(h1:P 1)(h2:P 2)(h3:P 3)(h4:P 4)(h5:P 5)(h6:P 6):∀j,j<7→P j:=fun j hj=>by
 have hcase:j=0∨j=1∨j=2∨j=3∨j=4∨j=5∨j=6:=by omega
 rcases hcase with rfl|rfl|rfl|rfl|rfl|rfl|rfl<;>assumption
theorem size_setS:(Tryz.prog.info? 72).map (·.size)=some 7:=by kernel_rfl
def SevenPost(w:World)(C:Nat)(h:ColH)(S:SetD)(e:Ending)(w':World):Prop:=
 ∃(v:Nat→Value) (g:Nat→Option Nat),e=.returned (.agg #[v 0,v 1,v 2,v 3,v 4,v 5,v 6])∧(∀j,j<7→OwnI w' w.heap.size (v j) (S.rows.getD j []))∧(∀i j,i<7→j<7→i≠j→∀q,(v i).ownBlock=some q→(v j).ownBlock≠some q)∧
  w'.heap[C]? =some (colO h (g 0) (g 1) (g 2) (g 3) (g 4) (g 5))∧Chg (fun j=>j=C) w w'
end

section
open Go.RowKit Go.Shelf
attribute [local go_sem] Oper.semAt_some wide_fn wide_depth wide_fnR wide_depthR
abbrev setZ:Obj:=.cells #[.slice none 0 0,.slice none 0 0,.slice none 0 0,.slice none 0 0,.slice none 0 0,.slice none 0 0,.slice none 0 0] 72 (0,0)
theorem sTile_any(h:ColH)(ps:List Int)(bs:List BlkR)(ls:List TileR)(f:Nat→Option Nat)(C k:Nat)(t:TileR)(wA w:World)(hA:Below wA.heap.size wA w)(hCA:wA.heap.size≤C)(hC:w.heap[C]? =some (colO h (f 0) (f 1) (f 2) (f 3) (f 4) (f 5)))
  (hps:Ints wA h.pa h.pn ps) (hpv:VarL ps) (hbl:BlksR wA h.ba h.bn bs) (hlv:LiveR wA (bksL bs) h.bn h.lv) (hna:∀b∈bs,∀r∈b.rs,r.na≤1000000) (htl:TilesOK wA h.ta h.tn ls) (hT:totL (tdOf ls)≤1000000) (hrt:rightB (tsOf (hOf bs)) (tdOf ls)=true)
  (ht:ls[k]? =some t) (htb:∀v∈t.d.blocks,0≤v∧v<h.bn):
  Calls Tryz.prog 43 #[.pointer (some ⟨C,0,none⟩),.int .i64 k] w (SevenPost w C h (setM ps bs (tdOf ls) k)):=by
 have HA:=Lib.hid hA
 have HPS:=Lib.hid hps
 have HPV:=Lib.hid hpv
 have HBL:=Lib.hid hbl
 have HLV:=Lib.hid hlv
 have HNA:=Lib.hid hna
 have HTL:=Lib.hid htl
 have HTOT:=Lib.hid hT
 have HRT:=Lib.hid hrt
 have HT:=Lib.hid ht
 have HTB:=Lib.hid htb
 have HC:=Lib.hid hC
 have hCw:=lt_of_heap hC
 clear hA hps hpv hbl hlv hna htl hT hrt ht htb hC
 go_enter Tryz.func43,Tryz.ntmps43
 go_upto_region 1 with (fail)
 generalize hw0:World.alloc _ _=w0
 have hb0:Below w.heap.size w w0:=by rw[←hw0];exact ext_trans (ext_alloc _ _) (ext_alloc _ _)
 have hp2:w0.heap[w.heap.size]? =some (.cells #[.pointer (some ⟨C,0,none⟩)] 109 (0,0)):=by rw[←hw0];exact block_ext (ext_alloc _ _) (heap_alloc_new _ _)
 have HZ:Hid (w0.heap[w.heap.size+1]? =some setZ):=by
  have:=heap_alloc_new (w.alloc (.cells #[.pointer (some ⟨C,0,none⟩)] 109)) setZ;rw[Hid,←hw0];simpa using this
 have HB0:=Lib.hid hb0
 have HS0:Hid (w0.heap.size=w.heap.size+2):=by rw[Hid,←hw0];simp
 have HP2:=Lib.hid hp2
 replace HC:=Lib.hid (block_ext hb0 HC.out)
 clear hw0 hb0 hp2
 generalize hP:w.heap.size=P at*
 have hn1:Nonempty (ExtW w0):=⟨⟨w0,Below.refl _ _⟩⟩
 have g1:∀n:ExtW w0,n.val.cell? ⟨P,0,none⟩=some (.pointer (some ⟨C,0,none⟩)):=fun n=>ExtW.cell (by rw[cell_of_row _ _ _ _ _ _ HP2.out];rfl) n
 have g4:∀n:ExtW w0,C<n.val.heap.size:=fun n=>Nat.lt_of_lt_of_le (lt_of_heap HC.out) n.ext.size
 refine region_mix (fun w'=>∃n':ExtW w0,w'=n'.val) [(0,18,none),(20,1,some (18,true)),(19,1,none)] (by kernel_rfl) (by kernel_rfl) ⟨⟨_,ext_drewN (Below.refl _ _) 1⟩,rfl⟩ ?_
 simp only[wpMix,List.take_succ_cons,List.take_zero,List.drop_succ_cons,List.drop_zero]
 repeat (go_big_quiet_step (fail))
 refine wpQuiet_nil ?_
 repeat (go_big_quiet_step (fail))
 refine wpQuiet_nil ?_
 refine wpOp_at rfl rfl ?_
 go_simp
 refine⟨⟨⟨_,ext_drewN (ext_alloc _ _) 1⟩,rfl⟩,?_⟩
 repeat (go_big_quiet_step (fail))
 refine wpQuiet_nil ?_
 clear g1 g4 hn1
 refine NoPanic.normal ?_
 generalize hw1:World.drew _=w1
 have HB1:Hid (Below w0.heap.size w0 w1):=by rw[←hw1];exact ext_drewN (ext_alloc _ _) 1
 have HS1:Hid (w1.heap[w0.heap.size]? =some (.cells #[.pointer (some ⟨C,6,none⟩),.pointer (some ⟨C,7,none⟩),.pointer (some ⟨C,8,none⟩),.pointer (some ⟨C,9,none⟩),.pointer (some ⟨C,10,none⟩),.pointer (some ⟨C,11,none⟩)] 144 (0,0))):=by rw[←hw1];exact heap_alloc_new w0 _
 clear hw1
 obtain⟨S,hS⟩:∃S,w0.heap.size=S:=⟨_,rfl⟩
 rw[hS] at HS1 HS0⊢
 have HSS:=Lib.hid hS
 clear hS
 go_wp2
 go_loopw [6,34] (fun _ q wr=>∃(k:Nat) (m:Nat→Option Nat),q=.int .i64 k∧k≤6∧Hid (wr.heap[C]? =some (colO h (newF m f k 0) (newF m f k 1) (newF m f k 2) (newF m f k 3) (newF m f k 4) (newF m f k 5)))∧Hid (∀j,j<k→∃q,m j=some q∧S≤q∧VHas wr q fun _=>False)∧Hid (∀i j,i<k→j<k→m i=m j→i=j)∧Hid (Chg (fun j=>j=C) w1 wr)) (fun _ q _=>6-(intOf q).toNat)
 case atStart=>exact⟨0,fun _=>none,rfl,by omega,by simp only[newF_zero];exact block_ext HB1.out HC.out,fun j hj=>by omega,fun i j hi=>by omega,Chg.refl _ _⟩
 case round=>
  obtain⟨k1,m,rfl,hk1,HCr,HM,HD,HG⟩:=hrel;by_cases hlt:k1<6
  ·have hcase:k1=0∨k1=1∨k1=2∨k1=3∨k1=4∨k1=5:=by omega
   have hs1:=(HG.out.block _ (lt_of_heap HS1.out) (by have h9:S=P+2:=HS0.out;omega)).trans HS1.out;have hlti:(k1:Int)<6:=by omega
   have c0:wr.cell? ⟨S,k1,none⟩=some (.pointer (some ⟨C,6+k1,none⟩)):=by
    rw[cell_of_row _ _ _ _ _ _ hs1];rcases hcase with rfl|rfl|rfl|rfl|rfl|rfl<;>rfl
   have c1:wr.cell? ⟨C,6+k1,none⟩=some (.map (newF m f k1 k1)):=by
    rw[cell_of_row _ _ _ _ _ _ HCr.out];exact colC_at h m f k1 k1 hlt
   have c2:wr.frozen? ⟨C,6+k1,none⟩=false:=frozen_of_row _ _ _ _ _ HCr.out;have hmm:= @run_makeMap Tryz.prog;have hcl:=lt_of_heap HCr.out;clear hcase hs1;go_wp2;obtain⟨W1,hW1⟩:∃W1,W1=wr.setCell ⟨C,6+k1,none⟩ (.map (some wr.heap.size)):=⟨_,rfl⟩
   have hz1:W1.heap.size=wr.heap.size:=by rw[hW1];simp
   have hst:S≤wr.heap.size:=by have:=HG.out.size;have:=HB1.out.size;have:=HSS.out;omega
   have hc1:Chg (fun j=>j=C) wr W1:=by rw[hW1];exact(Chg.refl (fun j=>j=C) wr).setCell (p:=⟨C,6+k1,none⟩) (.inl rfl) _
   have hC1:=heap_setCell_same wr C (6+k1) _ _ (.map (some wr.heap.size)) HCr.out;rw[←hW1] at hC1;have hb1:Below W1.heap.size W1 (W1.alloc (.map #[] 0)):=ext_alloc _ _;have hm1:VHas (W1.alloc (.map #[] 0)) wr.heap.size fun _=>False:=⟨[],by rw[←hz1];exact SetM.made _ _ _ _,fun y=>by simp⟩
   rw[←hW1];clear hW1;refine⟨⟨k1+1,fun j=>if j=k1 then some wr.heap.size else m j,by go_num,by omega,?_,fun j hj=>?_,fun i' j hi hj e=>?_,?_⟩,by simp[intOf];omega⟩
   ·rw[Hid,block_ext hb1 hC1];have:=colC_put h (fun j=>if j=k1 then some wr.heap.size else m j) f k1 hlt wr.heap.size (if_pos rfl);rw[newF_congr (m':=m) (k:=k1) fun j hj=>by rw[if_neg (by omega)]] at this;rw[this]
   ·by_cases e:j=k1
    ·subst e;refine⟨wr.heap.size,if_pos rfl,hst,?_⟩;exact hm1
    ·obtain⟨q,h1,h2,h3⟩:=HM.out j (by omega);exact⟨q,by show(if j=k1 then _ else m j)=some q;rw[if_neg e];exact h1,h2,(h3.chg hc1 fun e=>h3.ne HCr.out e.symm).ext hb1⟩
   ·by_cases e1:i'=k1
    ·by_cases e2:j=k1
     ·omega
     ·obtain⟨q,h1,h2,h3⟩:=HM.out j (by omega);simp only[if_pos e1,if_neg e2,h1] at e;injection e with e;have:=h3.lt;omega
    ·by_cases e2:j=k1
     ·obtain⟨q,h1,h2,h3⟩:=HM.out i' (by omega);simp only[if_neg e1,if_pos e2,h1] at e;injection e with e;have:=h3.lt;omega
     ·simp only[if_neg e1,if_neg e2] at e;exact HD.out i' j (by omega) (by omega) e
   ·exact(HG.out.trans hc1).of_ext hb1
  ·obtain rfl:k1=6:=by omega
   rw[show(((6:Nat)):Int)=6 from rfl]
   obtain⟨mm,hmm⟩:∃mm:Nat→Nat,∀j,j<6→m j=some (mm j)∧S≤mm j∧VHas wr (mm j) fun _=>False:=⟨fun j=>(m j).getD 0,fun j hj=>by
    obtain⟨q,h1,h2,h3⟩:=HM.out j hj;show m j=some ((m j).getD 0)∧S≤(m j).getD 0∧VHas wr ((m j).getD 0) _;rw[h1]
    exact⟨rfl,h2,h3⟩⟩
   have HAP:Hid (Apart6 mm):=fun i j hi hj e=>HD.out i j hi hj (by rw[(hmm i hi).1,(hmm j hj).1,e]);have hCr:=HCr.out;simp only[newF,Nat.reduceLT,if_true,(hmm 0 (by omega)).1,(hmm 1 (by omega)).1,(hmm 2 (by omega)).1,(hmm 3 (by omega)).1,(hmm 4 (by omega)).1,(hmm 5 (by omega)).1] at hCr;obtain⟨w2,hw2⟩:∃w2,w2=wr:=⟨_,rfl⟩
   subst hw2;have HC2:=Lib.hid hCr;have HCA:=Lib.hid (colAt_row hCr);have HMM:Hid (∀j,j<6→S≤mm j):=fun j hj=>(hmm j hj).2.1;have H60:Hid (C6 w2 mm (fun _ _=>False) w2):=⟨CK.refl _,fun j hj=>(hmm j hj).2.2,Chg.refl _ _⟩
   have HB2:Hid (Below wA.heap.size wA w2):=by
    have h1:=HA.out.size;have h2:=HB0.out.size;have h3:=HB1.out.size;exact HA.out.trans ((HB0.out.mono (by omega)).trans ((HB1.out.mono (by omega)).trans (HG.out.below (by omega) fun k e=>by rw[e];exact hCA)))
   have HR2:Hid (w2.heap[P]? =some (.cells #[.pointer (some ⟨C,0,none⟩)] 109 (0,0))∧w2.heap[P+1]? =some setZ):=by
    have h1:=lt_of_heap HP2.out;have h2:=lt_of_heap HZ.out;have h3:=HB1.out;refine⟨(HG.out.block _ (by have:=h3.size;omega) (by omega)).trans ((h3.block _ h1).trans HP2.out),(HG.out.block _ (by have:=h3.size;omega) (by omega)).trans ((h3.block _ h2).trans HZ.out)⟩
   have HCG:Hid (Chg (fun j=>j=C) w w2):=by
    have h1:Chg (fun j=>j=C) w w0:=(Chg.refl _ w).of_ext (by rw[hP];exact HB0.out);exact(h1.of_ext HB1.out).trans HG.out
   have HSZ:Hid (P+2≤S∧S≤w2.heap.size):=⟨by have:=HS0.out;omega,by have:=HG.out.size;have:=HB1.out.size;have:=HSS.out;omega⟩
   clear hCr hmm HCr HM HD HG hk1 hlt HB0 HB1 HS0 HS1 HSS HC HP2 HZ;obtain⟨t0,tb,ot,ht0,htok,hta,c0,c1,c2⟩:=(HTL.out.ext HB2.out).cells (show k<h.tn by have:=(List.getElem?_eq_some_iff.1 HT.out).1;rwa [HTL.out.1.1] at this);rw[HT.out] at ht0;cases ht0;have HTI:Hid (Ints w2 t.ba t.bn t.d.blocks):=htok.1;have htn:t.bn≤17592186044416:=htok.1.2.1;have hkt:k<h.tn:=by have:=(List.getElem?_eq_some_iff.1 HT.out).1;rwa [HTL.out.1.1] at this
   have d1:w2.cell? ⟨P,0,none⟩=some (.pointer (some ⟨C,0,none⟩)):=by rw[cell_of_row _ _ _ _ _ _ HR2.out.1];rfl
   have d2:w2.cell? ⟨C,5,none⟩=some (.slice (some ⟨tb,ot,none⟩) h.tn h.tc):=by rw[←hta];exact HCA.out 5 _ rfl
   have d3:=lt_of_heap HC2.out;have K1:=Lib.hid d1;clear htok hta c0 c1;go_wp2;clear d1 d2 c2;obtain⟨bl,hbl⟩:∃bl:List Nat,bl=t.d.blocks.map Int.toNat:=⟨_,rfl⟩
   have HBE:=Lib.hid hbl;clear hbl;have HAP4:Hid (Apart4 (mm 0) (mm 1) (mm 2) (mm 3)):=⟨fun e=>by have:=HAP.out 0 1 (by omega) (by omega) e;omega,fun e=>by have:=HAP.out 0 2 (by omega) (by omega) e;omega,fun e=>by have:=HAP.out 0 3 (by omega) (by omega) e;omega,fun e=>by have:=HAP.out 1 2 (by omega) (by omega) e;omega,fun e=>by have:=HAP.out 1 3 (by omega) (by omega) e;omega,fun e=>by have:=HAP.out 2 3 (by omega) (by omega) e;omega⟩
   go_loopw [8,51] (fun _ q wr=>∃k:Nat,q=.int .i64 k∧k≤t.bn∧Hid (CS w2 (mm 0) (mm 1) (mm 2) (mm 3) (fun y=>y∈(bl.take k).flatMap (refM bs)) (fun y=>y∈(bl.take k).flatMap (defM ps bs)) (fun y=>y∈(bl.take k).flatMap (livM bs)) (fun y=>y∈(bl.take k).flatMap (acrM bs)) wr)) (fun _ q _=>t.bn-(intOf q).toNat)
   case atStart=>exact⟨0,rfl,by omega,⟨CK.refl _,(H60.out.v 0 (by omega)).congr fun y=>by simp,(H60.out.v 1 (by omega)).congr fun y=>by simp,(H60.out.v 2 (by omega)).congr fun y=>by simp,(H60.out.v 3 (by omega)).congr fun y=>by simp,Chg.refl _ _⟩⟩
   case round=>
    obtain⟨k1,rfl,hk1,HR⟩:=hrel;by_cases hlt:k1<t.bn
    ·obtain⟨bi,oi,htb,hcell,hw1,hw2⟩:=(HTI.out.ck HR.out.ck).2.2 k1 hlt;rw[htb] at *;clear htb;have hm:=HTB.out (t.d.blocks.getD k1 0) (by rw[List.getD_eq_getElem?_getD,List.getElem?_eq_getElem (by rw[HTI.out.1];exact hlt)];exact List.getElem_mem _);obtain⟨b,hb⟩:∃b:Nat,t.d.blocks.getD k1 0=(b:Int):=⟨(t.d.blocks.getD k1 0).toNat,by omega⟩
     rw[hb] at hcell hm;have HBK:Hid (bl[k1]? =some b):=by
      have:t.d.blocks[k1]? =some (b:Int):=by rw[←hb,List.getD_eq_getElem?_getD,List.getElem?_eq_getElem (by rw[HTI.out.1];exact hlt)];rfl
      rw[HBE.out,Hid,List.getElem?_map,this];rfl
     obtain⟨x,hx⟩:∃x,bs[b]? =some x:=⟨_,List.getElem?_eq_getElem (by rw[HBL.out.1.1];omega)⟩
     have HX:=Lib.hid hx;have d1:=HR.out.ck _ _ _ K1.out;have HS:Hid (∀{f:Nat→List Int} (y:Int),y∈(bl.take (k1+1)).flatMap f↔y∈(bl.take k1).flatMap f∨y∈f b):=fun {f} y=>by rw[List.take_add_one,HBK.out,List.flatMap_append];simp
     clear hb hx hm hw1 hw2
     go_wp2_with (
      (go_at_call 62
       refine(sBlock_any h ps bs (mm 0) (mm 1) (mm 2) (mm 3) (some (mm 4)) (some (mm 5)) C b x _ _ _ _ wr (HCA.out.ck HR.out.ck) ((HPS.out.ext HB2.out).ck HR.out.ck) ((HBL.out.ext HB2.out).ck HR.out.ck) ((HLV.out.ext HB2.out).ck HR.out.ck) HX.out (HNA.out x (List.mem_of_getElem? HX.out)) HAP4.out HR.out.fr HR.out.fd HR.out.fl HR.out.fa).mono ?_;rintro e w3 ⟨rfl,hc3⟩;have HC3:Hid (CS w2 (mm 0) (mm 1) (mm 2) (mm 3) _ _ _ _ w3):=⟨HR.out.ck.trans hc3.ck,hc3.fr,hc3.fd,hc3.fl,hc3.fa,HR.out.ch.trans hc3.ch⟩
       clear hc3))
     exact⟨⟨k1+1,by go_num,by omega,HC3.out.congr (fun y=>(HS.out y).symm) (fun y=>(HS.out y).symm) (fun y=>(HS.out y).symm) (fun y=>(HS.out y).symm)⟩,by simp[intOf];omega⟩
    ·obtain rfl:k1=t.bn:=by omega
     have hbt:bl.take t.bn=bl:=List.take_of_length_le (by rw[HBE.out,List.length_map,HTI.out.1];exact Nat.le_refl _);have hr0:=HR.out;rw[hbt] at hr0;have H6:=Lib.hid (hr0.to6 HAP.out (H60.out.v 4 (by omega)) (H60.out.v 5 (by omega)));clear hr0 HR hbt hk1 hlt;have HDV:Hid (VarL (bl.flatMap (defM ps bs))):=VarL.flat fun b _=>defM_var HPV.out b;have hn1:Nonempty (ExtW wr):=⟨⟨wr,Below.refl _ _⟩⟩
     have hck:=H6.out.ck;have g1:∀n:ExtW wr,n.val.cell? ⟨P,0,none⟩=some (.pointer (some ⟨C,0,none⟩)):=fun n=>hck.x K1.out n;have g2:∀n:ExtW wr,n.val.cell? ⟨C,6,none⟩=some (.map (some (mm 0))):=fun n=>hck.x (HCA.out 6 _ rfl) n;have g3:∀n:ExtW wr,n.val.cell? ⟨C,7,none⟩=some (.map (some (mm 1))):=fun n=>hck.x (HCA.out 7 _ rfl) n;have g4:∀n:ExtW wr,C<n.val.heap.size:=fun n=>hck.xl (HCA.out 6 _ rfl) n;clear hck;go_upto_region 11 with (fail)
     refine region_mix (fun w'=>∃n':ExtW wr,w'=n'.val) [(0,8,some (8,true)),(9,0,some (9,false))] (by kernel_rfl) (by kernel_rfl) ⟨⟨_,ext_drewN (Below.refl _ _) 1⟩,rfl⟩ ?_;simp only[wpMix,List.take_succ_cons,List.take_zero,List.drop_succ_cons,List.drop_zero]
     repeat (go_big_quiet_step (fail))
     refine wpQuiet_nil ?_;clear g1 g2 g3 g4 hn1;refine wpOp_at rfl rfl ?_;go_simp;refine(sList_any (mm 1) _ (bl.flatMap (defM ps bs)) wr.drew (show VHas wr.drew (mm 1) (fun y=>y∈bl.flatMap (defM ps bs)) from H6.out.v 1 (by omega)) (fun _=>Iff.rfl) HDV.out).mono ?_;rintro e w3 ⟨v,rfl,ho,hb3⟩;obtain⟨av,cv,rfl⟩:=ho.form;have hb3:=unDrew1 hb3;have HI3:=Lib.hid ho.ints;have H63:=Lib.hid (H6.out.ext hb3);refine⟨⟨⟨w3,hb3⟩,rfl⟩,?_⟩;clear ho hb3 H6;refine wpQuiet_nil ?_;refine wpOp_at rfl rfl ?_;go_simp;refine(sAdd_any (mm 0) _ av _ cv (risL (bl.flatMap (defM ps bs))) w3 (show VHas w3 (mm 0) (fun y=>y∈bl.flatMap (refM bs)) from H63.out.v 0 (by omega)) HI3.out).mono ?_;rintro e w4 ⟨rfl,hv4,hg4⟩
     have H64:=Lib.hid (H63.out.turn0 HAP.out (hv4.congr (q:=fun y=>y∈bl.flatMap (refM bs)++bl.flatMap (defM ps bs)) fun y=>by
      rw[List.mem_append,risL_mem]
      exact⟨fun h=>h.imp id fun z=>z.2.2,fun h=>h.imp id fun z=>⟨(HDV.out y z).1,(HDV.out y z).2,z⟩⟩) (chg_of_grown hg4))
     clear hv4 hg4 H63 HI3;refine NoPanic.normal ?_;go_upto_region 12 with (fail)
     have hn1:Nonempty (ExtW w4):=⟨⟨w4,Below.refl _ _⟩⟩
     have hck:=H64.out.ck;have g1:∀n:ExtW w4,n.val.cell? ⟨P,0,none⟩=some (.pointer (some ⟨C,0,none⟩)):=fun n=>hck.x K1.out n;have g2:∀n:ExtW w4,n.val.cell? ⟨C,3,none⟩=some (.slice h.pa h.pn h.pc):=fun n=>hck.x (HCA.out 3 _ rfl) n;have g3:∀n:ExtW w4,n.val.cell? ⟨C,4,none⟩=some (.slice h.ba h.bn h.bc):=fun n=>hck.x (HCA.out 4 _ rfl) n;have g5:∀n:ExtW w4,n.val.cell? ⟨C,5,none⟩=some (.slice h.ta h.tn h.tc):=fun n=>hck.x (HCA.out 5 _ rfl) n;have g4:∀n:ExtW w4,C<n.val.heap.size:=fun n=>hck.xl (HCA.out 6 _ rfl) n;refine region_mix (fun w'=>∃n':ExtW w4,w'=n'.val) [(0,9,some (9,true)),(10,5,none)] (by kernel_rfl) (by kernel_rfl) ⟨⟨_,ext_drewN (Below.refl _ _) 1⟩,rfl⟩ ?_;simp only[wpMix,List.take_succ_cons,List.take_zero,List.drop_succ_cons,List.drop_zero]
     repeat (go_big_quiet_step (fail))
     refine wpQuiet_nil ?_;clear g1 g2 g3 g4 g5 hn1;refine wpOp_at rfl rfl ?_;go_simp;refine(eInto_any h.pa h.pn h.pc h.ba h.bn h.bc (hOf bs) h.ta h.tn h.tc ls k w4.drew (show BlksOK w4.drew _ _ _ from ((HBL.out.ext HB2.out).ck hck).x.1) (show TilesOK w4.drew _ _ _ from (HTL.out.ext HB2.out).ck hck) HTOT.out).mono ?_;rintro e w5 ⟨v,rfl,hb5,_,hrow⟩;obtain⟨hs,hrow,hmap⟩:=hrow HRT.out;obtain⟨av,cv,rfl⟩:=hrow.1.form;have hb5:=unDrew1 hb5;have H65:=Lib.hid (H64.out.ext hb5);have HRC:=Lib.hid (hrow.1.recs csR_len);have HRX:Hid (∀y∈hs,(0≤y.r.e.to∧y.r.e.to<h.bn)∧(∃a n c,y.lv=.slice a n c)∧∃a n c,y.en=.slice a n c):=fun y hy=>by
      have h1:=rows_to HRT.out (show y.r∈rowsL _ _ _ by rw[←hmap];exact List.mem_map.2 ⟨y,hy,rfl⟩);rw[tsOf_len] at h1;have h2:(hOf bs).length=h.bn:=by unfold hOf;rw[List.length_map];exact HBL.out.1.1
      rw[h2] at h1;obtain⟨h3,h4,_⟩:=hrow.2 y hy;obtain⟨a3,c3,e3⟩:=h3.form;obtain⟨a4,c4,e4⟩:=h4.form;exact⟨h1,⟨a3,_,c3,e3⟩,⟨a4,_,c4,e4⟩⟩
     have HMP:=Lib.hid hmap;refine⟨⟨⟨w5,hb5⟩,rfl⟩,?_⟩;clear hb5 hrow hmap hck H64
     repeat (go_big_quiet_step (fail))
     refine wpQuiet_nil ?_;refine NoPanic.normal ?_;go_upto_region 13 with (fail)
     have hn1:Nonempty (ExtW w5):=⟨⟨w5,Below.refl _ _⟩⟩
     have hck:=H65.out.ck;have g1:∀n:ExtW w5,n.val.cell? ⟨P,0,none⟩=some (.pointer (some ⟨C,0,none⟩)):=fun n=>hck.x K1.out n;have g2:∀n:ExtW w5,n.val.cell? ⟨C,10,none⟩=some (.map (some (mm 4))):=fun n=>hck.x (HCA.out 10 _ rfl) n;have g4:∀n:ExtW w5,C<n.val.heap.size:=fun n=>hck.xl (HCA.out 6 _ rfl) n;refine region_mix (fun w'=>∃n':ExtW w5,w'=n'.val) [(0,6,some (6,false))] (by kernel_rfl) (by kernel_rfl) ⟨⟨_,ext_drewN (Below.refl _ _) 1⟩,rfl⟩ ?_;simp only[wpMix,List.take_succ_cons,List.take_zero,List.drop_succ_cons,List.drop_zero]
     repeat (go_big_quiet_step (fail))
     refine wpQuiet_nil ?_;clear g1 g2 g4 hn1;refine wpOp_at rfl rfl ?_;go_simp;refine(sEdges_any h bs C (mm 4) _ av hs.length cv hs w5.drew (show VHas w5.drew (mm 4) (fun _=>False) from H65.out.v 4 (by omega)) (show w5.drew.cell? _=_ from hck _ _ _ (HCA.out 0 _ rfl)) (show IntsAt w5.drew _ _ _ from (HLV.out.1.ext HB2.out).ck hck) (show Recs 5 csR w5.drew _ _ _ from HRC.out) HRX.out).mono ?_;rintro e w6 ⟨rfl,hv6,hg6⟩;have H66:=Lib.hid (H65.out.turn4 HAP.out (hv6.congr (q:=fun y=>y∈edgM bs (rowsL (tsOf (hOf bs)) (tdOf ls) (intoB (tdOf ls) k))) fun y=>by rw[HMP.out];simp) ⟨hg6.os,hg6.tape,hg6.output,hg6.size,hg6.block⟩);clear hv6 hg6 hck H65 HRC HRX HMP;refine NoPanic.normal ?_;go_upto_region 14 with (fail)
     have hn1:Nonempty (ExtW w6):=⟨⟨w6,Below.refl _ _⟩⟩
     have hck:=H66.out.ck;have g1:∀n:ExtW w6,n.val.cell? ⟨P,0,none⟩=some (.pointer (some ⟨C,0,none⟩)):=fun n=>hck.x K1.out n;have g2:∀n:ExtW w6,n.val.cell? ⟨C,3,none⟩=some (.slice h.pa h.pn h.pc):=fun n=>hck.x (HCA.out 3 _ rfl) n;have g3:∀n:ExtW w6,n.val.cell? ⟨C,4,none⟩=some (.slice h.ba h.bn h.bc):=fun n=>hck.x (HCA.out 4 _ rfl) n;have g5:∀n:ExtW w6,n.val.cell? ⟨C,5,none⟩=some (.slice h.ta h.tn h.tc):=fun n=>hck.x (HCA.out 5 _ rfl) n;have g4:∀n:ExtW w6,C<n.val.heap.size:=fun n=>hck.xl (HCA.out 6 _ rfl) n;refine region_mix (fun w'=>∃n':ExtW w6,w'=n'.val) [(0,9,some (9,true)),(10,5,none)] (by kernel_rfl) (by kernel_rfl) ⟨⟨_,ext_drewN (Below.refl _ _) 1⟩,rfl⟩ ?_;simp only[wpMix,List.take_succ_cons,List.take_zero,List.drop_succ_cons,List.drop_zero]
     repeat (go_big_quiet_step (fail))
     refine wpQuiet_nil ?_;clear g1 g2 g3 g4 g5 hn1;refine wpOp_at rfl rfl ?_;go_simp;refine(eOut_any h.pa h.pn h.pc h.ba h.bn h.bc (hOf bs) h.ta h.tn h.tc ls k w6.drew (show BlksOK w6.drew _ _ _ from ((HBL.out.ext HB2.out).ck hck).x.1) (show TilesOK w6.drew _ _ _ from (HTL.out.ext HB2.out).ck hck) HTOT.out).mono ?_;rintro e w7 ⟨v,rfl,hb5,_,hrow⟩;obtain⟨hs,hrow,hmap⟩:=hrow HRT.out;obtain⟨av,cv,rfl⟩:=hrow.1.form;have hb5:=unDrew1 hb5;have H67:=Lib.hid (H66.out.ext hb5);have HRC:=Lib.hid (hrow.1.recs csR_len);have HRX:Hid (∀y∈hs,(0≤y.r.e.to∧y.r.e.to<h.bn)∧(∃a n c,y.lv=.slice a n c)∧∃a n c,y.en=.slice a n c):=fun y hy=>by
      have h1:=rows_to HRT.out (show y.r∈rowsL _ _ _ by rw[←hmap];exact List.mem_map.2 ⟨y,hy,rfl⟩);rw[tsOf_len] at h1;have h2:(hOf bs).length=h.bn:=by unfold hOf;rw[List.length_map];exact HBL.out.1.1
      rw[h2] at h1;obtain⟨h3,h4,_⟩:=hrow.2 y hy;obtain⟨a3,c3,e3⟩:=h3.form;obtain⟨a4,c4,e4⟩:=h4.form;exact⟨h1,⟨a3,_,c3,e3⟩,⟨a4,_,c4,e4⟩⟩
     have HMP:=Lib.hid hmap;refine⟨⟨⟨w7,hb5⟩,rfl⟩,?_⟩;clear hb5 hrow hmap hck H66
     repeat (go_big_quiet_step (fail))
     refine wpQuiet_nil ?_;refine NoPanic.normal ?_;go_upto_region 15 with (fail)
     have hn1:Nonempty (ExtW w7):=⟨⟨w7,Below.refl _ _⟩⟩
     have hck:=H67.out.ck;have g1:∀n:ExtW w7,n.val.cell? ⟨P,0,none⟩=some (.pointer (some ⟨C,0,none⟩)):=fun n=>hck.x K1.out n;have g2:∀n:ExtW w7,n.val.cell? ⟨C,11,none⟩=some (.map (some (mm 5))):=fun n=>hck.x (HCA.out 11 _ rfl) n;have g4:∀n:ExtW w7,C<n.val.heap.size:=fun n=>hck.xl (HCA.out 6 _ rfl) n;refine region_mix (fun w'=>∃n':ExtW w7,w'=n'.val) [(0,6,some (6,false))] (by kernel_rfl) (by kernel_rfl) ⟨⟨_,ext_drewN (Below.refl _ _) 1⟩,rfl⟩ ?_;simp only[wpMix,List.take_succ_cons,List.take_zero,List.drop_succ_cons,List.drop_zero]
     repeat (go_big_quiet_step (fail))
     refine wpQuiet_nil ?_;clear g1 g2 g4 hn1;refine wpOp_at rfl rfl ?_;go_simp;refine(sEdges_any h bs C (mm 5) _ av hs.length cv hs w7.drew (show VHas w7.drew (mm 5) (fun _=>False) from H67.out.v 5 (by omega)) (show w7.drew.cell? _=_ from hck _ _ _ (HCA.out 0 _ rfl)) (show IntsAt w7.drew _ _ _ from (HLV.out.1.ext HB2.out).ck hck) (show Recs 5 csR w7.drew _ _ _ from HRC.out) HRX.out).mono ?_;rintro e w8 ⟨rfl,hv6,hg6⟩;have H68:=Lib.hid (H67.out.turn5 HAP.out (hv6.congr (q:=fun y=>y∈edgM bs (rowsL (tsOf (hOf bs)) (tdOf ls) (outB (tdOf ls) k))) fun y=>by rw[HMP.out];simp) ⟨hg6.os,hg6.tape,hg6.output,hg6.size,hg6.block⟩);clear hv6 hg6 hck H67 HRC HRX HMP;refine NoPanic.normal ?_;have d1:w8.cell? ⟨P,0,none⟩=some (.pointer (some ⟨C,0,none⟩)):=H68.out.ck _ _ _ K1.out;have d2:w8.cell? ⟨C,8,none⟩=some (.map (some (mm 2))):=H68.out.ck _ _ _ (HCA.out 8 _ rfl);have d3:=H68.out.ck.l (HCA.out 8 _ rfl)
     go_upto_region 18 with (first
      |(go_at_call 66
        refine(cloneV_any (mm 2) (fun y=>y∈bl.flatMap (livM bs)) w8 (H68.out.v 2 (by omega))).mono ?_;rintro e w9 ⟨rfl,hv9,hb9⟩;have HV9:=Lib.hid hv9;have HB9:=Lib.hid hb9
        clear hv9 hb9)
      |(go_at_call 67
        refine(deleteV_any w8.heap.size (mm 0) (fun y=>y∈bl.flatMap (livM bs)) (bl.flatMap (refM bs)++bl.flatMap (defM ps bs)) P C w9 HV9.out (cell_ext HB9.out d1) (cell_ext HB9.out (H68.out.ck _ _ _ (HCA.out 6 _ rfl))) ((H68.out.v 0 (by omega)).ext HB9.out) (fun e=>by have:=(H68.out.v 0 (by omega)).lt;omega)).mono ?_;rintro e w10 ⟨rfl,hv10,hg10⟩;have HV10:=Lib.hid hv10;have HG10:=Lib.hid hg10
        clear hv10 hg10))
     have H610:Hid (C6 w2 mm (p6 (fun y=>y∈bl.flatMap (refM bs)++bl.flatMap (defM ps bs)) (fun y=>y∈bl.flatMap (defM ps bs)) (fun y=>y∈bl.flatMap (livM bs)) (fun y=>y∈bl.flatMap (acrM bs)) (fun y=>y∈edgM bs (rowsL (tsOf (hOf bs)) (tdOf ls) (intoB (tdOf ls) k))) (fun y=>y∈edgM bs (rowsL (tsOf (hOf bs)) (tdOf ls) (outB (tdOf ls) k)))) w10):=
      (H68.out.ext HB9.out).other H68.out.ch.size (fun j hj e=>by have:=(H68.out.v j hj).lt;omega) HV9.out HG10.out
     have HQ:Hid (VHas w10 w8.heap.size fun y=>y∈lessL (bl.flatMap (livM bs)) (bl.flatMap (refM bs)++bl.flatMap (defM ps bs))):=HV10.out.congr fun y=>by unfold lessL;rw[List.mem_filter];simp
     generalize w8.heap.size=q9 at *;clear d1 d2 d3 HV9 HB9 HV10 HG10 H68;have HR0:Hid (VarL (bl.flatMap (refM bs)++bl.flatMap (defM ps bs))):=VarL.append (VarL.flat fun b _=>refM_var bs b) HDV.out;have HR2':Hid (VarL (bl.flatMap (livM bs))):=VarL.flat fun b _=>livM_var bs b;have HR3:Hid (VarL (bl.flatMap (acrM bs))):=VarL.flat fun b _=>acrM_var bs b;have hn1:Nonempty (ExtW w10):=⟨⟨w10,Below.refl _ _⟩⟩
     have hck:=H610.out.ck;have g1:∀n:ExtW w10,n.val.cell? ⟨P,0,none⟩=some (.pointer (some ⟨C,0,none⟩)):=fun n=>hck.x K1.out n;have g2:∀n:ExtW w10,n.val.cell? ⟨C,6,none⟩=some (.map (some (mm 0))):=fun n=>hck.x (HCA.out 6 _ rfl) n;have g3:∀n:ExtW w10,n.val.cell? ⟨C,7,none⟩=some (.map (some (mm 1))):=fun n=>hck.x (HCA.out 7 _ rfl) n;have g4:∀n:ExtW w10,n.val.cell? ⟨C,8,none⟩=some (.map (some (mm 2))):=fun n=>hck.x (HCA.out 8 _ rfl) n;have g5:∀n:ExtW w10,n.val.cell? ⟨C,9,none⟩=some (.map (some (mm 3))):=fun n=>hck.x (HCA.out 9 _ rfl) n;have g6:∀n:ExtW w10,n.val.cell? ⟨C,10,none⟩=some (.map (some (mm 4))):=fun n=>hck.x (HCA.out 10 _ rfl) n;have g7:∀n:ExtW w10,n.val.cell? ⟨C,11,none⟩=some (.map (some (mm 5))):=fun n=>hck.x (HCA.out 11 _ rfl) n;have g8:∀n:ExtW w10,C<n.val.heap.size:=fun n=>hck.xl (HCA.out 6 _ rfl) n;clear hck;refine region_mix (fun w'=>∃n':ExtW w10,w'=n'.val) [(0,4,none),(5,4,none),(10,4,none),(15,4,none),(20,4,none),(25,4,none),(30,1,some (4,true)),(9,0,some (9,true)),(14,0,some (14,true)),(19,0,some (19,true)),(24,0,some (24,true)),(29,0,some (29,true)),(31,0,some (31,true)),(32,1,none),(33,0,some (33,false))] (by kernel_rfl) (by kernel_rfl) ⟨⟨_,ext_drewN (Below.refl _ _) 1⟩,rfl⟩ ?_;simp only[wpMix,List.take_succ_cons,List.take_zero,List.drop_succ_cons,List.drop_zero]
     repeat (first|refine wpQuiet_nil ?_|go_big_quiet_step (fail))
     clear g1 g2 g3 g4 g5 g6 g7 g8 hn1;refine wpOp_at rfl rfl ?_;go_simp;refine(sList_any (mm 0) _ (bl.flatMap (refM bs)++bl.flatMap (defM ps bs)) w10.drew (show VHas w10.drew (mm 0) (fun y=>y∈(bl.flatMap (refM bs)++bl.flatMap (defM ps bs))) from (H610.out.v 0 (by omega))) (fun _=>Iff.rfl) HR0.out).mono ?_;rintro e w11 ⟨v0,rfl,ho,hb⟩;have hb:=unDrew1 hb;have HBL1:Hid (Below w10.heap.size w10 w11):=hb;have HO0:Hid (OwnI w11 w10.heap.size v0 (risL (bl.flatMap (refM bs)++bl.flatMap (defM ps bs)))):=ho;obtain⟨a0,c0,rfl⟩:=ho.form;refine⟨⟨⟨w11,HBL1.out⟩,rfl⟩,?_⟩;clear ho hb
     repeat (first|refine wpQuiet_nil ?_|go_big_quiet_step (fail))
     refine wpOp_at rfl rfl ?_;go_simp;refine(sList_any (mm 1) _ (bl.flatMap (defM ps bs)) w11 (show VHas w11 (mm 1) (fun y=>y∈(bl.flatMap (defM ps bs))) from ((H610.out.ext HBL1.out).v 1 (by omega))) (fun _=>Iff.rfl) HDV.out).mono ?_;rintro e w12 ⟨v1,rfl,ho,hb⟩;have HBL2:Hid (Below w10.heap.size w10 w12):=ext_trans HBL1.out hb;have HBM1:=Lib.hid hb;have HO1:Hid (OwnI w12 w11.heap.size v1 (risL (bl.flatMap (defM ps bs)))):=ho;obtain⟨a1,c1,rfl⟩:=ho.form;refine⟨⟨⟨w12,HBL2.out⟩,rfl⟩,?_⟩;clear ho hb
     repeat (first|refine wpQuiet_nil ?_|go_big_quiet_step (fail))
     refine wpOp_at rfl rfl ?_;go_simp;refine(sList_any (mm 2) _ (bl.flatMap (livM bs)) w12 (show VHas w12 (mm 2) (fun y=>y∈(bl.flatMap (livM bs))) from ((H610.out.ext HBL2.out).v 2 (by omega))) (fun _=>Iff.rfl) HR2'.out).mono ?_;rintro e w13 ⟨v2,rfl,ho,hb⟩;have HBL3:Hid (Below w10.heap.size w10 w13):=ext_trans HBL2.out hb;have HBM2:=Lib.hid hb;have HO2:Hid (OwnI w13 w12.heap.size v2 (risL (bl.flatMap (livM bs)))):=ho;obtain⟨a2,c2,rfl⟩:=ho.form;refine⟨⟨⟨w13,HBL3.out⟩,rfl⟩,?_⟩;clear ho hb
     repeat (first|refine wpQuiet_nil ?_|go_big_quiet_step (fail))
     refine wpOp_at rfl rfl ?_;go_simp;refine(sList_any (mm 3) _ (bl.flatMap (acrM bs)) w13 (show VHas w13 (mm 3) (fun y=>y∈(bl.flatMap (acrM bs))) from ((H610.out.ext HBL3.out).v 3 (by omega))) (fun _=>Iff.rfl) HR3.out).mono ?_;rintro e w14 ⟨v3,rfl,ho,hb⟩;have HBL4:Hid (Below w10.heap.size w10 w14):=ext_trans HBL3.out hb;have HBM3:=Lib.hid hb;have HO3:Hid (OwnI w14 w13.heap.size v3 (risL (bl.flatMap (acrM bs)))):=ho;obtain⟨a3,c3,rfl⟩:=ho.form;refine⟨⟨⟨w14,HBL4.out⟩,rfl⟩,?_⟩;clear ho hb
     repeat (first|refine wpQuiet_nil ?_|go_big_quiet_step (fail))
     refine wpOp_at rfl rfl ?_;go_simp;refine(sList_any (mm 4) _ (edgM bs (rowsL (tsOf (hOf bs)) (tdOf ls) (intoB (tdOf ls) k))) w14 (show VHas w14 (mm 4) (fun y=>y∈(edgM bs (rowsL (tsOf (hOf bs)) (tdOf ls) (intoB (tdOf ls) k)))) from ((H610.out.ext HBL4.out).v 4 (by omega))) (fun _=>Iff.rfl) (edgM_var bs _)).mono ?_;rintro e w15 ⟨v4,rfl,ho,hb⟩;have HBL5:Hid (Below w10.heap.size w10 w15):=ext_trans HBL4.out hb;have HBM4:=Lib.hid hb;have HO4:Hid (OwnI w15 w14.heap.size v4 (risL (edgM bs (rowsL (tsOf (hOf bs)) (tdOf ls) (intoB (tdOf ls) k))))):=ho;obtain⟨a4,c4,rfl⟩:=ho.form;refine⟨⟨⟨w15,HBL5.out⟩,rfl⟩,?_⟩;clear ho hb
     repeat (first|refine wpQuiet_nil ?_|go_big_quiet_step (fail))
     refine wpOp_at rfl rfl ?_;go_simp;refine(sList_any (mm 5) _ (edgM bs (rowsL (tsOf (hOf bs)) (tdOf ls) (outB (tdOf ls) k))) w15 (show VHas w15 (mm 5) (fun y=>y∈(edgM bs (rowsL (tsOf (hOf bs)) (tdOf ls) (outB (tdOf ls) k)))) from ((H610.out.ext HBL5.out).v 5 (by omega))) (fun _=>Iff.rfl) (edgM_var bs _)).mono ?_;rintro e w16 ⟨v5,rfl,ho,hb⟩;have HBL6:Hid (Below w10.heap.size w10 w16):=ext_trans HBL5.out hb;have HBM5:=Lib.hid hb;have HO5:Hid (OwnI w16 w15.heap.size v5 (risL (edgM bs (rowsL (tsOf (hOf bs)) (tdOf ls) (outB (tdOf ls) k))))):=ho;obtain⟨a5,c5,rfl⟩:=ho.form;refine⟨⟨⟨w16,HBL6.out⟩,rfl⟩,?_⟩;clear ho hb
     repeat (first|refine wpQuiet_nil ?_|go_big_quiet_step (fail))
     refine wpOp_at rfl rfl ?_;go_simp;refine(sList_any q9 _ (lessL (bl.flatMap (livM bs)) (bl.flatMap (refM bs)++bl.flatMap (defM ps bs))) w16 (show VHas w16 q9 (fun y=>y∈(lessL (bl.flatMap (livM bs)) (bl.flatMap (refM bs)++bl.flatMap (defM ps bs)))) from (HQ.out.ext HBL6.out)) (fun _=>Iff.rfl) (less_var HR2'.out _)).mono ?_;rintro e w17 ⟨v6,rfl,ho,hb⟩;have HBL7:Hid (Below w10.heap.size w10 w17):=ext_trans HBL6.out hb;have HBM6:=Lib.hid hb;have HO6:Hid (OwnI w17 w16.heap.size v6 (risL (lessL (bl.flatMap (livM bs)) (bl.flatMap (refM bs)++bl.flatMap (defM ps bs))))):=ho;obtain⟨a6,c6,rfl⟩:=ho.form;refine⟨⟨⟨w17,HBL7.out⟩,rfl⟩,?_⟩;clear ho hb
     repeat (first|refine wpQuiet_nil ?_|go_big_quiet_step (fail))
     refine wpOp_at rfl rfl ?_;have hsz:=H610.out.ch.size;have hS2:=HSZ.out;have hz2:=lt_of_heap HR2.out.2;have hz10:w10.heap[P+1]? =some setZ:=(H610.out.ch.block _ hz2 fun⟨j,hj,e⟩=>by have:=HMM.out j hj;omega).trans HR2.out.2;have hz17:=block_ext HBL7.out hz10;have hC17:w17.heap[C]? =some (colO h (some (mm 0)) (some (mm 1)) (some (mm 2)) (some (mm 3)) (some (mm 4)) (some (mm 5))):=block_ext HBL7.out ((H610.out.ch.block _ (lt_of_heap HC2.out) fun⟨j,hj,e⟩=>(H60.out.v j hj).ne HC2.out e).trans HC2.out);have hcg:Chg (fun j=>j=C) w w17:=((HCG.out.thn H610.out.ch fun q ⟨j,hj,e⟩=>.inr (by have:=HMM.out j hj;omega)).of_ext HBL7.out)
     refine wp_store_row 72 _ _ rfl (P+1) #[.slice a0 _ c0,.slice a1 _ c1,.slice a2 _ c2,.slice a3 _ c3,.slice a4 _ c4,.slice a5 _ c5,.slice a6 _ c6] rfl rfl 72 _ hz17 size_setS rfl (by simp[Value.oneCell']) ?_;refine NoPanic.normal ?_;have hr18:=setRow_heap w17 (P+1) _ #[.slice a0 (risL (bl.flatMap (refM bs)++bl.flatMap (defM ps bs))).length c0,.slice a1 (risL (bl.flatMap (defM ps bs))).length c1,.slice a2 (risL (bl.flatMap (livM bs))).length c2,.slice a3 (risL (bl.flatMap (acrM bs))).length c3,.slice a4 (risL (edgM bs (rowsL (tsOf (hOf bs)) (tdOf ls) (intoB (tdOf ls) k)))).length c4,.slice a5 (risL (edgM bs (rowsL (tsOf (hOf bs)) (tdOf ls) (outB (tdOf ls) k)))).length c5,.slice a6 (risL (lessL (bl.flatMap (livM bs)) (bl.flatMap (refM bs)++bl.flatMap (defM ps bs)))).length c6] _ _ hz17;generalize hw18:World.setRow _ _ _=w18 at hr18⊢;have hc18:Chg (fun j=>j=P+1) w17 w18:=by rw[←hw18];exact⟨rfl,rfl,rfl,by simp[World.setRow],fun j _ hne=>setRow_other _ _ _ _ hne⟩
     have OW:∀{W:World} {B:Nat} {v:Value} {xs:List Int},OwnI W B v xs→P+2≤B→Below W.heap.size W w17→OwnI w18 P v xs:=fun {W B v xs} ho hB hb=>
      let h1:=(ho.ext hb).mono (show P≤B by omega)
      ⟨ownsRow_chg h1.1 hc18 (fun g e hS=>by have:=(ho.1.lt g e).1;omega),h1.2⟩
     clear hw18;go_wp2;have HE:blkM (tdOf ls) k=bl:=by
      unfold blkM;rw[show(tdOf ls).getD k ⟨0,0,[]⟩=t.d from tdOf_at ls k t HT.out,HBE.out]
     have hb67:=HBM6.out;have hb57:=ext_trans HBM5.out hb67;have hb47:=ext_trans HBM4.out hb57;have hb37:=ext_trans HBM3.out hb47;have hb27:=ext_trans HBM2.out hb37;have hb17:=ext_trans HBM1.out hb27;have z0:=HBL1.out.size;have z1:=HBM1.out.size;have z2:=HBM2.out.size;have z3:=HBM3.out.size;have z4:=HBM4.out.size;have z5:=HBM5.out.size;have z6:=HBM6.out.size;have r0:=by have:=cell_of_row _ _ 0 _ _ _ hr18;exact this
     have r1:=by have:=cell_of_row _ _ 1 _ _ _ hr18;exact this
     have r2:=by have:=cell_of_row _ _ 2 _ _ _ hr18;exact this
     have r3:=by have:=cell_of_row _ _ 3 _ _ _ hr18;exact this
     have r4:=by have:=cell_of_row _ _ 4 _ _ _ hr18;exact this
     have r5:=by have:=cell_of_row _ _ 5 _ _ _ hr18;exact this
     have r6:=by have:=cell_of_row _ _ 6 _ _ _ hr18;exact this
     refine bodyPost_ret (v:=.agg #[.slice a0 (risL (bl.flatMap (refM bs)++bl.flatMap (defM ps bs))).length c0,.slice a1 (risL (bl.flatMap (defM ps bs))).length c1,.slice a2 (risL (bl.flatMap (livM bs))).length c2,.slice a3 (risL (bl.flatMap (acrM bs))).length c3,.slice a4 (risL (edgM bs (rowsL (tsOf (hOf bs)) (tdOf ls) (intoB (tdOf ls) k)))).length c4,.slice a5 (risL (edgM bs (rowsL (tsOf (hOf bs)) (tdOf ls) (outB (tdOf ls) k)))).length c5,.slice a6 (risL (lessL (bl.flatMap (livM bs)) (bl.flatMap (refM bs)++bl.flatMap (defM ps bs)))).length c6]) (by simp[results,Tryz.results43,asAddr,r0,r1,r2,r3,r4,r5,r6,go_sem]) rfl ?_;refine⟨fun j=> [Value.slice a0 (risL (bl.flatMap (refM bs)++bl.flatMap (defM ps bs))).length c0,.slice a1 (risL (bl.flatMap (defM ps bs))).length c1,.slice a2 (risL (bl.flatMap (livM bs))).length c2,.slice a3 (risL (bl.flatMap (acrM bs))).length c3,.slice a4 (risL (edgM bs (rowsL (tsOf (hOf bs)) (tdOf ls) (intoB (tdOf ls) k)))).length c4,.slice a5 (risL (edgM bs (rowsL (tsOf (hOf bs)) (tdOf ls) (outB (tdOf ls) k)))).length c5,.slice a6 (risL (lessL (bl.flatMap (livM bs)) (bl.flatMap (refM bs)++bl.flatMap (defM ps bs)))).length c6].getD j (.slice none 0 0),fun j=>some (mm j),rfl,?_,apart_of (b:=fun j=> [w10.heap.size,w11.heap.size,w12.heap.size,w13.heap.size,w14.heap.size,w15.heap.size,w16.heap.size,w17.heap.size].getD j 0) (allSeven z0 z1 z2 z3 z4 z5 z6) (allSeven (fun q e=>HO0.out.1.lt q e) (fun q e=>HO1.out.1.lt q e) (fun q e=>HO2.out.1.lt q e) (fun q e=>HO3.out.1.lt q e) (fun q e=>HO4.out.1.lt q e) (fun q e=>HO5.out.1.lt q e) (fun q e=>HO6.out.1.lt q e)),(hc18.block C (lt_of_heap hC17) (by omega)).trans hC17,hcg.thn hc18 fun q e=>.inr (by rw[hP,e];omega)⟩;rw[hP];unfold setM;simp only[HE,less_ris];exact allSeven (OW HO0.out (by omega) hb17) (OW HO1.out (by omega) hb27) (OW HO2.out (by omega) hb37) (OW HO3.out (by omega) hb47) (OW HO4.out (by omega) hb57) (OW HO5.out (by omega) hb67) (OW HO6.out (by omega) (Below.refl _ _))
end
end Go.Proofs.YtnmkjliioogbgaaGreatDoor
