/-
 Two boxes;stores of rows;lists of records that are alike,one by one. No program in sight.
-/
import Derived.Test.YtnmkjliioogbgaaGreatDoorRangeT
import Derived.Test.YtnmkjliioogbgaaGreatDoorNR
import Derived.Test.YtnmkjliioogbgaaGreatDoorTA
import Derived.Test.YtnmkjliioogbgaaGreatDoorQueueS
import Derived.Deep.Onto
import Derived.Test.YtnmkjliioogbgaaGreatDoorSM
import Derived.Test.YtnmkjliioogbgaaGreatDoorTH
namespace Go.Proofs.YtnmkjliioogbgaaGreatDoor
set_option linter.unusedSimpArgs false
set_option linter.unusedVariables false
set_option linter.unusedSectionVars false
set_option maxRecDepth 100000
set_option maxHeartbeats 40000000
section
open Go.RowKit
theorem chg_setRow(w:World)(g:Nat)(cs:Array Value):Chg (fun k=>k=g) w (w.setRow g cs):=
 ⟨rfl,rfl,rfl,by rw[size_setRow];exact Nat.le_refl _,fun k _ hn=>setRow_other w g k cs hn⟩
section
variable {P:Program} {Q:Exit→Act→World→Prop}
end
end

section
open Go.RowKit
def VJ(w:World)(fo:Obj)(n:Nat)(I:Nat→Nat→Bool)(W:World):Prop:=
 W.heap[w.heap.size]? =some fo∧OwnV W (w.heap.size+1) (.slice (some ⟨w.heap.size+1,0,none⟩) n n) n I∧Below w.heap.size w W∧w.heap.size+1<W.heap.size
theorem VJ.chg{w:World}{fo:Obj}{n:Nat}{I:Nat→Nat→Bool}{W W':World}{S:Nat→Prop}(h:VJ w fo n I W)(hc:Chg S W W')(hs:∀k,S k→w.heap.size+1<k):VJ w fo n I W':=by
 obtain⟨h1,h2,h3,h4⟩:=h
 refine⟨(hc.block _ (by omega) fun e=>by have:=hs _ e;omega).trans h1,⟨ownsRow_chg h2.1 hc fun g e hS=>?_,h2.2⟩,h3.trans (hc.below (by omega) fun k hk=>by have:=hs k hk;omega),by have:=hc.size;omega⟩
 simp only[Value.ownBlock,Option.some.injEq] at e
 subst e
 have:=hs _ hS
 omega
theorem VJ.ext{w:World}{fo:Obj}{n:Nat}{I:Nat→Nat→Bool}{W W':World}(h:VJ w fo n I W)(hb:Below W.heap.size W W'):VJ w fo n I W':=
 h.chg (S:=fun _=>False) ((Chg.refl _ W).of_ext hb) fun _ e=>e.elim
theorem setCells_chg(w:World)(g o:Nat)(vs:List Value):Chg (fun k=>k=g) w (w.setCells g o vs):=chg_setCells (S:=fun k=>k=g) rfl vs o w (Chg.refl _ w)
theorem VJ.set{w:World}{fo:Obj}{n:Nat}{I:Nat→Nat→Bool}{W:World}(h:VJ w fo n I W){k:Nat}(hk:k<n)(f:Nat→Bool):VJ w fo n (putB I k f) (W.setCells (w.heap.size+1) (k*201) (setV f).toList):=by
 have hc:=setCells_chg W (w.heap.size+1) (k*201) (setV f).toList
 obtain⟨h1,h2,h3,h4⟩:=h
 exact⟨(hc.block _ (by omega) (by omega)).trans h1,ownV_set h2 hk f,h3.trans (hc.below (by omega) fun k hk=>by omega),by have:=hc.size;omega⟩
theorem VJ.put{w:World}{fo:Obj}{n:Nat}{I:Nat→Nat→Bool}{W:World}(h:VJ w fo n I W){k j:Nat}(hk:k<n)(hj:j<201)(b:Bool):VJ w fo n (putB I k fun i=>if i=j then b else I k i) (W.setCell ⟨w.heap.size+1,k*201+j,none⟩ (.bool b)):=by
 have hc:Chg (fun k=>k=w.heap.size+1) W (W.setCell ⟨w.heap.size+1,k*201+j,none⟩ (.bool b)):=(Chg.refl (fun k=>k=w.heap.size+1) W).setCell (p:=⟨w.heap.size+1,k*201+j,none⟩) (.inl rfl) _
 obtain⟨h1,h2,h3,h4⟩:=h
 exact⟨(hc.block _ (by omega) (by omega)).trans h1,(ownV_put h2 hk hj b).1,h3.trans (hc.below (by omega) fun k hk=>by omega),by have:=hc.size;omega⟩
theorem size_blkH:(Tryz.prog.info? 67).map (·.size)=some 5:=by kernel_rfl
theorem past_out(rs:List InsR):∀(f:Nat→Bool) (v:Nat),pastF f rs v=outV (rs.map fun r=>⟨readsI r.d,definesV r.d⟩) f v:=by
 induction rs with
 |nil=>intro f v;simp[pastF,outV,defsL]
 |cons r rs ih=>
  intro f v;have e1:pastF f (r :: rs) v=pastF (putS f (definesV r.d).toNat) rs v:=rfl;rw[e1,ih];have h0:=(defines_var r.d).1;have e2:outV ((r :: rs).map fun r=>⟨readsI r.d,definesV r.d⟩) f v=(f v||(decide (definesV r.d=(v:Int))||defsL (rs.map fun r=>⟨readsI r.d,definesV r.d⟩) (v:Int))):=rfl;rw[e2];unfold outV putS;by_cases e:v=(definesV r.d).toNat
  ·have h1:definesV r.d=(v:Int):=by omega
   rw[if_pos e,decide_eq_true h1];simp
  ·have h1:¬definesV r.d=(v:Int):=by omega
   rw[if_neg e,decide_eq_false h1,Bool.false_or]
theorem pastB_within(t:TermD):∀(rs:List InsR) (f:Nat→Bool),pastB f rs t=true↔∀v,withinL (rs.map fun r=>⟨readsI r.d,definesV r.d⟩) (needsT t) v=1→f v.toNat=true
 | [],f=>by
   simp only[pastB,List.map_nil,withinL,hasB];rw[Bool.not_eq_true',List.any_eq_false];constructor
   ·intro h v hv
    split at hv
    ·have:=h v ‹_›;simpa using this
    ·cases hv
   ·intro h v hv;have:=h v (by rw[if_pos hv]);simp[this]
 |r :: rs,f=>by
  simp only[pastB,List.map_cons,withinL,Bool.and_eq_true];rw[pastB_within t rs];have hh:hasB f (readsI r.d)=true↔∀v∈readsI r.d,f v.toNat=true:=by
   rw[hasB,Bool.not_eq_true',List.any_eq_false];exact⟨fun h v hv=>by have:=h v hv;simpa using this,fun h v hv=>by have:=h v hv;simp[this]⟩
  rw[hh];have h0:=(defines_var r.d).1;constructor
  ·rintro⟨h1,h2⟩ v hv
   split at hv
   ·exact h1 v ‹_›
   ·split at hv
    ·cases hv
    ·rename_i hx
     have:=h2 v hv;unfold putS at this;by_cases e:v.toNat=(definesV r.d).toNat
     ·have hvv:1≤v:=(within_var hv).1;omega
     ·rwa [if_neg e] at this
  ·intro h;refine⟨fun v hv=>h v (by rw[if_pos hv]),fun v hv=>?_⟩;unfold putS;by_cases e:v.toNat=(definesV r.d).toNat
   ·rw[if_pos e]
   ·rw[if_neg e];by_cases hr:v∈readsI r.d
    ·exact h v (by rw[if_pos hr])
    ·exact h v (by rw[if_neg hr,if_neg (fun x=>e (by rw[x]))];exact hv)
where
 within_var {rs:List InsR} {v:Int} (h:withinL (rs.map fun r=>⟨readsI r.d,definesV r.d⟩) (needsT t) v=1):1≤v∧v≤200:=by
  induction rs with
  |nil=>
   simp only[List.map_nil,withinL] at h
   split at h
   ·exact needs_var ‹_›
   ·cases h
  |cons r rs ih=>
   simp only[List.map_cons,withinL] at h
   split at h
   ·exact reads_var ‹_›
   ·split at h
    ·cases h
    ·exact ih h
theorem bksL_vars(bs:List BlkR):VarsOK (bksL bs):=by
 intro b hb v h
 rw[bksL_len] at hb
 have hx:bs[b]? =some bs[b]:=List.getElem?_eq_getElem hb
 rw[bksL_at hx] at h
 exact pastB_within.within_var _ h
def initI(k:Nat):Nat→Nat→Bool:=fun b _=>decide (b<k)
def parI(ps:List Int)(n k:Nat):Nat→Nat→Bool:=fun b v=>if b=0 then decide ((v:Int)∈ps.take k) else decide (b<n)
theorem initI_step(k:Nat):putB (initI k) k (fun _=>true)=initI (k+1):=by
 funext b v
 unfold putB initI
 by_cases e:b=k
 ·simp[e]
 ·rw[if_neg e]
  congr 1
  rw[eq_iff_iff];omega
theorem parI_zero(ps:List Int)(n:Nat)(h:0<n):putB (initI n) 0 (fun _=>false)=parI ps n 0:=by
 funext b v
 unfold putB initI parI
 by_cases e:b=0
 ·simp[e]
 ·rw[if_neg e,if_neg e]
theorem parI_step(ps:List Int)(n k:Nat)(x:Nat)(h:ps[k]? =some (x:Int)):putB (parI ps n k) 0 (fun i=>if i=x then true else parI ps n k 0 i)=parI ps n (k+1):=by
 funext b v
 unfold putB parI
 by_cases e:b=0
 ·simp only[e,if_true];rw[List.take_add_one,h];by_cases e2:v=x
  ·simp[e2]
  ·have:¬((v:Int)=(x:Int)):=by omega
   simp only[e2,if_false,Option.toList_some,List.mem_append,List.mem_singleton,this,or_false]
 ·rw[if_neg e,if_neg e,if_neg e]
theorem parI_ok(ps:List Int)(bs:List BkL):ValOK ps bs (parI ps bs.length ps.length):=by
 refine⟨fun b hb v h1 h2 hf=>?_,fun v h1 h2 h3=>?_⟩
 ·unfold parI at hf;by_cases e:b=0
  ·subst e;simp only[if_true,List.take_length,decide_eq_false_iff_not] at hf;exact .here (by simp[lackG,hf])
  ·rw[if_neg e,decide_eq_false_iff_not] at hf;exact absurd hb hf
 ·simp[parI,h3]
def ClosedV(bs:List BkL)(I:Nat→Nat→Bool)(k q:Nat):Prop:=
 ∀b,b<bs.length→∀j c,(bkOf bs b).to[j]? =some c→(b<k∨b=k∧j<q)→∀v,v<201→I c v=true→outV (bkOf bs b).ops (I b) v=true
theorem valued_any(pa:Option Addr)(pn pc:Nat)(ps:List Int)(ba:Option Addr)(bn bc:Nat)(bs:List BlkR)(w:World)(hp:Ints w pa pn ps)(h:BlksR w ba bn bs)(h0:0<bn)(h1:bn≤200)(hpn:pn≤1000000)(hpar:parB ps=true)(hin:toIn bs=true)(hna:∀b∈bs,∀r∈b.rs,r.na≤1000000):
  Calls Tryz.prog 72 #[funcV pa pn pc ba bn bc] w fun e w'=>e=.returned (.bool (!anyLack ps (bksL bs)))∧Below w.heap.size w w':=by
 have HPI:=Lib.hid hp
 have HB:=Lib.hid h
 have HLb:=Lib.hid h.1.1
 have HLp:=Lib.hid hp.1
 have HPAR:=Lib.hid hpar
 have HIN:=Lib.hid hin
 have HNA:=Lib.hid hna
 clear h hp hpar hin hna
 obtain⟨fo,hfo⟩:∃fo:Obj,fo=.cells #[.slice pa pn pc,.slice ba bn bc] 40:=⟨_,rfl⟩
 go_enter Tryz.func72,Tryz.ntmps72
 go_upto_region 1 with (fail)
 obtain⟨W0,hW0⟩:∃W0,W0=w.alloc fo:=⟨_,rfl⟩
 rw[←hfo,←hW0]
 have hr0:W0.heap[w.heap.size]? =some fo:=by rw[hW0];exact heap_alloc_new _ _
 have hb0:Below w.heap.size w W0:=by rw[hW0];exact ext_alloc _ _
 have hs0:W0.heap.size=w.heap.size+1:=by rw[hW0];simp
 have f1:W0.cell? ⟨w.heap.size,1,none⟩=some (.slice ba bn bc):=by rw[hfo] at hr0;rw[cell_of_row _ _ _ _ _ _ hr0];rfl
 have hl0:w.heap.size<W0.heap.size:=by omega
 have hmk:=make_V bn (by omega) W0
 have HR0:=Lib.hid hr0
 have HB0:=Lib.hid hb0
 have HS0:=Lib.hid hs0
 have HFO:=Lib.hid hfo
 clear hr0 hb0 hs0 hW0 hfo
 go_upto_region 2 with (fail)
 obtain⟨W1,hW1⟩:∃W1,W1=W0.alloc (.cells (madeCells (setV fun _=>false) (bn*201)) 196):=⟨_,rfl⟩
 have hV1:VJ w fo bn (initI 0) W1:=by
  have h1:=made_V (n:=bn) (by omega) (w:=W0) (base:=w.heap.size+1) (by rw[HS0.out];exact Nat.le_refl _);rw[←hW1,HS0.out] at h1;refine⟨?_,?_,?_,?_⟩
  ·rw[hW1,Below.heap_alloc _ _ _ (by omega)];exact HR0.out
  ·have e:initI 0=fun _ _=>false:=by funext b v;simp[initI]
   rw[e];exact h1
  ·rw[hW1];exact ext_trans HB0.out (ext_alloc _ _)
  ·rw[hW1,World.size_alloc,HS0.out];omega
 rw[show W0.alloc (Obj.cells (madeCells (setV fun _=>false) (bn*201)) 196)=W1 from hW1.symm,HS0.out]
 have HV1:=Lib.hid hV1
 clear hmk f1 hl0 hW1 HR0 HB0 HS0 hV1
 go_wp2
 go_loopw [26] (fun i wr=>∃k:Nat,i=.int .i64 k∧k≤bn∧Hid (VJ w fo bn (initI k) wr)) (fun i _=>bn-(intOf i).toNat)
 case atStart=>exact⟨0,rfl,by omega,HV1⟩
 case round=>
  obtain⟨k,rfl,hk,HV⟩:=hrel;clear HV1;by_cases hlt:k<bn
  ·have hlt':(k:Int)<(bn:Int):=by omega
   go_wp2_with (first
    |(go_at_call 114
      refine(vFull_any wr).mono ?_;rintro e w1 ⟨rfl,hb1⟩;have HV1:=Lib.hid (HV.out.ext hb1);have ht:=ownV_there HV1.out.2.1 hlt (fun _=>true)
      clear hb1)
    |((with_reducible show wpList _ _ _ (⟨none,.store 196 _ _,_,_,_,_⟩ :: _) _ _);refine wpList_store_mid rfl 196 _ _ rfl (w.heap.size+1) (k*201) (setV fun _=>true) rfl rfl ht (vset_size _) (setV_all _) ?_))
   go_roundw
   case rel=>exact⟨k+1,by go_num,by omega,by rw[Hid,←initI_step];exact HV1.out.set hlt _⟩
   case measure=>simp[intOf];omega
  ·obtain rfl:k=bn:=by omega
   have ht:=ownV_there HV.out.2.1 (k:=0) h0 (fun _=>false);rw[Nat.zero_mul] at ht;have HV2:Hid (VJ w fo k (parI ps k 0) (wr.setCells (w.heap.size+1) 0 (setV fun _=>false).toList)):=by
    have:=HV.out.set (k:=0) h0 (fun _=>false)
    rwa [Nat.zero_mul,parI_zero ps k h0] at this
   have hpos:(0:Int)<(k:Int):=by omega
   have hlt':¬(k:Int)<(k:Int):=by omega
   go_upto_region 8 with ((with_reducible show wpList _ _ _ (⟨none,.store 196 _ _,_,_,_,_⟩ :: _) _ _);refine wpList_store_mid rfl 196 _ _ rfl (w.heap.size+1) 0 (setV fun _=>false) rfl rfl ht (vset_size _) (setV_all _) ?_)
   obtain⟨W2,hW2⟩:∃W2,W2=wr.setCells (w.heap.size+1) 0 (setV fun _=>false).toList:=⟨_,rfl⟩
   rw[←hW2] at HV2⊢;have g0:W2.cell? ⟨w.heap.size,0,none⟩=some (.slice pa pn pc):=by have:=HV2.out.1;rw[HFO.out] at this;rw[cell_of_row _ _ _ _ _ _ this];rfl
   have g1:=HV2.out.2.2.2;clear hW2 ht HV hlt hlt';go_wp2;clear g0 g1
   go_loopw [40] (fun i wr=>∃q:Nat,i=.int .i64 q∧q≤pn∧Hid (VJ w fo k (parI ps k q) wr)) (fun i _=>pn-(intOf i).toNat)
   case atStart=>exact⟨0,rfl,by omega,HV2⟩
   case round=>
    obtain⟨q,rfl,hq,HV⟩:=hrel;clear HV2;by_cases hlt:q<pn
    ·have hlt':(q:Int)<(pn:Int):=by omega
     obtain⟨x,hx⟩:∃x,ps[q]? =some x:=⟨ps[q]'(by rw[HLp.out];exact hlt),List.getElem?_eq_getElem _⟩
     obtain⟨hx1,hx2⟩:1≤x∧x≤200:=by
      have h9:=HPAR.out;simp only[parB,Bool.and_eq_true,List.all_eq_true] at h9;exact var_iff.1 (h9.1 x (List.mem_of_getElem? hx))
     obtain⟨m,rfl⟩:∃m:Nat,x=(m:Int):=⟨x.toNat,by omega⟩
     have hps:=HPI.out.ext HV.out.2.2.1;obtain⟨b3,o3,rfl,hcx,hi1,hi2⟩:=hps.2.2 q hlt;have hgd:ps.getD q 0=(m:Int):=by rw[List.getD_eq_getElem?_getD,hx];rfl
     rw[hgd] at hcx;have hm1:(m:Int)<201:=by omega
     have hput:=HV.out.put (k:=0) h0 (j:=m) (by omega) true;rw[parI_step ps k q m hx,Nat.zero_mul,Nat.zero_add] at hput;have hpc:=ownV_cell HV.out.2.1 (k:=0) (j:=m) h0 (by omega);have hpf:=(ownV_put HV.out.2.1 (k:=0) (j:=m) h0 (by omega) true).2;have hgl:w.heap.size+1<wr.heap.size:=HV.out.2.2.2;rw[Nat.zero_mul,Nat.zero_add] at hpc hpf;have HP:=Lib.hid hput;clear hput hps hgd hi1 hi2 hx;go_wp2
     go_roundw
     case rel=>exact⟨q+1,by go_num,by omega,HP⟩
     case measure=>simp[intOf];omega
    ·obtain rfl:q=pn:=by omega
     have hlt':¬(q:Int)<(q:Int):=by omega
     have hVO:ValOK ps (bksL bs) (parI ps k q):=by
      have:=parI_ok ps (bksL bs)
      rwa [bksL_len,HLb.out,HLp.out] at this
     have HVO:=Lib.hid hVO;have hTO:=toIn_ok HIN.out;have HTO:=Lib.hid hTO;clear hVO hTO;go_wp2
     go_loopg [7] (2*tot 201 k (parI ps k q)+1) (fun gg s7 wx=>∃(mv:Bool) (I:Nat→Nat→Bool),s7=.bool mv∧Hid (VJ w fo k I wx)∧Hid (ValOK ps (bksL bs) I)∧Hid (2*tot 201 k I+(if mv then 1 else 0)≤gg)∧Hid (mv=false→ClosedV (bksL bs) I k 0))
     case atStart=>exact⟨true,_,rfl,HV,HVO,by simp[Hid],fun e=>by cases e⟩
     case round=>
      obtain⟨mv,I0,rfl,HV0,HO0,HG0,HC0⟩:=hrel;clear HV HVO;cases mv with
      |false=>
       have HCL:=Lib.hid (HC0.out rfl);have HAN:Hid ((∀b,b<k→∀v,withinL (bkOf (bksL bs) b).ops (bkOf (bksL bs) b).nd v=1→I0 b v.toNat=true)↔anyLack ps (bksL bs)=false):=by
        have h9:=HO0.out.any (by rw[bksL_len,HLb.out];exact h0) (bksL_vars bs) fun b hb c hc v hv hi=>by
         obtain⟨j,hj,e⟩:=List.mem_iff_getElem.1 hc;exact HCL.out b hb j c (by rw[List.getElem?_eq_getElem hj,e]) (.inl (by rw[bksL_len,HLb.out] at hb;exact hb)) v hv hi
        rwa [bksL_len,HLb.out] at h9
       have hbl:wr.cell? ⟨w.heap.size,1,none⟩=some (.slice ba k bc):=by have:=HV0.out.1;rw[HFO.out] at this;rw[cell_of_row _ _ _ _ _ _ this];rfl
       have hgl:w.heap.size+1<wr.heap.size:=HV0.out.2.2.2;clear HC0 HCL HG0 HO0;go_wp2;clear hbl hgl
       go_loopw [2,102] (fun s2 i wz=>∃q:Nat,i=.int .i64 q∧s2=.bool false∧q≤k∧Hid (VJ w fo k I0 wz)∧Hid (∀b,b<q→∀v,withinL (bkOf (bksL bs) b).ops (bkOf (bksL bs) b).nd v=1→I0 b v.toNat=true)) (fun _ i _=>k-(intOf i).toNat)
       case atStart=>exact⟨0,rfl,rfl,by omega,HV0,fun b hb=>by omega⟩
       case round=>
        obtain⟨q,rfl,rfl,hq,HV,HQ⟩:=hrel;clear HV0;by_cases hlt:q<k
        ·obtain⟨r,bb,oo,hr,hok,rfl,c0,c1,c2,c3,c4⟩:=blksR_cells (HB.out.ext HV.out.2.2.1) hlt;have HRR:=Lib.hid hr;have HOK:Hid (BlkROK w r):=HB.out.2 r (List.mem_of_getElem? hr);have hlt':(q:Int)<(k:Int):=by omega
         have HTX:Hid (bkOf (bksL bs) q=bkL r):=bksL_at hr;have HPB:Hid (pastB (I0 q) r.rs r.h.t=true↔∀v,withinL (bkOf (bksL bs) q).ops (bkOf (bksL bs) q).nd v=1→I0 q v.toNat=true):=by
          rw[HTX.out];exact pastB_within r.h.t r.rs (I0 q)
         clear hr hok;go_upto_region 36 with (fail)
         obtain⟨Wi,hWi⟩:∃Wi,Wi=wr.alloc (blkO r.h):=⟨_,rfl⟩
         rw[show wr.alloc (Obj.cells #[.slice r.h.ia r.h.n r.h.c,.int .i64 r.h.t.kind,.int .i64 r.h.t.a,.int .i64 r.h.t.t0,.int .i64 r.h.t.t1] 67)=Wi from hWi.symm];obtain⟨P17,hP17⟩:∃p,p=wr.heap.size:=⟨_,rfl⟩
         have hxi:Wi.heap[P17]? =some (blkO r.h):=by rw[hWi,hP17];exact heap_alloc_new _ _
         have hbi:Below wr.heap.size wr Wi:=by rw[hWi];exact ext_alloc _ _
         rw[←hP17];have HVI:=Lib.hid (HV.out.ext hbi);have HX:=Lib.hid hxi;have HNAr:=Lib.hid (HNA.out r (List.mem_of_getElem? HRR.out));have hgl:w.heap.size+1<Wi.heap.size:=HVI.out.2.2.2;clear hWi hxi hbi c0 c1 c2 c3 c4 HV hP17;have HCALL:=Lib.hid (fun W (hb:Below Wi.heap.size Wi W)=>vPast_any (I0 q) r.h r.rs W HOK.out.1 ((HOK.out.2.ext HVI.out.2.2.1).ext hb) HNAr.out);have QX:Hid (∀w',(∃n':ExtW Wi,w'=n'.val)→w'.heap[P17]? =some (blkO r.h)):=fun w' ⟨n',e⟩=>by rw[e];exact block_ext n'.ext HX.out
         have QI:Hid (∀w',(∃n':ExtW Wi,w'=n'.val)→w'.rangeAt (w.heap.size+1) (q*201) (vsC (I0 q))):=fun w' ⟨n',e⟩=>by rw[e];exact ownV_range (OwnR.ext HVI.out.2.1 n'.ext) hlt
         have HNE:Nonempty (ExtW Wi):=⟨⟨Wi,Below.refl _ _⟩⟩
         have hgl5:∀n':ExtW Wi,w.heap.size+1<n'.val.heap.size:=fun n'=>(HVI.out.ext n'.ext).2.2.2;have HFIN:Hid (∀W5,Below Wi.heap.size Wi W5→(pastB (I0 q) r.rs r.h.t=false→anyLack ps (bksL bs)=true∧Below w.heap.size w W5)∧(pastB (I0 q) r.rs r.h.t=true→VJ w fo k I0 W5∧∀b,b<q+1→∀v,withinL (bkOf (bksL bs) b).ops (bkOf (bksL bs) b).nd v=1→I0 b v.toNat=true)):=fun W5 hb=>by
          have hV5:=HVI.out.ext hb;refine⟨fun hpb=>⟨?_,hV5.2.2.1⟩,fun hpb=>⟨hV5,fun b hb=>?_⟩⟩
          ·cases hx:anyLack ps (bksL bs) with
           |true=>rfl
           |false=>
            have:=HPB.out.2 (HAN.out.2 hx q hlt);rw[hpb] at this;cases this
          ·by_cases e:b=q
           ·subst e;exact HPB.out.1 hpb
           ·exact HQ.out b (by omega)
         obtain⟨v0,hv0,hb0⟩:∃v0,Wi.drew=v0∧Below Wi.heap.size Wi v0:=⟨_,rfl,ext_drewN (Below.refl _ _) 1⟩
         refine z_start (fun w'=>∃n':ExtW Wi,w'=n'.val) (by kernel_rfl) ?_;rw[hv0];refine z_reads 0 5 (by kernel_rfl) ⟨⟨v0,hb0⟩,rfl⟩ ?_;simp only[List.take_succ_cons,List.take_zero,List.drop_succ_cons,List.drop_zero]
         repeat (first
          |((with_reducible show wpQuiet _ _ _ _ (⟨some 111,_,_,_,_,_⟩ :: _) _);refine wpQuiet_load_mid (o:=⟨some 111,.load 196 _,_,_,_,_⟩) (by kernel_rfl) 196 _ rfl (w.heap.size+1) (q*201) rfl (vsC (I0 q)) _ QI.out Tryz.underlying196 rfl (vset_len _) ?_;simp only[vsC_arr,Act.put,List.setIfInBounds_toArray,List.set_cons_succ,List.set_cons_zero])
          |((with_reducible show wpQuiet _ _ _ _ (⟨some 112,_,_,_,_,_⟩ :: _) _);refine wpQuiet_load_row (o:=⟨some 112,.load 67 _,_,_,_,_⟩) (by kernel_rfl) 67 _ rfl P17 rfl 67 _ (0,0) _ QX.out Tryz.underlying67 rfl size_blkH ?_;simp only[Act.put,List.setIfInBounds_toArray,List.set_cons_succ,List.set_cons_zero])
          |go_big_quiet_step (fail))
         refine wpQuiet_nil ?_;clear QX QI hv0 hgl5;have HB0:=Lib.hid hb0;clear hb0;cases hpb:pastB (I0 q) r.rs r.h.t with
         |false=>
          refine z_two 5 9 (by kernel_rfl) ?_ ?_
          ·refine wpOp_at rfl rfl ?_;go_simp;refine(HCALL.out v0 HB0.out).mono ?_;rw[hpb];rintro e v1 ⟨h7,rfl,hb⟩;have HB1:=Lib.hid (ext_trans HB0.out hb);clear hb;refine⟨Or.inr ⟨⟨v1,HB1.out⟩,rfl⟩,?_⟩
           try simp only[Act.put,List.setIfInBounds_toArray,List.set_cons_succ,List.set_cons_zero]
           refine z_reads 6 3 (by kernel_rfl) ⟨⟨v1,HB1.out⟩,rfl⟩ ?_;simp only[List.take_succ_cons,List.take_zero,List.drop_succ_cons,List.drop_zero]
           repeat (go_big_quiet_step (fail))
           refine wpQuiet_nil ?_;refine z_one 9 (by kernel_rfl) ?_;refine wpOp_at rfl rfl ?_;go_simp;obtain⟨v2,hv⟩:∃x,x=v1.alloc (.cells Tryz.zeroCells196 196):=⟨_,rfl⟩
           obtain⟨P18,hP18⟩:∃p,p=v1.heap.size:=⟨_,rfl⟩
           have hz:v2.heap[P18]? =some (vsO fun _=>false):=by rw[hv,hP18,heap_alloc_new,zero_vset]
           have hb:Below v1.heap.size v1 v2:=by rw[hv];exact ext_alloc _ _
           have HPG:Hid (Wi.heap.size≤P18):=by rw[Hid,hP18];exact HB1.out.size
           rw[←hv,←hP18];have HZ:=Lib.hid hz;have HB2:=Lib.hid (ext_trans HB1.out hb);clear hb hv hP18 hz;refine⟨Or.inr ⟨⟨v2,HB2.out⟩,rfl⟩,?_⟩
           try simp only[Act.put,List.setIfInBounds_toArray,List.set_cons_succ,List.set_cons_zero]
           refine z_one 10 (by kernel_rfl) ?_;refine wpOp_at rfl rfl ?_;refine wp_store_row 196 _ _ rfl P18 (setV h7) rfl rfl 196 _ HZ.out (vset_size _) (by rw[setV_size,setV_size]) (setV_all _) ?_;obtain⟨v4,hv4⟩:∃x,x=v2.setRow P18 (setV h7):=⟨_,rfl⟩
           have HB4:Hid (Below Wi.heap.size Wi v4):=by rw[Hid,hv4];exact below_setRow HB2.out HPG.out _
           rw[←hv4];clear hv4;refine⟨Or.inr ⟨⟨v4,HB4.out⟩,rfl⟩,?_⟩
           try simp only[Act.put,List.setIfInBounds_toArray,List.set_cons_succ,List.set_cons_zero]
           refine z_reads 11 1 (by kernel_rfl) ⟨⟨v4,HB4.out⟩,rfl⟩ ?_;simp only[List.take_succ_cons,List.take_zero,List.drop_succ_cons,List.drop_zero]
           repeat (go_big_quiet_step (fail))
           refine wpQuiet_nil ?_;refine z_done (by kernel_rfl) ?_;have HE:=Lib.hid ((HFIN.out v4 HB4.out).1 hpb);clear hpb;go_wp2
           go_ret
           exact⟨by rw[HE.out.1];rfl,HE.out.2⟩
          ·refine wpOp_at rfl rfl ?_;go_simp;obtain⟨v1,hv⟩:∃x,x=v0.alloc (.cells Tryz.zeroCells196 196):=⟨_,rfl⟩
           obtain⟨P18,hP18⟩:∃p,p=v0.heap.size:=⟨_,rfl⟩
           have hz:v1.heap[P18]? =some (vsO fun _=>false):=by rw[hv,hP18,heap_alloc_new,zero_vset]
           have hb:Below v0.heap.size v0 v1:=by rw[hv];exact ext_alloc _ _
           have HPG:Hid (Wi.heap.size≤P18):=by rw[Hid,hP18];exact HB0.out.size
           rw[←hv,←hP18];have HZ:=Lib.hid hz;have HB1:=Lib.hid (ext_trans HB0.out hb);clear hb hv hP18 hz;refine⟨Or.inr ⟨⟨v1,HB1.out⟩,rfl⟩,?_⟩
           try simp only[Act.put,List.setIfInBounds_toArray,List.set_cons_succ,List.set_cons_zero]
           refine z_one 5 (by kernel_rfl) ?_;refine wpOp_at rfl rfl ?_;go_simp;refine(HCALL.out v1 HB1.out).mono ?_;rw[hpb];rintro e v2 ⟨h7,rfl,hb⟩;have HZ2:=Lib.hid (block_ext hb HZ.out);have HB2:=Lib.hid (ext_trans HB1.out hb);clear hb;refine⟨Or.inr ⟨⟨v2,HB2.out⟩,rfl⟩,?_⟩
           try simp only[Act.put,List.setIfInBounds_toArray,List.set_cons_succ,List.set_cons_zero]
           refine z_reads 6 3 (by kernel_rfl) ⟨⟨v2,HB2.out⟩,rfl⟩ ?_;simp only[List.take_succ_cons,List.take_zero,List.drop_succ_cons,List.drop_zero]
           repeat (go_big_quiet_step (fail))
           refine wpQuiet_nil ?_;refine z_one 10 (by kernel_rfl) ?_;refine wpOp_at rfl rfl ?_;refine wp_store_row 196 _ _ rfl P18 (setV h7) rfl rfl 196 _ HZ2.out (vset_size _) (by rw[setV_size,setV_size]) (setV_all _) ?_;obtain⟨v4,hv4⟩:∃x,x=v2.setRow P18 (setV h7):=⟨_,rfl⟩
           have HB4:Hid (Below Wi.heap.size Wi v4):=by rw[Hid,hv4];exact below_setRow HB2.out HPG.out _
           rw[←hv4];clear hv4;refine⟨Or.inr ⟨⟨v4,HB4.out⟩,rfl⟩,?_⟩
           try simp only[Act.put,List.setIfInBounds_toArray,List.set_cons_succ,List.set_cons_zero]
           refine z_reads 11 1 (by kernel_rfl) ⟨⟨v4,HB4.out⟩,rfl⟩ ?_;simp only[List.take_succ_cons,List.take_zero,List.drop_succ_cons,List.drop_zero]
           repeat (go_big_quiet_step (fail))
           refine wpQuiet_nil ?_;refine z_done (by kernel_rfl) ?_;have HE:=Lib.hid ((HFIN.out v4 HB4.out).1 hpb);clear hpb;go_wp2
           go_ret
           exact⟨by rw[HE.out.1];rfl,HE.out.2⟩
         |true=>
          refine z_two 5 9 (by kernel_rfl) ?_ ?_
          ·refine wpOp_at rfl rfl ?_;go_simp;refine(HCALL.out v0 HB0.out).mono ?_;rw[hpb];rintro e v1 ⟨h7,rfl,hb⟩;have HB1:=Lib.hid (ext_trans HB0.out hb);clear hb;refine⟨Or.inr ⟨⟨v1,HB1.out⟩,rfl⟩,?_⟩
           try simp only[Act.put,List.setIfInBounds_toArray,List.set_cons_succ,List.set_cons_zero]
           refine z_reads 6 3 (by kernel_rfl) ⟨⟨v1,HB1.out⟩,rfl⟩ ?_;simp only[List.take_succ_cons,List.take_zero,List.drop_succ_cons,List.drop_zero]
           repeat (go_big_quiet_step (fail))
           refine wpQuiet_nil ?_;refine z_one 9 (by kernel_rfl) ?_;refine wpOp_at rfl rfl ?_;go_simp;obtain⟨v2,hv⟩:∃x,x=v1.alloc (.cells Tryz.zeroCells196 196):=⟨_,rfl⟩
           obtain⟨P18,hP18⟩:∃p,p=v1.heap.size:=⟨_,rfl⟩
           have hz:v2.heap[P18]? =some (vsO fun _=>false):=by rw[hv,hP18,heap_alloc_new,zero_vset]
           have hb:Below v1.heap.size v1 v2:=by rw[hv];exact ext_alloc _ _
           have HPG:Hid (Wi.heap.size≤P18):=by rw[Hid,hP18];exact HB1.out.size
           rw[←hv,←hP18];have HZ:=Lib.hid hz;have HB2:=Lib.hid (ext_trans HB1.out hb);clear hb hv hP18 hz;refine⟨Or.inr ⟨⟨v2,HB2.out⟩,rfl⟩,?_⟩
           try simp only[Act.put,List.setIfInBounds_toArray,List.set_cons_succ,List.set_cons_zero]
           refine z_one 10 (by kernel_rfl) ?_;refine wpOp_at rfl rfl ?_;refine wp_store_row 196 _ _ rfl P18 (setV h7) rfl rfl 196 _ HZ.out (vset_size _) (by rw[setV_size,setV_size]) (setV_all _) ?_;obtain⟨v4,hv4⟩:∃x,x=v2.setRow P18 (setV h7):=⟨_,rfl⟩
           have HB4:Hid (Below Wi.heap.size Wi v4):=by rw[Hid,hv4];exact below_setRow HB2.out HPG.out _
           rw[←hv4];clear hv4;refine⟨Or.inr ⟨⟨v4,HB4.out⟩,rfl⟩,?_⟩
           try simp only[Act.put,List.setIfInBounds_toArray,List.set_cons_succ,List.set_cons_zero]
           refine z_reads 11 1 (by kernel_rfl) ⟨⟨v4,HB4.out⟩,rfl⟩ ?_;simp only[List.take_succ_cons,List.take_zero,List.drop_succ_cons,List.drop_zero]
           repeat (go_big_quiet_step (fail))
           refine wpQuiet_nil ?_;refine z_done (by kernel_rfl) ?_;have HE:=Lib.hid ((HFIN.out v4 HB4.out).2 hpb);clear hpb;go_wp2
           go_roundw
           case rel=>exact⟨q+1,by go_num,rfl,by omega,HE.out.1,HE.out.2⟩
           case measure=>simp[intOf];omega
          ·refine wpOp_at rfl rfl ?_;go_simp;obtain⟨v1,hv⟩:∃x,x=v0.alloc (.cells Tryz.zeroCells196 196):=⟨_,rfl⟩
           obtain⟨P18,hP18⟩:∃p,p=v0.heap.size:=⟨_,rfl⟩
           have hz:v1.heap[P18]? =some (vsO fun _=>false):=by rw[hv,hP18,heap_alloc_new,zero_vset]
           have hb:Below v0.heap.size v0 v1:=by rw[hv];exact ext_alloc _ _
           have HPG:Hid (Wi.heap.size≤P18):=by rw[Hid,hP18];exact HB0.out.size
           rw[←hv,←hP18];have HZ:=Lib.hid hz;have HB1:=Lib.hid (ext_trans HB0.out hb);clear hb hv hP18 hz;refine⟨Or.inr ⟨⟨v1,HB1.out⟩,rfl⟩,?_⟩
           try simp only[Act.put,List.setIfInBounds_toArray,List.set_cons_succ,List.set_cons_zero]
           refine z_one 5 (by kernel_rfl) ?_;refine wpOp_at rfl rfl ?_;go_simp;refine(HCALL.out v1 HB1.out).mono ?_;rw[hpb];rintro e v2 ⟨h7,rfl,hb⟩;have HZ2:=Lib.hid (block_ext hb HZ.out);have HB2:=Lib.hid (ext_trans HB1.out hb);clear hb;refine⟨Or.inr ⟨⟨v2,HB2.out⟩,rfl⟩,?_⟩
           try simp only[Act.put,List.setIfInBounds_toArray,List.set_cons_succ,List.set_cons_zero]
           refine z_reads 6 3 (by kernel_rfl) ⟨⟨v2,HB2.out⟩,rfl⟩ ?_;simp only[List.take_succ_cons,List.take_zero,List.drop_succ_cons,List.drop_zero]
           repeat (go_big_quiet_step (fail))
           refine wpQuiet_nil ?_;refine z_one 10 (by kernel_rfl) ?_;refine wpOp_at rfl rfl ?_;refine wp_store_row 196 _ _ rfl P18 (setV h7) rfl rfl 196 _ HZ2.out (vset_size _) (by rw[setV_size,setV_size]) (setV_all _) ?_;obtain⟨v4,hv4⟩:∃x,x=v2.setRow P18 (setV h7):=⟨_,rfl⟩
           have HB4:Hid (Below Wi.heap.size Wi v4):=by rw[Hid,hv4];exact below_setRow HB2.out HPG.out _
           rw[←hv4];clear hv4;refine⟨Or.inr ⟨⟨v4,HB4.out⟩,rfl⟩,?_⟩
           try simp only[Act.put,List.setIfInBounds_toArray,List.set_cons_succ,List.set_cons_zero]
           refine z_reads 11 1 (by kernel_rfl) ⟨⟨v4,HB4.out⟩,rfl⟩ ?_;simp only[List.take_succ_cons,List.take_zero,List.drop_succ_cons,List.drop_zero]
           repeat (go_big_quiet_step (fail))
           refine wpQuiet_nil ?_;refine z_done (by kernel_rfl) ?_;have HE:=Lib.hid ((HFIN.out v4 HB4.out).2 hpb);clear hpb;go_wp2
           go_roundw
           case rel=>exact⟨q+1,by go_num,rfl,by omega,HE.out.1,HE.out.2⟩
           case measure=>simp[intOf];omega
        ·obtain rfl:q=k:=by omega
         have hlt':¬(q:Int)<(q:Int):=by omega
         have HE:Hid (anyLack ps (bksL bs)=false):=HAN.out.1 HQ.out;go_wp2
         go_ret
         exact⟨by rw[HE.out];rfl,HV.out.2.2.1⟩
      |true=>
       clear HC0;have hbl:wr.cell? ⟨w.heap.size,1,none⟩=some (.slice ba k bc):=by have:=HV0.out.1;rw[HFO.out] at this;rw[cell_of_row _ _ _ _ _ _ this];rfl
       have hgl:w.heap.size+1<wr.heap.size:=HV0.out.2.2.2;go_wp2;clear hbl hgl
       go_loopw [7,53] (fun s7 i wy=>∃(b:Nat) (mv:Bool) (I:Nat→Nat→Bool),i=.int .i64 b∧s7=.bool mv∧b≤k∧Hid (VJ w fo k I wy)∧Hid (ValOK ps (bksL bs) I)∧Hid (mv=false→I=I0∧ClosedV (bksL bs) I b 0)∧Hid (mv=true→tot 201 k I<tot 201 k I0)) (fun _ i _=>k-(intOf i).toNat)
       case atStart=>exact⟨0,false,I0,rfl,rfl,by omega,HV0,HO0,fun _=>⟨rfl,fun b _ j c _ h=>by omega⟩,fun e=>by cases e⟩
       case round=>
        obtain⟨b,mv,I1,rfl,rfl,hb,HV1,HO1,HC1,HT1⟩:=hrel;by_cases hblt:b<k
        ·have hblt':(b:Int)<(k:Int):=by omega
         obtain⟨r,bb,oo,hr,hok,rfl,c0,c1,c2,c3,c4⟩:=blksR_cells (HB.out.ext HV1.out.2.2.1) hblt;have HRR:=Lib.hid hr;have HOK:Hid (BlkROK w r):=HB.out.2 r (List.mem_of_getElem? hr);have hgl:w.heap.size+1<wr.heap.size:=HV1.out.2.2.2;have hnr:=HOK.out.2.1.2.1;clear hr hok;go_upto_region 19 with (fail)
         obtain⟨Wi,hWi⟩:∃Wi,Wi=wr.alloc (blkO r.h):=⟨_,rfl⟩
         rw[show wr.alloc (Obj.cells #[.slice r.h.ia r.h.n r.h.c,.int .i64 r.h.t.kind,.int .i64 r.h.t.a,.int .i64 r.h.t.t0,.int .i64 r.h.t.t1] 67)=Wi from hWi.symm];obtain⟨P9,hP9⟩:∃p,p=wr.heap.size:=⟨_,rfl⟩
         have hxi:Wi.heap[P9]? =some (blkO r.h):=by rw[hWi,hP9];exact heap_alloc_new _ _
         have hbi:Below wr.heap.size wr Wi:=by rw[hWi];exact ext_alloc _ _
         have hsi:Wi.heap.size=P9+1:=by rw[hWi,hP9];simp
         rw[←hP9] at hgl⊢;have HVI:=Lib.hid (HV1.out.ext hbi);have HXI:=Lib.hid hxi;have HSI:=Lib.hid hsi;clear hWi hxi hbi hsi c0 c1 c2 c3 c4 HV1 hP9;have hrg:=ownV_range HVI.out.2.1 hblt;have hz:(Wi.alloc (.cells Tryz.zeroCells196 196)).heap[Wi.heap.size]? =some (.cells Tryz.zeroCells196 196 (0,0)):=heap_alloc_new _ _
         go_upto_region 20 with (first
          |((with_reducible show wpList _ _ _ (⟨some 61,.load _ _,_,_,_,_⟩ :: _) _ _);refine wpList_load_mid rfl 196 _ rfl (w.heap.size+1) (b*201) rfl (vsC (I1 b)) _ hrg Tryz.underlying196 rfl (vset_len _) ?_;rw[vsC_arr])
          |((with_reducible show wpList _ _ _ (⟨none,.store 196 _ _,_,_,_,_⟩ :: _) _ _);refine wpList_store_row rfl 196 _ _ rfl Wi.heap.size (setV (I1 b)) rfl rfl 196 _ hz (vset_size _) (by rw[zero_vset,setV_size,setV_size]) (setV_all _) ?_))
         obtain⟨W3,hW3⟩:∃W3,W3=(Wi.alloc (.cells Tryz.zeroCells196 196)).setRow Wi.heap.size (setV (I1 b)):=⟨_,rfl⟩
         rw[←hW3];have hb3:Below Wi.heap.size Wi W3:=by rw[hW3];exact below_setRow (ext_alloc _ _) (Nat.le_refl _) _
         have ho3:W3.heap[P9+1]? =some (vsO (I1 b)):=by rw[hW3,HSI.out];exact setRow_heap _ _ _ _ _ _ (by rw[←HSI.out];exact hz)
         rw[HSI.out];have HV3:=Lib.hid (HVI.out.ext hb3);have HX3:=Lib.hid (block_ext hb3 HXI.out);have HO3:=Lib.hid ho3;have b0:W3.cell? ⟨P9,0,none⟩=some (.slice r.h.ia r.h.n r.h.c):=by rw[cell_of_row _ _ _ _ _ _ HX3.out];rfl
         have hl9:=lt_of_heap HX3.out;clear hW3 hb3 ho3 hrg hz HVI HXI HSI;go_wp2;clear b0 hl9
         go_loopw [65] (fun i wz=>∃q:Nat,i=.int .i64 q∧q≤r.h.n∧Hid (VJ w fo k I1 wz)∧Hid (wz.heap[P9]? =some (blkO r.h))∧Hid (wz.heap[P9+1]? =some (vsO (pastF (I1 b) (r.rs.take q))))) (fun i _=>r.h.n-(intOf i).toNat)
         case atStart=>exact⟨0,rfl,by omega,HV3,HX3,HO3⟩
         case round=>
          obtain⟨q,rfl,hq,HV4,HX4,HO4⟩:=hrel;clear HV3 HX3 HO3;by_cases hqlt:q<r.h.n
          ·have hqlt':(q:Int)<(r.h.n:Int):=by omega
           obtain⟨x,xb,xo,hx,hxok,hia,d0,d1,d2,d3,d4,d5,d6,d7⟩:=(HOK.out.2.ext HV4.out.2.2.1).cells hqlt;have HST:=Lib.hid (past_take (I1 b) r.rs q x hx);generalize pastF (I1 b) (r.rs.take q)=fk at *;rw[hia];have HXOK:=Lib.hid hxok;clear hx hxok;go_upto_region 23 with (fail)
           obtain⟨Wj,hWj⟩:∃Wj,Wj=wr.alloc (insO x.d x.aa x.na x.ca):=⟨_,rfl⟩
           have hrj:Wj.heap[wr.heap.size]? =some (insO x.d x.aa x.na x.ca):=by rw[hWj];exact heap_alloc_new _ _
           have hbj:Below wr.heap.size wr Wj:=by rw[hWj];exact ext_alloc _ _
           rw[show wr.alloc (Obj.cells #[.int .i64 x.d.op,.int .i64 x.d.dst,.int .i64 x.d.a,.int .i64 x.d.b,.int .i64 x.d.imm,.int .i64 x.d.callee,.slice x.aa x.na x.ca,.int .i64 x.d.many] 60)=Wj from hWj.symm];have HRJ:=Lib.hid hrj;have HVJ:=Lib.hid (HV4.out.ext hbj);have HXJ:=Lib.hid (block_ext hbj HX4.out);have HOJ:=Lib.hid (block_ext hbj HO4.out);have HXKJ:=Lib.hid (HXOK.out.ext hbj);obtain⟨m,hm⟩:∃m:Nat,definesV x.d=(m:Int):=⟨(definesV x.d).toNat,by have:=(defines_var x.d).1;omega⟩
           have hml:m<201:=by have:=(defines_var x.d).2;omega
           have HMD:=Lib.hid hm;have HS1:Hid (pastF (I1 b) (r.rs.take (q+1))=putS fk m):=by rw[Hid,HST.out,HMD.out];rfl
           clear hWj hrj hbj d0 d1 d2 d3 d4 d5 d6 d7 hia hm HV4 HX4 HO4 HXOK HST
           go_wp2_with (first
            |((with_reducible show wpList _ _ _ (⟨some 69,_,_,_,_,_⟩ :: _) _ _);refine wpList_load_row (o:=⟨some 69,.load 60 _,_,_,_,_⟩) rfl 60 _ rfl wr.heap.size rfl 60 _ (0,0) _ HRJ.out Tryz.underlying60 rfl size_insR ?_)
            |(go_at_call 100
              refine(defines_any x.d x.aa x.na x.ca Wj HXKJ.out.1 HXKJ.out.2.2.2.2.1 HXKJ.out.2.2.2.2.2.1 HXKJ.out.2.2.2.2.2.2.1 HXKJ.out.2.2.2.2.2.2.2.1).mono ?_;rw[HMD.out];rintro e w3 ⟨rfl,hb3⟩;have HVK:=Lib.hid (HVJ.out.ext hb3);have HXK:=Lib.hid (block_ext hb3 HXJ.out);have HOK2:=Lib.hid (block_ext hb3 HOJ.out);have hcell:=vset_cell HOK2.out m hml;have hfr:=vset_free HOK2.out m;have hl3:=lt_of_heap HOK2.out;have hmi:(m:Int)<201:=(by omega)
              clear hb3))
           have hcx:Chg (fun j=>j=P9+1) w3 (w3.setCell ⟨P9+1,m,none⟩ (.bool true)):=(Chg.refl (fun j=>j=P9+1) w3).setCell (p:=⟨P9+1,m,none⟩) (.inl rfl) _
           go_roundw
           case rel=>exact⟨q+1,by go_num,by omega,HVK.out.chg hcx (fun j e=>by omega),(by rw[Hid,Below.heap_setCell _ _ _ _ (by simp)];exact HXK.out),(by rw[Hid,HS1.out];exact vset_put HOK2.out m true fun j _=>rfl)⟩
           case measure=>simp[intOf];omega
          ·obtain rfl:q=r.h.n:=by omega
           have hrl:r.rs.length=r.h.n:=HOK.out.2.1.1;have HO5:Hid (wr.heap[P9+1]? =some (vsO (pastF (I1 b) r.rs))):=by
            have:=HO4.out
            rwa [List.take_of_length_le (by omega)] at this
           have hbk:b<(bksL bs).length:=by rw[bksL_len,HLb.out];exact hblt
           have HTX:Hid (bkOf (bksL bs) b=bkL r):=bksL_at HRR.out;have HOE:Hid (∀v,pastF (I1 b) r.rs v=outV (bkOf (bksL bs) b).ops (I1 b) v):=fun v=>by rw[HTX.out];exact past_out r.rs (I1 b) v
           have HOO:Hid (∀v:Nat,1≤v→v<201→pastF (I1 b) r.rs v=false→LackIn (bksL bs) ps (v:Int) b∧defsL (bkOf (bksL bs) b).ops (v:Int)=false):=fun v h1 h2 h3=>HO1.out.out hbk v h1 h2 (by rw[←HOE.out];exact h3);generalize pastF (I1 b) r.rs=O at *;have hqlt':¬(r.h.n:Int)<(r.h.n:Int):=by omega
           have t1:wr.cell? ⟨P9,1,none⟩=some (.int .i64 r.h.t.kind):=by rw[cell_of_row _ _ _ _ _ _ HX4.out];rfl
           have t2:wr.cell? ⟨P9,2,none⟩=some (.int .i64 r.h.t.a):=by rw[cell_of_row _ _ _ _ _ _ HX4.out];rfl
           have t3:wr.cell? ⟨P9,3,none⟩=some (.int .i64 r.h.t.t0):=by rw[cell_of_row _ _ _ _ _ _ HX4.out];rfl
           have t4:wr.cell? ⟨P9,4,none⟩=some (.int .i64 r.h.t.t1):=by rw[cell_of_row _ _ _ _ _ _ HX4.out];rfl
           have hli:=lt_of_heap HX4.out;have hgw:w.heap.size+2≤wr.heap.size:=by have:=HV4.out.2.2.2;omega
           clear HO4 hqlt hq hrl
           go_wp2_with (
            (go_at_call 74
             refine(to_any r.h.t wr HOK.out.1).mono ?_;rintro e w2 ⟨v,rfl,ho,hb⟩;obtain⟨va,vc,rfl⟩:=ho.form;have HT2:Hid (OwnI w2 (w.heap.size+2) (.slice va (toD r.h.t).length vc) (toD r.h.t)):=ho.mono hgw;have HV2:=Lib.hid (HV4.out.ext hb);have HX2:=Lib.hid (block_ext hb HX4.out);have HO2:=Lib.hid (block_ext hb HO5.out)
             clear ho hb t1 t2 t3 t4 hli))
           clear HV4 HX4 HO5 hgw;have hlen:=toD_len r.h.t
           go_loopw [7,77] (fun s7 i wz=>∃(q:Nat) (mv2:Bool) (I:Nat→Nat→Bool),i=.int .i64 q∧s7=.bool mv2∧q≤(toD r.h.t).length∧Hid (VJ w fo k I wz)∧Hid (wz.heap[P9]? =some (blkO r.h))∧Hid (wz.heap[P9+1]? =some (vsO O))∧Hid (OwnI wz (w.heap.size+2) (.slice va (toD r.h.t).length vc) (toD r.h.t))∧Hid (ValOK ps (bksL bs) I)∧Hid (mv2=false→I=I0∧I1=I0∧ClosedV (bksL bs) I b q)∧Hid (mv2=true→tot 201 k I<tot 201 k I0)) (fun _ i _=>(toD r.h.t).length-(intOf i).toNat)
           case atStart=>exact⟨0,mv,I1,rfl,rfl,by omega,HV2,HX2,HO2,HT2,HO1,fun e=>⟨(HC1.out e).1,(HC1.out e).1,(HC1.out e).2⟩,HT1⟩
           case round=>
            obtain⟨q,mv2,I,rfl,rfl,hq,HV,HX,HO,HT,HOK2,HC2,HTT⟩:=hrel;clear HV2 HX2 HO2 HT2;by_cases hql:q<(toD r.h.t).length
            ·obtain⟨x,hx⟩:∃x,(toD r.h.t)[q]? =some x:=⟨(toD r.h.t)[q],List.getElem?_eq_getElem hql⟩
             have hto1:1≤x∧x<(k:Int):=by
              have h9:=List.all_eq_true.1 HIN.out r (List.mem_of_getElem? HRR.out);have h10:=List.all_eq_true.1 h9 x (List.mem_of_getElem? hx);rw[HLb.out] at h10;simpa using h10
             obtain⟨c,rfl⟩:∃c:Nat,x=(c:Int):=⟨x.toNat,by omega⟩
             have hc2:c<k:=by omega
             have hci:(c:Int)<(k:Int):=by omega
             have hgd:(toD r.h.t).getD q 0=(c:Int):=by rw[List.getD_eq_getElem?_getD,hx];rfl
             obtain⟨b3,o3,e3,hcx,hx1,hx2⟩:=HT.out.ints.2.2 q hql;subst e3;rw[hgd] at hcx;have HTQ:Hid ((bkOf (bksL bs) b).to[q]? =some c):=by
              rw[HTX.out];show((toD r.h.t).map Int.toNat)[q]? =some c;rw[List.getElem?_map,hx];simp
             have hql':(q:Int)<((toD r.h.t).length:Int):=by omega
             have hgl2:w.heap.size+1<wr.heap.size:=HV.out.2.2.2;clear hx hgd hx1 hx2 hto1;go_upto_region 28 with (fail)
             refine region_free 7 [some 81,some 82,some 83,some 84,some 85,some 86,some 15] (by kernel_rfl) (by kernel_rfl) (specB [.val (.slice (some ⟨w.heap.size+1,0,none⟩) k k),.val (.int .i64 (c:Int)),.val (.pointer (some ⟨w.heap.size+1,c*201,none⟩)),.val (.agg (setV (I c))),.val (.agg (setV O)),.val (.agg (setV fun v=>I c v&&O v)),.new (vsO fun _=>false)]) (specB_mono ?_) ?_ ?_
             ·intro k hk;simp only[List.mem_cons,List.not_mem_nil,or_false] at hk;rcases hk with rfl|rfl|rfl|rfl|rfl|rfl|rfl
              ·exact trivial
              ·exact trivial
              ·exact trivial
              ·exact trivial
              ·exact trivial
              ·exact trivial
              ·exact trivial
             ·intro i hi ν lo hi' w1 K hB hD hK;have hcase:i=0∨i=1∨i=2∨i=3∨i=4∨i=5∨i=6:=by omega
              clear hi;rcases hcase with rfl|rfl|rfl|rfl|rfl|rfl|rfl
              ·clear hD;refine wpOp_atK rfl rfl ?_;simp only[zA,zB,zC,zD,zE,zF,zJ,zK,zG,zH,zI] at hK⊢;go_simp;exact hK _ _ (Below.refl _ _) rfl
              ·clear hD;refine wpOp_atK rfl rfl ?_;simp only[zA,zB,zC,zD,zE,zF,zJ,zK,zG,zH,zI] at hK⊢;go_simp;exact hK _ _ (Below.refl _ _) rfl
              ·have e0:=hD 0 (by kernel_rfl)
               replace e0:ν 0=(.slice (some ⟨w.heap.size+1,0,none⟩) k k):=e0
               have e1:=hD 1 (by kernel_rfl)
               replace e1:ν 1=(.int .i64 (c:Int)):=e1
               clear hD;refine wpOp_atK rfl rfl ?_;simp only[zA,zB,zC,zD,zE,zF,zJ,zK,zG,zH,zI,e0,e1] at hK⊢;go_simp;exact hK _ _ (Below.refl _ _) rfl
              ·have e2:=hD 2 (by kernel_rfl)
               replace e2:ν 2=(.pointer (some ⟨w.heap.size+1,c*201,none⟩)):=e2
               clear hD;refine wpOp_atK rfl rfl ?_;simp only[zA,zB,zC,zD,zE,zF,zJ,zK,zG,zH,zI,e2] at hK⊢;refine wp_load_mid 196 _ rfl (w.heap.size+1) (c*201) rfl (vsC (I c)) _ (ownV_range (OwnR.ext HV.out.2.1 hB) hc2) Tryz.underlying196 rfl (vset_len _) ?_;rw[vsC_arr];exact hK _ _ (Below.refl _ _) rfl
              ·clear hD;refine wpOp_atK rfl rfl ?_;simp only[zA,zB,zC,zD,zE,zF,zJ,zK,zG,zH,zI] at hK⊢;refine wp_load_row 196 _ rfl (P9+1) rfl 196 _ (0,0) _ (block_ext hB HO.out) Tryz.underlying196 rfl (vset_size _) ?_;exact hK _ _ (Below.refl _ _) rfl
              ·have e3:=hD 3 (by kernel_rfl)
               replace e3:ν 3=(.agg (setV (I c))):=e3
               have e4:=hD 4 (by kernel_rfl)
               replace e4:ν 4=(.agg (setV O)):=e4
               clear hD;refine wpOp_atK rfl rfl ?_;simp only[zA,zB,zC,zD,zE,zF,zJ,zK,zG,zH,zI,e3,e4] at hK⊢;go_simp;refine(vMeet_any (I c) O w1).mono ?_;rintro e w2 ⟨rfl,hb2⟩;exact hK _ _ hb2 rfl
              ·clear hD;refine wpOp_atK rfl rfl ?_;simp only[zA,zB,zC,zD,zE,zF,zJ,zK,zG,zH,zI] at hK⊢;go_simp;refine hK _ _ (ext_alloc _ _) ⟨rfl,by simp,?_⟩;rw[heap_alloc_new,zero_vset]
             ·intro ν lo hi w1 hB hS hI hD;have e0:ν 0=(.slice (some ⟨w.heap.size+1,0,none⟩) k k):=hS 0 (by omega);have e1:ν 1=(.int .i64 (c:Int)):=hS 1 (by omega);have e2:ν 2=(.pointer (some ⟨w.heap.size+1,c*201,none⟩)):=hS 2 (by omega);have e3:ν 3=(.agg (setV (I c))):=hS 3 (by omega);have e4:ν 4=(.agg (setV O)):=hS 4 (by omega);have e5:ν 5=(.agg (setV fun v=>I c v&&O v)):=hS 5 (by omega);obtain⟨e6,l6,h6⟩:=hS 6 (by omega);clear hS;simp only[List.drop_succ_cons,List.drop_zero,zA,zB,zC,zD,zE,zF,zJ,zK,zG,zH,zI,e0,e1,e2,e3,e4,e5,e6];have i6:=hI 6 (by omega);generalize lo 6=P15 at *;have hp10:P9+1<wr.heap.size:=(Array.getElem?_eq_some_iff.1 HO.out).1;have HV1:=Lib.hid (HV.out.ext hB);have HO1:=Lib.hid (block_ext hB HO.out);have HX1:=Lib.hid (block_ext hB HX.out);have HW1:=Lib.hid (HT.out.ext hB);have htl:b3<wr.heap.size:=(HT.out.1.lt b3 rfl).2;have HZ:=Lib.hid h6;have HQ1:=Lib.hid i6.1;clear hI hD hB e0 e1 e2 e3 e4 e5 e6 h6 i6
              go_wp2_with ((with_reducible show wpList _ _ _ (⟨none,.store 196 _ _,_,_,_,_⟩ :: _) _ _);refine wpList_store_row rfl 196 _ _ rfl P15 (setV fun v=>I c v&&O v) rfl rfl 196 _ HZ.out (vset_size _) (by rw[setV_size,setV_size]) (setV_all _) ?_)
              obtain⟨w3,hw3⟩:∃w3,w3=w1.setRow P15 (setV fun v=>I c v&&O v):=⟨_,rfl⟩
              rw[←hw3];have HV3:Hid (VJ w fo k I w3):=by rw[hw3];exact HV1.out.chg (chg_setRow w1 P15 _) (fun j e=>by have:=HV.out.2.2.2;have:=HQ1.out;omega)
              have HO3:Hid (w3.heap[P9+1]? =some (vsO O)):=by rw[hw3];exact(setRow_other _ _ _ _ (by have:=HQ1.out;omega)).trans HO1.out
              have HX3:Hid (w3.heap[P9]? =some (blkO r.h)):=by rw[hw3];exact(setRow_other _ _ _ _ (by have:=(Array.getElem?_eq_some_iff.1 HX.out).1;have:=HQ1.out;omega)).trans HX1.out
              have HN3:Hid (w3.heap[P15]? =some (vsO fun v=>I c v&&O v)):=by rw[hw3];exact setRow_heap _ _ _ _ _ _ HZ.out
              have HW3:Hid (OwnI w3 (w.heap.size+2) (.slice (some ⟨b3,o3,none⟩) (toD r.h.t).length vc) (toD r.h.t)):=by
               rw[hw3]
               exact⟨ownsRow_chg HW1.out.1 (chg_setRow w1 P15 _) (fun g e hS=>by
                simp only[Value.ownBlock,Option.some.injEq] at e;have:=HQ1.out
                omega),HW1.out.2⟩
              clear hw3 HW1 htl HV HO HX HV1 HO1 HX1 HZ;have HT3:Hid (OwnI w3 (w.heap.size+2) (.slice (some ⟨b3,o3,none⟩) (toD r.h.t).length vc) (toD r.h.t)):=HW3.out;obtain⟨eq,heq⟩:∃e,eqV (fun v=>I c v&&O v) (I c)=e:=⟨_,rfl⟩
              have hqn:∀W,(binOp .neq 196 (.agg (setV fun v=>I c v&&O v)) (.agg (setV (I c)))).run Tryz.prog W=.ok (.bool (!eq)) W:=fun W=>by rw[neq_vset,heq]
              have HEQ:=Lib.hid heq;have QN:Hid (∀w',(∃n':ExtW w3,w'=n'.val)→w'.heap[P15]? =some (vsO fun v=>I c v&&O v)):=fun w' ⟨n',e⟩=>by rw[e];exact block_ext n'.ext HN3.out
              have QI:Hid (∀w',(∃n':ExtW w3,w'=n'.val)→w'.rangeAt (w.heap.size+1) (c*201) (vsC (I c))):=fun w' ⟨n',e⟩=>by rw[e];exact ownV_range (OwnR.ext HV3.out.2.1 n'.ext) hc2
              have HNE:Nonempty (ExtW w3):=⟨⟨w3,Below.refl _ _⟩⟩
              have hl3:∀n':ExtW w3,w.heap.size+1<n'.val.heap.size:=fun n'=>(HV3.out.ext n'.ext).2.2.2;clear heq;obtain⟨N,hN⟩:∃N:Nat→Bool,N=fun v=>I c v&&O v:=⟨_,rfl⟩
              rw[←hN] at QN HN3 hqn HEQ;have HNN:=Lib.hid hN;clear hN;refine region_ext (by kernel_rfl) (by kernel_rfl) ?_
              repeat (first
               |go_big_quiet_skip
               |((with_reducible show wpQuiet _ _ _ _ (⟨some 87,_,_,_,_,_⟩ :: _) _);refine wpQuiet_load_row (o:=⟨some 87,.load 196 _,_,_,_,_⟩) (by kernel_rfl) 196 _ rfl P15 rfl 196 _ (0,0) _ QN.out Tryz.underlying196 rfl (vset_size _) ?_;simp only[Act.put,List.setIfInBounds_toArray,List.set_cons_succ,List.set_cons_zero])
               |((with_reducible show wpQuiet _ _ _ _ (⟨some 91,_,_,_,_,_⟩ :: _) _);refine wpQuiet_load_mid (o:=⟨some 91,.load 196 _,_,_,_,_⟩) (by kernel_rfl) 196 _ rfl (w.heap.size+1) (c*201) rfl (vsC (I c)) _ QI.out Tryz.underlying196 rfl (vset_len _) ?_;simp only[vsC_arr,Act.put,List.setIfInBounds_toArray,List.set_cons_succ,List.set_cons_zero])
               |go_big_quiet_step (fail))
              refine wpQuiet_nil ?_;rintro _ ⟨n',rfl⟩;have HV4:=Lib.hid (HV3.out.ext n'.ext);have HO4:=Lib.hid (block_ext n'.ext HO3.out);have HX4:=Lib.hid (block_ext n'.ext HX3.out);have HN4:=Lib.hid (block_ext n'.ext HN3.out);have HT4:=Lib.hid (HT3.out.ext n'.ext);generalize n'.val=w4 at *;clear HV3 HO3 HX3 HN3 HT3 hqn QN QI hl3;cases eq with
              |true=>
               have HC4:Hid (mv2=false→I=I0∧I1=I0∧ClosedV (bksL bs) I b (q+1)):=fun e=>by
                obtain⟨e1,e2,e3⟩:=HC2.out e;refine⟨e1,e2,fun b' hb' j c' hj hlt v hv hi=>?_⟩;by_cases e4:b'=b∧j=q
                ·obtain⟨rfl,rfl⟩:=e4;rw[HTQ.out] at hj;cases hj;have h9:=eqV_iff.1 HEQ.out v hv;rw[HNN.out] at h9;have h9:(I c v&&O v)=I c v:=h9;rw[hi,Bool.true_and] at h9;rw[e1,←e2,←HOE.out];exact h9
                ·exact e3 b' hb' j c' hj (by omega) v hv hi
               go_wp2
               go_roundw
               case rel=>exact⟨q+1,mv2,I,by go_num,rfl,by omega,HV4,HX4,HO4,HT4,HOK2,HC4,HTT⟩
               case measure=>simp[intOf];omega
              |false=>
               have HTO:Hid (tot 201 k (putB I c N)<tot 201 k I0):=by
                have h9:tot 201 k (putB I c N)<tot 201 k I:=by
                 refine tot_put hc2 I N (fun v _ hv=>?_) ?_
                 ·rw[HNN.out] at hv;have hv:(I c v&&O v)=true:=hv;rw[Bool.and_eq_true] at hv;exact hv.1
                 ·refine Classical.byContradiction fun hn=>?_;have:eqV N (I c)=true:=eqV_iff.2 fun v hv=>Classical.byContradiction fun hx=>hn ⟨v,hv,hx⟩;rw[HEQ.out] at this;cases this
                cases mv2 with
                |false=>rw[←(HC2.out rfl).1];exact h9
                |true=>exact Nat.lt_trans h9 (HTT.out rfl)
               have HOK5:Hid (ValOK ps (bksL bs) (putB I c N)):=by
                rw[Hid,HNN.out];exact HOK2.out.put hbk (List.mem_of_getElem? HTQ.out) O HOO.out
               have ht:=ownV_there HV4.out.2.1 hc2 N;have hgl4:w.heap.size+1<w4.heap.size:=HV4.out.2.2.2;have hxl:=lt_of_heap HX4.out
               go_wp2_with (first
                |((with_reducible show wpList _ _ _ (⟨some 95,.load _ _,_,_,_,_⟩ :: _) _ _);refine wpList_load_row rfl 196 _ rfl P15 rfl 196 _ (0,0) _ HN4.out Tryz.underlying196 rfl (vset_size _) ?_)
                |((with_reducible show wpList _ _ _ (⟨none,.store 196 _ _,_,_,_,_⟩ :: _) _ _);refine wpList_store_mid rfl 196 _ _ rfl (w.heap.size+1) (c*201) (setV N) rfl rfl ht (vset_size _) (setV_all _) ?_))
               have hc4:=setCells_chg w4 (w.heap.size+1) (c*201) (setV N).toList
               go_roundw
               case rel=>exact⟨q+1,true,putB I c N,by go_num,rfl,by omega,HV4.out.set hc2 N,(hc4.block _ (by omega) (by omega)).trans HX4.out,(hc4.block _ (lt_of_heap HO4.out) (by omega)).trans HO4.out,⟨ownsRow_chg HT4.out.1 hc4 (fun g e hS=>by have:=(HT4.out.1.lt g e).1;omega),HT4.out.2⟩,HOK5,(fun e=>by cases e),fun _=>HTO.out⟩
               case measure=>simp[intOf];omega
            ·have hql':¬(q:Int)<((toD r.h.t).length:Int):=by omega
             have HC3:Hid (mv2=false→I=I0∧ClosedV (bksL bs) I (b+1) 0):=fun e=>by
              obtain⟨e1,_,e3⟩:=HC2.out e;refine⟨e1,fun b' hb' j c' hj hlt=>e3 b' hb' j c' hj ?_⟩;by_cases e4:b'=b
              ·subst e4;right;refine⟨rfl,?_⟩;have:=(List.getElem?_eq_some_iff.1 hj).1;rw[HTX.out] at this;have h9:((toD r.h.t).map Int.toNat).length=(toD r.h.t).length:=List.length_map _;have:j<((toD r.h.t).map Int.toNat).length:=this;omega
              ·left;omega
             go_wp2
             go_roundw
             case rel=>exact⟨b+1,mv2,I,by go_num,rfl,by omega,HV,HOK2,HC3,HTT⟩
             case measure=>simp[intOf];omega
        ·obtain rfl:b=k:=by omega
         have hblt':¬(b:Int)<(b:Int):=by omega
         go_wp2
         go_roundg (2*tot 201 b I1+(if mv then 1 else 0))
         case measure=>
          have hg:=HG0.out;simp only[if_true] at hg;cases mv with
          |false=>rw[(HC1.out rfl).1];simp;omega
          |true=>have:=HT1.out rfl;simp;omega
         case rel=>exact⟨mv,I1,rfl,HV1,HO1,Nat.le_refl _,fun e=>(HC1.out e).2⟩
end
end Go.Proofs.YtnmkjliioogbgaaGreatDoor
