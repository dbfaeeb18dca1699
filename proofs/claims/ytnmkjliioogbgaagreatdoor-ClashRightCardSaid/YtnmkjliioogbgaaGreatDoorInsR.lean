/-
 References:is a number one of some? Those that rise.
-/
import Derived.Test.YtnmkjliioogbgaaGreatDoorRows
import Derived.Test.YtnmkjliioogbgaaGreatDoorSB
import Derived.Test.YtnmkjliioogbgaaGreatDoorTA
import Derived.Test.YtnmkjliioogbgaaGreatDoorRangeT
import Derived.OwnWalkIn
import Derived.BigQuiet
namespace Go.Proofs.YtnmkjliioogbgaaGreatDoor
set_option linter.unusedSimpArgs false
set_option linter.unusedVariables false
set_option linter.unusedSectionVars false
set_option maxRecDepth 100000
set_option maxHeartbeats 40000000
section
open Go.RowKit
def risK(xs:List Int)(k:Nat):List Int:=((List.range' 1 (k-1)).filter fun v:Nat=>decide ((v:Int)∈xs)).map fun v:Nat=>(v:Int)
def risL(xs:List Int):List Int:=risK xs 201
theorem risK_len(xs:List Int)(k:Nat):(risK xs k).length≤k:=by
 unfold risK
 rw[List.length_map]
 have:=List.length_filter_le (fun v:Nat=>decide ((v:Int)∈xs)) (List.range' 1 (k-1))
 simp only[List.length_range'] at this
 omega
def lessL(xs ys:List Int):List Int:=xs.filter fun x=> !decide (x∈ys)
end

section
open Go.RowKit Go.Shelf
attribute [local go_sem] Oper.semAt_some wide_fn wide_depth wide_fnR wide_depthR
section
variable {α:Type} {F:Fence} {n:Nat} {P:Program} {t kt et:TypeId} {enc:α→Value} {dec:Value→α} {one:Value} {w:World} {b:Nat} {L:List α} {ops:Array Oper} {rest:List Oper} {o:Oper} {a:Act} {Q:Exit→Act→World→Prop}
theorem wpListIn_rangeM(hg:o.guard=none)(m:Operand)(hop:o.op=Op.range t m)(ht:P.underlying t=some (.map kt et))(h:SetM enc dec one w b L)(hm:a.eval m=.map (some b))
  (hK:∀w',SetI enc dec one w' b w.heap.size L L→Below w.heap.size w w'→w'.heap.size=w.heap.size+1→wpListIn F n P ops Q rest (a.put o.dst (.pointer (some ⟨w.heap.size,0,none⟩))) w'):wpListIn F n P ops Q (o :: rest) a w:=by
 refine wpListIn_plain hg fun K' hK'=>?_
 obtain⟨o',_,hrun,r1⟩:=h.range ht
 unfold Oper.wpIn
 refine⟨by simp[Oper.about,hop],?_⟩
 rw[Oper.semAt_plain F _ _ (by rw[hop];intro c hc';cases hc')]
 simp[execOp,hop,hm,hrun,Result.andThen]
 exact hK' _ _ (hK _ r1 ((Below.refl _ w).alloc (Nat.le_refl _) _) (by simp))
theorem wpListIn_nextM{r:Nat}{R:List α}(hg:o.guard=none)(it:Operand)(hop:o.op=Op.next it false)(hit:a.eval it=.pointer (some ⟨r,0,none⟩))(h:SetI enc dec one w b r L R)
  (hDone:R= []→wpListIn F n P ops Q rest (a.put o.dst (.tuple #[.bool false])) w)
  (hMore:∀x R' w',x∈R→(∀y,y∈R'↔y∈R∧y≠x)→R'.length<R.length→SetI enc dec one w' b r L R'→w.grownBy w' (some r)→w'.heap.size=w.heap.size→
    (Instr.entry (.pointer (some ⟨r,0,none⟩))).run P w'=.ok (.tuple #[enc x,one]) w'→wpListIn F n P ops Q rest (a.put o.dst (.tuple #[.bool true,enc x,one])) w'):wpListIn F n P ops Q (o :: rest) a w:=by
 refine wpListIn_plain hg fun K' hK'=>?_
 unfold Oper.wpIn
 refine⟨by simp[Oper.about,hop],?_⟩
 rw[Oper.semAt_plain F _ _ (by rw[hop];intro c hc';cases hc')]
 rcases h.next (P:=P) o.type with ⟨h0,hrun⟩|⟨x,R',w',hx,hR',hlt,hrun,hSI,hgr,hsz,hen⟩
 ·simp[execOp,hop,hit,hrun,Result.andThen];exact hK' _ _ (hDone h0)
 ·simp[execOp,hop,hit,hrun,Result.andThen];exact hK' _ _ (hMore x R' w' hx hR' hlt hSI hgr hsz hen)
end
theorem SetI.left{α:Type}{enc:α→Value}{dec:Value→α}{one:Value}{w:World}{b r:Nat}{L R:List α}(h:SetI enc dec one w b r L R):w.rangeLeft b r=R.length:=by
 obtain⟨es,clock,since,seen,c0,h1,_,_,_,_,h6,_,_,_,rfl⟩:=h
 simp[World.rangeLeft,h1,h6]
def encI1(x:Int):Array Value:=#[encV x]
def okK(L:List Int)(d:List Int)(x:Int):Prop:=x∈L∧x∉d
def nxK(d:List Int)(x:Int):List Int:=d++ [x]
def finK(L:List Int)(d:List Int):Prop:=∀y∈L,y∈d
def IterK(P:Program)(gf:Nat)(lb:Array Value)(L:List Int)(I:World→Prop):Prop:=IterM P gf lb encI1 (okK L) nxK [] (finK L) (fun _ W=>I W)
theorem IterK.mono{P:Program}{gf:Nat}{lb:Array Value}{L:List Int}{I I':World→Prop}(h:IterK P gf lb L I)(hi:∀W,I' W→I W):IterK P gf lb L I':=
 fun lp K Kx T W hK hKx hInv h1 h2 hY h0=>h lp K Kx T W hK hKx (fun s W hs=>hi W (hInv s W hs)) h1 h2 hY h0
theorem SetI.iter{α:Type}{enc:α→Value}{dec:Value→α}{one:Value}{w:World}{b r:Nat}{L R:List α}(h:SetI enc dec one w b r L R):∃o:Obj,w.heap[r]? =some o∧isIt o=true:=by
 obtain⟨es,clock,since,seen,c0,_,_,_,_,_,h6,_⟩:=h
 exact⟨_,h6,rfl⟩
theorem grownV_none{W W':World}(h:Below W.heap.size W W'):W.grownBy W' none:=⟨h.os,h.tape,h.output,h.size,fun k hk _=>h.block k hk⟩
theorem SetM.obj{α:Type}{enc:α→Value}{dec:Value→α}{one:Value}{w:World}{b:Nat}{L:List α}(h:SetM enc dec one w b L):∃o,w.heap[b]? =some o∧∀W,W.heap[b]? =some o→SetM enc dec one W b L:=by
 obtain⟨es,c,hb,h2⟩:=h
 exact⟨_,hb,fun W hW=>⟨es,c,hW,h2⟩⟩
theorem keys_iter(b G:Nat)(L:List Int)(o:Obj)(hS:∀W:World,W.heap[b]? =some o→VSet W b L):IterK Tryz.prog 84 #[.pointer (some ⟨G,0,none⟩)] L (fun W=>W.heap[G]? =some (.cells #[.map (some b)] 101)∧W.heap[b]? =some o):=by
 intro l K Kx T W hK hKx hInv hT0 hTg hY h0
 refine callsIn_of_wp Tryz.func84 rfl trivial ?_ rfl
 simp only[Tryz.ntmps84,List.size_toArray,List.length_cons,List.length_nil,Nat.reduceAdd,Nat.reduceSub,Array.replicate_succ,Array.replicate_zero,List.push_toArray,List.append_toArray,List.nil_append,List.cons_append]
 have HY:=Lib.hid hY
 have HI:=Lib.hid hInv
 have HK0:=Lib.hid hK
 have HT0:=Lib.hid hT0
 have HTG:=Lib.hid hTg
 have H0:=Lib.hid h0
 have HSS:=Lib.hid hS
 have hg0:W.cell? ⟨G,0,none⟩=some (.map (some b)):=by rw[cell_of_row _ _ _ _ _ _ (hInv _ _ h0).1];rfl
 have hb0:W.heap[b]? =some o:=(hInv _ _ h0).2
 have HB0:=Lib.hid hb0
 clear hY hInv hK hKx h0 hT0 hTg hS hb0
 gi_wp2_with (
  (refine wpListIn_rangeM rfl _ rfl mapTV (HSS.out W HB0.out) rfl ?_
   intro w1 hi hb hz;have HSI:=Lib.hid hi;have HK1:=Lib.hid (HK0.out _ _ _ none H0.out (grownV_none hb) (fun q e=>by cases e))
   have HNT:Hid (¬T w1 W.heap.size):=(fun ht=>by
    have h1:=HT0.out _ _ _ H0.out (HTG.out _ _ _ none _ H0.out (grownV_none hb) (fun q e=>by cases e) ht)
    omega)
   clear hi hb hz hg0))
 obtain⟨r,hr⟩:∃r,r=W.heap.size:=⟨_,rfl⟩
 rw[←hr] at HSI HNT⊢
 have HWE:Hid (W.heap.size≤r):=by rw[Hid,hr];exact Nat.le_refl _
 clear hr
 gi_loopw [3] (fun _ wr=>∃d R,Hid (VIter wr b r L R)∧Hid (K d wr)∧Hid (∀y,y∈R↔y∈L∧y∉d)∧Hid (¬T wr r)) (fun _ wr=>wr.rangeLeft b r)
 case atStart=>exact⟨[],L,HSI,HK1,fun y=>by simp,HNT⟩
 case round=>
  obtain⟨d,R,HIr,HK,HM,HNTr⟩:=hrel;have HLT:=Lib.hid (SetI.left HIr.out);obtain⟨io,hio,hit⟩:=HIr.out.iter;have HIO:=Lib.hid hio;have HIT:=Lib.hid hit;clear hio hit
  gi_wp2_with (
   (refine wpListIn_nextM rfl _ rfl rfl HIr.out (fun h0=>?_) (fun x R' w2 hx hR' hR hi hg hz hen=>?_)))
  ·subst h0;have HF:Hid (finK L d):=fun y hy=>by
    have:=(HM.out y)
    simp only[List.not_mem_nil,false_iff,not_and,Classical.not_not] at this;exact this hy
   clear HM HLT HIr
   gi_wp2
   go_end0
   exact⟨⟨_,rfl⟩,Or.inl ⟨d,HF.out,HK.out⟩⟩
  ·have hrow:∀q,some r=some q→W.heap.size≤q∧∃o:Obj,wr.heap[q]? =some o∧isIt o=true:=fun q e=>by injection e with e;subst e;exact⟨HWE.out,io,HIO.out,HIT.out⟩
   have hk2:K d w2:=HK0.out _ _ _ _ HK.out hg hrow;have hn2:¬T w2 r:=fun ht=>HNTr.out (HTG.out _ _ _ _ _ HK.out hg hrow ht);have HR2:=Lib.hid hR;have HX2:=Lib.hid hx;have HMR:=Lib.hid hR';have HI2:=Lib.hid hi;clear hi hg hz hR hrow HK HIr HIO HIT HNTr hR' hx;have hk3:=hk2;have hn3:=hn2;have HI3:=HI2;have hmm:=(HM.out x).1 HX2.out;obtain⟨fn,tmps,assign,body,hy,hR⟩:=HY.out d x _ hmm hk3;unfold encI1 at hy;have HY3:=Lib.hid hR;have HN3:=Lib.hid hn3;have HKK3:=Lib.hid hk3;clear hR hk2 hn2 hk3 hn3 hmm;rw[hy]
   gi_wp2
   refine HY3.out.mono ?_;rintro e W' (⟨rfl,hJ',hT'⟩|⟨rfl,hX'⟩)
   ·have HKn:=Lib.hid hJ';have hrb:W'.heap[r]? =w2.heap[r]?:=hT'.2.1 r HI3.out.lt.2.1 HN3.out;have hbb:W'.heap[b]? =w2.heap[b]?:=by rw[(HI.out _ _ hJ').2,(HI.out _ _ HKK3.out).2]
    have HIn:=Lib.hid (HI3.out.of_blocks hbb hrb);have HNn:Hid (¬T W' r):=fun ht=>by
     rcases hT'.2.2 r ht with h|h
     ·exact HN3.out h
     ·have:=HI3.out.lt.2.1;omega
    have HMn:Hid (∀y,y∈R'↔y∈L∧y∉nxK d x):=fun y=>by
     rw[HMR.out,HM.out];simp[nxK,and_assoc]
    clear hJ' hT' hy HY3 HN3 HKK3 hrb hbb HI3 HM HMR
    gi_wp2
    go_roundw
    case rel=>exact⟨_,R',HIn,HKn,HMn,HNn⟩
    case measure=>rw[SetI.left HIn.out,HLT.out];exact HR2.out
   ·have HX:=Lib.hid hX';clear hX' hy HY3
    gi_wp2
    exact bodyPost_ret (v:=.tuple #[]) (by simp[results,Tryz.results84,go_sem]) rfl ⟨⟨_,rfl⟩,Or.inr HX.out⟩
theorem keysM_any(b:Nat)(w:World):Calls Tryz.prog 51 #[.map (some b)] w fun e w'=>e=.returned (.func (.func 84) #[] #[.pointer (some ⟨w.heap.size,0,none⟩)])∧w'=w.alloc (.cells #[.map (some b)] 101):=by
 go_enter Tryz.func51,Tryz.ntmps51
 go_wp2
 go_ret
 exact⟨rfl,rfl⟩
theorem enter_keys(args:Array Value)(w:World):(callFunc 84 args).run Tryz.prog w=.ok (.enter 84 args) w:=enters_of Tryz.func84 (by kernel_rfl) rfl args w
theorem SteadyM.ownI(D base:Nat)(v:Value)(xs:List Int):SteadyM D (fun W=>OwnI W base v xs):=(SteadyM.ownsRow _ _ _ _ _ _ _).and (SteadyM.pure _ _)
def SetPostV(w:World)(L:List Int)(e:Ending)(w':World):Prop:=∃v d,e=.returned v∧OwnI w' w.heap.size v d∧d.Nodup∧(∀y,y∈d↔y∈L)∧Below w.heap.size w w'
def AJV(w:World)(B base:Nat)(xs:List Int)(W:World):Prop:=
 ∃v,W.heap[B]? =some (.cells #[v] 22 (0,0))∧OwnI W base v xs∧v.ownBlock≠some B∧Below w.heap.size w W∧w.heap.size<W.heap.size
theorem AJV.steady{w:World}{B base:Nat}{xs:List Int}{D:Nat}(hD:w.heap.size≤D):SteadyM D (AJV w B base xs):=by
 unfold AJV
 exact SteadyM.ex fun v=>(SteadyM.block _ _ rfl).and ((SteadyM.ownI _ _ _ _).and ((SteadyM.pure _ _).and ((SteadyM.below (Nat.le_refl _) hD).and (SteadyM.size _ _))))
theorem appendSeqV_any(gf:Nat)(lb:Array Value)(L:List Int)(w:World)(eg:∀args w,(callFunc gf args).run Tryz.prog w=.ok (.enter gf args) w)(hit:IterK Tryz.prog gf lb L (fun W=>Below w.heap.size w W))(hl:L.length≤1000000000000)(hli:∀x∈L,I64 x):
  Calls Tryz.prog 122 #[.slice none 0 0,.func (.func gf) #[] lb] w (SetPostV w L):=by
 refine(callsIn_wide (n:=0)).1 ?_
 refine callsIn_of_wp_marks Tryz.func122 rfl trivial ?_
 simp only[Tryz.ntmps122,List.size_toArray,List.length_cons,List.length_nil,Nat.reduceAdd,Nat.reduceSub,Array.replicate_succ,Array.replicate_zero,List.push_toArray,List.append_toArray,List.nil_append,List.cons_append]
 have HIT:=Lib.hid hit
 have HLI:=Lib.hid hli
 clear hit hli
 gi_wp2
 refine range_outerM (ps:=#[7]) (gf:=gf) (lb:=lb) (enc:=encI1) rfl eg HIT.out (fun _=>rfl)
  (fun d W=>Hid (AJV w w.heap.size w.heap.size d W∧d.Nodup∧∀y∈d,y∈L))
  (fun _ _=>False)
  (fun d x a1 W=>a1={tmps:=#[.slice none 0 0,.func (.func gf) #[] lb,.pointer (some ⟨w.heap.size,0,none⟩),undef,.slice none 0 0,encV x,.func (.func gf) #[] lb,encV x,undef,undef,undef,undef,undef],defers:= []})
  (fun d=>(AJV.steady (by simp)).and ((SteadyM.pure _ _).and (SteadyM.pure _ _))) (fun c=>SteadyM.pure _ _) (fun d x a1=>SteadyM.pure _ _) (fun d W h=>by obtain⟨⟨v,_,_,_,hb,_⟩,_⟩:=h.out;exact hb)
  (TV w.heap.size 22) ?t0 ?tg ?start ?assign ?body ?done ?stop
 case t0=>
  intro d W k h ht;obtain⟨⟨v,hv,ho,_,_,h1⟩,_⟩:=h.out;rcases ht with rfl|⟨u,hu,hk⟩
  ·exact h1
  ·rw[hv] at hu;simp only[Option.some.injEq,Obj.cells.injEq,Array.mk.injEq,List.cons.injEq,and_true] at hu;subst hu;exact(ho.1.lt k hk).2
 case tg=>
  rintro W W' row hg hr ⟨d,h⟩ k ht;obtain⟨⟨v,hv,_⟩,_⟩:=h.out;refine ht.ext (hg.block _ (Array.getElem?_eq_some_iff.1 hv).1 fun e=>?_);obtain⟨_,o,ho,hb⟩:=hr _ e.symm;rw[hv] at ho;cases ho;cases hb
 case start=>exact⟨⟨_,heap_alloc_new _ _,OwnI.nil _ _,by simp[Value.ownBlock],(Below.refl _ w).alloc (Nat.le_refl _) _,by simp⟩,List.nodup_nil,by simp⟩
 case assign=>
  rintro lp d x W hok hJ;unfold encI1
  gi_wp2
  exact⟨Keep.refl _,hJ,by trivial,Tch.refl _ _⟩
 case body=>
  rintro lp d x a1 W2 hok hJ rfl;obtain⟨⟨v,hv,ho,hne,hb,hlt0⟩,hnd,hsub⟩:=hJ.out;obtain⟨av,cv,rfl⟩:=ho.form;have hc0:W2.cell? ⟨w.heap.size,0,none⟩=some (.slice av d.length cv):=by rw[cell_of_row _ _ _ _ _ _ hv];rfl
  have hf0:W2.frozen? ⟨w.heap.size,0,none⟩=false:=frozen_of_row _ _ _ _ _ hv;have HO:=Lib.hid ho;have HV:=Lib.hid hv;have HB:=Lib.hid hb;have HNE:=Lib.hid hne;have HOK:=Lib.hid hok;have hlen:d.length≤1000000000000:=Nat.le_trans (nodup_length_le hnd hsub) hl;have HND:=Lib.hid hnd;have HSUB:=Lib.hid hsub;clear hv ho hb hJ hne hok hnd hsub
  gi_wp2_with (
   (gi_at_builtin
    refine listIn_of (by repeat (first|exact noOut_round|refine noOut_then ?_|refine noOut_block ?_)) _ _ _ rfl ?_;refine wpList_append1 rfl W2 (.tmp 8) (.tmp 10) 22 3 rfl w.heap.size _ 1 8 Tryz.underlying22 infoI rfl (by omega) (.slice av d.length cv) d.length _ [.int .i64 x] rfl HO.out.1 W2.heap.size rfl rfl rfl (by simp[Value.oneCell']) (by simp only[maxLen];omega) (by omega) (by omega) ?_;intro g2 cap w2 hown2 hgr2 hat2;have HO2:=Lib.hid hown2;have HG2:=Lib.hid hgr2;have HA2:=Lib.hid hat2;have hv2:=grown_row hgr2 HV.out HNE.out;have hc2:w2.cell? ⟨w.heap.size,0,none⟩=some (.slice av d.length cv):=(by rw[cell_of_row _ _ _ _ _ _ hv2];rfl)
    have hf2:w2.frozen? ⟨w.heap.size,0,none⟩=false:=frozen_of_row _ _ _ _ _ hv2;have hlt2:w.heap.size<w2.heap.size:=(Array.getElem?_eq_some_iff.1 hv2).1;have HV2:=Lib.hid hv2
    clear hown2 hgr2 hat2 hv2 hc0 hf0))
  go_wp2;have hb2:Below w.heap.size w w2:=HB.out.grown HG2.out HB.out.size (fun k e=>(HO.out.1.lt k e).1);have hgne:g2≠w.heap.size:=by
   rcases HA2.out with h|h
   ·exact fun e=>HNE.out (by rw[←h,e])
   ·omega
  have hB2:=heap_setCell_same w2 w.heap.size 0 _ _ (.slice (some ⟨g2,0,none⟩) (d.length+1) cap) HV2.out;simp only[List.setIfInBounds_toArray,List.set_cons_zero] at hB2;refine⟨(Keep.grown HG2.out (own_nobook HO.out.1)).trans (Keep.setCell _ _ _),⟨⟨_,hB2,?_,by simpa[Value.ownBlock] using hgne,?_⟩,?_,?_⟩,?_⟩
  ·refine OwnI.kept (row:=some w.heap.size) (w:=w2) ⟨?_,?_,by simp[nxK];omega⟩ (grown_setCell w2 w.heap.size 0 _) (.inr (by simp[Value.ownBlock];omega))
   ·have:=HO2.out;simpa[nxK,intVals] using this
   ·intro z hz;rcases List.mem_append.1 hz with h|h
    ·exact HO.out.2.1 z h
    ·simp only[List.mem_singleton] at h;subst h;exact HLI.out z HOK.out.1
  ·exact⟨hb2.setCell (Nat.le_refl _) _,by simpa using hlt2⟩
  ·exact List.nodup_append.2 ⟨HND.out,by simp,fun c hc c' hc' e=>by
    simp only[List.mem_singleton] at hc';subst hc' e
    exact HOK.out.2 hc⟩
  ·intro y hy;rcases List.mem_append.1 hy with hy|hy
   ·exact HSUB.out y hy
   ·rw[List.mem_singleton] at hy;subst hy;exact HOK.out.1
  ·refine tch_var HV.out hB2 (by simpa using HG2.out.size) (fun k hk hkB hkv=>?_) (fun k hk=>?_)
   ·rw[Below.heap_setCell _ _ _ _ (fun e=>hkB e),HG2.out.block k hk (fun e=>hkv e.symm)]
   ·simp only[Value.ownBlock,Option.some.injEq] at hk;subst hk;rcases HA2.out with h|h
    ·exact .inl h.symm
    ·exact .inr (by omega)
 case done=>
  rintro D d W hD hfin hJ hK;obtain⟨⟨v,hv,ho,hne,hb,hlt0⟩,hnd,hsub⟩:=hJ.out;obtain⟨av,cv,rfl⟩:=ho.form;have hc0:W.cell? ⟨w.heap.size,0,none⟩=some (.slice av d.length cv):=by rw[cell_of_row _ _ _ _ _ _ hv];rfl
  have HO:=Lib.hid ho;have HB:=Lib.hid hb;have HJ:=hJ;have HFIN:=Lib.hid hfin;have HND:=Lib.hid hnd;have HSUB:=Lib.hid hsub;clear hv ho hb hJ hne hfin hnd hsub
  gi_wp2
  obtain⟨v2,hv2,ho2,_,hb2,_⟩:=(AJV.steady (w:=w) (B:=w.heap.size) (base:=w.heap.size) (xs:=d) (D:=w.heap.size) (Nat.le_refl _)).put (.deferred none) (l:=D) HJ.out.1 (by simp at hD;omega) hK rfl;refine⟨by simp,.inl ⟨_,_,rfl,run_takeDeferred hK,?_⟩⟩;have ho3:OwnI (W.putObj D (.deferred none)) w.heap.size (.slice av d.length cv) d:=(SteadyM.ownI w.heap.size w.heap.size (.slice av d.length cv) d).put (.deferred none) (l:=D) HO.out (by simp at hD;omega) hK rfl;exact⟨.slice av d.length cv,by simp[results,Tryz.results122,go_sem],_,d,rfl,ho3,HND.out,fun y=>⟨HSUB.out y,HFIN.out y⟩,hb2⟩
 case stop=>rintro D c W hD h;exact h.elim
theorem collectV_any(gf:Nat)(lb:Array Value)(L:List Int)(w:World)(eg:∀args w,(callFunc gf args).run Tryz.prog w=.ok (.enter gf args) w)(hit:IterK Tryz.prog gf lb L (fun W=>Below w.heap.size w W))(hl:L.length≤1000000000000)(hli:∀x∈L,I64 x):
  Calls Tryz.prog 82 #[.func (.func gf) #[] lb] w (SetPostV w L):=by
 have HIT:=Lib.hid hit
 have EG:=Lib.hid eg
 have HLI:=Lib.hid hli
 clear hit eg hli
 go_enter Tryz.func82,Tryz.ntmps82
 go_wp2_with (go_at_call 122;refine(appendSeqV_any gf lb L w EG.out HIT.out hl HLI.out).mono ?_;rintro e w' ⟨v,d,rfl,ho,hn,hm,hb⟩;have HO:=Lib.hid ho;have HB:=Lib.hid hb;have HN:=Lib.hid hn;have HM:=Lib.hid hm;clear ho hb hn hm)
 go_ret
 exact⟨_,d,rfl,HO.out,HN.out,HM.out,HB.out⟩
theorem strict_ext:∀{l m:List Int},l.Pairwise (· < ·)→m.Pairwise (· < ·)→(∀x,x∈l↔x∈m)→l=m
 | [],[],_,_,_=>rfl
 | [],b :: m,_,_,h=>by have:=(h b).2 (by simp);cases this
 |a :: l,[],_,_,h=>by have:=(h a).1 (by simp);cases this
 |a :: l,b :: m,hl,hm,h=>by
  obtain⟨h1,h2⟩:=List.pairwise_cons.1 hl;obtain⟨h3,h4⟩:=List.pairwise_cons.1 hm;have e:a=b:=by
   have ha:=(h a).1 (by simp);have hb:=(h b).2 (by simp);rcases List.mem_cons.1 ha with e|ha
   ·exact e
   ·rcases List.mem_cons.1 hb with e|hb
    ·exact e.symm
    ·have:=h1 b hb;have:=h3 a ha;omega
  subst e;refine congrArg _ (strict_ext h2 h4 fun x=>⟨fun hx=>?_,fun hx=>?_⟩)
  ·rcases List.mem_cons.1 ((h x).1 (List.mem_cons_of_mem _ hx)) with e|hy
   ·have:=h1 x hx;omega
   ·exact hy
  ·rcases List.mem_cons.1 ((h x).2 (List.mem_cons_of_mem _ hx)) with e|hy
   ·have:=h3 x hx;omega
   ·exact hy
theorem risL_mem{xs:List Int}{v:Int}:v∈risL xs↔1≤v∧v≤200∧v∈xs:=by
 unfold risL risK
 simp only[List.mem_map,List.mem_filter,List.mem_range'_1,decide_eq_true_eq]
 constructor
 ·rintro⟨a,⟨⟨h1,h2⟩,h3⟩,rfl⟩;exact⟨by omega,by omega,h3⟩
 ·rintro⟨h1,h2,h3⟩;refine⟨v.toNat,⟨⟨by omega,by omega⟩,?_⟩,by omega⟩;rw[show((v.toNat:Nat):Int)=v by omega];exact h3
theorem risL_lt(xs:List Int):(risL xs).Pairwise (· < ·):=by
 unfold risL risK
 rw[List.pairwise_map]
 refine List.Pairwise.imp (R:=fun a b:Nat=>a<b) (fun h=>by omega) ?_
 exact(List.pairwise_lt_range' 1).filter _
theorem sort_ris{d xs:List Int}(hn:d.Nodup)(hm:∀y,y∈d↔y∈xs)(hv:∀y∈xs,1≤y∧y≤200):d.mergeSort (fun x y=>decide (x≤y))=risL xs:=by
 have hp:=List.mergeSort_perm d fun x y=>decide (x≤y)
 have hso:=List.pairwise_mergeSort (le:=fun x y:Int=>decide (x≤y)) (fun a b c h1 h2=>by simp at *;omega) (fun a b=>by simp;omega) d
 have hnd:=hp.nodup_iff.2 hn
 refine strict_ext ?_ (risL_lt xs) fun x=>?_
 ·refine List.Pairwise.imp₂ (fun a b h1 h2=>?_) hso hnd;have h1:decide (a≤b)=true:=h1;have h2:a≠b:=h2;simp at h1;omega
 ·rw[hp.mem_iff,hm,risL_mem];exact⟨fun h=>⟨(hv x h).1,(hv x h).2,h⟩,fun h=>h.2.2⟩
theorem sorted_any(gf:Nat)(lb:Array Value)(L:List Int)(w:World)(eg:∀args w,(callFunc gf args).run Tryz.prog w=.ok (.enter gf args) w)(hit:IterK Tryz.prog gf lb L (fun W=>Below w.heap.size w W))(hl:L.length≤1000000000000)(hli:∀x∈L,1≤x∧x≤200):
  Calls Tryz.prog 50 #[.func (.func gf) #[] lb] w (IntsPost w (risL L)):=by
 have HIT:=Lib.hid hit
 have EG:=Lib.hid eg
 have HLI:=Lib.hid hli
 have HL6:Hid (∀x∈L,I64 x):=fun x hx=>by have:=hli x hx;unfold I64;omega
 clear hit eg hli
 go_enter Tryz.func50,Tryz.ntmps50
 go_wp2_with (first
  |(go_at_call 82;refine(collectV_any gf lb L w EG.out HIT.out hl HL6.out).mono ?_;rintro e w1 ⟨v,d,rfl,ho,hn,hm,hb⟩;have HO:=Lib.hid ho;have HB:=Lib.hid hb;have HN:=Lib.hid hn;have HM:=Lib.hid hm;clear ho hb hn hm)
  |(go_at_call 83;refine(sortI_any w.heap.size v d w1 HO.out).mono ?_;rw[sort_ris HN.out HM.out HLI.out];rintro e w2 ⟨rfl,ho,hg⟩;have HO2:=Lib.hid ho;have HG:=Lib.hid hg;clear ho hg))
 go_ret
 exact⟨_,rfl,HO2.out,HB.out.grown HG.out HB.out.size fun k e=>(HO.out.1.lt k e).1⟩
theorem sList_any(b:Nat)(p:Int→Prop)(xs:List Int)(w:World)(h:VHas w b p)(hp:∀y,p y↔y∈xs)(hv:∀y∈xs,1≤y∧y≤200):
  Calls Tryz.prog 38 #[.map (some b)] w (IntsPost w (risL xs)):=by
 obtain⟨L,hL,hm⟩:=h
 have hmx:∀y,y∈L↔y∈xs:=fun y=>(hm y).trans (hp y)
 have HR:Hid (risL L=risL xs):=strict_ext (risL_lt _) (risL_lt _) fun y=>by rw[risL_mem,risL_mem,hmx]
 have HLV:Hid (∀y∈L,1≤y∧y≤200):=fun y hy=>hv y ((hmx y).1 hy)
 obtain⟨o,ho,hs⟩:=hL.obj
 have HB:=Lib.hid ho
 have HS:=Lib.hid hs
 have hlen:L.length≤1000000000000:=by
  have h2:=nodup_length_le (l':=risL xs) hL.nodup fun x hx=>risL_mem.2 ⟨(HLV.out x hx).1,(HLV.out x hx).2,(hmx x).1 hx⟩;have h3:(risL xs).length≤201:=risK_len xs 201;omega
 clear hL hm hp hv hmx ho hs
 go_enter Tryz.func38,Tryz.ntmps38
 go_wp2_with (first
  |(go_at_call 51;refine(keysM_any b w).mono ?_;rintro e w1 ⟨rfl,hw1⟩;have HW1:=Lib.hid hw1;clear hw1)
  |(go_at_call 50
    (have HIK:IterK Tryz.prog 84 #[.pointer (some ⟨w.heap.size,0,none⟩)] L (fun W=>Below w1.heap.size w1 W):=(keys_iter b w.heap.size L o HS.out).mono fun W hW=>(by
      have hz:w1.heap.size=w.heap.size+1:=(by rw[HW1.out];simp)
      have hbl:=(Array.getElem?_eq_some_iff.1 HB.out).1;have h1:W.heap[w.heap.size]? =w1.heap[w.heap.size]?:=hW.block _ (by omega);have h2:W.heap[b]? =w1.heap[b]?:=hW.block _ (by omega);rw[h1,h2,HW1.out,Below.heap_alloc _ _ _ hbl]
      exact⟨heap_alloc_new _ _,HB.out⟩))
    refine(sorted_any _ _ L w1 enter_keys HIK hlen HLV.out).mono ?_;rw[HR.out];rintro e w2 ⟨v,rfl,ho,hb⟩;have HO2:=Lib.hid ho;have HB2:=Lib.hid hb
    clear ho hb HIK))
 go_ret
 have hb1:Below w.heap.size w w1:=by rw[HW1.out];exact ext_alloc _ _
 exact⟨_,rfl,HO2.out.mono hb1.size,ext_trans hb1 HB2.out⟩
end

section
open Go.RowKit
abbrev prV(p:Pr2):Value:=.agg #[.int .i64 p.1,.int .i64 p.2]
abbrev prO(a b:Int):Obj:=.cells #[.int .i64 a,.int .i64 b] 49 (0,0)
def decP(v:Value):Pr2:=match v with
 | .agg ⟨[.int _ a,.int _ b]⟩=>(a,b)
 |_=>(0,0)
def samePr(p q:Pr2):Bool:=p.1==q.1&&p.2==q.2
theorem samePr_iff(p q:Pr2):samePr p q=true↔p=q:=by
 obtain⟨a,b⟩:=p
 obtain⟨c,d⟩:=q
 simp[samePr]
theorem fields_pair : (Tryz.prog.fieldsOf 49).toList.map (fun f => (f.name, f.type, f.offset)) = [("A", 3, 0), ("B", 3, 1)] := by kernel_rfl
theorem under_pair:Tryz.prog.underlying 49=some (.struct (Tryz.prog.fieldsOf 49)):=by kernel_rfl
theorem stood_pair:Tryz.prog.stoodInHeld 49=false:=by kernel_rfl
theorem part_intP(cs:Array Value)(o:Nat)(v:Value)(w:World)(h:cs[o]? =some v):(part 3 cs o).run Tryz.prog w=.ok v w:=by
 have hu:(underlying 3).run Tryz.prog w=.ok (.int .i64) w:=run_underlying Tryz.underlying3 w
 simp[part,isAgg,hu,h]
theorem eqFields2P (w : World) (d : Nat) (xs ys : Array Value) (fs : List Field) (n0 n1 : String) (t0 t1 : TypeId) (o0 o1 : Nat) (hf : fs.map (fun f => (f.name, f.type, f.offset)) = [(n0, t0, o0), (n1, t1, o1)]) (h0 : n0 ≠ "_") (h1 : n1 ≠ "_")
  (x0 y0 x1 y1:Value) (b0 b1:Bool) (px0:(part t0 xs o0).run Tryz.prog w=.ok x0 w) (py0:(part t0 ys o0).run Tryz.prog w=.ok y0 w) (px1:(part t1 xs o1).run Tryz.prog w=.ok x1 w) (py1:(part t1 ys o1).run Tryz.prog w=.ok y1 w)
  (e0:(Op.equalIn d t0 x0 y0).run Tryz.prog w=.ok b0 w) (e1:(Op.equalIn d t1 x1 y1).run Tryz.prog w=.ok b1 w):(Op.eqFields d xs ys fs).run Tryz.prog w=.ok (b0&&b1) w:=by
 match fs,hf with
 | [f,g],hf=>
   simp only[List.map_cons,List.map_nil,List.cons.injEq,Prod.mk.injEq,and_true] at hf;obtain⟨⟨rfl,rfl,rfl⟩,⟨rfl,rfl,rfl⟩⟩:=hf;simp only[Op.eqFields,Sem.run_bind,Sem.run_ite,h0,h1,ne_eq,not_false_eq_true,if_true,px0,py0,e0,Result.andThen_ok];cases b0 with
   |false=>simp
   |true=>cases b1<;>simp[px1,py1,e1]
theorem equal_pair(w:World)(p q:Pr2):(Op.equalIn 10000 49 (prV p) (prV q)).run Tryz.prog w=.ok (samePr p q) w:=by
 rw[run_equalIn_struct w 9999 _ _ _ under_pair stood_pair]
 exact eqFields2P w 9999 _ _ _ _ _ _ _ _ _ fields_pair (by decide) (by decide) (.int .i64 p.1) (.int .i64 q.1) (.int .i64 p.2) (.int .i64 q.2) _ _ (part_intP _ _ _ w rfl) (part_intP _ _ _ w rfl) (part_intP _ _ _ w rfl) (part_intP _ _ _ w rfl) (run_equalIn_int w 9998 _ .i64 .i64 p.1 q.1 Tryz.underlying3) (run_equalIn_int w 9998 _ .i64 .i64 p.2 q.2 Tryz.underlying3)
theorem eql_pair(w:World)(p q:Pr2):(binOp .eql 49 (prV p) (prV q)).run Tryz.prog w=.ok (.bool (samePr p q)) w:=by
 rw[run_eql_struct,equal_pair w]
 rfl
theorem checkKey_twoP(em:Bool)(n:Nat)(t:TypeId)(cs:Array Value)(w:World)(hu:Tryz.prog.underlying t=some (.struct (Tryz.prog.fieldsOf t)))(n0 n1:String)(t0 t1:TypeId)(o0 o1:Nat)
  (hf : (Tryz.prog.fieldsOf t).toList.map (fun f => (f.name, f.type, f.offset)) = [(n0, t0, o0), (n1, t1, o1)]) (h0 : n0 ≠ "_") (h1 : n1 ≠ "_") (x0 x1 : Value)
  (p0:(part t0 cs o0).run Tryz.prog w=.ok x0 w) (p1:(part t1 cs o1).run Tryz.prog w=.ok x1 w) (k0:(Instr.checkKey em n t0 x0).run Tryz.prog w=.ok () w) (k1:(Instr.checkKey em n t1 x1).run Tryz.prog w=.ok () w):
  (Instr.checkKey em (n+1) t (.agg cs)).run Tryz.prog w=.ok () w:=by
 generalize hF:Tryz.prog.fieldsOf t=F at hf hu
 obtain⟨L⟩:=F
 simp only at hf
 match L,hf with
 | [f,g],hf=>
   simp only[List.map_cons,List.map_nil,List.cons.injEq,Prod.mk.injEq,and_true] at hf;obtain⟨⟨rfl,rfl,rfl⟩,⟨rfl,rfl,rfl⟩⟩:=hf;simp[Instr.checkKey,run_underlying hu,h0,h1,p0,p1,k0,k1,Result.andThen]
theorem checkKey_pair(em:Bool)(x:Pr2)(w:World):(Instr.checkKey em 10000 49 (prV x)).run Tryz.prog w=.ok () w:=
 checkKey_twoP em 9999 _ _ w under_pair _ _ _ _ _ _ fields_pair (by decide) (by decide) (.int .i64 x.1) (.int .i64 x.2) (part_intP _ _ _ w rfl) (part_intP _ _ _ w rfl) (checkKey_var em 9998 x.1 w) (checkKey_var em 9998 x.2 w)
theorem now_pair(x:Pr2)(e:MapEntry)(l:List MapEntry)(i:Nat):Instr.findNow (.struct (Tryz.prog.fieldsOf 49)) (prV x) (e :: l) i=none:=rfl
section
variable {α:Type} {P:Program} {kt:TypeId} {enc:α→Value} {dec:Value→α}
theorem find_asking(K:∀(x y:α) (w:World),∃b,(Op.equal kt (enc x) (enc y)).run P w=.ok b w∧(b=true↔x=y))(x:α)(w:World):∀(l:List MapEntry) (i:Nat),(∀e∈l,e.key=enc (dec e.key))→
  (x∉l.map (fun e=>dec e.key)∧(Instr.findAsking kt (enc x) l i).run P w=.ok none w)∨
  ∃j e,l[j]? =some e∧dec e.key=x∧(Instr.findAsking kt (enc x) l i).run P w=.ok (some (i+j,e.val)) w
 | [],i,_=>.inl ⟨by simp,by simp[Instr.findAsking]⟩
 |e :: l,i,h=>by
  have he:=h e (by simp);obtain⟨q,hq,hqe⟩:=K x (dec e.key) w;rw[←he] at hq;cases q with
  |true=>
   refine .inr ⟨0,e,rfl,(hqe.1 rfl).symm,?_⟩;simp[Instr.findAsking,hq,Result.andThen]
  |false=>
   have hne:x≠dec e.key:=fun c=>by have:=hqe.2 c;cases this
   rcases find_asking K x w l (i+1) (fun e' he'=>h e' (by simp[he'])) with ⟨h1,h2⟩|⟨j,e',h1,h2,h3⟩
   ·refine .inl ⟨by simp only[List.map_cons,List.mem_cons,not_or];exact⟨hne,h1⟩,?_⟩;simp[Instr.findAsking,hq,h2,Result.andThen]
   ·refine .inr ⟨j+1,e',by simpa using h1,h2,?_⟩;simp[Instr.findAsking,hq,h3,Result.andThen];omega
end
theorem keyP:KeyT Tryz.prog 49 prV decP where
 find x w l h:=by
  cases l with
  |nil=>exact .inl ⟨by simp,by simp[Instr.findKey,run_underlying under_pair,Instr.findNow]⟩
  |cons e l=>
   have hf:(Instr.findKey 49 (prV x) (e :: l)).run Tryz.prog w=(Instr.findAsking 49 (prV x) (e :: l) 0).run Tryz.prog w:=by
    simp[Instr.findKey,run_underlying under_pair,now_pair x e l 0]
   rw[hf];rcases find_asking (P:=Tryz.prog) (kt:=49) (enc:=prV) (dec:=decP) (fun x y w=>⟨samePr x y,equal_pair w x y,samePr_iff x y⟩) x w (e :: l) 0 h with h1|⟨j,e',h1,h2,h3⟩
   ·exact .inl h1
   ·exact .inr ⟨j,e',h1,h2,by simpa using h3⟩
 check em x w:=checkKey_pair em x w
 bits x:=by
  obtain⟨a,b⟩:=x;have h:∀n (a:Int),Instr.sameBits n (.int .i64 a) (.int .i64 a)=true:=fun n a=>by cases n<;>simp[Instr.sameBits]
  show((2==2)&&_)=true;simp only[List.zip_cons_cons,List.zip_nil_right,List.all_cons,List.all_nil];rw[h,h];rfl
 dec x:=rfl
theorem mapTP:Tryz.prog.underlying 94=some (.map 49 3):=Tryz.underlying94
abbrev PSet(w:World)(b:Nat)(L:List Pr2):Prop:=SetM prV decP oneV w b L
abbrev PIter(w:World)(b r:Nat)(L R:List Pr2):Prop:=SetI prV decP oneV w b r L R
def csP(x:Pr2):List Value:= [.int .i64 x.1,.int .i64 x.2]
theorem csP_len(x:Pr2):(csP x).length=2:=rfl
abbrev OwnP(w:World)(base:Nat)(v:Value)(l:List Pr2):Prop:=OwnR 49 2 csP w base v l
abbrev PrS(w:World)(a:Option Addr)(n:Nat)(l:List Pr2):Prop:=Recs 2 csP w a n l
theorem infoP:(Tryz.prog.info? 49).map (fun i=>(i.zero,i.size,i.bytes))=some (some (.agg #[.int .i64 0,.int .i64 0]),2,16):=by kernel_rfl
theorem csP_one(l:List Pr2):∀u∈l.flatMap csP,u.oneCell'=true:=by
 intro u hu
 simp only[List.mem_flatMap,csP] at hu
 obtain⟨x,_,hx⟩:=hu
 simp only[List.mem_cons,List.not_mem_nil,or_false] at hx
 rcases hx with rfl|rfl<;>rfl
end

section
open Go.RowKit
def setRange(listed:Array Bool)(i:Nat):Nat→Array Bool
 |0=>listed
 |n+1=>setRange (listed.setIfInBounds i true) (i+1) n
def okReadsB(l:List Oper):Nat→Nat→Array Bool→Bool
 |0,_,_=>true
 |n+1,i,listed=>(Region.ready .any l.toArray listed).contains i&&Region.free .any l.toArray listed i&&((l[i]?).map valOp).getD false&&okReadsB l n (i+1) (listed.setIfInBounds i true)
def closedB(l:List Oper)(listed:Array Bool):Bool:=
 (List.range l.length).all fun j=> !listed.getD j false||((l[j]?).map fun o=>o.after.all fun e=> !Region.binds .any e||listed.getD e.on false).getD true
section
variable {P:Program} {l:List Oper} {S:World→Prop} {Q:Exit→Act→World→Prop}
theorem closed_of{listed:Array Bool}(h:closedB l listed=true):Closed l listed:=by
 intro j o ho hl e he hb
 unfold closedB at h
 rw[List.all_eq_true] at h
 have hlt:j<l.length:=by
  have:=(Array.getElem?_eq_some_iff.1 ho).1;simpa using this
 have:=h j (List.mem_range.2 hlt)
 have ho':l[j]? =some o:=by simpa using ho
 simp only[hl,Bool.not_true,Bool.false_or,ho',Option.map_some,Option.getD_some] at this
 have:=(Array.all_eq_true'.1 this) e he
 simpa[hb] using this
theorem okReads_of:∀(n i:Nat) (listed:Array Bool),okReadsB l n i listed=true→okReads l n i listed=some (setRange listed i n):=by
 intro n
 induction n with
 |zero=>intro i listed _;rfl
 |succ n ih=>
  intro i listed h;simp only[okReadsB,Bool.and_eq_true] at h;obtain⟨⟨⟨h1,h2⟩,h3⟩,h4⟩:=h;simp only[okReads,setRange];rw[if_pos (by simp only[Bool.and_eq_true];exact⟨⟨h1,h2⟩,h3⟩)];exact ih _ _ h4
theorem z_start{id:Nat}{a:Act}{w:World}(S:World→Prop)(hm:P.follows .mixedOrders=true)
  (h:wpAnyZ P l (NoPanic Q) S l.length (Array.replicate l.length false) a w.drew):(Code.region id l.toArray true).wp P Q a w:=by
 refine wp_region_noPanic (wp_region_any hm ?_)
 have:=wpAny_of_Z _ _ _ _ h
 simpa using this
theorem z_reads{fuel:Nat}{listed:Array Bool}{a:Act}{w:World}(i n:Nat)(hok:(okReadsB l n i listed&&closedB l listed&&Region.noSelect l.toArray)=true)(hS:S w)
  (h:wpQuiet P l.toArray S (fun a'=>wpAnyZ P l (NoPanic Q) S fuel (setRange listed i n) a' w) ((l.drop i).take n) a):wpAnyZ P l (NoPanic Q) S (fuel+n) listed a w:=by
 simp only[Bool.and_eq_true] at hok
 exact reads_first hok.2 (fun _ _ _ hp=>hp) fuel w hS _ n i listed _ a (closed_of hok.1.2) (okReads_of n i listed hok.1.1) (fun _ a' ha'=>ha') h
theorem z_one{fuel:Nat}{listed:Array Bool}{a:Act}{w:World}(e:Nat)(hr:(Region.ready .any l.toArray listed== [e])=true)
  (h:wpOp P l.toArray (NoPanic Q) e (fun a' w'=>(aloneB l e=true∨S w')∧wpAnyZ P l (NoPanic Q) S fuel (listed.setIfInBounds e true) a' w') a w):wpAnyZ P l (NoPanic Q) S (fuel+1) listed a w:=by
 have hr:=eq_of_beq hr
 refine⟨fun h0=>?_,fun i hi=>?_⟩
 ·rw[hr] at h0;cases h0
 ·rw[hr,List.mem_singleton] at hi;subst hi;exact h
theorem z_two{fuel:Nat}{listed:Array Bool}{a:Act}{w:World}(e e':Nat)(hr:(Region.ready .any l.toArray listed== [e,e'])=true)
  (h:wpOp P l.toArray (NoPanic Q) e (fun a' w'=>(aloneB l e=true∨S w')∧wpAnyZ P l (NoPanic Q) S fuel (listed.setIfInBounds e true) a' w') a w)
  (h':wpOp P l.toArray (NoPanic Q) e' (fun a' w'=>(aloneB l e'=true∨S w')∧wpAnyZ P l (NoPanic Q) S fuel (listed.setIfInBounds e' true) a' w') a w):wpAnyZ P l (NoPanic Q) S (fuel+1) listed a w:=by
 have hr:=eq_of_beq hr
 refine⟨fun h0=>?_,fun i hi=>?_⟩
 ·rw[hr] at h0;cases h0
 ·rw[hr] at hi;rcases List.mem_cons.1 hi with rfl|hi
  ·exact h
  ·rw[List.mem_singleton] at hi;subst hi;exact h'
theorem z_done{listed:Array Bool}{a:Act}{w:World}(hr:(Region.ready .any l.toArray listed== [])=true)(h:Q .normal a w):wpAnyZ P l (NoPanic Q) S 0 listed a w:=⟨eq_of_beq hr,h⟩
end
end

section
section
variable {P:Program} {ops:Array Oper} {rest:List Oper} {o:Oper} {a:Act}
theorem wpList_load_rowW{w:World}{Q:Exit→Act→World→Prop}(hw:Region.wanted o (yielded ops a.tmps)=true)(ty:TypeId)(x:Operand)(ho:o.op=.load ty x)
  (g:Nat) (hx:a.eval x=.pointer (some ⟨g,0,none⟩)) (t:TypeId) (cs:Array Value) (fr:Nat×Nat) (d:TypeDesc) (hg:w.heap[g]? =some (.cells cs t fr))
  (hu:P.underlying ty=some d) (hd:(match d with| .struct _| .array _ _=>true|_=>false)=true) (hi:(P.info? ty).map (·.size)=some cs.size)
  (h:wpList P ops Q rest (a.put o.dst (.agg cs)) w):wpList P ops Q (o :: rest) a w:=
 BigFrame.wpList_want hw fun _ hK=>wp_load_row ty x ho g hx t cs fr d hg hu hd hi (hK _ _ h)
theorem wpQuiet_load_row{C:World→Prop}{Q:Act→Prop}(hw:Region.wanted o (yielded ops a.tmps)=true)(ty:TypeId)(x:Operand)(ho:o.op=.load ty x)
  (g:Nat) (hx:a.eval x=.pointer (some ⟨g,0,none⟩)) (t:TypeId) (cs:Array Value) (fr:Nat×Nat) (d:TypeDesc) (hg:∀w,C w→w.heap[g]? =some (.cells cs t fr))
  (hu:P.underlying ty=some d) (hd:(match d with| .struct _| .array _ _=>true|_=>false)=true) (hi:(P.info? ty).map (·.size)=some cs.size)
  (h:wpQuiet P ops C Q rest (a.put o.dst (.agg cs))):wpQuiet P ops C Q (o :: rest) a:=
 BigFrame.wpQuiet_want hw fun _ hK=>⟨.agg cs,fun w hC=>by
  unfold Oper.quietAt execOp;simp only[ho,hx,Instr.loadAt,Instr.sureAddr,Sem.run_bind,Sem.run_pure,Result.andThen_ok,run_loadVar_row w g t ty cs fr d (hg w hC) hu hd hi]
  exact⟨rfl,rfl⟩,hK _ h⟩
theorem wpOp_atW{l:List Oper}{Q:Exit→Act→World→Prop}{e:Nat}{K:Act→World→Prop}{w:World}(ho:l[e]? =some o)(hw:Region.wanted o (yielded l.toArray a.tmps)=true)(h:o.wp P a w K Q):wpOp P l.toArray Q e K a w:=by
 unfold wpOp
 simp only[List.getElem?_toArray,ho]
 rw[if_pos hw]
 exact .inl h
end
end

section
open Go.RowKit Go.Shelf
attribute [local go_sem] Oper.semAt_some wide_fn wide_depth wide_fnR wide_depthR
section
variable {P:Program} {o:Oper} {a:Act}
theorem wpOp_atU{l:List Oper}{Q:Exit→Act→World→Prop}{e:Nat}{K:Act→World→Prop}{w:World}(ho:l[e]? =some o)(hw:Region.wanted o (yielded l.toArray a.tmps)=true)(h:∀K':Act→World→Prop,Hid (∀a' w',K a' w'→K' a' w')→o.wp P a w K' Q):wpOp P l.toArray Q e K a w:=
 wpOp_atW ho hw (h K (fun _ _ x=>x))
end
theorem cmpV_i64'(x y:Int):I64 (cmpV x y):=by
 unfold cmpV I64
 split
 ·omega
 ·split<;>omega
theorem ints_two(w:World){a b:Int}(ha:I64 a)(hb:I64 b):Ints (w.alloc (.cells #[.int .i64 a,.int .i64 b] 3)) (some ⟨w.heap.size,0,none⟩) 2 [a,b]:=by
 have h:OwnI (w.alloc (.cells #[.int .i64 a,.int .i64 b] 3)) w.heap.size (.slice (some ⟨w.heap.size,0,none⟩) 2 2) [a,b]:=
  ⟨World.ownsRow_lit w _ 2 (Nat.le_refl _) (by decide) rfl,by simp[ha,hb],by simp⟩
 exact h.ints
theorem cOrder_any(p q:Pr2)(w:World):Calls Tryz.prog 17 #[prV p,prV q] w fun e w'=>e=.returned (.int .i64 (ordPr p q))∧Below w.heap.size w w':=by
 obtain⟨p1,p2⟩:=p
 obtain⟨q1,q2⟩:=q
 go_enter Tryz.func17,Tryz.ntmps17
 go_upto_region 1 with (fail)
 obtain⟨W,hW⟩:∃W,W=(w.alloc (prO p1 p2)).alloc (prO q1 q2):=⟨_,rfl⟩
 rw[←hW]
 have HB:Hid (Below w.heap.size w W):=by rw[hW];exact ext_trans (ext_alloc _ _) (ext_alloc _ _)
 have h2:W.heap[w.heap.size]? =some (prO p1 p2):=by rw[hW];exact block_ext (ext_alloc _ _) (heap_alloc_new _ _)
 have h3:W.heap[w.heap.size+1]? =some (prO q1 q2):=by rw[hW];exact heap_at _ _ _ (by simp)
 have g0:∀n:ExtW W,n.val.cell? ⟨w.heap.size,0,none⟩=some (.int .i64 p1):=ExtW.cell (by rw[cell_of_row _ _ _ _ _ _ h2];rfl)
 have g1:∀n:ExtW W,n.val.cell? ⟨w.heap.size,1,none⟩=some (.int .i64 p2):=ExtW.cell (by rw[cell_of_row _ _ _ _ _ _ h2];rfl)
 have g2:∀n:ExtW W,n.val.cell? ⟨w.heap.size+1,0,none⟩=some (.int .i64 q1):=ExtW.cell (by rw[cell_of_row _ _ _ _ _ _ h3];rfl)
 have g3:∀n:ExtW W,n.val.cell? ⟨w.heap.size+1,1,none⟩=some (.int .i64 q2):=ExtW.cell (by rw[cell_of_row _ _ _ _ _ _ h3];rfl)
 clear hW h2 h3
 refine z_start (fun w'=>∃n:ExtW W,w'=n.val) (by kernel_rfl) ?_
 obtain⟨v0,F0,hv0⟩:∃v0,Below W.heap.size W v0∧W.drew=v0:=⟨_,ext_drewN (Below.refl _ _) 1,rfl⟩
 rw[hv0]
 clear hv0
 refine z_reads 0 4 (by kernel_rfl) ⟨⟨_,F0⟩,rfl⟩ ?_
 simp only[List.take_succ_cons,List.take_zero,List.drop_succ_cons,List.drop_zero]
 repeat (go_big_quiet_step (fail))
 refine wpQuiet_nil ?_
 refine z_reads 5 4 (by kernel_rfl) ⟨⟨_,F0⟩,rfl⟩ ?_
 simp only[List.take_succ_cons,List.take_zero,List.drop_succ_cons,List.drop_zero]
 repeat (go_big_quiet_step (fail))
 refine wpQuiet_nil ?_
 clear g0 g1 g2 g3
 refine z_one 4 (by kernel_rfl) ?_
 refine wpOp_atU rfl (by rfl) ?_
 intro K' HK
 go_simp
 refine(compare_any p1 q1 v0).mono ?_
 rintro e w' ⟨rfl,rfl⟩
 refine HK.out _ _ ⟨.inr ⟨⟨_,F0⟩,rfl⟩,?_⟩
 clear HK K'
 refine z_one 9 (by kernel_rfl) ?_
 refine wpOp_atU rfl (by rfl) ?_
 intro K' HK
 go_simp
 refine(compare_any p2 q2 v0).mono ?_
 rintro e w' ⟨rfl,rfl⟩
 refine HK.out _ _ ⟨.inr ⟨⟨_,F0⟩,rfl⟩,?_⟩
 clear HK K'
 refine z_one 10 (by kernel_rfl) ?_
 refine wpOp_atU rfl (by rfl) ?_
 intro K' HK
 go_simp
 have F1:Below W.heap.size W (v0.alloc (.cells #[.int .i64 (cmpV p1 q1),.int .i64 (cmpV p2 q2)] 3)):=ext_trans F0 (ext_alloc _ _)
 refine HK.out _ _ ⟨.inr ⟨⟨_,F1⟩,rfl⟩,?_⟩
 clear HK K'
 refine z_one 11 (by kernel_rfl) ?_
 refine wpOp_atU rfl (by rfl) ?_
 intro K' HK
 go_simp
 refine(cmpOr_any _ 2 2 _ _ (ints_two v0 (cmpV_i64' _ _) (cmpV_i64' _ _))).mono ?_
 rintro e w' ⟨rfl,rfl⟩
 refine HK.out _ _ ⟨.inr ⟨⟨_,F1⟩,rfl⟩,?_⟩
 clear HK K'
 refine z_reads 12 1 (by kernel_rfl) ⟨⟨_,F1⟩,rfl⟩ ?_
 simp only[List.take_succ_cons,List.take_zero,List.drop_succ_cons,List.drop_zero]
 repeat (go_big_quiet_step (fail))
 refine wpQuiet_nil ?_
 refine z_done (by kernel_rfl) ?_
 have HF:=Lib.hid F1
 clear F0 F1
 go_wp2
 go_ret
 exact⟨rfl,ext_trans HB.out HF.out⟩
theorem cOf_any(a b:Int)(w:World):Calls Tryz.prog 49 #[.int .i64 a,.int .i64 b] w fun e w'=>e=.returned (prV (ofP a b))∧Below w.heap.size w w':=by
 go_enter Tryz.func49,Tryz.ntmps49
 go_wp2
 have hr:=heap_alloc_new w (prO (min a b) (max a b))
 have k0:(w.alloc (prO (min a b) (max a b))).cell? ⟨w.heap.size,0,none⟩=some (.int .i64 (min a b)):=by rw[cell_of_row _ _ _ _ _ _ hr];rfl
 have k1:(w.alloc (prO (min a b) (max a b))).cell? ⟨w.heap.size,1,none⟩=some (.int .i64 (max a b)):=by rw[cell_of_row _ _ _ _ _ _ hr];rfl
 refine bodyPost_ret (v:=prV (ofP a b)) (by simp[results,Tryz.results49,asAddr,k0,k1,go_sem,ofP]) rfl ⟨rfl,ext_alloc _ _⟩
theorem cRising_any(a:Option Addr)(n c:Nat)(l:List Int)(w:World)(h:Ints w a n l):
  Calls Tryz.prog 19 #[.slice a n c] w fun e w'=>e=.returned (.bool (risG l))∧Below w.heap.size w w':=by
 have H:=Lib.hid h
 have hn:=h.2.1
 have HL:=Lib.hid h.1
 clear h
 go_enter Tryz.func19,Tryz.ntmps19
 go_wp2
 go_loopw [3,8] (fun v3 v8 wr=>∃k:Nat,v8=.int .i64 (k:Int)∧k≤n∧v3=.int .i64 (prevI l k)∧Hid (∀j,j<k→risK1 l j=true)∧Hid (Below w.heap.size w wr)) (fun _ v8 _=>n-(intOf v8).toNat)
 case atStart=>exact⟨0,rfl,by omega,rfl,fun j hj=>absurd hj (by omega),Below.refl _ _⟩
 case round=>
  obtain⟨k,rfl,hk,rfl,HR,HB⟩:=hrel;by_cases hlt:k<n
  ·have hlt':(k:Int)<(n:Int):=by omega
   obtain⟨b,o,rfl,hc,hw1,hw2⟩:=(H.out.ext HB.out).2.2 k hlt;obtain⟨x,hx⟩:∃x,x=l.getD k 0:=⟨_,rfl⟩
   obtain⟨y,hy⟩:∃y,y=prevI l k:=⟨_,rfl⟩
   rw[←hx] at hc hw1 hw2;rw[←hy];have HX:=Lib.hid hx;have HY:=Lib.hid hy;clear hx hy;by_cases hgd:y<x∧x≤200
   ·have HK1:Hid (risK1 l k=true):=by rw[Hid,risK1_iff,←HX.out,←HY.out];exact hgd
    obtain⟨h1,h2⟩:=hgd;have e1:decide (x≤y)=false:=decide_eq_false (by omega);have e2:decide (200<x)=false:=decide_eq_false (by omega);have h3:¬x≤y:=by omega
    have h4:¬200<x:=by omega
    go_wp2
    go_roundw
    case rel=>exact⟨k+1,by go_num,by omega,by rw[prevI_pos (by omega),Nat.add_sub_cancel,←HX.out],fun j hj=>by
     by_cases e:j=k
     ·subst e;exact HK1.out
     ·exact HR.out j (by omega),HB⟩
    case measure=>simp[intOf];omega
   ·have HF:Hid (risG l=false):=by
     rw[Hid,risG,List.all_eq_false];refine⟨k,List.mem_range.2 (by rw[HL.out];exact hlt),?_⟩;rw[risK1_iff,←HX.out,←HY.out];exact hgd
    have hor:x≤y∨200<x:=by omega
    by_cases h1:x≤y
    ·have e1:decide (x≤y)=true:=decide_eq_true h1;go_wp2
     go_ret
     exact⟨by rw[HF.out];rfl,HB.out⟩
    ·have e1:decide (x≤y)=false:=decide_eq_false h1;have h2:200<x:=by omega
     have e2:decide (200<x)=true:=decide_eq_true h2;go_wp2
     go_ret
     exact⟨by rw[HF.out];rfl,HB.out⟩
  ·obtain rfl:k=n:=by omega
   have hlt':¬(k:Int)<(k:Int):=by omega
   have HF:Hid (risG l=true):=by
    rw[Hid,risG,List.all_eq_true];intro j hj;exact HR.out j (by have:=List.mem_range.1 hj;rwa [HL.out] at this)
   go_wp2
   go_ret
   exact⟨by rw[HF.out];rfl,HB.out⟩
end

section
open Go.RowKit
structure InsD where
 op:Int
 dst:Int
 a:Int
 b:Int
 imm:Int
 callee:Int
 args:List Int
 many:Int
abbrev insV(i:InsD)(aa:Option Addr)(na ca:Nat):Value:=.agg #[.int .i64 i.op,.int .i64 i.dst,.int .i64 i.a,.int .i64 i.b,.int .i64 i.imm,.int .i64 i.callee,.slice aa na ca,.int .i64 i.many]
structure InsR where
 d:InsD
 aa:Option Addr
 na:Nat
 ca:Nat
def insC(r:InsR):List Value:= [.int .i64 r.d.op,.int .i64 r.d.dst,.int .i64 r.d.a,.int .i64 r.d.b,.int .i64 r.d.imm,.int .i64 r.d.callee,.slice r.aa r.na r.ca,.int .i64 r.d.many]
theorem insC_len(r:InsR):(insC r).length=8:=rfl
def InsOK(w:World)(r:InsR):Prop:=Ints w r.aa r.na r.d.args∧r.na≤r.ca∧I64 r.d.op∧I64 r.d.dst∧I64 r.d.a∧I64 r.d.b∧I64 r.d.imm∧I64 r.d.callee∧I64 r.d.many
theorem InsOK.ext{w w':World}{r:InsR}(h:InsOK w r)(hb:Below w.heap.size w w'):InsOK w' r:=⟨h.1.ext hb,h.2⟩
def InsS(w:World)(a:Option Addr)(n:Nat)(rs:List InsR):Prop:=Recs 8 insC w a n rs∧∀r∈rs,InsOK w r
theorem InsS.ext{w w':World}{a:Option Addr}{n:Nat}{rs:List InsR}(h:InsS w a n rs)(hb:Below w.heap.size w w'):InsS w' a n rs:=
 ⟨h.1.ext insC_len hb,fun r hr=>(h.2 r hr).ext hb⟩
theorem InsS.cells{w:World}{a:Option Addr}{n:Nat}{rs:List InsR}(h:InsS w a n rs){k:Nat}(hk:k<n):∃r b o,rs[k]? =some r∧InsOK w r∧a=some ⟨b,o,none⟩∧
  w.cell? ⟨b,o+k*8,none⟩=some (.int .i64 r.d.op)∧w.cell? ⟨b,o+k*8+1,none⟩=some (.int .i64 r.d.dst)∧w.cell? ⟨b,o+k*8+2,none⟩=some (.int .i64 r.d.a)∧w.cell? ⟨b,o+k*8+3,none⟩=some (.int .i64 r.d.b)∧
  w.cell? ⟨b,o+k*8+4,none⟩=some (.int .i64 r.d.imm)∧w.cell? ⟨b,o+k*8+5,none⟩=some (.int .i64 r.d.callee)∧w.cell? ⟨b,o+k*8+6,none⟩=some (.slice r.aa r.na r.ca)∧w.cell? ⟨b,o+k*8+7,none⟩=some (.int .i64 r.d.many):=by
 have hk':k<rs.length:=by rw[h.1.1];exact hk
 obtain⟨r,hr⟩:∃r,rs[k]? =some r:=⟨rs[k],List.getElem?_eq_getElem hk'⟩
 obtain⟨b,o,e,hc⟩:=h.1.2.2 k r hr
 exact⟨r,b,o,hr,h.2 r (List.mem_of_getElem? hr),e,hc 0 (by omega),hc 1 (by omega),hc 2 (by omega),hc 3 (by omega),hc 4 (by omega),hc 5 (by omega),hc 6 (by omega),hc 7 (by omega)⟩
abbrev insVR(r:InsR):Value:=insV r.d r.aa r.na r.ca
end
end Go.Proofs.YtnmkjliioogbgaaGreatDoor
