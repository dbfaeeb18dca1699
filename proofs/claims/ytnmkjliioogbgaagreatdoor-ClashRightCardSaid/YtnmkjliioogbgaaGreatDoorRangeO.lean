/-
 A mesh's slices of one block,as an iterator.
-/
import Derived.Test.YtnmkjliioogbgaaGreatDoorED
import Derived.Test.YtnmkjliioogbgaaGreatDoorPE
import Derived.BigRegionIn
import Derived.Test.YtnmkjliioogbgaaGreatDoorRangeT
import Derived.RangeFuncNested
import Derived.Test.YtnmkjliioogbgaaGreatDoorTA
namespace Go.Proofs.YtnmkjliioogbgaaGreatDoor
set_option linter.unusedSimpArgs false
set_option linter.unusedVariables false
set_option linter.unusedSectionVars false
set_option maxRecDepth 100000
set_option maxHeartbeats 40000000
section
open Go.RowKit Go.Shelf
attribute [local go_sem] Oper.semAt_some wide_fn wide_depth wide_fnR wide_depthR
abbrev Hd:=Option Addr×Nat×Nat
abbrev hdV(x:Hd):Value:=.slice x.1 x.2.1 x.2.2
def encHd(x:Hd):Array Value:=#[hdV x]
theorem enter_mesh(args:Array Value)(w:World):(callFunc 48 args).run Tryz.prog w=.ok (.enter 48 args) w:=enters_of Tryz.func48 (by kernel_rfl) rfl args w
theorem meshEach_any(M:Nat)(b:Nat)(w:World):Calls Tryz.prog 35 #[.pointer (some ⟨M,0,none⟩),.int .i64 b] w fun e w'=>e=.returned (.func (.func 48) #[] #[.pointer (some ⟨w.heap.size,0,none⟩),.pointer (some ⟨w.heap.size+1,0,none⟩)])∧w'=(w.alloc (.cells #[.pointer (some ⟨M,0,none⟩)] 75)).alloc (.cells #[.int .i64 b] 3):=by
 go_enter Tryz.func35,Tryz.ntmps35
 go_wp2
 go_ret
 exact⟨rfl,rfl⟩
structure EachI(hi:Value)(oa:Addr)(n oc:Nat)(ta:Addr)(tc B M G b:Nat)(ra:Addr)(rc:Nat)(us:List Hd)(u:Hd)(W:World):Prop where
 g0:W.heap[G]? =some (.cells #[.pointer (some ⟨M,0,none⟩)] 75 (0,0))
 g1:W.heap[G+1]? =some (.cells #[.int .i64 (b:Int)] 3 (0,0))
 me:W.heap[M]? =some (meshO hi (.slice (some ⟨oa.block,oa.off,none⟩) n oc) (.slice (some ⟨ta.block,ta.off,none⟩) n tc) B)
 tb:W.cell? ⟨ta.block,ta.off+b,none⟩=some (.slice (some ⟨ra.block,ra.off,none⟩) us.length rc)
 rw:∀k x,us[k]? =some x→W.cell? ⟨ra.block,ra.off+k,none⟩=some (hdV x)
 ou:W.cell? ⟨oa.block,oa.off+b,none⟩=some (hdV u)
 lt:b<n
 ln:us.length≤17592186044416
theorem mesh_iterI(hi:Value)(oa:Addr)(n oc:Nat)(ta:Addr)(tc B M G b:Nat)(ra:Addr)(rc:Nat)(us:List Hd)(u:Hd):IterI Tryz.prog 48 #[.pointer (some ⟨G,0,none⟩),.pointer (some ⟨G+1,0,none⟩)] encHd (us++ [u]) (EachI hi oa n oc ta tc B M G b ra rc us u):=by
 intro lp K Kx W hK hKx hInv hY h0
 refine callsIn_of_wp Tryz.func48 rfl trivial ?_ rfl
 simp only[Tryz.ntmps48,List.size_toArray,List.length_cons,List.length_nil,Nat.reduceAdd,Nat.reduceSub,Array.replicate_succ,Array.replicate_zero,List.push_toArray,List.append_toArray,List.nil_append,List.cons_append]
 have HKE:=Lib.hid hK
 have HY:=Lib.hid hY
 have HI:=Lib.hid hInv
 have H0:=Lib.hid h0
 obtain⟨i1,i2,i3,i4,i5,i6,i7,i8⟩:=hInv _ _ h0
 have hn1:Nonempty (ExtW W):=⟨⟨W,Below.refl _ _⟩⟩
 have j3:W.cell? ⟨M,2,none⟩=some (.slice (some ⟨ta.block,ta.off,none⟩) n tc):=by rw[cell_of_row _ _ _ _ _ _ i3];rfl
 have g1:∀n:ExtW W,n.val.cell? ⟨G,0,none⟩=some (.pointer (some ⟨M,0,none⟩)):=fun n=>ExtW.cell (by rw[cell_of_row _ _ _ _ _ _ i1];rfl) n
 have g2:∀n:ExtW W,n.val.cell? ⟨G+1,0,none⟩=some (.int .i64 (b:Int)):=fun n=>ExtW.cell (by rw[cell_of_row _ _ _ _ _ _ i2];rfl) n
 have g3:∀m:ExtW W,m.val.cell? ⟨M,2,none⟩=some (.slice (some ⟨ta.block,ta.off,none⟩) n tc):=fun m=>ExtW.cell j3 m
 have g4:∀n:ExtW W,M<n.val.heap.size:=fun n=>Nat.lt_of_lt_of_le (lt_of_heap i3) n.ext.size
 have g5:∀n:ExtW W,n.val.cell? ⟨ta.block,ta.off+b,none⟩=some (.slice (some ⟨ra.block,ra.off,none⟩) us.length rc):=fun n=>ExtW.cell i4 n
 have g6:∀n:ExtW W,ta.block<n.val.heap.size:=fun n=>Nat.lt_of_lt_of_le (World.block_lt_of_cell? W (⟨ta.block,ta.off+b,none⟩:Addr) i4) n.ext.size
 clear hY hInv hK hKx h0 i1 i2 i3 i4 i5 i6 j3
 generalize hL:us.length=L at*
 have HL:=Lib.hid hL
 clear hL
 gi_upto_region 0 with (fail)
 refine wpIn_wide.2 ?_
 refine region_ext (by kernel_rfl) (by kernel_rfl) ?_
 repeat (go_big_quiet_step (fail))
 refine wpQuiet_nil ?_
 rintro _ ⟨n0,rfl⟩
 have HK0:=Lib.hid (HKE.out _ _ _ H0.out n0.ext)
 clear g1 g2 g3 g4 g5 g6 hn1 H0
 generalize n0.val=w0 at*
 gi_wp2
 gi_loopw [5,15] (fun _ q wr=>∃k:Nat,q=.int .i64 k∧k≤L∧Hid (K (us.drop k++ [u]) wr)) (fun _ q _=>L-(intOf q).toNat)
 case atStart=>exact⟨0,rfl,by omega,HK0⟩
 case round=>
  obtain⟨k,rfl,hk,HK⟩:=hrel;clear HK0;by_cases hlt:k<L
  ·obtain⟨⟨xa,xn,xc⟩,hx⟩:∃x,us[k]? =some x:=⟨_,List.getElem?_eq_getElem (by rw[HL.out];exact hlt)⟩
   have hd:us.drop k=(xa,xn,xc) :: us.drop (k+1):=by
    obtain⟨hl,he⟩:=List.getElem?_eq_some_iff.1 hx;rw[List.drop_eq_getElem_cons hl,he]
   have c0:wr.cell? ⟨ra.block,ra.off+k,none⟩=some (.slice xa xn xc):=(HI.out _ _ HK.out).rw k _ hx;rw[hd] at HK;obtain⟨fn,tmps,assign,body,hy,hR⟩:=HY.out ((xa,xn,xc) :: us.drop (k+1)++ [u]) (xa,xn,xc) _ rfl HK.out;unfold encHd at hy;have hT:nxL ((xa,xn,xc) :: us.drop (k+1)++ [u]) (xa,xn,xc)=us.drop (k+1)++ [u]:=rfl;rw[hT] at hR;have HR2:=Lib.hid hR;clear hR hT hd hx
   gi_wp2
   refine HR2.out.mono ?_;rintro e W' (⟨rfl,hJ'⟩|⟨rfl,hX'⟩)
   ·have HK1:=Lib.hid hJ';clear hJ' hy HR2
    gi_wp2
    go_roundw
    case rel=>exact⟨k+1,by go_num,by omega,HK1⟩
    case measure=>simp[intOf];omega
   ·have HX2:=Lib.hid hX';clear hX' hy HR2
    gi_wp2
    exact bodyPost_ret (v:=.tuple #[]) (by simp[results,Tryz.results48,go_sem]) rfl ⟨⟨_,rfl⟩,Or.inr HX2.out⟩
  ·obtain rfl:k=L:=by omega
   have hd:us.drop k= []:=List.drop_of_length_le (by rw[HL.out];exact Nat.le_refl _);rw[hd] at HK;have HK:Hid (K [u] wr):=HK;clear hd
   gi_upto_region 5 with (fail)
   refine wpIn_region_any (by kernel_rfl) ?_;change wpAnyIn _ _ _ _ _ _ _ _ _ (World.drew _);obtain⟨v0,F0,hv0⟩:∃v0,Below wr.heap.size wr v0∧wr.drew=v0:=⟨_,ext_drewN (Below.refl _ _) 1,rfl⟩
   rw[hv0];have HKv:=Lib.hid (HKE.out _ _ _ HK.out F0);clear hv0 F0 HK;obtain⟨i1,i2,i3,_,_,i6,_,_⟩:=HI.out _ _ HKv.out;have m1:v0.cell? ⟨G,0,none⟩=some (.pointer (some ⟨M,0,none⟩)):=by rw[cell_of_row _ _ _ _ _ _ i1];rfl
   have m2:v0.cell? ⟨G+1,0,none⟩=some (.int .i64 (b:Int)):=by rw[cell_of_row _ _ _ _ _ _ i2];rfl
   have m3:v0.cell? ⟨M,1,none⟩=some (.slice (some ⟨oa.block,oa.off,none⟩) n oc):=by rw[cell_of_row _ _ _ _ _ _ i3];rfl
   have m4:v0.cell? ⟨oa.block,oa.off+b,none⟩=some (.slice u.1 u.2.1 u.2.2):=i6;clear i1 i2 i3 i6;obtain⟨fn,tmps,assign,body,hy,hR⟩:=HY.out [u] u _ rfl HKv.out;unfold encHd hdV at hy;have hT:nxL [u] u= []:=rfl;rw[hT] at hR;have HR2:=Lib.hid hR;clear hR hT;refine wpAnyIn_take (i:=0) (v:=.func (.yield lp) #[] #[]) rfl rfl (by kernel_rfl) (by kernel_rfl) (by kernel_rfl) (fun _ _ _ h=>h) ⟨Or.inl ⟨by rfl,?_⟩,fun _=>rfl⟩ ?_
   ·intro w;go_simp
   refine wpAnyIn_ready (rs:= [1,6]) (by kernel_rfl) (by simp) ?_;refine AllReadyIn.cons rfl (fun K9 hK9=>?_) ?_
   ·
    go_simp;refine hK9 _ _ ?_;clear hK9 K9;refine wpAnyIn_take (i:=2) (v:=.pointer (some ⟨M,0,none⟩)) rfl rfl (by kernel_rfl) (by kernel_rfl) (by kernel_rfl) (fun _ _ _ h=>h) ⟨Or.inl ⟨by rfl,?_⟩,fun _=>rfl⟩ ?_
    ·intro w;go_simp
    refine wpAnyIn_take (i:=3) (v:=.pointer (some ⟨M,0,none⟩)) rfl rfl (by kernel_rfl) (by kernel_rfl) (by kernel_rfl) (fun _ _ _ h=>h) ⟨Or.inl ⟨by rfl,?_⟩,fun _=>rfl⟩ ?_
    ·intro w;go_simp
    refine wpAnyIn_take (i:=4) (v:=.pointer (some ⟨M,1,none⟩)) rfl rfl (by kernel_rfl) (by kernel_rfl) (by kernel_rfl) (fun _ _ _ h=>h) ⟨Or.inl ⟨by rfl,?_⟩,fun _=>rfl⟩ ?_
    ·intro w;go_simp
    refine wpAnyIn_ready (rs:= [5,6]) (by kernel_rfl) (by simp) ?_;refine AllReadyIn.cons rfl (fun K9 hK9=>?_) ?_
    ·
     go_simp;refine hK9 _ _ ?_;clear hK9 K9;refine wpAnyIn_ready (rs:= [6]) (by kernel_rfl) (by simp) ?_;refine AllReadyIn.cons rfl (fun K9 hK9=>?_) AllReadyIn.nil;go_simp;refine hK9 _ _ ?_;clear hK9 K9;refine wpAnyIn_take (i:=7) (v:=.pointer (some ⟨oa.block,oa.off+b,none⟩)) rfl rfl (by kernel_rfl) (by kernel_rfl) (by kernel_rfl) (fun _ _ _ h=>h) ⟨Or.inl ⟨by rfl,?_⟩,fun _=>rfl⟩ ?_
     ·intro w;go_simp
     refine wpAnyIn_ready (rs:= [8]) (by kernel_rfl) (by simp) ?_;refine AllReadyIn.cons rfl (fun K9 hK9=>?_) AllReadyIn.nil;go_simp;refine hK9 _ _ ?_;clear hK9 K9;refine wpAnyIn_ready (rs:= [9]) (by kernel_rfl) (by simp) ?_;refine AllReadyIn.cons rfl (fun K9 hK9=>?_) AllReadyIn.nil;go_simp;refine HR2.out.mono ?_;rintro e W' he;have hq:Hid (∃bv,e=.returned bv∧((∃s,finL s∧K s W')∨Kx W')):=by
      rcases he with ⟨e1,hk⟩|⟨e1,hx⟩
      ·exact⟨_,e1,Or.inl ⟨[],rfl,hk⟩⟩
      ·exact⟨_,e1,Or.inr hx⟩
     clear he;obtain⟨bv,rfl,hq⟩:=hq;refine hK9 _ _ (wpAnyIn_done (by kernel_rfl) ?_ _);clear hK9 K9;have HQ:=Lib.hid hq;clear hq
     go_end0
     exact⟨⟨_,rfl⟩,HQ.out⟩
    ·
     refine AllReadyIn.cons rfl (fun K9 hK9=>?_) AllReadyIn.nil;go_simp;refine hK9 _ _ ?_;clear hK9 K9;refine wpAnyIn_ready (rs:= [5]) (by kernel_rfl) (by simp) ?_;refine AllReadyIn.cons rfl (fun K9 hK9=>?_) AllReadyIn.nil;go_simp;refine hK9 _ _ ?_;clear hK9 K9;refine wpAnyIn_take (i:=7) (v:=.pointer (some ⟨oa.block,oa.off+b,none⟩)) rfl rfl (by kernel_rfl) (by kernel_rfl) (by kernel_rfl) (fun _ _ _ h=>h) ⟨Or.inl ⟨by rfl,?_⟩,fun _=>rfl⟩ ?_
     ·intro w;go_simp
     refine wpAnyIn_ready (rs:= [8]) (by kernel_rfl) (by simp) ?_;refine AllReadyIn.cons rfl (fun K9 hK9=>?_) AllReadyIn.nil;go_simp;refine hK9 _ _ ?_;clear hK9 K9;refine wpAnyIn_ready (rs:= [9]) (by kernel_rfl) (by simp) ?_;refine AllReadyIn.cons rfl (fun K9 hK9=>?_) AllReadyIn.nil;go_simp;refine HR2.out.mono ?_;rintro e W' he;have hq:Hid (∃bv,e=.returned bv∧((∃s,finL s∧K s W')∨Kx W')):=by
      rcases he with ⟨e1,hk⟩|⟨e1,hx⟩
      ·exact⟨_,e1,Or.inl ⟨[],rfl,hk⟩⟩
      ·exact⟨_,e1,Or.inr hx⟩
     clear he;obtain⟨bv,rfl,hq⟩:=hq;refine hK9 _ _ (wpAnyIn_done (by kernel_rfl) ?_ _);clear hK9 K9;have HQ:=Lib.hid hq;clear hq
     go_end0
     exact⟨⟨_,rfl⟩,HQ.out⟩
   ·
    refine AllReadyIn.cons rfl (fun K9 hK9=>?_) AllReadyIn.nil;go_simp;refine hK9 _ _ ?_;clear hK9 K9;refine wpAnyIn_ready (rs:= [1]) (by kernel_rfl) (by simp) ?_;refine AllReadyIn.cons rfl (fun K9 hK9=>?_) AllReadyIn.nil;go_simp;refine hK9 _ _ ?_;clear hK9 K9;refine wpAnyIn_take (i:=2) (v:=.pointer (some ⟨M,0,none⟩)) rfl rfl (by kernel_rfl) (by kernel_rfl) (by kernel_rfl) (fun _ _ _ h=>h) ⟨Or.inl ⟨by rfl,?_⟩,fun _=>rfl⟩ ?_
    ·intro w;go_simp
    refine wpAnyIn_take (i:=3) (v:=.pointer (some ⟨M,0,none⟩)) rfl rfl (by kernel_rfl) (by kernel_rfl) (by kernel_rfl) (fun _ _ _ h=>h) ⟨Or.inl ⟨by rfl,?_⟩,fun _=>rfl⟩ ?_
    ·intro w;go_simp
    refine wpAnyIn_take (i:=4) (v:=.pointer (some ⟨M,1,none⟩)) rfl rfl (by kernel_rfl) (by kernel_rfl) (by kernel_rfl) (fun _ _ _ h=>h) ⟨Or.inl ⟨by rfl,?_⟩,fun _=>rfl⟩ ?_
    ·intro w;go_simp
    refine wpAnyIn_ready (rs:= [5]) (by kernel_rfl) (by simp) ?_;refine AllReadyIn.cons rfl (fun K9 hK9=>?_) AllReadyIn.nil;go_simp;refine hK9 _ _ ?_;clear hK9 K9;refine wpAnyIn_take (i:=7) (v:=.pointer (some ⟨oa.block,oa.off+b,none⟩)) rfl rfl (by kernel_rfl) (by kernel_rfl) (by kernel_rfl) (fun _ _ _ h=>h) ⟨Or.inl ⟨by rfl,?_⟩,fun _=>rfl⟩ ?_
    ·intro w;go_simp
    refine wpAnyIn_ready (rs:= [8]) (by kernel_rfl) (by simp) ?_;refine AllReadyIn.cons rfl (fun K9 hK9=>?_) AllReadyIn.nil;go_simp;refine hK9 _ _ ?_;clear hK9 K9;refine wpAnyIn_ready (rs:= [9]) (by kernel_rfl) (by simp) ?_;refine AllReadyIn.cons rfl (fun K9 hK9=>?_) AllReadyIn.nil;go_simp;refine HR2.out.mono ?_;rintro e W' he;have hq:Hid (∃bv,e=.returned bv∧((∃s,finL s∧K s W')∨Kx W')):=by
     rcases he with ⟨e1,hk⟩|⟨e1,hx⟩
     ·exact⟨_,e1,Or.inl ⟨[],rfl,hk⟩⟩
     ·exact⟨_,e1,Or.inr hx⟩
    clear he;obtain⟨bv,rfl,hq⟩:=hq;refine hK9 _ _ (wpAnyIn_done (by kernel_rfl) ?_ _);clear hK9 K9;have HQ:=Lib.hid hq;clear hq
    go_end0
    exact⟨⟨_,rfl⟩,HQ.out⟩
end

section
open Go.RowKit
theorem range_outerN{P:Program}{σ α:Type}{g:Operand}{ps:Array Tmp}{assign body:Code}{Q:Exit→Act→World→Prop}{a:Act}{w:World}{gf:Nat}{lb:Array Value}
  (hg:a.eval g=.func (.func gf) #[] lb) (eg:∀args w,(callFunc gf args).run P w=.ok (.enter gf args) w)
  {enc:α→Array Value} {ok:σ→α→Prop} {nx:σ→α→σ} {s0:σ} {Fin:σ→Prop} {Inv:σ→World→Prop} (hit:Iter P gf lb enc ok nx s0 Fin Inv)
  (hps:∀x,(enc x).size=ps.size)
  (J:σ→World→Prop) (Jx:Code→World→Prop) (A:σ→α→Act→World→Prop)
  (hJ:∀s,Steady w.heap.size (J s)) (hJx:∀c,Steady w.heap.size (Jx c)) (hA:∀s x a,Steady w.heap.size (A s x a)) (hInv:∀s W,J s W→Inv s W)
  (h0:J s0 w)
  (hassign:∀(l:Nat) (s:σ) (x:α) (W:World),ok s x→J s W→
    assign.wpIn (Fence.wide.inRound l) 0 P (Exit.then (fun a1 W1=>Keep W W1∧J s W1∧A s x a1 W1) (fun _ _ _=>False)) {tmps:=(ps.zip (enc x)).foldl (fun t (p,v)=>t.setIfInBounds p v) a.tmps,defers:= []} W)
  (hbody:∀(l:Nat) (s:σ) (x:α) (a1:Act) (W:World),w.heap.size≤l→(∃r,W.heap[l]? =some (.loop r))→ok s x→J s W→A s x a1 W→
    body.wpIn (Fence.wide.inRound l) 0 P (roundEnd (fun W'=>Keep W W'∧J (nx s x) W') (fun c W'=>Keep W W'∧Jx c W')) a1 W)
  (hdone:∀(D:Nat) (s:σ) (W:World),w.heap.size≤D→Fin s→J s W→W.heap[D]? =some (.deferred (some []))→Q .normal {a with defers:={target:=.collected D,args:=#[]} :: a.defers} W)
  (hstop:∀(D:Nat) (c:Code) (W:World),w.heap.size≤D→Jx c W→W.heap[D]? =some (.deferred (some []))→c.wpIn Fence.wide 0 P Q {a with defers:={target:=.collected D,args:=#[]} :: a.defers} W):
  (Code.rangeFunc g ps assign body).wpIn Fence.wide 0 P Q a w:=by
 refine wpIn_rangeFunc ?_
 intro fn hfn
 obtain⟨rec,hrec⟩:∃rec:LoopState→Option Code→Loop,rec=fun st pe=>{state:=st,pending:=pe,fn,tmps:=a.tmps,params:=ps,assign,body,defers:=w.heap.size}:=⟨_,rfl⟩
 obtain⟨W1,hW1⟩:∃W1,(w.alloc (.deferred (some []))).alloc (.loop (rec .ready none))=W1:=⟨_,rfl⟩
 have hL1:W1.heap[w.heap.size+1]? =some (.loop (rec .ready none)):=by
  rw[←hW1];have:=World.alloc_heap_new (w.alloc (.deferred (some []))) (.loop (rec .ready none));rwa [World.size_alloc] at this
 have hK1:W1.heap[w.heap.size]? =some (.deferred (some [])):=by
  rw[←hW1];exact(Below.heap_alloc _ _ _ (by simp)).trans (World.alloc_heap_new w _)
 have hb1:Below w.heap.size w W1:=by
  rw[←hW1];exact((Below.refl _ w).alloc (Nat.le_refl _) _).alloc (by simp) _
 have hI1:J s0 W1:=(hJ s0).ext h0 hb1
 have keepE:∀{W W':World} {k:Nat} {o:Obj},W.heap[k]? =some o→Below W.heap.size W W'→W'.heap[k]? =some o:=
  fun hk hb=>(hb.block _ (Array.getElem?_eq_some_iff.1 hk).1).trans hk
 refine⟨w.heap.size+1,[{target:=.collected w.heap.size,args:=#[]}],W1,{target:=.fn (.func gf) lb,args:=#[.func (.yield (w.heap.size+1)) #[] #[]]},W1,gf,
  #[.func (.yield (w.heap.size+1)) #[] #[]]++lb,W1,?_,?_,?_,?_,fun h=>by simp[Fence.wide] at h,?_⟩
 ·rw[←hW1,hrec];exact run_enterLoop_outer _ _ _ _ _
 ·simp only[resolve,hg];simp[go_sem]
 ·intro f' hf';trivial
 ·simp[invoke,go_sem,eg]
 ·refine(hit (w.heap.size+1)
   (fun s W=>J s W∧W.heap[w.heap.size+1]? =some (.loop (rec .ready none))∧W.heap[w.heap.size]? =some (.deferred (some [])))
   (fun W=>∃c,Jx c W∧W.heap[w.heap.size+1]? =some (.loop (rec .done (some c)))∧W.heap[w.heap.size]? =some (.deferred (some [])))
   W1 (fun s A B h hb=>⟨(hJ s).ext h.1 hb,keepE h.2.1 hb,keepE h.2.2 hb⟩)
   (fun A B h hb=>by obtain⟨c,h1,h2,h3⟩:=h;exact⟨c,(hJx c).ext h1 hb,keepE h2 hb,keepE h3 hb⟩)
   (fun s W h=>hInv s W h.1) ?_ ⟨hI1,hL1,hK1⟩).mono ?_
  ·rintro s x W hok ⟨hi,hl,hk⟩;have hy:=run_yield (P:=P) (args:=enc x) hl (by rw[hrec];exact hps x);rw[hrec] at hy;refine⟨fn,_,assign,body,hy,roundIn_of_wpIn hfn (wpIn_mono (hassign _ s x W hok hi) ?_)⟩;rintro e a1 V hp;cases e with
   |normal=>
    obtain⟨hkp,hiV,hAV⟩:=hp;have hlV:=hkp _ _ hl rfl;have hkV:=hkp _ _ hk rfl;have hlt:w.heap.size+1<V.heap.size:=(Array.getElem?_eq_some_iff.1 hlV).1;refine⟨_,run_beginRound hlV (by rw[hrec]),?_⟩;have hl2:(V.putObj (w.heap.size+1) (.loop {rec .ready none with state:=.busy})).heap[w.heap.size+1]? =some (.loop {rec .ready none with state:=.busy}):=World.putObj_heap_same hlt;have hk2:(V.putObj (w.heap.size+1) (.loop {rec .ready none with state:=.busy})).heap[w.heap.size]? =some (.deferred (some [])):=(World.putObj_heap_other (by omega)).trans hkV;refine wpIn_mono (hbody _ s x a1 _ (by omega) ⟨_,hl2⟩ hok ((hJ s).put _ hiV (by omega) hlV rfl) ((hA s x a1).put _ hAV (by omega) hlV rfl)) ?_
    have fin:∀(jump:Option Code) (W3:World),Keep (V.putObj (w.heap.size+1) (.loop {rec .ready none with state:=.busy})) W3→
      (Instr.endRound (w.heap.size+1) jump).run P W3=.ok (.bool jump.isNone) (W3.putObj (w.heap.size+1) (.loop (rec (if jump.isNone then .ready else .done) jump)))∧
      W3.heap[w.heap.size+1]? =some (.loop {rec .ready none with state:=.busy})∧
      (W3.putObj (w.heap.size+1) (.loop (rec (if jump.isNone then .ready else .done) jump))).heap[w.heap.size+1]? =some (.loop (rec (if jump.isNone then .ready else .done) jump))∧
      (W3.putObj (w.heap.size+1) (.loop (rec (if jump.isNone then .ready else .done) jump))).heap[w.heap.size]? =some (.deferred (some [])):=fun jump W3 hk3=>by
     have hl3:=hk3 _ _ hl2 rfl;have:=run_endRound (P:=P) jump hl3;rw[hrec] at this⊢;exact⟨this,by rw[hrec] at hl3;exact hl3,World.putObj_heap_same (Array.getElem?_eq_some_iff.1 hl3).1,(World.putObj_heap_other (by omega)).trans (hk3 _ _ hk2 rfl)⟩
    rintro e a3 W3 hp;cases e with
    |normal=>
     obtain⟨hk3,hi3⟩:=hp;obtain⟨hr,hl3,hl4,hk4⟩:=fin none W3 hk3;exact⟨_,_,hr,.inl ⟨rfl,(hJ _).put _ hi3 (by omega) hl3 rfl,hl4,hk4⟩⟩
    |ret=>
     obtain⟨hk3,hi3⟩:=hp;obtain⟨hr,hl3,hl4,hk4⟩:=fin (some .ret) W3 hk3;exact⟨_,_,hr,.inr ⟨rfl,.ret,(hJx _).put _ hi3 (by omega) hl3 rfl,hl4,hk4⟩⟩
    |exit id=>
     obtain⟨hk3,hi3⟩:=hp;obtain⟨hr,hl3,hl4,hk4⟩:=fin (some (.exit id)) W3 hk3;exact⟨_,_,hr,.inr ⟨rfl,.exit id,(hJx _).put _ hi3 (by omega) hl3 rfl,hl4,hk4⟩⟩
    |goto t=>
     obtain⟨hk3,hi3⟩:=hp;obtain⟨hr,hl3,hl4,hk4⟩:=fin (some (.goto t)) W3 hk3;exact⟨_,_,hr,.inr ⟨rfl,.goto t,(hJx _).put _ hi3 (by omega) hl3 rfl,hl4,hk4⟩⟩
    |panic ch=>exact hp.elim
    |outgrown=>exact hp.elim
   |exit id=>exact hp.elim
   |goto t=>exact hp.elim
   |ret=>exact hp.elim
   |panic chain=>exact hp.elim
   |outgrown=>exact hp.elim
  ·rintro e W2 ⟨⟨v,rfl⟩,(⟨s,hS,hi,hl,hk⟩|⟨c,hi,hl,hk⟩)⟩
   ·exact⟨none,_,by have:=run_endLoop (P:=P) hl (by rw[hrec];simp);rw[hrec] at this;exact this,hdone _ s _ (Nat.le_refl _) hS ((hJ s).put _ hi (by omega) hl rfl) ((World.putObj_heap_other (by omega)).trans hk)⟩
   ·exact⟨some c,_,by have:=run_endLoop (P:=P) hl (by rw[hrec];simp);rw[hrec] at this;exact this,hstop _ c _ (Nat.le_refl _) ((hJx c).put _ hi (by omega) hl rfl) ((World.putObj_heap_other (by omega)).trans hk)⟩
end

section
open Go.RowKit
def IterB{σ α:Type}(P:Program)(gf:Nat)(lb:Array Value)(enc:α→Array Value)(ok:σ→α→Prop)(nx:σ→α→σ)(s0:σ)(Fin:σ→Prop)(Inv:σ→World→Prop):Prop:=
 ∀(l:Nat) (K:σ→World→Prop) (Kx:World→Prop) (T:World→Nat→Prop) (W0:World),
  (∀s W W' row,K s W→W.grownBy W' row→(∀q,row=some q→W0.heap.size≤q∧∃o:Obj,W.heap[q]? =some o∧isBk o=true)→K s W')→(∀W W' row,Kx W→W.grownBy W' row→(∀q,row=some q→W0.heap.size≤q∧∃o:Obj,W.heap[q]? =some o∧isBk o=true)→Kx W')→(∀s W,K s W→Inv s W)→
  (∀s W k,K s W→T W k→k<W.heap.size)→(∀s W W' row k,K s W→W.grownBy W' row→(∀q,row=some q→W0.heap.size≤q∧∃o:Obj,W.heap[q]? =some o∧isBk o=true)→T W' k→T W k)→
  (∀s x W,ok s x→K s W→YieldAt Fence.wide 0 P l (enc x) W fun e W'=>(e=.returned (.bool true)∧K (nx s x) W'∧Tch T W W')∨(e=.returned (.bool false)∧Kx W'))→
  K s0 W0→CallsIn Fence.wide 0 P gf (#[.func (.yield l) #[] #[]]++lb) W0 fun e W'=>(∃v,e=.returned v)∧((∃s,Fin s∧K s W')∨Kx W')
theorem range_outerB{P:Program}{σ α:Type}{g:Operand}{ps:Array Tmp}{assign body:Code}{Q:Exit→Act→World→Prop}{a:Act}{w:World}{gf:Nat}{lb:Array Value}
  (hg:a.eval g=.func (.func gf) #[] lb) (eg:∀args w,(callFunc gf args).run P w=.ok (.enter gf args) w)
  {enc:α→Array Value} {ok:σ→α→Prop} {nx:σ→α→σ} {s0:σ} {Fin:σ→Prop} {Inv:σ→World→Prop} (hit:IterB P gf lb enc ok nx s0 Fin Inv)
  (hps:∀x,(enc x).size=ps.size)
  (J:σ→World→Prop) (Jx:Code→World→Prop) (A:σ→α→Act→World→Prop)
  (hJ:∀s,SteadyM w.heap.size (J s)) (hJx:∀c,SteadyM w.heap.size (Jx c)) (hA:∀s x a,SteadyM w.heap.size (A s x a)) (hInv:∀s W,J s W→Inv s W)
  (T:World→Nat→Prop) (hT0:∀s W k,J s W→T W k→k<W.heap.size) (hTg:∀W W' row,W.grownBy W' row→(∀r,row=some r→w.heap.size≤r∧∃o:Obj,W.heap[r]? =some o∧isBk o=true)→(∃s,J s W)→∀k,T W' k→T W k)
  (h0:J s0 w)
  (hassign:∀(l:Nat) (s:σ) (x:α) (W:World),ok s x→J s W→
    assign.wpIn (Fence.wide.inRound l) 0 P (Exit.then (fun a1 W1=>Keep W W1∧J s W1∧A s x a1 W1∧Tch T W W1) (fun _ _ _=>False)) {tmps:=(ps.zip (enc x)).foldl (fun t (p,v)=>t.setIfInBounds p v) a.tmps,defers:= []} W)
  (hbody:∀(l:Nat) (s:σ) (x:α) (a1:Act) (W:World),ok s x→J s W→A s x a1 W→
    body.wpIn (Fence.wide.inRound l) 0 P (roundEnd (fun W'=>Keep W W'∧J (nx s x) W'∧Tch T W W') (fun c W'=>Keep W W'∧Jx c W')) a1 W)
  (hdone:∀(D:Nat) (s:σ) (W:World),w.heap.size≤D→Fin s→J s W→W.heap[D]? =some (.deferred (some []))→Q .normal {a with defers:={target:=.collected D,args:=#[]} :: a.defers} W)
  (hstop:∀(D:Nat) (c:Code) (W:World),w.heap.size≤D→Jx c W→W.heap[D]? =some (.deferred (some []))→c.wpIn Fence.wide 0 P Q {a with defers:={target:=.collected D,args:=#[]} :: a.defers} W):
  (Code.rangeFunc g ps assign body).wpIn Fence.wide 0 P Q a w:=by
 refine wpIn_rangeFunc ?_
 intro fn hfn
 obtain⟨rec,hrec⟩:∃rec:LoopState→Option Code→Loop,rec=fun st pe=>{state:=st,pending:=pe,fn,tmps:=a.tmps,params:=ps,assign,body,defers:=w.heap.size}:=⟨_,rfl⟩
 obtain⟨W1,hW1⟩:∃W1,(w.alloc (.deferred (some []))).alloc (.loop (rec .ready none))=W1:=⟨_,rfl⟩
 have hL1:W1.heap[w.heap.size+1]? =some (.loop (rec .ready none)):=by
  rw[←hW1];have:=World.alloc_heap_new (w.alloc (.deferred (some []))) (.loop (rec .ready none));rwa [World.size_alloc] at this
 have hK1:W1.heap[w.heap.size]? =some (.deferred (some [])):=by
  rw[←hW1];exact(Below.heap_alloc _ _ _ (by simp)).trans (World.alloc_heap_new w _)
 have hb1:Below w.heap.size w W1:=by
  rw[←hW1];exact((Below.refl _ w).alloc (Nat.le_refl _) _).alloc (by simp) _
 have hI1:J s0 W1:=(hJ s0).ext h0 hb1
 have keepE:∀{W W':World} {k:Nat} {o:Obj},W.heap[k]? =some o→Below W.heap.size W W'→W'.heap[k]? =some o:=
  fun hk hb=>(hb.block _ (Array.getElem?_eq_some_iff.1 hk).1).trans hk
 refine⟨w.heap.size+1,[{target:=.collected w.heap.size,args:=#[]}],W1,{target:=.fn (.func gf) lb,args:=#[.func (.yield (w.heap.size+1)) #[] #[]]},W1,gf,
  #[.func (.yield (w.heap.size+1)) #[] #[]]++lb,W1,?_,?_,?_,?_,fun h=>by simp[Fence.wide] at h,?_⟩
 ·rw[←hW1,hrec];exact run_enterLoop_outer _ _ _ _ _
 ·simp only[resolve,hg];simp[go_sem]
 ·intro f' hf';trivial
 ·simp[invoke,go_sem,eg]
 ·refine(hit (w.heap.size+1)
   (fun s W=>J s W∧W.heap[w.heap.size+1]? =some (.loop (rec .ready none))∧W.heap[w.heap.size]? =some (.deferred (some [])))
   (fun W=>∃c,Jx c W∧W.heap[w.heap.size+1]? =some (.loop (rec .done (some c)))∧W.heap[w.heap.size]? =some (.deferred (some [])))
   (fun W k=>T W k∨k=w.heap.size+1∨k=w.heap.size)
   W1 (fun s A B row h hg hr=>by
    have hz:W1.heap.size=w.heap.size+1+1:=by rw[←hW1];simp
    refine⟨hJ s A B row h.1 hg (fun r e=>?_),(hg.block _ (Array.getElem?_eq_some_iff.1 h.2.1).1 (fun e=>?_)).trans h.2.1,(hg.block _ (Array.getElem?_eq_some_iff.1 h.2.2).1 (fun e=>?_)).trans h.2.2⟩
    ·obtain⟨h1,o,h2,h3⟩:=hr r e;exact⟨by omega,o,h2,h3⟩
    ·obtain⟨h1,_⟩:=hr _ e.symm;omega
    ·obtain⟨h1,_⟩:=hr _ e.symm
     omega)
   (fun A B row h hg hr=>by
     have hz:W1.heap.size=w.heap.size+1+1:=by rw[←hW1];simp
     obtain⟨c,h1,h2,h3⟩:=h;refine⟨c,hJx c A B row h1 hg (fun r e=>?_),(hg.block _ (Array.getElem?_eq_some_iff.1 h2).1 (fun e=>?_)).trans h2,(hg.block _ (Array.getElem?_eq_some_iff.1 h3).1 (fun e=>?_)).trans h3⟩
     ·obtain⟨q1,o,q2,q3⟩:=hr r e;exact⟨by omega,o,q2,q3⟩
     ·obtain⟨q1,_⟩:=hr _ e.symm;omega
     ·obtain⟨q1,_⟩:=hr _ e.symm
      omega)
   (fun s W h=>hInv s W h.1)
   (fun s W k h ht=>by
     rcases ht with ht|rfl|rfl
     ·exact hT0 s W k h.1 ht
     ·exact(Array.getElem?_eq_some_iff.1 h.2.1).1
     ·exact(Array.getElem?_eq_some_iff.1 h.2.2).1)
   (fun s A B row k h hg hr ht=>by
     have hz:W1.heap.size=w.heap.size+1+1:=by rw[←hW1];simp
     rcases ht with ht|ht
     ·exact .inl (hTg A B row hg (fun r e=>by
       obtain⟨h1,o,h2,h3⟩:=hr r e
       exact⟨by omega,o,h2,h3⟩) ⟨s,h.1⟩ k ht)
     ·exact .inr ht)
   ?_ ⟨hI1,hL1,hK1⟩).mono ?_
  ·rintro s x W hok ⟨hi,hl,hk⟩;have hy:=run_yield (P:=P) (args:=enc x) hl (by rw[hrec];exact hps x);rw[hrec] at hy;refine⟨fn,_,assign,body,hy,roundIn_of_wpIn hfn (wpIn_mono (hassign _ s x W hok hi) ?_)⟩;rintro e a1 V hp;cases e with
   |normal=>
    obtain⟨hkp,hiV,hAV,hTV⟩:=hp;have hlV:=hkp _ _ hl rfl;have hkV:=hkp _ _ hk rfl;have hlt:w.heap.size+1<V.heap.size:=(Array.getElem?_eq_some_iff.1 hlV).1;refine⟨_,run_beginRound hlV (by rw[hrec]),?_⟩;have hl2:(V.putObj (w.heap.size+1) (.loop {rec .ready none with state:=.busy})).heap[w.heap.size+1]? =some (.loop {rec .ready none with state:=.busy}):=World.putObj_heap_same hlt;have hk2:(V.putObj (w.heap.size+1) (.loop {rec .ready none with state:=.busy})).heap[w.heap.size]? =some (.deferred (some [])):=(World.putObj_heap_other (by omega)).trans hkV;refine wpIn_mono (hbody _ s x a1 _ hok ((hJ s).put _ hiV (by omega) hlV rfl) ((hA s x a1).put _ hAV (by omega) hlV rfl)) ?_
    have fin:∀(jump:Option Code) (W3:World),Keep (V.putObj (w.heap.size+1) (.loop {rec .ready none with state:=.busy})) W3→
      (Instr.endRound (w.heap.size+1) jump).run P W3=.ok (.bool jump.isNone) (W3.putObj (w.heap.size+1) (.loop (rec (if jump.isNone then .ready else .done) jump)))∧
      W3.heap[w.heap.size+1]? =some (.loop {rec .ready none with state:=.busy})∧
      (W3.putObj (w.heap.size+1) (.loop (rec (if jump.isNone then .ready else .done) jump))).heap[w.heap.size+1]? =some (.loop (rec (if jump.isNone then .ready else .done) jump))∧
      (W3.putObj (w.heap.size+1) (.loop (rec (if jump.isNone then .ready else .done) jump))).heap[w.heap.size]? =some (.deferred (some [])):=fun jump W3 hk3=>by
     have hl3:=hk3 _ _ hl2 rfl;have:=run_endRound (P:=P) jump hl3;rw[hrec] at this⊢;exact⟨this,by rw[hrec] at hl3;exact hl3,World.putObj_heap_same (Array.getElem?_eq_some_iff.1 hl3).1,(World.putObj_heap_other (by omega)).trans (hk3 _ _ hk2 rfl)⟩
    rintro e a3 W3 hp;cases e with
    |normal=>
     obtain⟨hk3,hi3,hT3⟩:=hp;obtain⟨hr,hl3,hl4,hk4⟩:=fin none W3 hk3;refine⟨_,_,hr,.inl ⟨rfl,⟨(hJ _).put _ hi3 (by omega) hl3 rfl,hl4,hk4⟩,?_⟩⟩;have g1:=grown_put V (w.heap.size+1) (.loop {rec .ready none with state:=.busy});have g2:=grown_put W3 (w.heap.size+1) (.loop (rec (if (none:Option Code).isNone then .ready else .done) none));have t1:∀k,T (V.putObj (w.heap.size+1) (.loop {rec .ready none with state:=.busy})) k→T V k:=hTg _ _ _ g1 (fun r hr=>by cases hr;exact⟨by omega,_,hlV,rfl⟩) ⟨s,hiV⟩;have t2:∀k,T (W3.putObj (w.heap.size+1) (.loop (rec (if (none:Option Code).isNone then .ready else .done) none))) k→T W3 k:=hTg _ _ _ g2 (fun r hr=>by cases hr;exact⟨by omega,_,hl3,rfl⟩) ⟨_,hi3⟩;have z1:(V.putObj (w.heap.size+1) (.loop {rec .ready none with state:=.busy})).heap.size=V.heap.size:=by simp
     have z2:(W3.putObj (w.heap.size+1) (.loop (rec (if (none:Option Code).isNone then .ready else .done) none))).heap.size=W3.heap.size:=by simp
     have s1:=hTV.1;have s3:=hT3.1;rw[z1] at s3;refine⟨by rw[z2];omega,fun k hk hn=>?_,fun k hk=>?_⟩
     ·have n1:k≠w.heap.size+1:=fun e=>hn (.inr (.inl e));have n0:¬T W k:=fun e=>hn (.inl e);have m1:¬T V k:=fun e=>(hTV.2.2 k e).elim n0 (by omega);have m2:=fun e=>m1 (t1 k e);rw[World.putObj_heap_other n1,hT3.2.1 k (by rw[z1];omega) m2,World.putObj_heap_other n1,hTV.2.1 k hk n0]
     ·rcases hk with hk|hk
      ·rcases hT3.2.2 k (t2 k hk) with h|h
       ·rcases hTV.2.2 k (t1 k h) with h|h
        ·exact .inl (.inl h)
        ·exact .inr h
       ·rw[z1] at h;exact .inr (by omega)
      ·exact .inl (.inr hk)
    |ret=>
     obtain⟨hk3,hi3⟩:=hp;obtain⟨hr,hl3,hl4,hk4⟩:=fin (some .ret) W3 hk3;exact⟨_,_,hr,.inr ⟨rfl,.ret,(hJx _).put _ hi3 (by omega) hl3 rfl,hl4,hk4⟩⟩
    |exit id=>
     obtain⟨hk3,hi3⟩:=hp;obtain⟨hr,hl3,hl4,hk4⟩:=fin (some (.exit id)) W3 hk3;exact⟨_,_,hr,.inr ⟨rfl,.exit id,(hJx _).put _ hi3 (by omega) hl3 rfl,hl4,hk4⟩⟩
    |goto t=>
     obtain⟨hk3,hi3⟩:=hp;obtain⟨hr,hl3,hl4,hk4⟩:=fin (some (.goto t)) W3 hk3;exact⟨_,_,hr,.inr ⟨rfl,.goto t,(hJx _).put _ hi3 (by omega) hl3 rfl,hl4,hk4⟩⟩
    |panic ch=>exact hp.elim
    |outgrown=>exact hp.elim
   |exit id=>exact hp.elim
   |goto t=>exact hp.elim
   |ret=>exact hp.elim
   |panic chain=>exact hp.elim
   |outgrown=>exact hp.elim
  ·rintro e W2 ⟨⟨v,rfl⟩,(⟨s,hS,hi,hl,hk⟩|⟨c,hi,hl,hk⟩)⟩
   ·exact⟨none,_,by have:=run_endLoop (P:=P) hl (by rw[hrec];simp);rw[hrec] at this;exact this,hdone _ s _ (Nat.le_refl _) hS ((hJ s).put _ hi (by omega) hl rfl) ((World.putObj_heap_other (by omega)).trans hk)⟩
   ·exact⟨some c,_,by have:=run_endLoop (P:=P) hl (by rw[hrec];simp);rw[hrec] at this;exact this,hstop _ c _ (Nat.le_refl _) ((hJx c).put _ hi (by omega) hl rfl) ((World.putObj_heap_other (by omega)).trans hk)⟩
def IterBI{α:Type}(P:Program)(gf:Nat)(lb:Array Value)(enc:α→Array Value)(l:List α)(I:World→Prop):Prop:=
 IterB P gf lb enc okL nxL l finL (fun _ W=>I W)
section
variable {P:Program}
theorem range_listB{α:Type}{g:Operand}{ps:Array Tmp}{assign body:Code}{Q:Exit→Act→World→Prop}{a:Act}{w:World}{gf:Nat}{lb:Array Value}
  (hg:a.eval g=.func (.func gf) #[] lb) (eg:∀args w,(callFunc gf args).run P w=.ok (.enter gf args) w)
  {enc:α→Array Value} {l:List α} (I:World→Prop) (hit:IterBI P gf lb enc l I) (hps:∀x,(enc x).size=ps.size)
  (J:List α→List α→World→Prop) (Jx:Code→World→Prop)
  (hJ:∀d r,SteadyM w.heap.size (J d r)) (hJx:∀c,SteadyM w.heap.size (Jx c)) (hInv:∀d r W,J d r W→I W)
  (T:World→Nat→Prop) (hT0:∀d r W k,J d r W→T W k→k<W.heap.size) (hTg:∀W W' row,W.grownBy W' row→(∀q,row=some q→w.heap.size≤q∧∃o:Obj,W.heap[q]? =some o∧isBk o=true)→(∃d r,J d r W)→∀k,T W' k→T W k)
  (h0:J [] l w)
  (hround:∀(lp:Nat) (d:List α) (x:α) (r:List α) (W:World),l=d++x :: r→J d (x :: r) W→
    assign.wpIn (Fence.wide.inRound lp) 0 P (Exit.then (fun a1 W1=>Keep W W1∧J d (x :: r) W1∧Tch T W W1∧∃G:World→Prop,SteadyM w.heap.size G∧G W1∧∀(lp:Nat) (W2:World),J d (x :: r) W2→G W2→
     body.wpIn (Fence.wide.inRound lp) 0 P (roundEnd (fun W'=>Keep W2 W'∧J (d++ [x]) r W'∧Tch T W2 W') (fun c W'=>Keep W2 W'∧Jx c W')) a1 W2) (fun _ _ _=>False)) {tmps:=(ps.zip (enc x)).foldl (fun t (p,v)=>t.setIfInBounds p v) a.tmps,defers:= []} W)
  (hdone:∀(D:Nat) (W:World),w.heap.size≤D→J l [] W→W.heap[D]? =some (.deferred (some []))→Q .normal {a with defers:={target:=.collected D,args:=#[]} :: a.defers} W)
  (hstop:∀(D:Nat) (c:Code) (W:World),w.heap.size≤D→Jx c W→W.heap[D]? =some (.deferred (some []))→c.wpIn Fence.wide 0 P Q {a with defers:={target:=.collected D,args:=#[]} :: a.defers} W):
  (Code.rangeFunc g ps assign body).wpIn Fence.wide 0 P Q a w:=by
 refine range_outerB (enc:=enc) hg eg hit hps (fun s W=>∃d,l=d++s∧J d s W) Jx
  (fun s x a1 W=>∃G:World→Prop,SteadyM w.heap.size G∧G W∧∀(d:List α) (lp:Nat) (W2:World),l=d++s→J d s W2→G W2→body.wpIn (Fence.wide.inRound lp) 0 P (roundEnd (fun W'=>Keep W2 W'∧J (d++ [x]) (nxL s x) W'∧Tch T W2 W') (fun c W'=>Keep W2 W'∧Jx c W')) a1 W2)
  (fun s=>SteadyM.ex fun d=>(SteadyM.pure _ _).and (hJ d s)) hJx (fun _ _ _=>fun W W' row h hg hr=>let ⟨G,h1,h2,h3⟩:=h;⟨G,h1,h1 W W' row h2 hg hr,h3⟩) (fun s W ⟨d,_,h⟩=>hInv d s W h) T (fun s W k ⟨d,_,h⟩ ht=>hT0 d s W k h ht) (fun W W' row hg hr ⟨s,d,_,h⟩=>hTg W W' row hg hr ⟨d,s,h⟩) ⟨[],rfl,h0⟩ ?_ ?_ ?_ hstop
 ·rintro lp s x W hok ⟨d,hd,hj⟩;have hs:=okL_cons hok;generalize nxL s x=r at hs⊢;subst hs;refine wpIn_mono (hround lp d x r W hd hj) ?_;rintro e a1 W1 he;cases e with
  |normal=>
   obtain⟨h1,h2,hT1,G,h4,h5,h3⟩:=he;refine⟨h1,⟨d,hd,h2⟩,⟨G,h4,h5,fun d' lp' W2 hd' hj' hG'=>?_⟩,hT1⟩;have:d'=d:=by
    have:=hd'.symm.trans hd;exact List.append_cancel_right this
   subst this;exact h3 lp' W2 hj' hG'
  |_=>exact he.elim
 ·rintro lp s x a1 W hok ⟨d,hd,hj⟩ ⟨G,_,hG,hA⟩;refine wpIn_mono (hA d lp W hd hj hG) ?_;rintro e a3 W3 he;cases e with
  |normal=>
   refine⟨he.1,⟨d++ [x],?_,he.2.1⟩,he.2.2⟩;rw[hd,List.append_assoc]
   congr 1
   exact okL_cons hok
  |ret=>exact he
  |exit id=>exact he
  |goto t=>exact he
  |panic ch=>exact he.elim
  |outgrown=>exact he.elim
 ·rintro D s W hD hf ⟨d,hd,hj⟩ hk;have hf:s= []:=hf;subst hf;rw[List.append_nil] at hd;subst hd;exact hdone D W hD hj hk
end
def KeepB(B:Nat)(W W':World):Prop:=∀k,(k=B∨k=B+1)→W'.heap[k]? =W.heap[k]?
theorem range_outerK{P:Program}{σ α:Type}{g:Operand}{ps:Array Tmp}{assign body:Code}{Q:Exit→Act→World→Prop}{a:Act}{w:World}{gf:Nat}{lb:Array Value}
  (hg:a.eval g=.func (.func gf) #[] lb) (eg:∀args w,(callFunc gf args).run P w=.ok (.enter gf args) w)
  {enc:α→Array Value} {ok:σ→α→Prop} {nx:σ→α→σ} {s0:σ} {Fin:σ→Prop} {Inv:σ→World→Prop} (hit:Iter P gf lb enc ok nx s0 Fin Inv)
  (hps:∀x,(enc x).size=ps.size)
  (J:σ→World→Prop) (Jx:Code→World→Prop) (A:σ→α→Act→World→Prop)
  (hJ:∀s,SteadyM w.heap.size (J s)) (hJx:∀c,SteadyM w.heap.size (Jx c)) (hA:∀s x a,SteadyM w.heap.size (A s x a)) (hInv:∀s W,J s W→Inv s W)
  (h0:J s0 w)
  (hassign:∀(l:Nat) (s:σ) (x:α) (W:World),w.heap.size+1<W.heap.size→ok s x→J s W→
    assign.wpIn (Fence.wide.inRound l) 0 P (Exit.then (fun a1 W1=>KeepB w.heap.size W W1∧J s W1∧A s x a1 W1) (fun _ _ _=>False)) {tmps:=(ps.zip (enc x)).foldl (fun t (p,v)=>t.setIfInBounds p v) a.tmps,defers:= []} W)
  (hbody:∀(l:Nat) (s:σ) (x:α) (a1:Act) (W:World),w.heap.size+1≤l→(∃r,W.heap[l]? =some (.loop r))→ok s x→J s W→A s x a1 W→
    body.wpIn (Fence.wide.inRound l) 0 P (roundEnd (fun W'=>KeepB w.heap.size W W'∧J (nx s x) W') (fun c W'=>KeepB w.heap.size W W'∧Jx c W')) a1 W)
  (hdone:∀(D:Nat) (s:σ) (W:World),w.heap.size≤D→Fin s→J s W→W.heap[D]? =some (.deferred (some []))→Q .normal {a with defers:={target:=.collected D,args:=#[]} :: a.defers} W)
  (hstop:∀(D:Nat) (c:Code) (W:World),w.heap.size≤D→Jx c W→W.heap[D]? =some (.deferred (some []))→c.wpIn Fence.wide 0 P Q {a with defers:={target:=.collected D,args:=#[]} :: a.defers} W):
  (Code.rangeFunc g ps assign body).wpIn Fence.wide 0 P Q a w:=by
 refine wpIn_rangeFunc ?_
 intro fn hfn
 obtain⟨rec,hrec⟩:∃rec:LoopState→Option Code→Loop,rec=fun st pe=>{state:=st,pending:=pe,fn,tmps:=a.tmps,params:=ps,assign,body,defers:=w.heap.size}:=⟨_,rfl⟩
 obtain⟨W1,hW1⟩:∃W1,(w.alloc (.deferred (some []))).alloc (.loop (rec .ready none))=W1:=⟨_,rfl⟩
 have hL1:W1.heap[w.heap.size+1]? =some (.loop (rec .ready none)):=by
  rw[←hW1];have:=World.alloc_heap_new (w.alloc (.deferred (some []))) (.loop (rec .ready none));rwa [World.size_alloc] at this
 have hK1:W1.heap[w.heap.size]? =some (.deferred (some [])):=by
  rw[←hW1];exact(Below.heap_alloc _ _ _ (by simp)).trans (World.alloc_heap_new w _)
 have hb1:Below w.heap.size w W1:=by
  rw[←hW1];exact((Below.refl _ w).alloc (Nat.le_refl _) _).alloc (by simp) _
 have hI1:J s0 W1:=(hJ s0).ext h0 hb1
 have keepE:∀{W W':World} {k:Nat} {o:Obj},W.heap[k]? =some o→Below W.heap.size W W'→W'.heap[k]? =some o:=
  fun hk hb=>(hb.block _ (Array.getElem?_eq_some_iff.1 hk).1).trans hk
 refine⟨w.heap.size+1,[{target:=.collected w.heap.size,args:=#[]}],W1,{target:=.fn (.func gf) lb,args:=#[.func (.yield (w.heap.size+1)) #[] #[]]},W1,gf,
  #[.func (.yield (w.heap.size+1)) #[] #[]]++lb,W1,?_,?_,?_,?_,fun h=>by simp[Fence.wide] at h,?_⟩
 ·rw[←hW1,hrec];exact run_enterLoop_outer _ _ _ _ _
 ·simp only[resolve,hg];simp[go_sem]
 ·intro f' hf';trivial
 ·simp[invoke,go_sem,eg]
 ·refine(hit (w.heap.size+1)
   (fun s W=>J s W∧W.heap[w.heap.size+1]? =some (.loop (rec .ready none))∧W.heap[w.heap.size]? =some (.deferred (some [])))
   (fun W=>∃c,Jx c W∧W.heap[w.heap.size+1]? =some (.loop (rec .done (some c)))∧W.heap[w.heap.size]? =some (.deferred (some [])))
   W1 (fun s A B h hb=>⟨(hJ s).ext h.1 hb,keepE h.2.1 hb,keepE h.2.2 hb⟩)
   (fun A B h hb=>by obtain⟨c,h1,h2,h3⟩:=h;exact⟨c,(hJx c).ext h1 hb,keepE h2 hb,keepE h3 hb⟩)
   (fun s W h=>hInv s W h.1) ?_ ⟨hI1,hL1,hK1⟩).mono ?_
  ·rintro s x W hok ⟨hi,hl,hk⟩;have hy:=run_yield (P:=P) (args:=enc x) hl (by rw[hrec];exact hps x);rw[hrec] at hy;refine⟨fn,_,assign,body,hy,roundIn_of_wpIn hfn (wpIn_mono (hassign _ s x W (Array.getElem?_eq_some_iff.1 hl).1 hok hi) ?_)⟩;rintro e a1 V hp;cases e with
   |normal=>
    obtain⟨hkp,hiV,hAV⟩:=hp;have hlV:=(hkp _ (.inr rfl)).trans hl;have hkV:=(hkp _ (.inl rfl)).trans hk;have hlt:w.heap.size+1<V.heap.size:=(Array.getElem?_eq_some_iff.1 hlV).1;refine⟨_,run_beginRound hlV (by rw[hrec]),?_⟩;have hl2:(V.putObj (w.heap.size+1) (.loop {rec .ready none with state:=.busy})).heap[w.heap.size+1]? =some (.loop {rec .ready none with state:=.busy}):=World.putObj_heap_same hlt;have hk2:(V.putObj (w.heap.size+1) (.loop {rec .ready none with state:=.busy})).heap[w.heap.size]? =some (.deferred (some [])):=(World.putObj_heap_other (by omega)).trans hkV;refine wpIn_mono (hbody _ s x a1 _ (by omega) ⟨_,hl2⟩ hok ((hJ s).put _ hiV (by omega) hlV rfl) ((hA s x a1).put _ hAV (by omega) hlV rfl)) ?_
    have fin:∀(jump:Option Code) (W3:World),KeepB w.heap.size (V.putObj (w.heap.size+1) (.loop {rec .ready none with state:=.busy})) W3→
      (Instr.endRound (w.heap.size+1) jump).run P W3=.ok (.bool jump.isNone) (W3.putObj (w.heap.size+1) (.loop (rec (if jump.isNone then .ready else .done) jump)))∧
      W3.heap[w.heap.size+1]? =some (.loop {rec .ready none with state:=.busy})∧
      (W3.putObj (w.heap.size+1) (.loop (rec (if jump.isNone then .ready else .done) jump))).heap[w.heap.size+1]? =some (.loop (rec (if jump.isNone then .ready else .done) jump))∧
      (W3.putObj (w.heap.size+1) (.loop (rec (if jump.isNone then .ready else .done) jump))).heap[w.heap.size]? =some (.deferred (some [])):=fun jump W3 hk3=>by
     have hl3:=(hk3 _ (.inr rfl)).trans hl2;have:=run_endRound (P:=P) jump hl3;rw[hrec] at this⊢;exact⟨this,by rw[hrec] at hl3;exact hl3,World.putObj_heap_same (Array.getElem?_eq_some_iff.1 hl3).1,(World.putObj_heap_other (by omega)).trans ((hk3 _ (.inl rfl)).trans hk2)⟩
    rintro e a3 W3 hp;cases e with
    |normal=>
     obtain⟨hk3,hi3⟩:=hp;obtain⟨hr,hl3,hl4,hk4⟩:=fin none W3 hk3;exact⟨_,_,hr,.inl ⟨rfl,(hJ _).put _ hi3 (by omega) hl3 rfl,hl4,hk4⟩⟩
    |ret=>
     obtain⟨hk3,hi3⟩:=hp;obtain⟨hr,hl3,hl4,hk4⟩:=fin (some .ret) W3 hk3;exact⟨_,_,hr,.inr ⟨rfl,.ret,(hJx _).put _ hi3 (by omega) hl3 rfl,hl4,hk4⟩⟩
    |exit id=>
     obtain⟨hk3,hi3⟩:=hp;obtain⟨hr,hl3,hl4,hk4⟩:=fin (some (.exit id)) W3 hk3;exact⟨_,_,hr,.inr ⟨rfl,.exit id,(hJx _).put _ hi3 (by omega) hl3 rfl,hl4,hk4⟩⟩
    |goto t=>
     obtain⟨hk3,hi3⟩:=hp;obtain⟨hr,hl3,hl4,hk4⟩:=fin (some (.goto t)) W3 hk3;exact⟨_,_,hr,.inr ⟨rfl,.goto t,(hJx _).put _ hi3 (by omega) hl3 rfl,hl4,hk4⟩⟩
    |panic ch=>exact hp.elim
    |outgrown=>exact hp.elim
   |exit id=>exact hp.elim
   |goto t=>exact hp.elim
   |ret=>exact hp.elim
   |panic chain=>exact hp.elim
   |outgrown=>exact hp.elim
  ·rintro e W2 ⟨⟨v,rfl⟩,(⟨s,hS,hi,hl,hk⟩|⟨c,hi,hl,hk⟩)⟩
   ·exact⟨none,_,by have:=run_endLoop (P:=P) hl (by rw[hrec];simp);rw[hrec] at this;exact this,hdone _ s _ (Nat.le_refl _) hS ((hJ s).put _ hi (by omega) hl rfl) ((World.putObj_heap_other (by omega)).trans hk)⟩
   ·exact⟨some c,_,by have:=run_endLoop (P:=P) hl (by rw[hrec];simp);rw[hrec] at this;exact this,hstop _ c _ (Nat.le_refl _) ((hJx c).put _ hi (by omega) hl rfl) ((World.putObj_heap_other (by omega)).trans hk)⟩
theorem range_listK{P:Program}{α:Type}{g:Operand}{ps:Array Tmp}{assign body:Code}{Q:Exit→Act→World→Prop}{a:Act}{w:World}{gf:Nat}{lb:Array Value}
  (hg:a.eval g=.func (.func gf) #[] lb) (eg:∀args w,(callFunc gf args).run P w=.ok (.enter gf args) w)
  {enc:α→Array Value} {l:List α} (I:World→Prop) (hit:IterI P gf lb enc l I) (hps:∀x,(enc x).size=ps.size)
  (J:List α→List α→World→Prop) (Jx:Code→World→Prop)
  (hJ:∀d r,SteadyM w.heap.size (J d r)) (hJx:∀c,SteadyM w.heap.size (Jx c)) (hInv:∀d r W,J d r W→I W)
  (h0:J [] l w)
  (hround:∀(lp:Nat) (d:List α) (x:α) (r:List α) (W:World),w.heap.size+1<W.heap.size→l=d++x :: r→J d (x :: r) W→
    assign.wpIn (Fence.wide.inRound lp) 0 P (Exit.then (fun a1 W1=>KeepB w.heap.size W W1∧J d (x :: r) W1∧∃G:World→Prop,SteadyM w.heap.size G∧G W1∧∀(lp:Nat) (W2:World),w.heap.size+1<W2.heap.size→J d (x :: r) W2→G W2→
     body.wpIn (Fence.wide.inRound lp) 0 P (roundEnd (fun W'=>KeepB w.heap.size W2 W'∧J (d++ [x]) r W') (fun c W'=>KeepB w.heap.size W2 W'∧Jx c W')) a1 W2) (fun _ _ _=>False)) {tmps:=(ps.zip (enc x)).foldl (fun t (p,v)=>t.setIfInBounds p v) a.tmps,defers:= []} W)
  (hdone:∀(D:Nat) (W:World),w.heap.size≤D→J l [] W→W.heap[D]? =some (.deferred (some []))→Q .normal {a with defers:={target:=.collected D,args:=#[]} :: a.defers} W)
  (hstop:∀(D:Nat) (c:Code) (W:World),w.heap.size≤D→Jx c W→W.heap[D]? =some (.deferred (some []))→c.wpIn Fence.wide 0 P Q {a with defers:={target:=.collected D,args:=#[]} :: a.defers} W):
  (Code.rangeFunc g ps assign body).wpIn Fence.wide 0 P Q a w:=by
 refine range_outerK (enc:=enc) hg eg hit hps (fun s W=>∃d,l=d++s∧J d s W) Jx
  (fun s x a1 W=>∃G:World→Prop,SteadyM w.heap.size G∧G W∧∀(d:List α) (lp:Nat) (W2:World),w.heap.size+1<W2.heap.size→l=d++s→J d s W2→G W2→body.wpIn (Fence.wide.inRound lp) 0 P (roundEnd (fun W'=>KeepB w.heap.size W2 W'∧J (d++ [x]) (nxL s x) W') (fun c W'=>KeepB w.heap.size W2 W'∧Jx c W')) a1 W2)
  (fun s=>SteadyM.ex fun d=>(SteadyM.pure _ _).and (hJ d s)) hJx (fun _ _ _=>fun W W' row h hg hr=>let ⟨G,h1,h2,h3⟩:=h;⟨G,h1,h1 W W' row h2 hg hr,h3⟩) (fun s W ⟨d,_,h⟩=>hInv d s W h) ⟨[],rfl,h0⟩ ?_ ?_ ?_ hstop
 ·rintro lp s x W hz hok ⟨d,hd,hj⟩;have hs:=okL_cons hok;generalize nxL s x=r at hs⊢;subst hs;refine wpIn_mono (hround lp d x r W hz hd hj) ?_;rintro e a1 W1 he;cases e with
  |normal=>
   obtain⟨h1,h2,G,h4,h5,h3⟩:=he;refine⟨h1,⟨d,hd,h2⟩,⟨G,h4,h5,fun d' lp' W2 hz' hd' hj' hG'=>?_⟩⟩;have:d'=d:=by
    have:=hd'.symm.trans hd;exact List.append_cancel_right this
   subst this;exact h3 lp' W2 hz' hj' hG'
  |_=>exact he.elim
 ·rintro lp s x a1 W hlp ⟨r0,hr0⟩ hok ⟨d,hd,hj⟩ ⟨G,_,hG,hA⟩;refine wpIn_mono (hA d lp W (by have:=(Array.getElem?_eq_some_iff.1 hr0).1;omega) hd hj hG) ?_;rintro e a3 W3 he;cases e with
  |normal=>
   refine⟨he.1,⟨d++ [x],?_,he.2⟩⟩;rw[hd,List.append_assoc]
   congr 1
   exact okL_cons hok
  |ret=>exact he
  |exit id=>exact he
  |goto t=>exact he
  |panic ch=>exact he.elim
  |outgrown=>exact he.elim
 ·rintro D s W hD hf ⟨d,hd,hj⟩ hk;have hf:s= []:=hf;subst hf;rw[List.append_nil] at hd;subst hd;exact hdone D W hD hj hk
end

section
open Go.RowKit
def isVs:Obj→Bool
 | .cells _ t _=>t==120
 |_=>false
def isOw(o:Obj):Bool:=isBk o||isVs o
def OffT(T:World→Nat→Prop)(W W':World):Prop:=∀k,k<W.heap.size→¬T W k→W'.heap[k]? =W.heap[k]?
def SteadyO(B:Nat)(J:World→Prop):Prop:=
 ∀W W' row,J W→W.grownBy W' row→(∀r,row=some r→B≤r∧∃o:Obj,W.heap[r]? =some o∧isOw o=true)→J W'
theorem SteadyO.pure(B:Nat)(p:Prop):SteadyO B (fun _=>p):=fun _ _ _ h _ _=>h
theorem SteadyO.and{B:Nat}{J J':World→Prop}(h:SteadyO B J)(h':SteadyO B J'):SteadyO B (fun W=>J W∧J' W):=
 fun W W' row hj hg hr=>⟨h W W' row hj.1 hg hr,h' W W' row hj.2 hg hr⟩
theorem SteadyO.ex{B:Nat}{α:Sort _}{J:α→World→Prop}(h:∀x,SteadyO B (J x)):SteadyO B (fun W=>∃x,J x W):=
 fun W W' row ⟨x,hj⟩ hg hr=>⟨x,h x W W' row hj hg hr⟩
theorem block_keepO{W W':World}{row:Option Nat}{B k:Nat}{o:Obj}(hk:W.heap[k]? =some o)(ho:isOw o=false)(hg:W.grownBy W' row)
  (hr:∀r,row=some r→B≤r∧∃o:Obj,W.heap[r]? =some o∧isOw o=true):W'.heap[k]? =some o:=by
 refine(hg.block k (Array.getElem?_eq_some_iff.1 hk).1 (fun e=>?_)).trans hk
 obtain⟨_,o',ho',hb⟩:=hr k e.symm
 rw[hk] at ho';cases ho';rw[ho] at hb;cases hb
theorem SteadyO.low{B k:Nat}(hk:k<B)(o:Obj):SteadyO B (fun W=>W.heap[k]? =some o):=fun W W' row h hg hr=>by
 have h:W.heap[k]? =some o:=h
 exact(hg.block k (Array.getElem?_eq_some_iff.1 h).1 (fun e=>by have:=(hr k e.symm).1;omega)).trans h
theorem SteadyO.below{n₀ B:Nat}{w₀:World}(hn:n₀≤w₀.heap.size)(hB:n₀≤B):SteadyO B (fun W=>Below n₀ w₀ W):=
 fun _ _ _ hs hg hr=>hs.grown hg (Nat.le_trans hn hs.size) (fun k e=>Nat.le_trans hB (hr k e).1)
theorem SteadyO.ext{B:Nat}{J:World→Prop}(h:SteadyO B J){W W':World}(hj:J W)(hb:Below W.heap.size W W'):J W':=
 h W W' none hj ⟨hb.os,hb.tape,hb.output,hb.size,fun k hk _=>hb.block k hk⟩ (fun r e=>by cases e)
theorem SteadyO.put{B:Nat}{J:World→Prop}(h:SteadyO B J){W:World}{l:Nat}{o:Obj}(o':Obj)(hj:J W)(hl:B≤l)(ho:W.heap[l]? =some o)(hb:isOw o=true):J (W.putObj l o'):=
 h W _ (some l) hj (grownBy_putObj' W l o') (fun r e=>by cases e;exact⟨hl,o,ho,hb⟩)
def IterO{σ α:Type}(P:Program)(gf:Nat)(lb:Array Value)(enc:α→Array Value)(ok:σ→α→Prop)(nx:σ→α→σ)(s0:σ)(Fin:σ→Prop)(Inv:σ→World→Prop):Prop:=
 ∀(l:Nat) (K:σ→World→Prop) (Kx:World→Prop) (T:World→Nat→Prop) (W0:World),
  (∀s W W' row,K s W→W.grownBy W' row→(∀q,row=some q→W0.heap.size≤q∧∃o:Obj,W.heap[q]? =some o∧isOw o=true)→K s W')→(∀W W' row,Kx W→W.grownBy W' row→(∀q,row=some q→W0.heap.size≤q∧∃o:Obj,W.heap[q]? =some o∧isOw o=true)→Kx W')→(∀s W,K s W→Inv s W)→
  (∀s W k,K s W→T W k→k<W.heap.size)→(∀s W W' row k,K s W→W.grownBy W' row→(∀q,row=some q→W0.heap.size≤q∧∃o:Obj,W.heap[q]? =some o∧isOw o=true)→T W' k→T W k)→
  (∀s x W,ok s x→K s W→YieldAt Fence.wide 0 P l (enc x) W fun e W'=>(e=.returned (.bool true)∧K (nx s x) W'∧Tch T W W')∨(e=.returned (.bool false)∧Kx W'∧OffT T W W'))→
  K s0 W0→CallsIn Fence.wide 0 P gf (#[.func (.yield l) #[] #[]]++lb) W0 fun e W'=>(∃v,e=.returned v)∧((∃s,Fin s∧K s W')∨Kx W')
theorem range_outerO{P:Program}{σ α:Type}{g:Operand}{ps:Array Tmp}{assign body:Code}{Q:Exit→Act→World→Prop}{a:Act}{w:World}{gf:Nat}{lb:Array Value}
  (hg:a.eval g=.func (.func gf) #[] lb) (eg:∀args w,(callFunc gf args).run P w=.ok (.enter gf args) w)
  {enc:α→Array Value} {ok:σ→α→Prop} {nx:σ→α→σ} {s0:σ} {Fin:σ→Prop} {Inv:σ→World→Prop} (hit:IterO P gf lb enc ok nx s0 Fin Inv)
  (hps:∀x,(enc x).size=ps.size)
  (J:σ→World→Prop) (Jx:Code→World→Prop) (A:σ→α→Act→World→Prop)
  (hJ:∀s,SteadyO w.heap.size (J s)) (hJx:∀c,SteadyO w.heap.size (Jx c)) (hA:∀s x a,Steady w.heap.size (A s x a)) (hInv:∀s W,J s W→Inv s W)
  (T:World→Nat→Prop) (hT0:∀s W k,J s W→T W k→k<W.heap.size) (hTg:∀W W' row,W.grownBy W' row→(∀r,row=some r→w.heap.size≤r∧∃o:Obj,W.heap[r]? =some o∧isOw o=true)→(∃s,J s W)→∀k,T W' k→T W k)
  (h0:J s0 w)
  (hassign:∀(l:Nat) (s:σ) (x:α) (W:World),ok s x→J s W→
    assign.wpIn (Fence.wide.inRound l) 0 P (Exit.then (fun a1 W1=>Keep W W1∧J s W1∧A s x a1 W1∧Tch T W W1) (fun _ _ _=>False)) {tmps:=(ps.zip (enc x)).foldl (fun t (p,v)=>t.setIfInBounds p v) a.tmps,defers:= []} W)
  (hbody:∀(l:Nat) (s:σ) (x:α) (a1:Act) (W:World),ok s x→J s W→A s x a1 W→
    body.wpIn (Fence.wide.inRound l) 0 P (roundEnd (fun W'=>Keep W W'∧J (nx s x) W'∧Tch T W W') (fun c W'=>Keep W W'∧Jx c W'∧OffT T W W')) a1 W)
  (hdone:∀(D:Nat) (s:σ) (W:World),w.heap.size≤D→Fin s→J s W→W.heap[D]? =some (.deferred (some []))→Q .normal {a with defers:={target:=.collected D,args:=#[]} :: a.defers} W)
  (hstop:∀(D:Nat) (c:Code) (W:World),w.heap.size≤D→Jx c W→W.heap[D]? =some (.deferred (some []))→c.wpIn Fence.wide 0 P Q {a with defers:={target:=.collected D,args:=#[]} :: a.defers} W):
  (Code.rangeFunc g ps assign body).wpIn Fence.wide 0 P Q a w:=by
 refine wpIn_rangeFunc ?_
 intro fn hfn
 obtain⟨rec,hrec⟩:∃rec:LoopState→Option Code→Loop,rec=fun st pe=>{state:=st,pending:=pe,fn,tmps:=a.tmps,params:=ps,assign,body,defers:=w.heap.size}:=⟨_,rfl⟩
 obtain⟨W1,hW1⟩:∃W1,(w.alloc (.deferred (some []))).alloc (.loop (rec .ready none))=W1:=⟨_,rfl⟩
 have hL1:W1.heap[w.heap.size+1]? =some (.loop (rec .ready none)):=by
  rw[←hW1];have:=World.alloc_heap_new (w.alloc (.deferred (some []))) (.loop (rec .ready none));rwa [World.size_alloc] at this
 have hK1:W1.heap[w.heap.size]? =some (.deferred (some [])):=by
  rw[←hW1];exact(Below.heap_alloc _ _ _ (by simp)).trans (World.alloc_heap_new w _)
 have hb1:Below w.heap.size w W1:=by
  rw[←hW1];exact((Below.refl _ w).alloc (Nat.le_refl _) _).alloc (by simp) _
 have hI1:J s0 W1:=(hJ s0).ext h0 hb1
 have keepE:∀{W W':World} {k:Nat} {o:Obj},W.heap[k]? =some o→Below W.heap.size W W'→W'.heap[k]? =some o:=
  fun hk hb=>(hb.block _ (Array.getElem?_eq_some_iff.1 hk).1).trans hk
 refine⟨w.heap.size+1,[{target:=.collected w.heap.size,args:=#[]}],W1,{target:=.fn (.func gf) lb,args:=#[.func (.yield (w.heap.size+1)) #[] #[]]},W1,gf,
  #[.func (.yield (w.heap.size+1)) #[] #[]]++lb,W1,?_,?_,?_,?_,fun h=>by simp[Fence.wide] at h,?_⟩
 ·rw[←hW1,hrec];exact run_enterLoop_outer _ _ _ _ _
 ·simp only[resolve,hg];simp[go_sem]
 ·intro f' hf';trivial
 ·simp[invoke,go_sem,eg]
 ·refine(hit (w.heap.size+1)
   (fun s W=>J s W∧W.heap[w.heap.size+1]? =some (.loop (rec .ready none))∧W.heap[w.heap.size]? =some (.deferred (some [])))
   (fun W=>∃c,Jx c W∧W.heap[w.heap.size+1]? =some (.loop (rec .done (some c)))∧W.heap[w.heap.size]? =some (.deferred (some [])))
   (fun W k=>T W k∨k=w.heap.size+1∨k=w.heap.size)
   W1 (fun s A B row h hg hr=>by
    have hz:W1.heap.size=w.heap.size+1+1:=by rw[←hW1];simp
    refine⟨hJ s A B row h.1 hg (fun r e=>?_),(hg.block _ (Array.getElem?_eq_some_iff.1 h.2.1).1 (fun e=>?_)).trans h.2.1,(hg.block _ (Array.getElem?_eq_some_iff.1 h.2.2).1 (fun e=>?_)).trans h.2.2⟩
    ·obtain⟨h1,o,h2,h3⟩:=hr r e;exact⟨by omega,o,h2,h3⟩
    ·obtain⟨h1,_⟩:=hr _ e.symm;omega
    ·obtain⟨h1,_⟩:=hr _ e.symm
     omega)
   (fun A B row h hg hr=>by
     have hz:W1.heap.size=w.heap.size+1+1:=by rw[←hW1];simp
     obtain⟨c,h1,h2,h3⟩:=h;refine⟨c,hJx c A B row h1 hg (fun r e=>?_),(hg.block _ (Array.getElem?_eq_some_iff.1 h2).1 (fun e=>?_)).trans h2,(hg.block _ (Array.getElem?_eq_some_iff.1 h3).1 (fun e=>?_)).trans h3⟩
     ·obtain⟨q1,o,q2,q3⟩:=hr r e;exact⟨by omega,o,q2,q3⟩
     ·obtain⟨q1,_⟩:=hr _ e.symm;omega
     ·obtain⟨q1,_⟩:=hr _ e.symm
      omega)
   (fun s W h=>hInv s W h.1)
   (fun s W k h ht=>by
     rcases ht with ht|rfl|rfl
     ·exact hT0 s W k h.1 ht
     ·exact(Array.getElem?_eq_some_iff.1 h.2.1).1
     ·exact(Array.getElem?_eq_some_iff.1 h.2.2).1)
   (fun s A B row k h hg hr ht=>by
     have hz:W1.heap.size=w.heap.size+1+1:=by rw[←hW1];simp
     rcases ht with ht|ht
     ·exact .inl (hTg A B row hg (fun r e=>by
       obtain⟨h1,o,h2,h3⟩:=hr r e
       exact⟨by omega,o,h2,h3⟩) ⟨s,h.1⟩ k ht)
     ·exact .inr ht)
   ?_ ⟨hI1,hL1,hK1⟩).mono ?_
  ·rintro s x W hok ⟨hi,hl,hk⟩;have hy:=run_yield (P:=P) (args:=enc x) hl (by rw[hrec];exact hps x);rw[hrec] at hy;refine⟨fn,_,assign,body,hy,roundIn_of_wpIn hfn (wpIn_mono (hassign _ s x W hok hi) ?_)⟩;rintro e a1 V hp;cases e with
   |normal=>
    obtain⟨hkp,hiV,hAV,hTV⟩:=hp;have hlV:=hkp _ _ hl rfl;have hkV:=hkp _ _ hk rfl;have hlt:w.heap.size+1<V.heap.size:=(Array.getElem?_eq_some_iff.1 hlV).1;refine⟨_,run_beginRound hlV (by rw[hrec]),?_⟩;have hl2:(V.putObj (w.heap.size+1) (.loop {rec .ready none with state:=.busy})).heap[w.heap.size+1]? =some (.loop {rec .ready none with state:=.busy}):=World.putObj_heap_same hlt;have hk2:(V.putObj (w.heap.size+1) (.loop {rec .ready none with state:=.busy})).heap[w.heap.size]? =some (.deferred (some [])):=(World.putObj_heap_other (by omega)).trans hkV;refine wpIn_mono (hbody _ s x a1 _ hok ((hJ s).put _ hiV (by omega) hlV rfl) ((hA s x a1).put _ hAV (by omega) hlV rfl)) ?_
    have fin:∀(jump:Option Code) (W3:World),Keep (V.putObj (w.heap.size+1) (.loop {rec .ready none with state:=.busy})) W3→
      (Instr.endRound (w.heap.size+1) jump).run P W3=.ok (.bool jump.isNone) (W3.putObj (w.heap.size+1) (.loop (rec (if jump.isNone then .ready else .done) jump)))∧
      W3.heap[w.heap.size+1]? =some (.loop {rec .ready none with state:=.busy})∧
      (W3.putObj (w.heap.size+1) (.loop (rec (if jump.isNone then .ready else .done) jump))).heap[w.heap.size+1]? =some (.loop (rec (if jump.isNone then .ready else .done) jump))∧
      (W3.putObj (w.heap.size+1) (.loop (rec (if jump.isNone then .ready else .done) jump))).heap[w.heap.size]? =some (.deferred (some [])):=fun jump W3 hk3=>by
     have hl3:=hk3 _ _ hl2 rfl;have:=run_endRound (P:=P) jump hl3;rw[hrec] at this⊢;exact⟨this,by rw[hrec] at hl3;exact hl3,World.putObj_heap_same (Array.getElem?_eq_some_iff.1 hl3).1,(World.putObj_heap_other (by omega)).trans (hk3 _ _ hk2 rfl)⟩
    rintro e a3 W3 hp;cases e with
    |normal=>
     obtain⟨hk3,hi3,hT3⟩:=hp;obtain⟨hr,hl3,hl4,hk4⟩:=fin none W3 hk3;refine⟨_,_,hr,.inl ⟨rfl,⟨(hJ _).put _ hi3 (by omega) hl3 rfl,hl4,hk4⟩,?_⟩⟩;have g1:=grown_put V (w.heap.size+1) (.loop {rec .ready none with state:=.busy});have g2:=grown_put W3 (w.heap.size+1) (.loop (rec (if (none:Option Code).isNone then .ready else .done) none));have t1:∀k,T (V.putObj (w.heap.size+1) (.loop {rec .ready none with state:=.busy})) k→T V k:=hTg _ _ _ g1 (fun r hr=>by cases hr;exact⟨by omega,_,hlV,rfl⟩) ⟨s,hiV⟩;have t2:∀k,T (W3.putObj (w.heap.size+1) (.loop (rec (if (none:Option Code).isNone then .ready else .done) none))) k→T W3 k:=hTg _ _ _ g2 (fun r hr=>by cases hr;exact⟨by omega,_,hl3,rfl⟩) ⟨_,hi3⟩;have z1:(V.putObj (w.heap.size+1) (.loop {rec .ready none with state:=.busy})).heap.size=V.heap.size:=by simp
     have z2:(W3.putObj (w.heap.size+1) (.loop (rec (if (none:Option Code).isNone then .ready else .done) none))).heap.size=W3.heap.size:=by simp
     have s1:=hTV.1;have s3:=hT3.1;rw[z1] at s3;refine⟨by rw[z2];omega,fun k hk hn=>?_,fun k hk=>?_⟩
     ·have n1:k≠w.heap.size+1:=fun e=>hn (.inr (.inl e));have n0:¬T W k:=fun e=>hn (.inl e);have m1:¬T V k:=fun e=>(hTV.2.2 k e).elim n0 (by omega);have m2:=fun e=>m1 (t1 k e);rw[World.putObj_heap_other n1,hT3.2.1 k (by rw[z1];omega) m2,World.putObj_heap_other n1,hTV.2.1 k hk n0]
     ·rcases hk with hk|hk
      ·rcases hT3.2.2 k (t2 k hk) with h|h
       ·rcases hTV.2.2 k (t1 k h) with h|h
        ·exact .inl (.inl h)
        ·exact .inr h
       ·rw[z1] at h;exact .inr (by omega)
      ·exact .inl (.inr hk)
    |ret=>
     obtain⟨hk3,hi3,hT3⟩:=hp;obtain⟨hr,hl3,hl4,hk4⟩:=fin (some (.ret)) W3 hk3;have g1:=grown_put V (w.heap.size+1) (.loop {rec .ready none with state:=.busy});have t1:∀k,T (V.putObj (w.heap.size+1) (.loop {rec .ready none with state:=.busy})) k→T V k:=hTg _ _ _ g1 (fun r hr=>by cases hr;exact⟨by omega,_,hlV,rfl⟩) ⟨s,hiV⟩;have z1:(V.putObj (w.heap.size+1) (.loop {rec .ready none with state:=.busy})).heap.size=V.heap.size:=by simp
     have s1:=hTV.1;refine⟨_,_,hr,.inr ⟨rfl,⟨.ret,(hJx _).put _ hi3 (by omega) hl3 rfl,hl4,hk4⟩,fun k hk hn=>?_⟩⟩;have n1:k≠w.heap.size+1:=fun e=>hn (.inr (.inl e));have n0:¬T W k:=fun e=>hn (.inl e);have m1:¬T V k:=fun e=>(hTV.2.2 k e).elim n0 (by omega);have m2:=fun e=>m1 (t1 k e);rw[World.putObj_heap_other n1,hT3 k (by rw[z1];omega) m2,World.putObj_heap_other n1,hTV.2.1 k hk n0]
    |exit id=>
     obtain⟨hk3,hi3,hT3⟩:=hp;obtain⟨hr,hl3,hl4,hk4⟩:=fin (some (.exit id)) W3 hk3;have g1:=grown_put V (w.heap.size+1) (.loop {rec .ready none with state:=.busy});have t1:∀k,T (V.putObj (w.heap.size+1) (.loop {rec .ready none with state:=.busy})) k→T V k:=hTg _ _ _ g1 (fun r hr=>by cases hr;exact⟨by omega,_,hlV,rfl⟩) ⟨s,hiV⟩;have z1:(V.putObj (w.heap.size+1) (.loop {rec .ready none with state:=.busy})).heap.size=V.heap.size:=by simp
     have s1:=hTV.1;refine⟨_,_,hr,.inr ⟨rfl,⟨.exit id,(hJx _).put _ hi3 (by omega) hl3 rfl,hl4,hk4⟩,fun k hk hn=>?_⟩⟩;have n1:k≠w.heap.size+1:=fun e=>hn (.inr (.inl e));have n0:¬T W k:=fun e=>hn (.inl e);have m1:¬T V k:=fun e=>(hTV.2.2 k e).elim n0 (by omega);have m2:=fun e=>m1 (t1 k e);rw[World.putObj_heap_other n1,hT3 k (by rw[z1];omega) m2,World.putObj_heap_other n1,hTV.2.1 k hk n0]
    |goto t=>
     obtain⟨hk3,hi3,hT3⟩:=hp;obtain⟨hr,hl3,hl4,hk4⟩:=fin (some (.goto t)) W3 hk3;have g1:=grown_put V (w.heap.size+1) (.loop {rec .ready none with state:=.busy});have t1:∀k,T (V.putObj (w.heap.size+1) (.loop {rec .ready none with state:=.busy})) k→T V k:=hTg _ _ _ g1 (fun r hr=>by cases hr;exact⟨by omega,_,hlV,rfl⟩) ⟨s,hiV⟩;have z1:(V.putObj (w.heap.size+1) (.loop {rec .ready none with state:=.busy})).heap.size=V.heap.size:=by simp
     have s1:=hTV.1;refine⟨_,_,hr,.inr ⟨rfl,⟨.goto t,(hJx _).put _ hi3 (by omega) hl3 rfl,hl4,hk4⟩,fun k hk hn=>?_⟩⟩;have n1:k≠w.heap.size+1:=fun e=>hn (.inr (.inl e));have n0:¬T W k:=fun e=>hn (.inl e);have m1:¬T V k:=fun e=>(hTV.2.2 k e).elim n0 (by omega);have m2:=fun e=>m1 (t1 k e);rw[World.putObj_heap_other n1,hT3 k (by rw[z1];omega) m2,World.putObj_heap_other n1,hTV.2.1 k hk n0]
    |panic ch=>exact hp.elim
    |outgrown=>exact hp.elim
   |exit id=>exact hp.elim
   |goto t=>exact hp.elim
   |ret=>exact hp.elim
   |panic chain=>exact hp.elim
   |outgrown=>exact hp.elim
  ·rintro e W2 ⟨⟨v,rfl⟩,(⟨s,hS,hi,hl,hk⟩|⟨c,hi,hl,hk⟩)⟩
   ·exact⟨none,_,by have:=run_endLoop (P:=P) hl (by rw[hrec];simp);rw[hrec] at this;exact this,hdone _ s _ (Nat.le_refl _) hS ((hJ s).put _ hi (by omega) hl rfl) ((World.putObj_heap_other (by omega)).trans hk)⟩
   ·exact⟨some c,_,by have:=run_endLoop (P:=P) hl (by rw[hrec];simp);rw[hrec] at this;exact this,hstop _ c _ (Nat.le_refl _) ((hJx c).put _ hi (by omega) hl rfl) ((World.putObj_heap_other (by omega)).trans hk)⟩
def IterOI{α:Type}(P:Program)(gf:Nat)(lb:Array Value)(enc:α→Array Value)(l:List α)(I:World→Prop):Prop:=
 IterO P gf lb enc okL nxL l finL (fun _ W=>I W)
section
variable {P:Program}
theorem range_listO{α:Type}{g:Operand}{ps:Array Tmp}{assign body:Code}{Q:Exit→Act→World→Prop}{a:Act}{w:World}{gf:Nat}{lb:Array Value}
  (hg:a.eval g=.func (.func gf) #[] lb) (eg:∀args w,(callFunc gf args).run P w=.ok (.enter gf args) w)
  {enc:α→Array Value} {l:List α} (I:World→Prop) (hit:IterOI P gf lb enc l I) (hps:∀x,(enc x).size=ps.size)
  (J:List α→List α→World→Prop) (Jx:Code→World→Prop)
  (hJ:∀d r,SteadyO w.heap.size (J d r)) (hJx:∀c,SteadyO w.heap.size (Jx c)) (hInv:∀d r W,J d r W→I W)
  (T:World→Nat→Prop) (hT0:∀d r W k,J d r W→T W k→k<W.heap.size) (hTg:∀W W' row,W.grownBy W' row→(∀q,row=some q→w.heap.size≤q∧∃o:Obj,W.heap[q]? =some o∧isOw o=true)→(∃d r,J d r W)→∀k,T W' k→T W k)
  (h0:J [] l w)
  (hround:∀(lp:Nat) (d:List α) (x:α) (r:List α) (W:World),l=d++x :: r→J d (x :: r) W→
    assign.wpIn (Fence.wide.inRound lp) 0 P (Exit.then (fun a1 W1=>Keep W W1∧J d (x :: r) W1∧Tch T W W1∧∃G:World→Prop,Steady w.heap.size G∧G W1∧∀(lp:Nat) (W2:World),J d (x :: r) W2→G W2→
     body.wpIn (Fence.wide.inRound lp) 0 P (roundEnd (fun W'=>Keep W2 W'∧J (d++ [x]) r W'∧Tch T W2 W') (fun c W'=>Keep W2 W'∧Jx c W'∧OffT T W2 W')) a1 W2) (fun _ _ _=>False)) {tmps:=(ps.zip (enc x)).foldl (fun t (p,v)=>t.setIfInBounds p v) a.tmps,defers:= []} W)
  (hdone:∀(D:Nat) (W:World),w.heap.size≤D→J l [] W→W.heap[D]? =some (.deferred (some []))→Q .normal {a with defers:={target:=.collected D,args:=#[]} :: a.defers} W)
  (hstop:∀(D:Nat) (c:Code) (W:World),w.heap.size≤D→Jx c W→W.heap[D]? =some (.deferred (some []))→c.wpIn Fence.wide 0 P Q {a with defers:={target:=.collected D,args:=#[]} :: a.defers} W):
  (Code.rangeFunc g ps assign body).wpIn Fence.wide 0 P Q a w:=by
 refine range_outerO (enc:=enc) hg eg hit hps (fun s W=>∃d,l=d++s∧J d s W) Jx
  (fun s x a1 W=>∃G:World→Prop,Steady w.heap.size G∧G W∧∀(d:List α) (lp:Nat) (W2:World),l=d++s→J d s W2→G W2→body.wpIn (Fence.wide.inRound lp) 0 P (roundEnd (fun W'=>Keep W2 W'∧J (d++ [x]) (nxL s x) W'∧Tch T W2 W') (fun c W'=>Keep W2 W'∧Jx c W'∧OffT T W2 W')) a1 W2)
  (fun s=>SteadyO.ex fun d=>(SteadyO.pure _ _).and (hJ d s)) hJx (fun _ _ _=>fun W W' row h hg hr=>let ⟨G,h1,h2,h3⟩:=h;⟨G,h1,h1 W W' row h2 hg hr,h3⟩) (fun s W ⟨d,_,h⟩=>hInv d s W h) T (fun s W k ⟨d,_,h⟩ ht=>hT0 d s W k h ht) (fun W W' row hg hr ⟨s,d,_,h⟩=>hTg W W' row hg hr ⟨d,s,h⟩) ⟨[],rfl,h0⟩ ?_ ?_ ?_ hstop
 ·rintro lp s x W hok ⟨d,hd,hj⟩;have hs:=okL_cons hok;generalize nxL s x=r at hs⊢;subst hs;refine wpIn_mono (hround lp d x r W hd hj) ?_;rintro e a1 W1 he;cases e with
  |normal=>
   obtain⟨h1,h2,hT1,G,h4,h5,h3⟩:=he;refine⟨h1,⟨d,hd,h2⟩,⟨G,h4,h5,fun d' lp' W2 hd' hj' hG'=>?_⟩,hT1⟩;have:d'=d:=by
    have:=hd'.symm.trans hd;exact List.append_cancel_right this
   subst this;exact h3 lp' W2 hj' hG'
  |_=>exact he.elim
 ·rintro lp s x a1 W hok ⟨d,hd,hj⟩ ⟨G,_,hG,hA⟩;refine wpIn_mono (hA d lp W hd hj hG) ?_;rintro e a3 W3 he;cases e with
  |normal=>
   refine⟨he.1,⟨d++ [x],?_,he.2.1⟩,he.2.2⟩;rw[hd,List.append_assoc]
   congr 1
   exact okL_cons hok
  |ret=>exact he
  |exit id=>exact he
  |goto t=>exact he
  |panic ch=>exact he.elim
  |outgrown=>exact he.elim
 ·rintro D s W hD hf ⟨d,hd,hj⟩ hk;have hf:s= []:=hf;subst hf;rw[List.append_nil] at hd;subst hd;exact hdone D W hD hj hk
end
theorem range_innerO{P:Program}{σ α:Type}{g:Operand}{ps:Array Tmp}{assign body:Code}{Q:Exit→Act→World→Prop}{a:Act}{w:World}{l0:Nat}{r0:Loop}(hl0:w.heap[l0]? =some (.loop r0)){gf:Nat}{lb:Array Value}
  (hg:a.eval g=.func (.func gf) #[] lb) (eg:∀args w,(callFunc gf args).run P w=.ok (.enter gf args) w)
  {enc:α→Array Value} {ok:σ→α→Prop} {nx:σ→α→σ} {s0:σ} {Fin:σ→Prop} {Inv:σ→World→Prop} (hit:IterO P gf lb enc ok nx s0 Fin Inv)
  (hps:∀x,(enc x).size=ps.size)
  (J:σ→World→Prop) (Jx:Code→World→Prop) (A:σ→α→Act→World→Prop)
  (hJ:∀s,SteadyO w.heap.size (J s)) (hJx:∀c,SteadyO w.heap.size (Jx c)) (hA:∀s x a,Steady w.heap.size (A s x a)) (hInv:∀s W,J s W→Inv s W)
  (T:World→Nat→Prop) (hT0:∀s W k,J s W→T W k→k<W.heap.size) (hTg:∀W W' row,W.grownBy W' row→(∀r,row=some r→w.heap.size≤r∧∃o:Obj,W.heap[r]? =some o∧isOw o=true)→(∃s,J s W)→∀k,T W' k→T W k)
  (h0:J s0 w)
  (hassign:∀(l:Nat) (s:σ) (x:α) (W:World),ok s x→J s W→
    assign.wpIn (Fence.wide.inRound l) 0 P (Exit.then (fun a1 W1=>Keep W W1∧J s W1∧A s x a1 W1∧Tch T W W1) (fun _ _ _=>False)) {tmps:=(ps.zip (enc x)).foldl (fun t (p,v)=>t.setIfInBounds p v) a.tmps,defers:= []} W)
  (hbody:∀(l:Nat) (s:σ) (x:α) (a1:Act) (W:World),w.heap.size≤l→(∃r,W.heap[l]? =some (.loop r))→ok s x→J s W→A s x a1 W→
    body.wpIn (Fence.wide.inRound l) 0 P (roundEnd (fun W'=>Keep W W'∧J (nx s x) W'∧Tch T W W') (fun c W'=>Keep W W'∧Jx c W'∧OffT T W W')) a1 W)
  (hdone:∀(s:σ) (W:World),Fin s→J s W→Q .normal a W)
  (hstop:∀(c:Code) (W:World),Jx c W→c.wpIn (Fence.wide.inRound l0) 0 P Q a W):
  (Code.rangeFunc g ps assign body).wpIn (Fence.wide.inRound l0) 0 P Q a w:=by
 refine wpIn_rangeFunc ?_
 intro fn hfn
 obtain⟨rec,hrec⟩:∃rec:LoopState→Option Code→Loop,rec=fun st pe=>{state:=st,pending:=pe,fn,tmps:=a.tmps,params:=ps,assign,body,defers:=r0.defers}:=⟨_,rfl⟩
 obtain⟨W1,hW1⟩:∃W1,w.alloc (.loop (rec .ready none))=W1:=⟨_,rfl⟩
 have hL1:W1.heap[w.heap.size]? =some (.loop (rec .ready none)):=by rw[←hW1];exact World.alloc_heap_new w _
 have hb1:Below w.heap.size w W1:=by rw[←hW1];exact(Below.refl _ w).alloc (Nat.le_refl _) _
 have hI1:J s0 W1:=(hJ s0).ext h0 hb1
 have keepE:∀{W W':World} {k:Nat} {o:Obj},W.heap[k]? =some o→Below W.heap.size W W'→W'.heap[k]? =some o:=
  fun hk hb=>(hb.block _ (Array.getElem?_eq_some_iff.1 hk).1).trans hk
 refine⟨w.heap.size,[],W1,{target:=.fn (.func gf) lb,args:=#[.func (.yield w.heap.size) #[] #[]]},W1,gf,
  #[.func (.yield w.heap.size) #[] #[]]++lb,W1,?_,?_,?_,?_,fun h=>by simp[Fence.wide] at h,?_⟩
 ·rw[←hW1,hrec];exact run_enterLoop_inner hl0 _ _ _ _ _
 ·simp only[resolve,hg];simp[go_sem]
 ·intro f' hf';trivial
 ·simp[invoke,go_sem,eg]
 ·refine CallsIn.mono (hit w.heap.size
   (fun s W=>J s W∧W.heap[w.heap.size]? =some (.loop (rec .ready none)))
   (fun W=>∃c,Jx c W∧W.heap[w.heap.size]? =some (.loop (rec .done (some c))))
   (fun W k=>T W k∨k=w.heap.size)
   W1 (fun s A B row h hg hr=>by
    have hz:W1.heap.size=w.heap.size+1:=by rw[←hW1];simp
    refine⟨hJ s A B row h.1 hg (fun r e=>?_),(hg.block _ (Array.getElem?_eq_some_iff.1 h.2).1 (fun e=>?_)).trans h.2⟩
    ·obtain⟨h1,o,h2,h3⟩:=hr r e;exact⟨by omega,o,h2,h3⟩
    ·obtain⟨h1,_⟩:=hr _ e.symm
     omega)
   (fun A B row h hg hr=>by
     have hz:W1.heap.size=w.heap.size+1:=by rw[←hW1];simp
     obtain⟨c,h1,h2⟩:=h;refine⟨c,hJx c A B row h1 hg (fun r e=>?_),(hg.block _ (Array.getElem?_eq_some_iff.1 h2).1 (fun e=>?_)).trans h2⟩
     ·obtain⟨q1,o,q2,q3⟩:=hr r e;exact⟨by omega,o,q2,q3⟩
     ·obtain⟨q1,_⟩:=hr _ e.symm
      omega)
   (fun s W h=>hInv s W h.1)
   (fun s W k h ht=>by
     rcases ht with ht|rfl
     ·exact hT0 s W k h.1 ht
     ·exact(Array.getElem?_eq_some_iff.1 h.2).1)
   (fun s A B row k h hg hr ht=>by
     have hz:W1.heap.size=w.heap.size+1:=by rw[←hW1];simp
     rcases ht with ht|ht
     ·exact .inl (hTg A B row hg (fun r e=>by
       obtain⟨h1,o,h2,h3⟩:=hr r e
       exact⟨by omega,o,h2,h3⟩) ⟨s,h.1⟩ k ht)
     ·exact .inr ht) ?_ ⟨hI1,hL1⟩) ?_
  ·rintro s x W hok ⟨hi,hl⟩;have hy:=run_yield (P:=P) (args:=enc x) hl (by rw[hrec];exact hps x);rw[hrec] at hy;refine⟨fn,_,assign,body,hy,roundIn_of_wpIn (F:=Fence.wide) hfn (wpIn_mono (hassign _ s x W hok hi) ?_)⟩;rintro e a1 V hp;cases e with
   |normal=>
    obtain⟨hkp,hiV,hAV,hTV⟩:=hp;have hlV:=hkp _ _ hl rfl;have hlt:w.heap.size<V.heap.size:=(Array.getElem?_eq_some_iff.1 hlV).1;refine⟨_,run_beginRound hlV (by rw[hrec]),?_⟩;have hl2:(V.putObj w.heap.size (.loop {rec .ready none with state:=.busy})).heap[w.heap.size]? =some (.loop {rec .ready none with state:=.busy}):=World.putObj_heap_same hlt;refine wpIn_mono (hbody _ s x a1 _ (Nat.le_refl _) ⟨_,hl2⟩ hok ((hJ s).put _ hiV (Nat.le_refl _) hlV rfl) ((hA s x a1).put _ hAV (Nat.le_refl _) hlV rfl)) ?_
    have fin:∀(jump:Option Code) (W3:World),Keep (V.putObj w.heap.size (.loop {rec .ready none with state:=.busy})) W3→
      (Instr.endRound w.heap.size jump).run P W3=.ok (.bool jump.isNone) (W3.putObj w.heap.size (.loop (rec (if jump.isNone then .ready else .done) jump)))∧
      W3.heap[w.heap.size]? =some (.loop {rec .ready none with state:=.busy})∧
      (W3.putObj w.heap.size (.loop (rec (if jump.isNone then .ready else .done) jump))).heap[w.heap.size]? =some (.loop (rec (if jump.isNone then .ready else .done) jump)):=fun jump W3 hk3=>by
     have hl3:=hk3 _ _ hl2 rfl;have:=run_endRound (P:=P) jump hl3;rw[hrec] at this⊢;exact⟨this,by rw[hrec] at hl3;exact hl3,World.putObj_heap_same (Array.getElem?_eq_some_iff.1 hl3).1⟩
    rintro e a3 W3 hp;cases e with
    |normal=>
     obtain⟨hk3,hi3,hT3⟩:=hp;obtain⟨hr,hl3,hl4⟩:=fin none W3 hk3;refine⟨_,_,hr,.inl ⟨rfl,⟨(hJ _).put _ hi3 (Nat.le_refl _) hl3 rfl,hl4⟩,?_⟩⟩;have g1:=grown_put V w.heap.size (.loop {rec .ready none with state:=.busy});have g2:=grown_put W3 w.heap.size (.loop (rec (if (none:Option Code).isNone then .ready else .done) none));have t1:∀k,T (V.putObj w.heap.size (.loop {rec .ready none with state:=.busy})) k→T V k:=hTg _ _ _ g1 (fun r hr=>by cases hr;exact⟨Nat.le_refl _,_,hlV,rfl⟩) ⟨s,hiV⟩;have t2:∀k,T (W3.putObj w.heap.size (.loop (rec (if (none:Option Code).isNone then .ready else .done) none))) k→T W3 k:=hTg _ _ _ g2 (fun r hr=>by cases hr;exact⟨Nat.le_refl _,_,hl3,rfl⟩) ⟨_,hi3⟩;have z1:(V.putObj w.heap.size (.loop {rec .ready none with state:=.busy})).heap.size=V.heap.size:=by simp
     have z2:(W3.putObj w.heap.size (.loop (rec (if (none:Option Code).isNone then .ready else .done) none))).heap.size=W3.heap.size:=by simp
     have s1:=hTV.1;have s3:=hT3.1;rw[z1] at s3;refine⟨by rw[z2];omega,fun k hk hn=>?_,fun k hk=>?_⟩
     ·have n1:k≠w.heap.size:=fun e=>hn (.inr e);have n0:¬T W k:=fun e=>hn (.inl e);have m1:¬T V k:=fun e=>(hTV.2.2 k e).elim n0 (by omega);have m2:=fun e=>m1 (t1 k e);rw[World.putObj_heap_other n1,hT3.2.1 k (by rw[z1];omega) m2,World.putObj_heap_other n1,hTV.2.1 k hk n0]
     ·rcases hk with hk|hk
      ·rcases hT3.2.2 k (t2 k hk) with h|h
       ·rcases hTV.2.2 k (t1 k h) with h|h
        ·exact .inl (.inl h)
        ·exact .inr h
       ·rw[z1] at h;exact .inr (by omega)
      ·exact .inl (.inr hk)
    |ret=>
     obtain⟨hk3,hi3,hT3⟩:=hp;obtain⟨hr,hl3,hl4⟩:=fin (some (.ret)) W3 hk3;have g1:=grown_put V (w.heap.size) (.loop {rec .ready none with state:=.busy});have t1:∀k,T (V.putObj (w.heap.size) (.loop {rec .ready none with state:=.busy})) k→T V k:=hTg _ _ _ g1 (fun r hr=>by cases hr;exact⟨by omega,_,hlV,rfl⟩) ⟨s,hiV⟩;have z1:(V.putObj (w.heap.size) (.loop {rec .ready none with state:=.busy})).heap.size=V.heap.size:=by simp
     have s1:=hTV.1;refine⟨_,_,hr,.inr ⟨rfl,⟨.ret,(hJx _).put _ hi3 (Nat.le_refl _) hl3 rfl,hl4⟩,fun k hk hn=>?_⟩⟩;have n1:k≠w.heap.size:=fun e=>hn (.inr e);have n0:¬T W k:=fun e=>hn (.inl e);have m1:¬T V k:=fun e=>(hTV.2.2 k e).elim n0 (by omega);have m2:=fun e=>m1 (t1 k e);rw[World.putObj_heap_other n1,hT3 k (by rw[z1];omega) m2,World.putObj_heap_other n1,hTV.2.1 k hk n0]
    |exit id=>
     obtain⟨hk3,hi3,hT3⟩:=hp;obtain⟨hr,hl3,hl4⟩:=fin (some (.exit id)) W3 hk3;have g1:=grown_put V (w.heap.size) (.loop {rec .ready none with state:=.busy});have t1:∀k,T (V.putObj (w.heap.size) (.loop {rec .ready none with state:=.busy})) k→T V k:=hTg _ _ _ g1 (fun r hr=>by cases hr;exact⟨by omega,_,hlV,rfl⟩) ⟨s,hiV⟩;have z1:(V.putObj (w.heap.size) (.loop {rec .ready none with state:=.busy})).heap.size=V.heap.size:=by simp
     have s1:=hTV.1;refine⟨_,_,hr,.inr ⟨rfl,⟨.exit id,(hJx _).put _ hi3 (Nat.le_refl _) hl3 rfl,hl4⟩,fun k hk hn=>?_⟩⟩;have n1:k≠w.heap.size:=fun e=>hn (.inr e);have n0:¬T W k:=fun e=>hn (.inl e);have m1:¬T V k:=fun e=>(hTV.2.2 k e).elim n0 (by omega);have m2:=fun e=>m1 (t1 k e);rw[World.putObj_heap_other n1,hT3 k (by rw[z1];omega) m2,World.putObj_heap_other n1,hTV.2.1 k hk n0]
    |goto t=>
     obtain⟨hk3,hi3,hT3⟩:=hp;obtain⟨hr,hl3,hl4⟩:=fin (some (.goto t)) W3 hk3;have g1:=grown_put V (w.heap.size) (.loop {rec .ready none with state:=.busy});have t1:∀k,T (V.putObj (w.heap.size) (.loop {rec .ready none with state:=.busy})) k→T V k:=hTg _ _ _ g1 (fun r hr=>by cases hr;exact⟨by omega,_,hlV,rfl⟩) ⟨s,hiV⟩;have z1:(V.putObj (w.heap.size) (.loop {rec .ready none with state:=.busy})).heap.size=V.heap.size:=by simp
     have s1:=hTV.1;refine⟨_,_,hr,.inr ⟨rfl,⟨.goto t,(hJx _).put _ hi3 (Nat.le_refl _) hl3 rfl,hl4⟩,fun k hk hn=>?_⟩⟩;have n1:k≠w.heap.size:=fun e=>hn (.inr e);have n0:¬T W k:=fun e=>hn (.inl e);have m1:¬T V k:=fun e=>(hTV.2.2 k e).elim n0 (by omega);have m2:=fun e=>m1 (t1 k e);rw[World.putObj_heap_other n1,hT3 k (by rw[z1];omega) m2,World.putObj_heap_other n1,hTV.2.1 k hk n0]
    |panic ch=>exact hp.elim
    |outgrown=>exact hp.elim
   |exit id=>exact hp.elim
   |goto t=>exact hp.elim
   |ret=>exact hp.elim
   |panic chain=>exact hp.elim
   |outgrown=>exact hp.elim
  ·rintro e W2 ⟨⟨v,rfl⟩,(⟨s,hS,hi,hl⟩|⟨c,hi,hl⟩)⟩
   ·exact⟨none,_,by have:=run_endLoop (P:=P) hl (by rw[hrec];simp);rw[hrec] at this;exact this,hdone s _ hS ((hJ s).put _ hi (Nat.le_refl _) hl rfl)⟩
   ·exact⟨some c,_,by have:=run_endLoop (P:=P) hl (by rw[hrec];simp);rw[hrec] at this;exact this,hstop c _ ((hJx c).put _ hi (Nat.le_refl _) hl rfl)⟩
end
end Go.Proofs.YtnmkjliioogbgaaGreatDoor
