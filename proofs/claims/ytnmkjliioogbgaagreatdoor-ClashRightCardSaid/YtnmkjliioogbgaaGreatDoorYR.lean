/-
 clash.over:a mesh over what is live.
-/
import Derived.Test.YtnmkjliioogbgaaGreatDoorRangeO
import Derived.Test.YtnmkjliioogbgaaGreatDoorVN
import Derived.Test.YtnmkjliioogbgaaGreatDoorUHA
import Derived.Test.YtnmkjliioogbgaaGreatDoorInsR
import Derived.Test.YtnmkjliioogbgaaGreatDoorED
import Derived.Test.YtnmkjliioogbgaaGreatDoorSB
import Derived.Shelf.Small.Bits
namespace Go.Proofs.YtnmkjliioogbgaaGreatDoor
set_option linter.unusedSimpArgs false
set_option linter.unusedVariables false
set_option linter.unusedSectionVars false
set_option maxRecDepth 100000
set_option maxHeartbeats 40000000
section
open Go.RowKit Go.Shelf
attribute [local go_sem] Oper.semAt_some wide_fn wide_depth wide_fnR wide_depthR
abbrev meshH(n:Nat)(h:LiveH)(B:Nat):Obj:=meshO (.slice h.ia n h.ic) (.slice h.oa n h.oc) (.slice h.ta n h.tc) B
theorem meshOver_any(pa:Option Addr)(pn pc:Nat)(ps:List Int)(ba:Option Addr)(bn bc:Nat)(bs:List BlkR)(w:World)(hp:Ints w pa pn ps)(h:BlksR w ba bn bs)(hT:Tab w)(hR:rightE ps bs=0):
  Calls Tryz.prog 25 #[funcV pa pn pc ba bn bc] w fun e w'=>∃(hl:LiveH) (M B:Nat),e=.returned (.tuple #[.pointer (some ⟨M,0,none⟩),.int .i64 0])∧w'.heap[M]? =some (meshH bs.length hl B)∧PHas w' B (fun _=>False)∧LiveR w' (bksL bs) bs.length hl∧w.heap.size≤M∧w.heap.size≤B∧Below w.heap.size w w':=by
 have HP:=Lib.hid hp
 have HB:=Lib.hid h
 have HT:=Lib.hid hT
 have HR:=Lib.hid hR
 clear hp h hT hR
 go_enter Tryz.func25,Tryz.ntmps25
 have hmm:= @run_makeMap Tryz.prog
 go_upto_region 1 with (fail)
 obtain⟨W,hW⟩:∃W,W=w.alloc (.cells #[.slice pa pn pc,.slice ba bn bc] 40):=⟨_,rfl⟩
 rw[←hW]
 have HBW:Hid (Below w.heap.size w W):=by rw[hW];exact ext_alloc _ _
 have h1:W.heap[w.heap.size]? =some (.cells #[.slice pa pn pc,.slice ba bn bc] 40 (0,0)):=by rw[hW];exact heap_alloc_new _ _
 have x0:W.cell? ⟨w.heap.size,0,none⟩=some (.slice pa pn pc):=by rw[cell_of_row _ _ _ _ _ _ h1];rfl
 have x1:W.cell? ⟨w.heap.size,1,none⟩=some (.slice ba bn bc):=by rw[cell_of_row _ _ _ _ _ _ h1];rfl
 clear hW h1
 go_wp2_with (
  (go_at_call 34
   refine(liveOf_any pa pn pc ps ba bn bc bs W (HP.out.ext HBW.out) (HB.out.ext HBW.out) (Tab.ext HT.out HBW.out)).mono ?_;rintro e w1 ⟨he,hb⟩;have HB1:=Lib.hid (ext_trans HBW.out hb);rcases he with ⟨h1,_⟩|⟨hr0,hl,he,hlr⟩
   ·exact absurd HR.out h1
   rw[he];have HLR:=Lib.hid hlr
   clear hb he hlr hr0))
 refine bodyPost_ret (v:=.tuple #[.pointer (some ⟨w1.heap.size+1+1,0,none⟩),.int .i64 0]) (by simp[results,Tryz.results25,go_sem]) rfl ?_
 have hb3:∀o1 o2 o3:Obj,Below w1.heap.size w1 (((w1.alloc o1).alloc o2).alloc o3):=fun o1 o2 o3=>ext_trans (ext_trans (ext_alloc _ _) (ext_alloc _ _)) (ext_alloc _ _)
 have hs1:=HB1.out.size
 refine⟨hl,w1.heap.size+1+1,w1.heap.size+1,rfl,heap_at _ _ _ (by simp),?_,HLR.out.ext (hb3 _ _ _),by omega,by omega,ext_trans HB1.out (hb3 _ _ _)⟩
 have h1:∀o1:Obj,PHas ((w1.alloc o1).alloc (.map #[] 0)) (w1.heap.size+1) fun _=>False:=fun o1=>by
  have:=SetM.made prV decP oneV (w1.alloc o1);rw[World.size_alloc] at this;exact⟨[],this,fun y=>by simp⟩
 exact(h1 _).kept (Below.heap_alloc _ _ _ (h1 _).lt)
end

section
open Go.RowKit Go.Shelf
attribute [local go_sem] Oper.semAt_some wide_fn wide_depth wide_fnR wide_depthR
section
variable {w W W':World} {B:Nat} {p:Pr2→Prop}
theorem PHas.ne(h:PHas w B p){a:Addr}{v:Value}(hc:w.cell? a=some v):a.block≠B:=let ⟨_,h1,_⟩:=h;SetM.nocell h1 hc
theorem PHas.cell(h:PHas w B p)(hg:w.grownBy W (some B)){a:Addr}{v:Value}(hc:w.cell? a=some v):W.cell? a=some v:=hg.cell hc (by have:=h.ne hc;simpa using this)
theorem PHas.neRow(h:PHas w B p){k:Nat}{cs:Array Value}{t:TypeId}{f:Nat×Nat}(hk:w.heap[k]? =some (.cells cs t f)):k≠B:=fun e=>by
 obtain⟨L,⟨es,cl,hb,_⟩,_⟩:=h
 rw[e,hb] at hk
 cases hk
theorem PHas.row(h:PHas w B p)(hg:w.grownBy W (some B)){k:Nat}{cs:Array Value}{t:TypeId}{f:Nat×Nat}(hk:w.heap[k]? =some (.cells cs t f)):W.heap[k]? =some (.cells cs t f):=(hg.block k (lt_of_heap hk) (by have:=h.neRow hk;simpa using this)).trans hk
theorem PHas.ints(h:PHas w B p)(hg:w.grownBy W (some B)){a:Option Addr}{n:Nat}{xs:List Int}(hx:Ints w a n xs):Ints W a n xs:=⟨hx.1,hx.2.1,fun k hk=>by
 obtain⟨b,o,e,hc,h1⟩:=hx.2.2 k hk
 exact⟨b,o,e,h.cell hg hc,h1⟩⟩
theorem PHas.keep(h:PHas W B p)(hg:W.grownBy W' (some B)):Keep W W':=fun k o hk ho=>by
 by_cases e:k=B
 ·obtain⟨L,⟨es,cl,hb,_⟩,_⟩:=h;rw[e,hb] at hk;cases hk;cases ho
 ·exact(hg.block k (lt_of_heap hk) (by simpa using e)).trans hk
theorem Steady.pHas(D B:Nat)(p:Pr2→Prop)(hB:B<D):Steady D (fun W=>PHas W B p):=fun W W' row h hg hr=>h.kept (hg.block B h.lt fun e=>by have:=(hr B e.symm).1;omega)
theorem Steady.grownP(D:Nat)(w:World)(hD:w.heap.size≤D)(r:Option Nat):Steady D (fun W=>w.grownBy W r):=fun W W' row h hg hr=>h.andThen hg fun j hj=>.inl (by have:=(hr j hj).1;omega)
end
theorem heads_of{w:World}{a:Option Addr}{n:Nat}{f:Nat→List Int}(h:IntsAt w a n f)(hn:0<n):∃(g o:Nat) (us:List Hd),a=some ⟨g,o,none⟩∧us.length=n∧∀k x,us[k]? =some x→w.cell? ⟨g,o+k,none⟩=some (hdV x)∧Ints w x.1 x.2.1 (f k):=by
 obtain⟨g,o,_,_,e,_,_⟩:=h 0 hn
 have hx:∀k,∃x:Hd,k<n→w.cell? ⟨g,o+k,none⟩=some (hdV x)∧Ints w x.1 x.2.1 (f k):=fun k=>by
  by_cases hk:k<n
  ·obtain⟨g',o',a',c',e',hc,hi⟩:=h k hk;rw[e] at e';cases e';exact⟨(a',(f k).length,c'),fun _=>⟨hc,hi⟩⟩
  ·exact⟨(none,0,0),fun h=>absurd h hk⟩
 obtain⟨F,hF⟩:=Classical.axiomOfChoice hx
 refine⟨g,o,(List.range n).map F,e,by simp,fun k x hk=>?_⟩
 simp only[List.getElem?_map,Option.map_eq_some_iff] at hk
 obtain⟨j,hj,rfl⟩:=hk
 have hjn:=(List.getElem?_eq_some_iff.1 hj)
 obtain⟨h1,h2⟩:=hjn
 simp at h1 h2
 subst h2
 exact hF _ h1
theorem take_succ_mem{α β:Type}(ls:List α)(f:α→List β)(k:Nat)(x:α)(h:ls[k]? =some x)(y:β):y∈(ls.take (k+1)).flatMap f↔y∈(ls.take k).flatMap f∨y∈f x:=by
 rw[List.take_add_one,h]
 simp
def takeP(ls:List (List Int))(k:Nat)(y:Pr2):Prop:=y∈(ls.take k).flatMap starL
def starP(xs:List Int)(k:Nat)(y:Pr2):Prop:=y∈(xs.take k).flatMap fun v=>star1 v xs
theorem takeP_zero(ls:List (List Int))(y:Pr2):¬takeP ls 0 y:=by simp[takeP]
theorem starP_zero(xs:List Int)(y:Pr2):¬starP xs 0 y:=by simp[starP]
theorem starP_succ(xs:List Int)(k:Nat)(v:Int)(h:xs[k]? =some v)(y:Pr2):starP xs (k+1) y↔starP xs k y∨y∈star1 v xs:=take_succ_mem xs (fun v=>star1 v xs) k v h y
theorem takeP_succ(ls:List (List Int))(k:Nat)(xs:List Int)(h:ls[k]? =some xs)(y:Pr2):takeP ls (k+1) y↔takeP ls k y∨starP xs xs.length y:=by
 unfold takeP starP
 rw[take_succ_mem ls starL k xs h y,List.take_length]
 exact Iff.rfl
structure MshJ(w:World)(B M b:Nat)(q:Pr2→Prop)(W:World):Prop where
 mp:PHas W B q
 gr:w.grownBy W (some B)
 b0:W.heap[w.heap.size]? =some (.cells #[.pointer (some ⟨M,0,none⟩)] 75 (0,0))
 b1:W.heap[w.heap.size+1]? =some (.cells #[.pointer (some ⟨M,0,none⟩)] 75 (0,0))
 b2:W.heap[w.heap.size+1+1]? =some (.cells #[.int .i64 (b:Int)] 3 (0,0))
section
variable {w W W':World} {B M b:Nat} {q q':Pr2→Prop}
theorem MshJ.steady{D:Nat}(hB:B<w.heap.size)(hD:w.heap.size≤D):Steady D (MshJ w B M b q):=fun W W' row h hg hr=>
 ⟨Steady.pHas D B q (by omega) W W' row h.mp hg hr,Steady.grownP D w hD _ W W' row h.gr hg hr,Steady.block _ _ rfl W W' row h.b0 hg hr,Steady.block _ _ rfl W W' row h.b1 hg hr,Steady.block _ _ rfl W W' row h.b2 hg hr⟩
theorem MshJ.turn(h:MshJ w B M b q W)(hp:PHas W' B q')(hg:W.grownBy W' (some B)):MshJ w B M b q' W':=
 ⟨hp,h.gr.andThen hg fun j hj=>.inr hj,h.mp.row hg h.b0,h.mp.row hg h.b1,h.mp.row hg h.b2⟩
theorem MshJ.congr(h:MshJ w B M b q W)(e:∀y,q y↔q' y):MshJ w B M b q' W:=⟨h.mp.congr e,h.gr,h.b0,h.b1,h.b2⟩
end
theorem block_any3(BL:List BkL)(n:Nat)(hl:LiveH)(M B b:Nat)(p:Pr2→Prop)(w:World)(hb:b<n)(hm:w.heap[M]? =some (meshH n hl B))(hp:PHas w B p)(hL:LiveR w BL n hl)(hN:atN BL b≤17592186044416):
  Calls Tryz.prog 26 #[.pointer (some ⟨M,0,none⟩),.int .i64 b] w fun e w'=>e=.returned (.tuple #[])∧PHas w' B (fun y=>p y∨y∈(meshL BL b).flatMap starL)∧w.grownBy w' (some B):=by
 refine(callsIn_wide (n:=0)).1 ?_
 refine callsIn_of_wp_marks Tryz.func26 rfl trivial ?_
 simp only[Tryz.ntmps26,List.size_toArray,List.length_cons,List.length_nil,Nat.reduceAdd,Nat.reduceSub,Array.replicate_succ,Array.replicate_zero,List.push_toArray,List.append_toArray,List.nil_append,List.cons_append]
 have HP:=Lib.hid hp
 have HM:=Lib.hid hm
 have HB:=Lib.hid hb
 have HNN:=Lib.hid hN
 obtain⟨gt,ot,ra',rc,eta,ctb,hrows⟩:=hL.2.2 b hb
 obtain⟨go,oo,ua,uc,eoa,cou,hu⟩:=hL.2.1 b hb
 have hn0:0<atN BL b:=by unfold atN;omega
 obtain⟨gr,or_,us,era,hul,hus⟩:=heads_of hrows hn0
 obtain⟨u,hue⟩:∃u:Hd,u=(ua,(vOutL BL b).length,uc):=⟨_,rfl⟩
 have HLS:Hid (∀(j:Nat) (x:Hd),(us++ [u])[j]? =some x→∃xs,(meshL BL b)[j]? =some xs∧Ints w x.1 x.2.1 xs):=fun j x hj=>by
  unfold meshL;by_cases hlt:j<us.length
  ·rw[List.getElem?_append_left hlt] at hj;refine⟨atL BL b j,?_,(hus j x hj).2⟩;rw[List.getElem?_append_left (by simp;omega),List.getElem?_map,List.getElem?_range (by omega)];rfl
  ·have hl2:=(List.getElem?_eq_some_iff.1 hj).1;simp only[List.length_append,List.length_cons,List.length_nil] at hl2;have e:j=us.length:=by omega
   subst e;rw[List.getElem?_append_right (Nat.le_refl _),Nat.sub_self] at hj;simp at hj;subst hj;refine⟨vOutL BL b,?_,by rw[hue];exact hu⟩;rw[List.getElem?_append_right (by simp;omega)];simp[hul]
 have HLN:Hid ((us++ [u]).length=(meshL BL b).length):=by rw[Hid];unfold meshL;simp[hul]
 have HCT:Hid (w.cell? ⟨gt,ot+b,none⟩=some (.slice (some ⟨gr,or_,none⟩) us.length rc)):=by rw[Hid,ctb,era,hul]
 have HCO:Hid (w.cell? ⟨go,oo+b,none⟩=some (hdV u)):=by rw[Hid,cou,hue]
 have HUS:Hid (∀(k:Nat) (x:Hd),us[k]? =some x→w.cell? ⟨gr,or_+k,none⟩=some (hdV x)):=fun k x hk=>(hus k x hk).1
 have HUL:=Lib.hid hul
 have HME:Hid (w.heap[M]? =some (meshO (.slice hl.ia n hl.ic) (.slice (some ⟨go,oo,none⟩) n hl.oc) (.slice (some ⟨gt,ot,none⟩) n hl.tc) B)):=by
  rw[Hid,hm,show meshH n hl B=meshO (.slice hl.ia n hl.ic) (.slice hl.oa n hl.oc) (.slice hl.ta n hl.tc) B from rfl,eta,eoa]
 clear hp hm hb hN hrows hu hus hue ctb cou hul era eta eoa hn0 hL
 gi_upto_region 1 with (fail)
 obtain⟨W0,hW0⟩:∃W,W=w.alloc (.cells #[.pointer (some ⟨M,0,none⟩)] 75):=⟨_,rfl⟩
 rw[←hW0]
 have HX0:Hid (Below w.heap.size w W0):=by rw[hW0];exact ext_alloc _ _
 have HZ0:Hid (W0.heap.size=w.heap.size+1):=by rw[Hid,hW0,World.size_alloc]
 have h2:W0.heap[w.heap.size]? =some (.cells #[.pointer (some ⟨M,0,none⟩)] 75 (0,0)):=by rw[hW0];exact heap_alloc_new _ _
 have x2:W0.cell? ⟨w.heap.size,0,none⟩=some (.pointer (some ⟨M,0,none⟩)):=by rw[cell_of_row _ _ _ _ _ _ h2];rfl
 have H2:=Lib.hid h2
 clear hW0 h2
 gi_wp2_with (
  (gi_at_call 35
   refine(callsIn_wide.2 (meshEach_any M b W0)).mono ?_;rintro e w1 ⟨rfl,hw1⟩;have HW1:=Lib.hid hw1
   clear hw1))
 rw[HZ0.out]
 have HX1:Hid (Below W0.heap.size W0 w1):=by rw[HW1.out];exact ext_trans (ext_alloc _ _) (ext_alloc _ _)
 have hBw:=HP.out.lt
 have HBW:=Lib.hid hBw
 have HJ:Hid (MshJ w B M b (fun y=>p y∨takeP (meshL BL b) 0 y) w1):=by
  refine⟨?_,grown_ofBelow (ext_trans HX0.out HX1.out) _,block_ext HX1.out H2.out,?_,?_⟩
  ·exact(((HP.out.ext HX0.out).ext HX1.out)).congr fun y=>by simp[takeP_zero]
  ·have:=heap_alloc_new W0 (.cells #[.pointer (some ⟨M,0,none⟩)] 75);rw[HZ0.out] at this;rw[HW1.out];exact block_ext (ext_alloc _ _) this
  ·have:=heap_alloc_new (W0.alloc (.cells #[.pointer (some ⟨M,0,none⟩)] 75)) (.cells #[.int .i64 (b:Int)] 3);rw[World.size_alloc,HZ0.out] at this;rw[HW1.out];exact this
 have hz1:w.heap.size≤w1.heap.size:=Nat.le_trans HX0.out.size HX1.out.size
 clear x2 H2 HW1 HX1 HX0 HZ0 hBw
 refine range_listNG (ps:=#[10]) (gf:=48) (lb:=#[.pointer (some ⟨w.heap.size+1,0,none⟩),.pointer (some ⟨w.heap.size+1+1,0,none⟩)]) (enc:=encHd) (l:=us++ [u]) rfl enter_mesh (EachI (.slice hl.ia n hl.ic) ⟨go,oo,none⟩ n hl.oc ⟨gt,ot,none⟩ hl.tc B M (w.heap.size+1) b ⟨gr,or_,none⟩ rc us u) (mesh_iterI _ _ _ _ _ _ _ _ _ _ _ _ _ _) (fun _=>rfl)
  (fun dd _ W=>Hid (MshJ w B M b (fun y=>p y∨takeP (meshL BL b) dd.length y) W)) (fun _ _=>False)
  (fun dd _=>MshJ.steady HBW.out hz1) (fun _=>Steady.pure _ _) ?hInv HJ ?round ?done ?stop
 case hInv=>
  intro dd s W hj;have h:=hj.out;exact⟨h.b1,h.b2,HP.out.row h.gr HME.out,HP.out.cell h.gr HCT.out,fun k x hk=>HP.out.cell h.gr (HUS.out k x hk),HP.out.cell h.gr HCO.out,HB.out,by rw[HUL.out];exact HNN.out⟩
 case stop=>rintro D' c W hD h;exact h.elim
 case round=>
  rintro lp dd ⟨xa,xn,xc⟩ s W hd hJ;obtain⟨xs,hxs,hxi⟩:=HLS.out dd.length (xa,xn,xc) (by rw[hd];simp);have HXS:=Lib.hid hxs;have HXI:=Lib.hid hxi;have HJ1:=Lib.hid hJ;unfold encHd hdV;dsimp only;clear hJ hd hxs hxi HJ
  gi_wp2
  refine⟨Keep.refl _,HJ1.out,fun _=>True,Steady.pure _ _,trivial,?_⟩;clear HJ1 lp W;rintro lp W2 hlp rc9 hrc9 hJ2 hG2;have HJ2:=Lib.hid hJ2.out;have hxn:=HXI.out.2.1;clear hJ2 hlp hrc9 hG2
  gi_wp2
  gi_loopw [6,13] (fun _ i wr=>∃k:Nat,i=.int .i64 k∧k≤xn∧Hid (MshJ w B M b (fun y=>(p y∨takeP (meshL BL b) dd.length y)∨starP xs k y) wr)∧Hid (Keep W2 wr)) (fun _ i _=>xn-(intOf i).toNat)
  case atStart=>exact⟨0,rfl,by omega,HJ2.out.congr fun y=>by simp[starP_zero],Keep.refl _⟩
  case round=>
   obtain⟨k,rfl,hk,HR,HKK⟩:=hrel;clear HJ2;by_cases hlt:k<xn
   ·have hints:=HP.out.ints HR.out.gr HXI.out;obtain⟨g,o,rfl,hcell,hw1,hw2⟩:=hints.2.2 k hlt;have HII:=Lib.hid hints;have hy:xs[k]? =some (xs.getD k 0):=by rw[List.getD_eq_getElem?_getD,List.getElem?_eq_getElem (by rw[HXI.out.1];exact hlt)];rfl
    have HT:=Lib.hid (starP_succ xs k _ hy);have x2:wr.cell? ⟨w.heap.size,0,none⟩=some (.pointer (some ⟨M,0,none⟩)):=by rw[cell_of_row _ _ _ _ _ _ HR.out.b0];rfl
    clear hy hints;generalize xs.getD k 0=y at*
    gi_wp2_with (
     (gi_at_call 36
      refine(CallsIn.inRound _ (callsIn_wide.2 (star_any M B _ _ _ _ y _ xn xc xs wr (HP.out.row HR.out.gr HM.out) HR.out.mp HII.out))).mono ?_;rintro e w2 ⟨rfl,hp2,hg2⟩;have HR2:Hid (MshJ w B M b (fun z=>(p z∨takeP (meshL BL b) dd.length z)∨starP xs (k+1) z) w2):=(HR.out.turn hp2 hg2).congr fun z=>(by rw[HT.out z,or_assoc]);have HK2:Hid (Keep W2 w2):=HKK.out.trans (HR.out.mp.keep hg2)
      clear hp2 hg2))
    exact⟨⟨k+1,by go_num,by omega,HR2,HK2⟩,by simp[intOf];omega⟩
   ·obtain rfl:k=xn:=by omega
    gi_wp2
    refine⟨HKK.out,HR.out.congr fun z=>?_⟩;rw[takeP_succ (meshL BL b) _ _ HXS.out,HXI.out.1,or_assoc]
 case done=>
  rintro D' W hD hJd hdf;have HDF:=Lib.hid hdf;have h2:=(MshJ.steady HBW.out (Nat.le_trans hz1 hD)).put (.deferred none) (l:=D') hJd.out (Nat.le_refl _) hdf rfl;have HF:Hid (PHas (W.putObj D' (.deferred none)) B (fun y=>p y∨y∈(meshL BL b).flatMap starL)∧w.grownBy (W.putObj D' (.deferred none)) (some B)):=⟨h2.mp.congr fun y=>by unfold takeP;rw[HLN.out,List.take_length],h2.gr⟩
  clear hJd hdf h2
  gi_wp2
  refine⟨by simp,.inl ⟨_,_,rfl,run_takeDeferred HDF.out,?_⟩⟩;exact⟨.tuple #[],by simp[results,Tryz.results26,go_sem],rfl,HF.out⟩
end

section
open Go.RowKit Go.Shelf
attribute [local go_sem] Oper.semAt_some wide_fn wide_depth wide_fnR wide_depthR
def encP2(x:Pr2):Array Value:=#[prV x]
def okP(L:List Pr2)(d:List Pr2)(x:Pr2):Prop:=x∈L∧x∉d
def nxP(d:List Pr2)(x:Pr2):List Pr2:=d++ [x]
def finP(L:List Pr2)(d:List Pr2):Prop:=∀y∈L,y∈d
def IterP(P:Program)(gf:Nat)(lb:Array Value)(L:List Pr2)(I:World→Prop):Prop:=IterM P gf lb encP2 (okP L) nxP [] (finP L) (fun _ W=>I W)
theorem IterP.mono{P:Program}{gf:Nat}{lb:Array Value}{L:List Pr2}{I I':World→Prop}(h:IterP P gf lb L I)(hi:∀W,I' W→I W):IterP P gf lb L I':=
 fun lp K Kx T W hK hKx hInv h1 h2 hY h0=>h lp K Kx T W hK hKx (fun s W hs=>hi W (hInv s W hs)) h1 h2 hY h0
theorem keysP_iter(b G:Nat)(L:List Pr2)(o:Obj)(hS:∀W:World,W.heap[b]? =some o→PSet W b L):IterP Tryz.prog 54 #[.pointer (some ⟨G,0,none⟩)] L (fun W=>W.heap[G]? =some (.cells #[.map (some b)] 94)∧W.heap[b]? =some o):=by
 intro l K Kx T W hK hKx hInv hT0 hTg hY h0
 refine callsIn_of_wp Tryz.func54 rfl trivial ?_ rfl
 simp only[Tryz.ntmps54,List.size_toArray,List.length_cons,List.length_nil,Nat.reduceAdd,Nat.reduceSub,Array.replicate_succ,Array.replicate_zero,List.push_toArray,List.append_toArray,List.nil_append,List.cons_append]
 have HY:=Lib.hid hY
 have HI:=Lib.hid hInv
 have HK0:=Lib.hid hK
 have HT0:=Lib.hid hT0
 have HTG:=Lib.hid hTg
 have H0:=Lib.hid h0
 have HSS:=Lib.hid hS
 have hg0:W.cell? ⟨G,0,none⟩=some (.map (some b)):=by rw[cell_of_row _ _ _ _ _ _ (hInv _ _ h0).1];rfl
 have hb0:W.heap[b]? =some o:=(hInv _ _ h0).2
 have HB0:=Lib.hid hb0
 clear hY hInv hK hKx h0 hT0 hTg hS hb0
 gi_wp2_with (
  (refine wpListIn_rangeM rfl _ rfl mapTP (HSS.out W HB0.out) rfl ?_
   intro w1 hi hb hz;have HSI:=Lib.hid hi;have HK1:=Lib.hid (HK0.out _ _ _ none H0.out (grownV_none hb) (fun q e=>by cases e))
   have HNT:Hid (¬T w1 W.heap.size):=(fun ht=>by
    have h1:=HT0.out _ _ _ H0.out (HTG.out _ _ _ none _ H0.out (grownV_none hb) (fun q e=>by cases e) ht)
    omega)
   clear hi hb hz hg0))
 obtain⟨r,hr⟩:∃r,r=W.heap.size:=⟨_,rfl⟩
 rw[←hr] at HSI HNT⊢
 have HWE:Hid (W.heap.size≤r):=by rw[Hid,hr];exact Nat.le_refl _
 clear hr
 gi_loopw [3] (fun _ wr=>∃d R,Hid (PIter wr b r L R)∧Hid (K d wr)∧Hid (∀y,y∈R↔y∈L∧y∉d)∧Hid (¬T wr r)) (fun _ wr=>wr.rangeLeft b r)
 case atStart=>exact⟨[],L,HSI,HK1,fun y=>by simp,HNT⟩
 case round=>
  obtain⟨d,R,HIr,HK,HM,HNTr⟩:=hrel;have HLT:=Lib.hid (SetI.left HIr.out);obtain⟨io,hio,hit⟩:=HIr.out.iter;have HIO:=Lib.hid hio;have HIT:=Lib.hid hit;clear hio hit
  gi_wp2_with (
   (refine wpListIn_nextM rfl _ rfl rfl HIr.out (fun h0=>?_) (fun x R' w2 hx hR' hR hi hg hz hen=>?_)))
  ·subst h0;have HF:Hid (finP L d):=fun y hy=>by
    have:=(HM.out y)
    simp only[List.not_mem_nil,false_iff,not_and,Classical.not_not] at this;exact this hy
   clear HM HLT HIr
   gi_wp2
   go_end0
   exact⟨⟨_,rfl⟩,Or.inl ⟨d,HF.out,HK.out⟩⟩
  ·have hrow:∀q,some r=some q→W.heap.size≤q∧∃o:Obj,wr.heap[q]? =some o∧isIt o=true:=fun q e=>by injection e with e;subst e;exact⟨HWE.out,io,HIO.out,HIT.out⟩
   have hk2:K d w2:=HK0.out _ _ _ _ HK.out hg hrow;have hn2:¬T w2 r:=fun ht=>HNTr.out (HTG.out _ _ _ _ _ HK.out hg hrow ht);have HR2:=Lib.hid hR;have HX2:=Lib.hid hx;have HMR:=Lib.hid hR';have HI2:=Lib.hid hi;clear hi hg hz hR hrow HK HIr HIO HIT HNTr hR' hx;obtain⟨v,s⟩:=x;have hb3:Below w2.heap.size w2 (w2.alloc (prO v s)):=ext_alloc _ _;have hk3:K d (w2.alloc (prO v s)):=HK0.out _ _ _ none hk2 (grownV_none hb3) (fun q e=>by cases e);have hn3:¬T (w2.alloc (prO v s)) r:=fun ht=>hn2 (HTG.out _ _ _ none _ hk2 (grownV_none hb3) (fun q e=>by cases e) ht);have HI3:=Lib.hid (HI2.out.ext hb3);have hmm:=(HM.out (v,s)).1 HX2.out;obtain⟨fn,tmps,assign,body,hy,hR⟩:=HY.out d (v,s) _ hmm hk3;unfold encP2 at hy;have HY3:=Lib.hid hR;have HN3:=Lib.hid hn3;have HKK3:=Lib.hid hk3;clear hR hk2 hn2 hb3 hk3 hn3 HI2 hmm
   gi_wp2
   refine HY3.out.mono ?_;rintro e W' (⟨rfl,hJ',hT'⟩|⟨rfl,hX'⟩)
   ·have HKn:=Lib.hid hJ';have hrb:W'.heap[r]? =(w2.alloc (prO v s)).heap[r]?:=hT'.2.1 r HI3.out.lt.2.1 HN3.out;have hbb:W'.heap[b]? =(w2.alloc (prO v s)).heap[b]?:=by rw[(HI.out _ _ hJ').2,(HI.out _ _ HKK3.out).2]
    have HIn:=Lib.hid (HI3.out.of_blocks hbb hrb);have HNn:Hid (¬T W' r):=fun ht=>by
     rcases hT'.2.2 r ht with h|h
     ·exact HN3.out h
     ·have:=HI3.out.lt.2.1;omega
    have HMn:Hid (∀y,y∈R'↔y∈L∧y∉nxP d (v,s)):=fun y=>by
     rw[HMR.out,HM.out];simp[nxP,and_assoc]
    clear hJ' hT' hy HY3 HN3 HKK3 hrb hbb HI3 HM HMR
    gi_wp2
    go_roundw
    case rel=>exact⟨_,R',HIn,HKn,HMn,HNn⟩
    case measure=>rw[SetI.left HIn.out,HLT.out];exact HR2.out
   ·have HX:=Lib.hid hX';clear hX' hy HY3
    gi_wp2
    exact bodyPost_ret (v:=.tuple #[]) (by simp[results,Tryz.results54,go_sem]) rfl ⟨⟨_,rfl⟩,Or.inr HX.out⟩
theorem keysPM_any(b:Nat)(w:World):Calls Tryz.prog 40 #[.map (some b)] w fun e w'=>e=.returned (.func (.func 54) #[] #[.pointer (some ⟨w.heap.size,0,none⟩)])∧w'=w.alloc (.cells #[.map (some b)] 94):=by
 go_enter Tryz.func40,Tryz.ntmps40
 go_wp2
 go_ret
 exact⟨rfl,rfl⟩
theorem enter_keysP(args:Array Value)(w:World):(callFunc 54 args).run Tryz.prog w=.ok (.enter 54 args) w:=enters_of Tryz.func54 (by kernel_rfl) rfl args w
theorem own_nobookP{w:World}{base:Nat}{e:TypeId}{size:Nat}{v:Value}{n:Nat}{xs:List Value}(h:w.ownsRow base e size v n xs):∀(j:Nat) (o:Obj),v.ownBlock=some j→w.heap[j]? =some o→isBook o=false:=by
 intro j o hj ho
 rcases h.2 with ⟨rfl,_⟩|⟨g,cap,cur,rfl,_,hh,_⟩
 ·cases hj
 ·simp only[Value.ownBlock,Option.some.injEq] at hj;subst hj;rw[hh] at ho;cases ho;rfl
theorem grown_rowP{w w':World}{row:Option Nat}(hg:w.grownBy w' row){k:Nat}{o:Obj}(hk:w.heap[k]? =some o)(hne:row≠some k):w'.heap[k]? =some o:=
 (hg.block k (Array.getElem?_eq_some_iff.1 hk).1 (fun e=>hne e.symm)).trans hk
theorem grown_setCellP(w:World)(b o:Nat)(u:Value):w.grownBy (w.setCell ⟨b,o,none⟩ u) (some b):=
 ⟨rfl,rfl,rfl,by simp,fun k _ hne=>Below.heap_setCell _ _ _ _ (fun e=>hne (by rw[e]))⟩
def SetPostP(w:World)(L:List Pr2)(e:Ending)(w':World):Prop:=∃v d,e=.returned v∧OwnP w' w.heap.size v d∧d.Nodup∧(∀y,y∈d↔y∈L)∧Below w.heap.size w w'
def AJP(w:World)(B base:Nat)(xs:List Pr2)(W:World):Prop:=
 ∃v,W.heap[B]? =some (.cells #[v] 23 (0,0))∧OwnP W base v xs∧v.ownBlock≠some B∧Below w.heap.size w W∧w.heap.size<W.heap.size
theorem AJP.steady{w:World}{B base:Nat}{xs:List Pr2}{D:Nat}(hD:w.heap.size≤D):SteadyM D (AJP w B base xs):=by
 unfold AJP
 exact SteadyM.ex fun v=>(SteadyM.block _ _ rfl).and ((SteadyM.ownR _ _ _ _).and ((SteadyM.pure _ _).and ((SteadyM.below (Nat.le_refl _) hD).and (SteadyM.size _ _))))
theorem appendSeqP_any(gf:Nat)(lb:Array Value)(L:List Pr2)(w:World)(eg:∀args w,(callFunc gf args).run Tryz.prog w=.ok (.enter gf args) w)(hit:IterP Tryz.prog gf lb L (fun W=>Below w.heap.size w W))(hl:L.length≤1000000000000):
  Calls Tryz.prog 85 #[.slice none 0 0,.func (.func gf) #[] lb] w (SetPostP w L):=by
 refine(callsIn_wide (n:=0)).1 ?_
 refine callsIn_of_wp_marks Tryz.func85 rfl trivial ?_
 simp only[Tryz.ntmps85,List.size_toArray,List.length_cons,List.length_nil,Nat.reduceAdd,Nat.reduceSub,Array.replicate_succ,Array.replicate_zero,List.push_toArray,List.append_toArray,List.nil_append,List.cons_append]
 have HIT:=Lib.hid hit
 clear hit
 gi_wp2
 refine range_outerM (ps:=#[7]) (gf:=gf) (lb:=lb) (enc:=encP2) rfl eg HIT.out (fun _=>rfl)
  (fun d W=>Hid (AJP w w.heap.size w.heap.size d W∧d.Nodup∧∀y∈d,y∈L))
  (fun _ _=>False)
  (fun d x a1 W=>∃g,a1={tmps:=#[.slice none 0 0,.func (.func gf) #[] lb,.pointer (some ⟨w.heap.size,0,none⟩),undef,.slice none 0 0,.pointer (some ⟨g,0,none⟩),.func (.func gf) #[] lb,prV x,undef,undef,undef,undef,undef],defers:= []}∧W.heap[g]? =some (prO x.1 x.2))
  (fun d=>(AJP.steady (by simp)).and ((SteadyM.pure _ _).and (SteadyM.pure _ _))) (fun c=>SteadyM.pure _ _) (fun d x a1=>SteadyM.ex fun g=>(SteadyM.pure _ _).and (SteadyM.block _ _ rfl)) (fun d W h=>by obtain⟨⟨v,_,_,_,hb,_⟩,_⟩:=h.out;exact hb)
  (TV w.heap.size 23) ?t0 ?tg ?start ?assign ?body ?done ?stop
 case t0=>
  intro d W k h ht;obtain⟨⟨v,hv,ho,_,_,h1⟩,_⟩:=h.out;rcases ht with rfl|⟨u,hu,hk⟩
  ·exact h1
  ·rw[hv] at hu;simp only[Option.some.injEq,Obj.cells.injEq,Array.mk.injEq,List.cons.injEq,and_true] at hu;subst hu;exact(ho.low hk).2
 case tg=>
  rintro W W' row hg hr ⟨d,h⟩ k ht;obtain⟨⟨v,hv,_⟩,_⟩:=h.out;refine ht.ext (hg.block _ (Array.getElem?_eq_some_iff.1 hv).1 fun e=>?_);obtain⟨_,o,ho,hb⟩:=hr _ e.symm;rw[hv] at ho;cases ho;cases hb
 case start=>exact⟨⟨_,heap_alloc_new _ _,OwnR.nil _ _ _ _ _,by simp[Value.ownBlock],(Below.refl _ w).alloc (Nat.le_refl _) _,by simp⟩,List.nodup_nil,by simp⟩
 case assign=>
  rintro lp d ⟨xv,xs⟩ W hok hJ;unfold encP2
  gi_wp2
  obtain⟨⟨v1,hv1,ho1,hne1,hb1,hlt1⟩,h2⟩:=hJ.out;have hbW:Below W.heap.size W (W.alloc (prO xv xs)):=ext_alloc _ _;exact⟨Keep.ext hbW,⟨(AJP.steady (Nat.le_refl _)).ext hJ.out.1 hbW,h2⟩,⟨W.heap.size,rfl,heap_alloc_new _ _⟩,tch_below hlt1 hbW⟩
 case body=>
  rintro lp d ⟨xv,xs⟩ a1 W2 hok hJ ⟨g,rfl,hG⟩;obtain⟨⟨v,hv,ho,hne,hb,hlt0⟩,hnd,hsub⟩:=hJ.out;obtain⟨av,cv,rfl⟩:=ho.form;have hc0:W2.cell? ⟨w.heap.size,0,none⟩=some (.slice av d.length cv):=by rw[cell_of_row _ _ _ _ _ _ hv];rfl
  have hf0:W2.frozen? ⟨w.heap.size,0,none⟩=false:=frozen_of_row _ _ _ _ _ hv;have hg0:W2.cell? ⟨g,0,none⟩=some (.int .i64 xv):=by rw[cell_of_row _ _ _ _ _ _ hG];rfl
  have hg1:W2.cell? ⟨g,1,none⟩=some (.int .i64 xs):=by rw[cell_of_row _ _ _ _ _ _ hG];rfl
  have HO:=Lib.hid ho;have HV:=Lib.hid hv;have HB:=Lib.hid hb;have HNE:=Lib.hid hne;have HOK:=Lib.hid hok;have hlen:d.length≤1000000000000:=Nat.le_trans (nodup_length_le hnd hsub) hl;have HND:=Lib.hid hnd;have HSUB:=Lib.hid hsub;clear hv ho hb hJ hne hG hok hnd hsub
  gi_wp2_with (
   (gi_at_builtin
    refine listIn_of (by repeat (first|exact noOut_round|refine noOut_then ?_|refine noOut_block ?_)) _ _ _ rfl ?_;refine wpList_append1 rfl W2 (.tmp 8) (.tmp 10) 23 49 rfl w.heap.size _ 2 16 Tryz.underlying23 infoP rfl (by omega) (.slice av d.length cv) d.length _ (csP (xv,xs)) rfl HO.out.1 W2.heap.size rfl rfl rfl (by simp[csP,Value.oneCell']) (by simp only[maxLen];omega) (by omega) (by omega) ?_;intro g2 cap w2 hown2 hgr2 hat2;have HO2:=Lib.hid hown2;have HG2:=Lib.hid hgr2;have HA2:=Lib.hid hat2;have hv2:=grown_rowP hgr2 HV.out HNE.out;have hc2:w2.cell? ⟨w.heap.size,0,none⟩=some (.slice av d.length cv):=(by rw[cell_of_row _ _ _ _ _ _ hv2];rfl)
    have hf2:w2.frozen? ⟨w.heap.size,0,none⟩=false:=frozen_of_row _ _ _ _ _ hv2;have hlt2:w.heap.size<w2.heap.size:=(Array.getElem?_eq_some_iff.1 hv2).1;have HV2:=Lib.hid hv2
    clear hown2 hgr2 hat2 hv2 hc0 hf0))
  go_wp2;have hb2:Below w.heap.size w w2:=HB.out.grown HG2.out HB.out.size (fun k e=>(HO.out.low e).1);have hgne:g2≠w.heap.size:=by
   rcases HA2.out with h|h
   ·exact fun e=>HNE.out (by rw[←h,e])
   ·omega
  have hB2:=heap_setCell_same w2 w.heap.size 0 _ _ (.slice (some ⟨g2,0,none⟩) (d.length+1) cap) HV2.out;simp only[List.setIfInBounds_toArray,List.set_cons_zero] at hB2;refine⟨(Keep.grown HG2.out (own_nobookP HO.out.1)).trans (Keep.setCell _ _ _),⟨⟨_,hB2,?_,by simpa[Value.ownBlock] using hgne,?_⟩,?_,?_⟩,?_⟩
  ·refine OwnR.kept (row:=some w.heap.size) (w:=w2) ⟨?_,by simp[nxP];omega⟩ (grown_setCellP w2 w.heap.size 0 _) (.inr (by simp[Value.ownBlock];omega));have:=HO2.out;simpa[nxP,List.flatMap_append] using this
  ·exact⟨hb2.setCell (Nat.le_refl _) _,by simpa using hlt2⟩
  ·exact List.nodup_append.2 ⟨HND.out,by simp,fun c hc c' hc' e=>by
    simp only[List.mem_singleton] at hc';subst hc' e
    exact HOK.out.2 hc⟩
  ·intro y hy;rcases List.mem_append.1 hy with hy|hy
   ·exact HSUB.out y hy
   ·rw[List.mem_singleton] at hy;subst hy;exact HOK.out.1
  ·refine tch_var HV.out hB2 (by simpa using HG2.out.size) (fun k hk hkB hkv=>?_) (fun k hk=>?_)
   ·rw[Below.heap_setCell _ _ _ _ (fun e=>hkB e),HG2.out.block k hk (fun e=>hkv e.symm)]
   ·simp only[Value.ownBlock,Option.some.injEq] at hk;subst hk;rcases HA2.out with h|h
    ·exact .inl h.symm
    ·exact .inr (by omega)
 case done=>
  rintro D d W hD hfin hJ hK;obtain⟨⟨v,hv,ho,hne,hb,hlt0⟩,hnd,hsub⟩:=hJ.out;obtain⟨av,cv,rfl⟩:=ho.form;have hc0:W.cell? ⟨w.heap.size,0,none⟩=some (.slice av d.length cv):=by rw[cell_of_row _ _ _ _ _ _ hv];rfl
  have HO:=Lib.hid ho;have HB:=Lib.hid hb;have HJ:=hJ;have HFIN:=Lib.hid hfin;have HND:=Lib.hid hnd;have HSUB:=Lib.hid hsub;clear hv ho hb hJ hne hfin hnd hsub
  gi_wp2
  obtain⟨v2,hv2,ho2,_,hb2,_⟩:=(AJP.steady (w:=w) (B:=w.heap.size) (base:=w.heap.size) (xs:=d) (D:=w.heap.size) (Nat.le_refl _)).put (.deferred none) (l:=D) HJ.out.1 (by simp at hD;omega) hK rfl;refine⟨by simp,.inl ⟨_,_,rfl,run_takeDeferred hK,?_⟩⟩;have ho3:OwnP (W.putObj D (.deferred none)) w.heap.size (.slice av d.length cv) d:=(SteadyM.ownR w.heap.size w.heap.size (.slice av d.length cv) d).put (.deferred none) (l:=D) HO.out (by simp at hD;omega) hK rfl;exact⟨.slice av d.length cv,by simp[results,Tryz.results85,go_sem],_,d,rfl,ho3,HND.out,fun y=>⟨HSUB.out y,HFIN.out y⟩,hb2⟩
 case stop=>rintro D c W hD h;exact h.elim
theorem collectP_any(gf:Nat)(lb:Array Value)(L:List Pr2)(w:World)(eg:∀args w,(callFunc gf args).run Tryz.prog w=.ok (.enter gf args) w)(hit:IterP Tryz.prog gf lb L (fun W=>Below w.heap.size w W))(hl:L.length≤1000000000000):
  Calls Tryz.prog 52 #[.func (.func gf) #[] lb] w (SetPostP w L):=by
 have HIT:=Lib.hid hit
 have EG:=Lib.hid eg
 clear hit eg
 go_enter Tryz.func52,Tryz.ntmps52
 go_wp2_with (go_at_call 85;refine(appendSeqP_any gf lb L w EG.out HIT.out hl).mono ?_;rintro e w' ⟨v,d,rfl,ho,hn,hm,hb⟩;have HO:=Lib.hid ho;have HB:=Lib.hid hb;have HN:=Lib.hid hn;have HM:=Lib.hid hm;clear ho hb hn hm)
 go_ret
 exact⟨_,d,rfl,HO.out,HN.out,HM.out,HB.out⟩
end

section
open Go.RowKit Go.Shelf
theorem insOneP(p:Option Addr)(cap:Nat)(fv:Value)(w:World):
  Calls Tryz.prog 124 #[.slice p 1 cap,.int .i64 0,.int .i64 1,fv] w fun e w'=>e=.returned (.tuple #[])∧w'=w:=by
 go_enter Tryz.func124,Tryz.ntmps124
 go_wp2
 refine wp_loop_rounds 1 ?_
 rw[rounds_succ]
 go_wp2
 go_end0
 exact⟨rfl,rfl⟩
theorem pdqOneP(p:Option Addr)(cap:Nat)(lim:Int)(fv:Value)(w:World):
  Calls Tryz.prog 86 #[.slice p 1 cap,.int .i64 0,.int .i64 1,.int .i64 lim,fv] w fun e w'=>e=.returned (.tuple #[])∧w'=w:=by
 go_enter Tryz.func86,Tryz.ntmps86
 go_wp2
 refine wp_loop_rounds 1 ?_
 rw[rounds_succ]
 go_wp2_with (go_at_call 124;refine(insOneP _ _ _ _).mono ?_;rintro e w' ⟨rfl,rfl⟩)
 (try simp only[Exit.inBlock,Exit.then]);refine bodyPost_ret (results_none rfl _ _ _) rfl ?_
 exact⟨rfl,rfl⟩
theorem lays125P:Go.Proofs.Lays.n125 Tryz.prog lays189_ren:={lays189 with}
theorem sortOneP(p:Option Addr)(cap:Nat)(fv:Value)(w:World):
  Calls Tryz.prog 53 #[.slice p 1 cap,fv] w fun e w'=>e=.returned (.tuple #[])∧w'=w:=by
 have hl:∀W,Calls Tryz.prog 87 #[.int .u64 1] W fun e w'=>e=.returned (.int .i64 (Lib.bitLen 1:Nat))∧w'=W:=fun W=>by
  have h:=Any.bits_Len lays125P 1 W (by omega) (by omega);exact h
 go_enter Tryz.func53,Tryz.ntmps53
 go_wp2_with (first|(go_at_call 87;refine(hl _).mono ?_;rintro e w' ⟨rfl,rfl⟩)|(go_at_call 86;refine(pdqOneP _ _ _ _ _).mono ?_;rintro e w' ⟨rfl,rfl⟩))
 go_end0
 exact⟨rfl,rfl⟩
theorem one_of{α:Type}{d:List α}{y:α}(hn:d.Nodup)(hm:∀z,z∈d↔z=y):d= [y]:=by
 match d,hn,hm with
 | [],_,hm=>exact absurd ((hm y).2 rfl) (by simp)
 | [x],_,hm=>rw[(hm x).1 (by simp)]
 |x :: x' :: l,hn,hm=>
  have h1:=(hm x).1 (by simp);have h2:=(hm x').1 (by simp);rw[h1,h2] at hn;simp at hn
theorem sortedOneP(gf:Nat)(lb:Array Value)(fv:Value)(y:Pr2)(w:World)(eg:∀args w,(callFunc gf args).run Tryz.prog w=.ok (.enter gf args) w)(hit:IterP Tryz.prog gf lb [y] (fun W=>Below w.heap.size w W)):
  Calls Tryz.prog 39 #[.func (.func gf) #[] lb,fv] w (fun e w'=>∃v,e=.returned v∧OwnP w' w.heap.size v [y]∧Below w.heap.size w w'):=by
 have HIT:=Lib.hid hit
 have EG:=Lib.hid eg
 clear hit eg
 go_enter Tryz.func39,Tryz.ntmps39
 go_wp2_with (first
  |(go_at_call 52;refine(collectP_any gf lb [y] w EG.out HIT.out (by simp)).mono ?_;rintro e w1 ⟨v,d,rfl,ho,hn,hm,hb⟩;have hd1:=one_of (y:=y) hn (fun z=>(by rw[hm z];simp));subst hd1;obtain⟨va,vc,rfl⟩:=ho.form;have HO:=Lib.hid ho;have HB:=Lib.hid hb;clear ho hb hn hm)
  |(go_at_call 53;refine(sortOneP _ _ _ _).mono ?_;rintro e w2 ⟨rfl,rfl⟩))
 go_ret
 exact⟨_,rfl,HO.out,HB.out⟩
theorem PSet.one{w:World}{B:Nat}{y:Pr2}(h:PHas w B fun z=>z=y):PSet w B [y]:=by
 obtain⟨L,h1,h2⟩:=h
 rwa [one_of h1.nodup h2] at h1
theorem told_any(M B:Nat)(hi ho ha:Value)(y:Pr2)(w:World)(hm:w.heap[M]? =some (meshO hi ho ha B))(hp:PHas w B fun z=>z=y):
  Calls Tryz.prog 28 #[.pointer (some ⟨M,0,none⟩)] w (fun e w'=>∃v,e=.returned v∧OwnP w' w.heap.size v [y]∧Below w.heap.size w w'):=by
 have hS:PSet w B [y]:=PSet.one hp
 obtain⟨o,ho',hW⟩:=hS.obj
 have hb:B<w.heap.size:=(Array.getElem?_eq_some_iff.1 ho').1
 have HS:=fun fv:Value=>sortedOneP 54 #[.pointer (some ⟨w.heap.size,0,none⟩)] fv y (w.alloc (.cells #[.map (some B)] 94)) enter_keysP
  (IterP.mono (keysP_iter B w.heap.size [y] o hW) fun W hb'=>⟨block_ext hb' (heap_alloc_new _ _),block_ext hb' (block_ext (ext_alloc _ _) ho')⟩)
 have x3:w.cell? ⟨M,3,none⟩=some (.map (some B)):=by rw[cell_of_row _ _ _ _ _ _ hm];rfl
 have hml:=lt_of_heap hm
 have HSH:=Lib.hid HS
 clear HS hS ho' hW hm hp
 go_enter Tryz.func28,Tryz.ntmps28
 go_wp2_with (first
  |(go_at_call 40;refine(keysPM_any B w).mono ?_;rintro e w1 ⟨rfl,rfl⟩)
  |(go_at_call 39;refine(HSH.out _).mono ?_;rintro e w2 ⟨v,rfl,ho,hb2⟩;have HO2:=Lib.hid ho;have HB:=Lib.hid hb2;clear ho hb2))
 go_ret
 have hsz:(w.alloc (Obj.cells #[.map (some B)] 94)).heap.size=w.heap.size+1:=by simp
 refine⟨_,rfl,HO2.out.mono (by rw[hsz];omega),?_⟩
 exact((Below.refl _ w).alloc (Nat.le_refl _) _).trans (HB.out.mono (by rw[hsz];omega))
end
end Go.Proofs.YtnmkjliioogbgaaGreatDoor
