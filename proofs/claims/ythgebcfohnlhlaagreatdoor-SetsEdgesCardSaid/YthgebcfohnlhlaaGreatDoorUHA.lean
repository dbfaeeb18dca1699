/-
 Loops inside a fence whose rounds may change the deferred calls:the invariant names the slots that are written,and the deferred calls. No program in sight.
-/
import Derived.Test.YthgebcfohnlhlaaGreatDoorTH
import Derived.Test.YthgebcfohnlhlaaGreatDoorMarks
import Derived.Sort.LoopGhostIn
import Derived.Test.YthgebcfohnlhlaaGreatDoorUG
import Derived.Test.YthgebcfohnlhlaaGreatDoorSameG
import Derived.Test.YthgebcfohnlhlaaGreatDoorMark
import Derived.Test.YthgebcfohnlhlaaGreatDoorFreeL
import Derived.Test.YthgebcfohnlhlaaGreatDoorSU
namespace Go.Proofs.YthgebcfohnlhlaaGreatDoor
set_option linter.unusedSimpArgs false
set_option linter.unusedVariables false
set_option linter.unusedSectionVars false
set_option maxRecDepth 100000
set_option maxHeartbeats 40000000
section
open Go.RowKit
def fillAct(a:Act)(slots:List Nat)(u:Nat→Value)(ds:List Deferred):Act:={tmps:=slots.foldl (fun t s=>t.setIfInBounds s (u s)) a.tmps,defers:=ds}
theorem fill_self(a:Act):∀(slots:List Nat),fillAct a slots (fun s=>a.tmps.getD s undef) a.defers=a:=by
 intro slots
 have key:slots.foldl (fun t s=>t.setIfInBounds s (a.tmps.getD s undef)) a.tmps=a.tmps:=by
  induction slots with
  |nil=>rfl
  |cons s l ih=>rw[List.foldl_cons,set_self];exact ih
 rw[fillAct,key]
theorem wpIn_loop_fill{F:Fence}{rm:Nat}{P:Program}{Q:Exit→Act→World→Prop}{a:Act}{w:World}{c:Code}(slots:List Nat)(R:Nat→(Nat→Value)→List Deferred→World→Prop)(n0:Nat)
  (h0:R n0 (fun s=>a.tmps.getD s undef) a.defers w)
  (round:∀m u ds w',R m u ds w'→c.wpIn F rm P (Exit.then (fun a' w''=>∃m',m'<m∧∃u' ds',a'=fillAct a slots u' ds'∧R m' u' ds' w'') Q) (fillAct a slots u ds) w'):(Code.loop c).wpIn F rm P Q a w:=by
 refine wpIn_loop_ghost (fun m a' w'=>∃u ds,a'=fillAct a slots u ds∧R m u ds w') n0 ⟨_,_,(fill_self a slots).symm,h0⟩ ?_
 rintro m a' w' ⟨u,ds,rfl,h⟩
 exact round m u ds w' h
end

section
open Go.RowKit
theorem range_listOI{P:Program}{α:Type}{g:Operand}{ps:Array Tmp}{assign body:Code}{Q:Exit→Act→World→Prop}{a:Act}{w:World}{l0:Nat}{r0:Loop}(hl0:w.heap[l0]? =some (.loop r0)){gf:Nat}{lb:Array Value}
  (hg:a.eval g=.func (.func gf) #[] lb) (eg:∀args w,(callFunc gf args).run P w=.ok (.enter gf args) w)
  {enc:α→Array Value} {l:List α} (I:World→Prop) (hit:IterOI P gf lb enc l I) (hps:∀x,(enc x).size=ps.size)
  (J:List α→List α→World→Prop) (Jx:Code→World→Prop)
  (hJ:∀d r,SteadyO w.heap.size (J d r)) (hJx:∀c,SteadyO w.heap.size (Jx c)) (hInv:∀d r W,J d r W→I W)
  (T:World→Nat→Prop) (hT0:∀d r W k,J d r W→T W k→k<W.heap.size) (hTg:∀W W' row,W.grownBy W' row→(∀q,row=some q→w.heap.size≤q∧∃o:Obj,W.heap[q]? =some o∧isOw o=true)→(∃d r,J d r W)→∀k,T W' k→T W k)
  (h0:J [] l w)
  (hround:∀(lp:Nat) (d:List α) (x:α) (r:List α) (W:World),l=d++x :: r→J d (x :: r) W→
    assign.wpIn (Fence.wide.inRound lp) 0 P (Exit.then (fun a1 W1=>Keep W W1∧J d (x :: r) W1∧Tch T W W1∧∃G:World→Prop,Steady w.heap.size G∧G W1∧∀(lp:Nat) (W2:World),w.heap.size≤lp→(∃rc,W2.heap[lp]? =some (.loop rc))→J d (x :: r) W2→G W2→
     body.wpIn (Fence.wide.inRound lp) 0 P (roundEnd (fun W'=>Keep W2 W'∧J (d++ [x]) r W'∧Tch T W2 W') (fun c W'=>Keep W2 W'∧Jx c W'∧OffT T W2 W')) a1 W2) (fun _ _ _=>False)) {tmps:=(ps.zip (enc x)).foldl (fun t (p,v)=>t.setIfInBounds p v) a.tmps,defers:= []} W)
  (hdone:∀(W:World),J l [] W→Q .normal a W)
  (hstop:∀(c:Code) (W:World),Jx c W→c.wpIn (Fence.wide.inRound l0) 0 P Q a W):
  (Code.rangeFunc g ps assign body).wpIn (Fence.wide.inRound l0) 0 P Q a w:=by
 refine range_innerO (enc:=enc) hl0 hg eg hit hps (fun s W=>∃d,l=d++s∧J d s W) Jx
  (fun s x a1 W=>∃G:World→Prop,Steady w.heap.size G∧G W∧∀(d:List α) (lp:Nat) (W2:World),w.heap.size≤lp→(∃rc,W2.heap[lp]? =some (.loop rc))→l=d++s→J d s W2→G W2→body.wpIn (Fence.wide.inRound lp) 0 P (roundEnd (fun W'=>Keep W2 W'∧J (d++ [x]) (nxL s x) W'∧Tch T W2 W') (fun c W'=>Keep W2 W'∧Jx c W'∧OffT T W2 W')) a1 W2)
  (fun s=>SteadyO.ex fun d=>(SteadyO.pure _ _).and (hJ d s)) hJx (fun _ _ _=>fun W W' row h hg hr=>let ⟨G,h1,h2,h3⟩:=h;⟨G,h1,h1 W W' row h2 hg hr,h3⟩) (fun s W ⟨d,_,h⟩=>hInv d s W h) T (fun s W k ⟨d,_,h⟩ ht=>hT0 d s W k h ht) (fun W W' row hg hr ⟨s,d,_,h⟩=>hTg W W' row hg hr ⟨d,s,h⟩) ⟨[],rfl,h0⟩ ?_ ?_ ?_ hstop
 ·rintro lp s x W hok ⟨d,hd,hj⟩;have hs:=okL_cons hok;generalize nxL s x=r at hs⊢;subst hs;refine wpIn_mono (hround lp d x r W hd hj) ?_;rintro e a1 W1 he;cases e with
  |normal=>
   obtain⟨h1,h2,hT1,G,h4,h5,h3⟩:=he;refine⟨h1,⟨d,hd,h2⟩,⟨G,h4,h5,fun d' lp' W2 hz' hr' hd' hj' hG'=>?_⟩,hT1⟩;have:d'=d:=by
    have:=hd'.symm.trans hd;exact List.append_cancel_right this
   subst this;exact h3 lp' W2 hz' hr' hj' hG'
  |_=>exact he.elim
 ·rintro lp s x a1 W hlp hr0 hok ⟨d,hd,hj⟩ ⟨G,_,hG,hA⟩;refine wpIn_mono (hA d lp W hlp hr0 hd hj hG) ?_;rintro e a3 W3 he;cases e with
  |normal=>
   refine⟨he.1,⟨d++ [x],?_,he.2.1⟩,he.2.2⟩;rw[hd,List.append_assoc]
   congr 1
   exact okL_cons hok
  |ret=>exact he
  |exit id=>exact he
  |goto t=>exact he
  |panic ch=>exact he.elim
  |outgrown=>exact he.elim
 ·rintro s W hf ⟨d,hd,hj⟩;have hf:s= []:=hf;subst hf;rw[List.append_nil] at hd;subst hd;exact hdone W hj
end

section
open Go.RowKit Go.Shelf
attribute [local go_sem] Oper.semAt_some wide_fn wide_depth wide_fnR wide_depthR
abbrev flowO(n g h:Nat):Obj:=.cells #[.slice (some ⟨g,0,none⟩) n n,.slice (some ⟨h,0,none⟩) n n] 171 (0,0)
abbrev flowZ:Obj:=.cells #[.slice none 0 0,.slice none 0 0] 171 (0,0)
abbrev rowWO(n:Nat):Obj:=.cells (madeCells (setW 0) (n*16)) 168 (0,0)
def LivEnd(bs:List BkL)(inn out:Nat→Nat):Prop:=
 (∀b,b<bs.length→∀j:Nat,j<1024→(inn b).testBit j=aheadL (bkOf bs b).ops (bkOf bs b).nd (bitF (out b)) (j:Int))∧
 ∀b,b<bs.length→∀c∈(bkOf bs b).to,∀j:Nat,j<1024→(inn c).testBit j=true→(out b).testBit j=true
def SolvedPost(bs:List BlkR)(bn:Nat)(w:World)(e:Ending)(w':World):Prop:=
 ∃(g o:Nat) (inn out:Nat→Nat),e=.returned (.agg #[.slice (some ⟨g,0,none⟩) bn bn,.slice (some ⟨o,0,none⟩) bn bn])∧OwnW w' w.heap.size (.slice (some ⟨g,0,none⟩) bn bn) bn inn∧OwnW w' w.heap.size (.slice (some ⟨o,0,none⟩) bn bn) bn out∧LivOK (bksL bs) inn out∧LivEnd (bksL bs) inn out∧Below w.heap.size w w'
theorem zero_W{n base g:Nat}(hn:n≤1000000){w:World}(hb:base≤g)(hg:w.heap[g]? =some (rowWO n)):OwnW w base (.slice (some ⟨g,0,none⟩) n n) n (fun _=>0):=by
 have h:w.ownsRow base 168 16 (.slice (some ⟨g,0,none⟩) n n) n (madeCells (setW 0) (n*16)).toList:=
  ⟨by simpa using size_madeCells (setW 0) (n*16),.inr ⟨g,n,madeCells (setW 0) (n*16),rfl,hb,hg,Nat.le_refl _,by unfold maxLen;omega,size_madeCells _ _,List.take_of_length_le (by rw[Array.length_toList,size_madeCells];exact Nat.le_refl _)⟩⟩
 have e:(madeCells (setW 0) (n*16)).toList=(famL n fun _=>0).flatMap bsC:=by
  have:=made_list (z:=setW 0) (by rw[setW_size];omega) n;rw[setW_size] at this;rw[this,famL,List.flatMap_map];rfl
 rw[e] at h
 exact⟨by rw[famL_len];exact h,by rw[famL_len];omega⟩
structure FlJ(w:World)(fo:Obj)(n R0 R1 PF:Nat)(inn out:Nat→Nat)(W:World):Prop where
 fn:W.heap[w.heap.size]? =some fo
 rs:W.heap[w.heap.size+1]? =some flowZ
 fl:W.heap[PF]? =some (flowO n R0 R1)
 inn:OwnW W (w.heap.size+2) (.slice (some ⟨R0,0,none⟩) n n) n inn
 out:OwnW W (w.heap.size+2) (.slice (some ⟨R1,0,none⟩) n n) n out
 b:Below w.heap.size w W
theorem FlJ.ext{w:World}{fo:Obj}{n R0 R1 PF:Nat}{inn out:Nat→Nat}{W W':World}(h:FlJ w fo n R0 R1 PF inn out W)(hb:Below W.heap.size W W'):FlJ w fo n R0 R1 PF inn out W':=
 ⟨block_ext hb h.fn,block_ext hb h.rs,block_ext hb h.fl,OwnR.ext h.inn hb,OwnR.ext h.out hb,ext_trans h.b hb⟩
theorem FlJ.steady{w:World}{fo:Obj}{n R0 R1 PF:Nat}{inn out:Nat→Nat}{B:Nat}(hf:isBook fo=false)(hB:w.heap.size≤B):Steady B (FlJ w fo n R0 R1 PF inn out):=fun W V row h hg hr=>
 ⟨Steady.block B _ hf W V row h.fn hg hr,Steady.block B _ rfl W V row h.rs hg hr,Steady.block B _ rfl W V row h.fl hg hr,Steady.ownR _ _ _ _ W V row h.inn hg hr,Steady.ownR _ _ _ _ W V row h.out hg hr,Steady.below (Nat.le_refl _) hB W V row h.b hg hr⟩
def ClosedB(bs:List BkL)(inn out:Nat→Nat)(b:Nat):Prop:=
 (∀j:Nat,j<1024→(inn b).testBit j=aheadL (bkOf bs b).ops (bkOf bs b).nd (bitF (out b)) (j:Int))∧
 ∀c∈(bkOf bs b).to,∀j:Nat,j<1024→(inn c).testBit j=true→(out b).testBit j=true
theorem backL_mem{α:Type}{l:List α}:∀{n k:Nat} {r:α},k<n→l[k]? =some r→(k,r)∈backL l n
 |0,_,_,h,_=>absurd h (by omega)
 |n+1,k,r,h,hk=>by
  by_cases e:k=n
  ·subst e;rw[backL_step hk];exact List.mem_cons_self
  ·have ih:=backL_mem (n:=n) (show k<n by omega) hk;show(k,r)∈(match l[n]? with|some r=>(n,r) :: backL l n|none=>backL l n)
   split
   ·exact List.mem_cons_of_mem _ ih
   ·exact ih
theorem backL_get{α:Type}{l:List α}:∀{n k:Nat} {r:α},(k,r)∈backL l n→k<n∧l[k]? =some r
 |0,_,_,h=>by cases h
 |n+1,k,r,h=>by
  have h:(k,r)∈(match l[n]? with|some r=>(n,r) :: backL l n|none=>backL l n):=h
  split at h
  ·rename_i r0 hr0
   rcases List.mem_cons.1 h with e|h
   ·injection e with e1 e2;subst e1 e2;exact⟨by omega,hr0⟩
   ·have:=backL_get h;exact⟨by omega,this.2⟩
  ·have:=backL_get h;exact⟨by omega,this.2⟩
def RdJ(w:World)(fo:Obj)(n R0 R1 PF p4 G:Nat)(ba:Option Addr)(bc:Nat)(bs:List BlkR)(inn0:Nat→Nat)(ds:List Deferred)(hi:Nat)(d:List (Nat×BlkR))(W:World):Prop:=
 ∃(ch:Bool) (inn out:Nat→Nat),W.heap[p4]? =some (.cells #[.bool ch] 4 (0,0))∧FlJ w fo n R0 R1 PF inn out W∧LivOK (bksL bs) inn out∧(ch=false→inn=inn0∧∀x∈d,ClosedB (bksL bs) inn out x.1)∧(ch=true→totS n inn<totS n inn0)∧W.cell? ⟨G,0,none⟩=some (.slice ba n bc)∧Marks (w.heap.size+2) hi ds W
theorem RdJ.steady{w:World}{fo:Obj}{n R0 R1 PF p4 G:Nat}{ba:Option Addr}{bc:Nat}{bs:List BlkR}{inn0:Nat→Nat}{ds:List Deferred}{hi:Nat}{d:List (Nat×BlkR)}{B:Nat}(hf:isBook fo=false)(hB:w.heap.size≤B)(hh:hi≤B):Steady B (RdJ w fo n R0 R1 PF p4 G ba bc bs inn0 ds hi d):=fun W V row h hg hr=>by
 obtain⟨ch,inn,out,h1,h2,h3,h4,h5,h6,h7⟩:=h
 exact⟨ch,inn,out,Steady.block B _ rfl W V row h1 hg hr,FlJ.steady hf hB W V row h2 hg hr,h3,h4,h5,Steady.cell B _ _ W V row h6 hg hr,Steady.marks hh ds W V row h7 hg hr⟩
theorem bsC_arr(S:Nat):(bsC S).toArray=setW S:=by simp[bsC]
theorem bset_len'{S:Nat}:(Tryz.prog.info? 168).map (·.size)=some (bsC S).length:=bset_len S
theorem keep_chg{W W':World}{g:Nat}{o:Obj}(hg:W.heap[g]? =some o)(ho:isBook o=false)(hc:Chg (fun j=>j=g) W W'):Keep W W':=fun k o' hk hb=>
 (hc.block k (lt_of_heap hk) fun e=>by subst e;rw[hg] at hk;cases hk;rw[ho] at hb;cases hb).trans hk
theorem own_obj{w:World}{base:Nat}{e:TypeId}{size g m c n:Nat}{xs:List Value}(h:w.ownsRow base e size (.slice (some ⟨g,0,none⟩) m c) n xs):∃o,w.heap[g]? =some o∧isBook o=false:=by
 rcases h.2 with ⟨h,_⟩|⟨g',cap,cur,h,_,hh,_⟩
 ·cases h
 ·injection h with h1;injection h1 with h1;injection h1 with h1;subst h1;exact⟨_,hh,rfl⟩
section
variable {w:World} {fo:Obj} {n R0 R1 PF:Nat} {inn out:Nat→Nat} {W W':World}
theorem below_chg{g:Nat}(h:Below w.heap.size w W)(hc:Chg (fun j=>j=g) W W')(hg:w.heap.size≤g):Below w.heap.size w W':=
 ⟨hc.os.trans h.os,hc.tape.trans h.tape,hc.output.trans h.output,Nat.le_trans h.size hc.size,fun k hk=>(hc.block k (Nat.lt_of_lt_of_le hk h.size) (by omega)).trans (h.block k hk)⟩
theorem FlJ.chg{g:Nat}(h:FlJ w fo n R0 R1 PF inn out W)(hc:Chg (fun j=>j=g) W W')(hg:w.heap.size+2≤g∧g≠R0∧g≠R1∧g≠PF):FlJ w fo n R0 R1 PF inn out W':=
 ⟨(hc.block _ (lt_of_heap h.fn) (by omega)).trans h.fn,(hc.block _ (lt_of_heap h.rs) (by omega)).trans h.rs,(hc.block _ (lt_of_heap h.fl) (by omega)).trans h.fl,⟨ownsRow_chg h.inn.1 hc (fun q e=>by simp[Value.ownBlock] at e;omega),h.inn.2⟩,⟨ownsRow_chg h.out.1 hc (fun q e=>by simp[Value.ownBlock] at e;omega),h.out.2⟩,below_chg h.b hc (by omega)⟩
theorem FlJ.putOut(h:FlJ w fo n R0 R1 PF inn out W)(hn:w.heap.size+2≤R1∧R0≠R1∧R1≠PF){k:Nat}(hk:k<n)(S:Nat):FlJ w fo n R0 R1 PF inn (putS' out k S) (W.setCells R1 (k*16) (setW S).toList)∧Keep W (W.setCells R1 (k*16) (setW S).toList):=by
 have hc:=setCells_chg W R1 (k*16) (setW S).toList
 obtain⟨o,h1,h2⟩:=own_obj h.out.1
 exact⟨⟨(hc.block _ (lt_of_heap h.fn) (by omega)).trans h.fn,(hc.block _ (lt_of_heap h.rs) (by omega)).trans h.rs,(hc.block _ (lt_of_heap h.fl) (by omega)).trans h.fl,⟨ownsRow_chg h.inn.1 hc (fun g e=>by simp[Value.ownBlock] at e;omega),h.inn.2⟩,ownW_set h.out hk S,below_chg h.b hc (by omega)⟩,keep_chg h1 h2 hc⟩
theorem FlJ.putIn(h:FlJ w fo n R0 R1 PF inn out W)(hn:w.heap.size+2≤R0∧R0≠R1∧R0≠PF){k:Nat}(hk:k<n)(S:Nat):FlJ w fo n R0 R1 PF (putS' inn k S) out (W.setCells R0 (k*16) (setW S).toList)∧Keep W (W.setCells R0 (k*16) (setW S).toList):=by
 have hc:=setCells_chg W R0 (k*16) (setW S).toList
 obtain⟨o,h1,h2⟩:=own_obj h.inn.1
 exact⟨⟨(hc.block _ (lt_of_heap h.fn) (by omega)).trans h.fn,(hc.block _ (lt_of_heap h.rs) (by omega)).trans h.rs,(hc.block _ (lt_of_heap h.fl) (by omega)).trans h.fl,ownW_set h.inn hk S,⟨ownsRow_chg h.out.1 hc (fun g e=>by simp[Value.ownBlock] at e;omega),h.out.2⟩,below_chg h.b hc (by omega)⟩,keep_chg h1 h2 hc⟩
end
theorem backL_low{α:Type}{l:List α}:∀{n k:Nat} {r:α},(k,r)∈backL l n→k<n
 |_,_,_,h=>(backL_get h).1
theorem backL_nodup{α:Type}{l:List α}:∀{n:Nat} {d:List (Nat×α)} {x:Nat×α} {r:List (Nat×α)},backL l n=d++x :: r→x.1∉d.map (·.1)
 |0,d,x,r,h=>by
  have h: []=d++x :: r:=h;cases d<;>cases h
 |n+1,[],x,r,_=>by simp
 |n+1,y :: d,x,r,h=>by
  have h:(match l[n]? with|some r=>(n,r) :: backL l n|none=>backL l n)=y :: (d++x :: r):=h
  split at h
  ·obtain⟨h1,h2⟩:=List.cons.inj h;have hx:x∈backL l n:=by rw[h2];simp
   have:=backL_low (k:=x.1) (r:=x.2) hx;simp only[List.map_cons,List.mem_cons,not_or];exact⟨by rw[←h1];exact fun e=>by have e:x.1=n:=e;omega,backL_nodup h2⟩
  ·exact backL_nodup (d:=y :: d) h
structure LToJ(w:World)(fo:Obj)(n R0 R1 PF:Nat)(bs:List BkL)(inn out:Nat→Nat)(k:Nat)(tos:List Int)(w5:World)(q:Nat)(out':Nat→Nat)(wr:World):Prop where
 f:FlJ w fo n R0 R1 PF inn out' wr
 l:LivOK bs inn out'
 kp:Keep w5 wr
 c:Chg (fun j=>j=R1) w5 wr
 e:∀b,b≠k→out' b=out b
 d:∀(j:Nat) (c:Int),j<q→tos[j]? =some c→∀i:Nat,i<1024→(inn c.toNat).testBit i=true→(out' k).testBit i=true
section
variable {w:World} {fo:Obj} {n R0 R1 PF:Nat} {bs:List BkL} {inn out out':Nat→Nat} {k q:Nat} {tos:List Int} {w5 wr wr':World}
theorem LToJ.ext(h:LToJ w fo n R0 R1 PF bs inn out k tos w5 q out' wr)(hb:Below wr.heap.size wr wr'):LToJ w fo n R0 R1 PF bs inn out k tos w5 q out' wr':=
 ⟨h.f.ext hb,h.l,h.kp.trans (Keep.ext hb),h.c.of_ext hb,h.e,h.d⟩
theorem LToJ.put(h:LToJ w fo n R0 R1 PF bs inn out k tos w5 q out' wr)(hl:bs.length=n)(hn:w.heap.size+2≤R1∧R0≠R1∧R1≠PF)(hto:ToOK bs)(hk:k<n){c:Nat}(hc:tos[q]? =some (c:Int))(hm:c∈(bkOf bs k).to):
  LToJ w fo n R0 R1 PF bs inn out k tos w5 (q+1) (putS' out' k (out' k|||inn c)) (wr.setCells R1 (k*16) (setW (out' k|||inn c)).toList):=by
 obtain⟨h1,h2⟩:=h.f.putOut hn hk (out' k|||inn c)
 refine⟨h1,h.l.or (by omega) hto hm,h.kp.trans h2,h.c.trans (setCells_chg wr R1 (k*16) _),fun b hb=>?_,fun j c' hj hj2 i hi ht=>?_⟩
 ·unfold putS';rw[if_neg hb];exact h.e b hb
 ·have e:putS' out' k (out' k|||inn c) k=out' k|||inn c:=by simp[putS']
  rw[e,Nat.testBit_or,Bool.or_eq_true];by_cases ej:j=q
  ·subst ej;rw[hc] at hj2;cases hj2;rw[Int.toNat_natCast] at ht;exact .inr ht
  ·exact .inl (h.d j c' (by omega) hj2 i hi ht)
end
theorem to_elem{bs:List BlkR}(hin:toIn bs=true){k:Nat}{x:BlkR}(hx:bs[k]? =some x){q:Nat}(hq:q<(toD x.h.t).length):
  ∃c:Nat,(toD x.h.t).getD q 0=(c:Int)∧c<bs.length∧(toD x.h.t)[q]? =some (c:Int)∧c∈(bkOf (bksL bs) k).to:=by
 have h1:=List.all_eq_true.1 hin x (List.mem_of_getElem? hx)
 have h2:=List.all_eq_true.1 h1 (toD x.h.t)[q] (List.getElem_mem hq)
 simp only[decide_eq_true_eq] at h2
 have h3:(((toD x.h.t)[q].toNat:Nat):Int)=(toD x.h.t)[q]:=by omega
 refine⟨(toD x.h.t)[q].toNat,?_,by omega,?_,?_⟩
 ·rw[h3,List.getD_eq_getElem?_getD,List.getElem?_eq_getElem hq];rfl
 ·rw[h3];exact List.getElem?_eq_getElem hq
 ·rw[bksL_at hx];exact List.mem_map.2 ⟨_,List.getElem_mem hq,rfl⟩
theorem size_blk:(Tryz.prog.info? 71).map (·.size)=some 5:=by kernel_rfl
theorem turn_plain{bs:List BkL}{inn0 inn out out2:Nat→Nat}{k P:Nat}{ch eq:Bool}{d:List Nat}(hk:k<bs.length)(hl:LivOK bs inn out2)(hP:P<2^1024)
  (hb:∀j:Nat,j<1024→P.testBit j=aheadL (bkOf bs k).ops (bkOf bs k).nd (bitF (out2 k)) (j:Int)) (he:∀b,b≠k→out2 b=out b)
  (hd:∀c∈(bkOf bs k).to,∀i:Nat,i<1024→(inn c).testBit i=true→(out2 k).testBit i=true) (hno:ch=false→inn=inn0∧∀x∈d,ClosedB bs inn out x) (hyes:ch=true→totS bs.length inn<totS bs.length inn0)
  (hdk:k∉d) (heq:eq=true↔P=inn k):
  LivOK bs (putS' inn k P) out2∧((ch|| !eq)=false→putS' inn k P=inn0∧∀x∈d++ [k],ClosedB bs (putS' inn k P) out2 x)∧((ch|| !eq)=true→totS bs.length (putS' inn k P)<totS bs.length inn0):=by
 have hdn:=hl.down hk hP hb
 refine⟨hl.point hk hP hb,fun h=>?_,fun h=>?_⟩
 ·simp only[Bool.or_eq_false_iff,Bool.not_eq_false'] at h;obtain⟨h1,h2⟩:=h;obtain⟨e0,h3⟩:=hno h1;have eP:=heq.1 h2;have e1:putS' inn k P=inn:=by
   funext j
   unfold putS'
   split
   ·rename_i e;rw[e,eP]
   ·rfl
  rw[e1];refine⟨e0,fun x hx=>?_⟩;rcases List.mem_append.1 hx with hx|hx
  ·have hxk:x≠k:=fun e=>hdk (e▸hx);obtain⟨h4,h5⟩:=h3 x hx;refine⟨?_,?_⟩
   ·rw[he x hxk];exact h4
   ·rw[he x hxk];exact h5
  ·simp only[List.mem_singleton] at hx;subst hx;exact⟨by rw[←eP];exact hb,hd⟩
 ·cases ch with
  |true=>exact Nat.lt_of_le_of_lt hdn.1 (hyes rfl)
  |false=>
   simp only[Bool.false_or,Bool.not_eq_true'] at h;rw[←(hno rfl).1];exact hdn.2 fun e=>by rw[heq.2 e] at h;cases h
theorem ptsL_cons{t:TermD}{S:Nat}{rs:List InsR}{m:Nat}{x:Nat×Nat}{s:List (Nat×Nat)}(h:ptsL t S rs m=x :: s):∃j,m=j+1∧x=(j,pointN t S (rs.drop j))∧s=ptsL t S rs j:=by
 cases m with
 |zero=>cases h
 |succ j=>
  obtain⟨h1,h2⟩:=List.cons.inj h;exact⟨j,rfl,h1.symm,h2.symm⟩
theorem ptsL_nil{t:TermD}{S:Nat}{rs:List InsR}{m:Nat}(h:ptsL t S rs m= []):m=0:=by
 cases m with
 |zero=>rfl
 |succ j=>cases h
theorem FlJ.steadyO{w:World}{fo:Obj}{n R0 R1 PF:Nat}{inn out:Nat→Nat}{B:Nat}(hB:w.heap.size+2≤B)(h0:R0<B)(h1:R1<B)(hp:PF<B):SteadyO B (FlJ w fo n R0 R1 PF inn out):=fun W V row h hg hr=>by
 have ne:∀j,j<B→some j≠row:=fun j hj e=>by have:=(hr j e.symm).1;omega
 exact⟨(hg.block _ (lt_of_heap h.fn) (ne _ (by omega))).trans h.fn,(hg.block _ (lt_of_heap h.rs) (ne _ (by omega))).trans h.rs,(hg.block _ (lt_of_heap h.fl) (ne _ (by omega))).trans h.fl,OwnR.kept h.inn hg (.inr (ne R0 h0)),OwnR.kept h.out hg (.inr (ne R1 h1)),SteadyO.below (Nat.le_refl _) (by omega) W V row h.b hg hr⟩
theorem putS_self(I:Nat→Nat)(b:Nat):putS' I b (I b)=I:=by
 funext k
 unfold putS'
 split
 ·rename_i e;rw[e]
 ·rfl
theorem putS_put(I:Nat→Nat)(b S T:Nat):putS' (putS' I b S) b T=putS' I b T:=by
 funext k
 unfold putS'
 split<;>rfl
structure PtsJ(w:World)(fo:Obj)(n R0 R1 PF:Nat)(x:BlkR)(inn out:Nat→Nat)(k:Nat)(w1:World)(s:List (Nat×Nat))(m P:Nat)(W:World):Prop where
 e:s=ptsL x.h.t (out k) x.rs m
 l:m≤x.h.n+1
 z:m=0→P=pointN x.h.t (out k) x.rs
 f:FlJ w fo n R0 R1 PF (putS' inn k P) out W
 c:Chg (fun j=>j=R0) w1 W
theorem PtsJ.steadyO{w:World}{fo:Obj}{n R0 R1 PF:Nat}{x:BlkR}{inn out:Nat→Nat}{k:Nat}{w1:World}{s:List (Nat×Nat)}{m P:Nat}{B:Nat}(hB:w.heap.size+2≤B)(h0:R0<B)(h1:R1<B)(hp:PF<B)(hw:w1.heap.size≤B):SteadyO B (PtsJ w fo n R0 R1 PF x inn out k w1 s m P):=fun W V row h hg hr=>
 ⟨h.e,h.l,h.z,FlJ.steadyO hB h0 h1 hp W V row h.f hg hr,h.c.grown hg fun q e=>.inr (Nat.le_trans hw (hr q e).1)⟩
end
end Go.Proofs.YthgebcfohnlhlaaGreatDoor
