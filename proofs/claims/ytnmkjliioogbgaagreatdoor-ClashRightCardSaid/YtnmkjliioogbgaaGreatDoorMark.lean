/-
 Which blocks are reached,by a queue,plain. No program in sight.
-/
import Derived.Test.YtnmkjliioogbgaaGreatDoorNR
import Derived.Test.YtnmkjliioogbgaaGreatDoorRows
namespace Go.Proofs.YtnmkjliioogbgaaGreatDoor
set_option linter.unusedSimpArgs false
set_option linter.unusedVariables false
set_option linter.unusedSectionVars false
set_option maxRecDepth 100000
set_option maxHeartbeats 40000000
section
structure QueOK(bs:List BkL)(seen:Nat→Bool)(q:List Nat):Prop where
 lt:∀b∈q,b<bs.length
 ok:∀b,b<bs.length→seen b=true→Reach0 bs b
 okq:∀b∈q,Reach0 bs b
 first:seen 0=true∨0∈q
 closed:∀b,b<bs.length→seen b=true→∀c∈(bkOf bs b).to,seen c=true∨c∈q
theorem QueOK.start{bs:List BkL}(h:0<bs.length):QueOK bs (fun _=>false) [0]:=
 ⟨fun b hb=>(by simp at hb;omega),fun b _ h=>(by cases h),fun b hb=>(by simp at hb;subst hb;exact .here rfl),.inr (by simp),fun b _ h=>(by cases h)⟩
theorem QueOK.skip{bs:List BkL}{seen:Nat→Bool}{b:Nat}{q:List Nat}(h:QueOK bs seen (b :: q))(hs:seen b=true):QueOK bs seen q:=by
 refine⟨fun c hc=>h.lt c (List.mem_cons_of_mem _ hc),h.ok,fun c hc=>h.okq c (List.mem_cons_of_mem _ hc),?_,fun c hc hsc d hd=>?_⟩
 ·rcases h.first with h1|h1
  ·exact .inl h1
  ·rcases List.mem_cons.1 h1 with rfl|h1
   ·exact .inl hs
   ·exact .inr h1
 ·rcases h.closed c hc hsc d hd with h1|h1
  ·exact .inl h1
  ·rcases List.mem_cons.1 h1 with rfl|h1
   ·exact .inl hs
   ·exact .inr h1
theorem QueOK.put{bs:List BkL}(hto:ToOK bs){seen:Nat→Bool}{b:Nat}{q:List Nat}(h:QueOK bs seen (b :: q)):QueOK bs (fun k=>if k=b then true else seen k) (q++(bkOf bs b).to):=by
 have hb:=h.lt b (by simp)
 have hr:=h.okq b (by simp)
 refine⟨fun c hc=>?_,fun c hc hsc=>?_,fun c hc=>?_,?_,fun c hc hsc d hd=>?_⟩
 ·rcases List.mem_append.1 hc with hc|hc
  ·exact h.lt c (List.mem_cons_of_mem _ hc)
  ·exact hto b hb c hc
 ·by_cases e:c=b
  ·subst e;exact hr
  ·exact h.ok c hc (by simpa[e] using hsc)
 ·rcases List.mem_append.1 hc with hc|hc
  ·exact h.okq c (List.mem_cons_of_mem _ hc)
  ·exact .step ((preds_mem bs c b).2 ⟨hb,hc⟩) hr
 ·by_cases e:(0:Nat)=b
  ·left;simp[e]
  ·rcases h.first with h1|h1
   ·left;simp[e,h1]
   ·rcases List.mem_cons.1 h1 with h1|h1
    ·exact absurd h1 e
    ·exact .inr (List.mem_append_left _ h1)
 ·by_cases e:c=b
  ·subst e;exact .inr (List.mem_append_right _ hd)
  ·rcases h.closed c hc (by simpa[e] using hsc) d hd with h1|h1
   ·left;by_cases e2:d=b<;>simp[e2,h1]
   ·rcases List.mem_cons.1 h1 with rfl|h1
    ·left;simp
    ·exact .inr (List.mem_append_left _ h1)
theorem QueOK.done{bs:List BkL}{seen:Nat→Bool}(h:QueOK bs seen []){b:Nat}(hb:b<bs.length):seen b=true↔Reach0 bs b:=by
 refine⟨h.ok b hb,fun hr=>?_⟩
 induction hr with
 | @here c h0=>
   have h0:c=0:=by simpa using h0
   rw[h0];exact h.first.resolve_right (by simp)
 |step h1 _ ih=>
  obtain⟨h2,h3⟩:=(preds_mem bs _ _).1 h1;exact(h.closed _ h2 (ih h2) _ h3).resolve_right (by simp)
theorem cnt_put{n b:Nat}{seen:Nat→Bool}(hb:b<n)(hs:seen b=false):cnt n (fun k=>if k=b then true else seen k)=cnt n seen+1:=by
 induction n with
 |zero=>omega
 |succ n ih=>
  rw[cnt_succ,cnt_succ];by_cases e:b=n
  ·subst e;have:cnt b (fun k=>if k=b then true else seen k)=cnt b seen:=by
    unfold cnt;exact List.countP_congr fun k hk=>by
     have:k≠b:=by have:=List.mem_range.1 hk;omega
     simp[this]
   rw[this,hs];simp
  ·rw[ih (by omega)];have:¬n=b:=fun x=>e x.symm;simp only[this,if_false]
   split<;>omega
theorem reach_all{bs:List BkL}{seen:Nat→Bool}(h:QueOK bs seen []):bs.length≤cnt bs.length seen↔∀b,b<bs.length→Reach0 bs b:=by
 constructor
 ·intro hc b hb;exact(h.done hb).1 (cnt_full hc b hb)
 ·intro ha;have:=cnt_mono (n:=bs.length) (p:=fun _=>true) (q:=seen) fun b hb _=>(h.done hb).2 (ha b hb);have e:cnt bs.length (fun _=>true)=bs.length:=by simp[cnt]
  omega
end

section
def outV(ops:List OpL)(f:Nat→Bool)(v:Nat):Bool:=f v||defsL ops (v:Int)
structure ValOK(ps:List Int)(bs:List BkL)(I:Nat→Nat→Bool):Prop where
 sound:∀b,b<bs.length→∀v:Nat,1≤v→v<201→I b v=false→LackIn bs ps (v:Int) b
 first:∀v:Nat,1≤v→v<201→(v:Int)∉ps→I 0 v=false
def putB(I:Nat→Nat→Bool)(b:Nat)(f:Nat→Bool):Nat→Nat→Bool:=fun k=>if k=b then f else I k
theorem ValOK.put{ps:List Int}{bs:List BkL}{I:Nat→Nat→Bool}(h:ValOK ps bs I){b c:Nat}(hb:b<bs.length)(hc:c∈(bkOf bs b).to)(O:Nat→Bool)
  (hO:∀v:Nat,1≤v→v<201→O v=false→LackIn bs ps (v:Int) b∧defsL (bkOf bs b).ops (v:Int)=false):
  ValOK ps bs (putB I c fun v=>I c v&&O v):=by
 refine⟨fun k hk v h1 h2 hf=>?_,fun v h1 h2 h3=>?_⟩
 ·unfold putB at hf
  split at hf
  ·rename_i e
   subst e;simp only[Bool.and_eq_false_iff] at hf;rcases hf with hf|hf
   ·exact h.sound k hk v h1 h2 hf
   ·obtain⟨h5,h6⟩:=hO v h1 h2 hf;refine .step (c:=b) ?_ h5;unfold lackX;refine List.mem_filter.2 ⟨(preds_mem bs k b).2 ⟨hb,hc⟩,by simp[h6]⟩
  ·exact h.sound k hk v h1 h2 hf
 ·unfold putB
  split
  ·rename_i e
   subst e;simp[h.first v h1 h2 h3]
  ·exact h.first v h1 h2 h3
theorem ValOK.out{ps:List Int}{bs:List BkL}{I:Nat→Nat→Bool}(h:ValOK ps bs I){b:Nat}(hb:b<bs.length):∀v:Nat,1≤v→v<201→outV (bkOf bs b).ops (I b) v=false→LackIn bs ps (v:Int) b∧defsL (bkOf bs b).ops (v:Int)=false:=by
 intro v h1 h2 hf
 unfold outV at hf
 simp only[Bool.or_eq_false_iff] at hf
 exact⟨h.sound b hb v h1 h2 hf.1,hf.2⟩
theorem ValOK.done{ps:List Int}{bs:List BkL}{I:Nat→Nat→Bool}(h:ValOK ps bs I)(hn:0<bs.length)
  (hf:∀b,b<bs.length→∀c∈(bkOf bs b).to,∀v,v<201→I c v=true→outV (bkOf bs b).ops (I b) v=true) {v:Nat} (h1:1≤v) (h2:v<201) {b:Nat} (hb:b<bs.length):
  I b v=false↔LackIn bs ps (v:Int) b:=by
 refine⟨h.sound b hb v h1 h2,fun hl=>?_⟩
 induction hl with
 |here h0=>
  simp only[lackG,Bool.and_eq_true,decide_eq_true_eq,Bool.not_eq_true',decide_eq_false_iff_not] at h0;obtain⟨rfl,h0⟩:=h0;exact h.first v h1 h2 h0
 | @step b c hc _ ih=>
   unfold lackX at hc;obtain⟨hc1,hc2⟩:=List.mem_filter.1 hc;obtain⟨hc3,hc4⟩:=(preds_mem bs b c).1 hc1;have ih:=ih hc3;cases hx:I b v with
   |false=>rfl
   |true=>
    have:=hf c hc3 b hc4 v h2 hx;unfold outV at this;rw[ih] at this;simp only[Bool.false_or] at this;rw[this] at hc2;cases hc2
def tot(W:Nat):Nat→(Nat→Nat→Bool)→Nat
 |0,_=>0
 |n+1,I=>tot W n I+cnt W (I n)
theorem tot_same{W n c:Nat}(hc:n≤c)(I:Nat→Nat→Bool)(f:Nat→Bool):tot W n (putB I c f)=tot W n I:=by
 induction n with
 |zero=>rfl
 |succ n ih=>
  simp only[tot];rw[ih (by omega)];have:putB I c f n=I n:=by unfold putB;rw[if_neg (by omega)]
  rw[this]
theorem tot_put{W n c:Nat}(hc:c<n)(I:Nat→Nat→Bool)(f:Nat→Bool)(hle:∀v,v<W→f v=true→I c v=true)(hne:∃v,v<W∧f v≠I c v):tot W n (putB I c f)<tot W n I:=by
 induction n with
 |zero=>omega
 |succ n ih=>
  simp only[tot];by_cases e:c=n
  ·subst e;rw[tot_same (Nat.le_refl _)];have:putB I c f c=f:=by unfold putB;rw[if_pos rfl]
   rw[this];obtain⟨v,hv,hn⟩:=hne;have:=cnt_lt (n:=W) (p:=f) (q:=I c) hle hv (by cases hf:f v with|false=>rfl|true=>exact absurd ((hle v hv hf).symm▸hf) hn) (by cases hi:I c v with|true=>rfl|false=>cases hf:f v with|false=>exact absurd (hf.trans hi.symm) hn|true=>rw[hle v hv hf] at hi;cases hi);omega
  ·have:=ih (by omega);have e2:putB I c f n=I n:=by unfold putB;rw[if_neg (by omega)]
   rw[e2];omega
def lacksB(ps:List Int)(bs:List BkL)(v:Int):Bool:=(List.range bs.length).any fun b=>decide (withinL (bkOf bs b).ops (bkOf bs b).nd v=1)&&liveD (lackG ps v) (lackX bs v) bs.length b
theorem lacks_iff(ps:List Int)(bs:List BkL)(v:Int):lacksB ps bs v=true↔Lacks bs ps v:=by
 unfold lacksB Lacks LackIn
 simp only[List.any_eq_true,List.mem_range,Bool.and_eq_true,decide_eq_true_eq]
 constructor
 ·rintro⟨b,hb,h1,h2⟩;exact⟨b,hb,(live_iff bs.length bs.length (by omega) (lackX_ok bs v) hb).2 h2,h1⟩
 ·rintro⟨b,hb,h1,h2⟩;exact⟨b,hb,h2,(live_iff bs.length bs.length (by omega) (lackX_ok bs v) hb).1 h1⟩
def anyLack(ps:List Int)(bs:List BkL):Bool:=(List.range' 1 200).any fun v:Nat=>lacksB ps bs (v:Int)
def allReach(bs:List BkL):Bool:=(List.range bs.length).all fun b=>liveD (fun b=>decide (b=0)) (preds bs) bs.length b
theorem allReach_iff(bs:List BkL):allReach bs=true↔∀b,b<bs.length→Reach0 bs b:=by
 unfold allReach Reach0
 simp only[List.all_eq_true,List.mem_range]
 exact⟨fun h b hb=>(live_iff bs.length bs.length (by omega) (preds_ok bs) hb).2 (h b hb),fun h b hb=>(live_iff bs.length bs.length (by omega) (preds_ok bs) hb).1 (h b hb)⟩
def VarsOK(bs:List BkL):Prop:=∀b,b<bs.length→∀v,withinL (bkOf bs b).ops (bkOf bs b).nd v=1→1≤v∧v≤200
theorem ValOK.any{ps:List Int}{bs:List BkL}{I:Nat→Nat→Bool}(h:ValOK ps bs I)(hn:0<bs.length)(hv:VarsOK bs)
  (hf:∀b,b<bs.length→∀c∈(bkOf bs b).to,∀v,v<201→I c v=true→outV (bkOf bs b).ops (I b) v=true):
  (∀b,b<bs.length→∀v,withinL (bkOf bs b).ops (bkOf bs b).nd v=1→I b v.toNat=true)↔anyLack ps bs=false:=by
 unfold anyLack
 simp only[List.any_eq_false,List.mem_range'_1,Bool.not_eq_true]
 constructor
 ·intro hp v ⟨h1,h2⟩;cases hx:lacksB ps bs (v:Int) with
  |false=>rfl
  |true=>
   obtain⟨b,hb,hl,hw⟩:=(lacks_iff ps bs (v:Int)).1 hx;have:=hp b hb (v:Int) hw;rw[show((v:Int)).toNat=v by omega] at this;rw[(h.done hn hf h1 (by omega) hb).2 hl] at this;cases this
 ·intro ha b hb v hw;obtain⟨h1,h2⟩:=hv b hb v hw;obtain⟨n,rfl⟩:∃n:Nat,v=n:=⟨v.toNat,by omega⟩
  rw[show((n:Int)).toNat=n by omega];cases hx:I b n with
  |true=>rfl
  |false=>
   have hl:=(h.done hn hf (by omega) (by omega) hb).1 hx;have:=ha n (by omega);rw[(lacks_iff ps bs (n:Int)).2 ⟨b,hb,hl,hw⟩] at this;cases this
end

section
def bitF(S:Nat):Int→Bool:=fun v=>decide (0≤v)&&S.testBit v.toNat
theorem bitF_nat(S j:Nat):bitF S (j:Int)=S.testBit j:=by simp[bitF]
theorem ahead_mono{ops:List OpL}{nd:List Int}{f g:Int→Bool}{v:Int}(h:f v=true→g v=true)(ha:aheadL ops nd f v=true):aheadL ops nd g v=true:=by
 rw[ahead_within] at ha⊢
 simp only[Bool.or_eq_true,Bool.and_eq_true,decide_eq_true_eq] at ha⊢
 exact ha.imp id fun x=>⟨x.1,h x.2⟩
def putS'(I:Nat→Nat)(b S:Nat):Nat→Nat:=fun k=>if k=b then S else I k
structure LivOK(bs:List BkL)(inn out:Nat→Nat):Prop where
 inS:∀b,b<bs.length→∀j:Nat,j<1024→(inn b).testBit j=true→NeedIn bs (j:Int) b
 outS:∀b,b<bs.length→∀j:Nat,j<1024→(out b).testBit j=true→NeedOut bs (j:Int) b
 inL:∀b,inn b<2^1024
 outL:∀b,out b<2^1024
 grow:∀b,b<bs.length→∀j:Nat,j<1024→(inn b).testBit j=true→aheadL (bkOf bs b).ops (bkOf bs b).nd (bitF (out b)) (j:Int)=true
theorem LivOK.start(bs:List BkL):LivOK bs (fun _=>0) (fun _=>0):=
 ⟨fun b _ j _ h=>by simp at h,fun b _ j _ h=>by simp at h,fun _=>Nat.two_pow_pos 1024,fun _=>Nat.two_pow_pos 1024,fun b _ j _ h=>by simp at h⟩
theorem LivOK.or{bs:List BkL}{inn out:Nat→Nat}(h:LivOK bs inn out){b c:Nat}(hb:b<bs.length)(hto:ToOK bs)(hc:c∈(bkOf bs b).to):LivOK bs inn (putS' out b (out b|||inn c)):=by
 refine⟨h.inS,fun k hk j hj ht=>?_,h.inL,fun k=>?_,fun k hk j hj ht=>?_⟩
 ·unfold putS' at ht
  split at ht
  ·rename_i e
   subst e;rw[Nat.testBit_or,Bool.or_eq_true] at ht;rcases ht with ht|ht
   ·exact h.outS k hk j hj ht
   ·exact⟨c,hc,h.inS c (hto k hk c hc) j hj ht⟩
  ·exact h.outS k hk j hj ht
 ·unfold putS'
  split
  ·exact Nat.or_lt_two_pow (n:=1024) (h.outL b) (h.inL c)
  ·exact h.outL k
 ·have h1:=h.grow k hk j hj ht;unfold putS'
  split
  ·rename_i e
   subst e;refine ahead_mono (fun hx=>?_) h1;rw[bitF_nat] at hx⊢;rw[Nat.testBit_or,hx];rfl
  ·exact h1
theorem LivOK.point{bs:List BkL}{inn out:Nat→Nat}(h:LivOK bs inn out){b P:Nat}(hb:b<bs.length)(hP:P<2^1024)(hj:∀j:Nat,j<1024→P.testBit j=aheadL (bkOf bs b).ops (bkOf bs b).nd (bitF (out b)) (j:Int)):LivOK bs (putS' inn b P) out:=by
 refine⟨fun k hk j hl ht=>?_,h.outS,fun k=>?_,h.outL,fun k hk j hl ht=>?_⟩
 ·unfold putS' at ht
  split at ht
  ·rename_i e
   subst e;rw[hj j hl,ahead_within] at ht;simp only[Bool.or_eq_true,Bool.and_eq_true,decide_eq_true_eq] at ht;refine(needIn_iff bs (j:Int) k).2 (ht.imp id fun x=>⟨x.1,h.outS k hk j hl ?_⟩);have:=x.2
   rwa [bitF_nat] at this
  ·exact h.inS k hk j hl ht
 ·unfold putS'
  split
  ·exact hP
  ·exact h.inL k
 ·unfold putS' at ht
  split at ht
  ·rename_i e
   subst e;rw[←hj j hl];exact ht
  ·exact h.grow k hk j hl ht
def totS(n:Nat)(I:Nat→Nat):Nat:=tot 1024 n fun b j=> !(I b).testBit j
theorem tot_ext{W:Nat}:∀{n:Nat} {I J:Nat→Nat→Bool},(∀b,b<n→I b=J b)→tot W n I=tot W n J
 |0,_,_,_=>rfl
 |n+1,I,J,h=>by
  simp only[tot];rw[tot_ext (n:=n) (I:=I) (J:=J) fun b hb=>h b (by omega),h n (by omega)]
theorem totS_put(n:Nat)(I:Nat→Nat)(b P:Nat):totS n (putS' I b P)=tot 1024 n (putB (fun b j=> !(I b).testBit j) b fun j=> !P.testBit j):=by
 refine tot_ext fun k _=>?_
 unfold putS' putB
 split<;>rfl
theorem bit_high{n S j:Nat}(hS:S<2^n)(hj:n≤j):S.testBit j=false:=Nat.testBit_lt_two_pow (Nat.lt_of_lt_of_le hS (Nat.pow_le_pow_right (by decide) hj))
theorem bits_ne{S T:Nat}(hS:S<2^1024)(hT:T<2^1024)(h:S≠T):∃j,j<1024∧S.testBit j≠T.testBit j:=by
 refine Classical.byContradiction fun hn=>h (Nat.eq_of_testBit_eq fun j=>?_)
 by_cases hj:j<1024
 ·exact Classical.byContradiction fun hx=>hn ⟨j,hj,hx⟩
 ·rw[bit_high (n:=1024) hS (by omega),bit_high (n:=1024) hT (by omega)]
theorem LivOK.down{bs:List BkL}{inn out:Nat→Nat}(h:LivOK bs inn out){b P:Nat}(hb:b<bs.length)(hP:P<2^1024)(hj:∀j:Nat,j<1024→P.testBit j=aheadL (bkOf bs b).ops (bkOf bs b).nd (bitF (out b)) (j:Int)):
  totS bs.length (putS' inn b P)≤totS bs.length inn∧(P≠inn b→totS bs.length (putS' inn b P)<totS bs.length inn):=by
 have key:P≠inn b→totS bs.length (putS' inn b P)<totS bs.length inn:=by
  intro hne;rw[totS_put];obtain⟨j,hl,hx⟩:=bits_ne hP (h.inL b) hne;refine tot_put hb _ _ (fun v hv ht=>?_) ⟨j,hl,fun e=>hx ?_⟩
  ·cases hi:(inn b).testBit v with
   |false=>rfl
   |true=>
    have:=h.grow b hb v hv hi;rw[←hj v hv] at this;rw[this] at ht;cases ht
  ·exact Bool.not_inj e
 refine⟨?_,key⟩
 by_cases e:P=inn b
 ·subst e;have:putS' inn b (inn b)=inn:=by
   funext k
   unfold putS'
   split
   ·rename_i e;rw[e]
   ·rfl
  rw[this];exact Nat.le_refl _
 ·exact Nat.le_of_lt (key e)
theorem LivOK.done{bs:List BkL}{inn out:Nat→Nat}(h:LivOK bs inn out)(hto:ToOK bs)
  (h1:∀b,b<bs.length→∀j:Nat,j<1024→(inn b).testBit j=aheadL (bkOf bs b).ops (bkOf bs b).nd (bitF (out b)) (j:Int))
  (h2:∀b,b<bs.length→∀c∈(bkOf bs b).to,∀j:Nat,j<1024→(inn c).testBit j=true→(out b).testBit j=true) {j:Nat} (hj:j<1024) {b:Nat} (hb:b<bs.length):
  ((inn b).testBit j=true↔NeedIn bs (j:Int) b)∧((out b).testBit j=true↔NeedOut bs (j:Int) b):=by
 have:=need_of_fix hto (fun b=>bitF (inn b)) (fun b=>bitF (out b)) (j:Int)
  (fun b hb hx=>h.inS b hb j hj (by rwa [bitF_nat] at hx)) (fun b hb hx=>h.outS b hb j hj (by rwa [bitF_nat] at hx))
  (fun b hb=>by show bitF (inn b) (j:Int)=_;rw[bitF_nat,h1 b hb j hj]) (fun b hb c hc hx=>by
    have hx:bitF (inn c) (j:Int)=true:=hx;show bitF (out b) (j:Int)=true;rw[bitF_nat] at hx⊢
    exact h2 b hb c hc j hj hx)
 have e1:=this.1 b hb
 have e2:=this.2 b hb
 rw[bitF_nat] at e1 e2
 exact⟨e1,e2⟩
def needB(bs:List BkL)(v:Int)(b:Nat):Bool:=liveD (needG bs v) (needX bs v) bs.length b
theorem needB_iff{bs:List BkL}(hto:ToOK bs)(v:Int){b:Nat}(hb:b<bs.length):needB bs v b=true↔NeedIn bs v b:=
 (live_iff bs.length bs.length (by omega) (needX_ok hto v) hb).symm
def vOutB(bs:List BkL)(v:Int)(b:Nat):Bool:=(bkOf bs b).to.any (needB bs v)
theorem vOutB_iff{bs:List BkL}(hto:ToOK bs)(v:Int){b:Nat}(hb:b<bs.length):vOutB bs v b=true↔NeedOut bs v b:=by
 unfold vOutB NeedOut
 simp only[List.any_eq_true]
 exact⟨fun⟨c,hc,h⟩=>⟨c,hc,(needB_iff hto v (hto b hb c hc)).1 h⟩,fun⟨c,hc,h⟩=>⟨c,hc,(needB_iff hto v (hto b hb c hc)).2 h⟩⟩
theorem needIn_var{bs:List BkL}(hv:VarsOK bs)(hto:ToOK bs){v:Int}{b:Nat}(hb:b<bs.length)(h:NeedIn bs v b):1≤v∧v≤200:=by
 induction h with
 |here h=>exact hv _ hb v (by simpa[needG] using h)
 |step h1 _ ih=>exact ih (needX_ok hto v _ hb _ h1)
def varsL(p:Int→Bool):List Int:=((List.range' 1 200).filter fun v:Nat=>p (v:Int)).map fun v:Nat=>(v:Int)
theorem varsL_mem{p:Int→Bool}{v:Int}:v∈varsL p↔1≤v∧v≤200∧p v=true:=by
 unfold varsL
 simp only[List.mem_map,List.mem_filter,List.mem_range'_1]
 constructor
 ·rintro⟨a,⟨⟨h1,h2⟩,h3⟩,rfl⟩;exact⟨by omega,by omega,h3⟩
 ·rintro⟨h1,h2,h3⟩;refine⟨v.toNat,⟨⟨by omega,by omega⟩,?_⟩,by omega⟩;rw[show((v.toNat:Nat):Int)=v by omega];exact h3
theorem varsL_ext{p q:Int→Bool}(h:∀v:Nat,1≤v→v≤200→p (v:Int)=q (v:Int)):varsL p=varsL q:=by
 unfold varsL
 congr 1
 refine List.filter_congr fun v hv=>?_
 obtain⟨h1,h2⟩:=List.mem_range'_1.1 hv
 exact h v h1 (by omega)
theorem varsL_len(p:Int→Bool):(varsL p).length≤200:=by
 unfold varsL
 rw[List.length_map]
 have:=List.length_filter_le (fun v:Nat=>p (v:Int)) (List.range' 1 200)
 rwa [List.length_range'] at this
theorem vars_bits{S:Nat}{p:Int→Bool}(h:∀j:Nat,j<1024→(S.testBit j=true↔1≤j∧j≤200∧p (j:Int)=true)):((List.range 1024).filter S.testBit).map (fun k:Nat=>(k:Int))=varsL p:=by
 unfold varsL
 refine congrArg _ ?_
 have e:List.range 1024= [0]++List.range' 1 200++List.range' 201 823:=by
  rw[List.range_eq_range'];rw[show [0]=List.range' 0 1 from rfl,List.range'_append_1,List.range'_append_1]
 rw[e,List.filter_append,List.filter_append]
 have h0: [0].filter S.testBit= []:=by
  have:S.testBit 0=false:=by
   cases hx:S.testBit 0 with
   |false=>rfl
   |true=>have:=(h 0 (by omega)).1 hx;omega
  simp only[List.filter_cons,List.filter_nil,this,Bool.false_eq_true,if_false]
 have h2:(List.range' 201 823).filter S.testBit= []:=List.filter_eq_nil_iff.2 fun j hj hx=>by
  obtain⟨h1,h2⟩:=List.mem_range'_1.1 hj;have:=(h j (by omega)).1 hx;omega
 rw[h0,h2,List.nil_append,List.append_nil]
 refine List.filter_congr fun v hv=>?_
 obtain⟨h1,h2⟩:=List.mem_range'_1.1 hv
 rw[Bool.eq_iff_iff,h v (by omega)]
 exact⟨fun x=>x.2.2,fun x=>⟨h1,by omega,x⟩⟩
end

section
structure EdgeD where
 fr:Int
 arm:Int
 to:Int
deriving DecidableEq
def armsF(b:Nat):Nat→List Int→List EdgeD
 |_,[]=> []
 |i,x :: l=>⟨b,i,x⟩ :: armsF b (i+1) l
def edgesAt(ts:List TermD)(b:Nat):List EdgeD:=armsF b 0 (toD (ts.getD b zTerm))
def edgesFrom(ts:List TermD)(b:Nat):List EdgeD:=(List.range' b (ts.length-b)).flatMap (edgesAt ts)
def edgesL(ts:List TermD):List EdgeD:=edgesFrom ts 0
theorem edgesFrom_step(ts:List TermD)(b:Nat)(h:b<ts.length):edgesFrom ts b=edgesAt ts b++edgesFrom ts (b+1):=by
 rw[edgesFrom,show ts.length-b=(ts.length-(b+1))+1 by omega,List.range'_succ,List.flatMap_cons]
 rfl
theorem edgesFrom_end(ts:List TermD)(b:Nat)(h:ts.length≤b):edgesFrom ts b= []:=by
 rw[edgesFrom,show ts.length-b=0 by omega];rfl
theorem armsF_len(b:Nat):∀(l:List Int) (i:Nat),(armsF b i l).length=l.length
 | [],i=>rfl
 |x :: l,i=>by simp[armsF,armsF_len b l (i+1)]
theorem edgesAt_len(ts:List TermD)(b:Nat):(edgesAt ts b).length≤2:=by rw[edgesAt,armsF_len];exact toD_len _
theorem edgesL_len(ts:List TermD):(edgesL ts).length≤2*ts.length:=by
 have key:∀n b,((List.range' b n).flatMap (edgesAt ts)).length≤2*n:=by
  intro n
  induction n with
  |zero=>intro b;simp
  |succ n ih=>
   intro b;rw[List.range'_succ,List.flatMap_cons,List.length_append];have:=ih (b+1);have:=edgesAt_len ts b;omega
 exact key _ _
end

section
def allE(ts:List TermD):List EdgeD:=if fitsB ts then edgesL ts else []
theorem armsF_mem(b:Nat):∀(l:List Int) (i:Nat) (x:EdgeD),x∈armsF b i l↔∃j,j<l.length∧x=⟨b,((i+j:Nat):Int),l.getD j 0⟩
 | [],i,x=>by simp[armsF]
 |y :: l,i,x=>by
  rw[armsF,List.mem_cons,armsF_mem b l (i+1)];constructor
  ·rintro(rfl|⟨j,hj,rfl⟩)
   ·exact⟨0,by simp,by simp⟩
   ·exact⟨j+1,by simp;omega,by simp;omega⟩
  ·rintro⟨j,hj,rfl⟩;cases j with
   |zero=>left;simp
   |succ j=>right;exact⟨j,by simp at hj;omega,by simp;omega⟩
theorem mem_edgesL(ts:List TermD)(x:EdgeD):x∈edgesL ts↔∃b j,b<ts.length∧j<(toD (ts.getD b zTerm)).length∧x=⟨(b:Nat),(j:Nat),(toD (ts.getD b zTerm)).getD j 0⟩:=by
 simp only[edgesL,edgesFrom,Nat.sub_zero,List.mem_flatMap,List.mem_range',Nat.one_mul,Nat.zero_add,edgesAt,armsF_mem]
 constructor
 ·rintro⟨b,⟨q,hq,e⟩,j,hj,rfl⟩;have hb:b<ts.length:=by omega
  exact⟨b,j,hb,hj,rfl⟩
 ·rintro⟨b,j,hb,hj,rfl⟩;exact⟨b,⟨b,hb,rfl⟩,j,hj,rfl⟩
theorem allE_mem{ts:List TermD}{x:EdgeD}(h:x∈allE ts):0≤x.fr∧x.fr<ts.length∧1≤x.to∧x.to<ts.length:=by
 unfold allE at h
 split at h
 case isFalse=>cases h
 case isTrue hf=>
  have hg:goodB ts=true:=by simp only[fitsB,Bool.and_eq_true] at hf;exact hf.1
  obtain⟨b,j,hb,hj,rfl⟩:=(mem_edgesL _ _).1 h;have hm:ts.getD b zTerm∈ts:=by rw[List.getD_eq_getElem?_getD,List.getElem?_eq_getElem hb];exact List.getElem_mem _
  have:=(((goodB_iff ts).1 hg).2 _ hm).2 ((toD (ts.getD b zTerm)).getD j 0) (by rw[List.getD_eq_getElem?_getD (l:=toD _),List.getElem?_eq_getElem hj];exact List.getElem_mem _);refine⟨by simp,by simp;omega,this.1,this.2⟩
end

section
def chainF(l:List TileD):Nat→Int→List Int
 |0,_=> []
 |f+1,k=>if 0≤k then k :: chainF l f (parL l k.toNat) else []
def chainL(l:List TileD)(k:Int):List Int:=chainF l (k.toNat+1) k
theorem chainF_eq{l:List TileD}(hp:parentsB l=true):∀(f:Nat) (k:Int),k<l.length→k<f→chainF l f k=chainL l k:=by
 rw[parentsB_iff] at hp
 intro f
 induction f using Nat.strongRecOn with
 |_ f ih=>
  intro k hk hf;by_cases h0:0≤k
  ·have h1:=hp k.toNat (by omega);cases f with
   |zero=>omega
   |succ f=>
    rw[chainL,chainF,chainF,if_pos h0,if_pos h0];have e:((k.toNat:Nat):Int)=k:=by omega
    rw[ih f (by omega) _ (by omega) (by omega)];by_cases e2:k.toNat=f
    ·rw[e2,←ih f (by omega) (parL l f) (by rw[←e2];omega) (by rw[←e2];omega)]
    ·rw[ih k.toNat (by omega) _ (by omega) (by omega)]
  ·rw[chainL];cases f with
   |zero=>rw[show k.toNat=0 by omega];simp[chainF,h0]
   |succ f=>rw[show k.toNat=0 by omega];simp[chainF,h0]
theorem chainL_step{l:List TileD}(hp:parentsB l=true){k:Int}(h0:0≤k)(hk:k<l.length):chainL l k=k :: chainL l (parL l k.toNat):=by
 have h1:=(parentsB_iff l).1 hp k.toNat (by omega)
 rw[chainL,chainF,if_pos h0,chainF_eq hp _ _ (by omega) (by omega)]
theorem chainL_end(l:List TileD){k:Int}(h0:k<0):chainL l k= []:=by
 rw[chainL,show k.toNat=0 by omega,chainF,if_neg (by omega)]
theorem chainL_len{l:List TileD}(hp:parentsB l=true):∀(n:Nat) (k:Int),k<n→k<l.length→(chainL l k).length≤n:=by
 intro n
 induction n with
 |zero=>intro k hk _;rw[chainL_end l (by omega)];simp
 |succ n ih=>
  intro k hk hl;by_cases h0:0≤k
  ·have h1:=(parentsB_iff l).1 hp k.toNat (by omega);rw[chainL_step hp h0 hl];have:=ih (parL l k.toNat) (by omega) (by omega);simp;omega
  ·rw[chainL_end l (by omega)];simp
theorem mem_chainL{l:List TileD}(hp:parentsB l=true)(m:Int):∀(n:Nat),n<l.length→(m∈chainL l n↔0≤m∧descB l m.toNat n=true):=by
 intro n
 induction n using Nat.strongRecOn with
 |_ n ih=>
  intro hn;have h1:=(parentsB_iff l).1 hp n hn;rw[chainL_step hp (by omega) (by omega),List.mem_cons,descB_eq hp _ n hn];simp only[Int.toNat_natCast,Bool.or_eq_true,Bool.and_eq_true,decide_eq_true_eq,beq_iff_eq];by_cases h2:0≤parL l n
  ·have e:((parL l n).toNat:Int)=parL l n:=by omega
   have:=ih (parL l n).toNat (by omega) (by omega);rw[e] at this;rw[this];constructor
   ·rintro(rfl|⟨h3,h4⟩)
    ·exact⟨by omega,.inl (by omega)⟩
    ·exact⟨h3,.inr ⟨h2,h4⟩⟩
   ·rintro⟨h3,(h4|⟨_,h4⟩)⟩
    ·left;omega
    ·exact .inr ⟨h3,h4⟩
  ·rw[chainL_end l (by omega)];constructor
   ·rintro(rfl|h3)
    ·exact⟨by omega,.inl (by omega)⟩
    ·cases h3
   ·rintro⟨h3,(h4|⟨h4,_⟩)⟩
    ·left;omega
    ·exact absurd h4 h2
def inL(l:List TileD)(b:Int):List Int:=chainL l (ownF l b.toNat)
def besL(l:List TileD)(b o:Int):List Int:=(inL l b).filter fun k=> !(inL l o).contains k
structure RowD where
 e:EdgeD
 lv:List Int
 en:List Int
def rowOf(l:List TileD)(x:EdgeD):RowD:=⟨x,besL l x.fr x.to,(besL l x.to x.fr).reverse⟩
def betwB(l:List TileD)(asked:EdgeD→Bool)(x:EdgeD):Bool:=(ownF l x.fr.toNat != ownF l x.to.toNat)&&asked x
def rowsL(ts:List TermD)(l:List TileD)(asked:EdgeD→Bool):List RowD:=((edgesL ts).filter (betwB l asked)).map (rowOf l)
theorem inL_len{l:List TileD}(hp:parentsB l=true)(b:Int)(hb:ownF l b.toNat<l.length):(inL l b).length≤l.length:=chainL_len hp _ _ (by omega) (by omega)
theorem own_home{l:List TileD}{n:Nat}(h:ownB l n=true){b:Nat}(hb:b<n):homes l b= [ownF l b]:=by
 simp only[ownB,List.all_eq_true,List.mem_range,beq_iff_eq] at h
 have:=h b hb
 unfold ownF
 match e:homes l b,this with
 | [x],_=>rfl
theorem mem_homes(l:List TileD)(b k:Nat):k∈homes l b↔k<l.length∧(b:Int)∈blkL l k:=by
 simp only[homes,List.mem_flatMap,List.mem_range,List.mem_map,List.mem_filter,beq_iff_eq]
 constructor
 ·rintro⟨q,hq,x,⟨hx,rfl⟩,rfl⟩;exact⟨hq,hx⟩
 ·rintro⟨hk,hb⟩;exact⟨k,hk,b,⟨hb,rfl⟩,rfl⟩
theorem own_iff{l:List TileD}{n:Nat}(h:ownB l n=true){b:Nat}(hb:b<n)(k:Nat):(k<l.length∧(b:Int)∈blkL l k)↔ownF l b=k:=by
 rw[←mem_homes,own_home h hb,List.mem_singleton]
 exact⟨fun e=>e.symm,fun e=>e.symm⟩
theorem own_lt{l:List TileD}{n:Nat}(h:ownB l n=true){b:Nat}(hb:b<n):ownF l b<l.length:=((own_iff h hb _).2 rfl).1
end

section
open Go.RowKit
theorem sameInts_any(a b:Option Addr)(n m c d:Nat)(xs ys:List Int)(w:World)(h:Ints w a n xs)(h':Ints w b m ys):
  Calls Tryz.prog 15 #[.slice a n c,.slice b m d] w fun e w'=>e=.returned (.bool (decide (xs=ys)))∧∃q,w'=w.drewN q:=by
 obtain⟨hl,hn,hc⟩:=h
 obtain⟨hl',hn',hc'⟩:=h'
 by_cases hnm:n=m
 ·subst hnm;have HL:=Lib.hid hl;have HC:=Lib.hid hc;have HL':=Lib.hid hl';have HC':=Lib.hid hc';clear hl hc hl' hc';have hne:((n:Int) != (n:Int))=false:=by simp
  go_enter Tryz.func15,Tryz.ntmps15
  go_wp2
  go_loopw [5] (fun i wr=>∃(k q:Nat),k≤n∧i=.int .i64 k∧wr=w.drewN q∧Hid (∀j,j<k→xs.getD j 0=ys.getD j 0)) (fun i _=>n-(intOf i).toNat)
  case atStart=>exact⟨0,0,by omega,rfl,rfl,fun j hj=>absurd hj (by omega)⟩
  case round=>
   obtain⟨k,q,hk,rfl,rfl,HR⟩:=hrel;by_cases hlt:k<n
   ·obtain⟨b1,o1,rfl,hcell1,hw1,hw2⟩:=HC.out k hlt;obtain⟨b2,o2,rfl,hcell2,hw3,hw4⟩:=HC'.out k hlt;by_cases he:xs.getD k 0=ys.getD k 0
    ·have HE:Hid (∀j,j<k+1→xs.getD j 0=ys.getD j 0):=fun j hj=>by
      by_cases hjk:j=k
      ·subst hjk;exact he
      ·exact HR.out j (by omega)
     rw[←he] at hcell2;generalize xs.getD k 0=y at *;clear he;go_wp2
     go_quiet (fail)
     go_wp2
     go_roundw
     case rel=>exact⟨k+1,_,by omega,by go_num,rfl,HE⟩
     case measure=>simp[intOf];omega
    ·have HE:Hid (xs≠ys):=fun e=>he (by rw[e]);have hb:(xs.getD k 0 != ys.getD k 0)=true:=by simpa using he
     generalize xs.getD k 0=y at *;generalize ys.getD k 0=z at *;clear he;go_wp2
     go_quiet (fail)
     go_wp2
     go_ret
     exact⟨ret_bool (by rw[decide_eq_false HE.out]),_,World.drewN_drewN _ _ _⟩
   ·have HE:Hid (xs=ys):=List.ext_getElem (by rw[HL.out,HL'.out]) (fun j h1 h2=>by
     have:=HR.out j (by rw[HL.out] at h1;omega)
     simpa[List.getD,h1,h2] using this)
    go_wp2
    go_ret
    exact⟨ret_bool (by rw[decide_eq_true HE.out]),_,rfl⟩
 ·have HE:Hid (xs≠ys):=fun e=>hnm (by rw[←hl,←hl',e]);have hne:((n:Int) != (m:Int))=true:=by simp;omega
  clear hc hc' hl hl' hnm
  go_enter Tryz.func15,Tryz.ntmps15
  go_wp2
  go_ret
  exact⟨ret_bool (by rw[decide_eq_false HE.out]),0,rfl⟩
end

section
open Go.RowKit
def markV(k i:Int):Int:=1000003*(k+7)+i
theorem mark_any(k i:Int)(w:World)(hk:0≤k∧k≤1000000000)(hi:0≤i∧i≤100000000000000):
  Calls Tryz.prog 16 #[.int .i64 k,.int .i64 i] w fun e w'=>e=.returned (.int .i64 (markV k i))∧w=w':=by
 obtain⟨_,_⟩:=hk
 obtain⟨_,_⟩:=hi
 go_enter Tryz.func16,Tryz.ntmps16
 go_wp2
 go_ret
 exact⟨rfl,rfl⟩
end
end Go.Proofs.YtnmkjliioogbgaaGreatDoor
