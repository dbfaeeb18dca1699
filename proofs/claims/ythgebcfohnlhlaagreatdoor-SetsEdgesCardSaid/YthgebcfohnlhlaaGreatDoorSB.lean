/-
 Sets of numbers as words of sixty-four bits,plain. No program in sight.
-/
import Derived.Test.YthgebcfohnlhlaaGreatDoorNR
import Derived.Lib.TrailingZeros
import Derived.Laws.Bits64b
import Derived.Test.YthgebcfohnlhlaaGreatDoorRows2
import Derived.Test.YthgebcfohnlhlaaGreatDoorProg
import Derived.Test.YthgebcfohnlhlaaGreatDoorPA
import Derived.Deep.Cut
import Derived.Deep.CutRange
import Derived.Deep.DeepCutAuto
import Derived.LoopTactic
import Derived.Deep.Light
namespace Go.Proofs.YthgebcfohnlhlaaGreatDoor
set_option linter.unusedSimpArgs false
set_option linter.unusedVariables false
set_option linter.unusedSectionVars false
set_option maxRecDepth 100000
set_option maxHeartbeats 40000000
section
def wd(S k:Nat):Nat:=(S >>> (64*k))%2^64
theorem wd_lt(S k:Nat):wd S k<18446744073709551616:=Nat.mod_lt _ (by decide)
theorem wd_bit(S k j:Nat):(wd S k).testBit j=(decide (j<64)&&S.testBit (64*k+j)):=by
 rw[wd,Nat.testBit_mod_two_pow,Nat.testBit_shiftRight]
def insN(S n:Nat):Nat:=S|||2^n
def delN(S n:Nat):Nat:=S ^^^ (S&&&2^n)
theorem ins_bit(S n j:Nat):(insN S n).testBit j=(S.testBit j||decide (n=j)):=by
 rw[insN,Nat.testBit_or,Nat.testBit_two_pow]
theorem del_bit(S n j:Nat):(delN S n).testBit j=(S.testBit j&& !decide (n=j)):=by
 rw[delN,Nat.testBit_xor,Nat.testBit_and,Nat.testBit_two_pow]
 cases S.testBit j<;>cases decide (n=j)<;>rfl
theorem wd_ins(S n:Nat):wd (insN S n) (n/64)=wd S (n/64)|||2^(n%64):=by
 apply Nat.eq_of_testBit_eq
 intro j
 rw[wd_bit,ins_bit,Nat.testBit_or,wd_bit,Nat.testBit_two_pow]
 by_cases hj:j<64
 ·have:(n=64*(n/64)+j)↔n%64=j:=by omega
  simp[hj,this]
 ·have:¬n%64=j:=by omega
  simp[hj,this]
theorem wd_ins_ne{S n k:Nat}(h:k≠n/64):wd (insN S n) k=wd S k:=by
 apply Nat.eq_of_testBit_eq
 intro j
 rw[wd_bit,ins_bit,wd_bit]
 by_cases hj:j<64
 ·have:¬n=64*k+j:=by omega
  simp[this]
 ·simp[hj]
theorem wd_del(S n:Nat):wd (delN S n) (n/64)=wd S (n/64) ^^^ (wd S (n/64)&&&2^(n%64)):=by
 apply Nat.eq_of_testBit_eq
 intro j
 rw[wd_bit,del_bit,Nat.testBit_xor,Nat.testBit_and,wd_bit,Nat.testBit_two_pow]
 by_cases hj:j<64
 ·have:(n=64*(n/64)+j)↔n%64=j:=by omega
  simp only[hj,decide_true,Bool.true_and,this];cases S.testBit (64*(n/64)+j)<;>cases decide (n%64=j)<;>rfl
 ·simp[hj]
theorem wd_del_ne{S n k:Nat}(h:k≠n/64):wd (delN S n) k=wd S k:=by
 apply Nat.eq_of_testBit_eq
 intro j
 rw[wd_bit,del_bit,wd_bit]
 by_cases hj:j<64
 ·have:¬n=64*k+j:=by omega
  simp[this]
 ·simp[hj]
theorem wd_or(S T k:Nat):wd (S|||T) k=wd S k|||wd T k:=by
 apply Nat.eq_of_testBit_eq
 intro j
 rw[wd_bit,Nat.testBit_or,Nat.testBit_or,wd_bit,wd_bit]
 cases decide (j<64)<;>simp
theorem bits_andNot_u64_nat(a b:Nat)(ha:a<18446744073709551616)(hb:b<18446744073709551616):bits .andNot .u64 (a:Int) (b:Int)=((a ^^^ (a&&&b):Nat):Int):=by
 have h1:(BitVec.ofInt 64 (a:Int)).toNat=a:=by
  rw[BitVec.ofInt_natCast,BitVec.toNat_ofNat];exact Nat.mod_eq_of_lt (by omega)
 have h2:(BitVec.ofInt 64 (b:Int)).toNat=b:=by
  rw[BitVec.ofInt_natCast,BitVec.toNat_ofNat];exact Nat.mod_eq_of_lt (by omega)
 have h3:(BitVec.ofInt 64 (a:Int)&&& ~~~BitVec.ofInt 64 (b:Int)).toNat=a ^^^ (a&&&b):=by
  apply Nat.eq_of_testBit_eq;intro j;have e1:(BitVec.ofInt 64 (a:Int)).getLsbD j=a.testBit j:=by rw[←BitVec.testBit_toNat,h1]
  have e2:(BitVec.ofInt 64 (b:Int)).getLsbD j=b.testBit j:=by rw[←BitVec.testBit_toNat,h2]
  rw[BitVec.testBit_toNat,BitVec.getLsbD_and,BitVec.getLsbD_not,e1,e2,Nat.testBit_xor,Nat.testBit_and];by_cases hj:j<64
  ·simp[hj];cases a.testBit j<;>cases b.testBit j<;>rfl
  ·have ha2:a.testBit j=false:=Nat.testBit_lt_two_pow (Nat.lt_of_lt_of_le (show a<2^64 from ha) (Nat.pow_le_pow_right (by decide) (by omega)));simp[hj,ha2]
 show IntKind.u64.wrap ((BitVec.ofInt 64 (a:Int)&&& ~~~BitVec.ofInt 64 (b:Int)).toNat:Int)=_
 have h4:a ^^^ (a&&&b)<2^64:=Nat.xor_lt_two_pow ha (Nat.and_lt_two_pow _ hb)
 rw[h3,IntKind.wrap_u64]
 omega
def bitsL(n S:Nat):List Nat:=(List.range n).filter S.testBit
theorem filter_least(n:Nat)(p q:Nat→Bool)(c:Nat)(hc:c<n)(hp:p c=true)(hl:∀j,j<c→p j=false)(hq:∀j,q j=(p j&& !decide (j=c))):(List.range n).filter p=c :: (List.range n).filter q:=by
 obtain⟨k,rfl⟩:∃k,n=c+(k+1):=⟨n-c-1,by omega⟩
 have e1:(List.range c).filter p= []:=List.filter_eq_nil_iff.2 fun j hj=>by rw[hl j (List.mem_range.1 hj)];simp
 have e2:(List.range c).filter q= []:=List.filter_eq_nil_iff.2 fun j hj=>by rw[hq,hl j (List.mem_range.1 hj)];simp
 rw[List.range_add,List.filter_append,List.filter_append,e1,e2,List.nil_append,List.nil_append,List.range_succ_eq_map,List.map_cons,List.filter_cons,List.filter_cons,Nat.add_zero,if_pos hp,if_neg (by rw[hq];simp)]
 congr 1
 apply List.filter_congr
 intro j hj
 simp only[List.map_map,List.mem_map,List.mem_range,Function.comp] at hj
 obtain⟨i,_,rfl⟩:=hj
 rw[hq]
 have:¬c+(i+1)=c:=by omega
 simp[this]
theorem low_bits(x:Nat)(h0:x≠0)(hx:x<2^64):x.testBit (Lib.ctz 64 x)=true∧Lib.ctz 64 x<64∧(∀j,j<Lib.ctz 64 x→x.testBit j=false)∧∀j,(x&&&(x-1)).testBit j=(x.testBit j&& !decide (j=Lib.ctz 64 x)):=by
 obtain⟨m,hm,hlt⟩:=Lib.ctzFrom_spec 64 x (by omega) hx
 have e:Lib.ctz 64 x=Lib.ctzFrom 64 x:=by rw[Lib.ctz,if_neg h0]
 rw[e]
 generalize Lib.ctzFrom 64 x=c at hm hlt
 have b1:∀j,x.testBit j=(decide (j≥c)&&(2*m+1).testBit (j-c)):=fun j=>by rw[hm,Nat.testBit_two_pow_mul]
 have h2:x-1=2^c*(2*m)+(2^c-1):=by
  have:=Nat.two_pow_pos c;rw[hm,Nat.mul_add,Nat.mul_one];omega
 have b2:∀j,(x-1).testBit j=if j<c then (2^c-1).testBit j else (2*m).testBit (j-c):=fun j=>by rw[h2,Nat.testBit_two_pow_mul_add _ (by have:=Nat.two_pow_pos c;omega)]
 refine⟨?_,hlt,fun j hj=>?_,fun j=>?_⟩
 ·rw[b1];simp
 ·rw[b1];simp;omega
 ·rw[Nat.testBit_and,b1,b2];by_cases hj:j<c
  ·have:¬c≤j:=by omega
   simp[this]
  ·rw[if_neg hj];by_cases hjc:j=c
   ·subst hjc;simp
   ·obtain⟨i,hi⟩:∃i,j-c=i+1:=⟨j-c-1,by omega⟩
    rw[hi,Nat.testBit_succ,Nat.testBit_succ,show(2*m+1)/2=m by omega,show 2*m/2=m by omega];simp[hjc]
theorem bits_step(x:Nat)(h0:x≠0)(hx:x<2^64):bitsL 64 x=Lib.ctz 64 x :: bitsL 64 (x&&&(x-1)):=by
 obtain⟨h1,h2,h3,h4⟩:=low_bits x h0 hx
 exact filter_least 64 x.testBit (x&&&(x-1)).testBit _ h2 h1 h3 h4
theorem bits_zero(n:Nat):bitsL n 0= []:=List.filter_eq_nil_iff.2 fun j _=>by simp
theorem bits_mem{n S v:Nat}:v∈bitsL n S↔v<n∧S.testBit v=true:=by simp[bitsL]
theorem bits_words(S:Nat):∀k,bitsL (64*k) S=(List.range k).flatMap fun i=>(bitsL 64 (wd S i)).map fun j=>64*i+j
 |0=>rfl
 |k+1=>by
  rw[List.range_succ,List.flatMap_append,←bits_words S k,Nat.mul_succ];unfold bitsL;rw[List.range_add,List.filter_append]
  congr 1
  rw[List.flatMap_cons,List.flatMap_nil,List.append_nil,List.filter_map]
  congr 1
  apply List.filter_congr;intro j hj;rw[wd_bit];simp[List.mem_range.1 hj]
theorem set_ext{S T n:Nat}(hS:S<2^(64*n))(hT:T<2^(64*n))(h:∀k,k<n→wd S k=wd T k):S=T:=by
 apply Nat.eq_of_testBit_eq
 intro j
 by_cases hj:j<64*n
 ·have h1:=h (j/64) (by omega);have h2:(wd S (j/64)).testBit (j%64)=(wd T (j/64)).testBit (j%64):=by rw[h1]
  rw[wd_bit,wd_bit,show 64*(j/64)+j%64=j by omega] at h2;have:j%64<64:=by omega
  simpa[this] using h2
 ·have hp:2^(64*n)≤2^j:=Nat.pow_le_pow_right (by decide) (by omega);rw[Nat.testBit_lt_two_pow (Nat.lt_of_lt_of_le hS hp),Nat.testBit_lt_two_pow (Nat.lt_of_lt_of_le hT hp)]
theorem set_ext16{S T:Nat}(hS:S<2^1024)(hT:T<2^1024)(h:∀k,k<16→wd S k=wd T k):S=T:=by
 rw[show(1024:Nat)=64*16 from rfl] at hS hT
 exact set_ext (n:=16) hS hT h
theorem ins_lt{S v n:Nat}(hS:S<2^n)(hv:v<n):insN S v<2^n:=Nat.or_lt_two_pow hS (Nat.pow_lt_pow_right (by decide) hv)
theorem del_lt{S v n:Nat}(hS:S<2^n):delN S v<2^n:=Nat.xor_lt_two_pow hS (Nat.lt_of_le_of_lt Nat.and_le_left hS)
end

section
open Go.RowKit
def arrN(n:Nat)(f:Nat→Value):Array Value:=((List.range n).map f).toArray
theorem arr_size(n:Nat)(f:Nat→Value):(arrN n f).size=n:=by simp[arrN]
theorem arr_at(n:Nat)(f:Nat→Value)(j:Nat)(h:j<n):(arrN n f)[j]? =some (f j):=by simp[arrN,h]
theorem arr_ext{n:Nat}{f g:Nat→Value}(h:∀k,k<n→f k=g k):arrN n f=arrN n g:=by
 unfold arrN
 congr 1
 exact List.map_congr_left fun k hk=>h k (List.mem_range.1 hk)
theorem arr_put{n:Nat}{f g:Nat→Value}{j:Nat}{v:Value}(hj:g j=v)(hg:∀k,k<n→k≠j→g k=f k):(arrN n f).setIfInBounds j v=arrN n g:=by
 apply Array.ext_getElem?
 intro k
 by_cases hk:k<n
 ·rw[Array.getElem?_setIfInBounds,arr_at n f k hk,arr_at n g k hk];by_cases e:j=k
  ·subst e;simp[arr_size,hk,hj]
  ·rw[if_neg e,hg k hk (fun x=>e x.symm)]
 ·rw[Array.getElem?_eq_none (by simp[arr_size];omega),Array.getElem?_eq_none (by simp[arr_size];omega)]
theorem arr_all{n:Nat}{f:Nat→Value}(h:∀k,(f k).oneCell'=true):(arrN n f).all (·.oneCell')=true:=by
 rw[Array.all_eq_true_iff_forall_mem]
 intro v hv
 simp[arrN] at hv
 obtain⟨j,_,rfl⟩:=hv
 exact h j
def setW(S:Nat):Array Value:=arrN 16 fun k=>.int .u64 (wd S k:Nat)
theorem setW_size(S:Nat):(setW S).size=16:=arr_size _ _
theorem setW_at(S:Nat)(k:Nat)(h:k<16):(setW S)[k]? =some (.int .u64 (wd S k:Nat)):=arr_at _ _ _ h
theorem setW_all(S:Nat):(setW S).all (·.oneCell')=true:=arr_all fun _=>rfl
theorem setW_ins(S n:Nat):(setW S).setIfInBounds (n/64) (.int .u64 ((wd S (n/64)|||2^(n%64):Nat):Int))=setW (insN S n):=
 arr_put (by rw[wd_ins]) fun k _ hk=>by rw[wd_ins_ne hk]
theorem setW_del(S n:Nat):(setW S).setIfInBounds (n/64) (.int .u64 ((wd S (n/64) ^^^ (wd S (n/64)&&&2^(n%64)):Nat):Int))=setW (delN S n):=
 arr_put (by rw[wd_del]) fun k _ hk=>by rw[wd_del_ne hk]
def orK(S T k:Nat)(j:Nat):Value:=if j<k then .int .u64 ((wd S j|||wd T j:Nat):Int) else .int .u64 (wd S j:Nat)
theorem or_zero(S T:Nat):arrN 16 (orK S T 0)=setW S:=arr_ext fun k _=>by simp[orK]
theorem or_all(S T:Nat):arrN 16 (orK S T 16)=setW (S|||T):=arr_ext fun k hk=>by rw[orK,if_pos hk,wd_or]
theorem or_put(S T k:Nat):(arrN 16 (orK S T k)).setIfInBounds k (.int .u64 ((wd S k|||wd T k:Nat):Int))=arrN 16 (orK S T (k+1)):=
 arr_put (by rw[orK,if_pos (by omega)]) fun j _ hj=>by
  unfold orK;by_cases h:j<k
  ·rw[if_pos h,if_pos (by omega)]
  ·rw[if_neg h,if_neg (by omega)]
def setV(f:Nat→Bool):Array Value:=arrN 201 fun k=>.bool (f k)
theorem setV_size(f:Nat→Bool):(setV f).size=201:=arr_size _ _
theorem setV_at(f:Nat→Bool)(k:Nat)(h:k<201):(setV f)[k]? =some (.bool (f k)):=arr_at _ _ _ h
theorem setV_all(f:Nat→Bool):(setV f).all (·.oneCell')=true:=arr_all fun _=>rfl
theorem setV_put(f:Nat→Bool)(j:Nat)(b:Bool):(setV f).setIfInBounds j (.bool b)=setV fun k=>if k=j then b else f k:=
 arr_put (by simp) fun k _ hk=>by simp[hk]
theorem setV_ext{f g:Nat→Bool}(h:∀k,k<201→f k=g k):setV f=setV g:=arr_ext fun k hk=>by rw[h k hk]
end

section
open Go.RowKit
theorem size_bset:(Tryz.prog.info? 168).map (·.size)=some 16:=by kernel_rfl
theorem zero_bset:(#[.int .u64 0,.int .u64 0,.int .u64 0,.int .u64 0,.int .u64 0,.int .u64 0,.int .u64 0,.int .u64 0,.int .u64 0,.int .u64 0,.int .u64 0,.int .u64 0,.int .u64 0,.int .u64 0,.int .u64 0,.int .u64 0]:Array Value)=setW 0:=by kernel_rfl
abbrev bsO(S:Nat):Obj:=.cells (setW S) 168
theorem load_bset{W:World}{g:Nat}{S:Nat}(hg:W.heap[g]? =some (bsO S)):(loadVar 168 ⟨g,0,none⟩).run Tryz.prog W=.ok (.agg (setW S)) W:=
 run_loadVar_row (P:=Tryz.prog) W g 168 168 _ (0,0) _ hg Tryz.underlying168 rfl (by rw[setW_size];exact size_bset)
theorem bset_cell{W:World}{g:Nat}{S:Nat}(hg:W.heap[g]? =some (bsO S))(k:Nat)(hk:k<16):W.cell? ⟨g,k,none⟩=some (.int .u64 (wd S k:Nat)):=by rw[cell_of_row _ _ _ _ _ _ hg,setW_at _ _ hk]
def addN(S:Nat)(v:Int):Nat:=if 0≤v∧v<1024 then insN S v.toNat else S
def withN(S:Nat)(l:List Int):Nat:=l.foldl addN S
def subN(S:Nat)(v:Int):Nat:=if 0≤v∧v<1024 then delN S v.toNat else S
def withoutN(S:Nat)(l:List Int):Nat:=l.foldl subN S
theorem addN_lt{S:Nat}{v:Int}(hS:S<2^1024):addN S v<2^1024:=by
 unfold addN
 split
 ·exact ins_lt (n:=1024) hS (by omega)
 ·exact hS
theorem withN_lt(l:List Int):∀{S:Nat},S<2^1024→withN S l<2^1024:=by
 induction l with
 |nil=>exact fun h=>h
 |cons v l ih=>exact fun h=>ih (addN_lt h)
theorem addN_bit(S:Nat)(v:Int)(j:Nat)(hj:j<1024):(addN S v).testBit j=(S.testBit j||decide (v=(j:Int))):=by
 unfold addN
 split
 ·rw[ins_bit]
  congr 1
  rw[decide_eq_decide];omega
 ·have:¬v=(j:Int):=by omega
  simp[this]
theorem withN_bit(l:List Int)(j:Nat)(hj:j<1024):∀S,(withN S l).testBit j=(S.testBit j||decide ((j:Int)∈l)):=by
 induction l with
 |nil=>intro S;simp[withN]
 |cons v l ih=>
  intro S;show(withN (addN S v) l).testBit j=_;rw[ih,addN_bit S v j hj];by_cases h:v=(j:Int)
  ·simp[h]
  ·have h2:¬(j:Int)=v:=fun e=>h e.symm;simp[h,h2]
theorem with_take(S:Nat)(xs:List Int)(k:Nat)(h:k<xs.length):withN S (xs.take (k+1))=addN (withN S (xs.take k)) (xs.getD k 0):=by
 rw[takeS xs k 0 h,withN,List.foldl_append]
 rfl
theorem without_take(S:Nat)(xs:List Int)(k:Nat)(h:k<xs.length):withoutN S (xs.take (k+1))=subN (withoutN S (xs.take k)) (xs.getD k 0):=by
 rw[takeS xs k 0 h,withoutN,List.foldl_append]
 rfl
theorem subN_lt{S:Nat}{v:Int}(hS:S<2^1024):subN S v<2^1024:=by
 unfold subN
 split
 ·exact del_lt (n:=1024) hS
 ·exact hS
theorem subN_bit(S:Nat)(v:Int)(j:Nat)(hj:j<1024):(subN S v).testBit j=(S.testBit j&& !decide (v=(j:Int))):=by
 unfold subN
 split
 ·rw[del_bit]
  congr 2
  rw[decide_eq_decide];omega
 ·have:¬v=(j:Int):=by omega
  simp[this]
def BSPost(w:World)(S:Nat)(e:Ending)(w':World):Prop:=e=.returned (.agg (setW S))∧Below w.heap.size w w'
theorem wrap_small(n:Nat)(h:n<1024):IntKind.u64.wrap (n:Int)=(n:Int):=by rw[IntKind.wrap_u64];omega
theorem wrap_odd(v:Int)(h:I64 v)(ho:¬(0≤v∧v<1024)):¬IntKind.u64.wrap v<1024:=by
 rw[IntKind.wrap_u64]
 have h1:=h.1
 have h2:=h.2
 omega
theorem and63(n:Nat)(h:n<1024):bits .and .i64 (n:Int) 63=((n%64:Nat):Int):=by
 have:=bits_mask .i64 62 (by decide) (fun n h0 h1=>IntWalk.i64_in n (by omega)) 6 (by decide) (n:Int) (by omega) (by omega)
 simpa using this
theorem shl1(r:Nat)(h:r<64):IntKind.u64.wrap (2^r)=((2^r:Nat):Int):=by
 have hp:(2:Nat)^r<2^64:=Nat.pow_lt_pow_right (by decide) h
 have e:(2:Int)^r=((2^r:Nat):Int):=by simp
 rw[e,IntKind.wrap_u64]
 generalize 2^r=q at hp⊢
 omega
theorem bWith_any(S:Nat)(a:Option Addr)(n c:Nat)(xs:List Int)(w:World)(h:Ints w a n xs):Calls Tryz.prog 183 #[.agg (setW S),.slice a n c] w (BSPost w (withN S xs)):=by
 have HL:=Lib.hid h.1
 have hn:=h.2.1
 have H:=Lib.hid h
 clear h
 go_enter Tryz.func183,Tryz.ntmps183
 go_upto_region 1 with (fail)
 obtain⟨W,hW⟩:∃W,W=(w.alloc (bsO S)).alloc (bsO 0):=⟨_,rfl⟩
 rw[zero_bset,←hW]
 have hs:W.heap[w.heap.size]? =some (bsO S):=by rw[hW,Below.heap_alloc _ _ _ (by simp)];exact heap_alloc_new _ _
 have hr:W.heap[w.heap.size+1]? =some (bsO 0):=by
  rw[hW];have:=heap_alloc_new (w.alloc (bsO S)) (bsO 0);simpa using this
 have hB:Below w.heap.size w W:=by rw[hW];exact(((Below.refl _ w).alloc (Nat.le_refl _) _).alloc (by simp) _)
 have HS:=Lib.hid hs
 have HR:=Lib.hid hr
 have HB:=Lib.hid hB
 clear hW hs hr hB
 go_wp2
 go_loopw [6,9] (fun _ i wr=>∃(k:Nat),k≤n∧i=.int .i64 k∧Hid (wr.heap[w.heap.size]? =some (bsO (withN S (xs.take k))))∧Hid (wr.heap[w.heap.size+1]? =some (bsO 0))∧Hid (Below w.heap.size w wr)) (fun _ i _=>n-(intOf i).toNat)
 case atStart=>exact⟨0,by omega,rfl,HS.out,HR.out,HB.out⟩
 case round=>
  obtain⟨k,hk,rfl,HS,HR,HB⟩:=hrel;by_cases hlt:k<n
  ·obtain⟨b,o,rfl,hc,hw1,hw2⟩:=(H.out.ext HB.out).2.2 k hlt;have hkx:k<xs.length:=by rw[HL.out];exact hlt
   have HT:=Lib.hid (with_take S xs k hkx);generalize xs.getD k 0=v at *;generalize withN S (xs.take k)=T at *;by_cases hv:0≤v∧v<1024
   ·obtain⟨m,rfl⟩:∃m:Nat,v=(m:Int):=⟨v.toNat,by omega⟩
    have hm:m<1024:=by omega
    have HE:Hid (withN S (xs.take (k+1))=insN T m):=by rw[Hid,HT.out,addN,if_pos hv];rfl
    have e1:=wrap_small m hm;have hm1:(m:Int)<1024:=by omega
    have hlt':(k:Int)<(n:Int):=by omega
    clear hv HT hw1 hw2;go_upto_region 5 with (fail)
    obtain⟨q,hq⟩:∃q,q=m/64:=⟨_,rfl⟩
    obtain⟨r,hr⟩:∃r,r=m%64:=⟨_,rfl⟩
    have hq1:q<16:=by omega
    have hr1:r<64:=by omega
    have e2:(m:Int)/64=(q:Int):=by omega
    have e3:bits .and .i64 (m:Int) 63=(r:Int):=by rw[hr];exact and63 m hm
    obtain⟨p,hp⟩:∃p:Nat,p=2^r:=⟨_,rfl⟩
    have e4:IntKind.u64.wrap (2^r)=(p:Int):=by rw[hp];exact shl1 r hr1
    have hpl:p<18446744073709551616:=by rw[hp];exact Nat.pow_lt_pow_right (by decide) hr1
    obtain⟨u,hu⟩:∃u:Nat,u=wd T q|||p:=⟨_,rfl⟩
    have e5:bits .or .u64 (wd T q:Nat) (p:Int)=(u:Int):=by rw[hu];exact bits_or_u64_nat _ _ (wd_lt _ _) hpl
    have HS2:Hid ((wr.setCell ⟨w.heap.size,q,none⟩ (.int .u64 (u:Int))).heap[w.heap.size]? =some (bsO (insN T m))):=by
     rw[Hid,heap_setCell_same _ _ _ _ _ _ HS.out,hu,hp,hq,hr,setW_ins]
    have HR2:Hid ((wr.setCell ⟨w.heap.size,q,none⟩ (.int .u64 (u:Int))).heap[w.heap.size+1]? =some (bsO 0)):=by
     rw[Hid,Below.heap_setCell _ _ _ _ (by simp)];exact HR.out
    have HB2:Hid (Below w.heap.size w (wr.setCell ⟨w.heap.size,q,none⟩ (.int .u64 (u:Int))).drew):=(HB.out.setCell (Nat.le_refl _) _).drew;have hne:Nonempty (ExtW wr):=⟨⟨wr,Below.refl _ _⟩⟩
    have g1:∀n:ExtW wr,n.val.cell? ⟨w.heap.size,q,none⟩=some (.int .u64 (wd T q:Nat)):=fun n=>ExtW.cell (bset_cell HS.out q hq1) n;have HQ:=Lib.hid hq;have HRR:=Lib.hid hr;have hq2:(q:Int)<16:=by omega
    have hr2:(r:Int)≤64:=by omega
    have cc:wr.drew.cell? ⟨w.heap.size,q,none⟩=some (.int .u64 (wd T q:Nat)):=bset_cell HS.out q hq1;have cf:wr.drew.frozen? ⟨w.heap.size,q,none⟩=false:=frozen_of_row _ _ _ _ _ HS.out;clear hq hr hp hu;refine region_mix (fun w'=>∃n':ExtW wr,w'=n'.val) [(0,9,some (9,false))] (by kernel_rfl) (by kernel_rfl) ⟨⟨_,ext_drewN (Below.refl _ _) 1⟩,rfl⟩ ?_;simp only[wpMix,List.take_succ_cons,List.take_zero,List.drop_succ_cons,List.drop_zero]
    repeat (go_big_quiet_step (fail))
    refine wpQuiet_nil ?_;refine wpOp_at rfl rfl ?_;go_simp;refine NoPanic.normal ?_;clear g1 hne cc cf e1 e2 e3 e4 e5 hpl;generalize (wr.setCell ⟨w.heap.size,q,none⟩ (.int .u64 (u:Int)))=wn at *;go_wp2
    go_roundw
    case rel=>exact⟨k+1,by omega,by go_num,by rw[Hid,HE.out];exact HS2.out,HR2,HB2⟩
    case measure=>simp[intOf];omega
   ·have HE:Hid (withN S (xs.take (k+1))=T):=by rw[Hid,HT.out,addN,if_neg hv]
    have e1:=wrap_odd v ⟨hw1,hw2⟩ hv;have hlt':(k:Int)<(n:Int):=by omega
    clear hv HT hw1 hw2;go_wp2
    go_roundw
    case rel=>exact⟨k+1,by omega,by go_num,by rw[Hid,HE.out];exact HS.out,HR,HB⟩
    case measure=>simp[intOf];omega
  ·have HT:Hid (xs.take k=xs):=List.take_of_length_le (by rw[HL.out];omega);have HSx:Hid (wr.heap[w.heap.size]? =some (bsO (withN S xs))):=by have:=HS.out;rwa [HT.out] at this
   have hlt':¬(k:Int)<(n:Int):=by omega
   go_wp2_with (first
    |(refine wpList_load_row rfl 168 _ rfl w.heap.size rfl 168 _ (0,0) _ HSx.out Tryz.underlying168 rfl (by rw[setW_size];exact size_bset) ?_)
    |(refine wpList_store_row rfl 168 _ _ rfl (w.heap.size+1) (setW (withN S xs)) rfl rfl 168 _ HR.out (by rw[setW_size];exact size_bset) rfl (setW_all _) ?_))
   exact bodyPost_ret (v:=.agg (setW (withN S xs))) (by simp[results,Tryz.results183,asAddr,Act.put,load_bset (setRow_heap _ _ _ _ _ _ HR.out)]) rfl ⟨rfl,below_setRow HB.out (by omega) _⟩
theorem bWithout_any(S:Nat)(a:Option Addr)(n c:Nat)(xs:List Int)(w:World)(h:Ints w a n xs):Calls Tryz.prog 255 #[.agg (setW S),.slice a n c] w (BSPost w (withoutN S xs)):=by
 have HL:=Lib.hid h.1
 have hn:=h.2.1
 have H:=Lib.hid h
 clear h
 go_enter Tryz.func255,Tryz.ntmps255
 go_upto_region 1 with (fail)
 obtain⟨W,hW⟩:∃W,W=(w.alloc (bsO S)).alloc (bsO 0):=⟨_,rfl⟩
 rw[zero_bset,←hW]
 have hs:W.heap[w.heap.size]? =some (bsO S):=by rw[hW,Below.heap_alloc _ _ _ (by simp)];exact heap_alloc_new _ _
 have hr:W.heap[w.heap.size+1]? =some (bsO 0):=by
  rw[hW];have:=heap_alloc_new (w.alloc (bsO S)) (bsO 0);simpa using this
 have hB:Below w.heap.size w W:=by rw[hW];exact(((Below.refl _ w).alloc (Nat.le_refl _) _).alloc (by simp) _)
 have HS:=Lib.hid hs
 have HR:=Lib.hid hr
 have HB:=Lib.hid hB
 clear hW hs hr hB
 go_wp2
 go_loopw [6,9] (fun _ i wr=>∃(k:Nat),k≤n∧i=.int .i64 k∧Hid (wr.heap[w.heap.size]? =some (bsO (withoutN S (xs.take k))))∧Hid (wr.heap[w.heap.size+1]? =some (bsO 0))∧Hid (Below w.heap.size w wr)) (fun _ i _=>n-(intOf i).toNat)
 case atStart=>exact⟨0,by omega,rfl,HS.out,HR.out,HB.out⟩
 case round=>
  obtain⟨k,hk,rfl,HS,HR,HB⟩:=hrel;by_cases hlt:k<n
  ·obtain⟨b,o,rfl,hc,hw1,hw2⟩:=(H.out.ext HB.out).2.2 k hlt;have hkx:k<xs.length:=by rw[HL.out];exact hlt
   have HT:=Lib.hid (without_take S xs k hkx);generalize xs.getD k 0=v at *;generalize withoutN S (xs.take k)=T at *;by_cases hv:0≤v∧v<1024
   ·obtain⟨m,rfl⟩:∃m:Nat,v=(m:Int):=⟨v.toNat,by omega⟩
    have hm:m<1024:=by omega
    have HE:Hid (withoutN S (xs.take (k+1))=delN T m):=by rw[Hid,HT.out,subN,if_pos hv];rfl
    have e1:=wrap_small m hm;have hm1:(m:Int)<1024:=by omega
    have hlt':(k:Int)<(n:Int):=by omega
    clear hv HT hw1 hw2;go_upto_region 5 with (fail)
    obtain⟨q,hq⟩:∃q,q=m/64:=⟨_,rfl⟩
    obtain⟨r,hr⟩:∃r,r=m%64:=⟨_,rfl⟩
    have hq1:q<16:=by omega
    have hr1:r<64:=by omega
    have e2:(m:Int)/64=(q:Int):=by omega
    have e3:bits .and .i64 (m:Int) 63=(r:Int):=by rw[hr];exact and63 m hm
    obtain⟨p,hp⟩:∃p:Nat,p=2^r:=⟨_,rfl⟩
    have e4:IntKind.u64.wrap (2^r)=(p:Int):=by rw[hp];exact shl1 r hr1
    have hpl:p<18446744073709551616:=by rw[hp];exact Nat.pow_lt_pow_right (by decide) hr1
    obtain⟨u,hu⟩:∃u:Nat,u=wd T q ^^^ (wd T q&&&p):=⟨_,rfl⟩
    have e5:bits .andNot .u64 (wd T q:Nat) (p:Int)=(u:Int):=by rw[hu];exact bits_andNot_u64_nat _ _ (wd_lt _ _) hpl
    have HS2:Hid ((wr.setCell ⟨w.heap.size,q,none⟩ (.int .u64 (u:Int))).heap[w.heap.size]? =some (bsO (delN T m))):=by
     rw[Hid,heap_setCell_same _ _ _ _ _ _ HS.out,hu,hp,hq,hr,setW_del]
    have HR2:Hid ((wr.setCell ⟨w.heap.size,q,none⟩ (.int .u64 (u:Int))).heap[w.heap.size+1]? =some (bsO 0)):=by
     rw[Hid,Below.heap_setCell _ _ _ _ (by simp)];exact HR.out
    have HB2:Hid (Below w.heap.size w (wr.setCell ⟨w.heap.size,q,none⟩ (.int .u64 (u:Int))).drew):=(HB.out.setCell (Nat.le_refl _) _).drew;have hne:Nonempty (ExtW wr):=⟨⟨wr,Below.refl _ _⟩⟩
    have g1:∀n:ExtW wr,n.val.cell? ⟨w.heap.size,q,none⟩=some (.int .u64 (wd T q:Nat)):=fun n=>ExtW.cell (bset_cell HS.out q hq1) n;have HQ:=Lib.hid hq;have HRR:=Lib.hid hr;have hq2:(q:Int)<16:=by omega
    have hr2:(r:Int)≤64:=by omega
    have cc:wr.drew.cell? ⟨w.heap.size,q,none⟩=some (.int .u64 (wd T q:Nat)):=bset_cell HS.out q hq1;have cf:wr.drew.frozen? ⟨w.heap.size,q,none⟩=false:=frozen_of_row _ _ _ _ _ HS.out;clear hq hr hp hu;refine region_mix (fun w'=>∃n':ExtW wr,w'=n'.val) [(0,9,some (9,false))] (by kernel_rfl) (by kernel_rfl) ⟨⟨_,ext_drewN (Below.refl _ _) 1⟩,rfl⟩ ?_;simp only[wpMix,List.take_succ_cons,List.take_zero,List.drop_succ_cons,List.drop_zero]
    repeat (go_big_quiet_step (fail))
    refine wpQuiet_nil ?_;refine wpOp_at rfl rfl ?_;go_simp;refine NoPanic.normal ?_;clear g1 hne cc cf e1 e2 e3 e4 e5 hpl;generalize (wr.setCell ⟨w.heap.size,q,none⟩ (.int .u64 (u:Int)))=wn at *;go_wp2
    go_roundw
    case rel=>exact⟨k+1,by omega,by go_num,by rw[Hid,HE.out];exact HS2.out,HR2,HB2⟩
    case measure=>simp[intOf];omega
   ·have HE:Hid (withoutN S (xs.take (k+1))=T):=by rw[Hid,HT.out,subN,if_neg hv]
    have e1:=wrap_odd v ⟨hw1,hw2⟩ hv;have hlt':(k:Int)<(n:Int):=by omega
    clear hv HT hw1 hw2;go_wp2
    go_roundw
    case rel=>exact⟨k+1,by omega,by go_num,by rw[Hid,HE.out];exact HS.out,HR,HB⟩
    case measure=>simp[intOf];omega
  ·have HT:Hid (xs.take k=xs):=List.take_of_length_le (by rw[HL.out];omega);have HSx:Hid (wr.heap[w.heap.size]? =some (bsO (withoutN S xs))):=by have:=HS.out;rwa [HT.out] at this
   have hlt':¬(k:Int)<(n:Int):=by omega
   go_wp2_with (first
    |(refine wpList_load_row rfl 168 _ rfl w.heap.size rfl 168 _ (0,0) _ HSx.out Tryz.underlying168 rfl (by rw[setW_size];exact size_bset) ?_)
    |(refine wpList_store_row rfl 168 _ _ rfl (w.heap.size+1) (setW (withoutN S xs)) rfl rfl 168 _ HR.out (by rw[setW_size];exact size_bset) rfl (setW_all _) ?_))
   exact bodyPost_ret (v:=.agg (setW (withoutN S xs))) (by simp[results,Tryz.results255,asAddr,Act.put,load_bset (setRow_heap _ _ _ _ _ _ HR.out)]) rfl ⟨rfl,below_setRow HB.out (by omega) _⟩
theorem bOr_any(S T:Nat)(w:World):Calls Tryz.prog 180 #[.agg (setW S),.agg (setW T)] w (BSPost w (S|||T)):=by
 go_enter Tryz.func180,Tryz.ntmps180
 go_upto_region 1 with (fail)
 obtain⟨W,hW⟩:∃W,W=((w.alloc (bsO S)).alloc (bsO T)).alloc (bsO 0):=⟨_,rfl⟩
 rw[zero_bset,←hW]
 have hs:W.heap[w.heap.size]? =some (bsO S):=by rw[hW,Below.heap_alloc _ _ _ (by simp;omega),Below.heap_alloc _ _ _ (by simp)];exact heap_alloc_new _ _
 have ht:W.heap[w.heap.size+1]? =some (bsO T):=by
  rw[hW,Below.heap_alloc _ _ _ (by simp)];have:=heap_alloc_new (w.alloc (bsO S)) (bsO T);simpa using this
 have hr:W.heap[w.heap.size+1+1]? =some (bsO 0):=by
  rw[hW];have:=heap_alloc_new ((w.alloc (bsO S)).alloc (bsO T)) (bsO 0);simpa using this
 have hB:Below w.heap.size w W:=by rw[hW];exact((((Below.refl _ w).alloc (Nat.le_refl _) _).alloc (by simp) _).alloc (by simp;omega) _)
 have HS:=Lib.hid hs
 have HT:=Lib.hid ht
 have HR:=Lib.hid hr
 have HB:=Lib.hid hB
 clear hW hs ht hr hB
 go_wp2
 go_loopw [5,6] (fun _ i wr=>∃(k:Nat),k≤16∧i=.int .i64 k∧Hid (wr.heap[w.heap.size]? =some (.cells (arrN 16 (orK S T k)) 168))∧Hid (wr.heap[w.heap.size+1]? =some (bsO T))∧Hid (wr.heap[w.heap.size+1+1]? =some (bsO 0))∧Hid (Below w.heap.size w wr)) (fun _ i _=>16-(intOf i).toNat)
 case atStart=>exact⟨0,by omega,rfl,by rw[Hid,or_zero];exact HS.out,HT.out,HR.out,HB.out⟩
 case round=>
  obtain⟨k,hk,rfl,HS,HT,HR,HB⟩:=hrel;by_cases hlt:k<16
  ·have hlt':(k:Int)<16:=by omega
   go_upto_region 4 with (fail)
   obtain⟨u,hu⟩:∃u:Nat,u=wd S k|||wd T k:=⟨_,rfl⟩
   have e5:bits .or .u64 (wd S k:Nat) (wd T k:Nat)=(u:Int):=by rw[hu];exact bits_or_u64_nat _ _ (wd_lt _ _) (wd_lt _ _)
   have hs0:wr.cell? ⟨w.heap.size,k,none⟩=some (.int .u64 (wd S k:Nat)):=by rw[cell_of_row _ _ _ _ _ _ HS.out,arr_at _ _ _ hlt,orK,if_neg (Nat.lt_irrefl k)]
   have HS2:Hid ((wr.setCell ⟨w.heap.size,k,none⟩ (.int .u64 (u:Int))).heap[w.heap.size]? =some (.cells (arrN 16 (orK S T (k+1))) 168)):=by
    rw[Hid,heap_setCell_same _ _ _ _ _ _ HS.out,hu,or_put]
   have HT2:Hid ((wr.setCell ⟨w.heap.size,k,none⟩ (.int .u64 (u:Int))).heap[w.heap.size+1]? =some (bsO T)):=by
    rw[Hid,Below.heap_setCell _ _ _ _ (by simp)];exact HT.out
   have HR2:Hid ((wr.setCell ⟨w.heap.size,k,none⟩ (.int .u64 (u:Int))).heap[w.heap.size+1+1]? =some (bsO 0)):=by
    rw[Hid,Below.heap_setCell _ _ _ _ (by simp;omega)];exact HR.out
   have HB2:Hid (Below w.heap.size w (wr.setCell ⟨w.heap.size,k,none⟩ (.int .u64 (u:Int))).drew):=(HB.out.setCell (Nat.le_refl _) _).drew;have hne:Nonempty (ExtW wr):=⟨⟨wr,Below.refl _ _⟩⟩
   have g1:∀n:ExtW wr,n.val.cell? ⟨w.heap.size,k,none⟩=some (.int .u64 (wd S k:Nat)):=fun n=>ExtW.cell hs0 n;have g2:∀n:ExtW wr,n.val.cell? ⟨w.heap.size+1,k,none⟩=some (.int .u64 (wd T k:Nat)):=fun n=>ExtW.cell (bset_cell HT.out k hlt) n;have cc:wr.drew.cell? ⟨w.heap.size,k,none⟩=some (.int .u64 (wd S k:Nat)):=hs0;have cf:wr.drew.frozen? ⟨w.heap.size,k,none⟩=false:=frozen_of_row _ _ _ _ _ HS.out;clear hu hs0;refine region_mix (fun w'=>∃n':ExtW wr,w'=n'.val) [(0,8,some (8,false))] (by kernel_rfl) (by kernel_rfl) ⟨⟨_,ext_drewN (Below.refl _ _) 1⟩,rfl⟩ ?_;simp only[wpMix,List.take_succ_cons,List.take_zero,List.drop_succ_cons,List.drop_zero]
   repeat (go_big_quiet_step (fail))
   refine wpQuiet_nil ?_;refine wpOp_at rfl rfl ?_;go_simp;refine NoPanic.normal ?_;clear g1 g2 hne cc cf e5;generalize (wr.setCell ⟨w.heap.size,k,none⟩ (.int .u64 (u:Int)))=wn at *;go_wp2
   go_roundw
   case rel=>exact⟨k+1,by omega,by go_num,HS2,HT2,HR2,HB2⟩
   case measure=>simp[intOf];omega
  ·obtain rfl:k=16:=by omega
   have HSx:Hid (wr.heap[w.heap.size]? =some (bsO (S|||T))):=by have:=HS.out;rwa [or_all] at this
   go_wp2_with (first
    |(refine wpList_load_row rfl 168 _ rfl w.heap.size rfl 168 _ (0,0) _ HSx.out Tryz.underlying168 rfl (by rw[setW_size];exact size_bset) ?_)
    |(refine wpList_store_row rfl 168 _ _ rfl (w.heap.size+1+1) (setW (S|||T)) rfl rfl 168 _ HR.out (by rw[setW_size];exact size_bset) rfl (setW_all _) ?_))
   exact bodyPost_ret (v:=.agg (setW (S|||T))) (by simp[results,Tryz.results180,asAddr,Act.put,load_bset (setRow_heap _ _ _ _ _ _ HR.out)]) rfl ⟨rfl,below_setRow HB.out (by omega) _⟩
end
end Go.Proofs.YthgebcfohnlhlaaGreatDoor
