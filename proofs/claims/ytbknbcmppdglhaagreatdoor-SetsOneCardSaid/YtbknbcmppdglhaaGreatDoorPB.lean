/-
 Sets of numbers as words of sixty-four bits,plain. No program in sight.
-/
import Derived.Test.YtbknbcmppdglhaaGreatDoorA0
import Derived.Test.YtbknbcmppdglhaaGreatDoorER
import Derived.Lib.TrailingZeros
import Derived.Laws.Bits64b
import Derived.Test.YtbknbcmppdglhaaGreatDoorOwnR
import Derived.Test.YtbknbcmppdglhaaGreatDoorProg
import Derived.Deep.Cut
import Derived.Deep.CutRange
import Derived.Deep.DeepCutAuto
import Derived.LoopTactic
import Derived.Deep.Light
import Derived.Test.YtbknbcmppdglhaaGreatDoorRows
import Derived.Test.YtbknbcmppdglhaaGreatDoorSortI
import Derived.OwnWalkIn
namespace Go.Proofs.YtbknbcmppdglhaaGreatDoor
set_option linter.unusedSimpArgs false
set_option linter.unusedVariables false
set_option linter.unusedSectionVars false
set_option maxRecDepth 100000
set_option maxHeartbeats 40000000
section
def wd(S k:Nat):Nat:=(S >>> (64*k))%2^64
theorem TS(S k:Nat):wd S k<18446744073709551616:=Nat.mod_lt _ (by decide)
theorem wW(S k j:Nat):(wd S k).testBit j=(decide (j<64)&&S.testBit (64*k+j)):=by
 rw[wd,Nat.testBit_mod_two_pow,Nat.testBit_shiftRight]
def PV(S n:Nat):Nat:=S|||2^n
def PY(S n:Nat):Nat:=S ^^^ (S&&&2^n)
theorem QV(S n j:Nat):(PV S n).testBit j=(S.testBit j||decide (n=j)):=by
 simp[PV,Nat.testBit_two_pow]
theorem RA(S n j:Nat):(PY S n).testBit j=(S.testBit j&& !decide (n=j)):=by
 grind[PY]
theorem Bv(S n:Nat):wd (PV S n) (n/64)=wd S (n/64)|||2^(n%64):=by
 apply dG
 grind[wW,QV]
theorem m7{S n k:Nat}(h:k≠n/64):wd (PV S n) k=wd S k:=by
 apply dG
 grind[wW,QV]
theorem Bw(S n:Nat):wd (PY S n) (n/64)=wd S (n/64) ^^^ (wd S (n/64)&&&2^(n%64)):=by
 apply dG
 intro j
 rw[wW,RA,Nat.testBit_xor,Nat.testBit_and,wW,Nat.testBit_two_pow]
 grind
theorem m8{S n k:Nat}(h:k≠n/64):wd (PY S n) k=wd S k:=by
 apply dG
 grind[wW,RA]
theorem Cz(S T k:Nat):wd (S|||T) k=wd S k|||wd T k:=by
 apply dG
 grind[wW]
theorem BA(a b:Nat)(ha:a<18446744073709551616)(hb:b<18446744073709551616):bits .andNot .u64 (a:Int) (b:Int)=((a ^^^ (a&&&b):Nat):Int):=by
 have h3:(BitVec.ofInt 64 (a:Int)&&& ~~~BitVec.ofInt 64 (b:Int)).toNat=a ^^^ (a&&&b):=by
  apply dG
  grind[BitVec.testBit_toNat]
 show IntKind.u64.wrap ((BitVec.ofInt 64 (a:Int)&&& ~~~BitVec.ofInt 64 (b:Int)).toNat:Int)=_
 rw[h3,IntKind.wrap_u64]
 omega
def lT(n S:Nat):List Nat:=(List.range n).filter S.testBit
theorem SU(n:Nat)(p q:Nat->Bool)(c:Nat)(hc:c<n)(hp:p c=true)(hl:∀j,j<c->p j=false)(hq:∀j,q j=(p j&& !decide (j=c))):(List.range n).filter p=c :: (List.range n).filter q:=by
 obtain⟨k,rfl⟩:∃k,n=c+(k+1):=⟨n-c-1,by omega⟩
 have e1:(List.range c).filter p= []:=List.filter_eq_nil_iff.2 λj hj=>by grind
 have e2:(List.range c).filter q= []:=List.filter_eq_nil_iff.2 λj hj=>by grind
 rw[List.range_add,bB,bB,e1,e2,bD,bD,List.range_succ_eq_map,cE,b6,b6,Nat.add_zero,aM hp,az (by grind)]
 grind[List.filter_congr]
theorem VG(x:Nat)(h0:x≠0)(hx:x<2^64):x.testBit (Lib.ctz 64 x)=true/\Lib.ctz 64 x<64/\(∀j,j<Lib.ctz 64 x->x.testBit j=false)/\∀j,(x&&&(x-1)).testBit j=(x.testBit j&& !decide (j=Lib.ctz 64 x)):=by
 obtain⟨m,hm,hlt⟩:=Lib.ctzFrom_spec 64 x (by omega) hx
 have e:Lib.ctz 64 x=Lib.ctzFrom 64 x:=by rw[Lib.ctz,az h0]
 rw[e]
 generalize Lib.ctzFrom 64 x=c at hm hlt
 have b1:∀j,x.testBit j=(decide (j>=c)&&(2*m+1).testBit (j-c)):=λj=>by grind
 have h2:x-1=2^c*(2*m)+(2^c-1):=by
  grind
 have b2:∀j,(x-1).testBit j=if j<c then (2^c-1).testBit j else (2*m).testBit (j-c):=λj=>by rw[h2,Nat.testBit_two_pow_mul_add _ (by have:=Nat.two_pow_pos c;omega)]
 refine⟨?_,hlt,λj hj=>?_,λj=>?_⟩
 .rw[b1];simp
 .rw[b1];simp;omega
 .rw[Nat.testBit_and,b1,b2];by_cases hj:j<c
  .have:¬c<=j:=by omega
   simp[this]
  .rw[az hj];by_cases hjc:j=c
   .subst hjc;simp
   .obtain⟨i,hi⟩:∃i,j-c=i+1:=⟨j-c-1,by omega⟩
    rw[hi,Nat.testBit_succ,Nat.testBit_succ,show(2*m+1)/2=m by omega,show 2*m/2=m by omega];simp[hjc]
theorem rt(x:Nat)(h0:x≠0)(hx:x<2^64):lT 64 x=Lib.ctz 64 x :: lT 64 (x&&&(x-1)):=by
 obtain⟨h1,h2,h3,h4⟩:=VG x h0 hx
 exact SU 64 x.testBit (x&&&(x-1)).testBit _ h2 h1 h3 h4
theorem yk{n S v:Nat}:v∈lT n S↔v<n/\S.testBit v=true:=by simp[lT]
theorem LZ(S:Nat):∀k,lT (64*k) S=(List.range k).flatMap λi=>(lT 64 (wd S i)).map λj=>64*i+j
 |0=>rfl
 |k+1=>by
  rw[cm,cw,<-LZ S k,Nat.mul_succ];unfold lT;rw[List.range_add,bB]
  congr 1
  rw[dq,List.flatMap_nil,ct,List.filter_map]
  congr 1
  apply dI;intro j hj;rw[wW];simp[aQ.1 hj]
theorem zk{S T n:Nat}(hS:S<2^(64*n))(hT:T<2^(64*n))(h:∀k,k<n->wd S k=wd T k):S=T:=by
 apply dG
 intro j
 by_cases hj:j<64*n
 .have h1:=h (j/64) (by omega);have h2:(wd S (j/64)).testBit (j%64)=(wd T (j/64)).testBit (j%64):=by rw[h1]
  rw[wW,wW,show 64*(j/64)+j%64=j by omega] at h2
  grind
 grind[Nat.pow_le_pow_right,Nat.testBit_lt_two_pow,Nat.lt_of_lt_of_le]
theorem np{S T:Nat}(hS:S<2^1024)(hT:T<2^1024)(h:∀k,k<16->wd S k=wd T k):S=T:=by
 rw[show(1024:Nat)=64*16 from rfl] at hS hT
 exact zk (n:=16) hS hT h
theorem Cg{S v n:Nat}(hS:S<2^n)(hv:v<n):PV S v<2^n:=Nat.or_lt_two_pow hS (Nat.pow_lt_pow_right (by decide) hv)
theorem Ck{S v n:Nat}(hS:S<2^n):PY S v<2^n:=Nat.xor_lt_two_pow hS (Nat.lt_of_le_of_lt Nat.and_le_left hS)
end

section
open Go.RowKit
def rB(n:Nat)(f:Nat->Value):Array Value:=((List.range n).map f).toArray
theorem yZ(n:Nat)(f:Nat->Value):(rB n f).size=n:=by simp[rB]
theorem yM(n:Nat)(f:Nat->Value)(j:Nat)(h:j<n):(rB n f)[j]? =some (f j):=by simp[rB,h]
theorem RF{n:Nat}{f g:Nat->Value}(h:∀k,k<n->f k=g k):rB n f=rB n g:=by
 unfold rB
 congr 1
 exact dA λk hk=>h k (aQ.1 hk)
theorem AH{n:Nat}{f g:Nat->Value}{j:Nat}{v:Value}(hj:g j=v)(hg:∀k,k<n->k≠j->g k=f k):(rB n f).setIfInBounds j v=rB n g:=by
 apply de
 intro k
 by_cases hk:k<n
 .rw[Array.getElem?_setIfInBounds,yM n f k hk,yM n g k hk];by_cases e:j=k
  .subst e;simp[yZ,hk,hj]
  .rw[az e,hg k hk (λx=>e x.symm)]
 .rw[bZ (by simp[yZ];omega),bZ (by simp[yZ];omega)]
theorem mp{n:Nat}{f:Nat->Value}(h:∀k,(f k).oneCell'=true):(rB n f).all (·.oneCell')=true:=by
 rw[eN]
 intro v hv
 simp[rB] at hv
 obtain⟨j,_,rfl⟩:=hv
 exact h j
def iW(S:Nat):Array Value:=rB 16 λk=>.int .u64 (wd S k:Nat)
theorem iE(S:Nat):(iW S).size=16:=yZ _ _
theorem IL(S:Nat)(k:Nat)(h:k<16):(iW S)[k]? =some (.int .u64 (wd S k:Nat)):=yM _ _ _ h
theorem oY(S:Nat):(iW S).all (·.oneCell')=true:=mp λ_=>rfl
theorem ug(S n:Nat):(iW S).setIfInBounds (n/64) (.int .u64 ((wd S (n/64)|||2^(n%64):Nat):Int))=iW (PV S n):=
 AH (by rw[Bv]) λk _ hk=>by rw[m7 hk]
theorem uh(S n:Nat):(iW S).setIfInBounds (n/64) (.int .u64 ((wd S (n/64) ^^^ (wd S (n/64)&&&2^(n%64)):Nat):Int))=iW (PY S n):=
 AH (by rw[Bw]) λk _ hk=>by rw[m8 hk]
def orK(S T k:Nat)(j:Nat):Value:=if j<k then .int .u64 ((wd S j|||wd T j:Nat):Int) else .int .u64 (wd S j:Nat)
theorem zv(S T:Nat):rB 16 (orK S T 0)=iW S:=RF λk _=>by simp[orK]
theorem B7(S T:Nat):rB 16 (orK S T 16)=iW (S|||T):=RF λk hk=>by rw[orK,aM hk,Cz]
theorem B5(S T k:Nat):(rB 16 (orK S T k)).setIfInBounds k (.int .u64 ((wd S k|||wd T k:Nat):Int))=rB 16 (orK S T (k+1)):=
 AH (by rw[orK,aM (by omega)]) λj _ hj=>by
  unfold orK;by_cases h:j<k
  .rw[aM h,aM (by omega)]
  .rw[az h,az (by omega)]
def jN(f:Nat->Bool):Array Value:=rB 201 λk=>.bool (f k)
theorem iI(f:Nat->Bool):(jN f).size=201:=yZ _ _
theorem uW(f:Nat->Bool)(k:Nat)(h:k<201):(jN f)[k]? =some (.bool (f k)):=yM _ _ _ h
theorem nT(f:Nat->Bool):(jN f).all (·.oneCell')=true:=mp λ_=>rfl
theorem ui(f:Nat->Bool)(j:Nat)(b:Bool):(jN f).setIfInBounds j (.bool b)=jN λk=>if k=j then b else f k:=
 AH (by simp) λk _ hk=>by simp[hk]
theorem UM{f g:Nat->Bool}(h:∀k,k<201->f k=g k):jN f=jN g:=RF λk hk=>by rw[h k hk]
end

section
open Go.RowKit
theorem iX:(Tryz.prog.info? 124).map (·.size)=some 16:=by kernel_rfl
theorem wK:(#[.int .u64 0,.int .u64 0,.int .u64 0,.int .u64 0,.int .u64 0,.int .u64 0,.int .u64 0,.int .u64 0,.int .u64 0,.int .u64 0,.int .u64 0,.int .u64 0,.int .u64 0,.int .u64 0,.int .u64 0,.int .u64 0]:Array Value)=iW 0:=by rfl
abbrev bsO(S:Nat):Obj:=.cells (iW S) 124
theorem AS{W:World}{g:Nat}{S:Nat}(hg:W.heap[g]? =some (bsO S)):(loadVar 124 ⟨g,0,none⟩).run Tryz.prog W=.ok (.agg (iW S)) W:=
 cQ (P:=Tryz.prog) W g 124 124 _ (0,0) _ hg bK rfl (by simp[iE,iX])
theorem wS{W:World}{g:Nat}{S:Nat}(hg:W.heap[g]? =some (bsO S))(k:Nat)(hk:k<16):W.cell? ⟨g,k,none⟩=some (.int .u64 (wd S k:Nat)):=by rw[aZ _ _ _ _ _ _ hg,IL _ _ hk]
def QC(S:Nat)(v:Int):Nat:=if 0<=v/\v<1024 then PV S v.toNat else S
def nJ(S:Nat)(l:List Int):Nat:=l.foldl QC S
def MU(S:Nat)(v:Int):Nat:=if 0<=v/\v<1024 then PY S v.toNat else S
def nS(S:Nat)(l:List Int):Nat:=l.foldl MU S
theorem A6{S:Nat}{v:Int}(hS:S<2^1024):QC S v<2^1024:=by
 unfold QC
 split
 .exact Cg (n:=1024) hS (by omega)
 omega
theorem UG(l:List Int):∀{S:Nat},S<2^1024->nJ S l<2^1024:=by
 induction l with
 |nil=>exact λh=>h
 |cons v l ih=>exact λh=>ih (A6 h)
theorem yp(S:Nat)(v:Int)(j:Nat)(hj:j<1024):(QC S v).testBit j=(S.testBit j||decide (v=(j:Int))):=by
 unfold QC
 split
 .rw[QV]
  grind
 grind
theorem NX(l:List Int)(j:Nat)(hj:j<1024):∀S,(nJ S l).testBit j=(S.testBit j||decide ((j:Int)∈l)):=by
 induction l with
 |nil=>simp[nJ]
 |cons v l ih=>
  intro S;show(nJ (QC S v) l).testBit j=_
  grind[yp]
theorem m6(S:Nat)(xs:List Int)(k:Nat)(h:k<xs.length):nJ S (xs.take (k+1))=QC (nJ S (xs.take k)) (xs.getD k 0):=by
 grind[NS,nJ]
theorem RM(S:Nat)(xs:List Int)(k:Nat)(h:k<xs.length):nS S (xs.take (k+1))=MU (nS S (xs.take k)) (xs.getD k 0):=by
 grind[NS,nS]
theorem zj{S:Nat}{v:Int}(hS:S<2^1024):MU S v<2^1024:=by
 unfold MU
 split
 .exact Ck (n:=1024) hS
 omega
theorem ua(S:Nat)(v:Int)(j:Nat)(hj:j<1024):(MU S v).testBit j=(S.testBit j&& !decide (v=(j:Int))):=by
 unfold MU
 split
 .rw[RA]
  grind
 grind
def QL(w:World)(S:Nat)(e:Ending)(w':World):Prop:=e=.returned (.agg (iW S))/\Below w.heap.size w w'
theorem KO(n:Nat)(h:n<1024):IntKind.u64.wrap (n:Int)=(n:Int):=by grind[IntKind.wrap_u64]
theorem UF(v:Int)(h:I64 v)(ho:¬(0<=v/\v<1024)):¬IntKind.u64.wrap v<1024:=by
 rw[IntKind.wrap_u64]
 have h1:=h.1
 have h2:=h.2
 omega
theorem Bg(n:Nat)(h:n<1024):bits .and .i64 (n:Int) 63=((n%64:Nat):Int):=by
 have:=bits_mask .i64 62 (by decide) (λn h0 h1=>IntWalk.i64_in n (by omega)) 6 (by decide) (n:Int) (by omega) (by omega)
 grind
theorem Cr(r:Nat)(h:r<64):IntKind.u64.wrap (2^r)=((2^r:Nat):Int):=by
 have hp:(2:Nat)^r<2^64:=Nat.pow_lt_pow_right (by decide) h
 grind[IntKind.wrap_u64]
theorem PQ(S:Nat)(a:Option Addr)(n c:Nat)(xs:List Int)(w:World)(h:iJ w a n xs):Calls Tryz.prog 145 #[.agg (iW S),.slice a n c] w (QL w (nJ S xs)):=by
 have HL:=ac h.1
 have hn:=h.2.1
 have H:=ac h
 clear h
 go_enter Tryz.func145,Tryz.ntmps145
 go_upto_region 1 with (fail)
 obtain⟨W,hW⟩:∃W,W=(w.alloc (bsO S)).alloc (bsO 0):=⟨_,rfl⟩
 rw[wK,<-hW]
 have hs:W.heap[w.heap.size]? =some (bsO S):=by rw[hW,aG _ _ _ (by simp)];exact ae _ _
 have hr:W.heap[w.heap.size+1]? =some (bsO 0):=by
  rw[hW];have:=ae (w.alloc (bsO S)) (bsO 0);simpa using this
 have hB:Below w.heap.size w W:=by rw[hW];exact(((ag _ w).alloc (aj _) _).alloc (by simp) _)
 have HS:=ac hs
 have HR:=ac hr
 have HB:=ac hB
 clear hW hs hr hB
 go_wp2
 go_loopw [6,9] (λ_ i wr=>∃(k:Nat),k<=n/\i=.int .i64 k/\Hid (wr.heap[w.heap.size]? =some (bsO (nJ S (xs.take k))))/\Hid (wr.heap[w.heap.size+1]? =some (bsO 0))/\Hid (Below w.heap.size w wr)) (λ_ i _=>n-(intOf i).toNat)
 case atStart=>exact⟨0,by omega,rfl,HS.out,HR.out,HB.out⟩
 case round=>
  obtain⟨k,hk,rfl,HS,HR,HB⟩:=hrel;by_cases hlt:k<n
  .obtain⟨b,o,rfl,hc,hw1,hw2⟩:=(H.out.ext HB.out).2.2 k hlt;have hkx:k<xs.length:=by rw[HL.out];exact hlt
   have HT:=ac (m6 S xs k hkx);generalize xs.getD k 0=v at *;generalize nJ S (xs.take k)=T at *;by_cases hv:0<=v/\v<1024
   .obtain⟨m,rfl⟩:∃m:Nat,v=(m:Int):=⟨v.toNat,by omega⟩
    have hm:m<1024:=by omega
    have HE:Hid (nJ S (xs.take (k+1))=PV T m):=by rw[Hid,HT.out,QC,aM hv];rfl
    have e1:=KO m hm;have hm1:(m:Int)<1024:=by omega
    have hlt':(k:Int)<(n:Int):=by omega
    clear hv HT hw1 hw2;go_upto_region 5 with (fail)
    obtain⟨q,hq⟩:∃q,q=m/64:=⟨_,rfl⟩
    obtain⟨r,hr⟩:∃r,r=m%64:=⟨_,rfl⟩
    have hq1:q<16:=by omega
    have hr1:r<64:=by omega
    have e2:(m:Int)/64=(q:Int):=by omega
    have e3:bits .and .i64 (m:Int) 63=(r:Int):=by rw[hr];exact Bg m hm
    obtain⟨p,hp⟩:∃p:Nat,p=2^r:=⟨_,rfl⟩
    have e4:IntKind.u64.wrap (2^r)=(p:Int):=by rw[hp];exact Cr r hr1
    have hpl:p<18446744073709551616:=by rw[hp];exact Nat.pow_lt_pow_right (by decide) hr1
    obtain⟨u,hu⟩:∃u:Nat,u=wd T q|||p:=⟨_,rfl⟩
    have e5:bits .or .u64 (wd T q:Nat) (p:Int)=(u:Int):=by rw[hu];exact bits_or_u64_nat _ _ (TS _ _) hpl
    have HS2:Hid ((wr.setCell ⟨w.heap.size,q,none⟩ (.int .u64 (u:Int))).heap[w.heap.size]? =some (bsO (PV T m))):=by
     rw[Hid,aC _ _ _ _ _ _ HS.out,hu,hp,hq,hr,ug]
    have HR2:Hid ((wr.setCell ⟨w.heap.size,q,none⟩ (.int .u64 (u:Int))).heap[w.heap.size+1]? =some (bsO 0)):=by
     rw[Hid,aU _ _ _ _ (by simp)];exact HR.out
    have HB2:Hid (Below w.heap.size w (wr.setCell ⟨w.heap.size,q,none⟩ (.int .u64 (u:Int))).drew):=(HB.out.setCell (aj _) _).drew;have hne:Nonempty (fL wr):=⟨⟨wr,ag _ _⟩⟩
    have g1:∀n:fL wr,n.val.cell? ⟨w.heap.size,q,none⟩=some (.int .u64 (wd T q:Nat)):=λn=>fL.cell (wS HS.out q hq1) n;have HQ:=ac hq;have HRR:=ac hr;have hq2:(q:Int)<16:=by omega
    have hr2:(r:Int)<=64:=by omega
    have cc:wr.drew.cell? ⟨w.heap.size,q,none⟩=some (.int .u64 (wd T q:Nat)):=wS HS.out q hq1;have cf:wr.drew.frozen? ⟨w.heap.size,q,none⟩=false:=cY _ _ _ _ _ HS.out;clear hq hr hp hu;refine jC (λw'=>∃n':fL wr,w'=n'.val) [(0,9,some (9,false))] (by kernel_rfl) (by kernel_rfl) ⟨⟨_,gB (ag _ _) 1⟩,rfl⟩ ?_;simp only[lS,ap,aD,am,aw]
    repeat (go_big_quiet_step (fail))
    refine aq ?_;refine fR rfl rfl ?_;go_simp;refine bR ?_;clear g1 hne cc cf e1 e2 e3 e4 e5 hpl;generalize (wr.setCell ⟨w.heap.size,q,none⟩ (.int .u64 (u:Int)))=wn at *;go_wp2
    go_roundw
    case rel=>exact⟨k+1,by omega,by go_num,by rw[Hid,HE.out];exact HS2.out,HR2,HB2⟩
    case measure=>simp[intOf];omega
   .have HE:Hid (nJ S (xs.take (k+1))=T):=by rw[Hid,HT.out,QC,az hv]
    have e1:=UF v ⟨hw1,hw2⟩ hv;have hlt':(k:Int)<(n:Int):=by omega
    clear hv HT hw1 hw2;go_wp2
    go_roundw
    case rel=>exact⟨k+1,by omega,by go_num,by rw[Hid,HE.out];exact HS.out,HR,HB⟩
    case measure=>simp[intOf];omega
  .have HT:Hid (xs.take k=xs):=bC (by rw[HL.out];omega);have HSx:Hid (wr.heap[w.heap.size]? =some (bsO (nJ S xs))):=by have:=HS.out;rwa [HT.out] at this
   have hlt':¬(k:Int)<(n:Int):=by omega
   go_wp2_with (first
    |(refine ay rfl 124 _ rfl w.heap.size rfl 124 _ (0,0) _ HSx.out bK rfl (by rw[iE];exact iX) ?_)
    |(refine aP rfl 124 _ _ rfl (w.heap.size+1) (iW (nJ S xs)) rfl rfl 124 _ HR.out (by rw[iE];exact iX) rfl (oY _) ?_))
   exact aR (v:=.agg (iW (nJ S xs))) (by simp[results,Tryz.results145,asAddr,Act.put,AS (bt _ _ _ _ _ _ HR.out)]) rfl ⟨rfl,aX HB.out (by omega) _⟩
theorem TH(S:Nat)(a:Option Addr)(n c:Nat)(xs:List Int)(w:World)(h:iJ w a n xs):Calls Tryz.prog 222 #[.agg (iW S),.slice a n c] w (QL w (nS S xs)):=by
 have HL:=ac h.1
 have hn:=h.2.1
 have H:=ac h
 clear h
 go_enter Tryz.func222,Tryz.ntmps222
 go_upto_region 1 with (fail)
 obtain⟨W,hW⟩:∃W,W=(w.alloc (bsO S)).alloc (bsO 0):=⟨_,rfl⟩
 rw[wK,<-hW]
 have hs:W.heap[w.heap.size]? =some (bsO S):=by rw[hW,aG _ _ _ (by simp)];exact ae _ _
 have hr:W.heap[w.heap.size+1]? =some (bsO 0):=by
  rw[hW];have:=ae (w.alloc (bsO S)) (bsO 0);simpa using this
 have hB:Below w.heap.size w W:=by rw[hW];exact(((ag _ w).alloc (aj _) _).alloc (by simp) _)
 have HS:=ac hs
 have HR:=ac hr
 have HB:=ac hB
 clear hW hs hr hB
 go_wp2
 go_loopw [6,9] (λ_ i wr=>∃(k:Nat),k<=n/\i=.int .i64 k/\Hid (wr.heap[w.heap.size]? =some (bsO (nS S (xs.take k))))/\Hid (wr.heap[w.heap.size+1]? =some (bsO 0))/\Hid (Below w.heap.size w wr)) (λ_ i _=>n-(intOf i).toNat)
 case atStart=>exact⟨0,by omega,rfl,HS.out,HR.out,HB.out⟩
 case round=>
  obtain⟨k,hk,rfl,HS,HR,HB⟩:=hrel;by_cases hlt:k<n
  .obtain⟨b,o,rfl,hc,hw1,hw2⟩:=(H.out.ext HB.out).2.2 k hlt;have hkx:k<xs.length:=by rw[HL.out];exact hlt
   have HT:=ac (RM S xs k hkx);generalize xs.getD k 0=v at *;generalize nS S (xs.take k)=T at *;by_cases hv:0<=v/\v<1024
   .obtain⟨m,rfl⟩:∃m:Nat,v=(m:Int):=⟨v.toNat,by omega⟩
    have hm:m<1024:=by omega
    have HE:Hid (nS S (xs.take (k+1))=PY T m):=by rw[Hid,HT.out,MU,aM hv];rfl
    have e1:=KO m hm;have hm1:(m:Int)<1024:=by omega
    have hlt':(k:Int)<(n:Int):=by omega
    clear hv HT hw1 hw2;go_upto_region 5 with (fail)
    obtain⟨q,hq⟩:∃q,q=m/64:=⟨_,rfl⟩
    obtain⟨r,hr⟩:∃r,r=m%64:=⟨_,rfl⟩
    have hq1:q<16:=by omega
    have hr1:r<64:=by omega
    have e2:(m:Int)/64=(q:Int):=by omega
    have e3:bits .and .i64 (m:Int) 63=(r:Int):=by rw[hr];exact Bg m hm
    obtain⟨p,hp⟩:∃p:Nat,p=2^r:=⟨_,rfl⟩
    have e4:IntKind.u64.wrap (2^r)=(p:Int):=by rw[hp];exact Cr r hr1
    have hpl:p<18446744073709551616:=by rw[hp];exact Nat.pow_lt_pow_right (by decide) hr1
    obtain⟨u,hu⟩:∃u:Nat,u=wd T q ^^^ (wd T q&&&p):=⟨_,rfl⟩
    have e5:bits .andNot .u64 (wd T q:Nat) (p:Int)=(u:Int):=by rw[hu];exact BA _ _ (TS _ _) hpl
    have HS2:Hid ((wr.setCell ⟨w.heap.size,q,none⟩ (.int .u64 (u:Int))).heap[w.heap.size]? =some (bsO (PY T m))):=by
     rw[Hid,aC _ _ _ _ _ _ HS.out,hu,hp,hq,hr,uh]
    have HR2:Hid ((wr.setCell ⟨w.heap.size,q,none⟩ (.int .u64 (u:Int))).heap[w.heap.size+1]? =some (bsO 0)):=by
     rw[Hid,aU _ _ _ _ (by simp)];exact HR.out
    have HB2:Hid (Below w.heap.size w (wr.setCell ⟨w.heap.size,q,none⟩ (.int .u64 (u:Int))).drew):=(HB.out.setCell (aj _) _).drew;have hne:Nonempty (fL wr):=⟨⟨wr,ag _ _⟩⟩
    have g1:∀n:fL wr,n.val.cell? ⟨w.heap.size,q,none⟩=some (.int .u64 (wd T q:Nat)):=λn=>fL.cell (wS HS.out q hq1) n;have HQ:=ac hq;have HRR:=ac hr;have hq2:(q:Int)<16:=by omega
    have hr2:(r:Int)<=64:=by omega
    have cc:wr.drew.cell? ⟨w.heap.size,q,none⟩=some (.int .u64 (wd T q:Nat)):=wS HS.out q hq1;have cf:wr.drew.frozen? ⟨w.heap.size,q,none⟩=false:=cY _ _ _ _ _ HS.out;clear hq hr hp hu;refine jC (λw'=>∃n':fL wr,w'=n'.val) [(0,9,some (9,false))] (by kernel_rfl) (by kernel_rfl) ⟨⟨_,gB (ag _ _) 1⟩,rfl⟩ ?_;simp only[lS,ap,aD,am,aw]
    repeat (go_big_quiet_step (fail))
    refine aq ?_;refine fR rfl rfl ?_;go_simp;refine bR ?_;clear g1 hne cc cf e1 e2 e3 e4 e5 hpl;generalize (wr.setCell ⟨w.heap.size,q,none⟩ (.int .u64 (u:Int)))=wn at *;go_wp2
    go_roundw
    case rel=>exact⟨k+1,by omega,by go_num,by rw[Hid,HE.out];exact HS2.out,HR2,HB2⟩
    case measure=>simp[intOf];omega
   .have HE:Hid (nS S (xs.take (k+1))=T):=by rw[Hid,HT.out,MU,az hv]
    have e1:=UF v ⟨hw1,hw2⟩ hv;have hlt':(k:Int)<(n:Int):=by omega
    clear hv HT hw1 hw2;go_wp2
    go_roundw
    case rel=>exact⟨k+1,by omega,by go_num,by rw[Hid,HE.out];exact HS.out,HR,HB⟩
    case measure=>simp[intOf];omega
  .have HT:Hid (xs.take k=xs):=bC (by rw[HL.out];omega);have HSx:Hid (wr.heap[w.heap.size]? =some (bsO (nS S xs))):=by have:=HS.out;rwa [HT.out] at this
   have hlt':¬(k:Int)<(n:Int):=by omega
   go_wp2_with (first
    |(refine ay rfl 124 _ rfl w.heap.size rfl 124 _ (0,0) _ HSx.out bK rfl (by rw[iE];exact iX) ?_)
    |(refine aP rfl 124 _ _ rfl (w.heap.size+1) (iW (nS S xs)) rfl rfl 124 _ HR.out (by rw[iE];exact iX) rfl (oY _) ?_))
   exact aR (v:=.agg (iW (nS S xs))) (by simp[results,Tryz.results222,asAddr,Act.put,AS (bt _ _ _ _ _ _ HR.out)]) rfl ⟨rfl,aX HB.out (by omega) _⟩
theorem A4(S T:Nat)(w:World):Calls Tryz.prog 142 #[.agg (iW S),.agg (iW T)] w (QL w (S|||T)):=by
 go_enter Tryz.func142,Tryz.ntmps142
 go_upto_region 1 with (fail)
 obtain⟨W,hW⟩:∃W,W=((w.alloc (bsO S)).alloc (bsO T)).alloc (bsO 0):=⟨_,rfl⟩
 rw[wK,<-hW]
 have hs:W.heap[w.heap.size]? =some (bsO S):=by rw[hW,aG _ _ _ (by simp;omega),aG _ _ _ (by simp)];exact ae _ _
 have ht:W.heap[w.heap.size+1]? =some (bsO T):=by
  rw[hW,aG _ _ _ (by simp)];have:=ae (w.alloc (bsO S)) (bsO T);simpa using this
 have hr:W.heap[w.heap.size+1+1]? =some (bsO 0):=by
  rw[hW];have:=ae ((w.alloc (bsO S)).alloc (bsO T)) (bsO 0);simpa using this
 have hB:Below w.heap.size w W:=by rw[hW];exact((((ag _ w).alloc (aj _) _).alloc (by simp) _).alloc (by simp;omega) _)
 have HS:=ac hs
 have HT:=ac ht
 have HR:=ac hr
 have HB:=ac hB
 clear hW hs ht hr hB
 go_wp2
 go_loopw [5,6] (λ_ i wr=>∃(k:Nat),k<=16/\i=.int .i64 k/\Hid (wr.heap[w.heap.size]? =some (.cells (rB 16 (orK S T k)) 124))/\Hid (wr.heap[w.heap.size+1]? =some (bsO T))/\Hid (wr.heap[w.heap.size+1+1]? =some (bsO 0))/\Hid (Below w.heap.size w wr)) (λ_ i _=>16-(intOf i).toNat)
 case atStart=>exact⟨0,by omega,rfl,by rw[Hid,zv];exact HS.out,HT.out,HR.out,HB.out⟩
 case round=>
  obtain⟨k,hk,rfl,HS,HT,HR,HB⟩:=hrel;by_cases hlt:k<16
  .have hlt':(k:Int)<16:=by omega
   go_upto_region 4 with (fail)
   obtain⟨u,hu⟩:∃u:Nat,u=wd S k|||wd T k:=⟨_,rfl⟩
   have e5:bits .or .u64 (wd S k:Nat) (wd T k:Nat)=(u:Int):=by rw[hu];exact bits_or_u64_nat _ _ (TS _ _) (TS _ _)
   have hs0:wr.cell? ⟨w.heap.size,k,none⟩=some (.int .u64 (wd S k:Nat)):=by rw[aZ _ _ _ _ _ _ HS.out,yM _ _ _ hlt,orK,az (Nat.lt_irrefl k)]
   have HS2:Hid ((wr.setCell ⟨w.heap.size,k,none⟩ (.int .u64 (u:Int))).heap[w.heap.size]? =some (.cells (rB 16 (orK S T (k+1))) 124)):=by
    rw[Hid,aC _ _ _ _ _ _ HS.out,hu,B5]
   have HT2:Hid ((wr.setCell ⟨w.heap.size,k,none⟩ (.int .u64 (u:Int))).heap[w.heap.size+1]? =some (bsO T)):=by
    rw[Hid,aU _ _ _ _ (by simp)];exact HT.out
   have HR2:Hid ((wr.setCell ⟨w.heap.size,k,none⟩ (.int .u64 (u:Int))).heap[w.heap.size+1+1]? =some (bsO 0)):=by
    rw[Hid,aU _ _ _ _ (by simp;omega)];exact HR.out
   have HB2:Hid (Below w.heap.size w (wr.setCell ⟨w.heap.size,k,none⟩ (.int .u64 (u:Int))).drew):=(HB.out.setCell (aj _) _).drew;have hne:Nonempty (fL wr):=⟨⟨wr,ag _ _⟩⟩
   have g1:∀n:fL wr,n.val.cell? ⟨w.heap.size,k,none⟩=some (.int .u64 (wd S k:Nat)):=λn=>fL.cell hs0 n;have g2:∀n:fL wr,n.val.cell? ⟨w.heap.size+1,k,none⟩=some (.int .u64 (wd T k:Nat)):=λn=>fL.cell (wS HT.out k hlt) n;have cc:wr.drew.cell? ⟨w.heap.size,k,none⟩=some (.int .u64 (wd S k:Nat)):=hs0;have cf:wr.drew.frozen? ⟨w.heap.size,k,none⟩=false:=cY _ _ _ _ _ HS.out;clear hu hs0;refine jC (λw'=>∃n':fL wr,w'=n'.val) [(0,8,some (8,false))] (by kernel_rfl) (by kernel_rfl) ⟨⟨_,gB (ag _ _) 1⟩,rfl⟩ ?_;simp only[lS,ap,aD,am,aw]
   repeat (go_big_quiet_step (fail))
   refine aq ?_;refine fR rfl rfl ?_;go_simp;refine bR ?_;clear g1 g2 hne cc cf e5;generalize (wr.setCell ⟨w.heap.size,k,none⟩ (.int .u64 (u:Int)))=wn at *;go_wp2
   go_roundw
   case rel=>exact⟨k+1,by omega,by go_num,HS2,HT2,HR2,HB2⟩
   case measure=>simp[intOf];omega
  .obtain rfl:k=16:=by omega
   have HSx:Hid (wr.heap[w.heap.size]? =some (bsO (S|||T))):=by have:=HS.out;rwa [B7] at this
   go_wp2_with (first
    |(refine ay rfl 124 _ rfl w.heap.size rfl 124 _ (0,0) _ HSx.out bK rfl (by rw[iE];exact iX) ?_)
    |(refine aP rfl 124 _ _ rfl (w.heap.size+1+1) (iW (S|||T)) rfl rfl 124 _ HR.out (by rw[iE];exact iX) rfl (oY _) ?_))
   exact aR (v:=.agg (iW (S|||T))) (by simp[results,Tryz.results142,asAddr,Act.put,AS (bt _ _ _ _ _ _ HR.out)]) rfl ⟨rfl,aX HB.out (by omega) _⟩
end

section
open Go.RowKit
section
variable {P:Program} {Q:Exit->Act->World->Prop}
theorem tE{ops:Array Oper}{rest:List Oper}{o:Oper}{a:Act}(hgd:o.guard=none)(w0:World)(s x:Operand)(t:TypeId)(ho:o.op=.call {callee:=.builtin .append,args:=#[s,x],argTypes:=#[t,t]})
  (base:Nat) (z:Value) (bytes:Nat) (ht:P.underlying t=some (.slice 3)) (hinfo:(P.info? 3).map (λi=>(i.zero,i.size,i.bytes))=some (some z,1,bytes)) (hzs:z.cells.size=1)
  (v:Value) (xs:List Int) (hs:a.eval s=v) (hown:gD w0 base v xs) (y:Int) (hy:I64 y) (H:Nat) (hH:w0.heap.size=H) (hx:a.eval x=.slice (some ⟨H,0,none⟩) 1 1) (hlen:xs.length<=100000000) (hb8:bytes<=16) (hbase:base<=w0.heap.size)
  (h:∀g cap w',gD w' base (.slice (some ⟨g,0,none⟩) (xs.length+1) cap) (xs++ [y])->w0.grownBy w' v.ownBlock->(some g=v.ownBlock\/g=w0.heap.size+1)->wpList P ops Q rest (a.put o.dst (.slice (some ⟨g,0,none⟩) (xs.length+1) cap)) w'):
  wpList P ops Q (o :: rest) a (w0.alloc (.cells #[.int .i64 y] 3)):=by
 subst hH
 refine jI hgd w0 s x t 3 ho base z 1 bytes ht hinfo hzs (by omega) v xs.length _ [.int .i64 y] hs hown.1 w0.heap.size rfl hx rfl (by simp[Value.oneCell']) (by simp only[maxLen];omega) (by
  have:(xs.length+1)*bytes<=(xs.length+1)*16:=Nat.mul_le_mul_left _ hb8
  omega) hbase λg cap w' h2 h3 h4=>h g cap w' ⟨?_,λq hq=>?_,by simp;omega⟩ h3 h4
 .have e:fP (xs++ [y])=fP xs++ [.int .i64 y]:=by simp[fP]
  rw[e,bf];exact h2
 .rcases ax.1 hq with hq|hq
  .exact hown.2.1 q hq
  .simp at hq;subst hq;exact hy
end
end

section
open Go.RowKit
def yH(xs:List Int)(k:Nat):List Int:=((List.range' 1 (k-1)).filter λv:Nat=>decide ((v:Int)∈xs)).map λv:Nat=>(v:Int)
def kS(xs:List Int):List Int:=yH xs 201
theorem n8(xs:List Int)(k:Nat)(h:1<=k):yH xs (k+1)=if (k:Int)∈xs then yH xs k++ [(k:Int)] else yH xs k:=by
 obtain⟨j,rfl⟩:∃j,k=j+1:=⟨k-1,by omega⟩
 unfold yH
 rw[show j+1+1-1=j+1 by omega,show j+1-1=j by omega,List.range'_concat,bB,cU]
 have e:1+1*j=j+1:=by omega
 rw[e]
 by_cases hm:((j+1:Nat):Int)∈xs
 .rw[aM hm,b6,aM (by simpa using hm)];rfl
 .rw[az hm,b6,az (by simpa using hm)];simp
theorem JR(xs:List Int)(k:Nat):(yH xs k).length<=k:=by
 unfold yH
 rw[cT]
 have:=bX (λv:Nat=>decide ((v:Int)∈xs)) (List.range' 1 (k-1))
 simp only[List.length_range'] at this
 omega
def qP(xs ys:List Int):List Int:=xs.filter λx=> !decide (x∈ys)
end

section
open Go.RowKit Go.Shelf
attribute [local go_sem] Oper.semAt_some iF gH gS fX
section
variable {α:Type} {F:Fence} {n:Nat} {P:Program} {t kt et:TypeId} {enc:α->Value} {dec:Value->α} {one:Value} {w:World} {b:Nat} {L:List α} {ops:Array Oper} {rest:List Oper} {o:Oper} {a:Act} {Q:Exit->Act->World->Prop}
theorem IG(hg:o.guard=none)(m:Operand)(hop:o.op=Op.range t m)(ht:P.underlying t=some (.map kt et))(h:oB enc dec one w b L)(hm:a.eval m=.map (some b))
  (hK:∀w',pS enc dec one w' b w.heap.size L L->Below w.heap.size w w'->w'.heap.size=w.heap.size+1->wpListIn F n P ops Q rest (a.put o.dst (.pointer (some ⟨w.heap.size,0,none⟩))) w'):wpListIn F n P ops Q (o :: rest) a w:=by
 refine wpListIn_plain hg λK' hK'=>?_
 obtain⟨o',_,hrun,r1⟩:=h.range ht
 unfold Oper.wpIn
 refine⟨by simp[Oper.about,hop],?_⟩
 rw[Oper.semAt_plain F _ _ (by rw[hop];intro c hc';cases hc')]
 simp[execOp,hop,hm,hrun,Result.andThen]
 exact hK' _ _ (hK _ r1 ((ag _ w).alloc (aj _) _) (by simp))
theorem ME{r:Nat}{R:List α}(hg:o.guard=none)(it:Operand)(hop:o.op=Op.next it false)(hit:a.eval it=.pointer (some ⟨r,0,none⟩))(h:pS enc dec one w b r L R)
  (hDone:R= []->wpListIn F n P ops Q rest (a.put o.dst (.tuple #[.bool false])) w)
  (hMore:∀x R' w',x∈R->(∀y,y∈R'↔y∈R/\y≠x)->R'.length<R.length->pS enc dec one w' b r L R'->w.grownBy w' (some r)->w'.heap.size=w.heap.size->
    (Instr.entry (.pointer (some ⟨r,0,none⟩))).run P w'=.ok (.tuple #[enc x,one]) w'->wpListIn F n P ops Q rest (a.put o.dst (.tuple #[.bool true,enc x,one])) w'):wpListIn F n P ops Q (o :: rest) a w:=by
 refine wpListIn_plain hg λK' hK'=>?_
 unfold Oper.wpIn
 refine⟨by simp[Oper.about,hop],?_⟩
 rw[Oper.semAt_plain F _ _ (by rw[hop];intro c hc';cases hc')]
 rcases h.next (P:=P) o.type with ⟨h0,hrun⟩|⟨x,R',w',hx,hR',hlt,hrun,hSI,hgr,hsz,hen⟩
 .simp[execOp,hop,hit,hrun,Result.andThen];exact hK' _ _ (hDone h0)
 .simp[execOp,hop,hit,hrun,Result.andThen];exact hK' _ _ (hMore x R' w' hx hR' hlt hSI hgr hsz hen)
end
theorem pS.left{α:Type}{enc:α->Value}{dec:Value->α}{one:Value}{w:World}{b r:Nat}{L R:List α}(h:pS enc dec one w b r L R):w.rangeLeft b r=R.length:=by
 obtain⟨es,clock,since,seen,c0,h1,_,_,_,_,h6,_,_,_,rfl⟩:=h
 simp[World.rangeLeft,h1,h6]
def ki(x:Int):Array Value:=#[wT x]
def okK(L:List Int)(d:List Int)(x:Int):Prop:=x∈L/\x∉d
def nxK(d:List Int)(x:Int):List Int:=d++ [x]
def Cw(L:List Int)(d:List Int):Prop:=∀y∈L,y∈d
def FW(P:Program)(gf:Nat)(lb:Array Value)(L:List Int)(I:World->Prop):Prop:=Bl P gf lb ki (okK L) nxK [] (Cw L) (λ_ W=>I W)
theorem FW.mono{P:Program}{gf:Nat}{lb:Array Value}{L:List Int}{I I':World->Prop}(h:FW P gf lb L I)(hi:∀W,I' W->I W):FW P gf lb L I':=
 λlp K Kx T W hK hKx hInv h1 h2 hY h0=>h lp K Kx T W hK hKx (λs W hs=>hi W (hInv s W hs)) h1 h2 hY h0
theorem pS.iter{α:Type}{enc:α->Value}{dec:Value->α}{one:Value}{w:World}{b r:Nat}{L R:List α}(h:pS enc dec one w b r L R):∃o:Obj,w.heap[r]? =some o/\TL o=true:=by
 obtain⟨es,clock,since,seen,c0,_,_,_,_,_,h6,_⟩:=h
 exact⟨_,h6,rfl⟩
theorem GM{W W':World}(h:Below W.heap.size W W'):W.grownBy W' none:=⟨h.os,h.tape,h.output,h.size,λk hk _=>h.block k hk⟩
theorem oB.obj{α:Type}{enc:α->Value}{dec:Value->α}{one:Value}{w:World}{b:Nat}{L:List α}(h:oB enc dec one w b L):∃o,w.heap[b]? =some o/\∀W,W.heap[b]? =some o->oB enc dec one W b L:=by
 obtain⟨es,c,hb,h2⟩:=h
 exact⟨_,hb,λW hW=>⟨es,c,hW,h2⟩⟩
theorem qc(b G:Nat)(L:List Int)(o:Obj)(hS:∀W:World,W.heap[b]? =some o->Cy W b L):FW Tryz.prog 193 #[.pointer (some ⟨G,0,none⟩)] L (λW=>W.heap[G]? =some (.cells #[.map (some b)] 77)/\W.heap[b]? =some o):=by
 intro l K Kx T W hK hKx hInv hT0 hTg hY h0
 refine eK Tryz.func193 rfl trivial ?_ rfl
 simp only[Tryz.ntmps193,bd,bk,bx,Nat.reduceAdd,Nat.reduceSub,bF,bG,bV,bN,bD,bU]
 have HY:=ac hY
 have HI:=ac hInv
 have HK0:=ac hK
 have HT0:=ac hT0
 have HTG:=ac hTg
 have H0:=ac h0
 have HSS:=ac hS
 have hg0:W.cell? ⟨G,0,none⟩=some (.map (some b)):=cR (hInv _ _ h0).1 rfl
 have hb0:W.heap[b]? =some o:=(hInv _ _ h0).2
 have HB0:=ac hb0
 clear hY hInv hK hKx h0 hT0 hTg hS hb0
 gi_wp2_with (
  (refine IG rfl _ rfl JH (HSS.out W HB0.out) rfl ?_
   intro w1 hi hb hz;have HSI:=ac hi;have HK1:=ac (HK0.out _ _ _ none H0.out (GM hb) (λq e=>by cases e))
   have HNT:Hid (¬T w1 W.heap.size):=(λht=>by
    have h1:=HT0.out _ _ _ H0.out (HTG.out _ _ _ none _ H0.out (GM hb) (λq e=>by cases e) ht)
    omega)
   clear hi hb hz hg0))
 obtain⟨r,hr⟩:∃r,r=W.heap.size:=⟨_,rfl⟩
 rw[<-hr] at HSI HNT|-
 have HWE:Hid (W.heap.size<=r):=by rw[Hid,hr];exact aj _
 clear hr
 gi_loopw [3] (λ_ wr=>∃d R,Hid (Bh wr b r L R)/\Hid (K d wr)/\Hid (∀y,y∈R↔y∈L/\y∉d)/\Hid (¬T wr r)) (λ_ wr=>wr.rangeLeft b r)
 case atStart=>exact⟨[],L,HSI,HK1,λy=>by simp,HNT⟩
 case round=>
  obtain⟨d,R,HIr,HK,HM,HNTr⟩:=hrel;have HLT:=ac (pS.left HIr.out);obtain⟨io,hio,hit⟩:=HIr.out.iter;have HIO:=ac hio;have HIT:=ac hit;clear hio hit
  gi_wp2_with (
   (refine ME rfl _ rfl rfl HIr.out (λh0=>?_) (λx R' w2 hx hR' hR hi hg hz hen=>?_)))
  .subst h0;have HF:Hid (Cw L d):=λy hy=>by
    have:=(HM.out y)
    simp only[bO,false_iff,not_and,Classical.not_not] at this;exact this hy
   clear HM HLT HIr
   gi_wp2
   go_end0
   exact⟨⟨_,rfl⟩,Or.inl ⟨d,HF.out,HK.out⟩⟩
  .have hrow:∀q,some r=some q->W.heap.size<=q/\∃o:Obj,wr.heap[q]? =some o/\TL o=true:=λq e=>by injection e with e;subst e;exact⟨HWE.out,io,HIO.out,HIT.out⟩
   have hk2:K d w2:=HK0.out _ _ _ _ HK.out hg hrow;have hn2:¬T w2 r:=λht=>HNTr.out (HTG.out _ _ _ _ _ HK.out hg hrow ht);have HR2:=ac hR;have HX2:=ac hx;have HMR:=ac hR';have HI2:=ac hi;clear hi hg hz hR hrow HK HIr HIO HIT HNTr hR' hx;have hk3:=hk2;have hn3:=hn2;have HI3:=HI2;have hmm:=(HM.out x).1 HX2.out;obtain⟨fn,tmps,assign,body,hy,hR⟩:=HY.out d x _ hmm hk3;unfold ki at hy;have HY3:=ac hR;have HN3:=ac hn3;have HKK3:=ac hk3;clear hR hk2 hn2 hk3 hn3 hmm;rw[hy]
   gi_wp2
   refine HY3.out.mono ?_;rintro e W' (⟨rfl,hJ',hT'⟩|⟨rfl,hX'⟩)
   .have HKn:=ac hJ';have hrb:W'.heap[r]? =w2.heap[r]?:=hT'.2.1 r HI3.out.lt.2.1 HN3.out;have hbb:W'.heap[b]? =w2.heap[b]?:=by rw[(HI.out _ _ hJ').2,(HI.out _ _ HKK3.out).2]
    have HIn:=ac (HI3.out.of_blocks hbb hrb);have HNn:Hid (¬T W' r):=λht=>by
     rcases hT'.2.2 r ht with h|h
     .exact HN3.out h
     .have:=HI3.out.lt.2.1;omega
    have HMn:Hid (∀y,y∈R'↔y∈L/\y∉nxK d x):=λy=>by
     rw[HMR.out,HM.out];simp[nxK,and_assoc]
    clear hJ' hT' hy HY3 HN3 HKK3 hrb hbb HI3 HM HMR
    gi_wp2
    go_roundw
    case rel=>exact⟨_,R',HIn,HKn,HMn,HNn⟩
    case measure=>rw[pS.left HIn.out,HLT.out];exact HR2.out
   .have HX:=ac hX';clear hX' hy HY3
    gi_wp2
    exact aR (v:=.tuple #[]) (by simp[results,Tryz.results193,go_sem]) rfl ⟨⟨_,rfl⟩,Or.inr HX.out⟩
theorem qd(b:Nat)(w:World):Calls Tryz.prog 108 #[.map (some b)] w λe w'=>e=.returned (.func (.func 193) #[] #[.pointer (some ⟨w.heap.size,0,none⟩)])/\w'=w.alloc (.cells #[.map (some b)] 77):=by
 go_enter Tryz.func108,Tryz.ntmps108
 go_wp2
 go_ret
 exact⟨rfl,rfl⟩
theorem ji(args:Array Value)(w:World):(callFunc 193 args).run Tryz.prog w=.ok (.enter 193 args) w:=dK Tryz.func193 (by kernel_rfl) rfl args w
theorem gL.ownI(D base:Nat)(v:Value)(xs:List Int):gL D (λW=>gD W base v xs):=(gL.ownsRow _ _ _ _ _ _ _).and (gL.pure _ _)
def WK(w:World)(L:List Int)(e:Ending)(w':World):Prop:=∃v d,e=.returned v/\gD w' w.heap.size v d/\d.Nodup/\(∀y,y∈d↔y∈L)/\Below w.heap.size w w'
def AJV(w:World)(B base:Nat)(xs:List Int)(W:World):Prop:=
 ∃v,W.heap[B]? =some (.cells #[v] 22 (0,0))/\gD W base v xs/\v.ownBlock≠some B/\Below w.heap.size w W/\w.heap.size<W.heap.size
theorem AJV.steady{w:World}{B base:Nat}{xs:List Int}{D:Nat}(hD:w.heap.size<=D):gL D (AJV w B base xs):=by
 unfold AJV
 exact gL.ex λv=>(gL.block _ _ rfl).and ((gL.ownI _ _ _ _).and ((gL.pure _ _).and ((gL.below (aj _) hD).and (gL.size _ _))))
theorem MS(gf:Nat)(lb:Array Value)(L:List Int)(w:World)(eg:∀args w,(callFunc gf args).run Tryz.prog w=.ok (.enter gf args) w)(hit:FW Tryz.prog gf lb L (λW=>Below w.heap.size w W))(hl:L.length<=1000000000000)(hli:∀x∈L,I64 x):
  Calls Tryz.prog 226 #[.slice none 0 0,.func (.func gf) #[] lb] w (WK w L):=by
 refine(bu (n:=0)).1 ?_
 refine cu Tryz.func226 rfl trivial ?_
 simp only[Tryz.ntmps226,bd,bk,bx,Nat.reduceAdd,Nat.reduceSub,bF,bG,bV,bN,bD,bU]
 have HIT:=ac hit
 have HLI:=ac hli
 clear hit hli
 gi_wp2
 refine SF (ps:=#[7]) (gf:=gf) (lb:=lb) (enc:=ki) rfl eg HIT.out (λ_=>rfl)
  (λd W=>Hid (AJV w w.heap.size w.heap.size d W/\d.Nodup/\∀y∈d,y∈L))
  (λ_ _=>False)
  (λd x a1 W=>a1={tmps:=#[.slice none 0 0,.func (.func gf) #[] lb,.pointer (some ⟨w.heap.size,0,none⟩),undef,.slice none 0 0,wT x,.func (.func gf) #[] lb,wT x,undef,undef,undef,undef,undef],defers:= []})
  (λd=>(AJV.steady (by simp)).and ((gL.pure _ _).and (gL.pure _ _))) (λc=>gL.pure _ _) (λd x a1=>gL.pure _ _) (λd W h=>by obtain⟨⟨v,_,_,_,hb,_⟩,_⟩:=h.out;exact hb)
  (TV w.heap.size 22) ?t0 ?tg ?start ?assign ?body ?done ?stop
 case t0=>
  intro d W k h ht;obtain⟨⟨v,hv,ho,_,_,h1⟩,_⟩:=h.out;rcases ht with rfl|⟨u,hu,hk⟩
  .exact h1
  .rw[hv] at hu;simp only[aW,Obj.cells.injEq,Array.mk.injEq,List.cons.injEq,and_true] at hu;subst hu;exact(ho.1.lt k hk).2
 case tg=>
  rintro W W' row hg hr ⟨d,h⟩ k ht;obtain⟨⟨v,hv,_⟩,_⟩:=h.out;refine ht.ext (hg.block _ (au.1 hv).1 λe=>?_);obtain⟨_,o,ho,hb⟩:=hr _ e.symm;rw[hv] at ho;cases ho;cases hb
 case start=>exact⟨⟨_,ae _ _,gD.nil _ _,by simp[Value.ownBlock],(ag _ w).alloc (aj _) _,by simp⟩,List.nodup_nil,by simp⟩
 case assign=>
  rintro lp d x W hok hJ;unfold ki
  gi_wp2
  exact⟨gC.refl _,hJ,by trivial,Tch.refl _ _⟩
 case body=>
  rintro lp d x a1 W2 hok hJ rfl;obtain⟨⟨v,hv,ho,hne,hb,hlt0⟩,hnd,hsub⟩:=hJ.out;obtain⟨av,cv,rfl⟩:=ho.form;obtain⟨hc0,hf0⟩:=cz 0 hv rfl;have HO:=ac ho;have HV:=ac hv;have HB:=ac hb;have HNE:=ac hne;have HOK:=ac hok;have hlen:d.length<=1000000000000:=aT (qF hnd hsub) hl;have HND:=ac hnd;have HSUB:=ac hsub;clear hv ho hb hJ hne hok hnd hsub
  gi_wp2_with (
   (gi_at_builtin
    refine oM (by repeat (first|exact gZ|refine iK ?_|refine hU ?_)) _ _ _ rfl ?_;refine jI rfl W2 (.tmp 8) (.tmp 10) 22 3 rfl w.heap.size _ 1 8 be pY rfl (by omega) (.slice av d.length cv) d.length _ [.int .i64 x] rfl HO.out.1 W2.heap.size rfl rfl rfl (by simp[Value.oneCell']) (by simp only[maxLen];omega) (by omega) (by omega) ?_;intro g2 cap w2 hown2 hgr2 hat2;have HO2:=ac hown2;have HG2:=ac hgr2;have HA2:=ac hat2;have hv2:=fQ hgr2 HV.out HNE.out;obtain⟨hc2,hf2⟩:=cz 0 hv2 rfl;have hlt2:w.heap.size<w2.heap.size:=(au.1 hv2).1;have HV2:=ac hv2
    clear hown2 hgr2 hat2 hv2 hc0 hf0))
  go_wp2;have hb2:Below w.heap.size w w2:=HB.out.grown HG2.out HB.out.size (λk e=>(HO.out.1.lt k e).1);have hgne:g2≠w.heap.size:=by
   rcases HA2.out with h|h
   .exact λe=>HNE.out (by rw[<-h,e])
   .omega
  have hB2:=aC w2 w.heap.size 0 _ _ (.slice (some ⟨g2,0,none⟩) (d.length+1) cap) HV2.out;simp only[ar,aF] at hB2;refine⟨(gC.grown HG2.out (sE HO.out.1)).trans (gC.setCell _ _ _),⟨⟨_,hB2,?_,by simpa[Value.ownBlock] using hgne,?_⟩,?_,?_⟩,?_⟩
  .refine gD.kept (row:=some w.heap.size) (w:=w2) ⟨?_,?_,by simp[nxK];omega⟩ (fU w2 w.heap.size 0 _) (.inr (by simp[Value.ownBlock];omega))
   .have:=HO2.out;simpa[nxK,fP] using this
   .intro z hz;rcases ax.1 hz with h|h
    .exact HO.out.2.1 z h
    .simp only[bz] at h;subst h;exact HLI.out z HOK.out.1
  .exact⟨hb2.setCell (aj _) _,by simpa using hlt2⟩
  .exact List.nodup_append.2 ⟨HND.out,by simp,λc hc c' hc' e=>by
    simp only[bz] at hc';subst hc' e
    exact HOK.out.2 hc⟩
  .intro y hy;rcases ax.1 hy with hy|hy
   .exact HSUB.out y hy
   .rw[bz] at hy;subst hy;exact HOK.out.1
  .refine kx HV.out hB2 (by simpa using HG2.out.size) (λk hk hkB hkv=>?_) (λk hk=>?_)
   .rw[aU _ _ _ _ (λe=>hkB e),HG2.out.block k hk (λe=>hkv e.symm)]
   .simp only[Value.ownBlock,aW] at hk;subst hk;rcases HA2.out with h|h
    .exact .inl h.symm
    .exact .inr (by omega)
 case done=>
  rintro D d W hD hfin hJ hK;obtain⟨⟨v,hv,ho,hne,hb,hlt0⟩,hnd,hsub⟩:=hJ.out;obtain⟨av,cv,rfl⟩:=ho.form;have hc0:=cK 0 hv rfl;have HO:=ac ho;have HB:=ac hb;have HJ:=hJ;have HFIN:=ac hfin;have HND:=ac hnd;have HSUB:=ac hsub;clear hv ho hb hJ hne hfin hnd hsub
  gi_wp2
  obtain⟨v2,hv2,ho2,_,hb2,_⟩:=(AJV.steady (w:=w) (B:=w.heap.size) (base:=w.heap.size) (xs:=d) (D:=w.heap.size) (aj _)).put (.deferred none) (l:=D) HJ.out.1 (by simp at hD;omega) hK rfl;refine⟨by simp,.inl ⟨_,_,rfl,cM hK,?_⟩⟩;have ho3:gD (W.putObj D (.deferred none)) w.heap.size (.slice av d.length cv) d:=(gL.ownI w.heap.size w.heap.size (.slice av d.length cv) d).put (.deferred none) (l:=D) HO.out (by simp at hD;omega) hK rfl;exact⟨.slice av d.length cv,by simp[results,Tryz.results226,go_sem],_,d,rfl,ho3,HND.out,λy=>⟨HSUB.out y,HFIN.out y⟩,hb2⟩
 case stop=>rintro D c W hD h;exact h.elim
theorem TC(gf:Nat)(lb:Array Value)(L:List Int)(w:World)(eg:∀args w,(callFunc gf args).run Tryz.prog w=.ok (.enter gf args) w)(hit:FW Tryz.prog gf lb L (λW=>Below w.heap.size w W))(hl:L.length<=1000000000000)(hli:∀x∈L,I64 x):
  Calls Tryz.prog 158 #[.func (.func gf) #[] lb] w (WK w L):=by
 have HIT:=ac hit
 have EG:=ac eg
 have HLI:=ac hli
 clear hit eg hli
 go_enter Tryz.func158,Tryz.ntmps158
 go_wp2_with (go_at_call 226;refine(MS gf lb L w EG.out HIT.out hl HLI.out).mono ?_;rintro e w' ⟨v,d,rfl,ho,hn,hm,hb⟩;have HO:=ac ho;have HB:=ac hb;have HN:=ac hn;have HM:=ac hm;clear ho hb hn hm)
 go_ret
 exact⟨_,d,rfl,HO.out,HN.out,HM.out,HB.out⟩
theorem BT:∀{l m:List Int},l.Pairwise (· < ·)->m.Pairwise (· < ·)->(∀x,x∈l↔x∈m)->l=m
 | [],[],_,_,_=>rfl
 | [],b :: m,_,_,h=>by have:=(h b).2 (by simp);cases this
 |a :: l,[],_,_,h=>by have:=(h a).1 (by simp);cases this
 |a :: l,b :: m,hl,hm,h=>by
  obtain⟨h1,h2⟩:=dW.1 hl;obtain⟨h3,h4⟩:=dW.1 hm;have e:a=b:=by
   have ha:=(h a).1 (by simp);have hb:=(h b).2 (by simp);rcases aS.1 ha with e|ha
   .exact e
   .rcases aS.1 hb with e|hb
    .exact e.symm
    .have:=h1 b hb;have:=h3 a ha;omega
  subst e;refine bh _ (BT h2 h4 λx=>⟨λhx=>?_,λhx=>?_⟩)
  .rcases aS.1 ((h x).1 (dN _ hx)) with e|hy
   .have:=h1 x hx;omega
   .exact hy
  .rcases aS.1 ((h x).2 (dN _ hx)) with e|hy
   .have:=h3 x hx;omega
   .exact hy
theorem uC{xs:List Int}{v:Int}:v∈kS xs↔1<=v/\v<=200/\v∈xs:=by
 unfold kS yH
 simp only[a8,bI,eu,aN]
 constructor
 .rintro⟨a,⟨⟨h1,h2⟩,h3⟩,rfl⟩;exact⟨by omega,by omega,h3⟩
 .rintro⟨h1,h2,h3⟩;refine⟨v.toNat,⟨⟨by omega,by omega⟩,?_⟩,by omega⟩;rw[show((v.toNat:Nat):Int)=v by omega];exact h3
theorem QT(xs:List Int):(kS xs).Pairwise (· < ·):=by
 unfold kS yH
 rw[List.pairwise_map]
 refine List.Pairwise.imp (R:=λa b:Nat=>a<b) (λh=>by omega) ?_
 exact(List.pairwise_lt_range' 1).filter _
theorem uc{d xs:List Int}(hn:d.Nodup)(hm:∀y,y∈d↔y∈xs)(hv:∀y∈xs,1<=y/\y<=200):d.mergeSort (λx y=>decide (x<=y))=kS xs:=by
 have hp:=eV d λx y=>decide (x<=y)
 have hso:=List.pairwise_mergeSort (le:=λx y:Int=>decide (x<=y)) (λa b c h1 h2=>by simp at *;omega) (λa b=>by simp;omega) d
 have hnd:=hp.nodup_iff.2 hn
 refine BT ?_ (QT xs) λx=>?_
 .refine List.Pairwise.imp₂ (λa b h1 h2=>?_) hso hnd;have h1:decide (a<=b)=true:=h1;have h2:a≠b:=h2;simp at h1;omega
 .rw[hp.mem_iff,hm,uC];exact⟨λh=>⟨(hv x h).1,(hv x h).2,h⟩,λh=>h.2.2⟩
theorem ZQ(gf:Nat)(lb:Array Value)(L:List Int)(w:World)(eg:∀args w,(callFunc gf args).run Tryz.prog w=.ok (.enter gf args) w)(hit:FW Tryz.prog gf lb L (λW=>Below w.heap.size w W))(hl:L.length<=1000000000000)(hli:∀x∈L,1<=x/\x<=200):
  Calls Tryz.prog 107 #[.func (.func gf) #[] lb] w (mT w (kS L)):=by
 have HIT:=ac hit
 have EG:=ac eg
 have HLI:=ac hli
 have HL6:Hid (∀x∈L,I64 x):=λx hx=>by have:=hli x hx;unfold I64;omega
 clear hit eg hli
 go_enter Tryz.func107,Tryz.ntmps107
 go_wp2_with (first
  |(go_at_call 158;refine(TC gf lb L w EG.out HIT.out hl HL6.out).mono ?_;rintro e w1 ⟨v,d,rfl,ho,hn,hm,hb⟩;have HO:=ac ho;have HB:=ac hb;have HN:=ac hn;have HM:=ac hm;clear ho hb hn hm)
  |(go_at_call 165;refine(OA w.heap.size v d w1 HO.out).mono ?_;rw[uc HN.out HM.out HLI.out];rintro e w2 ⟨rfl,ho,hg⟩;have HO2:=ac ho;have HG:=ac hg;clear ho hg))
 go_ret
 exact⟨_,rfl,HO2.out,HB.out.grown HG.out HB.out.size λk e=>(HO.out.1.lt k e).1⟩
theorem pK(b:Nat)(p:Int->Prop)(xs:List Int)(w:World)(h:jU w b p)(hp:∀y,p y↔y∈xs)(hv:∀y∈xs,1<=y/\y<=200):
  Calls Tryz.prog 38 #[.map (some b)] w (mT w (kS xs)):=by
 obtain⟨L,hL,hm⟩:=h
 have hmx:∀y,y∈L↔y∈xs:=λy=>(hm y).trans (hp y)
 have HR:Hid (kS L=kS xs):=BT (QT _) (QT _) λy=>by rw[uC,uC,hmx]
 have HLV:Hid (∀y∈L,1<=y/\y<=200):=λy hy=>hv y ((hmx y).1 hy)
 obtain⟨o,ho,hs⟩:=hL.obj
 have HB:=ac ho
 have HS:=ac hs
 have hlen:L.length<=1000000000000:=by
  have h2:=qF (l':=kS xs) hL.nodup λx hx=>uC.2 ⟨(HLV.out x hx).1,(HLV.out x hx).2,(hmx x).1 hx⟩;have h3:(kS xs).length<=201:=JR xs 201;omega
 clear hL hm hp hv hmx ho hs
 go_enter Tryz.func38,Tryz.ntmps38
 go_wp2_with (first
  |(go_at_call 108;refine(qd b w).mono ?_;rintro e w1 ⟨rfl,hw1⟩;have HW1:=ac hw1;clear hw1)
  |(go_at_call 107
    (have HIK:FW Tryz.prog 193 #[.pointer (some ⟨w.heap.size,0,none⟩)] L (λW=>Below w1.heap.size w1 W):=(qc b w.heap.size L o HS.out).mono λW hW=>(by
      have hz:w1.heap.size=w.heap.size+1:=(by rw[HW1.out];simp)
      have hbl:=(au.1 HB.out).1;have h1:W.heap[w.heap.size]? =w1.heap[w.heap.size]?:=hW.block _ (by omega);have h2:W.heap[b]? =w1.heap[b]?:=hW.block _ (by omega);rw[h1,h2,HW1.out,aG _ _ _ hbl]
      exact⟨ae _ _,HB.out⟩))
    refine(ZQ _ _ L w1 ji HIK hlen HLV.out).mono ?_;rw[HR.out];rintro e w2 ⟨v,rfl,ho,hb⟩;have HO2:=ac ho;have HB2:=ac hb
    clear ho hb HIK))
 go_ret
 have hb1:Below w.heap.size w w1:=by rw[HW1.out];exact fD _ _
 exact⟨_,rfl,HO2.out.mono hb1.size,fC hb1 HB2.out⟩
end
end Go.Proofs.YtbknbcmppdglhaaGreatDoor
