/-
 Sets in slices of the call's own:of the numbers to 200,of those below 1024.
-/
import Derived.Test.YtbknbcmppdglhaaGreatDoorA0
import Derived.Test.YtbknbcmppdglhaaGreatDoorTK
import Derived.Test.YtbknbcmppdglhaaGreatDoorPB
import Derived.Test.YtbknbcmppdglhaaGreatDoorSC
import Derived.Test.YtbknbcmppdglhaaGreatDoorER
import Derived.Test.YtbknbcmppdglhaaGreatDoorTH
import Derived.Test.YtbknbcmppdglhaaGreatDoorOwnR
import Derived.Deep.Onto
namespace Go.Proofs.YtbknbcmppdglhaaGreatDoor
set_option linter.unusedSimpArgs false
set_option linter.unusedVariables false
set_option linter.unusedSectionVars false
set_option maxRecDepth 100000
set_option maxHeartbeats 40000000
section
open Go.RowKit
def pV{α:Type}(n:Nat)(I:Nat->α):List α:=(List.range n).map I
theorem iR{α:Type}(n:Nat)(I:Nat->α):(pV n I).length=n:=by simp[pV]
theorem AG{α:Type}{n:Nat}{I:Nat->α}{k:Nat}(hk:k<n):(pV n I)[k]? =some (I k):=by grind[pV]
theorem PG{α:Type}{n:Nat}{I:Nat->α}{k:Nat}(hk:k<n)(z:α):(pV n I).getD k z=I k:=by grind[AG]
theorem KJ{α:Type}{n:Nat}{I:Nat->α}{k:Nat}(x:α):(pV n I).set k x=pV n λj=>if j=k then x else I j:=by
 apply cZ
 intro j
 by_cases hj:j<n
 .rw[dR,AG hj,AG hj];by_cases e:k=j
  .grind[iR]
  grind
 grind[iR]
theorem EW{z:Array Value}(h0:0<z.size):∀n,(madeCells z (n*z.size)).toList=(List.range n).flatMap λ_=>z.toList
 |0=>by simp[madeCells]
 |n+1=>by
  have ih:=EW h0 n;have e:∀m,(madeCells z m).toList=(List.range m).map λj=>z[j%z.size]!:=λm=>by simp[madeCells]
  rw[e] at ih|-;rw[Nat.succ_mul,List.range_add,cU,ih,cm,cw]
  congr 1
  apply cZ
  grind[List.getElem?_range,Nat.mul_comm,Nat.mul_add_mod,Nat.mod_eq_of_lt]
def vsC(f:Nat->Bool):List Value:=(jN f).toList
theorem sJ(f:Nat->Bool):(vsC f).length=201:=by rfl
theorem IK(f:Nat->Bool):(vsC f).toArray=jN f:=by rfl
theorem mX(f:Nat->Bool):(Tryz.prog.info? 158).map (·.size)=some (jN f).size:=by simp[iI,nW]
theorem CY(f:Nat->Bool):(Tryz.prog.info? 158).map (·.size)=some (vsC f).length:=by simp[sJ,nW]
abbrev QE(W:World)(base:Nat)(v:Value)(n:Nat)(I:Nat->Nat->Bool):Prop:=iP 158 201 vsC W base v (pV n I)
section
variable {W:World} {base g n m c:Nat} {I:Nat->Nat->Bool}
theorem uI(h:QE W base (.slice (some ⟨g,0,none⟩) m c) n I){k:Nat}(hk:k<n):W.rangeAt g (k*201) (vsC (I k)):=by
 have:=iP.range sJ h (λ_=>false) (k:=k) (by grind[iR])
 grind[PG]
theorem BZ(h:QE W base (.slice (some ⟨g,0,none⟩) m c) n I){k:Nat}(hk:k<n)(f:Nat->Bool):W.there g (k*201) (jN f).size:=by
 exact iP.there sJ h (by grind[iR])
theorem u9(h:QE W base (.slice (some ⟨g,0,none⟩) m c) n I){k:Nat}(hk:k<n)(f:Nat->Bool):QE (W.setCells g (k*201) (jN f).toList) base (.slice (some ⟨g,0,none⟩) m c) n (rA I k f):=by
 have:=iP.setAt sJ h (k:=k) (by grind[iR]) f
 rwa [KJ] at this
theorem OM(h:QE W base (.slice (some ⟨g,0,none⟩) m c) n I){k j:Nat}(hk:k<n)(hj:j<201):W.cell? ⟨g,k*201+j,none⟩=some (.bool (I k j)):=
 uI h hk j _ (by show(jN (I k)).toList[j]? =_;grind[uW])
theorem UU(h:QE W base (.slice (some ⟨g,0,none⟩) m c) n I){k j:Nat}(hk:k<n)(hj:j<201)(b:Bool):QE (W.setCell ⟨g,k*201+j,none⟩ (.bool b)) base (.slice (some ⟨g,0,none⟩) m c) n (rA I k λi=>if i=j then b else I k i)/\W.frozen? ⟨g,k*201+j,none⟩=false:=by
 have hfz:W.frozen? ⟨g,k*201+j,none⟩=false:=(iP.there sJ h (k:=k) (by grind[iR]) j hj).2
 refine⟨?_,hfz⟩
 obtain rfl:m=(pV n I).length:=by grind[iP.form]
 have h1:=(h.1.stored (k*201+j) (.bool b)).1
 refine⟨?_,by have:=h.2;grind[iR]⟩
 have e:((pV n I).flatMap vsC).set (k*201+j) (.bool b)=(pV n (rA I k λi=>if i=j then b else I k i)).flatMap vsC:=by
  have h2:=KI vsC 201 sJ (λi=>if i=j then b else I k i) (pV n I) k (by grind[iR]);rw[KJ] at h2;have h3:(λj_1=>if j_1=k then (λi=>if i=j then b else I k i) else I j_1)=rA I k λi=>if i=j then b else I k i:=rfl
  rw[h3] at h2;rw[<-h2];have hl:((pV n I).flatMap vsC).length=n*201:=by rw[vL vsC 201 sJ,iR]
  have hx:vsC (λi=>if i=j then b else I k i)=(vsC (I k)).set j (.bool b):=by
   apply cZ;intro i;by_cases hi:i<201
   .rw[dR];show(jN _).toList[i]? =_;rw[Array.getElem?_toList,uW _ _ hi];by_cases e:j=i
    .grind[sJ]
    .rw[az e,az (λx=>e x.symm)];show _=(jN (I k)).toList[i]?
     grind[uW]
   grind[sJ]
  have hmid:(((pV n I).flatMap vsC).drop (k*201)).take 201=vsC (I k):=by
   apply cZ;intro i;by_cases hi:i<201
   .rw[List.getElem?_take_of_lt hi,List.getElem?_drop,<-dH h.1 (k*201+i) (by rw[iR];omega),OM h hk hi];show _=(jN (I k)).toList[i]?;rw[Array.getElem?_toList,uW _ _ hi]
   .rw[di (by simp;omega),di (by rw[sJ];omega)]
  rw[hx,<-hmid];clear hx hmid h2 h3;generalize (pV n I).flatMap vsC=X at hl|-;apply cZ;intro i;rw[dR];by_cases h1:i<k*201
  .rw[az (by omega),cG (by simp;omega),cG (by simp;omega),List.getElem?_take_of_lt h1]
  .by_cases h2:i<k*201+201
   .rw[cG (by simp;omega),du (by simp;omega),dR];simp only[dU,List.length_drop];rw[Nat.min_eq_left (by omega)];by_cases e:k*201+j=i
    .rw[aM e,aM (by omega)];rw[aM (by omega),aM (by omega)]
    .rw[az e,az (by omega),List.getElem?_take_of_lt (by omega),List.getElem?_drop]
     congr 1;omega
   .rw[az (by omega),du (by simp;omega),List.getElem?_drop];simp only[bf,dU,eE,List.length_drop]
    congr 1;omega
 rw[<-e]
 simpa[iR] using h1
end
theorem C7:(Tryz.prog.info? 158).map (λi=>(i.zero,i.size,i.bytes))=some (some (.agg (jN λ_=>false)),201,201):=by kernel_rfl
theorem Cd(n:Nat)(hn:n<=1000000)(w:World):(Instr.makeSlice 222 (.int .i64 (n:Int)) (.int .i64 (n:Int))).run Tryz.prog w=.ok (.slice (some ⟨w.heap.size,0,none⟩) n n) (w.alloc (.cells (madeCells (jN λ_=>false) (n*201)) 158)):=by
 obtain⟨i,hi,hz⟩:=fq.1 C7
 simp only[Prod.mk.injEq] at hz
 obtain⟨hz,hs,hb⟩:=hz
 have hr:=run_make (P:=Tryz.prog) w 222 158 i _ Tryz.underlying222 hi hz .i64 .i64 n n (by omega) (Int.le_refl _) (by grind) (by omega)
 rw[hs] at hr
 assumption
theorem Ce{n base:Nat}(hn:n<=1000000){w:World}(hb:base<=w.heap.size):QE (w.alloc (.cells (madeCells (jN λ_=>false) (n*201)) 158)) base (.slice (some ⟨w.heap.size,0,none⟩) n n) n (λ_ _=>false):=by
 have h:=World.ownsRow_lit (base:=base) (e:=158) (size:=201) w (madeCells (jN λ_=>false) (n*201)) n hb (by unfold maxLen;omega) (size_madeCells _ _)
 have e:(madeCells (jN λ_=>false) (n*201)).toList=(pV n λ_ _=>false).flatMap vsC:=by
  have:=EW (z:=jN λ_=>false) (by simp[iI]) n;rw[iI] at this;rw[this,pV,List.flatMap_map];rfl
 exact⟨by grind[iR],by grind[iR]⟩
def bsC(S:Nat):List Value:=(iW S).toList
theorem IR(S:Nat):(bsC S).length=16:=by rfl
theorem PN(S:Nat):(Tryz.prog.info? 124).map (·.size)=some (iW S).size:=by simp[iE,iX]
theorem yi(S:Nat):(Tryz.prog.info? 124).map (·.size)=some (bsC S).length:=by simp[IR,iX]
abbrev uO(W:World)(base:Nat)(v:Value)(n:Nat)(I:Nat->Nat):Prop:=iP 124 16 bsC W base v (pV n I)
section
variable {W:World} {base g n m c:Nat} {I:Nat->Nat}
theorem pB(h:uO W base (.slice (some ⟨g,0,none⟩) m c) n I){k:Nat}(hk:k<n):W.rangeAt g (k*16) (bsC (I k)):=by
 have:=iP.range IR h 0 (k:=k) (by grind[iR])
 grind[PG]
theorem LF(h:uO W base (.slice (some ⟨g,0,none⟩) m c) n I){k:Nat}(hk:k<n)(S:Nat):W.there g (k*16) (iW S).size:=by
 exact iP.there IR h (by grind[iR])
theorem UT(h:uO W base (.slice (some ⟨g,0,none⟩) m c) n I){k:Nat}(hk:k<n)(S:Nat):uO (W.setCells g (k*16) (iW S).toList) base (.slice (some ⟨g,0,none⟩) m c) n (lI I k S):=by
 have:=iP.setAt IR h (k:=k) (by grind[iR]) S
 rwa [KJ] at this
end
theorem C5:(Tryz.prog.info? 124).map (λi=>(i.zero,i.size,i.bytes))=some (some (.agg (iW 0)),16,128):=by kernel_rfl
theorem te(n:Nat)(hn:n<=1000000)(w:World):(Instr.makeSlice 111 (.int .i64 (n:Int)) (.int .i64 (n:Int))).run Tryz.prog w=.ok (.slice (some ⟨w.heap.size,0,none⟩) n n) (w.alloc (.cells (madeCells (iW 0) (n*16)) 124)):=by
 obtain⟨i,hi,hz⟩:=fq.1 C5
 simp only[Prod.mk.injEq] at hz
 obtain⟨hz,hs,hb⟩:=hz
 have hr:=run_make (P:=Tryz.prog) w 111 124 i _ Tryz.underlying111 hi hz .i64 .i64 n n (by omega) (Int.le_refl _) (by grind) (by omega)
 rw[hs] at hr
 assumption
def eqV(f g:Nat->Bool):Bool:=(List.range 201).all λi=>f i==g i
theorem mg{f g:Nat->Bool}:eqV f g=true↔∀v,v<201->f v=g v:=by simp[eqV]
theorem jg(w:World)(f g:Nat->Bool):(Op.equalIn 10000 158 (.agg (jN f)) (.agg (jN g))).run Tryz.prog w=.ok (eqV f g) w:=by
 have hi:∃i,Tryz.prog.info? 4=some i:=eh.1 (by kernel_rfl)
 obtain⟨i,hi⟩:=hi
 have h1:Tryz.prog.cellsOf 4=1:=by kernel_rfl
 rw[run_equalIn_array w 9999 _ _ cP hi,h1]
 exact xW w f g _ _ _ (λi hi=>⟨uW f i (aQ.1 hi),uW g i (aQ.1 hi)⟩)
theorem vm(w:World)(f g:Nat->Bool):(binOp .neq 158 (.agg (jN f)) (.agg (jN g))).run Tryz.prog w=.ok (.bool (!eqV f g)) w:=by
 simp[run_neq_struct,jg]
def eqW(S T:Nat):Bool:=(List.range 16).all λi=>wd S i==wd T i
theorem Ak{S T:Nat}(hS:S<2^1024)(hT:T<2^1024):eqW S T=true↔S=T:=by
 grind[np,eqW]
theorem DW(w:World)(f g:Nat->Nat)(xs ys:Array Value):∀(is:List Nat),(∀i∈is,xs[i]? =some (.int .u64 (f i:Nat))/\ys[i]? =some (.int .u64 (g i:Nat)))->(Op.eqItems 9999 122 1 xs ys is).run Tryz.prog w=.ok (is.all λi=>f i==g i) w
 | [],_=>by rfl
 |i :: is,h=>by
  obtain⟨h1,h2⟩:=h i (by simp);have ih:=DW w f g xs ys is (λj hj=>h j (by grind));simp only[Op.eqItems,b7,fm];rw[JT _ i _ w h1];simp only[b8];rw[JT _ i _ w h2];simp only[b8];rw[run_equalIn_int w 9998 122 .u64 .u64 (f i:Nat) (g i:Nat) fh];simp only[b8];have e:((f i:Int)==(g i:Int))=(f i==g i):=by
   grind
  rw[e];cases hq:(f i==g i) with
  |false=>simp[hq]
  |true=>grind
theorem jh(w:World)(S T:Nat):(Op.equalIn 10000 124 (.agg (iW S)) (.agg (iW T))).run Tryz.prog w=.ok (eqW S T) w:=by
 have hi:∃i,Tryz.prog.info? 122=some i:=eh.1 (by kernel_rfl)
 obtain⟨i,hi⟩:=hi
 have h1:Tryz.prog.cellsOf 122=1:=by kernel_rfl
 rw[run_equalIn_array w 9999 _ _ bK hi,h1]
 exact DW w (wd S) (wd T) _ _ _ (λi hi=>⟨IL S i (aQ.1 hi),IL T i (aQ.1 hi)⟩)
theorem vn(w:World)(S T:Nat):(binOp .neq 124 (.agg (iW S)) (.agg (iW T))).run Tryz.prog w=.ok (.bool (!eqW S T)) w:=by
 simp[run_neq_struct,jh]
end

section
open Go.RowKit
def HJ(w:World)(r:lP)(S:Nat)(W:World):Prop:=
 W.heap[w.heap.size]? =some (vR r.d r.aa r.na r.ca)/\W.heap[w.heap.size+1]? =some (bsO S)/\(∃h,W.heap[w.heap.size+1+1]? =some (bsO h))/\Below w.heap.size w W
theorem HJ.ext{w:World}{r:lP}{S:Nat}{W W':World}(h:HJ w r S W)(hb:Below W.heap.size W W'):HJ w r S W':=by
 obtain⟨h1,h2,⟨g,h3⟩,h4⟩:=h
 exact⟨fB hb h1,fB hb h2,⟨g,fB hb h3⟩,h4.trans (hb.mono h4.size)⟩
def pT(S:Nat)(i:uP):Nat:=nJ (MU S (gM i)) (gV i)
theorem ig(r:lP)(S:Nat)(w:World)(hr:rD w r)(hna:r.na<=1000000):Calls Tryz.prog 147 #[NV r,.agg (iW S)] w (QL w (pT S r.d)):=by
 have HOK:=ac hr
 clear hr
 go_enter Tryz.func147,Tryz.ntmps147
 go_upto_region 1 with (fail)
 obtain⟨W,hW⟩:∃W,W=((w.alloc (vR r.d r.aa r.na r.ca)).alloc (bsO S)).alloc (bsO 0):=⟨_,rfl⟩
 rw[wK,<-hW]
 have hJ:HJ w r S W:=by
  rw[hW];refine⟨?_,?_,⟨0,?_⟩,(((ag _ w).alloc (aj _) _).alloc (by simp) _).alloc (by simp;omega) _⟩
  .rw[aG _ _ _ (by simp;omega),aG _ _ _ (by simp)];exact ae _ _
  .rw[aG _ _ _ (by simp)];have:=ae (w.alloc (vR r.d r.aa r.na r.ca)) (bsO S);simpa using this
  .have:=ae ((w.alloc (vR r.d r.aa r.na r.ca)).alloc (bsO S)) (bsO 0);simpa using this
 clear hW
 have q0:∀w',(∃m:mL (HJ w r S),w'=m.val)->w'.heap[w.heap.size]? =some (vR r.d r.aa r.na r.ca):=λw' ⟨m,e⟩=>by rw[e];exact m.prop.1
 have q1:∀w',(∃m:mL (HJ w r S),w'=m.val)->w'.heap[w.heap.size+1]? =some (bsO S):=λw' ⟨m,e⟩=>by rw[e];exact m.prop.2.1
 obtain⟨v0,hv0,hP0⟩:∃v0,W.drew=v0/\HJ w r S v0:=⟨_,rfl,hJ.ext (gB (ag _ _) 1)⟩
 have hne:Nonempty (mL (HJ w r S)):=wZ hP0
 refine rG (λw'=>∃m:mL (HJ w r S),w'=m.val) (by kernel_rfl) ?_
 rw[hv0]
 refine gR 0 2 (by kernel_rfl) (kX hP0) ?_
 simp only[ap,aD,am,aw]
 (refine fW (o:=⟨some 5,.load 124 _,_,_,_,_⟩) (by rfl) 124 _ rfl (w.heap.size+1) rfl 124 _ (0,0) _ q1 bK rfl (by rw[iE];exact iX) ?_;simp only[Act.put,ar,aH,aF])
 (refine fW (o:=⟨some 6,.load 161 _,_,_,_,_⟩) (by rfl) 161 _ rfl w.heap.size rfl 161 _ (0,0) _ q0 cF rfl mY ?_;simp only[Act.put,ar,aH,aF])
 refine aq ?_
 refine gR 5 1 (by kernel_rfl) (kX hP0) ?_
 simp only[ap,aD,am,aw]
 (refine fW (o:=⟨some 10,.load 161 _,_,_,_,_⟩) (by rfl) 161 _ rfl w.heap.size rfl 161 _ (0,0) _ q0 cF rfl mY ?_;simp only[Act.put,ar,aH,aF])
 refine aq ?_
 clear q0 q1 hv0 hne hJ
 have HP0:=ac hP0
 have HK0:=ac (HOK.out.ext hP0.2.2.2)
 obtain⟨m,hm⟩:∃m:Nat,gM r.d=(m:Int):=⟨(gM r.d).toNat,by have:=(lX r.d).1;omega⟩
 have hml:m<=200:=by have:=(lX r.d).2;omega
 have HMD:=ac hm
 clear hP0 hm
 refine jD 2 (by kernel_rfl) ?_
 refine fR rfl rfl ?_
 go_simp
 refine(sZ r.d r.aa r.na r.ca v0 HK0.out.1 HK0.out.2.2.2.2.1 HK0.out.2.2.2.2.2.1 HK0.out.2.2.2.2.2.2.1 HK0.out.2.2.2.2.2.2.2.1).mono ?_
 rw[HMD.out]
 rintro e v1 ⟨rfl,hb1⟩
 have HP1:=ac (HP0.out.ext hb1)
 have HK1:=ac (HK0.out.ext hb1)
 clear hb1
 refine⟨Or.inr (kX HP1.out),?_⟩
 try simp only[Act.put,ar,aH,aF]
 refine jD 3 (by kernel_rfl) ?_
 refine fR rfl rfl ?_
 go_simp
 obtain⟨v2,hv2⟩:∃v2,v2=v1.alloc (.cells #[.int .i64 (m:Int)] 3):=⟨_,rfl⟩
 have F2:Below v1.heap.size v1 v2:=by rw[hv2];exact fD _ _
 have hI2:iJ v2 (some ⟨v1.heap.size,0,none⟩) 1 [(m:Int)]:=by
  rw[hv2]
  exact yW (ae _ _) [(m:Int)] (λx hx=>by rw[bz] at hx;subst hx;unfold I64;omega) (by simp) (λk hk=>by
   obtain rfl:k=0:=by simpa using hk
   rfl)
 rw[<-hv2]
 have HP2:=ac (HP1.out.ext F2)
 have HK2:=ac (HK1.out.ext F2)
 clear hv2 F2
 refine⟨Or.inr (kX HP2.out),?_⟩
 try simp only[Act.put,ar,aH,aF]
 refine jD 4 (by kernel_rfl) ?_
 refine fR rfl rfl ?_
 go_simp
 refine(TH S (some ⟨v1.heap.size,0,none⟩) 1 1 [(m:Int)] v2 hI2).mono ?_
 rintro e v3 ⟨rfl,hb3⟩
 have HP3:=ac (HP2.out.ext hb3)
 have HK3:=ac (HK2.out.ext hb3)
 have HSB:Hid (nS S [(m:Int)]=MU S (gM r.d)):=by rw[Hid,HMD.out];rfl
 clear hb3 hI2
 refine⟨Or.inr (kX HP3.out),?_⟩
 try simp only[Act.put,ar,aH,aF]
 refine jD 6 (by kernel_rfl) ?_
 refine fR rfl rfl ?_
 go_simp
 refine(uH r.d r.aa r.na r.ca v3 HK3.out.1 HK3.out.2.2.2.2.1 HK3.out.2.2.2.2.2.1 HK3.out.2.2.2.2.2.2.1 HK3.out.2.2.2.2.2.2.2.1 hna).mono ?_
 rintro e v4 ⟨rv,rfl,ho,hb4⟩
 obtain⟨ra,rc,rfl⟩:=ho.form
 have hO4:=ho.ints
 have HP4:=ac (HP3.out.ext hb4)
 clear ho hb4
 refine⟨Or.inr (kX HP4.out),?_⟩
 try simp only[Act.put,ar,aH,aF]
 refine jD 7 (by kernel_rfl) ?_
 refine fR rfl rfl ?_
 go_simp
 refine(PQ (nS S [(m:Int)]) ra _ rc (gV r.d) v4 hO4).mono ?_
 rw[HSB.out]
 rintro e v5 ⟨rfl,hb5⟩
 have HP5:=ac (HP4.out.ext hb5)
 clear hb5 hO4
 refine⟨Or.inr (kX HP5.out),?_⟩
 try simp only[Act.put,ar,aH,aF]
 have hfin:HJ w r S (v5.setRow (w.heap.size+1+1) (iW (pT S r.d)))/\(v5.setRow (w.heap.size+1+1) (iW (pT S r.d))).heap[w.heap.size+1+1]? =some (bsO (pT S r.d)):=by
  obtain⟨h1,h2,⟨h,h3⟩,h4⟩:=HP5.out;have hs:=bt _ _ _ (iW (pT S r.d)) _ _ h3;refine⟨⟨?_,?_,⟨_,hs⟩,aX h4 (by omega) _⟩,hs⟩
  .exact((aX (B:=w.heap.size+1) (g:=w.heap.size+1+1) (w0:=v5) (w:=v5) (ag _ _) (by omega) (iW (pT S r.d))).block w.heap.size (by omega)).trans h1
  .exact((aX (B:=w.heap.size+1+1) (g:=w.heap.size+1+1) (w0:=v5) (w:=v5) (ag _ _) (by omega) (iW (pT S r.d))).block (w.heap.size+1) (by omega)).trans h2
 have HFIN:=ac hfin
 clear hfin
 refine jD 8 (by kernel_rfl) ?_
 refine fR rfl rfl ?_
 refine eQ 124 _ _ rfl (w.heap.size+1+1) (iW (pT S r.d)) rfl rfl 124 _ HP5.out.2.2.1.choose_spec (by rw[iE];exact iX) (by rw[iE,iE]) (oY _) ?_
 refine⟨Or.inr (kX HFIN.out.1),?_⟩
 try simp only[Act.put,ar,aH,aF]
 refine oO (by kernel_rfl) ?_
 generalize v5.setRow (w.heap.size+1+1) (iW (pT S r.d))=v6 at*
 go_wp2
 have hload:=AS HFIN.out.2
 exact aR (v:=.agg (iW (pT S r.d))) (by simp[results,Tryz.results147,asAddr,Act.put,hload]) rfl ⟨rfl,HFIN.out.1.2.2.2⟩
end

section
theorem j7(S:Nat)(i:uP)(j:Nat)(hj:j<1024):(pT S i).testBit j=(decide ((j:Int)∈gV i)||(S.testBit j&& !decide (gM i=(j:Int)))):=by
 rw[pT,NX _ _ hj,ua _ _ _ hj,Bool.or_comm]
def qJ(t:fS)(S:Nat):List lP->Nat
 | []=>nJ S (jV t)
 |r :: l=>pT (qJ t S l) r.d
theorem BW(t:fS)(S j:Nat)(hj:j<1024):∀l:List lP,(qJ t S l).testBit j=nI (l.map λr=>⟨gV r.d,gM r.d⟩) (jV t) (wU S) (j:Int)
 | []=>by
   show(nJ S (jV t)).testBit j=(decide ((j:Int)∈jV t)||wU S (j:Int));rw[NX _ _ hj,Bool.or_comm];simp[wU]
 |r :: l=>by
  show(pT (qJ t S l) r.d).testBit j=_;rw[j7 _ _ _ hj,BW t S j hj l];rfl
theorem rz{S:Nat}{i:uP}(h:S<2^1024):pT S i<2^1024:=UG _ (zj h)
theorem OG{t:fS}{S:Nat}(h:S<2^1024):∀l:List lP,qJ t S l<2^1024
 | []=>UG _ h
 |_ :: l=>rz (OG h l)
end

section
open Go.RowKit
theorem LW(w:World)(g:Nat)(cs:Array Value):Chg (λk=>k=g) w (w.setRow g cs):=
 ⟨rfl,rfl,rfl,by rw[size_setRow];exact aj _,λk _ hn=>cC w g k cs hn⟩
theorem Chg.row{S:Nat->Prop}{w w':World}(h:Chg S w w'){k:Nat}{o:Obj}(hk:w.heap[k]? =some o)(hn:¬S k):w'.heap[k]? =some o:=(h.block k (au.1 hk).1 hn).trans hk
theorem PI{w w':World}(h:Below w.heap.size w w'):Chg (λ_=>False) w w':=⟨h.os,h.tape,h.output,h.size,λk hk _=>h.block k hk⟩
section
variable {P:Program} {Q:Exit->Act->World->Prop}
end
end

section
open Go.RowKit
def VJ(w:World)(fo:Obj)(n:Nat)(I:Nat->Nat->Bool)(W:World):Prop:=
 W.heap[w.heap.size]? =some fo/\QE W (w.heap.size+1) (.slice (some ⟨w.heap.size+1,0,none⟩) n n) n I/\Below w.heap.size w W/\w.heap.size+1<W.heap.size
theorem VJ.chg{w:World}{fo:Obj}{n:Nat}{I:Nat->Nat->Bool}{W W':World}{S:Nat->Prop}(h:VJ w fo n I W)(hc:Chg S W W')(hs:∀k,S k->w.heap.size+1<k):VJ w fo n I W':=by
 obtain⟨h1,h2,h3,h4⟩:=h
 refine⟨(hc.block _ (by omega) λe=>by have:=hs _ e;omega).trans h1,⟨iL h2.1 hc λg e hS=>?_,h2.2⟩,h3.trans (hc.below (by omega) λk hk=>by have:=hs k hk;omega),by have:=hc.size;omega⟩
 simp only[Value.ownBlock,aW] at e
 subst e
 have:=hs _ hS
 omega
theorem VJ.ext{w:World}{fo:Obj}{n:Nat}{I:Nat->Nat->Bool}{W W':World}(h:VJ w fo n I W)(hb:Below W.heap.size W W'):VJ w fo n I W':=
 h.chg (S:=λ_=>False) ((Chg.refl _ W).of_ext hb) λ_ e=>e.elim
theorem pM(w:World)(g o:Nat)(vs:List Value):Chg (λk=>k=g) w (w.setCells g o vs):=lC (S:=λk=>k=g) rfl vs o w (Chg.refl _ w)
theorem VJ.set{w:World}{fo:Obj}{n:Nat}{I:Nat->Nat->Bool}{W:World}(h:VJ w fo n I W){k:Nat}(hk:k<n)(f:Nat->Bool):VJ w fo n (rA I k f) (W.setCells (w.heap.size+1) (k*201) (jN f).toList):=by
 have hc:=pM W (w.heap.size+1) (k*201) (jN f).toList
 obtain⟨h1,h2,h3,h4⟩:=h
 exact⟨(hc.block _ (by omega) (by omega)).trans h1,u9 h2 hk f,h3.trans (hc.below (by omega) λk hk=>by omega),by have:=hc.size;omega⟩
theorem VJ.put{w:World}{fo:Obj}{n:Nat}{I:Nat->Nat->Bool}{W:World}(h:VJ w fo n I W){k j:Nat}(hk:k<n)(hj:j<201)(b:Bool):VJ w fo n (rA I k λi=>if i=j then b else I k i) (W.setCell ⟨w.heap.size+1,k*201+j,none⟩ (.bool b)):=by
 have hc:Chg (λk=>k=w.heap.size+1) W (W.setCell ⟨w.heap.size+1,k*201+j,none⟩ (.bool b)):=(Chg.refl (λk=>k=w.heap.size+1) W).setCell (p:=⟨w.heap.size+1,k*201+j,none⟩) (.inl rfl) _
 obtain⟨h1,h2,h3,h4⟩:=h
 exact⟨(hc.block _ (by omega) (by omega)).trans h1,(UU h2 hk hj b).1,h3.trans (hc.below (by omega) λk hk=>by omega),by have:=hc.size;omega⟩
theorem nm:(Tryz.prog.info? 121).map (·.size)=some 5:=by kernel_rfl
theorem uz(rs:List lP):∀(f:Nat->Bool) (v:Nat),pW f rs v=IV (rs.map λr=>⟨gV r.d,gM r.d⟩) f v:=by
 induction rs with
 |nil=>intro f v;simp[pW,IV,pZ]
 |cons r rs ih=>
  intro f v;have e1:pW f (r :: rs) v=pW (IA f (gM r.d).toNat) rs v:=rfl;rw[e1,ih];have h0:=(lX r.d).1;have e2:IV ((r :: rs).map λr=>⟨gV r.d,gM r.d⟩) f v=(f v||(decide (gM r.d=(v:Int))||pZ (rs.map λr=>⟨gV r.d,gM r.d⟩) (v:Int))):=rfl;rw[e2];unfold IV IA;by_cases e:v=(gM r.d).toNat
  .have h1:gM r.d=(v:Int):=by omega
   rw[aM e,bS h1];simp
  .have h1:¬gM r.d=(v:Int):=by omega
   rw[az e,dE h1,Bool.false_or]
theorem xS(t:fS):∀(rs:List lP) (f:Nat->Bool),rS f rs t=true↔∀v,iM (rs.map λr=>⟨gV r.d,gM r.d⟩) (jV t) v=1->f v.toNat=true
 | [],f=>by
   simp only[rS,dB,iM,MY];rw[dm,dQ];constructor
   .intro h v hv
    split at hv
    .have:=h v ‹_›;simpa using this
    .cases hv
   .intro h v hv;have:=h v (by rw[aM hv]);simp[this]
 |r :: rs,f=>by
  simp only[rS,cE,iM,aB];rw[xS t rs];have hh:MY f (gV r.d)=true↔∀v∈gV r.d,f v.toNat=true:=by
   rw[MY,dm,dQ];exact⟨λh v hv=>by have:=h v hv;simpa using this,λh v hv=>by have:=h v hv;simp[this]⟩
  rw[hh];have h0:=(lX r.d).1;constructor
  .rintro⟨h1,h2⟩ v hv
   split at hv
   .exact h1 v ‹_›
   .split at hv
    .cases hv
    .rename_i hx
     have:=h2 v hv;unfold IA at this;by_cases e:v.toNat=(gM r.d).toNat
     .have hvv:1<=v:=(within_var hv).1;omega
     .rwa [az e] at this
  .intro h;refine⟨λv hv=>h v (by rw[aM hv]),λv hv=>?_⟩;unfold IA;by_cases e:v.toNat=(gM r.d).toNat
   .rw[aM e]
   .rw[az e];by_cases hr:v∈gV r.d
    .exact h v (by rw[aM hr])
    .exact h v (by rw[az hr,az (λx=>e (by rw[x]))];exact hv)
where
 within_var {rs:List lP} {v:Int} (h:iM (rs.map λr=>⟨gV r.d,gM r.d⟩) (jV t) v=1):1<=v/\v<=200:=by
  induction rs with
  |nil=>
   simp only[dB,iM] at h
   split at h
   .exact AO ‹_›
   .cases h
  |cons r rs ih=>
   simp only[cE,iM] at h
   split at h
   .exact AM ‹_›
   .split at h
    .cases h
    .exact ih h
theorem FL(bs:List iA):ZG (gN bs):=by
 intro b hb v h
 rw[kF] at hb
 have hx:bs[b]? =some bs[b]:=ah hb
 rw[qD hx] at h
 exact xS.within_var _ h
def CL(k:Nat):Nat->Nat->Bool:=λb _=>decide (b<k)
def EA(ps:List Int)(n k:Nat):Nat->Nat->Bool:=λb v=>if b=0 then decide ((v:Int)∈ps.take k) else decide (b<n)
theorem ix(k:Nat):rA (CL k) k (λ_=>true)=CL (k+1):=by
 funext b v
 unfold rA CL
 by_cases e:b=k
 .simp[e]
 .rw[az e]
  congr 1
  rw[eq_iff_iff];omega
theorem o5(ps:List Int)(n:Nat)(h:0<n):rA (CL n) 0 (λ_=>false)=EA ps n 0:=by
 funext b v
 unfold rA CL EA
 by_cases e:b=0
 .simp[e]
 .rw[az e,az e]
theorem o7(ps:List Int)(n k:Nat)(x:Nat)(h:ps[k]? =some (x:Int)):rA (EA ps n k) 0 (λi=>if i=x then true else EA ps n k 0 i)=EA ps n (k+1):=by
 funext b v
 unfold rA EA
 by_cases e:b=0
 .simp only[e,if_true];rw[bL,h];by_cases e2:v=x
  .simp[e2]
  .have:¬((v:Int)=(x:Int)):=by omega
   simp only[e2,if_false,dY,ax,bz,this,cX]
 .rw[az e,az e,az e]
theorem zr(ps:List Int)(bs:List BkL):tY ps bs (EA ps bs.length ps.length):=by
 refine⟨λb hb v h1 h2 hf=>?_,λv h1 h2 h3=>?_⟩
 .unfold EA at hf;by_cases e:b=0
  .subst e;simp only[if_true,List.take_length,cg] at hf;exact .here (by simp[kg,hf])
  .rw[az e,cg] at hf;exact absurd hb hf
 .simp[EA,h3]
def CV(bs:List BkL)(I:Nat->Nat->Bool)(k q:Nat):Prop:=
 ∀b,b<bs.length->∀j c,(iB bs b).to[j]? =some c->(b<k\/b=k/\j<q)->∀v,v<201->I c v=true->IV (iB bs b).ops (I b) v=true
theorem KR(pa:Option Addr)(pn pc:Nat)(ps:List Int)(ba:Option Addr)(bn bc:Nat)(bs:List iA)(w:World)(hp:iJ w pa pn ps)(h:lY w ba bn bs)(h0:0<bn)(h1:bn<=200)(hpn:pn<=1000000)(hpar:IU ps=true)(hin:qZ bs=true)(hna:∀b∈bs,∀r∈b.rs,r.na<=1000000):
  Calls Tryz.prog 50 #[mB pa pn pc ba bn bc] w λe w'=>e=.returned (.bool (!rI ps (gN bs)))/\Below w.heap.size w w':=by
 have HPI:=ac hp
 have HB:=ac h
 have HLb:=ac h.1.1
 have HLp:=ac hp.1
 have HPAR:=ac hpar
 have HIN:=ac hin
 have HNA:=ac hna
 clear h hp hpar hin hna
 obtain⟨fo,hfo⟩:∃fo:Obj,fo=.cells #[.slice pa pn pc,.slice ba bn bc] 25:=⟨_,rfl⟩
 go_enter Tryz.func50,Tryz.ntmps50
 go_upto_region 1 with (fail)
 obtain⟨W0,hW0⟩:∃W0,W0=w.alloc fo:=⟨_,rfl⟩
 rw[<-hfo,<-hW0]
 have hr0:W0.heap[w.heap.size]? =some fo:=by rw[hW0];exact ae _ _
 have hb0:Below w.heap.size w W0:=by rw[hW0];exact fD _ _
 have hs0:W0.heap.size=w.heap.size+1:=by rw[hW0];simp
 have f1:W0.cell? ⟨w.heap.size,1,none⟩=some (.slice ba bn bc):=by rw[hfo] at hr0;rw[aZ _ _ _ _ _ _ hr0];rfl
 have hl0:w.heap.size<W0.heap.size:=by omega
 have hmk:=Cd bn (by omega) W0
 have HR0:=ac hr0
 have HB0:=ac hb0
 have HS0:=ac hs0
 have HFO:=ac hfo
 clear hr0 hb0 hs0 hW0 hfo
 go_upto_region 2 with (fail)
 obtain⟨W1,hW1⟩:∃W1,W1=W0.alloc (.cells (madeCells (jN λ_=>false) (bn*201)) 158):=⟨_,rfl⟩
 have hV1:VJ w fo bn (CL 0) W1:=by
  have h1:=Ce (n:=bn) (by omega) (w:=W0) (base:=w.heap.size+1) (by rw[HS0.out];exact aj _);rw[<-hW1,HS0.out] at h1;refine⟨?_,?_,?_,?_⟩
  .rw[hW1,aG _ _ _ (by omega)];exact HR0.out
  .have e:CL 0=λ_ _=>false:=by funext b v;simp[CL]
   rw[e];exact h1
  .rw[hW1];exact fC HB0.out (fD _ _)
  .rw[hW1,dV,HS0.out];omega
 rw[show W0.alloc (Obj.cells (madeCells (jN λ_=>false) (bn*201)) 158)=W1 from hW1.symm,HS0.out]
 have HV1:=ac hV1
 clear hmk f1 hl0 hW1 HR0 HB0 HS0 hV1
 go_wp2
 go_loopw [26] (λi wr=>∃k:Nat,i=.int .i64 k/\k<=bn/\Hid (VJ w fo bn (CL k) wr)) (λi _=>bn-(intOf i).toNat)
 case atStart=>exact⟨0,rfl,by omega,HV1⟩
 case round=>
  obtain⟨k,rfl,hk,HV⟩:=hrel;clear HV1;by_cases hlt:k<bn
  .have hlt':(k:Int)<(bn:Int):=by omega
   go_wp2_with (first
    |(go_at_call 138
      refine(nh wr).mono ?_;rintro e w1 ⟨rfl,hb1⟩;have HV1:=ac (HV.out.ext hb1);have ht:=BZ HV1.out.2.1 hlt (λ_=>true)
      clear hb1)
    |((with_reducible show wpList _ _ _ (⟨none,.store 158 _ _,_,_,_,_⟩ :: _) _ _);refine wpList_store_mid rfl 158 _ _ rfl (w.heap.size+1) (k*201) (jN λ_=>true) rfl rfl ht (mX _) (nT _) ?_))
   go_roundw
   case rel=>exact⟨k+1,by go_num,by omega,by rw[Hid,<-ix];exact HV1.out.set hlt _⟩
   case measure=>simp[intOf];omega
  .obtain rfl:k=bn:=by omega
   have ht:=BZ HV.out.2.1 (k:=0) h0 (λ_=>false);rw[Nat.zero_mul] at ht;have HV2:Hid (VJ w fo k (EA ps k 0) (wr.setCells (w.heap.size+1) 0 (jN λ_=>false).toList)):=by
    have:=HV.out.set (k:=0) h0 (λ_=>false)
    rwa [Nat.zero_mul,o5 ps k h0] at this
   have hpos:(0:Int)<(k:Int):=by omega
   have hlt':¬(k:Int)<(k:Int):=by omega
   go_upto_region 8 with ((with_reducible show wpList _ _ _ (⟨none,.store 158 _ _,_,_,_,_⟩ :: _) _ _);refine wpList_store_mid rfl 158 _ _ rfl (w.heap.size+1) 0 (jN λ_=>false) rfl rfl ht (mX _) (nT _) ?_)
   obtain⟨W2,hW2⟩:∃W2,W2=wr.setCells (w.heap.size+1) 0 (jN λ_=>false).toList:=⟨_,rfl⟩
   rw[<-hW2] at HV2|-;have g0:W2.cell? ⟨w.heap.size,0,none⟩=some (.slice pa pn pc):=by have:=HV2.out.1;rw[HFO.out] at this;rw[aZ _ _ _ _ _ _ this];rfl
   have g1:=HV2.out.2.2.2;clear hW2 ht HV hlt hlt';go_wp2;clear g0 g1
   go_loopw [40] (λi wr=>∃q:Nat,i=.int .i64 q/\q<=pn/\Hid (VJ w fo k (EA ps k q) wr)) (λi _=>pn-(intOf i).toNat)
   case atStart=>exact⟨0,rfl,by omega,HV2⟩
   case round=>
    obtain⟨q,rfl,hq,HV⟩:=hrel;clear HV2;by_cases hlt:q<pn
    .have hlt':(q:Int)<(pn:Int):=by omega
     obtain⟨x,hx⟩:∃x,ps[q]? =some x:=⟨ps[q]'(by rw[HLp.out];exact hlt),ah _⟩
     obtain⟨hx1,hx2⟩:1<=x/\x<=200:=by
      have h9:=HPAR.out;simp only[IU,aB,aV] at h9;exact uV.1 (h9.1 x (aK hx))
     obtain⟨m,rfl⟩:∃m:Nat,x=(m:Int):=⟨x.toNat,by omega⟩
     have hps:=HPI.out.ext HV.out.2.2.1;obtain⟨b3,o3,rfl,hcx,hi1,hi2⟩:=hps.2.2 q hlt;have hgd:ps.getD q 0=(m:Int):=by rw[ak,hx];rfl
     rw[hgd] at hcx;have hm1:(m:Int)<201:=by omega
     have hput:=HV.out.put (k:=0) h0 (j:=m) (by omega) true;rw[o7 ps k q m hx,Nat.zero_mul,bQ] at hput;have hpc:=OM HV.out.2.1 (k:=0) (j:=m) h0 (by omega);have hpf:=(UU HV.out.2.1 (k:=0) (j:=m) h0 (by omega) true).2;have hgl:w.heap.size+1<wr.heap.size:=HV.out.2.2.2;rw[Nat.zero_mul,bQ] at hpc hpf;have HP:=ac hput;clear hput hps hgd hi1 hi2 hx;go_wp2
     go_roundw
     case rel=>exact⟨q+1,by go_num,by omega,HP⟩
     case measure=>simp[intOf];omega
    .obtain rfl:q=pn:=by omega
     have hlt':¬(q:Int)<(q:Int):=by omega
     have hVO:tY ps (gN bs) (EA ps k q):=by
      have:=zr ps (gN bs)
      rwa [kF,HLb.out,HLp.out] at this
     have HVO:=ac hVO;have hTO:=tJ HIN.out;have HTO:=ac hTO;clear hVO hTO;go_wp2
     go_loopg [7] (2*tot 201 k (EA ps k q)+1) (λgg s7 wx=>∃(mv:Bool) (I:Nat->Nat->Bool),s7=.bool mv/\Hid (VJ w fo k I wx)/\Hid (tY ps (gN bs) I)/\Hid (2*tot 201 k I+(if mv then 1 else 0)<=gg)/\Hid (mv=false->CV (gN bs) I k 0))
     case atStart=>exact⟨true,_,rfl,HV,HVO,by simp[Hid],λe=>by cases e⟩
     case round=>
      obtain⟨mv,I0,rfl,HV0,HO0,HG0,HC0⟩:=hrel;clear HV HVO;cases mv with
      |false=>
       have HCL:=ac (HC0.out rfl);have HAN:Hid ((∀b,b<k->∀v,iM (iB (gN bs) b).ops (iB (gN bs) b).nd v=1->I0 b v.toNat=true)↔rI ps (gN bs)=false):=by
        have h9:=HO0.out.any (by rw[kF,HLb.out];exact h0) (FL bs) λb hb c hc v hv hi=>by
         obtain⟨j,hj,e⟩:=bj.1 hc;exact HCL.out b hb j c (by rw[ah hj,e]) (.inl (by rw[kF,HLb.out] at hb;exact hb)) v hv hi
        rwa [kF,HLb.out] at h9
       have hbl:wr.cell? ⟨w.heap.size,1,none⟩=some (.slice ba k bc):=by have:=HV0.out.1;rw[HFO.out] at this;rw[aZ _ _ _ _ _ _ this];rfl
       have hgl:w.heap.size+1<wr.heap.size:=HV0.out.2.2.2;clear HC0 HCL HG0 HO0;go_wp2;clear hbl hgl
       go_loopw [2,102] (λs2 i wz=>∃q:Nat,i=.int .i64 q/\s2=.bool false/\q<=k/\Hid (VJ w fo k I0 wz)/\Hid (∀b,b<q->∀v,iM (iB (gN bs) b).ops (iB (gN bs) b).nd v=1->I0 b v.toNat=true)) (λ_ i _=>k-(intOf i).toNat)
       case atStart=>exact⟨0,rfl,rfl,by omega,HV0,λb hb=>by omega⟩
       case round=>
        obtain⟨q,rfl,rfl,hq,HV,HQ⟩:=hrel;clear HV0;by_cases hlt:q<k
        .obtain⟨r,bb,oo,hr,hok,rfl,c0,c1,c2,c3,c4⟩:=mJ (HB.out.ext HV.out.2.2.1) hlt;have HRR:=ac hr;have HOK:Hid (xA w r):=HB.out.2 r (aK hr);have hlt':(q:Int)<(k:Int):=by omega
         have HTX:Hid (iB (gN bs) q=bkL r):=qD hr;have HPB:Hid (rS (I0 q) r.rs r.h.t=true↔∀v,iM (iB (gN bs) q).ops (iB (gN bs) q).nd v=1->I0 q v.toNat=true):=by
          rw[HTX.out];exact xS r.h.t r.rs (I0 q)
         clear hr hok;go_upto_region 36 with (fail)
         obtain⟨Wi,hWi⟩:∃Wi,Wi=wr.alloc (oA r.h):=⟨_,rfl⟩
         rw[show wr.alloc (Obj.cells #[.slice r.h.ia r.h.n r.h.c,.int .i64 r.h.t.kind,.int .i64 r.h.t.a,.int .i64 r.h.t.t0,.int .i64 r.h.t.t1] 121)=Wi from hWi.symm];obtain⟨P17,hP17⟩:∃p,p=wr.heap.size:=⟨_,rfl⟩
         have hxi:Wi.heap[P17]? =some (oA r.h):=by rw[hWi,hP17];exact ae _ _
         have hbi:Below wr.heap.size wr Wi:=by rw[hWi];exact fD _ _
         rw[<-hP17];have HVI:=ac (HV.out.ext hbi);have HX:=ac hxi;have HNAr:=ac (HNA.out r (aK HRR.out));have hgl:w.heap.size+1<Wi.heap.size:=HVI.out.2.2.2;clear hWi hxi hbi c0 c1 c2 c3 c4 HV hP17;have HCALL:=ac (λW (hb:Below Wi.heap.size Wi W)=>nb (I0 q) r.h r.rs W HOK.out.1 ((HOK.out.2.ext HVI.out.2.2.1).ext hb) HNAr.out);have QX:Hid (∀w',(∃n':fL Wi,w'=n'.val)->w'.heap[P17]? =some (oA r.h)):=λw' ⟨n',e⟩=>by rw[e];exact fB n'.ext HX.out
         have QI:Hid (∀w',(∃n':fL Wi,w'=n'.val)->w'.rangeAt (w.heap.size+1) (q*201) (vsC (I0 q))):=λw' ⟨n',e⟩=>by rw[e];exact uI (iP.ext HVI.out.2.1 n'.ext) hlt
         have HNE:Nonempty (fL Wi):=⟨⟨Wi,ag _ _⟩⟩
         have hgl5:∀n':fL Wi,w.heap.size+1<n'.val.heap.size:=λn'=>(HVI.out.ext n'.ext).2.2.2;have HFIN:Hid (∀W5,Below Wi.heap.size Wi W5->(rS (I0 q) r.rs r.h.t=false->rI ps (gN bs)=true/\Below w.heap.size w W5)/\(rS (I0 q) r.rs r.h.t=true->VJ w fo k I0 W5/\∀b,b<q+1->∀v,iM (iB (gN bs) b).ops (iB (gN bs) b).nd v=1->I0 b v.toNat=true)):=λW5 hb=>by
          have hV5:=HVI.out.ext hb;refine⟨λhpb=>⟨?_,hV5.2.2.1⟩,λhpb=>⟨hV5,λb hb=>?_⟩⟩
          .cases hx:rI ps (gN bs) with
           |true=>rfl
           |false=>
            have:=HPB.out.2 (HAN.out.2 hx q hlt);rw[hpb] at this;cases this
          .by_cases e:b=q
           .subst e;exact HPB.out.1 hpb
           .exact HQ.out b (by omega)
         obtain⟨v0,hv0,hb0⟩:∃v0,Wi.drew=v0/\Below Wi.heap.size Wi v0:=⟨_,rfl,gB (ag _ _) 1⟩
         refine rG (λw'=>∃n':fL Wi,w'=n'.val) (by kernel_rfl) ?_;rw[hv0];refine gR 0 5 (by kernel_rfl) ⟨⟨v0,hb0⟩,rfl⟩ ?_;simp only[ap,aD,am,aw]
         repeat (first
          |((with_reducible show wpQuiet _ _ _ _ (⟨some 111,_,_,_,_,_⟩ :: _) _);refine gU (o:=⟨some 111,.load 158 _,_,_,_,_⟩) (by kernel_rfl) 158 _ rfl (w.heap.size+1) (q*201) rfl (vsC (I0 q)) _ QI.out cP rfl (CY _) ?_;simp only[IK,Act.put,ar,aH,aF])
          |((with_reducible show wpQuiet _ _ _ _ (⟨some 112,_,_,_,_,_⟩ :: _) _);refine fW (o:=⟨some 112,.load 121 _,_,_,_,_⟩) (by kernel_rfl) 121 _ rfl P17 rfl 121 _ (0,0) _ QX.out eZ rfl nm ?_;simp only[Act.put,ar,aH,aF])
          |go_big_quiet_step (fail))
         refine aq ?_;clear QX QI hv0 hgl5;have HB0:=ac hb0;clear hb0;cases hpb:rS (I0 q) r.rs r.h.t with
         |false=>
          refine NQ 5 9 (by kernel_rfl) ?_ ?_
          .refine fR rfl rfl ?_;go_simp;refine(HCALL.out v0 HB0.out).mono ?_;rw[hpb];rintro e v1 ⟨h7,rfl,hb⟩;have HB1:=ac (fC HB0.out hb);clear hb;refine⟨Or.inr ⟨⟨v1,HB1.out⟩,rfl⟩,?_⟩
           try simp only[Act.put,ar,aH,aF]
           refine gR 6 3 (by kernel_rfl) ⟨⟨v1,HB1.out⟩,rfl⟩ ?_;simp only[ap,aD,am,aw]
           repeat (go_big_quiet_step (fail))
           refine aq ?_;refine jD 9 (by kernel_rfl) ?_;refine fR rfl rfl ?_;go_simp;obtain⟨v2,hv⟩:∃x,x=v1.alloc (.cells Tryz.zeroCells158 158):=⟨_,rfl⟩
           obtain⟨P18,hP18⟩:∃p,p=v1.heap.size:=⟨_,rfl⟩
           have hz:v2.heap[P18]? =some (vsO λ_=>false):=by rw[hv,hP18,ae,nV]
           have hb:Below v1.heap.size v1 v2:=by rw[hv];exact fD _ _
           have HPG:Hid (Wi.heap.size<=P18):=by rw[Hid,hP18];exact HB1.out.size
           rw[<-hv,<-hP18];have HZ:=ac hz;have HB2:=ac (fC HB1.out hb);clear hb hv hP18 hz;refine⟨Or.inr ⟨⟨v2,HB2.out⟩,rfl⟩,?_⟩
           try simp only[Act.put,ar,aH,aF]
           refine jD 10 (by kernel_rfl) ?_;refine fR rfl rfl ?_;refine eQ 158 _ _ rfl P18 (jN h7) rfl rfl 158 _ HZ.out (mX _) (by rw[iI,iI]) (nT _) ?_;obtain⟨v4,hv4⟩:∃x,x=v2.setRow P18 (jN h7):=⟨_,rfl⟩
           have HB4:Hid (Below Wi.heap.size Wi v4):=by rw[Hid,hv4];exact aX HB2.out HPG.out _
           rw[<-hv4];clear hv4;refine⟨Or.inr ⟨⟨v4,HB4.out⟩,rfl⟩,?_⟩
           try simp only[Act.put,ar,aH,aF]
           refine gR 11 1 (by kernel_rfl) ⟨⟨v4,HB4.out⟩,rfl⟩ ?_;simp only[ap,aD,am,aw]
           repeat (go_big_quiet_step (fail))
           refine aq ?_;refine oO (by kernel_rfl) ?_;have HE:=ac ((HFIN.out v4 HB4.out).1 hpb);clear hpb;go_wp2
           go_ret
           exact⟨by rw[HE.out.1];rfl,HE.out.2⟩
          .refine fR rfl rfl ?_;go_simp;obtain⟨v1,hv⟩:∃x,x=v0.alloc (.cells Tryz.zeroCells158 158):=⟨_,rfl⟩
           obtain⟨P18,hP18⟩:∃p,p=v0.heap.size:=⟨_,rfl⟩
           have hz:v1.heap[P18]? =some (vsO λ_=>false):=by rw[hv,hP18,ae,nV]
           have hb:Below v0.heap.size v0 v1:=by rw[hv];exact fD _ _
           have HPG:Hid (Wi.heap.size<=P18):=by rw[Hid,hP18];exact HB0.out.size
           rw[<-hv,<-hP18];have HZ:=ac hz;have HB1:=ac (fC HB0.out hb);clear hb hv hP18 hz;refine⟨Or.inr ⟨⟨v1,HB1.out⟩,rfl⟩,?_⟩
           try simp only[Act.put,ar,aH,aF]
           refine jD 5 (by kernel_rfl) ?_;refine fR rfl rfl ?_;go_simp;refine(HCALL.out v1 HB1.out).mono ?_;rw[hpb];rintro e v2 ⟨h7,rfl,hb⟩;have HZ2:=ac (fB hb HZ.out);have HB2:=ac (fC HB1.out hb);clear hb;refine⟨Or.inr ⟨⟨v2,HB2.out⟩,rfl⟩,?_⟩
           try simp only[Act.put,ar,aH,aF]
           refine gR 6 3 (by kernel_rfl) ⟨⟨v2,HB2.out⟩,rfl⟩ ?_;simp only[ap,aD,am,aw]
           repeat (go_big_quiet_step (fail))
           refine aq ?_;refine jD 10 (by kernel_rfl) ?_;refine fR rfl rfl ?_;refine eQ 158 _ _ rfl P18 (jN h7) rfl rfl 158 _ HZ2.out (mX _) (by rw[iI,iI]) (nT _) ?_;obtain⟨v4,hv4⟩:∃x,x=v2.setRow P18 (jN h7):=⟨_,rfl⟩
           have HB4:Hid (Below Wi.heap.size Wi v4):=by rw[Hid,hv4];exact aX HB2.out HPG.out _
           rw[<-hv4];clear hv4;refine⟨Or.inr ⟨⟨v4,HB4.out⟩,rfl⟩,?_⟩
           try simp only[Act.put,ar,aH,aF]
           refine gR 11 1 (by kernel_rfl) ⟨⟨v4,HB4.out⟩,rfl⟩ ?_;simp only[ap,aD,am,aw]
           repeat (go_big_quiet_step (fail))
           refine aq ?_;refine oO (by kernel_rfl) ?_;have HE:=ac ((HFIN.out v4 HB4.out).1 hpb);clear hpb;go_wp2
           go_ret
           exact⟨by rw[HE.out.1];rfl,HE.out.2⟩
         |true=>
          refine NQ 5 9 (by kernel_rfl) ?_ ?_
          .refine fR rfl rfl ?_;go_simp;refine(HCALL.out v0 HB0.out).mono ?_;rw[hpb];rintro e v1 ⟨h7,rfl,hb⟩;have HB1:=ac (fC HB0.out hb);clear hb;refine⟨Or.inr ⟨⟨v1,HB1.out⟩,rfl⟩,?_⟩
           try simp only[Act.put,ar,aH,aF]
           refine gR 6 3 (by kernel_rfl) ⟨⟨v1,HB1.out⟩,rfl⟩ ?_;simp only[ap,aD,am,aw]
           repeat (go_big_quiet_step (fail))
           refine aq ?_;refine jD 9 (by kernel_rfl) ?_;refine fR rfl rfl ?_;go_simp;obtain⟨v2,hv⟩:∃x,x=v1.alloc (.cells Tryz.zeroCells158 158):=⟨_,rfl⟩
           obtain⟨P18,hP18⟩:∃p,p=v1.heap.size:=⟨_,rfl⟩
           have hz:v2.heap[P18]? =some (vsO λ_=>false):=by rw[hv,hP18,ae,nV]
           have hb:Below v1.heap.size v1 v2:=by rw[hv];exact fD _ _
           have HPG:Hid (Wi.heap.size<=P18):=by rw[Hid,hP18];exact HB1.out.size
           rw[<-hv,<-hP18];have HZ:=ac hz;have HB2:=ac (fC HB1.out hb);clear hb hv hP18 hz;refine⟨Or.inr ⟨⟨v2,HB2.out⟩,rfl⟩,?_⟩
           try simp only[Act.put,ar,aH,aF]
           refine jD 10 (by kernel_rfl) ?_;refine fR rfl rfl ?_;refine eQ 158 _ _ rfl P18 (jN h7) rfl rfl 158 _ HZ.out (mX _) (by rw[iI,iI]) (nT _) ?_;obtain⟨v4,hv4⟩:∃x,x=v2.setRow P18 (jN h7):=⟨_,rfl⟩
           have HB4:Hid (Below Wi.heap.size Wi v4):=by rw[Hid,hv4];exact aX HB2.out HPG.out _
           rw[<-hv4];clear hv4;refine⟨Or.inr ⟨⟨v4,HB4.out⟩,rfl⟩,?_⟩
           try simp only[Act.put,ar,aH,aF]
           refine gR 11 1 (by kernel_rfl) ⟨⟨v4,HB4.out⟩,rfl⟩ ?_;simp only[ap,aD,am,aw]
           repeat (go_big_quiet_step (fail))
           refine aq ?_;refine oO (by kernel_rfl) ?_;have HE:=ac ((HFIN.out v4 HB4.out).2 hpb);clear hpb;go_wp2
           go_roundw
           case rel=>exact⟨q+1,by go_num,rfl,by omega,HE.out.1,HE.out.2⟩
           case measure=>simp[intOf];omega
          .refine fR rfl rfl ?_;go_simp;obtain⟨v1,hv⟩:∃x,x=v0.alloc (.cells Tryz.zeroCells158 158):=⟨_,rfl⟩
           obtain⟨P18,hP18⟩:∃p,p=v0.heap.size:=⟨_,rfl⟩
           have hz:v1.heap[P18]? =some (vsO λ_=>false):=by rw[hv,hP18,ae,nV]
           have hb:Below v0.heap.size v0 v1:=by rw[hv];exact fD _ _
           have HPG:Hid (Wi.heap.size<=P18):=by rw[Hid,hP18];exact HB0.out.size
           rw[<-hv,<-hP18];have HZ:=ac hz;have HB1:=ac (fC HB0.out hb);clear hb hv hP18 hz;refine⟨Or.inr ⟨⟨v1,HB1.out⟩,rfl⟩,?_⟩
           try simp only[Act.put,ar,aH,aF]
           refine jD 5 (by kernel_rfl) ?_;refine fR rfl rfl ?_;go_simp;refine(HCALL.out v1 HB1.out).mono ?_;rw[hpb];rintro e v2 ⟨h7,rfl,hb⟩;have HZ2:=ac (fB hb HZ.out);have HB2:=ac (fC HB1.out hb);clear hb;refine⟨Or.inr ⟨⟨v2,HB2.out⟩,rfl⟩,?_⟩
           try simp only[Act.put,ar,aH,aF]
           refine gR 6 3 (by kernel_rfl) ⟨⟨v2,HB2.out⟩,rfl⟩ ?_;simp only[ap,aD,am,aw]
           repeat (go_big_quiet_step (fail))
           refine aq ?_;refine jD 10 (by kernel_rfl) ?_;refine fR rfl rfl ?_;refine eQ 158 _ _ rfl P18 (jN h7) rfl rfl 158 _ HZ2.out (mX _) (by rw[iI,iI]) (nT _) ?_;obtain⟨v4,hv4⟩:∃x,x=v2.setRow P18 (jN h7):=⟨_,rfl⟩
           have HB4:Hid (Below Wi.heap.size Wi v4):=by rw[Hid,hv4];exact aX HB2.out HPG.out _
           rw[<-hv4];clear hv4;refine⟨Or.inr ⟨⟨v4,HB4.out⟩,rfl⟩,?_⟩
           try simp only[Act.put,ar,aH,aF]
           refine gR 11 1 (by kernel_rfl) ⟨⟨v4,HB4.out⟩,rfl⟩ ?_;simp only[ap,aD,am,aw]
           repeat (go_big_quiet_step (fail))
           refine aq ?_;refine oO (by kernel_rfl) ?_;have HE:=ac ((HFIN.out v4 HB4.out).2 hpb);clear hpb;go_wp2
           go_roundw
           case rel=>exact⟨q+1,by go_num,rfl,by omega,HE.out.1,HE.out.2⟩
           case measure=>simp[intOf];omega
        .obtain rfl:q=k:=by omega
         have hlt':¬(q:Int)<(q:Int):=by omega
         have HE:Hid (rI ps (gN bs)=false):=HAN.out.1 HQ.out;go_wp2
         go_ret
         exact⟨by rw[HE.out];rfl,HV.out.2.2.1⟩
      |true=>
       clear HC0;have hbl:wr.cell? ⟨w.heap.size,1,none⟩=some (.slice ba k bc):=by have:=HV0.out.1;rw[HFO.out] at this;rw[aZ _ _ _ _ _ _ this];rfl
       have hgl:w.heap.size+1<wr.heap.size:=HV0.out.2.2.2;go_wp2;clear hbl hgl
       go_loopw [7,53] (λs7 i wy=>∃(b:Nat) (mv:Bool) (I:Nat->Nat->Bool),i=.int .i64 b/\s7=.bool mv/\b<=k/\Hid (VJ w fo k I wy)/\Hid (tY ps (gN bs) I)/\Hid (mv=false->I=I0/\CV (gN bs) I b 0)/\Hid (mv=true->tot 201 k I<tot 201 k I0)) (λ_ i _=>k-(intOf i).toNat)
       case atStart=>exact⟨0,false,I0,rfl,rfl,by omega,HV0,HO0,λ_=>⟨rfl,λb _ j c _ h=>by omega⟩,λe=>by cases e⟩
       case round=>
        obtain⟨b,mv,I1,rfl,rfl,hb,HV1,HO1,HC1,HT1⟩:=hrel;by_cases hblt:b<k
        .have hblt':(b:Int)<(k:Int):=by omega
         obtain⟨r,bb,oo,hr,hok,rfl,c0,c1,c2,c3,c4⟩:=mJ (HB.out.ext HV1.out.2.2.1) hblt;have HRR:=ac hr;have HOK:Hid (xA w r):=HB.out.2 r (aK hr);have hgl:w.heap.size+1<wr.heap.size:=HV1.out.2.2.2;have hnr:=HOK.out.2.1.2.1;clear hr hok;go_upto_region 19 with (fail)
         obtain⟨Wi,hWi⟩:∃Wi,Wi=wr.alloc (oA r.h):=⟨_,rfl⟩
         rw[show wr.alloc (Obj.cells #[.slice r.h.ia r.h.n r.h.c,.int .i64 r.h.t.kind,.int .i64 r.h.t.a,.int .i64 r.h.t.t0,.int .i64 r.h.t.t1] 121)=Wi from hWi.symm];obtain⟨P9,hP9⟩:∃p,p=wr.heap.size:=⟨_,rfl⟩
         have hxi:Wi.heap[P9]? =some (oA r.h):=by rw[hWi,hP9];exact ae _ _
         have hbi:Below wr.heap.size wr Wi:=by rw[hWi];exact fD _ _
         have hsi:Wi.heap.size=P9+1:=by rw[hWi,hP9];simp
         rw[<-hP9] at hgl|-;have HVI:=ac (HV1.out.ext hbi);have HXI:=ac hxi;have HSI:=ac hsi;clear hWi hxi hbi hsi c0 c1 c2 c3 c4 HV1 hP9;have hrg:=uI HVI.out.2.1 hblt;have hz:(Wi.alloc (.cells Tryz.zeroCells158 158)).heap[Wi.heap.size]? =some (.cells Tryz.zeroCells158 158 (0,0)):=ae _ _
         go_upto_region 20 with (first
          |((with_reducible show wpList _ _ _ (⟨some 61,.load _ _,_,_,_,_⟩ :: _) _ _);refine dD rfl 158 _ rfl (w.heap.size+1) (b*201) rfl (vsC (I1 b)) _ hrg cP rfl (CY _) ?_;rw[IK])
          |((with_reducible show wpList _ _ _ (⟨none,.store 158 _ _,_,_,_,_⟩ :: _) _ _);refine aP rfl 158 _ _ rfl Wi.heap.size (jN (I1 b)) rfl rfl 158 _ hz (mX _) (by rw[nV,iI,iI]) (nT _) ?_))
         obtain⟨W3,hW3⟩:∃W3,W3=(Wi.alloc (.cells Tryz.zeroCells158 158)).setRow Wi.heap.size (jN (I1 b)):=⟨_,rfl⟩
         rw[<-hW3];have hb3:Below Wi.heap.size Wi W3:=by rw[hW3];exact aX (fD _ _) (aj _) _
         have ho3:W3.heap[P9+1]? =some (vsO (I1 b)):=by rw[hW3,HSI.out];exact bt _ _ _ _ _ _ (by rw[<-HSI.out];exact hz)
         rw[HSI.out];have HV3:=ac (HVI.out.ext hb3);have HX3:=ac (fB hb3 HXI.out);have HO3:=ac ho3;have b0:=cK 0 HX3.out rfl;have hl9:=fE HX3.out;clear hW3 hb3 ho3 hrg hz HVI HXI HSI;go_wp2;clear b0 hl9
         go_loopw [65] (λi wz=>∃q:Nat,i=.int .i64 q/\q<=r.h.n/\Hid (VJ w fo k I1 wz)/\Hid (wz.heap[P9]? =some (oA r.h))/\Hid (wz.heap[P9+1]? =some (vsO (pW (I1 b) (r.rs.take q))))) (λi _=>r.h.n-(intOf i).toNat)
         case atStart=>exact⟨0,rfl,by omega,HV3,HX3,HO3⟩
         case round=>
          obtain⟨q,rfl,hq,HV4,HX4,HO4⟩:=hrel;clear HV3 HX3 HO3;by_cases hqlt:q<r.h.n
          .have hqlt':(q:Int)<(r.h.n:Int):=by omega
           obtain⟨x,xb,xo,hx,hxok,hia,d0,d1,d2,d3,d4,d5,d6,d7⟩:=(HOK.out.2.ext HV4.out.2.2.1).cells hqlt;have HST:=ac (OH (I1 b) r.rs q x hx);generalize pW (I1 b) (r.rs.take q)=fk at *;rw[hia];have HXOK:=ac hxok;clear hx hxok;go_upto_region 23 with (fail)
           obtain⟨Wj,hWj⟩:∃Wj,Wj=wr.alloc (vR x.d x.aa x.na x.ca):=⟨_,rfl⟩
           have hrj:Wj.heap[wr.heap.size]? =some (vR x.d x.aa x.na x.ca):=by rw[hWj];exact ae _ _
           have hbj:Below wr.heap.size wr Wj:=by rw[hWj];exact fD _ _
           rw[show wr.alloc (Obj.cells #[.int .i64 x.d.op,.int .i64 x.d.dst,.int .i64 x.d.a,.int .i64 x.d.b,.int .i64 x.d.imm,.int .i64 x.d.callee,.slice x.aa x.na x.ca,.int .i64 x.d.many] 161)=Wj from hWj.symm];have HRJ:=ac hrj;have HVJ:=ac (HV4.out.ext hbj);have HXJ:=ac (fB hbj HX4.out);have HOJ:=ac (fB hbj HO4.out);have HXKJ:=ac (HXOK.out.ext hbj);obtain⟨m,hm⟩:∃m:Nat,gM x.d=(m:Int):=⟨(gM x.d).toNat,by have:=(lX x.d).1;omega⟩
           have hml:m<201:=by have:=(lX x.d).2;omega
           have HMD:=ac hm;have HS1:Hid (pW (I1 b) (r.rs.take (q+1))=IA fk m):=by rw[Hid,HST.out,HMD.out];rfl
           clear hWj hrj hbj d0 d1 d2 d3 d4 d5 d6 d7 hia hm HV4 HX4 HO4 HXOK HST
           go_wp2_with (first
            |((with_reducible show wpList _ _ _ (⟨some 69,_,_,_,_,_⟩ :: _) _ _);refine ay (o:=⟨some 69,.load 161 _,_,_,_,_⟩) rfl 161 _ rfl wr.heap.size rfl 161 _ (0,0) _ HRJ.out cF rfl mY ?_)
            |(go_at_call 74
              refine(sZ x.d x.aa x.na x.ca Wj HXKJ.out.1 HXKJ.out.2.2.2.2.1 HXKJ.out.2.2.2.2.2.1 HXKJ.out.2.2.2.2.2.2.1 HXKJ.out.2.2.2.2.2.2.2.1).mono ?_;rw[HMD.out];rintro e w3 ⟨rfl,hb3⟩;have HVK:=ac (HVJ.out.ext hb3);have HXK:=ac (fB hb3 HXJ.out);have HOK2:=ac (fB hb3 HOJ.out);have hcell:=oK HOK2.out m hml;have hfr:=tR HOK2.out m;have hl3:=fE HOK2.out;have hmi:(m:Int)<201:=(by omega)
              clear hb3))
           have hcx:Chg (λj=>j=P9+1) w3 (w3.setCell ⟨P9+1,m,none⟩ (.bool true)):=(Chg.refl (λj=>j=P9+1) w3).setCell (p:=⟨P9+1,m,none⟩) (.inl rfl) _
           go_roundw
           case rel=>exact⟨q+1,by go_num,by omega,HVK.out.chg hcx (λj e=>by omega),(by rw[Hid,aU _ _ _ _ (by simp)];exact HXK.out),(by rw[Hid,HS1.out];exact wB HOK2.out m true λj _=>rfl)⟩
           case measure=>simp[intOf];omega
          .obtain rfl:q=r.h.n:=by omega
           have hrl:r.rs.length=r.h.n:=HOK.out.2.1.1;have HO5:Hid (wr.heap[P9+1]? =some (vsO (pW (I1 b) r.rs))):=by
            have:=HO4.out
            rwa [bC (by omega)] at this
           have hbk:b<(gN bs).length:=by rw[kF,HLb.out];exact hblt
           have HTX:Hid (iB (gN bs) b=bkL r):=qD HRR.out;have HOE:Hid (∀v,pW (I1 b) r.rs v=IV (iB (gN bs) b).ops (I1 b) v):=λv=>by rw[HTX.out];exact uz r.rs (I1 b) v
           have HOO:Hid (∀v:Nat,1<=v->v<201->pW (I1 b) r.rs v=false->BR (gN bs) ps (v:Int) b/\pZ (iB (gN bs) b).ops (v:Int)=false):=λv h1 h2 h3=>HO1.out.out hbk v h1 h2 (by rw[<-HOE.out];exact h3);generalize pW (I1 b) r.rs=O at *;have hqlt':¬(r.h.n:Int)<(r.h.n:Int):=by omega
           obtain⟨-,t1,t2,t3,t4⟩:=YX HX4.out rfl;have hli:=fE HX4.out;have hgw:w.heap.size+2<=wr.heap.size:=by have:=HV4.out.2.2.2;omega
           clear HO4 hqlt hq hrl
           go_wp2_with (
            (go_at_call 137
             refine(EE r.h.t wr HOK.out.1).mono ?_;rintro e w2 ⟨v,rfl,ho,hb⟩;obtain⟨va,vc,rfl⟩:=ho.form;have HT2:Hid (gD w2 (w.heap.size+2) (.slice va (toD r.h.t).length vc) (toD r.h.t)):=ho.mono hgw;have HV2:=ac (HV4.out.ext hb);have HX2:=ac (fB hb HX4.out);have HO2:=ac (fB hb HO5.out)
             clear ho hb t1 t2 t3 t4 hli))
           clear HV4 HX4 HO5 hgw;have hlen:=xC r.h.t
           go_loopw [7,77] (λs7 i wz=>∃(q:Nat) (mv2:Bool) (I:Nat->Nat->Bool),i=.int .i64 q/\s7=.bool mv2/\q<=(toD r.h.t).length/\Hid (VJ w fo k I wz)/\Hid (wz.heap[P9]? =some (oA r.h))/\Hid (wz.heap[P9+1]? =some (vsO O))/\Hid (gD wz (w.heap.size+2) (.slice va (toD r.h.t).length vc) (toD r.h.t))/\Hid (tY ps (gN bs) I)/\Hid (mv2=false->I=I0/\I1=I0/\CV (gN bs) I b q)/\Hid (mv2=true->tot 201 k I<tot 201 k I0)) (λ_ i _=>(toD r.h.t).length-(intOf i).toNat)
           case atStart=>exact⟨0,mv,I1,rfl,rfl,by omega,HV2,HX2,HO2,HT2,HO1,λe=>⟨(HC1.out e).1,(HC1.out e).1,(HC1.out e).2⟩,HT1⟩
           case round=>
            obtain⟨q,mv2,I,rfl,rfl,hq,HV,HX,HO,HT,HOK2,HC2,HTT⟩:=hrel;clear HV2 HX2 HO2 HT2;by_cases hql:q<(toD r.h.t).length
            .obtain⟨x,hx⟩:∃x,(toD r.h.t)[q]? =some x:=⟨(toD r.h.t)[q],ah hql⟩
             have hto1:1<=x/\x<(k:Int):=by
              have h9:=aV.1 HIN.out r (aK HRR.out);have h10:=aV.1 h9 x (aK hx);rw[HLb.out] at h10;simpa using h10
             obtain⟨c,rfl⟩:∃c:Nat,x=(c:Int):=⟨x.toNat,by omega⟩
             have hc2:c<k:=by omega
             have hci:(c:Int)<(k:Int):=by omega
             have hgd:(toD r.h.t).getD q 0=(c:Int):=by rw[ak,hx];rfl
             obtain⟨b3,o3,e3,hcx,hx1,hx2⟩:=HT.out.ints.2.2 q hql;subst e3;rw[hgd] at hcx;have HTQ:Hid ((iB (gN bs) b).to[q]? =some c):=by
              rw[HTX.out];show((toD r.h.t).map Int.toNat)[q]? =some c;rw[dt,hx];simp
             have hql':(q:Int)<((toD r.h.t).length:Int):=by omega
             have hgl2:w.heap.size+1<wr.heap.size:=HV.out.2.2.2;clear hx hgd hx1 hx2 hto1;go_upto_region 28 with (fail)
             refine lF 7 [some 81,some 82,some 83,some 84,some 85,some 86,some 15] (by kernel_rfl) (by kernel_rfl) (jZ [.val (.slice (some ⟨w.heap.size+1,0,none⟩) k k),.val (.int .i64 (c:Int)),.val (.pointer (some ⟨w.heap.size+1,c*201,none⟩)),.val (.agg (jN (I c))),.val (.agg (jN O)),.val (.agg (jN λv=>I c v&&O v)),.new (vsO λ_=>false)]) (jX ?_) ?_ ?_
             .intro k hk;simp only[aS,bO,cX] at hk;rcases hk with rfl|rfl|rfl|rfl|rfl|rfl|rfl<;>try exact trivial
             .intro i hi ν lo hi' w1 K hB hD hK;have hcase:i=0\/i=1\/i=2\/i=3\/i=4\/i=5\/i=6:=by omega
              clear hi;rcases hcase with rfl|rfl|rfl|rfl|rfl|rfl|rfl
              .clear hD;refine fF rfl rfl ?_;simp only[zA,zB,zC,zD,zE,zF,zJ,zK,zG,zH,zI] at hK|-;go_simp;exact hK _ _ (ag _ _) rfl
              .clear hD;refine fF rfl rfl ?_;simp only[zA,zB,zC,zD,zE,zF,zJ,zK,zG,zH,zI] at hK|-;go_simp;exact hK _ _ (ag _ _) rfl
              .have e0:ν 0=(.slice (some ⟨w.heap.size+1,0,none⟩) k k):=hD 0 (by kernel_rfl);have e1:ν 1=(.int .i64 (c:Int)):=hD 1 (by kernel_rfl);clear hD;refine fF rfl rfl ?_;simp only[zA,zB,zC,zD,zE,zF,zJ,zK,zG,zH,zI,e0,e1] at hK|-;go_simp;exact hK _ _ (ag _ _) rfl
              .have e2:ν 2=(.pointer (some ⟨w.heap.size+1,c*201,none⟩)):=hD 2 (by kernel_rfl);clear hD;refine fF rfl rfl ?_;simp only[zA,zB,zC,zD,zE,zF,zJ,zK,zG,zH,zI,e2] at hK|-;refine cp 158 _ rfl (w.heap.size+1) (c*201) rfl (vsC (I c)) _ (uI (iP.ext HV.out.2.1 hB) hc2) cP rfl (CY _) ?_;rw[IK];exact hK _ _ (ag _ _) rfl
              .clear hD;refine fF rfl rfl ?_;simp only[zA,zB,zC,zD,zE,zF,zJ,zK,zG,zH,zI] at hK|-;refine cy 158 _ rfl (P9+1) rfl 158 _ (0,0) _ (fB hB HO.out) cP rfl (mX _) ?_;exact hK _ _ (ag _ _) rfl
              .have e3:ν 3=(.agg (jN (I c))):=hD 3 (by kernel_rfl);have e4:ν 4=(.agg (jN O)):=hD 4 (by kernel_rfl);clear hD;refine fF rfl rfl ?_;simp only[zA,zB,zC,zD,zE,zF,zJ,zK,zG,zH,zI,e3,e4] at hK|-;go_simp;refine(nf (I c) O w1).mono ?_;rintro e w2 ⟨rfl,hb2⟩;exact hK _ _ hb2 rfl
              .clear hD;refine fF rfl rfl ?_;simp only[zA,zB,zC,zD,zE,zF,zJ,zK,zG,zH,zI] at hK|-;go_simp;refine hK _ _ (fD _ _) ⟨rfl,by simp,?_⟩;rw[ae,nV]
             .intro ν lo hi w1 hB hS hI hD;have e0:ν 0=(.slice (some ⟨w.heap.size+1,0,none⟩) k k):=hS 0 (by omega);have e1:ν 1=(.int .i64 (c:Int)):=hS 1 (by omega);have e2:ν 2=(.pointer (some ⟨w.heap.size+1,c*201,none⟩)):=hS 2 (by omega);have e3:ν 3=(.agg (jN (I c))):=hS 3 (by omega);have e4:ν 4=(.agg (jN O)):=hS 4 (by omega);have e5:ν 5=(.agg (jN λv=>I c v&&O v)):=hS 5 (by omega);obtain⟨e6,l6,h6⟩:=hS 6 (by omega);clear hS;simp only[am,aw,zA,zB,zC,zD,zE,zF,zJ,zK,zG,zH,zI,e0,e1,e2,e3,e4,e5,e6];have i6:=hI 6 (by omega);generalize lo 6=P15 at *;have hp10:P9+1<wr.heap.size:=(au.1 HO.out).1;have HV1:=ac (HV.out.ext hB);have HO1:=ac (fB hB HO.out);have HX1:=ac (fB hB HX.out);have HW1:=ac (HT.out.ext hB);have htl:b3<wr.heap.size:=(HT.out.1.lt b3 rfl).2;have HZ:=ac h6;have HQ1:=ac i6.1;clear hI hD hB e0 e1 e2 e3 e4 e5 e6 h6 i6
              go_wp2_with ((with_reducible show wpList _ _ _ (⟨none,.store 158 _ _,_,_,_,_⟩ :: _) _ _);refine aP rfl 158 _ _ rfl P15 (jN λv=>I c v&&O v) rfl rfl 158 _ HZ.out (mX _) (by rw[iI,iI]) (nT _) ?_)
              obtain⟨w3,hw3⟩:∃w3,w3=w1.setRow P15 (jN λv=>I c v&&O v):=⟨_,rfl⟩
              rw[<-hw3];have HV3:Hid (VJ w fo k I w3):=by rw[hw3];exact HV1.out.chg (LW w1 P15 _) (λj e=>by have:=HV.out.2.2.2;have:=HQ1.out;omega)
              have HO3:Hid (w3.heap[P9+1]? =some (vsO O)):=by rw[hw3];exact(cC _ _ _ _ (by have:=HQ1.out;omega)).trans HO1.out
              have HX3:Hid (w3.heap[P9]? =some (oA r.h)):=by rw[hw3];exact(cC _ _ _ _ (by have:=(au.1 HX.out).1;have:=HQ1.out;omega)).trans HX1.out
              have HN3:Hid (w3.heap[P15]? =some (vsO λv=>I c v&&O v)):=by rw[hw3];exact bt _ _ _ _ _ _ HZ.out
              have HW3:Hid (gD w3 (w.heap.size+2) (.slice (some ⟨b3,o3,none⟩) (toD r.h.t).length vc) (toD r.h.t)):=by
               rw[hw3]
               exact⟨iL HW1.out.1 (LW w1 P15 _) (λg e hS=>by
                simp only[Value.ownBlock,aW] at e;have:=HQ1.out
                omega),HW1.out.2⟩
              clear hw3 HW1 htl HV HO HX HV1 HO1 HX1 HZ;have HT3:Hid (gD w3 (w.heap.size+2) (.slice (some ⟨b3,o3,none⟩) (toD r.h.t).length vc) (toD r.h.t)):=HW3.out;obtain⟨eq,heq⟩:∃e,eqV (λv=>I c v&&O v) (I c)=e:=⟨_,rfl⟩
              have hqn:∀W,(binOp .neq 158 (.agg (jN λv=>I c v&&O v)) (.agg (jN (I c)))).run Tryz.prog W=.ok (.bool (!eq)) W:=λW=>by rw[vm,heq]
              have HEQ:=ac heq;have QN:Hid (∀w',(∃n':fL w3,w'=n'.val)->w'.heap[P15]? =some (vsO λv=>I c v&&O v)):=λw' ⟨n',e⟩=>by rw[e];exact fB n'.ext HN3.out
              have QI:Hid (∀w',(∃n':fL w3,w'=n'.val)->w'.rangeAt (w.heap.size+1) (c*201) (vsC (I c))):=λw' ⟨n',e⟩=>by rw[e];exact uI (iP.ext HV3.out.2.1 n'.ext) hc2
              have HNE:Nonempty (fL w3):=⟨⟨w3,ag _ _⟩⟩
              have hl3:∀n':fL w3,w.heap.size+1<n'.val.heap.size:=λn'=>(HV3.out.ext n'.ext).2.2.2;clear heq;obtain⟨N,hN⟩:∃N:Nat->Bool,N=λv=>I c v&&O v:=⟨_,rfl⟩
              rw[<-hN] at QN HN3 hqn HEQ;have HNN:=ac hN;clear hN;refine jH (by kernel_rfl) (by kernel_rfl) ?_
              repeat (first
               |go_big_quiet_skip
               |((with_reducible show wpQuiet _ _ _ _ (⟨some 87,_,_,_,_,_⟩ :: _) _);refine fW (o:=⟨some 87,.load 158 _,_,_,_,_⟩) (by kernel_rfl) 158 _ rfl P15 rfl 158 _ (0,0) _ QN.out cP rfl (mX _) ?_;simp only[Act.put,ar,aH,aF])
               |((with_reducible show wpQuiet _ _ _ _ (⟨some 91,_,_,_,_,_⟩ :: _) _);refine gU (o:=⟨some 91,.load 158 _,_,_,_,_⟩) (by kernel_rfl) 158 _ rfl (w.heap.size+1) (c*201) rfl (vsC (I c)) _ QI.out cP rfl (CY _) ?_;simp only[IK,Act.put,ar,aH,aF])
               |go_big_quiet_step (fail))
              refine aq ?_;rintro _ ⟨n',rfl⟩;have HV4:=ac (HV3.out.ext n'.ext);have HO4:=ac (fB n'.ext HO3.out);have HX4:=ac (fB n'.ext HX3.out);have HN4:=ac (fB n'.ext HN3.out);have HT4:=ac (HT3.out.ext n'.ext);generalize n'.val=w4 at *;clear HV3 HO3 HX3 HN3 HT3 hqn QN QI hl3;cases eq with
              |true=>
               have HC4:Hid (mv2=false->I=I0/\I1=I0/\CV (gN bs) I b (q+1)):=λe=>by
                obtain⟨e1,e2,e3⟩:=HC2.out e;refine⟨e1,e2,λb' hb' j c' hj hlt v hv hi=>?_⟩;by_cases e4:b'=b/\j=q
                .obtain⟨rfl,rfl⟩:=e4;rw[HTQ.out] at hj;cases hj;have h9:=mg.1 HEQ.out v hv;rw[HNN.out] at h9;have h9:(I c v&&O v)=I c v:=h9;rw[hi,dg] at h9;rw[e1,<-e2,<-HOE.out];exact h9
                .exact e3 b' hb' j c' hj (by omega) v hv hi
               go_wp2
               go_roundw
               case rel=>exact⟨q+1,mv2,I,by go_num,rfl,by omega,HV4,HX4,HO4,HT4,HOK2,HC4,HTT⟩
               case measure=>simp[intOf];omega
              |false=>
               have HTO:Hid (tot 201 k (rA I c N)<tot 201 k I0):=by
                have h9:tot 201 k (rA I c N)<tot 201 k I:=by
                 refine kr hc2 I N (λv _ hv=>?_) ?_
                 .rw[HNN.out] at hv;have hv:(I c v&&O v)=true:=hv;rw[aB] at hv;exact hv.1
                 .refine bE λhn=>?_;have:eqV N (I c)=true:=mg.2 λv hv=>bE λhx=>hn ⟨v,hv,hx⟩;rw[HEQ.out] at this;cases this
                cases mv2 with
                |false=>rw[<-(HC2.out rfl).1];exact h9
                |true=>exact Nat.lt_trans h9 (HTT.out rfl)
               have HOK5:Hid (tY ps (gN bs) (rA I c N)):=by
                rw[Hid,HNN.out];exact HOK2.out.put hbk (aK HTQ.out) O HOO.out
               have ht:=BZ HV4.out.2.1 hc2 N;have hgl4:w.heap.size+1<w4.heap.size:=HV4.out.2.2.2;have hxl:=fE HX4.out
               go_wp2_with (first
                |((with_reducible show wpList _ _ _ (⟨some 95,.load _ _,_,_,_,_⟩ :: _) _ _);refine ay rfl 158 _ rfl P15 rfl 158 _ (0,0) _ HN4.out cP rfl (mX _) ?_)
                |((with_reducible show wpList _ _ _ (⟨none,.store 158 _ _,_,_,_,_⟩ :: _) _ _);refine wpList_store_mid rfl 158 _ _ rfl (w.heap.size+1) (c*201) (jN N) rfl rfl ht (mX _) (nT _) ?_))
               have hc4:=pM w4 (w.heap.size+1) (c*201) (jN N).toList
               go_roundw
               case rel=>exact⟨q+1,true,rA I c N,by go_num,rfl,by omega,HV4.out.set hc2 N,(hc4.block _ (by omega) (by omega)).trans HX4.out,(hc4.block _ (fE HO4.out) (by omega)).trans HO4.out,⟨iL HT4.out.1 hc4 (λg e hS=>by have:=(HT4.out.1.lt g e).1;omega),HT4.out.2⟩,HOK5,(λe=>by cases e),λ_=>HTO.out⟩
               case measure=>simp[intOf];omega
            .have hql':¬(q:Int)<((toD r.h.t).length:Int):=by omega
             have HC3:Hid (mv2=false->I=I0/\CV (gN bs) I (b+1) 0):=λe=>by
              obtain⟨e1,_,e3⟩:=HC2.out e;refine⟨e1,λb' hb' j c' hj hlt=>e3 b' hb' j c' hj ?_⟩;by_cases e4:b'=b
              .subst e4;right;refine⟨rfl,?_⟩;have:=(aE.1 hj).1;rw[HTX.out] at this;have h9:((toD r.h.t).map Int.toNat).length=(toD r.h.t).length:=cT _;have:j<((toD r.h.t).map Int.toNat).length:=this;omega
              .left;omega
             go_wp2
             go_roundw
             case rel=>exact⟨b+1,mv2,I,by go_num,rfl,by omega,HV,HOK2,HC3,HTT⟩
             case measure=>simp[intOf];omega
        .obtain rfl:b=k:=by omega
         have hblt':¬(b:Int)<(b:Int):=by omega
         go_wp2
         go_roundg (2*tot 201 b I1+(if mv then 1 else 0))
         case measure=>
          have hg:=HG0.out;simp only[if_true] at hg;cases mv with
          |false=>rw[(HC1.out rfl).1];simp;omega
          |true=>have:=HT1.out rfl;simp;omega
         case rel=>exact⟨mv,I1,rfl,HV1,HO1,aj _,λe=>(HC1.out e).2⟩
end

section
open Go.RowKit
def mF(ps:List Int)(bs:List iA):Int:=
 if rC ps.length bs.length (hOf bs) then 3 else if !kJ ps bs then 2 else if !(qZ bs&&rM (gN bs)) then 9 else if rI ps (gN bs) then 8 else 0
theorem CX{w:World}{ps:List Int}{ba:Option Addr}{bn:Nat}{bs:List iA}(h:lY w ba bn bs)(hw:kJ ps bs=true):∀b∈bs,∀r∈b.rs,r.na<=1000000:=by
 intro b hb r hr
 rw[kJ,aB,aV] at hw
 have h1:=hw.2 b hb
 rw[IW,aB,dm,dQ] at h1
 have h2:=h1.2 r hr
 have hi:oQ r.d=true:=by simpa using h2
 have hl:r.d.args.length=r.na:=((h.2 b hb).2.2 r hr).1.1
 rw[<-hl]
 unfold oQ at hi
 simp only at hi
 split at hi
 .cases hi
 .split at hi
  .simp only[aB,aN] at hi;omega
  .split at hi
   .cases hi
   .simp only[aB,db] at hi;omega
theorem vH(pa:Option Addr)(pn pc:Nat)(ps:List Int)(ba:Option Addr)(bn bc:Nat)(bs:List iA)(w:World)(hp:iJ w pa pn ps)(h:lY w ba bn bs):
  Calls Tryz.prog 21 #[mB pa pn pc ba bn bc] w λe w'=>e=.returned (.int .i64 (mF ps bs))/\Below w.heap.size w w':=by
 have HPI:=ac hp
 have HB:=ac h
 have HLb:=ac h.1.1
 have HLp:=ac hp.1
 have hbn:=h.1.2.1
 clear h hp
 have HF0:Hid ((w.alloc (gX pa pn pc ba bn bc)).heap[w.heap.size]? =some (gX pa pn pc ba bn bc)):=ae _ _
 have HB0:Hid (Below w.heap.size w (w.alloc (gX pa pn pc ba bn bc))):=fD _ _
 cases hl:rC pn bn (hOf bs) with
 |true=>
  have HL:=ac hl;have HE:Hid (mF ps bs=3):=by rw[Hid,mF,HLp.out,HLb.out,hl];rfl
  clear hl
  go_enter Tryz.func21,Tryz.ntmps21
  go_wp2_with (first
   |((with_reducible show wpList _ _ _ (⟨some 5,.load _ _,_,_,_,_⟩ :: _) _ _);refine ay rfl 25 _ rfl w.heap.size rfl 25 _ (0,0) _ HF0.out aJ rfl gE ?_)
   |(go_at_call 47
     refine(DG pa pn pc ba bn bc (hOf bs) _ (HB.out.ext HB0.out).x.1).mono ?_;rw[HL.out];rintro e w1 ⟨rfl,hb1⟩;have HB1:=ac (fC HB0.out hb1)
     clear hb1))
  go_ret
  exact⟨by rw[HE.out];rfl,HB1.out⟩
 |false=>
  have HL:=ac hl;have hbnd:0<bn/\bn<=200/\pn<=8:=by
   rw[rC] at hl;simp only[cV,cg] at hl;omega
  cases hw:kJ ps bs with
  |false=>
   have HWB:=ac hw;have HE:Hid (mF ps bs=2):=by rw[Hid,mF,HLp.out,HLb.out,hl,hw];rfl
   clear hl hw
   go_enter Tryz.func21,Tryz.ntmps21
   go_wp2_with (first
    |((with_reducible show wpList _ _ _ (⟨some 5,.load _ _,_,_,_,_⟩ :: _) _ _);refine ay rfl 25 _ rfl w.heap.size rfl 25 _ (0,0) _ HF0.out aJ rfl gE ?_)
    |(go_at_call 47
      refine(DG pa pn pc ba bn bc (hOf bs) _ (HB.out.ext HB0.out).x.1).mono ?_;rw[HL.out];rintro e w1 ⟨rfl,hb1⟩;have HF1:=ac (fB hb1 HF0.out);have HB1:=ac (fC HB0.out hb1)
      clear hb1)
    |((with_reducible show wpList _ _ _ (⟨some 7,.load _ _,_,_,_,_⟩ :: _) _ _);refine ay rfl 25 _ rfl w.heap.size rfl 25 _ (0,0) _ HF1.out aJ rfl gE ?_)
    |(go_at_call 48
      refine(zQ pa pn pc ps ba bn bc bs w1 (HPI.out.ext HB1.out) (HB.out.ext HB1.out)).mono ?_;rw[HWB.out];rintro e w2 ⟨rfl,hb2⟩;have HB2:=ac (fC HB1.out hb2)
      clear hb2))
   go_ret
   exact⟨by rw[HE.out];rfl,HB2.out⟩
  |true=>
   have HWB:=ac hw;have HNA:=ac (CX HB.out hw);have HPAR:Hid (IU ps=true):=by
    rw[kJ,aB] at hw;exact hw.1
   obtain⟨hb0,hb1',hp8⟩:=hbnd;have HE:Hid (mF ps bs=if !(qZ bs&&rM (gN bs)) then 9 else if rI ps (gN bs) then 8 else 0):=by rw[Hid,mF,HLp.out,HLb.out,hl,hw];rfl
   clear hl hw
   go_enter Tryz.func21,Tryz.ntmps21
   go_upto_region 5 with (first
    |((with_reducible show wpList _ _ _ (⟨some 5,.load _ _,_,_,_,_⟩ :: _) _ _);refine ay rfl 25 _ rfl w.heap.size rfl 25 _ (0,0) _ HF0.out aJ rfl gE ?_)
    |(go_at_call 47
      refine(DG pa pn pc ba bn bc (hOf bs) _ (HB.out.ext HB0.out).x.1).mono ?_;rw[HL.out];rintro e w1 ⟨rfl,hb1⟩;have HF1:=ac (fB hb1 HF0.out);have HB1:=ac (fC HB0.out hb1)
      clear hb1)
    |((with_reducible show wpList _ _ _ (⟨some 7,.load _ _,_,_,_,_⟩ :: _) _ _);refine ay rfl 25 _ rfl w.heap.size rfl 25 _ (0,0) _ HF1.out aJ rfl gE ?_)
    |(go_at_call 48
      refine(zQ pa pn pc ps ba bn bc bs w1 (HPI.out.ext HB1.out) (HB.out.ext HB1.out)).mono ?_;rw[HWB.out];rintro e w2 ⟨rfl,hb2⟩;have HF2:=ac (fB hb2 HF1.out);have HB2:=ac (fC HB1.out hb2)
      clear hb2))
   go_upto_region 6 with (first
    |((with_reducible show wpList _ _ _ (⟨some 11,.load _ _,_,_,_,_⟩ :: _) _ _);refine ay rfl 25 _ rfl w.heap.size rfl 25 _ (0,0) _ HF2.out aJ rfl gE ?_)
    |(go_at_call 49
      refine(XR pa pn pc ba bn bc bs w2 (HB.out.ext HB2.out) hb0 hb1').mono ?_;rintro e w3 ⟨hr,hb3⟩
      obtain⟨k3,b3,rfl,HR3⟩:∃(k3:Nat) (b3:Bool),e=.returned (.tuple #[.int .i64 k3,.bool b3])/\Hid ((b3=false/\qZ bs=false)\/(b3=true/\qZ bs=true/\k3<=bn/\(bn<=k3↔rM (gN bs)=true))):=(by
       rcases hr with ⟨h1,rfl⟩|⟨h1,k,rfl,h2,h3⟩
       .exact⟨0,false,rfl,.inl ⟨rfl,h1⟩⟩
       .rw[HLb.out] at h2 h3;refine⟨k,true,rfl,.inr ⟨rfl,h1,h2,h3.trans ?_⟩⟩
        rw[DY,kF,HLb.out])
      have HF3:=ac (fB hb3 HF2.out);have HB3:=ac (fC HB2.out hb3)
      clear hr hb3))
   have f1:=cK 1 HF3.out rfl;have hl3:=fE HF3.out;by_cases hno:(qZ bs&&rM (gN bs))=true
   .have hti:qZ bs=true:=by rw[aB] at hno;exact hno.1
    have hk:b3=true/\bn<=k3/\k3<=bn:=by
     rcases HR3.out with ⟨_,h⟩|⟨h1,_,h2,h3⟩
     .rw[hti] at h;cases h
     .exact⟨h1,h3.2 (by rw[aB] at hno;exact hno.2),h2⟩
    obtain⟨rfl,hk1,hk2⟩:=hk;have hkn:¬(k3:Int)<(bn:Int):=by omega
    have HIN:=ac hti;have HE2:Hid (mF ps bs=if rI ps (gN bs) then 8 else 0):=by rw[Hid,HE.out,hno];rfl
    clear hno hti HR3;cases ha:rI ps (gN bs) with
    |true=>
     have HE3:Hid (mF ps bs=8):=by rw[Hid,HE2.out,ha];rfl
     have HA:=ac ha;clear ha
     go_wp2_with (first
      |((with_reducible show wpList _ _ _ (⟨some 24,.load _ _,_,_,_,_⟩ :: _) _ _);refine ay rfl 25 _ rfl w.heap.size rfl 25 _ (0,0) _ HF3.out aJ rfl gE ?_)
      |(go_at_call 50
        refine(KR pa pn pc ps ba bn bc bs w3 (HPI.out.ext HB3.out) (HB.out.ext HB3.out) hb0 hb1' (by omega) HPAR.out HIN.out HNA.out).mono ?_;rw[HA.out];rintro e w4 ⟨rfl,hb4⟩;have HB4:=ac (fC HB3.out hb4)
        clear hb4))
     go_ret
     exact⟨by rw[HE3.out];rfl,HB4.out⟩
    |false=>
     have HE3:Hid (mF ps bs=0):=by rw[Hid,HE2.out,ha];rfl
     have HA:=ac ha;clear ha
     go_wp2_with (first
      |((with_reducible show wpList _ _ _ (⟨some 24,.load _ _,_,_,_,_⟩ :: _) _ _);refine ay rfl 25 _ rfl w.heap.size rfl 25 _ (0,0) _ HF3.out aJ rfl gE ?_)
      |(go_at_call 50
        refine(KR pa pn pc ps ba bn bc bs w3 (HPI.out.ext HB3.out) (HB.out.ext HB3.out) hb0 hb1' (by omega) HPAR.out HIN.out HNA.out).mono ?_;rw[HA.out];rintro e w4 ⟨rfl,hb4⟩;have HB4:=ac (fC HB3.out hb4)
        clear hb4))
     go_ret
     exact⟨by rw[HE3.out];rfl,HB4.out⟩
   .have HE2:Hid (mF ps bs=9):=by
     have hn:(qZ bs&&rM (gN bs))=false:=by simpa using hno
     rw[Hid,HE.out,hn];rfl
    cases b3 with
    |false=>
     clear hno HR3;go_wp2
     go_ret
     exact⟨by rw[HE2.out];rfl,HB3.out⟩
    |true=>
     have hk:(k3:Int)<(bn:Int):=by
      rcases HR3.out with ⟨h,_⟩|⟨_,h1,h2,h3⟩
      .cases h
      .have:¬bn<=k3:=λhx=>hno (by rw[h1,h3.1 hx];rfl);omega
     clear hno HR3;go_wp2
     go_ret
     exact⟨by rw[HE2.out];rfl,HB3.out⟩
end

section
open Go.RowKit
def oR(W:World)(a:Option Addr)(n:Nat)(f:Nat->List Int):Prop:=
 ∀k,k<n->∃g o a' c',a=some ⟨g,o,none⟩/\W.cell? ⟨g,o+k,none⟩=some (.slice a' (f k).length c')/\iJ W a' (f k).length (f k)
def xH(W:World)(a:Option Addr)(n:Nat)(m:Nat->Nat)(f:Nat->Nat->List Int):Prop:=
 ∀k,k<n->∃g o a' c',a=some ⟨g,o,none⟩/\W.cell? ⟨g,o+k,none⟩=some (.slice a' (m k) c')/\oR W a' (m k) (f k)
theorem oR.ext{W W':World}{a:Option Addr}{n:Nat}{f:Nat->List Int}(h:oR W a n f)(hb:Below W.heap.size W W'):oR W' a n f:=λk hk=>
 let ⟨g,o,a',c',e,h1,h2⟩:=h k hk
 ⟨g,o,a',c',e,fZ hb h1,h2.ext hb⟩
theorem xH.ext{W W':World}{a:Option Addr}{n:Nat}{m:Nat->Nat}{f:Nat->Nat->List Int}(h:xH W a n m f)(hb:Below W.heap.size W W'):xH W' a n m f:=λk hk=>
 let ⟨g,o,a',c',e,h1,h2⟩:=h k hk
 ⟨g,o,a',c',e,fZ hb h1,h2.ext hb⟩
def vP(bs:List BkL)(b:Nat):List Int:=uQ λv=>sn bs v b
def tX(bs:List BkL)(b:Nat):List Int:=uQ λv=>TW bs v b
def atP(bs:List BkL)(b i:Nat)(v:Int):Bool:=nI ((iB bs b).ops.drop i) (iB bs b).nd (λv=>TW bs v b) v
def atL(bs:List BkL)(b i:Nat):List Int:=uQ (atP bs b i)
def atN(bs:List BkL)(b:Nat):Nat:=(iB bs b).ops.length+1
structure UC where
 ia:Option Addr
 ic:Nat
 oa:Option Addr
 oc:Nat
 ta:Option Addr
 tc:Nat
abbrev Be(n:Nat)(h:UC):Value:=.agg #[.slice h.ia n h.ic,.slice h.oa n h.oc,.slice h.ta n h.tc]
def BI(W:World)(bs:List BkL)(n:Nat)(h:UC):Prop:=oR W h.ia n (vP bs)/\oR W h.oa n (tX bs)/\xH W h.ta n (atN bs) (atL bs)
theorem BI.ext{W W':World}{bs:List BkL}{n:Nat}{h:UC}(hl:BI W bs n h)(hb:Below W.heap.size W W'):BI W' bs n h:=⟨hl.1.ext hb,hl.2.1.ext hb,hl.2.2.ext hb⟩
def yx(ps:List Int)(bs:List iA)(w:World)(e:Ending)(w':World):Prop:=
 ((mF ps bs≠0/\e=.returned (.tuple #[Be 0 ⟨none,0,none,0,none,0⟩,.int .i64 2]))\/(mF ps bs=0/\∃h,e=.returned (.tuple #[Be bs.length h,.int .i64 0])/\BI w' (gN bs) bs.length h))/\Below w.heap.size w w'
section
variable {W W':World} {B:Nat} {T:Nat->Option Nat} {v:Nat->Nat->Value} {xs:Nat->Nat->List Int}
end
end
end Go.Proofs.YtbknbcmppdglhaaGreatDoor
