/-
 Slices of ints of the call's own;slices.Clone of ints.
-/
import Derived.Test.YtchdkjenhppleaaGreatA0
import Derived.Test.YtchdkjenhppleaaGreatRows
import Derived.Test.YtchdkjenhppleaaGreatFM
import Derived.Test.YtchdkjenhppleaaGreatFL
import Derived.ChangeKeysEq
import Derived.WalkSpells
import Derived.Test.YtchdkjenhppleaaGreatTA
import Derived.Test.YtchdkjenhppleaaGreatMix
import Derived.Scope
import Derived.Deep.DeepCutAuto
namespace Go.Proofs.YtchdkjenhppleaaGreat
set_option linter.unusedSimpArgs false
set_option linter.unusedVariables false
set_option linter.unusedSectionVars false
set_option maxRecDepth 100000
set_option maxHeartbeats 40000000
section
open Go.RowKit
theorem tP:(Tryz.prog.info? 3).map (λi=>(i.zero,i.size,i.bytes))=some (some (.int .i64 0),1,8):=by kernel_rfl
def eU(xs:List Int):List Value:=xs.map (Value.int .i64)
theorem BT(xs:List Int):(eU xs).length=xs.length:=by simp[eU]
theorem BS(xs:List Int):∀u∈eU xs,u.oneCell'=true:=by
 intro u hu
 simp only[eU,bi] at hu
 obtain⟨x,_,rfl⟩:=hu
 rfl
def fQ(w:World)(base:Nat)(v:Value)(xs:List Int):Prop:=w.ownsRow base 3 1 v xs.length (eU xs)/\(∀x∈xs,I64 x)/\xs.length<=17592186044416
theorem fQ.nil(w:World)(base:Nat):fQ w base (.slice none 0 0) []:=⟨cC _ _ _ _,by simp,by simp⟩
theorem fQ.mono{w:World}{base base':Nat}{v:Value}{xs:List Int}(h:fQ w base v xs)(hb:base'<=base):fQ w base' v xs:=by
 refine⟨⟨h.1.1,?_⟩,h.2⟩
 rcases h.1.2 with h0|⟨g,cap,cur,hv,h1,r⟩
 .exact .inl h0
 .exact .inr ⟨g,cap,cur,hv,bP hb h1,r⟩
theorem fQ.kept{w w':World}{base:Nat}{v:Value}{xs:List Int}{row:Option Nat}(h:fQ w base v xs)(hg:w.grownBy w' row)(hne:v.ownBlock=none\/v.ownBlock≠row):fQ w' base v xs:=⟨h.1.kept hg hne,h.2⟩
theorem fQ.ext{w w':World}{base:Nat}{v:Value}{xs:List Int}(h:fQ w base v xs)(hb:Below w.heap.size w w'):fQ w' base v xs:=by
 refine⟨h.1.kept (row:=none) ⟨hb.os,hb.tape,hb.output,hb.size,λk hk _=>hb.block k hk⟩ ?_,h.2⟩
 cases h1:v.ownBlock with
 |none=>exact .inl rfl
 |some k=>exact .inr (by simp)
theorem fQ.form{w:World}{base:Nat}{v:Value}{xs:List Int}(h:fQ w base v xs):∃a c,v=.slice a xs.length c:=by
 rcases h.1.2 with ⟨rfl,h0⟩|⟨g,cap,cur,hv,_⟩
 .have h0:xs.length=0:=h0;rw[h0];exact⟨none,0,rfl⟩
 .exact⟨_,_,hv⟩
theorem fQ.ints{w:World}{base:Nat}{a:Option Addr}{n c:Nat}{xs:List Int}(h:fQ w base (.slice a n c) xs):fR w a n xs:=by
 rcases h.1.2 with ⟨hv,h0⟩|⟨g,cap,cur,hv,_⟩
 .injection hv with e1 e2 e3;subst e1 e2;have h0:xs.length=0:=h0;exact⟨h0,by omega,λk hk=>by omega⟩
 .injection hv with e1 e2 e3;subst e1 e2 e3;exact vE h.1 h.2.1 h.2.2
theorem fQ.cap{w:World}{base:Nat}{a:Option Addr}{n c:Nat}{xs:List Int}(h:fQ w base (.slice a n c) xs):n<=c/\c<=9223372036854775807/\n=xs.length:=by
 rcases h.1.2 with ⟨hv,h0⟩|⟨g,cap,cur,hv,_,_,h1,h2,_⟩
 .injection hv with e1 e2 e3;subst e1 e2 e3;exact⟨by omega,by omega,by rw[show xs.length=0 from h0]⟩
 .injection hv with e1 e2 e3;subst e1 e2 e3;unfold maxLen at h2;exact⟨h1,by omega,rfl⟩
def mG(w:World)(xs:List Int)(e:Ending)(w':World):Prop:=∃v,e=.returned v/\fQ w' w.heap.size v xs/\Below w.heap.size w w'
theorem NH{W:World}{g:Nat}{xs:List Int}(hg:W.heap.size=g)(base:Nat)(hb:base<=g)(hx:∀x∈xs,I64 x)(hn:xs.length<=1000):fQ (W.alloc (.cells (eU xs).toArray 3)) base (.slice (some ⟨g,0,none⟩) xs.length xs.length) xs:=by
 subst hg
 refine⟨?_,hx,by omega⟩
 have:=dy (base:=base) (e:=3) (size:=1) W (eU xs).toArray xs.length hb (by unfold maxLen;omega) (by simp[eU])
 simpa using this
theorem rP(a:Option Addr)(n c:Nat)(xs:List Int)(w:World)(h:fR w a n xs):
  Calls Tryz.prog 88 #[.slice a n c] w (mG w xs):=by
 have HL:=ac h.1
 have hn:=h.2.1
 have HM:=ac h.mem
 have H:=ac h
 clear h
 cases a with
 |none=>
  have hq:=λw n c n' c'=>cE (P:=Tryz.prog) w 22 3 none n c n' c' aQ
  go_enter Tryz.func88,Tryz.ntmps88
  go_wp2
  go_ret
  have h0:xs= []:=by
   cases xs with
   |nil=>rfl
   |cons r l=>obtain⟨b,o,e,_⟩:=H.out.2.2 0 (by rw[<-HL.out];simp);cases e
  subst h0;exact⟨_,rfl,fQ.nil _ _,ao _ _⟩
 |some ad=>
  have hq:=λw n c n' c'=>cE (P:=Tryz.prog) w 22 3 (some ad) n c n' c' aQ
  go_enter Tryz.func88,Tryz.ntmps88
  go_wp2_with (at_builtin;go_loud (refine qN (w.alloc (.cells #[] 3)) rfl (.tmp 5) (.tmp 6) 22 3 rfl w.heap.size _ 1 8 aQ tP rfl (by omega) (.slice (some ⟨w.heap.size,0,none⟩) 0 0) 0 [] rfl (dy w #[] 0 (by omega) (by unfold maxLen;omega) rfl) (some ad) n c rfl (eU xs) (by rw[BT,HL.out,dK]) ((H.out.ext ((ao _ w).alloc (aw _) _)).news) (BS xs) (by unfold maxLen;omega) (by omega) (by simp) ?_);intro v' w1 ho1 hg1 hv1;have HO1:=ac ho1;have HG1:=ac hg1;clear ho1 hg1 hv1)
  go_ret
  have ho:=HO1.out;rw[aW,bH,<-HL.out] at ho;exact⟨_,rfl,⟨ho,HM.out,by rw[HL.out];exact hn⟩,((ao _ w).alloc (aw _) _).grown HG1.out (by simp) (λk hk=>by simp[Value.ownBlock] at hk;omega)⟩
end

section
open Go.RowKit
theorem nv(t:fC)(h:rM t):∀x∈toD t,I64 x:=by
 intro x hx
 unfold toD at hx
 split at hx
 .split at hx
  .simp at hx;subst hx;exact h.2.2.1
  .split at hx
   .simp at hx;rcases hx with rfl|rfl
    .exact h.2.2.1
    .exact h.2.2.2
   .cases hx
 .cases hx
theorem uU{w w':World}{o:Obj}(h:Below (w.alloc o).heap.size (w.alloc o) w'):w.heap.size<=w'.heap.size:=by have:=h.size;simp at this;omega
theorem zW(t:fC)(w:World)(h:rM t):Calls Tryz.prog 109 #[HH t] w (mG w (toD t)):=by
 have HT:=ac h
 have HO:=ac (nv t h)
 clear h
 obtain⟨k,a,x,y⟩:=t
 by_cases ht:jK ⟨k,a,x,y⟩=true
 .have HB:=ac ht;by_cases k1:k=1
  .subst k1;have HE:Hid (toD ⟨1,a,x,y⟩= [x]):=by rw[Hid,toD,aX ht,aX rfl]
   clear ht
   go_enter Tryz.func109,Tryz.ntmps109
   go_wp2_with (go_at_call 107;refine(mF ⟨1,a,x,y⟩ _ HT.out).mono ?_;rintro e w' ⟨rfl,hb'⟩;rw[HB.out];obtain⟨g1,g2⟩:=UK hb';have HB':=ac hb';clear hb')
   go_ret
   rw[HE.out];exact⟨_,rfl,(NH (xs:= [x]) rfl _ (uU HB'.out) (by have:=HO.out;rwa [HE.out] at this) (by simp)),(eA (eD _ _) HB'.out).alloc (uU HB'.out) _⟩
  .have b1:(k==1)=false:=by simpa using k1
   by_cases k2:k=2
   .subst k2;have HE:Hid (toD ⟨2,a,x,y⟩= [x,y]):=by rw[Hid,toD,aX ht,aC (by simp),aX rfl]
    clear ht k1
    go_enter Tryz.func109,Tryz.ntmps109
    go_wp2_with (first
     |(go_at_call 88
       refine(rP _ _ _ [x,y] _ (yF HK.out [x,y] (by have:=HO.out;rwa [HE.out] at this) (by simp) (λk hk=>by match k,hk with|0,_=>rfl|1,_=>rfl))).mono ?_;rintro e w2 ⟨v,rfl,ho,hb2⟩;have HO2:=ac ho;have HB2:=ac hb2
       clear ho hb2)
     |(go_at_call 107
       refine(mF ⟨2,a,x,y⟩ _ HT.out).mono ?_;rintro e w' ⟨rfl,hb'⟩;rw[HB.out];obtain⟨g1,g2⟩:=UK hb';have HK:=ac (eB hb' (ai w (ZN ⟨2,a,x,y⟩)));have HB':=ac hb'
       clear hb'))
    go_ret
    rw[HE.out];exact⟨_,rfl,HO2.out.mono (uU HB'.out),eA (eA (eD _ _) HB'.out) HB2.out⟩
   .have b2:(k==2)=false:=by simpa using k2
    have HE:Hid (toD ⟨k,a,x,y⟩= []):=by rw[Hid,toD,aX ht,aC k1,aC k2]
    clear ht k1 k2
    go_enter Tryz.func109,Tryz.ntmps109
    go_wp2_with (go_at_call 107;refine(mF ⟨k,a,x,y⟩ _ HT.out).mono ?_;rintro e w' ⟨rfl,hb'⟩;rw[HB.out];obtain⟨g1,g2⟩:=UK hb';have HB':=ac hb';clear hb')
    go_ret
    rw[HE.out];exact⟨_,rfl,fQ.nil _ _,eA (eD _ _) HB'.out⟩
 .have HE:Hid (toD ⟨k,a,x,y⟩= []):=by rw[Hid,toD,aC ht]
  have ht':jK ⟨k,a,x,y⟩=false:=by simpa using ht
  have HB:=ac ht';clear ht ht'
  go_enter Tryz.func109,Tryz.ntmps109
  go_wp2_with (go_at_call 107;refine(mF ⟨k,a,x,y⟩ _ HT.out).mono ?_;rintro e w' ⟨rfl,hb'⟩;rw[HB.out];obtain⟨g1,g2⟩:=UK hb';have HB':=ac hb';clear hb')
  go_ret
  rw[HE.out];exact⟨_,rfl,fQ.nil _ _,eA (eD _ _) HB'.out⟩
end

section
open Go.RowKit Go.Shelf
attribute [local go_sem] Oper.semAt_some iB fS gP fH
def VQ(x:Nat):Array Value:=#[.int .i64 (x:Int)]
def oF(f:Nat->Bool)(k:Nat):List Nat:=(List.range' k (200-k)).filter f
theorem RY(f:Nat->Bool):oF f 0=iR f:=by rw[oF,iR,List.range_eq_range']
theorem WN(f:Nat->Bool):oF f 200= []:=rfl
theorem RZ(f:Nat->Bool)(k:Nat)(h:k<200):oF f k=if f k then k :: oF f (k+1) else oF f (k+1):=by
 rw[oF,show 200-k=(200-(k+1))+1 by omega,List.range'_succ,bK]
 rfl
abbrev jZ(f:Nat->Bool):Obj:=.cells (eV f) 227 (0,0)
theorem OM(S:Nat)(w:World):Calls Tryz.prog 178 #[.pointer (some ⟨S,0,none⟩)] w λe w'=>e=.returned (.func (.func 185) #[] #[.pointer (some ⟨w.heap.size,0,none⟩)])/\w'=w.alloc (.cells #[.pointer (some ⟨S,0,none⟩)] 262):=by
 go_wp2
 go_ret
 simp
theorem FL(f:Nat->Bool)(G S:Nat):nh Tryz.prog 185 #[.pointer (some ⟨G,0,none⟩)] VQ (iR f) (λW=>W.cell? ⟨G,0,none⟩=some (.pointer (some ⟨S,0,none⟩))/\W.heap[S]? =some (jZ f)):=by
 intro l K Kx W hK hKx hInv hY h0
 refine callsIn_of_wp Tryz.func185 rfl trivial ?_ rfl
 simp only[Tryz.ntmps185,bL,aN,aV,Nat.reduceAdd,Nat.reduceSub,bC,bD,bM,bG,bH,bJ]
 have HY:=ac hY
 have HI:=ac hInv
 have HK0:=ac hK
 have H0:Hid (K (oF f 0) W):=by rw[Hid,RY];exact h0
 have hg0:W.cell? ⟨G,0,none⟩=some (.pointer (some ⟨S,0,none⟩)):=(hInv _ _ h0).1
 clear hY hInv hK hKx h0
 gi_wp2
 gi_loopw [6] (λi wr=>∃k:Nat,i=.int .i64 k/\k<=200/\Hid (K (oF f k) wr)) (λi _=>200-(intOf i).toNat)
 case atStart=>exact⟨0,rfl,by omega,H0.out⟩
 case round=>
  obtain⟨k,rfl,hk,HK⟩:=hrel;clear hg0;have hSr:=(HI.out _ _ HK.out).2;have hn:∀q,(wr.drewN q).cell? ⟨S,0,none⟩=some (.bool (f 0)):=λq=>by rw[bd (wr.drewN q) _ _ _ _ _ hSr,nJ _ _ (by omega)]
  have hne:wr.cell? ⟨S,0,none⟩=some (.bool (f 0)):=hn 0;by_cases hlt:k<200
  .have hc:wr.cell? ⟨S,k,none⟩=some (.bool (f k)):=by rw[bd _ _ _ _ _ _ hSr,nJ _ _ hlt]
   have HST:=ac (RZ f k hlt);have hlt':(k:Int)<200:=by omega
   clear hSr hn;by_cases hf:f k=true
   .rw[hf] at hc;have HR:Hid (oF f k=k :: oF f (k+1)):=by rw[Hid,HST.out,aX hf]
    clear hf HST
    gi_wp2
    refine uX (by kernel_rfl) (by kernel_rfl) ?_
    repeat (go_big_quiet_step (fail))
    refine ar ?_;rintro _ ⟨nq,rfl⟩;have HKq:Hid (K (oF f k) (wr.drewN nq)):=HK0.out _ _ _ HK.out (eS (ao _ _) nq);obtain⟨fn,tmps,assign,body,hy,hR⟩:=HY.out (oF f k) k (wr.drewN nq) (by rw[HR.out];rfl) HKq.out;unfold VQ at hy;have hT:nxL (oF f k) k=oF f (k+1):=by rw[HR.out];rfl
    rw[hT] at hR;have HR2:=ac hR;clear hT hR HKq
    gi_wp2
    refine HR2.out.mono ?_;rintro e W' (⟨rfl,hJ'⟩|⟨rfl,hX'⟩)
    .have HK1:=ac hJ';clear hJ' hy HR2
     gi_wp2
     go_roundw
     case rel=>exact⟨k+1,by go_num,by omega,HK1.out⟩
     case measure=>simp[intOf];omega
    .have HX:=ac hX';clear hX' hy HR2
     gi_wp2
     exact aD (v:=.tuple #[]) (by simp[results,Tryz.results185,go_sem]) rfl ⟨⟨_,rfl⟩,Or.inr HX.out⟩
   .have hf':f k=false:=by simpa using hf
    rw[hf'] at hc;have HR:Hid (oF f k=oF f (k+1)):=by rw[Hid,HST.out,aC hf]
    clear hf hf' HST
    gi_wp2
    refine uX (by kernel_rfl) (by kernel_rfl) ?_
    repeat (go_big_quiet_step (fail))
    refine ar ?_;rintro _ ⟨nq,rfl⟩;have HKq:Hid (K (oF f (k+1)) (wr.drewN nq)):=by rw[<-HR.out];exact HK0.out _ _ _ HK.out (eS (ao _ _) nq)
    gi_wp2
    go_roundw
    case rel=>exact⟨k+1,by go_num,by omega,HKq.out⟩
    case measure=>simp[intOf];omega
  .obtain rfl:k=200:=by omega
   clear hSr hn
   gi_wp2
   go_end0
   exact⟨⟨_,rfl⟩,Or.inl ⟨_,WN f,HK.out⟩⟩
end

section
open Go.RowKit Go.Shelf
attribute [local go_sem] Oper.semAt_some iB fS gP fH
theorem ix(l:List Nat)(h:∀x∈l,x<1000000):∀x∈eR l,I64 x:=by
 grind[eR,I64]
theorem tB{w:World}{base:Nat}{e:TypeId}{size:Nat}{v:Value}{n:Nat}{xs:List Value}(h:w.ownsRow base e size v n xs):∀(j:Nat) (o:Obj),v.ownBlock=some j->w.heap[j]? =some o->nR o=false:=by
 intro j o hj ho
 rcases h.2 with ⟨rfl,_⟩|⟨g,cap,cur,rfl,_,hh,_⟩
 .cases hj
 .simp only[Value.ownBlock,bv] at hj;subst hj;rw[hh] at ho;cases ho;rfl
theorem fB{w w':World}{row:Option Nat}(hg:w.grownBy w' row){k:Nat}{o:Obj}(hk:w.heap[k]? =some o)(hne:row≠some k):w'.heap[k]? =some o:=
 (hg.block k (am.1 hk).1 (λe=>hne e.symm)).trans hk
theorem fL(w:World)(b o:Nat)(u:Value):w.grownBy (w.setCell ⟨b,o,none⟩ u) (some b):=
 ⟨rfl,rfl,rfl,by simp,λk _ hne=>bf _ _ _ _ (λe=>hne (by rw[e]))⟩
theorem eI.ownI(D base:Nat)(v:Value)(xs:List Int):eI D (λW=>fQ W base v xs):=(eI.ownsRow _ _ _ _ _ _ _).and (eI.pure _ _)
theorem eI.size(D n:Nat):eI D (λW=>n<W.heap.size):=λ_ _ _ h hg _=>cZ h hg.size
theorem DW(f:Nat->Bool):∀x∈iR f,x<200:=λx hx=>by grind[iR]
theorem JC(f:Nat->Bool):(iR f).length<=200:=by
 grind[iR]
theorem FJ(args:Array Value)(w:World):(callFunc 185 args).run Tryz.prog w=.ok (.enter 185 args) w:=cQ Tryz.func185 (by rfl) rfl args w
end

section
open Go.RowKit
theorem fD:(Tryz.prog.info? 227).map (·.size)=some 200:=by kernel_rfl
theorem mE:Tryz.zeroCells227=eV λ_=>false:=by rfl
def vF(w:World)(f:Nat->Bool)(e:Ending)(w':World):Prop:=e=.returned (.agg (eV f))/\Below w.heap.size w w'
theorem sB{W:World}{g:Nat}{f:Nat->Bool}(hg:W.heap[g]? =some (jZ f)):(loadVar 227 ⟨g,0,none⟩).run Tryz.prog W=.ok (.agg (eV f)) W:=
 cd (P:=Tryz.prog) W g 227 227 _ (0,0) _ hg bg rfl (by simp[fA,fD])
theorem KP{W:World}{g:Nat}{f:Nat->Bool}(hg:W.heap[g]? =some (jZ f))(j:Nat)(hj:j<200)(b:Bool):(W.setCell ⟨g,j,none⟩ (.bool b)).heap[g]? =some (jZ λk=>if k=j then b else f k):=by
 rw[aO _ _ _ _ _ _ hg,gj _ _ hj]
theorem mC{W:World}{g:Nat}{f:Nat->Bool}(hg:W.heap[g]? =some (jZ f))(j:Nat)(hj:j<200):W.cell? ⟨g,j,none⟩=some (.bool (f j)):=by rw[bd _ _ _ _ _ _ hg,nJ _ _ hj]
theorem rW{W:World}{g:Nat}{f:Nat->Bool}(hg:W.heap[g]? =some (jZ f))(j:Nat):W.frozen? ⟨g,j,none⟩=false:=dg _ _ _ _ _ hg
theorem eT{W:World}{g:Nat}{o:Obj}(h:W.heap[g]? =some o):g<W.heap.size:=(am.1 h).1
theorem XQ(f:Nat->Bool)(b:Nat):(λk=>if k=b then false else f k)=vQ f b:=by
 grind[vQ]
theorem SV(f:Nat->Bool)(b:Nat)(hb:b<200)(w:World):Calls Tryz.prog 174 #[.agg (eV f),.int .i64 (b:Int)] w (vF w (vQ f b)):=by
 go_enter Tryz.func174,Tryz.ntmps174
 go_upto_region 1 with (fail)
 obtain⟨W,hW⟩:∃W,W=(w.alloc (jZ f)).alloc (.cells Tryz.zeroCells227 227):=⟨_,rfl⟩
 rw[<-hW]
 have hs:W.heap[w.heap.size]? =some (jZ f):=by grind[Below.heap_alloc,heap_alloc_new]
 have hr:W.heap[w.heap.size+1]? =some (jZ λ_=>false):=by rw[hW,fM _ _ _ (by simp),mE]
 have hB:Below w.heap.size w W:=by rw[hW];exact(eD _ _).alloc (by simp) _
 clear hW
 have hc:=mC hs b hb
 have hf:=rW hs b
 have hs2:=KP hs b hb false
 rw[XQ] at hs2
 have hr2:=(fB (fL W w.heap.size b (.bool false)) hr (by simp))
 have hB2:=hB.setCell (p:=⟨w.heap.size,b,none⟩) (aw _) (.bool false)
 have HS2:=ac hs2
 have HR2:=ac hr2
 have HB2:=ac hB2
 go_wp2_with (first
  |(refine ay rfl 227 _ rfl w.heap.size rfl 227 _ (0,0) _ HS2.out bg rfl (by rfl) ?_)
  |(refine aU rfl 227 _ _ rfl (w.heap.size+1) (eV (vQ f b)) rfl rfl 227 _ HR2.out (by exact fD) rfl (lD _) ?_))
 exact aD (v:=.agg (eV (vQ f b))) (by simp[results,Tryz.results174,asAddr,Act.put,sB (aG _ _ _ _ _ _ HR2.out)]) rfl ⟨rfl,aA HB2.out (by omega) _⟩
theorem lm(xs:List Int)(k:Nat)(hk:k<xs.length)(h0:0<=xs.getD k 0)(h1:xs.getD k 0<200):(λj=>if j=(xs.getD k 0).toNat then true else ofS (xs.take k) j)=ofS (xs.take (k+1)):=by
 grind[DF,ofS]
theorem NK(xs:List Int)(k:Nat)(hk:k<xs.length)(h:xs.getD k 0<0\/200<=xs.getD k 0):ofS (xs.take k)=ofS (xs.take (k+1)):=by
 grind[DF,ofS]
theorem xV{W:World}{g:Nat}{f h:Nat->Bool}{j:Nat}{b:Bool}(hg:W.heap[g]? =some (jZ f))(hj:j<200)(e:(λk=>if k=j then b else f k)=h):(W.setCell ⟨g,j,none⟩ (.bool b)).heap[g]? =some (jZ h):=by grind[KP]
theorem nw(a:Option Addr)(n c:Nat)(xs:List Int)(w:World)(h:fR w a n xs):Calls Tryz.prog 167 #[.slice a n c] w (vF w (ofS xs)):=by
 have HL:=ac h.1
 have hn:=h.2.1
 have H:=ac h
 clear h
 go_enter Tryz.func167,Tryz.ntmps167
 go_wp2
 go_loopw [4,7] (λ_ i wr=>∃(k:Nat),k<=n/\i=.int .i64 k/\Hid (wr.heap[w.heap.size]? =some (jZ (ofS (xs.take k))))/\Hid (Below w.heap.size w wr)) (λ_ i _=>n-(intOf i).toNat)
 case atStart=>exact⟨0,by omega,rfl,by rw[Hid,ai,mE];rfl,eD _ _⟩
 case round=>
  obtain⟨k,hk,rfl,HS,HB⟩:=hrel;by_cases hlt:k<n
  .obtain⟨b,o,rfl,hc,hw1,hw2⟩:=(H.out.ext HB.out).2.2 k hlt;have hkx:k<xs.length:=by rw[HL.out];omega
   by_cases h0:0<=xs.getD k 0
   .by_cases h1:xs.getD k 0<200
    .have hx:(xs.getD k 0).toNat<200:=by omega
     have hcell:=mC HS.out _ hx;have hfr:=rW HS.out (xs.getD k 0).toNat;have HS2:=ac (xV HS.out hx (lm xs k hkx h0 h1));generalize xs.getD k 0=x at *;generalize ofS (xs.take k) x.toNat=bb at *;go_wp2
     go_roundw
     case rel=>exact⟨k+1,by omega,by go_num,HS2,HB.out.setCell (aw _) _⟩
     case measure=>simp[intOf];omega
    .have HS2:Hid (wr.heap[w.heap.size]? =some (jZ (ofS (xs.take (k+1))))):=by rw[Hid,<-NK xs k hkx (.inr (by omega))];exact HS.out
     generalize xs.getD k 0=x at *;go_wp2
     go_roundw
     case rel=>exact⟨k+1,by omega,by go_num,HS2,HB⟩
     case measure=>simp[intOf];omega
   .have HS2:Hid (wr.heap[w.heap.size]? =some (jZ (ofS (xs.take (k+1))))):=by rw[Hid,<-NK xs k hkx (.inl (by omega))];exact HS.out
    generalize xs.getD k 0=x at *;go_wp2
    go_roundw
    case rel=>exact⟨k+1,by omega,by go_num,HS2,HB⟩
    case measure=>simp[intOf];omega
  .have HT:Hid (xs.take k=xs):=bF (by rw[HL.out];omega);have HSx:Hid (wr.heap[w.heap.size]? =some (jZ (ofS xs))):=by have:=HS.out;rwa [HT.out] at this
   go_wp2_with (first
    |(refine ay rfl 227 _ rfl w.heap.size rfl 227 _ (0,0) _ HSx.out bg rfl (by rw[fA];exact fD) ?_)
    |(refine aU rfl 227 _ _ rfl w.heap.size (eV (ofS xs)) rfl rfl 227 _ HSx.out (by rw[fA];exact fD) rfl (lD _) ?_))
   exact aD (v:=.agg (eV (ofS xs))) (by simp[results,Tryz.results167,asAddr,Act.put,sB (aG _ _ _ _ _ _ HSx.out)]) rfl ⟨rfl,aA HB.out (by omega) _⟩
def DM(w:World)(a:Option Addr)(n:Nat)(L:List (List Nat)):Prop:=
 L.length=n/\n<=1000/\∀k xs,L[k]? =some xs->∃b o ra rc,a=some ⟨b,o,none⟩/\w.cell? ⟨b,o+k,none⟩=some (.slice ra xs.length rc)/\fR w ra xs.length (eR xs)
theorem DM.ext{w w':World}{a:Option Addr}{n:Nat}{L:List (List Nat)}(h:DM w a n L)(hb:Below w.heap.size w w'):DM w' a n L:=
 ⟨h.1,h.2.1,λk xs hx=>by
  obtain⟨b,o,ra,rc,e,hc,hi⟩:=h.2.2 k xs hx
  exact⟨b,o,ra,rc,e,eN hb hc,hi.ext hb⟩⟩
structure lX where
 pa:Option Addr
 pn:Nat
 pc:Nat
 ba:Option Addr
 bn:Nat
 bc:Nat
 ta:Option Addr
 tc:Nat
 fa:Option Addr
 fc:Nat
abbrev gX(d:lX):Value:=.agg #[.slice d.pa d.pn d.pc,.slice d.ba d.bn d.bc,.slice d.ta d.bn d.tc,.slice d.fa d.bn d.fc]
abbrev oD(d:lX):Obj:=.cells #[.slice d.pa d.pn d.pc,.slice d.ba d.bn d.bc,.slice d.ta d.bn d.tc,.slice d.fa d.bn d.fc] 201
def uB(ts:List fC):List (List Nat):=(List.range ts.length).map (nx ts)
def qJ(ts:List fC):List (List Nat):=(List.range ts.length).map (pv ts)
def lP(w:World)(d:lX)(ts:List fC):Prop:=ts.length=d.bn/\d.bn<=200/\DM w d.ta d.bn (uB ts)/\DM w d.fa d.bn (qJ ts)
theorem lP.ext{w w':World}{d:lX}{ts:List fC}(h:lP w d ts)(hb:Below w.heap.size w w'):lP w' d ts:=⟨h.1,h.2.1,h.2.2.1.ext hb,h.2.2.2.ext hb⟩
theorem IF(d:lX)(hd:d.bn<=200)(w:World):Calls Tryz.prog 155 #[gX d] w (vF w (fV d.bn)):=by
 go_enter Tryz.func155,Tryz.ntmps155
 go_wp2
 go_loopw [3,8] (λ_ i wr=>∃(k:Nat),k<=d.bn/\i=.int .i64 k/\Hid (wr.heap[w.heap.size+1]? =some (jZ (fV k)))/\Hid (Below w.heap.size w wr)) (λ_ i _=>d.bn-(intOf i).toNat)
 case atStart=>exact⟨0,by omega,rfl,by rw[Hid,fM _ _ _ (by simp),mE];rfl,(eD _ _).alloc (by simp) _⟩
 case round=>
  obtain⟨k,hk,rfl,HS,HB⟩:=hrel;by_cases hlt:k<d.bn
  .have hcell:=mC HS.out k (by omega);have hfr:=rW HS.out k;have HS2:=ac (xV (h:=fV (k+1)) (b:=true) HS.out (show k<200 by omega) (by grind[fV]));generalize fV k k=bb at *;go_wp2
   go_roundw
   case rel=>exact⟨k+1,by omega,by go_num,HS2,HB.out.setCell (by simp) _⟩
   case measure=>simp[intOf];omega
  .obtain rfl:k=d.bn:=by omega
   go_wp2_with (first
    |(refine ay rfl 227 _ rfl (w.heap.size+1) rfl 227 _ (0,0) _ HS.out bg rfl (by rfl) ?_)
    |(refine aU rfl 227 _ _ rfl (w.heap.size+1) (eV (fV d.bn)) rfl rfl 227 _ HS.out (by exact fD) rfl (lD _) ?_))
   exact aD (v:=.agg (eV (fV d.bn))) (by simp[results,Tryz.results155,asAddr,Act.put,sB (aG _ _ _ _ _ _ HS.out)]) rfl ⟨rfl,aA HB.out (by omega) _⟩
end
end Go.Proofs.YtchdkjenhppleaaGreat
