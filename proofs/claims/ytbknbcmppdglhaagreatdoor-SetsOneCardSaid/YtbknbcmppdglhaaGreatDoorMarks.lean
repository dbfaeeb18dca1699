/-
 (*sets.collector).calls as an iterator;what block$1 asks;slices.Clone,DeleteFunc of what it asks.
-/
import Derived.Test.YtbknbcmppdglhaaGreatDoorA0
import Derived.Test.YtbknbcmppdglhaaGreatDoorUF
import Derived.Test.YtbknbcmppdglhaaGreatDoorER
import Derived.Deep.LoopGhost
import Derived.Lib.SliceRun
import Derived.Test.YtbknbcmppdglhaaGreatDoorOwnR
import Derived.RangeFuncNested
import Derived.RangeFuncLeaves
namespace Go.Proofs.YtbknbcmppdglhaaGreatDoor
set_option linter.unusedSimpArgs false
set_option linter.unusedVariables false
set_option linter.unusedSectionVars false
set_option maxRecDepth 100000
set_option maxHeartbeats 40000000
section
open Go.RowKit Go.Shelf
attribute [local go_sem] Oper.semAt_some iF gH gS fX
def kM:Nat->List lP->List (Nat×lP)
 |_,[]=> []
 |k,r :: l=>if r.d.op=13 then (k,r) :: kM (k+1) l else kM (k+1) l
theorem MR{rs:List lP}{k:Nat}{r:lP}(h:rs[k]? =some r):kM k (rs.drop k)=if r.d.op=13 then (k,r) :: kM (k+1) (rs.drop (k+1)) else kM (k+1) (rs.drop (k+1)):=by
 obtain⟨hl,he⟩:=aE.1 h
 rw[cn hl,he]
 rfl
theorem XZ(args:Array Value)(w:World):(callFunc 233 args).run Tryz.prog w=.ok (.enter 233 args) w:=dK Tryz.func233 (by kernel_rfl) rfl args w
theorem ro(C:Nat)(b:Nat)(w:World):Calls Tryz.prog 168 #[.pointer (some ⟨C,0,none⟩),.int .i64 b] w λe w'=>e=.returned (.func (.func 233) #[] #[.pointer (some ⟨w.heap.size,0,none⟩),.pointer (some ⟨w.heap.size+1,0,none⟩)])/\w'=(w.alloc (.cells #[.pointer (some ⟨C,0,none⟩)] 75)).alloc (.cells #[.int .i64 b] 3):=by
 go_enter Tryz.func168,Tryz.ntmps168
 go_wp2
 go_ret
 exact⟨rfl,rfl⟩
abbrev Bn(h:CI)(bs:List iA)(C G b:Nat)(W:World):Prop:=W.heap[G]? =some (.cells #[.pointer (some ⟨C,0,none⟩)] 75 (0,0))/\W.heap[G+1]? =some (.cells #[.int .i64 (b:Int)] 3 (0,0))/\W.cell? ⟨C,4,none⟩=some (.slice h.ba h.bn h.bc)/\lY W h.ba h.bn bs
theorem YJ(h:CI)(bs:List iA)(C G b:Nat)(x:iA)(hx:bs[b]? =some x):uU Tryz.prog 233 #[.pointer (some ⟨G,0,none⟩),.pointer (some ⟨G+1,0,none⟩)] uZ (kM 0 x.rs) (Bn h bs C G b):=by
 intro lp K Kx W hK hKx hInv hY h0
 refine eK Tryz.func233 rfl trivial ?_ rfl
 simp only[Tryz.ntmps233,bd,bk,bx,Nat.reduceAdd,Nat.reduceSub,bF,bG,bV,bN,bD,bU]
 have HKE:=ac hK
 have HY:=ac hY
 have HI:=ac hInv
 have H0:=ac h0
 have HX:=ac hx
 obtain⟨i1,i2,i3,i4⟩:=hInv _ _ h0
 have hbn:b<h.bn:=by
  have:=(aE.1 hx).1;rw[i4.1.1] at this;exact this
 obtain⟨r0,bb,ob,hr0,hok0,hba,c0,c1,c2,c3,c4⟩:=mJ i4 hbn
 rw[hx] at hr0
 cases hr0
 have HN:Hid (x.h.n<=17592186044416):=hok0.2.1.2.1
 have HRL:Hid (x.rs.length=x.h.n):=hok0.2.1.1
 have hn1:Nonempty (fL W):=⟨⟨W,ag _ _⟩⟩
 have g1:∀n:fL W,n.val.cell? ⟨G,0,none⟩=some (.pointer (some ⟨C,0,none⟩)):=λn=>fL.cell (cR i1 rfl) n
 have g2:∀n:fL W,n.val.cell? ⟨G+1,0,none⟩=some (.int .i64 (b:Int)):=λn=>fL.cell (cR i2 rfl) n
 have g3:∀n:fL W,n.val.cell? ⟨C,4,none⟩=some (.slice (some ⟨bb,ob,none⟩) h.bn h.bc):=λn=>fL.cell (by rw[<-hba];exact i3) n
 have g4:∀n:fL W,C<n.val.heap.size:=λn=>bw (bA _ _ i3) n.ext.size
 have g5:∀n:fL W,n.val.cell? ⟨bb,ob+b*5,none⟩=some (.slice x.h.ia x.h.n x.h.c):=λn=>fL.cell c0 n
 have g6:∀n:fL W,bb<n.val.heap.size:=λn=>bw (bA _ _ c0) n.ext.size
 clear hY hInv hK hKx h0 hx i1 i2 i3 i4 hok0 hba c0 c1 c2 c3 c4
 gi_upto_region 0 with (fail)
 refine dy.2 ?_
 refine jH (by kernel_rfl) (by kernel_rfl) ?_
 repeat (go_big_quiet_step (fail))
 refine aq ?_
 rintro _ ⟨n0,rfl⟩
 have HK0:=ac (HKE.out _ _ _ H0.out n0.ext)
 clear g1 g2 g3 g4 g5 g6 hn1 H0
 generalize n0.val=w0 at*
 gi_wp2
 gi_loopw [4,5,16] (λ_ _ q wr=>∃k:Nat,q=.int .i64 k/\k<=x.h.n/\Hid (K (kM k (x.rs.drop k)) wr)) (λ_ _ q _=>x.h.n-(intOf q).toNat)
 case atStart=>exact⟨0,rfl,by omega,HK0⟩
 case round=>
  obtain⟨k,rfl,hk,HK⟩:=hrel;clear HK0;have hE:tC wr x.h.ia x.h.n x.rs:=((HI.out _ _ HK.out).2.2.2.2 x (aK HX.out)).2;by_cases hlt:k<x.h.n
  .obtain⟨r1,bi,oi,hr1,hok1,hia,c0,c1,c2,c3,c4,c5,c6,c7⟩:=hE.cells hlt;have hst:=MR hr1;rw[hst] at HK;have HR1:=ac hr1;have hn:=HN.out;rw[hia] at *;by_cases hop:r1.d.op=13
   .rw[aM hop] at HK;have hopb:(r1.d.op==13)=true:=by simpa using hop
    clear hop;have hka:=HKE.out _ _ _ HK.out (fD wr (vR r1.d r1.aa r1.na r1.ca));obtain⟨fn,tmps,assign,body,hy,hR⟩:=HY.out ((k,r1) :: kM (k+1) (x.rs.drop (k+1))) (k,r1) _ rfl hka;unfold uZ at hy;have hT:nxL ((k,r1) :: kM (k+1) (x.rs.drop (k+1))) (k,r1)=kM (k+1) (x.rs.drop (k+1)):=rfl;rw[hT] at hR;have HR2:=ac hR;clear hE hr1 hok1 hia hst hka hR hT
    gi_wp2
    refine HR2.out.mono ?_;rintro e W' (⟨rfl,hJ'⟩|⟨rfl,hX'⟩)
    .have HK1:=ac hJ';clear hJ' hy HR2
     gi_wp2
     go_roundw
     case rel=>exact⟨k+1,by go_num,by omega,HK1⟩
     case measure=>simp[intOf];omega
    .have HX2:=ac hX';clear hX' hy HR2
     gi_wp2
     exact aR (v:=.tuple #[]) (by simp[results,Tryz.results233,go_sem]) rfl ⟨⟨_,rfl⟩,Or.inr HX2.out⟩
   .rw[az hop] at HK;have hopb:(r1.d.op==13)=false:=by simpa using hop
    clear hE hr1 hok1 hia hst
    gi_wp2
    exact⟨⟨k+1,by go_num,by omega,HKE.out _ _ _ HK.out (fD _ _)⟩,by simp[intOf];omega⟩
  .obtain rfl:k=x.h.n:=by omega
   have hd:kM x.h.n (x.rs.drop x.h.n)= []:=by rw[dx (by rw[HRL.out];exact aj _)];rfl
   rw[hd] at HK;clear hE hd
   gi_wp2
   go_end0
   exact⟨⟨_,rfl⟩,Or.inl ⟨_,rfl,HK.out⟩⟩
end

section
open Go.RowKit
section
variable {α:Type}
theorem qi(p:α->Bool)(l:List α):(pF p l= -1/\∀y∈l,p y=false)\/∃(k:Nat) (x:α),pF p l=k/\l[k]? =some x/\p x=true/\∀j y,j<k->l[j]? =some y->p y=false:=by
 induction l with
 |nil=>exact Or.inl ⟨rfl,by simp⟩
 |cons y l ih=>
  by_cases hy:p y=true
  .exact Or.inr ⟨0,y,by grind[pF],rfl,hy,λj z hj=>absurd hj (by omega)⟩
  .rcases ih with ⟨h1,h2⟩|⟨k,x,h1,h2,h3,h4⟩
   .grind[pF]
   .refine Or.inr ⟨k+1,x,?_,by grind,h3,λj z hj hz=>?_⟩
    .simp_all[pF,az]
    grind
def tD(p:α->Bool)(rs:List α)(i j:Nat)(L:List α):Prop:=
 i<j/\j<=rs.length/\L.length=rs.length/\L.take i=(rs.take j).filter (λx=> !p x)/\∀k,j<=k->L[k]? =rs[k]?
theorem tD.start{p:α->Bool}{rs:List α}{k:Nat}{x:α}(hx:rs[k]? =some x)(hp:p x=true)(hno:∀j y,j<k->rs[j]? =some y->p y=false):tD p rs k (k+1) rs:=by
 have hk:=(aE.1 hx).1
 refine⟨by omega,by omega,rfl,?_,λ_ _=>rfl⟩
 rw[bL,hx,bB]
 grind[List.filter_eq_self,List.mem_iff_getElem]
theorem tD.keep{p:α->Bool}{rs L:List α}{i j:Nat}{x:α}(h:tD p rs i j L)(hx:rs[j]? =some x)(hp:p x=false):tD p rs (i+1) (j+1) (L.set i x):=by
 obtain⟨h1,h2,h3,h4,h5⟩:=h
 have hj:=(aE.1 hx).1
 refine⟨by omega,by omega,by grind,?_,λk hk=>?_⟩
 .grind[List.take_add_one,List.take_set_of_le]
 grind
theorem tD.skip{p:α->Bool}{rs L:List α}{i j:Nat}{x:α}(h:tD p rs i j L)(hx:rs[j]? =some x)(hp:p x=true):tD p rs i (j+1) L:=by
 obtain⟨h1,h2,h3,h4,h5⟩:=h
 have hj:=(aE.1 hx).1
 refine⟨by omega,by omega,h3,?_,λk hk=>h5 k (by omega)⟩
 grind[List.take_add_one]
theorem tD.done{p:α->Bool}{rs L:List α}{i:Nat}(h:tD p rs i rs.length L):L.take i=rs.filter (λx=> !p x):=by
 rw[h.2.2.2.1,List.take_length]
end
theorem XG{w:World}{base:Nat}{e:TypeId}{size g n c:Nat}{xs:List Value}(h:w.ownsRow base e size (.slice (some ⟨g,0,none⟩) n c) n xs):n<=c:=by
 rcases h.2 with ⟨h0,_⟩|⟨g',cap,cur,hv,_,_,hnc,_⟩
 .omega
 grind
theorem NG{w:World}{base:Nat}{e:TypeId}{size g n c:Nat}{xs:List Value}(h:w.ownsRow base e size (.slice (some ⟨g,0,none⟩) n c) n xs)(i:Nat)(hi:i<=n):w.ownsRow base e size (.slice (some ⟨g,0,none⟩) i c) i (xs.take (i*size)):=by
 have hm:i*size<=n*size:=ef _ hi
 refine⟨by rw[dU,h.1];omega,?_⟩
 rcases h.2 with ⟨h0,_⟩|⟨g',cap,cur,hv,hb,hg,hnc,hcm,hcs,ht⟩
 .grind
 .obtain⟨rfl,rfl⟩:=hv;exact Or.inr ⟨g,c,cur,rfl,hb,hg,by omega,hcm,hcs,by grind⟩
theorem AB{base:Nat}{e:TypeId}{size g i c:Nat}{xs:List Value}:∀(vs:List Value) (o:Nat) (w:World),w.ownsRow base e size (.slice (some ⟨g,0,none⟩) i c) i xs->i*size<=o->(w.setCells g o vs).ownsRow base e size (.slice (some ⟨g,0,none⟩) i c) i xs
 | [],_,_,h,_=>h
 |v :: r,o,w,h,ho=>by
  have h1:=(h.stored o v).1;rw[List.set_eq_of_length_le (by rw[h.1];omega)] at h1;exact AB r (o+1) _ h1 (by omega)
theorem SL{w:World}{base:Nat}{e:TypeId}{size g n c:Nat}{xs:List Value}(h:w.ownsRow base e size (.slice (some ⟨g,0,none⟩) n c) n xs)(i:Nat)(hi:i<=n)(vs:List Value):(w.setCells g (i*size) vs).ownsRow base e size (.slice (some ⟨g,0,none⟩) i c) i (xs.take (i*size)):=
 AB vs _ w (NG h i hi) (aj _)
theorem MJ{P:Program}(w:World)(t e ty:TypeId)(z:Value)(ht:P.underlying t=some (.slice e))(hv:∀w,(zeroValue e).run P w=.ok z w)(size:Nat)(hz:z.cells.size=size)(h1:∀u∈z.cells.toList,u.oneCell'=true)(b o n c:Nat)(hn:0<n)
  (hc:∀j,j<n*size->(w.cell? ⟨b,o+j,none⟩).isSome=true) (hf:∀j,j<n*size->w.frozen? ⟨b,o+j,none⟩=false):
  ∃vs:List Value,(Builtin.clear_ #[t] ty #[.slice (some ⟨b,o,none⟩) n c]).run P w=.ok (.tuple #[]) (w.setCells b o vs):=by
 refine⟨(Builtin.zeroCells z.cells n).toList,?_⟩
 have hl:(Builtin.zeroCells z.cells n).toList.length=n*size:=by simp[Builtin.zeroCells,hz]
 have hst:=run_storeCells_cells (P:=P) b o (Builtin.zeroCells z.cells n).toList 0 w (by grind) (by grind) (by
  intro v hv';simp only[Builtin.zeroCells,Array.toList_map,a8,Array.toList_range,aQ] at hv'
  grind[Nat.mod_lt])
 obtain⟨m,rfl⟩:∃m,n=m+1:=⟨n-1,by omega⟩
 simp[Builtin.clear_,bT ht,hv,hst]
def IX(dst:Int)(y:Int):Bool:=decide (y∈[dst])
theorem LT(args:Array Value)(w:World):(callFunc 169 args).run Tryz.prog w=.ok (.enter 169 args) w:=dK Tryz.func169 (by rfl) rfl args w
theorem ym(P:Nat)(dst y:Int)(w:World)(hc:w.cell? ⟨P,1,none⟩=some (.int .i64 dst)):Calls Tryz.prog 169 (#[.int .i64 y]++ #[.pointer (some ⟨P,0,none⟩)]) w λe w'=>e=.returned (.bool (IX dst y))/\Below w.heap.size w w':=by
 have HQ:Hid ((y==dst)=IX dst y):=by unfold IX;rw[Hid,cS];simp
 go_wp2
 go_ret
 exact⟨bh (λb=>Ending.returned (.bool b)) HQ.out,ag _ _⟩
abbrev JO(w:World)(B:Nat)(v:Value)(xs:List Int):Prop:=w.ownsRow B 3 1 v xs.length (fP xs)
def A9(B:Nat)(xs:List Int)(p:Int->Bool)(v:Value)(w:World)(e:Ending)(w':World):Prop:=
 ∃v',e=.returned v'/\JO w' B v' (xs.filter λx=> !p x)/\Chg (λk=>v.ownBlock=some k) w w'
theorem SO(l:List Int)(i:Nat):(fP l).take (i*1)=fP (l.take i):=by simp[fP]
theorem iw{l:List Int}{k:Nat}{x:Int}(h:l[k]? =some x):(fP l)[k]? =some (.int .i64 x):=by grind[fP]
theorem SX(B P:Nat)(dst:Int)(g c:Nat)(rs:List Int)(w:World)
  (hown:gD w B (.slice (some ⟨g,0,none⟩) rs.length c) rs) (hn:rs.length<=1000000) (hB:B<=w.heap.size) (hP:P<B) (hd:w.cell? ⟨P,1,none⟩=some (.int .i64 dst)):
  Calls Tryz.prog 170 #[.slice (some ⟨g,0,none⟩) rs.length c,.func (.func 169) #[] #[.pointer (some ⟨P,0,none⟩)]] w (A9 B rs (IX dst) (.slice (some ⟨g,0,none⟩) rs.length c) w):=by
 have hgB:B<=g/\g<w.heap.size:=hown.1.lt g rfl
 have hp:∀(x:Int) (W:World),Below B w W->Calls Tryz.prog 169 (#[.int .i64 x]++ #[.pointer (some ⟨P,0,none⟩)]) W λe W'=>e=.returned (.bool (IX dst x))/\Below W.heap.size W W':=λx W hb=>by
  refine ym P dst x W ?_;rw[<-hd];have:=hb.block P hP;unfold World.cell?;simp only[this]
 have hI:=vU 169 _ LT (IX dst) (some ⟨g,0,none⟩) rs.length c rs w (λr W _ hb=>hp r W (hb.mono hB)) hown.ints
 have HI:=ac hI
 have HO:=ac hown.1
 have HIN:=ac hown.2.1
 have HP:=ac hp
 clear hI hown hp hd
 obtain⟨n,HN⟩:∃n,Hid (rs.length=n):=⟨_,rfl⟩
 rcases qi (IX dst) rs with ⟨hx,hall⟩|⟨k,x,hx,hk,hpx,hno⟩
 .have HE:Hid (rs.filter (λx=> !IX dst x)=rs):=by
   rw[Hid,eS];intro y hy;simp[hall y hy]
  have HX:=ac hx;clear hx hall
  go_enter Tryz.func170,Tryz.ntmps170
  go_wp2_with (go_at_call 234;refine HI.out.mono ?_;rw[HX.out];rintro e w1 ⟨rfl,hb1⟩;have HB1:=ac hb1;clear hb1)
  go_ret
  refine⟨_,rfl,?_,(Chg.refl _ _).of_ext HB1.out⟩;rw[HE.out];exact iL HO.out ((Chg.refl (λ_=>False) w).of_ext HB1.out) (λ_ _ h=>h)
 .have HX:=ac hx;have HK:=ac (tD.start hk hpx hno);have hkl:=(aE.1 hk).1;clear hx hk hpx hno;have hne1:((k:Int)== -1)=false:=eT.2 (by omega);obtain⟨n,hnn⟩:∃n,rs.length=n:=⟨_,rfl⟩
  have HN:=ac hnn;have hnc:rs.length<=c:=XG HO.out;rw[hnn] at hn hkl hnc;have hI2:=HI.out;rw[hnn] at hI2;have HI:=ac hI2;rw[hnn];clear hnn hI2
  go_enter Tryz.func170,Tryz.ntmps170
  go_wp2_with (go_at_call 234;refine HI.out.mono ?_;rw[HX.out];rintro e w1 ⟨rfl,hb1⟩;have HB1:=ac hb1;clear hb1)
  go_loopg [5,6,7] n (λgg s5 s6 _ wr=>∃(i j:Nat) (L:List Int),s5=.int .i64 i/\s6=.int .i64 j/\j<=n/\i<j/\n-j<=gg/\Hid (JO wr B (.slice (some ⟨g,0,none⟩) L.length c) L)/\Hid (tD (IX dst) rs i j L)/\Hid (Chg (λk=>k=g) w wr))
  case atStart=>
   refine⟨k,k+1,rs,rfl,by go_num,by omega,by omega,by omega,?_,HK,(Chg.refl _ _).of_ext HB1.out⟩;exact iL HO.out ((Chg.refl (λ_=>False) w).of_ext HB1.out) (λ_ _ h=>h)
  case round=>
   obtain⟨i,j,L,rfl,rfl,hj,hij,hgg,HR,HA,HC⟩:=hrel;have HLn:Hid (L.length=n):=HA.out.2.2.1.trans HN.out;by_cases hlt:j<n
   .have hjr:j<rs.length:=by rw[HN.out];exact hlt
    obtain⟨x,hx⟩:∃x,rs[j]? =some x:=⟨rs[j],ah hjr⟩
    have hxL:L[j]? =some x:=(HA.out.2.2.2.2 j (aj _)).trans hx;have c0:wr.cell? ⟨g,j,none⟩=some (.int .i64 x):=by
     rw[dH HR.out j (by rw[HLn.out];omega)];exact iw hxL
    have c1:∃v,wr.cell? ⟨g,i,none⟩=some v:=by
     rw[dH HR.out i (by rw[HLn.out];omega)];exact⟨_,ah (by simp[fP,HLn.out];omega)⟩
    obtain⟨v1,c1⟩:=c1;have c2:=HR.out.frozenAt i;have HX:=ac hx;have HCALL:=ac (HP.out x wr (HC.out.below hB (λk hk=>by rw[hk];exact hgB.1)));clear hx hxL;cases hq:IX dst x with
    |true=>
     rw[hq] at HCALL
     go_wp2_with (go_at_call 169;refine HCALL.out.mono ?_;rintro e w2 ⟨rfl,hb2⟩;have HB2:=ac hb2;clear hb2)
     go_roundg (n-(j+1))
     case measure=>omega
     case rel=>exact⟨i,j+1,L,rfl,by go_num,by omega,by omega,aj _,iL HR.out ((Chg.refl (λ_=>False) _).of_ext HB2.out) (λ_ _ h=>h),HA.out.skip HX.out hq,HC.out.of_ext HB2.out⟩
    |false=>
     rw[hq] at HCALL
     go_wp2_with (go_at_call 169;refine HCALL.out.mono ?_;rintro e w2 ⟨rfl,hb2⟩;have HB2:=ac hb2;have e1:=fZ hb2 c1;have HR2:Hid (JO w2 B (.slice (some ⟨g,0,none⟩) L.length c) L):=(iL HR.out ((Chg.refl (λ_=>False) _).of_ext hb2) (λ_ _ h=>h));have e2:=HR2.out.frozenAt i;clear hb2)
     go_roundg (n-(j+1))
     case measure=>omega
     case rel=>
      have hset:=(HR2.out.stored i (.int .i64 x)).1;refine⟨i+1,j+1,L.set i x,by go_num,by go_num,by omega,by omega,aj _,?_,HA.out.keep HX.out hq,?_⟩
      .rw[Hid,eE];unfold JO;rw[eE];have:(fP L).set i (.int .i64 x)=fP (L.set i x):=by simp[fP,List.map_set]
       rw[<-this];exact hset
      .exact(HC.out.of_ext HB2.out).setCell (Or.inl rfl) _
   .obtain rfl:j=n:=by omega
    obtain⟨vs,hcl⟩:=MJ (P:=Tryz.prog) wr 22 3 0 _ be NW 1 rfl (by simp[Value.cells,Value.oneCell']) g i (j-i) (c-i) (by omega) (λq hq=>by
     rw[dH HR.out (i+q) (by rw[HLn.out];omega)];rw[ah (by simp[fP,HLn.out];omega)]
     rfl) (λq _=>HR.out.frozenAt _)
    go_wp2
    go_ret
    have ht:=SL HR.out i (by rw[HLn.out];omega) vs;have hA:=HA.out;rw[<-HN.out] at hA;have hd:=hA.done;have hli:(L.take i).length=i:=by rw[dU,HLn.out];omega
    rw[SO] at ht;rw[hd] at ht;refine⟨_,rfl,?_,(lC (S:=λk=>k=g) rfl vs _ _ HC.out).mono (λk hk=>by rw[hk];rfl)⟩;rw[hd] at hli;unfold JO;rw[hli];rw[fm] at ht;exact ht
theorem YD(B P:Nat)(dst:Int)(v:Value)(xs:List Int)(w:World)(hown:gD w B v xs)(hn:xs.length<=1000000)(hB:B<=w.heap.size)(hP:P<B)(hd:w.cell? ⟨P,1,none⟩=some (.int .i64 dst)):
  Calls Tryz.prog 170 #[v,.func (.func 169) #[] #[.pointer (some ⟨P,0,none⟩)]] w λe w'=>∃v',e=.returned v'/\gD w' B v' (qP xs [dst])/\Below B w w':=by
 rcases id hown.1.2 with ⟨rfl,h0⟩|⟨g,cap,cur,rfl,hb,hh,_⟩
 .have h0:xs= []:=da h0;subst h0;have HI:=ac (vU 169 #[.pointer (some ⟨P,0,none⟩)] LT (IX dst) none 0 0 [] w (λr W h=>by cases h) ⟨rfl,by omega,λk h=>by omega⟩)
  go_enter Tryz.func170,Tryz.ntmps170
  go_wp2_with (refine HI.out.mono ?_;rintro e w1 ⟨rfl,hb1⟩;have HB1:=ac hb1)
  go_ret
  exact⟨_,rfl,gD.nil _ _,HB1.out.mono hB⟩
 .have HO:=ac hown;refine(SX B P dst g cap xs w hown hn hB hP hd).mono ?_;rintro e w' ⟨v',rfl,hr,hc⟩;refine⟨v',rfl,⟨hr,λx hx=>HO.out.2.1 x (bI.1 hx).1,by grind[qP]⟩,hc.below hB λk hk=>?_⟩;simp only[Value.ownBlock,aW] at hk;omega
end

section
open Go.RowKit
def CK(w W:World):Prop:=∀(g o:Nat) (v:Value),w.cell? ⟨g,o,none⟩=some v->W.cell? ⟨g,o,none⟩=some v
theorem CK.refl(w:World):CK w w:=λ_ _ _ h=>h
theorem CK.trans{a b c:World}(h:CK a b)(k:CK b c):CK a c:=λg o v x=>k g o v (h g o v x)
theorem CK.ext{w W:World}(h:Below w.heap.size w W):CK w W:=λ_ _ _ x=>fZ h x
theorem CK.map{w W:World}{b:Nat}{p:Int->Prop}(h:jU w b p)(hc:Chg (λj=>j=b) w W):CK w W:=λ_ _ _ x=>yX hc x (h.nocell x)
theorem CK.x{w W:World}(h:CK w W){g o:Nat}{v:Value}(hc:w.cell? ⟨g,o,none⟩=some v)(n:fL W):n.val.cell? ⟨g,o,none⟩=some v:=fZ n.ext (h _ _ _ hc)
theorem CK.l{w W:World}(h:CK w W){g o:Nat}{v:Value}(hc:w.cell? ⟨g,o,none⟩=some v):g<W.heap.size:=bA _ _ (h _ _ _ hc)
theorem CK.xl{w W:World}(h:CK w W){g o:Nat}{v:Value}(hc:w.cell? ⟨g,o,none⟩=some v)(n:fL W):g<n.val.heap.size:=bw (h.l hc) n.ext.size
theorem iJ.ck{w W:World}{a:Option Addr}{n:Nat}{xs:List Int}(h:iJ w a n xs)(k:CK w W):iJ W a n xs:=
 ⟨h.1,h.2.1,λj hj=>let ⟨g,o,e,h3,h4⟩:=h.2.2 j hj;⟨g,o,e,k _ _ _ h3,h4⟩⟩
theorem oR.ck{w W:World}{a:Option Addr}{n:Nat}{f:Nat->List Int}(h:oR w a n f)(k:CK w W):oR W a n f:=λj hj=>
 let ⟨g,o,a',c',e,h1,h2⟩:=h j hj
 ⟨g,o,a',c',e,k _ _ _ h1,h2.ck k⟩
theorem xH.ck{w W:World}{a:Option Addr}{n:Nat}{m:Nat->Nat}{f:Nat->Nat->List Int}(h:xH w a n m f)(k:CK w W):xH W a n m f:=λj hj=>
 let ⟨g,o,a',c',e,h1,h2⟩:=h j hj
 ⟨g,o,a',c',e,k _ _ _ h1,h2.ck k⟩
theorem BI.ck{w W:World}{bs:List BkL}{n:Nat}{h:UC}(hl:BI w bs n h)(k:CK w W):BI W bs n h:=⟨hl.1.ck k,hl.2.1.ck k,hl.2.2.ck k⟩
theorem tI.ck{α:Type}{size:Nat}{cs:α->List Value}{w W:World}{a:Option Addr}{n:Nat}{ls:List α}(h:tI size cs w a n ls)(hs:∀x,(cs x).length=size)(k:CK w W):tI size cs W a n ls:=
 ⟨h.1,h.2.1,λj x hx=>by
  obtain⟨b,o,e,hc⟩:=h.2.2 j x hx;refine⟨b,o,e,λi hi=>?_⟩;have h1:=hc i hi;have h2:(cs x)[i]? =some ((cs x)[i]'(by grind)):=ah _;rw[h2] at h1|-
  exact k _ _ _ h1⟩
theorem tC.ck{w W:World}{a:Option Addr}{n:Nat}{rs:List lP}(h:tC w a n rs)(k:CK w W):tC W a n rs:=
 ⟨h.1.ck VR k,λr hr=>let ⟨h1,h2⟩:=h.2 r hr;⟨h1.ck k,h2⟩⟩
theorem lY.ck{w W:World}{a:Option Addr}{n:Nat}{bs:List iA}(h:lY w a n bs)(k:CK w W):lY W a n bs:=
 ⟨h.1.ck PO k,λb hb=>⟨(h.2 b hb).1,(h.2 b hb).2.ck k⟩⟩
structure CS(w:World)(r d l a:Nat)(R D L A:Int->Prop)(W:World):Prop where
 ck:CK w W
 fr:jU W r R
 fd:jU W d D
 fl:jU W l L
 fa:jU W a A
 ch:Chg (λj=>j=r\/j=d\/j=l\/j=a) w W
def EL(r d l a:Nat):Prop:=r≠d/\r≠l/\r≠a/\d≠l/\d≠a/\l≠a
section
variable {w W W':World} {r d l a:Nat} {R D L A R' D' L' A':Int->Prop}
theorem jU.ne{b g:Nat}{p:Int->Prop}{cs:Array Value}{t:TypeId}{f:Nat×Nat}(h:jU W b p)(hr:W.heap[g]? =some (.cells cs t f)):g≠b:=λe=>by
 obtain⟨L,⟨es,c,h1,_⟩,_⟩:=h
 grind
theorem jU.ext{b:Nat}{p:Int->Prop}(h:jU W b p)(hb:Below W.heap.size W W'):jU W' b p:=h.kept (hb.block b h.lt)
theorem CS.ext(h:CS w r d l a R D L A W)(hb:Below W.heap.size W W'):CS w r d l a R D L A W':=
 ⟨h.ck.trans (CK.ext hb),h.fr.ext hb,h.fd.ext hb,h.fl.ext hb,h.fa.ext hb,h.ch.of_ext hb⟩
theorem CS.addR(h:CS w r d l a R D L A W)(hn:EL r d l a)(hv:jU W' r R')(hg:Chg (λj=>j=r) W W'):CS w r d l a R' D L A W':=by
 obtain⟨h1,h2,h3,h4,h5,h6⟩:=hn
 exact⟨h.ck.trans (CK.map h.fr hg),hv,h.fd.chg hg (by omega),h.fl.chg hg (by omega),h.fa.chg hg (by omega),h.ch.trans (hg.mono λk e=>.inl e)⟩
theorem CS.addD(h:CS w r d l a R D L A W)(hn:EL r d l a)(hv:jU W' d D')(hg:Chg (λj=>j=d) W W'):CS w r d l a R D' L A W':=by
 obtain⟨h1,h2,h3,h4,h5,h6⟩:=hn
 exact⟨h.ck.trans (CK.map h.fd hg),h.fr.chg hg (by omega),hv,h.fl.chg hg (by omega),h.fa.chg hg (by omega),h.ch.trans (hg.mono λk e=>.inr (.inl e))⟩
theorem CS.addL(h:CS w r d l a R D L A W)(hn:EL r d l a)(hv:jU W' l L')(hg:Chg (λj=>j=l) W W'):CS w r d l a R D L' A W':=by
 obtain⟨h1,h2,h3,h4,h5,h6⟩:=hn
 exact⟨h.ck.trans (CK.map h.fl hg),h.fr.chg hg (by omega),h.fd.chg hg (by omega),hv,h.fa.chg hg (by omega),h.ch.trans (hg.mono λk e=>.inr (.inr (.inl e)))⟩
theorem CS.addA(h:CS w r d l a R D L A W)(hn:EL r d l a)(hv:jU W' a A')(hg:Chg (λj=>j=a) W W'):CS w r d l a R D L A' W':=by
 obtain⟨h1,h2,h3,h4,h5,h6⟩:=hn
 exact⟨h.ck.trans (CK.map h.fa hg),h.fr.chg hg (by omega),h.fd.chg hg (by omega),h.fl.chg hg (by omega),hv,h.ch.trans (hg.mono λk e=>.inr (.inr (.inr e)))⟩
theorem CS.congr(h:CS w r d l a R D L A W)(e1:∀y,R y↔R' y)(e2:∀y,D y↔D' y)(e3:∀y,L y↔L' y)(e4:∀y,A y↔A' y):CS w r d l a R' D' L' A' W:=
 ⟨h.ck,h.fr.congr e1,h.fd.congr e2,h.fl.congr e3,h.fa.congr e4,h.ch⟩
theorem fG.vhas(B b:Nat)(p:Int->Prop):fG B (λW=>jU W b p):=fG.ex λL=>(fG.setM B b L).and (fG.pure _ _)
theorem CS.base{w1:World}(h:CS w1 r d l a R D L A W)(hb:Below w.heap.size w w1):CS w r d l a R D L A W:=
 ⟨(CK.ext hb).trans h.ck,h.fr,h.fd,h.fl,h.fa,((Chg.refl _ w).of_ext hb).trans h.ch⟩
theorem wk{b:Nat}{p:Int->Prop}(h:jU W b p)(hg:Chg (λj=>j=b) W W'):gC W W':=λk o hk ho=>
 (hg.block k (au.1 hk).1 λe=>by
   obtain⟨L,⟨es,c,h1,_⟩,_⟩:=h;subst e;rw[hk] at h1;cases h1
   cases ho).trans hk
theorem CS.steady{B:Nat}(hB:w.heap.size<=B):fG B (CS w r d l a R D L A):=λW V row h hg hr=>by
 refine⟨λg o v x=>?_,fG.vhas _ _ _ W V row h.fr hg hr,fG.vhas _ _ _ W V row h.fd hg hr,fG.vhas _ _ _ W V row h.fl hg hr,fG.vhas _ _ _ W V row h.fa hg hr,h.ch.grown hg λk e=>.inr (aT hB (hr k e).1)⟩
 have h1:=h.ck g o v x
 have hl:g<w.heap.size:=bA _ _ x
 rw[<-h1]
 have:=hg.block g (bA _ _ h1) λe=>by grind
 unfold World.cell?
 grind
end
theorem sM{n:Nat}{r:lP}:∀{l:List lP} {k:Nat},(n,r)∈kM k l↔∃j,n=k+j/\l[j]? =some r/\r.d.op=13
 | [],k=>by simp[kM]
 |x :: l,k=>by
  have ih:=sM (n:=n) (r:=r) (l:=l) (k:=k+1);have key:(n,r)∈kM (k+1) l↔∃j,n=k+(j+1)/\(x :: l)[j+1]? =some r/\r.d.op=13:=by
   rw[ih];exact⟨λ⟨j,h1,h2,h3⟩=>⟨j,by omega,by grind,h3⟩,λ⟨j,h1,h2,h3⟩=>⟨j,by omega,by grind,h3⟩⟩
  unfold kM
  split
  .rw[aS,key];constructor
   .rintro(h|⟨j,h1,h2,h3⟩)
    .simp_all
    grind
   grind
  grind
def my(bs:List iA)(b:Nat)(l:List (Nat×lP)):List Int:=l.flatMap λx=>qP (atL (gN bs) b (x.1+1)) [x.2.d.dst]
theorem yr{bs:List iA}{b:Nat}{x:iA}(hx:bs[b]? =some x)(y:Int):y∈my bs b (kM 0 x.rs)↔y∈BO bs b:=by
 have e:qQ bs b=x.rs:=by grind[qQ]
 unfold my BO
 rw[b5,b5,e]
 constructor
 .rintro⟨⟨n,r⟩,h1,h2⟩;obtain⟨j,h3,h4,h5⟩:=sM.1 h1
  grind
 .rintro⟨n,h1,h2⟩;cases hr:x.rs[n]? with
  |none=>grind
  |some r=>
   rw[hr] at h2;simp only at h2
   split at h2
   .rename_i h5
    exact⟨(n,r),sM.2 ⟨n,by omega,hr,h5⟩,h2⟩
   .cases h2
end

section
open Go.RowKit
theorem XF{P:Program}{σ α:Type}{g:Operand}{ps:Array Tmp}{assign body:Code}{Q:Exit->Act->World->Prop}{a:Act}{w:World}{l0:Nat}{r0:Loop}(hl0:w.heap[l0]? =some (.loop r0)){gf:Nat}{lb:Array Value}
  (hg:a.eval g=.func (.func gf) #[] lb) (eg:∀args w,(callFunc gf args).run P w=.ok (.enter gf args) w)
  {enc:α->Array Value} {ok:σ->α->Prop} {nx:σ->α->σ} {s0:σ} {Fin:σ->Prop} {Inv:σ->World->Prop} (hit:m0 P gf lb enc ok nx s0 Fin Inv)
  (hps:∀x,(enc x).size=ps.size)
  (J:σ->World->Prop) (Jx:Code->World->Prop) (A:σ->α->Act->World->Prop)
  (hJ:∀s,fG w.heap.size (J s)) (hJx:∀c,fG w.heap.size (Jx c)) (hA:∀s x a,fG w.heap.size (A s x a)) (hInv:∀s W,J s W->Inv s W)
  (h0:J s0 w)
  (hassign:∀(l:Nat) (s:σ) (x:α) (W:World),ok s x->J s W->
    assign.wpIn (Fence.wide.inRound l) 0 P (Exit.then (λa1 W1=>gC W W1/\J s W1/\A s x a1 W1) (λ_ _ _=>False)) {tmps:=(ps.zip (enc x)).foldl (λt (p,v)=>t.setIfInBounds p v) a.tmps,defers:= []} W)
  (hbody:∀(l:Nat) (s:σ) (x:α) (a1:Act) (W:World),w.heap.size<=l->(∃r,W.heap[l]? =some (.loop r))->ok s x->J s W->A s x a1 W->
    body.wpIn (Fence.wide.inRound l) 0 P (iQ (λW'=>gC W W'/\J (nx s x) W') (λc W'=>gC W W'/\Jx c W')) a1 W)
  (hdone:∀(s:σ) (W:World),Fin s->J s W->Q .normal a W)
  (hstop:∀(c:Code) (W:World),Jx c W->c.wpIn (Fence.wide.inRound l0) 0 P Q a W):
  (Code.rangeFunc g ps assign body).wpIn (Fence.wide.inRound l0) 0 P Q a w:=by
 refine GG hl0 hg eg λR W1 hb1 _ h1 hy=>CallsIn.mono (hit w.heap.size (λs W=>J s W/\LO R w.heap.size .ready none W) (λW=>∃c,Jx c W/\LO R w.heap.size .done (some c) W) W1
  (λs A B h hb=>⟨(hJ s).ext h.1 hb,kh h.2 hb⟩) (λA B ⟨c,h1,h2⟩ hb=>⟨c,(hJx c).ext h1 hb,kh h2 hb⟩) (λs W h=>hInv s W h.1)
  (λs x W hok ⟨hi,hl⟩=>hy hl (hps x) (hassign _ s x W hok hi) λa1 V ⟨hkp,hiV,hAV⟩=>
    have lV:LO _ _ _ _ _:=hkp _ _ hl rfl
    ⟨lV,λl2=>cD (hbody _ s x a1 _ (aj _) ⟨_,l2⟩ hok ((hJ s).put _ hiV (aj _) lV rfl) ((hA s x a1).put _ hAV (aj _) lV rfl))
     (mK (λW3 ⟨hk3,hi3⟩=>have l3:LO _ _ _ _ _:=hk3 _ _ l2 rfl;⟨l3,.inl ⟨rfl,(hJ _).put _ hi3 (aj _) l3 rfl,l3.put⟩⟩)
       λc W3 ⟨hk3,hi3⟩=>have l3:LO _ _ _ _ _:=hk3 _ _ l2 rfl;⟨l3,.inr ⟨rfl,c,(hJx c).put _ hi3 (aj _) l3 rfl,l3.put⟩⟩)⟩)
  ⟨(hJ s0).ext h0 hb1,h1⟩) ?_
 rintro e W2 ⟨hv,(⟨s,hS,hi,hl⟩|⟨c,hi,hl⟩)⟩
 .exact⟨hv,.inl ⟨hl,λo=>hdone s _ hS ((hJ s).put _ hi (aj _) hl rfl)⟩⟩
 .exact⟨hv,.inr ⟨c,hl,λo=>hstop c _ ((hJx c).put _ hi (aj _) hl rfl)⟩⟩
theorem GF{P:Program}{α:Type}{g:Operand}{ps:Array Tmp}{assign body:Code}{Q:Exit->Act->World->Prop}{a:Act}{w:World}{gf:Nat}{lb:Array Value}
  (hg:a.eval g=.func (.func gf) #[] lb) (eg:∀args w,(callFunc gf args).run P w=.ok (.enter gf args) w)
  {enc:α->Array Value} {l:List α} (I:World->Prop) (hit:uU P gf lb enc l I) (hps:∀x,(enc x).size=ps.size)
  (J:List α->List α->World->Prop) (Jx:Code->World->Prop)
  (hJ:∀d r,fG w.heap.size (J d r)) (hJx:∀c,fG w.heap.size (Jx c)) (hInv:∀d r W,J d r W->I W)
  (h0:J [] l w)
  (hround:∀(lp:Nat) (d:List α) (x:α) (r:List α) (W:World),l=d++x :: r->J d (x :: r) W->
    assign.wpIn (Fence.wide.inRound lp) 0 P (Exit.then (λa1 W1=>gC W W1/\J d (x :: r) W1/\∀(lp:Nat) (W2:World),w.heap.size<=lp->(∃rc,W2.heap[lp]? =some (.loop rc))->J d (x :: r) W2->
     body.wpIn (Fence.wide.inRound lp) 0 P (iQ (λW'=>gC W2 W'/\J (d++ [x]) r W') (λc W'=>gC W2 W'/\Jx c W')) a1 W2) (λ_ _ _=>False)) {tmps:=(ps.zip (enc x)).foldl (λt (p,v)=>t.setIfInBounds p v) a.tmps,defers:= []} W)
  (hdone:∀(D:Nat) (W:World),w.heap.size<=D->J l [] W->W.heap[D]? =some (.deferred (some []))->Q .normal {a with defers:={target:=.collected D,args:=#[]} :: a.defers} W)
  (hstop:∀(D:Nat) (c:Code) (W:World),w.heap.size<=D->Jx c W->W.heap[D]? =some (.deferred (some []))->c.wpIn Fence.wide 0 P Q {a with defers:={target:=.collected D,args:=#[]} :: a.defers} W):
  (Code.rangeFunc g ps assign body).wpIn Fence.wide 0 P Q a w:=by
 refine xR (enc:=enc) hg eg hit hps (λs W=>∃d,l=d++s/\J d s W) Jx
  (λs x a1 _=>∀(d:List α) (lp:Nat) (W2:World),w.heap.size<=lp->(∃rc,W2.heap[lp]? =some (.loop rc))->l=d++s->J d s W2->body.wpIn (Fence.wide.inRound lp) 0 P (iQ (λW'=>gC W2 W'/\J (d++ [x]) (nxL s x) W') (λc W'=>gC W2 W'/\Jx c W')) a1 W2)
  (λs=>fG.ex λd=>(fG.pure _ _).and (hJ d s)) hJx (λ_ _ _=>fG.pure _ _) (λs W ⟨d,_,h⟩=>hInv d s W h) ⟨[],rfl,h0⟩ ?_ ?_ ?_ hstop
 .rintro lp s x W hok ⟨d,hd,hj⟩;have hs:=lL hok;generalize nxL s x=r at hs|-;subst hs;refine cD (hround lp d x r W hd hj) ?_;rintro e a1 W1 he;cases e with
  |normal=>
   obtain⟨h1,h2,h3⟩:=he;refine⟨h1,⟨d,hd,h2⟩,λd' lp' W2 hlp' hrc' hd' hj'=>?_⟩;have:d'=d:=by
    have:=hd'.symm.trans hd;exact cW this
   subst this;exact h3 lp' W2 hlp' hrc' hj'
  |_=>exact he.elim
 .rintro lp s x a1 W hlp hrc hok ⟨d,hd,hj⟩ hA;refine cD (hA d lp W hlp hrc hd hj) ?_;rintro e a3 W3 he;cases e with
  |normal=>
   refine⟨he.1,d++ [x],?_,he.2⟩;rw[hd,cd]
   congr 1
   exact lL hok
  |ret=>exact he
  |exit id=>exact he
  |goto t=>exact he
  |panic ch=>exact he.elim
  |outgrown=>exact he.elim
 .rintro D s W hD hf ⟨d,hd,hj⟩ hk;subst hf;rw[ct] at hd;subst hd;exact hdone D W hD hj hk
theorem XE{P:Program}{α:Type}{g:Operand}{ps:Array Tmp}{assign body:Code}{Q:Exit->Act->World->Prop}{a:Act}{w:World}{l0:Nat}{r0:Loop}(hl0:w.heap[l0]? =some (.loop r0)){gf:Nat}{lb:Array Value}
  (hg:a.eval g=.func (.func gf) #[] lb) (eg:∀args w,(callFunc gf args).run P w=.ok (.enter gf args) w)
  {enc:α->Array Value} {l:List α} (I:World->Prop) (hit:uU P gf lb enc l I) (hps:∀x,(enc x).size=ps.size)
  (J:List α->List α->World->Prop) (Jx:Code->World->Prop)
  (hJ:∀d r,fG w.heap.size (J d r)) (hJx:∀c,fG w.heap.size (Jx c)) (hInv:∀d r W,J d r W->I W)
  (h0:J [] l w)
  (hround:∀(lp:Nat) (d:List α) (x:α) (r:List α) (W:World),l=d++x :: r->J d (x :: r) W->
    assign.wpIn (Fence.wide.inRound lp) 0 P (Exit.then (λa1 W1=>gC W W1/\J d (x :: r) W1/\∀(lp:Nat) (W2:World),w.heap.size<=lp->(∃rc,W2.heap[lp]? =some (.loop rc))->J d (x :: r) W2->
     body.wpIn (Fence.wide.inRound lp) 0 P (iQ (λW'=>gC W2 W'/\J (d++ [x]) r W') (λc W'=>gC W2 W'/\Jx c W')) a1 W2) (λ_ _ _=>False)) {tmps:=(ps.zip (enc x)).foldl (λt (p,v)=>t.setIfInBounds p v) a.tmps,defers:= []} W)
  (hdone:∀(W:World),J l [] W->Q .normal a W)
  (hstop:∀(c:Code) (W:World),Jx c W->c.wpIn (Fence.wide.inRound l0) 0 P Q a W):
  (Code.rangeFunc g ps assign body).wpIn (Fence.wide.inRound l0) 0 P Q a w:=by
 refine XF (enc:=enc) hl0 hg eg hit hps (λs W=>∃d,l=d++s/\J d s W) Jx
  (λs x a1 _=>∀(d:List α) (lp:Nat) (W2:World),w.heap.size<=lp->(∃rc,W2.heap[lp]? =some (.loop rc))->l=d++s->J d s W2->body.wpIn (Fence.wide.inRound lp) 0 P (iQ (λW'=>gC W2 W'/\J (d++ [x]) (nxL s x) W') (λc W'=>gC W2 W'/\Jx c W')) a1 W2)
  (λs=>fG.ex λd=>(fG.pure _ _).and (hJ d s)) hJx (λ_ _ _=>fG.pure _ _) (λs W ⟨d,_,h⟩=>hInv d s W h) ⟨[],rfl,h0⟩ ?_ ?_ ?_ hstop
 .rintro lp s x W hok ⟨d,hd,hj⟩;have hs:=lL hok;generalize nxL s x=r at hs|-;subst hs;refine cD (hround lp d x r W hd hj) ?_;rintro e a1 W1 he;cases e with
  |normal=>
   obtain⟨h1,h2,h3⟩:=he;refine⟨h1,⟨d,hd,h2⟩,λd' lp' W2 hlp' hrc' hd' hj'=>?_⟩;have:d'=d:=by
    have:=hd'.symm.trans hd;exact cW this
   subst this;exact h3 lp' W2 hlp' hrc' hj'
  |_=>exact he.elim
 .rintro lp s x a1 W hlp hrc hok ⟨d,hd,hj⟩ hA;refine cD (hA d lp W hlp hrc hd hj) ?_;rintro e a3 W3 he;cases e with
  |normal=>
   refine⟨he.1,d++ [x],?_,he.2⟩;rw[hd,cd]
   congr 1
   exact lL hok
  |ret=>exact he
  |exit id=>exact he
  |goto t=>exact he
  |panic ch=>exact he.elim
  |outgrown=>exact he.elim
 .rintro s W hf ⟨d,hd,hj⟩;subst hf;rw[ct] at hd;subst hd;exact hdone W hj
end

section
open Go.RowKit
theorem DT{P:Program}{α:Type}{g:Operand}{ps:Array Tmp}{assign body:Code}{Q:Exit->Act->World->Prop}{a:Act}{w:World}{gf:Nat}{lb:Array Value}
  (hg:a.eval g=.func (.func gf) #[] lb) (eg:∀args w,(callFunc gf args).run P w=.ok (.enter gf args) w)
  {enc:α->Array Value} {l:List α} (I:World->Prop) (hit:uU P gf lb enc l I) (hps:∀x,(enc x).size=ps.size)
  (J:List α->List α->World->Prop) (Jx:Code->World->Prop)
  (hJ:∀d r,fG w.heap.size (J d r)) (hJx:∀c,fG w.heap.size (Jx c)) (hInv:∀d r W,J d r W->I W)
  (h0:J [] l w)
  (hround:∀(lp:Nat) (d:List α) (x:α) (r:List α) (W:World),l=d++x :: r->J d (x :: r) W->
    assign.wpIn (Fence.wide.inRound lp) 0 P (Exit.then (λa1 W1=>gC W W1/\J d (x :: r) W1/\∃G:World->Prop,fG w.heap.size G/\G W1/\∀(lp:Nat) (W2:World),w.heap.size<=lp->(∃rc,W2.heap[lp]? =some (.loop rc))->J d (x :: r) W2->G W2->
     body.wpIn (Fence.wide.inRound lp) 0 P (iQ (λW'=>gC W2 W'/\J (d++ [x]) r W') (λc W'=>gC W2 W'/\Jx c W')) a1 W2) (λ_ _ _=>False)) {tmps:=(ps.zip (enc x)).foldl (λt (p,v)=>t.setIfInBounds p v) a.tmps,defers:= []} W)
  (hdone:∀(D:Nat) (W:World),w.heap.size<=D->J l [] W->W.heap[D]? =some (.deferred (some []))->Q .normal {a with defers:={target:=.collected D,args:=#[]} :: a.defers} W)
  (hstop:∀(D:Nat) (c:Code) (W:World),w.heap.size<=D->Jx c W->W.heap[D]? =some (.deferred (some []))->c.wpIn Fence.wide 0 P Q {a with defers:={target:=.collected D,args:=#[]} :: a.defers} W):
  (Code.rangeFunc g ps assign body).wpIn Fence.wide 0 P Q a w:=by
 refine xR (enc:=enc) hg eg hit hps (λs W=>∃d,l=d++s/\J d s W) Jx
  (λs x a1 W=>∃G:World->Prop,fG w.heap.size G/\G W/\∀(d:List α) (lp:Nat) (W2:World),w.heap.size<=lp->(∃rc,W2.heap[lp]? =some (.loop rc))->l=d++s->J d s W2->G W2->body.wpIn (Fence.wide.inRound lp) 0 P (iQ (λW'=>gC W2 W'/\J (d++ [x]) (nxL s x) W') (λc W'=>gC W2 W'/\Jx c W')) a1 W2)
  (λs=>fG.ex λd=>(fG.pure _ _).and (hJ d s)) hJx (λ_ _ _=>λW W' row h hg hr=>let ⟨G,h1,h2,h3⟩:=h;⟨G,h1,h1 W W' row h2 hg hr,h3⟩) (λs W ⟨d,_,h⟩=>hInv d s W h) ⟨[],rfl,h0⟩ ?_ ?_ ?_ hstop
 .rintro lp s x W hok ⟨d,hd,hj⟩;have hs:=lL hok;generalize nxL s x=r at hs|-;subst hs;refine cD (hround lp d x r W hd hj) ?_;rintro e a1 W1 he;cases e with
  |normal=>
   obtain⟨h1,h2,G,h4,h5,h3⟩:=he;refine⟨h1,⟨d,hd,h2⟩,⟨G,h4,h5,λd' lp' W2 hz' hr' hd' hj' hG'=>?_⟩⟩;have:d'=d:=by
    have:=hd'.symm.trans hd;exact cW this
   subst this;exact h3 lp' W2 hz' hr' hj' hG'
  |_=>exact he.elim
 .rintro lp s x a1 W hlp hr0 hok ⟨d,hd,hj⟩ ⟨G,_,hG,hA⟩;refine cD (hA d lp W hlp hr0 hd hj hG) ?_;rintro e a3 W3 he;cases e with
  |normal=>
   refine⟨he.1,⟨d++ [x],?_,he.2⟩⟩;rw[hd,cd]
   congr 1
   exact lL hok
  |ret=>exact he
  |exit id=>exact he
  |goto t=>exact he
  |panic ch=>exact he.elim
  |outgrown=>exact he.elim
 .rintro D s W hD hf ⟨d,hd,hj⟩ hk;have hf:s= []:=hf;subst hf;rw[ct] at hd;subst hd;exact hdone D W hD hj hk
end

section
open Go.RowKit
abbrev TY(D:Nat):Deferred:={target:=.collected D,args:=#[]}
def lU(lo hi:Nat)(ds:List Deferred)(w:World):Prop:=
 ∃Ds:List Nat,ds=Ds.map TY/\Ds.Nodup/\∀D∈Ds,lo<=D/\D<hi/\w.heap[D]? =some (.deferred (some []))
theorem lU.nil(lo hi:Nat)(w:World):lU lo hi [] w:=⟨[],rfl,List.nodup_nil,λ_ h=>by cases h⟩
theorem lU.cons{lo hi hi' D:Nat}{ds:List Deferred}{w:World}(h:lU lo hi ds w)(h1:hi<=D)(h0:lo<=D)(h2:D<hi')(hk:w.heap[D]? =some (.deferred (some []))):lU lo hi' (TY D :: ds) w:=by
 obtain⟨Ds,rfl,hn,hD⟩:=h
 refine⟨D :: Ds,rfl,dC.2 ⟨λhm=>?_,hn⟩,λE hE=>?_⟩
 .have:=(hD D hm).2.1;omega
 .rcases aS.1 hE with rfl|hE
  .exact⟨h0,h2,hk⟩
  .obtain⟨a,b,c⟩:=hD E hE;exact⟨a,by omega,c⟩
theorem lU.keep{lo hi:Nat}{ds:List Deferred}{w w':World}(h:lU lo hi ds w)(hk:gC w w'):lU lo hi ds w':=by
 obtain⟨Ds,e,hn,hD⟩:=h
 exact⟨Ds,e,hn,λD hm=>⟨(hD D hm).1,(hD D hm).2.1,hk D _ (hD D hm).2.2 rfl⟩⟩
theorem lU.mono{lo hi hi':Nat}{ds:List Deferred}{w:World}(h:lU lo hi ds w)(hh:hi<=hi'):lU lo hi' ds w:=by
 obtain⟨Ds,e,hn,hD⟩:=h
 exact⟨Ds,e,hn,λD hm=>⟨(hD D hm).1,by have:=(hD D hm).2.1;omega,(hD D hm).2.2⟩⟩
theorem fG.marks{lo hi B:Nat}(hB:hi<=B)(ds:List Deferred):fG B (λW=>lU lo hi ds W):=by
 rintro W W' row ⟨Ds,e,hn,hD⟩ hg hr
 refine⟨Ds,e,hn,λD hm=>⟨(hD D hm).1,(hD D hm).2.1,?_⟩⟩
 have h2:=(hD D hm).2.2
 refine(hg.block D (au.1 h2).1 λe=>?_).trans h2
 have h3:=(hr D e.symm).1
 have h4:=(hD D hm).2.1
 omega
theorem tO{P:Program}{F:Fence}{n:Nat}{fn:Func}{tmps:Array Value}{R:Ending->World->Prop}{u:FrameMode}(hu:u≠.run){lo hi:Nat}(J:World->Prop)(hJ:fG lo J)(h:∀w,J w->LeavesIn F n P fn tmps R [] u w):
  ∀(ds:List Deferred) (w:World),lU lo hi ds w->J w->LeavesInM F n P fn tmps R ds u w:=by
 intro ds
 induction ds with
 |nil=>exact λw _ hj=>h w hj
 |cons d ds ih=>
  rintro w ⟨Ds,e,hn,hD⟩ hj;cases Ds with
  |nil=>cases e
  |cons D Ds=>
   simp only[cE,List.cons.injEq] at e;obtain⟨rfl,rfl⟩:=e;have h1:=(hD D (by simp)).2.2;have hne:=(dC.1 hn).1;refine⟨hu,.inl ⟨D,_,rfl,cM h1,ih _ ⟨Ds,rfl,(dC.1 hn).2,λE hE=>?_⟩ (hJ.put (.deferred none) hj (hD D (by simp)).1 h1 rfl)⟩⟩;obtain⟨a,b,c⟩:=hD E (by simp[hE]);refine⟨a,b,(bo ?_).trans c⟩;rintro rfl;exact hne hE
end
end Go.Proofs.YtbknbcmppdglhaaGreatDoor
