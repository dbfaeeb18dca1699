/-
 FuncOf,the laws' own great.
-/
import Derived.Test.YtbknbcmppdglhaaGreatDoorA0
import Derived.Test.YtbknbcmppdglhaaGreatDoorEK
import Derived.Test.YtbknbcmppdglhaaGreatDoorTH
import Derived.Test.YtbknbcmppdglhaaGreatDoorTK
import Derived.Test.YtbknbcmppdglhaaGreatDoorOwnR
import Derived.Deep.DeepAppendRoom
import Derived.Maps.AppendAt
import Derived.ArgAppend
import Derived.Deep.Onto
import Derived.Test.YtbknbcmppdglhaaGreatDoorER
import Derived.BigQuiet
import Derived.Deep.MidRow
import Derived.Test.YtbknbcmppdglhaaGreatDoorPB
import Derived.Test.YtbknbcmppdglhaaGreatDoorSortI
import Derived.Shelf.Spec.TrailingZeros
import Derived.Scope
namespace Go.Proofs.YtbknbcmppdglhaaGreatDoor
set_option linter.unusedSimpArgs false
set_option linter.unusedVariables false
set_option linter.unusedSectionVars false
set_option maxRecDepth 100000
set_option maxHeartbeats 40000000
section
open Go.RowKit
attribute [local go_sem] Oper.semAt_some iF gH gS fX
def MT(ls:List iN)(i:Nat):Nat:=((ls.take i).map λt=>t.bn).sum
theorem ni(ls:List iN)(i:Nat)(t:iN)(h:ls[i]? =some t):MT ls (i+1)=MT ls i+t.bn:=by
 rw[MT,MT,bL,h,dY,cU,List.sum_append];simp
theorem tz{w:World}{a:Option Addr}{n:Nat}{ls:List iN}(h:iY w a n ls):MT ls n=qY (fI ls):=by
 rw[MT,qY,fI,bC (by rw[h.1.1];omega),List.map_map]
 congr 1
 refine dA λt ht=>?_
 exact((h.2 t ht).1.1).symm
end

section
open Go.RowKit
attribute [local go_sem] Oper.semAt_some iF gH gS fX
structure iA where
 h:nA
 rs:List lP
abbrev UB(b:iA):List Value:=mx b.h
theorem PO(b:iA):(UB b).length=5:=rfl
def xA(w:World)(b:iA):Prop:=pU b.h.t/\tC w b.h.ia b.h.n b.rs
theorem xA.ext{w w':World}{b:iA}(h:xA w b)(hb:Below w.heap.size w w'):xA w' b:=⟨h.1,h.2.ext hb⟩
def lY(w:World)(a:Option Addr)(n:Nat)(bs:List iA):Prop:=tI 5 UB w a n bs/\∀b∈bs,xA w b
theorem lY.ext{w w':World}{a:Option Addr}{n:Nat}{bs:List iA}(h:lY w a n bs)(hb:Below w.heap.size w w'):lY w' a n bs:=⟨h.1.ext PO hb,λb hx=>(h.2 b hx).ext hb⟩
def hOf(bs:List iA):List nA:=bs.map (·.h)
theorem lY.x{w:World}{a:Option Addr}{n:Nat}{bs:List iA}(h:lY w a n bs):UE w a n (hOf bs):=by
 refine⟨⟨⟨by simp[hOf,h.1.1],h.1.2.1,λk r hr=>?_⟩,λb hb=>?_⟩,λb hb=>?_⟩
 .simp only[hOf,dt,fq] at hr;obtain⟨x,hx,rfl⟩:=hr;exact h.1.2.2 k x hx
 .simp only[hOf,a8] at hb;obtain⟨x,hx,rfl⟩:=hb;exact(h.2 x hx).1
 .simp only[hOf,a8] at hb;obtain⟨x,hx,rfl⟩:=hb;exact⟨x.rs,(h.2 x hx).2⟩
theorem UE.r{w:World}{a:Option Addr}{n:Nat}{bs:List nA}(h:UE w a n bs):∃xs,hOf xs=bs/\lY w a n xs:=by
 have key:∀bs:List nA,(∀b∈bs,∃rs,tC w b.ia b.n rs)->∃xs:List iA,hOf xs=bs/\∀x∈xs,tC w x.h.ia x.h.n x.rs:=by
  intro bs
  induction bs with
  |nil=>exact λ_=>⟨[],rfl,λx hx=>by cases hx⟩
  |cons b bs ih=>
   intro hb;obtain⟨xs,h1,h2⟩:=ih λc hc=>hb c (by simp[hc]);obtain⟨rs,hr⟩:=hb b (by simp);refine⟨⟨b,rs⟩ :: xs,by simp[hOf] at h1|-;exact h1,λx hx=>?_⟩;rcases aS.1 hx with rfl|hx
   .exact hr
   .exact h2 x hx
 obtain⟨xs,h1,h2⟩:=key bs h.2
 subst h1
 refine⟨xs,rfl,⟨by have:=h.1.1.1;simpa[hOf] using this,h.1.1.2.1,λk r hr=>h.1.1.2.2 k r.h (by simp[hOf,hr])⟩,λx hx=>⟨h.1.2 x.h (by simp only[hOf,a8];exact⟨x,hx,rfl⟩),h2 x hx⟩⟩
def JK(most:Int)(b:iA):Prop:=(b.h.n:Int)<=most/\∀r∈b.rs,(r.na:Int)<=most
def YT(bs:List iA)(most:Int)(w:World)(e:Ending)(w':World):Prop:=∃v:Int,e=.returned (.int .i64 v)/\0<=v/\v<=35184372088841/\(v<=most->(bs.length:Int)<=most/\∀b∈bs,JK most b)/\w=w'
theorem NM(a:Option Addr)(n c:Nat)(bs:List iA)(most:Int)(h0:0<=most)(h1:most<=10000)(w:World)(h:lY w a n bs):
  Calls Tryz.prog 76 #[.slice a n c,.int .i64 most] w (YT bs most w):=by
 have H:=ac h
 have HL:=ac h.1.1
 have hn:=h.1.2.1
 clear h
 go_enter Tryz.func76,Tryz.ntmps76
 go_wp2
 go_loopg [5,6,7] n (λgg s5 s6 _ wr=>∃(i:Nat) (acc:Int),s6=.int .i64 i/\s5=.int .i64 acc/\i<=n/\n-i<=gg/\(i:Int)<=acc/\acc<=35184372088841/\Hid (acc<=most->∀b∈bs.take i,JK most b)/\wr=w)
 case atStart=>exact⟨0,0,rfl,rfl,by omega,by omega,by omega,by omega,λ_ b hb=>by simp at hb,rfl⟩
 case round=>
  obtain⟨i,acc,rfl,rfl,hi,hgg,ha0,ha1,HR,rfl⟩:=hrel;by_cases hlt:i<n
  .by_cases hm:acc<=most
   .have hir:i<bs.length:=by rw[HL.out];exact hlt
    obtain⟨b,hb⟩:∃b,bs[i]? =some b:=⟨bs[i],ah hir⟩
    obtain⟨B,o,rfl,hc⟩:=H.out.1.2.2 i b hb;have g0:=hc 0 (by omega);rw[Nat.add_zero] at g0;have hI:=(H.out.2 b (aK hb)).2;have HI:=ac hI;have hbn:=hI.1.2.1;have HB:=ac hb;have g0':wr.cell? ⟨B,o+i*5,none⟩=some (.slice b.h.ia b.h.n b.h.c):=g0;have hmr:=HR.out hm;have HMR:=ac hmr;clear hb hc hI g0 hmr;have hlt':(i:Int)<(n:Int):=by omega
    go_wp2;obtain⟨wo,rfl⟩:∃wo:World,wo=wr:=⟨_,rfl⟩
    have HT:Hid (∀acc2:Int,acc+1+b.h.n<=acc2->acc2<=most->(∀r∈b.rs,(r.na:Int)<=most)->∀x∈bs.take (i+1),JK most x):=λacc2 h1 h2 h3 x hx=>by
     rw[bL,HB.out,ax] at hx;rcases hx with hx|hx
     .exact HMR.out x hx
     .simp at hx;subst hx;exact⟨by omega,h3⟩
    go_loopg [5,7] b.h.n (λgg2 s5 s7 wi=>∃(k:Nat) (acc2:Int),s7=.int .i64 k/\s5=.int .i64 acc2/\k<=b.h.n/\b.h.n-k<=gg2/\acc+1+b.h.n<=acc2/\acc2<=35184372088841/\Hid (acc2<=most->∀r∈b.rs.take k,(r.na:Int)<=most)/\wi=wo)
    case atStart=>exact⟨0,acc+1+b.h.n,rfl,rfl,by omega,by omega,by omega,by omega,λ_ r hr=>by simp at hr,rfl⟩
    case round=>
     obtain⟨k,acc2,rfl,rfl,hk,hgg2,hb1,hb2,HRk,rfl⟩:=hrel;by_cases hk2:k<b.h.n
     .by_cases hm2:acc2<=most
      .obtain⟨r,bb,oo,hr,hok,hia,c0,c1,c2,c3,c4,c5,c6,c7⟩:=HI.out.cells hk2;have hna:=hok.1.2.1;rw[hia] at g0';have hkz:(k:Int)<(b.h.n:Int):=by omega
       have HRk2:Hid (acc2+r.na<=most->∀q∈b.rs.take (k+1),(q.na:Int)<=most):=λh q hq=>by
        rw[bL,hr,ax] at hq;rcases hq with hq|hq
        .exact HRk.out (by omega) q hq
        .simp at hq;subst hq;omega
       clear hr hok c0 c1 c2 c3 c4 c5 c7 hia;go_wp2
       go_roundg (b.h.n-(k+1))
       case measure=>omega
       case rel=>exact⟨k+1,acc2+r.na,by go_num,rfl,by omega,aj _,by omega,by omega,HRk2,rfl⟩
      .have hkz:(k:Int)<(b.h.n:Int):=by omega
       have hm3:most<acc2:=by omega
       go_wp2
       go_roundg (n-(i+1))
       case measure=>omega
       case rel=>exact⟨i+1,acc2,by go_num,rfl,by omega,aj _,by omega,by omega,λh=>absurd h (by omega),rfl⟩
     .have hkz:¬(k:Int)<(b.h.n:Int):=by omega
      have HRk3:Hid (acc2<=most->∀r∈b.rs,(r.na:Int)<=most):=λh=>by
       have:=HRk.out h
       rwa [bC (by rw[HI.out.1.1];omega)] at this
      go_wp2
      go_roundg (n-(i+1))
      case measure=>omega
      case rel=>exact⟨i+1,acc2,by go_num,rfl,by omega,aj _,by omega,by omega,λh=>HT.out acc2 hb1 h (HRk3.out h),rfl⟩
   .have hm3:most<acc:=by omega
    have hlt':(i:Int)<(n:Int):=by omega
    go_wp2
    go_ret
    exact⟨acc,rfl,by omega,ha1,λh=>absurd h (by omega),rfl⟩
  .obtain rfl:i=n:=by omega
   have HT:Hid (bs.take i=bs):=bC (by rw[HL.out];omega);go_wp2
   go_ret
   exact⟨acc,rfl,by omega,ha1,λh=>⟨by rw[HL.out];omega,by have:=HR.out h;rw[HT.out] at this;exact this⟩,rfl⟩
def YR(pn:Nat)(bs:List iA)(most:Int)(w:World)(e:Ending)(w':World):Prop:=∃z:Int,e=.returned (.int .i64 z)/\0<=z/\z<=70368744177664/\(z<=most->(pn:Int)<=most/\(bs.length:Int)<=most/\∀b∈bs,JK most b)/\Below w.heap.size w w'
theorem XW(pa:Option Addr)(pn pc:Nat)(hpn:pn<=17592186044416)(ba:Option Addr)(bn bc:Nat)(bs:List iA)(most:Int)(h0:0<=most)(h1:most<=10000)(w:World)(h:lY w ba bn bs):
  Calls Tryz.prog 27 #[mB pa pn pc ba bn bc,.int .i64 most] w (YR pn bs most w):=by
 have HX:=ac h
 clear h
 go_enter Tryz.func27,Tryz.ntmps27
 go_upto_region 1 with (fail)
 obtain⟨W,hW⟩:∃W,W=w.alloc (gX pa pn pc ba bn bc):=⟨_,rfl⟩
 rw[<-hW]
 have hk0:W.heap[w.heap.size]? =some (gX pa pn pc ba bn bc):=by rw[hW];exact ae _ _
 have hB:Below w.heap.size w W:=by rw[hW];exact fD _ _
 have HK:=ac hk0
 have HB:=ac hB
 clear hW hk0 hB
 refine lF 8 [some 5,some 6,some 7,some 8,some 9,some 10,some 11,some 12] (by kernel_rfl) (by kernel_rfl) (jZ [.val (.pointer (some ⟨w.heap.size,0,none⟩)),.val (.slice pa pn pc),.val (.int .i64 (pn:Int)),.val (.pointer (some ⟨w.heap.size,1,none⟩)),.val (.slice ba bn bc),.val (.int .i64 most),(.any λv lo hi W=>∃z:Int,v=.int .i64 z/\0<=z/\z<=35184372088841/\(z<=most->(bs.length:Int)<=most/\∀b∈bs,JK most b)),(.any λv lo hi W=>∃z:Int,v=.int .i64 z/\0<=z/\z<=70368744177664/\(z<=most->(pn:Int)<=most/\(bs.length:Int)<=most/\∀b∈bs,JK most b))]) (jX ?_) ?_ ?_
 .intro k hk;simp only[aS,bO,cX] at hk;rcases hk with rfl|rfl|rfl|rfl|rfl|rfl|rfl|rfl<;>try exact trivial
  .intro v lo hi w w' _ h;exact h
  .intro v lo hi w w' _ h;exact h
 .intro i hi ν lo hi' w1 K hB hD hK;have hcase:i=0\/i=1\/i=2\/i=3\/i=4\/i=5\/i=6\/i=7:=by omega
  clear hi;rcases hcase with rfl|rfl|rfl|rfl|rfl|rfl|rfl|rfl
  .clear hD;refine fF rfl rfl ?_;simp only[zA,zB,zC,zD,zE,zF,zJ,zK,zG,zH,zI] at hK|-;go_simp;exact hK _ _ (ag _ _) rfl
  .have e0:ν 0=(.pointer (some ⟨w.heap.size,0,none⟩)):=hD 0 (by kernel_rfl);clear hD;refine fF rfl rfl ?_;simp only[zA,zB,zC,zD,zE,zF,zJ,zK,zG,zH,zI,e0] at hK|-;have hcl:=cK 0 (fB hB HK.out) rfl;go_simp;exact hK _ _ (ag _ _) rfl
  .have e1:ν 1=(.slice pa pn pc):=hD 1 (by kernel_rfl);clear hD;refine fF rfl rfl ?_;simp only[zA,zB,zC,zD,zE,zF,zJ,zK,zG,zH,zI,e1] at hK|-;go_simp;exact hK _ _ (ag _ _) rfl
  .clear hD;refine fF rfl rfl ?_;simp only[zA,zB,zC,zD,zE,zF,zJ,zK,zG,zH,zI] at hK|-;go_simp;exact hK _ _ (ag _ _) rfl
  .have e3:ν 3=(.pointer (some ⟨w.heap.size,1,none⟩)):=hD 3 (by kernel_rfl);clear hD;refine fF rfl rfl ?_;simp only[zA,zB,zC,zD,zE,zF,zJ,zK,zG,zH,zI,e3] at hK|-;have hcl:=cK 1 (fB hB HK.out) rfl;go_simp;exact hK _ _ (ag _ _) rfl
  .clear hD;refine fF rfl rfl ?_;simp only[zA,zB,zC,zD,zE,zF,zJ,zK,zG,zH,zI] at hK|-;go_simp;exact hK _ _ (ag _ _) rfl
  .have e4:ν 4=(.slice ba bn bc):=hD 4 (by kernel_rfl);have e5:ν 5=(.int .i64 most):=hD 5 (by kernel_rfl);clear hD;refine fF rfl rfl ?_;simp only[zA,zB,zC,zD,zE,zF,zJ,zK,zG,zH,zI,e4,e5] at hK|-;go_simp;refine(NM ba bn bc bs most h0 h1 w1 (HX.out.ext (fC HB.out hB))).mono ?_;rintro e w3 ⟨z,rfl,hz0,hz1,hz2,rfl⟩;exact hK _ _ (ag _ _) ⟨z,rfl,hz0,hz1,hz2⟩
  .have e2:ν 2=(.int .i64 (pn:Int)):=hD 2 (by kernel_rfl);have e6:=hD 6 (by kernel_rfl);unfold jZ at e6;simp only[br,bq,nC] at e6;clear hD;refine fF rfl rfl ?_;simp only[zA,zB,zC,zD,zE,zF,zJ,zK,zG,zH,zI,e2] at hK|-;obtain⟨z,hz,hz0,hz1,hz2⟩:=e6;simp only[hz] at hK|-;go_simp;exact hK _ _ (ag _ _) ⟨(pn:Int)+z,by rw[IntKind.wrap_i64];congr 1;omega,by omega,by omega,λh=>⟨by omega,hz2 (by omega)⟩⟩
 .intro ν lo hi w1 hB hS hI hD;have e0:ν 0=(.pointer (some ⟨w.heap.size,0,none⟩)):=hS 0 (by omega);have e1:ν 1=(.slice pa pn pc):=hS 1 (by omega);have e2:ν 2=(.int .i64 (pn:Int)):=hS 2 (by omega);have e3:ν 3=(.pointer (some ⟨w.heap.size,1,none⟩)):=hS 3 (by omega);have e4:ν 4=(.slice ba bn bc):=hS 4 (by omega);have e5:ν 5=(.int .i64 most):=hS 5 (by omega);have e6:=hS 6 (by omega);unfold jZ at e6;simp only[br,bq,nC] at e6;have e7:=hS 7 (by omega);unfold jZ at e7;simp only[br,bq,nC] at e7;clear hS;simp only[am,aw,zA,zB,zC,zD,zE,zF,zJ,zK,zG,zH,zI,e0,e1,e2,e3,e4,e5];clear e0 e1 e2 e3 e4 e5 e6;obtain⟨z,hz,hz0,hz1,hz2⟩:=e7;rw[hz];have HZ2:=ac hz2;have HB9:=ac (fC HB.out hB);clear hI hD hB hz2;go_wp2
  go_ret
  exact⟨z,rfl,hz0,hz1,HZ2.out,HB9.out⟩
end

section
open Go.RowKit
theorem mJ{w:World}{a:Option Addr}{n:Nat}{rs:List iA}(h:lY w a n rs){k:Nat}(hk:k<n):∃r b o,rs[k]? =some r/\xA w r/\a=some ⟨b,o,none⟩/\w.cell? ⟨b,o+k*5,none⟩=some (.slice r.h.ia r.h.n r.h.c)/\w.cell? ⟨b,o+k*5+1,none⟩=some (.int .i64 r.h.t.kind)/\w.cell? ⟨b,o+k*5+2,none⟩=some (.int .i64 r.h.t.a)/\w.cell? ⟨b,o+k*5+3,none⟩=some (.int .i64 r.h.t.t0)/\w.cell? ⟨b,o+k*5+4,none⟩=some (.int .i64 r.h.t.t1):=by
 have hk':k<rs.length:=by rw[h.1.1];exact hk
 obtain⟨r,hr⟩:∃r,rs[k]? =some r:=⟨rs[k],ah hk'⟩
 obtain⟨b,o,e,hc⟩:=h.1.2.2 k r hr
 exact⟨r,b,o,hr,h.2 r (aK hr),e,hc 0 (by omega),hc 1 (by omega),hc 2 (by omega),hc 3 (by omega),hc 4 (by omega)⟩
def IU(ps:List Int):Bool:=ps.all qG&&decide ps.Nodup
def IW(b:iA):Bool:=mU b.h.t&& !b.rs.any λr=> !oQ r.d
def kJ(ps:List Int)(bs:List iA):Bool:=IU ps&&bs.all IW
theorem lg{ps:List Int}{k:Nat}{x:Int}(h:ps[k]? =some x)(hx:qG x=false\/x∈ps.take k):IU ps=false:=by
 unfold IU
 rcases hx with hx|hx
 .have:ps.all qG=false:=fu.2 ⟨x,aK h,by simp[hx]⟩;rw[this];rfl
 .have:¬ps.Nodup:=λhn=>by
   have hk:=(aE.1 h).1;have e:=(aE.1 h).2;rw[<-eI k ps] at hn;have h2:=(List.nodup_append.1 hn).2.2 x hx x (by rw[cn hk,e];simp);exact h2 rfl
  simp[this]
theorem u5{ps:List Int}(h:∀k x,ps[k]? =some x->qG x=true/\x∉ps.take k):IU ps=true:=by
 unfold IU
 rw[aB,aN]
 refine⟨aV.2 λx hx=>?_,?_⟩
 .obtain⟨k,hk,e⟩:=bj.1 hx;exact(h k x (by rw[ah hk,e])).1
 .rw[List.nodup_iff_pairwise_ne,cH];intro i j hi hj hij e;have:=(h j ps[j] (by rw[ah hj])).2;refine this ?_;rw[<-e];exact bj.2 ⟨i,by simp;omega,by simp⟩
def FQ(ps:List Int)(k j:Nat):Bool:=decide ((j:Int)∈ps.take k)
theorem mn{bs:List iA}{k:Nat}{b:iA}(h:bs[k]? =some b)(hb:IW b=false):bs.all IW=false:=fu.2 ⟨b,aK h,by simp[hb]⟩
theorem zQ(pa:Option Addr)(pn pc:Nat)(ps:List Int)(ba:Option Addr)(bn bc:Nat)(bs:List iA)(w:World)(hp:iJ w pa pn ps)(h:lY w ba bn bs):
  Calls Tryz.prog 48 #[mB pa pn pc ba bn bc] w λe w'=>e=.returned (.bool (kJ ps bs))/\Below w.heap.size w w':=by
 have HP:=ac hp
 have HL:=ac hp.1
 have hn:=hp.2.1
 have HB:=ac h
 have HLb:=ac h.1.1
 have hbn:=h.1.2.1
 clear h hp
 go_enter Tryz.func48,Tryz.ntmps48
 go_upto_region 2 with (fail)
 obtain⟨W,hW⟩:∃W,W=(w.alloc (.cells #[.slice pa pn pc,.slice ba bn bc] 25)).alloc (vsO λ_=>false):=⟨_,rfl⟩
 rw[nV,<-hW]
 have hr0:W.heap[w.heap.size]? =some (.cells #[.slice pa pn pc,.slice ba bn bc] 25):=by rw[hW,aG _ _ _ (by simp)];exact ae _ _
 have hr1:W.heap[w.heap.size+1]? =some (vsO λ_=>false):=by
  rw[hW];have:=ae (w.alloc (.cells #[.slice pa pn pc,.slice ba bn bc] 25)) (vsO λ_=>false);simpa using this
 have hbw:Below w.heap.size w W:=by rw[hW];exact((ag _ w).alloc (aj _) _).alloc (by simp) _
 have f0:=cK 0 hr0 rfl
 have hl0:=fE hr0
 have HR0:=ac hr0
 have HR1:=ac hr1
 have HBW:=ac hbw
 clear hW hr0 hr1 hbw
 go_wp2
 clear f0 hl0
 go_loopw [5,11] (λ_ i wr=>∃k:Nat,i=.int .i64 k/\k<=pn/\Hid (wr.heap[w.heap.size]? =some (.cells #[.slice pa pn pc,.slice ba bn bc] 25))/\Hid (wr.heap[w.heap.size+1]? =some (vsO (FQ ps k)))/\Hid (Below w.heap.size w wr)/\Hid (∀j x,j<k->ps[j]? =some x->qG x=true/\x∉ps.take j)) (λ_ i _=>pn-(intOf i).toNat)
 case atStart=>exact⟨0,rfl,by omega,HR0,by rw[Hid,xB (f:=FQ ps 0) (g:=λ_=>false) (λj _=>by simp[FQ])];exact HR1.out,HBW,λj x hj=>absurd hj (by omega)⟩
 case round=>
  obtain⟨k,rfl,hk,HF,HS,HBk,HK⟩:=hrel;clear HR0 HR1 HBW;by_cases hlt:k<pn
  .obtain⟨b,o,rfl,hc,hw1,hw2⟩:=(HP.out.ext HBk.out).2.2 k hlt;have hkx:k<ps.length:=by rw[HL.out];exact hlt
   obtain⟨x,hx⟩:∃x,ps[k]? =some x:=⟨ps[k],ah hkx⟩
   have hgd:ps.getD k 0=x:=by rw[ak,hx];rfl
   rw[hgd] at hc hw1 hw2;have HX:=ac hx;have hlt':(k:Int)<(pn:Int):=by omega
   have hl1:=fE HS.out;clear hx hgd;cases hv:qG x with
   |false=>
    have HE:Hid (kJ ps bs=false):=by rw[Hid,kJ,lg HX.out (.inl hv)];rfl
    go_wp2_with (go_at_call 132;refine(pL x wr).mono ?_;rw[hv];rintro e w1 ⟨rfl,rfl⟩)
    go_ret
    exact⟨by rw[HE.out];rfl,HBk.out⟩
   |true=>
    have hvr:=uV.1 hv;obtain⟨m,rfl⟩:∃m:Nat,x=(m:Int):=⟨x.toNat,by omega⟩
    have hm:(m:Int)<201:=by omega
    have hcell:=oK HS.out m (by omega);have hfr:=tR HS.out m;cases hsm:FQ ps k m with
    |true=>
     rw[hsm] at hcell;have HE:Hid (kJ ps bs=false):=by rw[Hid,kJ,lg HX.out (.inr (by simpa[FQ] using hsm))];rfl
     clear hvr
     go_wp2_with (go_at_call 132;refine(pL (m:Int) wr).mono ?_;rw[hv];rintro e w1 ⟨rfl,rfl⟩)
     go_ret
     exact⟨by rw[HE.out];rfl,HBk.out⟩
    |false=>
     rw[hsm] at hcell;have HS2:Hid ((wr.setCell ⟨w.heap.size+1,m,none⟩ (.bool true)).heap[w.heap.size+1]? =some (vsO (FQ ps (k+1)))):=wB HS.out m true λj _=>by
      unfold FQ;rw[bL,HX.out];by_cases e:j=m
      .simp[e]
      .have e2:¬(j:Int)=(m:Int):=by omega
       simp[e,e2]
     have HF2:Hid ((wr.setCell ⟨w.heap.size+1,m,none⟩ (.bool true)).heap[w.heap.size]? =some (.cells #[.slice (some ⟨b,o,none⟩) pn pc,.slice ba bn bc] 25)):=by
      rw[Hid,aU _ _ _ _ (by simp)];exact HF.out
     have HK2:Hid (∀j x,j<k+1->ps[j]? =some x->qG x=true/\x∉ps.take j):=λj y hj hy=>by
      by_cases e:j=k
      .subst e;rw[HX.out] at hy;cases hy;exact⟨hv,by simpa[FQ] using hsm⟩
      .exact HK.out j y (by omega) hy
     clear hvr
     go_wp2_with (go_at_call 132;refine(pL (m:Int) wr).mono ?_;rw[hv];rintro e w1 ⟨rfl,rfl⟩)
     go_roundw
     case rel=>exact⟨k+1,by go_num,by omega,HF2,HS2,HBk.out.setCell (by simp) _,HK2⟩
     case measure=>simp[intOf];omega
  .obtain rfl:k=pn:=by omega
   have HPB:Hid (IU ps=true):=Go.Proofs.YtbknbcmppdglhaaGreatDoor.u5 λj x hx=>HK.out j x (by have:=(aE.1 hx).1;rw[HL.out] at this;exact this) hx;have f1:=cK 1 HF.out rfl;have hl0:=fE HF.out;clear HF HS HK;go_wp2;clear f1 hl0;obtain⟨W1,rfl⟩:∃x,x=wr:=⟨_,rfl⟩
   go_loopw [29] (λi wr=>∃k:Nat,i=.int .i64 k/\k<=bn/\Hid (Below w.heap.size w wr)/\Hid (∀j x,j<k->bs[j]? =some x->IW x=true)) (λi _=>bn-(intOf i).toNat)
   case atStart=>exact⟨0,rfl,by omega,HBk,λj x hj=>absurd hj (by omega)⟩
   case round=>
    obtain⟨q,rfl,hq,HBq,HQ⟩:=hrel;clear HBk;by_cases hlt:q<bn
    .obtain⟨r,b,o,hr,hok,rfl,c0,c1,c2,c3,c4⟩:=mJ (HB.out.ext HBq.out) hlt;have HRR:=ac hr;have hlt':(q:Int)<(bn:Int):=by omega
     have HOK:=ac hok;clear hr hok;go_upto_region 12 with (fail)
     obtain⟨Wi,hWi⟩:∃Wi,Wi=wr.alloc (oA r.h):=⟨_,rfl⟩
     have hri:Wi.heap[wr.heap.size]? =some (oA r.h):=by rw[hWi];exact ae _ _
     have hbi:Below wr.heap.size wr Wi:=by rw[hWi];exact fD _ _
     rw[show wr.alloc (Obj.cells #[.slice r.h.ia r.h.n r.h.c,.int .i64 r.h.t.kind,.int .i64 r.h.t.a,.int .i64 r.h.t.t0,.int .i64 r.h.t.t1] 121)=Wi from hWi.symm];obtain⟨-,t1,t2,t3,t4⟩:=YX hri rfl;have hli:=fE hri;have HRI:=ac hri;have HBI:=ac (fC HBq.out hbi);have HOI:=ac (HOK.out.ext hbi);clear hWi hri hbi c0 c1 c2 c3 c4 HOK;have HIT:=ac (pD r.h.t Wi HOI.out.1);cases hb:mU r.h.t with
     |false=>
      have HE:Hid (kJ ps bs=false):=by rw[Hid,kJ,mn HRR.out (by rw[IW,hb];rfl),Bool.and_false]
      go_wp2_with (
       (go_at_call 133
        refine HIT.out.mono ?_;rintro e w1 ⟨rfl,hb1⟩;rw[hb];have HB1:=ac (fC HBI.out hb1)
        clear hb1))
      go_ret
      exact⟨by rw[HE.out];rfl,HB1.out⟩
     |true=>
      cases hc:r.rs.any (λx=> !oQ x.d) with
      |true=>
       have HE:Hid (kJ ps bs=false):=by rw[Hid,kJ,mn HRR.out (by rw[IW,hb,hc];rfl),Bool.and_false]
       go_wp2_with (first
        |(go_at_call 133
          refine HIT.out.mono ?_;rintro e w1 ⟨rfl,hb1⟩;rw[hb];have HB1:=ac (fC HBI.out hb1);have HO1:=ac (HOI.out.ext hb1);have u0:=cK 0 (fB hb1 HRI.out) rfl;have hl1:=fE (fB hb1 HRI.out)
          clear hb1)
        |(go_at_call 134
          refine(yE 135 #[] GV (λx=> !oQ x.d) r.h.ia r.h.n r.h.c r.rs w1 (λx W' hx hbx=>KQ x W' ((HO1.out.2.2 x hx).ext hbx)) HO1.out.2).mono ?_;rw[hc];rintro e w2 ⟨rfl,hb2⟩;have HB2:=ac (fC HB1.out hb2)
          clear hb2))
       go_ret
       exact⟨by rw[HE.out];rfl,HB2.out⟩
      |false=>
       have HBB:Hid (IW r=true):=by rw[Hid,IW,hb,hc];rfl
       have HQ2:Hid (∀j x,j<q+1->bs[j]? =some x->IW x=true):=λj x hj hx=>by
        by_cases e:j=q
        .subst e;rw[HRR.out] at hx;cases hx;exact HBB.out
        .exact HQ.out j x (by omega) hx
       go_wp2_with (first
        |(go_at_call 133
          refine HIT.out.mono ?_;rintro e w1 ⟨rfl,hb1⟩;rw[hb];have HB1:=ac (fC HBI.out hb1);have HO1:=ac (HOI.out.ext hb1);have u0:=cK 0 (fB hb1 HRI.out) rfl;have hl1:=fE (fB hb1 HRI.out)
          clear hb1)
        |(go_at_call 134
          refine(yE 135 #[] GV (λx=> !oQ x.d) r.h.ia r.h.n r.h.c r.rs w1 (λx W' hx hbx=>KQ x W' ((HO1.out.2.2 x hx).ext hbx)) HO1.out.2).mono ?_;rw[hc];rintro e w2 ⟨rfl,hb2⟩;have HB2:=ac (fC HB1.out hb2)
          clear hb2))
       go_roundw
       case rel=>exact⟨q+1,by go_num,by omega,HB2,HQ2⟩
       case measure=>simp[intOf];omega
    .have HE:Hid (kJ ps bs=true):=by
      rw[Hid,kJ,HPB.out,dg,aV];intro x hx;obtain⟨j,hj,e⟩:=bj.1 hx;exact HQ.out j x (by rw[HLb.out] at hj;omega) (by rw[ah hj,e])
     have hlt':¬(q:Int)<(bn:Int):=by omega
     go_wp2
     go_ret
     exact⟨by rw[HE.out];rfl,HBq.out⟩
end

section
open Go.RowKit
structure Chg(S:Nat->Prop)(w w':World):Prop where
 os:w'.os=w.os
 tape:w'.tape=w.tape
 output:w'.output=w.output
 size:w.heap.size<=w'.heap.size
 block:∀k,k<w.heap.size->¬S k->w'.heap[k]? =w.heap[k]?
theorem Chg.refl(S:Nat->Prop)(w:World):Chg S w w:=⟨rfl,rfl,rfl,aj _,λ_ _ _=>rfl⟩
theorem Chg.trans{S:Nat->Prop}{a b c:World}(h:Chg S a b)(k:Chg S b c):Chg S a c:=
 ⟨k.os.trans h.os,k.tape.trans h.tape,k.output.trans h.output,aT h.size k.size,λi hi hn=>(k.block i (bw hi h.size) hn).trans (h.block i hi hn)⟩
theorem Chg.drewN{S:Nat->Prop}{a w:World}(h:Chg S a w)(n:Nat):Chg S a (w.drewN n):=⟨h.os,h.tape,h.output,h.size,h.block⟩
theorem Chg.grown{S:Nat->Prop}{a w w':World}{row:Option Nat}(h:Chg S a w)(hg:w.grownBy w' row)(hr:∀k,row=some k->S k\/a.heap.size<=k):Chg S a w':=
 ⟨hg.os.trans h.os,hg.tape.trans h.tape,hg.output.trans h.output,aT h.size hg.size,λk hk hn=>(hg.block k (bw hk h.size) (λe=>by
  rcases hr k e.symm with h1|h1
  .exact hn h1
  .omega)).trans (h.block k hk hn)⟩
theorem Chg.setCell{S:Nat->Prop}{a w:World}(h:Chg S a w){p:Addr}(hp:S p.block\/a.heap.size<=p.block)(u:Value):Chg S a (w.setCell p u):=
 ⟨h.os,h.tape,h.output,aT h.size (by simp[World.setCell]),λk hk hn=>(aU w p u k (λe=>by
  subst e;rcases hp with h1|h1
  .exact hn h1
  .omega)).trans (h.block k hk hn)⟩
theorem Chg.mono{S T:Nat->Prop}{a w:World}(h:Chg S a w)(hs:∀k,S k->T k):Chg T a w:=⟨h.os,h.tape,h.output,h.size,λk hk hn=>h.block k hk (λhk'=>hn (hs k hk'))⟩
theorem Chg.below{S:Nat->Prop}{a w:World}{B:Nat}(h:Chg S a w)(hB:B<=a.heap.size)(hs:∀k,S k->B<=k):Below B a w:=
 ⟨h.os,h.tape,h.output,h.size,λk hk=>h.block k (by omega) (λhk'=>by have:=hs k hk';omega)⟩
theorem Chg.of_ext{S:Nat->Prop}{a b c:World}(h:Chg S a b)(hb:Below b.heap.size b c):Chg S a c:=h.trans ⟨hb.os,hb.tape,hb.output,hb.size,λk hk _=>hb.block k hk⟩
theorem iL{S:Nat->Prop}{w w':World}{base:Nat}{e:TypeId}{size:Nat}{v:Value}{n:Nat}{xs:List Value}(h:w.ownsRow base e size v n xs)(hc:Chg S w w')(hn:∀g,v.ownBlock=some g->¬S g):w'.ownsRow base e size v n xs:=by
 refine⟨h.1,?_⟩
 rcases h.2 with h2|⟨g,cap,cur,rfl,hb,hh,r⟩
 .exact .inl h2
 .exact .inr ⟨g,cap,cur,rfl,hb,(hc.block g (au.1 hh).1 (hn g rfl)).trans hh,r⟩
section
variable {P:Program} {Q:Exit->Act->World->Prop}
end
def Dh(v v':Value):Prop:=∀g,v.ownBlock=some g->v'.ownBlock≠some g
end

section
open Go.RowKit
def sO(w:World)(base:Nat)(v:Value)(xs:List Int):Prop:=
 ∃g o cap cur,v=.slice (some ⟨g,o,none⟩) xs.length cap/\base<=g/\xs.length<=cap/\cap<=maxLen/\w.heap[g]? =some (.cells cur 3 (0,0))/\o+cap<=cur.size/\
  (∀k,k<xs.length->cur[o+k]? =some (.int .i64 (xs.getD k 0)))/\(∀x∈xs,I64 x)/\xs.length<=17592186044416
section
variable {w w':World} {base:Nat} {v:Value} {xs:List Int}
theorem sO.form(h:sO w base v xs):∃g o cap,v=.slice (some ⟨g,o,none⟩) xs.length cap/\xs.length<=cap/\cap<=maxLen/\iJ w (some ⟨g,o,none⟩) xs.length xs:=by
 obtain⟨g,o,cap,cur,rfl,h1,h2,h3,h4,h5,h6,h7,h8⟩:=h
 refine⟨g,o,cap,rfl,h2,h3,rfl,h8,λk hk=>⟨g,o,rfl,?_,h7 _ ?_⟩⟩
 .grind[cell_of_row]
 grind
theorem sO.low{k:Nat}(h:sO w base v xs)(hk:v.ownBlock=some k):base<=k/\k<w.heap.size:=by
 obtain⟨g,o,cap,cur,rfl,h1,h2,h3,h4,_⟩:=h
 simp only[Value.ownBlock,aW] at hk
 grind
theorem sO.chg{S:Nat->Prop}(h:sO w base v xs)(hc:Chg S w w')(hn:∀k,v.ownBlock=some k->¬S k):sO w' base v xs:=by
 obtain⟨g,o,cap,cur,rfl,h1,h2,h3,h4,h5⟩:=h
 exact⟨g,o,cap,cur,rfl,h1,h2,h3,(hc.block g (au.1 h4).1 (hn g rfl)).trans h4,h5⟩
theorem sO.ext(h:sO w base v xs)(hb:Below w.heap.size w w'):sO w' base v xs:=h.chg (S:=λ_=>False) ⟨hb.os,hb.tape,hb.output,hb.size,λk hk _=>hb.block k hk⟩ λ_ _ e=>e
theorem sO.of_own{g n c:Nat}(h:gD w base (.slice (some ⟨g,0,none⟩) n c) xs):sO w base (.slice (some ⟨g,0,none⟩) n c) xs:=by
 rcases h.1.2 with ⟨hv,_⟩|⟨g',cap,cur,hv,hb,hh,h1,h2,h3,h4⟩
 .grind
 .injection hv with e1 e2 e3;injection e1 with e1;injection e1 with e1 _ _;subst e1 e2 e3;refine⟨g,0,c,cur,rfl,hb,h1,h2,hh,by omega,λk hk=>?_,h.2.1,h.2.2⟩;have h5:(cur.toList.take (xs.length*1))[k]? =(fP xs)[k]?:=by rw[h4]
  rw[eY,aM (by omega)] at h5
  simp_all[fP]
theorem sO.tail{g o n c:Nat}{x:Int}(h:sO w base (.slice (some ⟨g,o,none⟩) n c) (x :: xs)):sO w base (.slice (some ⟨g,o+1,none⟩) xs.length (c-1)) xs:=by
 obtain⟨g',o',cap,cur,e,h1,h2,h3,h4,h5,h6,h7,h8⟩:=h
 injection e with e1 e2 e3
 injection e1 with e1
 injection e1 with e1 e4 _
 subst e1 e3 e4
 simp only[bk] at h2 h8
 refine⟨g,o+1,c-1,cur,rfl,h1,by omega,by omega,h4,by omega,λk hk=>?_,λz hz=>h7 z (by grind),by omega⟩
 have:=h6 (k+1) (by grind)
 grind
end
section
variable {P:Program} {Q:Exit->Act->World->Prop}
end
end

section
open Go.RowKit
theorem zZ(g:Nat)(e:TypeId):∀(vs:List Value) (w:World) (off:Nat) (cur:Array Value),w.heap[g]? =some (.cells cur e (0,0))->off+vs.length<=cur.size->
  ∃cur':Array Value,(w.setCells g off vs).heap[g]? =some (.cells cur' e (0,0))/\cur'.size=cur.size/\(∀j,j<vs.length->cur'[off+j]? =vs[j]?)/\(∀j,j<off->cur'[j]? =cur[j]?)/\w.grownBy (w.setCells g off vs) (some g)
 | [],w,off,cur,h,_=>⟨cur,h,rfl,λj hj=>absurd hj (by simp),λ_ _=>rfl,rfl,rfl,rfl,aj _,λ_ _ _=>rfl⟩
 |v :: vs,w,off,cur,h,hl=>by
  have h1:=aC w g off _ _ v h;obtain⟨cur',h2,h3,h4,h5,h6⟩:=zZ g e vs (w.setCell ⟨g,off,none⟩ v) (off+1) _ h1 (by grind);refine⟨cur',h2,by grind,λj hj=>?_,λj hj=>?_,?_⟩
  .grind
  .grind
  .refine⟨h6.os,h6.tape,h6.output,aT (by simp) h6.size,λk hk hne=>?_⟩;have hkg:k≠g:=λe=>hne (by rw[e]);exact(h6.block k (by simp_all) hne).trans (aU _ _ _ _ (λe=>hkg e))
section
variable {P:Program} {Q:Exit->Act->World->Prop}
theorem II(w:World)(base:Nat)(t ty:TypeId)(z:Value)(bytes:Nat)(ht:P.underlying t=some (.slice 3))(hinfo:(P.info? 3).map (λi=>(i.zero,i.size,i.bytes))=some (some z,1,bytes))(hzs:z.cells.size=1)
  (v:Value) (xs:List Int) (h:sO w base v xs) (A:Option Addr) (c:Nat) (ys:List Int) (hy:iJ w A ys.length ys) (hlen:xs.length<=1000000) (hly:ys.length<=1000000) (hb8:bytes<=16) (hbase:base<=w.heap.size):
  ∃v' w',(Builtin.append_ #[t,t] ty #[v,.slice A ys.length c]).run P w=.ok v' w'/\sO w' base v' (xs++ys)/\w.grownBy w' v.ownBlock/\(v'.ownBlock=v.ownBlock\/∃k,v'.ownBlock=some k/\w.heap.size<=k):=by
 obtain⟨i,hi,hz,hsize,hby⟩:=info_parts hinfo
 have hyI:∀q∈ys,I64 q:=λq hq=>by
  obtain⟨k,hk,rfl⟩:=bj.1 hq;obtain⟨_,_,_,_,hi⟩:=hy.2.2 k hk
  grind
 cases ys with
 |nil=>
  obtain⟨g,o,cap,cur,rfl,h1,h2,h3,h4,h5⟩:=id h;refine⟨.slice (some ⟨g,o,none⟩) xs.length cap,w,?_,by grind,⟨rfl,rfl,rfl,aj _,λ_ _ _=>rfl⟩,.inl rfl⟩;cases A with
  |none=>simp[Builtin.append_,bT ht,sizeOf,typeInfo,hi,Builtin.lenOf,Builtin.firstCells,h2,storeCells]
  |some ad=>
   have:=run_append_room_cells (P:=P) w t ty 3 i ht hi g o xs.length cap ad 0 c [] (by simp) (λj u hu=>by grind) (λu hu=>by grind) (by omega) (λj hj=>absurd hj (by simp)) (λj hj=>absurd hj (by simp));trivial
 |cons y0 ys0=>
  generalize hys:y0 :: ys0=ys at *;have hpos:0<ys.length:=by grind
  obtain⟨ga,oa,rfl,_,_⟩:=hy.2.2 0 hpos;have hnews:∀j u,(fP ys)[j]? =some u->w.cell? ((⟨ga,oa,none⟩:Addr).add j)=some u:=λj u hu=>by
   have hj:j<ys.length:=by grind[fP]
   obtain⟨b,o,e,hc,_⟩:=hy.2.2 j hj;injection e with e;injection e with e1 e2 _;subst e1 e2;have:(⟨ga,oa,none⟩:Addr).add j=⟨ga,oa+j,none⟩:=by unfold Addr.add;simp
   grind[fP]
  obtain⟨g,o,cap,cur,rfl,h1,h2,h3,h4,h5,h6,h7,h8⟩:=h;have hlv:(fP ys).length=ys.length:=by simp[fP]
  have hone:∀u∈fP ys,u.oneCell'=true:=λu hu=>by
   simp only[fP,a8] at hu;obtain⟨q,_,rfl⟩:=hu;rfl
  by_cases hr:xs.length+ys.length<=cap
  .have hsz:o+xs.length+(fP ys).length<=cur.size:=by omega
   obtain⟨cur',k1,k2,k3,k4,k5⟩:=zZ g 3 (fP ys) w (o+xs.length) cur h4 hsz;refine⟨_,_,run_append_room_cells (P:=P) w t ty 3 i ht hi g o xs.length cap ⟨ga,oa,none⟩ ys.length c (fP ys) (by grind) hnews hone hr (λj hj=>?_) (λj hj=>cY _ _ _ _ _ h4),?_,?_,.inl rfl⟩
   .rw[aZ _ _ _ _ _ _ h4,hsize,Array.getElem?_eq_getElem (by omega)];rfl
   .rw[hsize,fm];refine⟨g,o,cap,cur',by simp,h1,by grind,h3,k1,by omega,λk hk=>?_,λq hq=>?_,by grind⟩
    .simp only[bf] at hk;by_cases e:k<xs.length
     .rw[k4 (o+k) (by omega),h6 k e];simp[ak,cG e]
     .obtain⟨j,rfl⟩:∃j,k=xs.length+j:=⟨k-xs.length,by omega⟩
      have hj:j<ys.length:=by omega
      rw[<-Nat.add_assoc,k3 j (by omega)];simp[fP,ak,du,hj]
    .rcases ax.1 hq with hq|hq
     .exact h7 q hq
     .exact hyI q hq
   .rw[hsize,fm];exact k5
  .have holds:∀j u,(fP xs)[j]? =some u->w.cell? ((⟨g,o,none⟩:Addr).add j)=some u:=λj u hu=>by
    have hj:j<xs.length:=by have:=(aE.1 hu).1;simpa[fP] using this
    have:(⟨g,o,none⟩:Addr).add j=⟨g,o+j,none⟩:=by unfold Addr.add;split<;>simp_all
    rw[this,aZ _ _ _ _ _ _ h4,h6 j hj,<-hu];simp[fP,ak,hj]
   obtain⟨v',w',hrun,hown,hgr⟩:=run_append_arg_grows (P:=P) w t ty 3 i z 1 bytes ht hi hz hsize hby hzs (by omega) ⟨g,o,none⟩ xs.length cap (fP xs) (by simp[fP]) holds ⟨ga,oa,none⟩ ys.length c (fP ys) (by rw[hlv];omega) hnews (by omega) (by simp only[maxLen];omega) (by
    have:(xs.length+ys.length)*bytes<=(xs.length+ys.length)*16:=Nat.mul_le_mul_left _ hb8
    omega)
   obtain⟨g2,c2,rfl⟩:∃g2 c2,v'=.slice (some ⟨g2,0,none⟩) (xs.length+ys.length) c2:=by
    rcases hown.2 with ⟨_,h0⟩|⟨g2,c2,cur,hv,_⟩
    .omega
    .exact⟨g2,c2,hv⟩
   refine⟨_,w',hrun,?_,⟨hgr.os,hgr.tape,hgr.output,hgr.size,λk hk _=>hgr.block k hk (λe=>by cases e)⟩,.inr ⟨g2,rfl,(hown.lt g2 rfl).1⟩⟩;have:gD w' base (.slice (some ⟨g2,0,none⟩) (xs++ys).length c2) (xs++ys):=by
    refine⟨?_,λq hq=>?_,by simp;omega⟩
    .have e:fP (xs++ys)=fP xs++fP ys:=by simp[fP]
     rw[e,bf];exact hown.mono hbase
    .rcases ax.1 hq with hq|hq
     .exact h7 q hq
     .exact hyI q hq
   have h9:=sO.of_own this
   rwa [bf] at h9
theorem CF{ops:Array Oper}{rest:List Oper}{o:Oper}{a:Act}(hgd:o.guard=none)(w:World)(s x:Operand)(t:TypeId)(ho:o.op=.call {callee:=.builtin .append,args:=#[s,x],argTypes:=#[t,t]})
  (base:Nat) (z:Value) (bytes:Nat) (ht:P.underlying t=some (.slice 3)) (hinfo:(P.info? 3).map (λi=>(i.zero,i.size,i.bytes))=some (some z,1,bytes)) (hzs:z.cells.size=1)
  (v:Value) (xs:List Int) (hs:a.eval s=v) (hq:sO w base v xs) (A:Option Addr) (c:Nat) (ys:List Int) (hy:iJ w A ys.length ys) (hx:a.eval x=.slice A ys.length c) (hlen:xs.length<=1000000) (hly:ys.length<=1000000) (hb8:bytes<=16) (hbase:base<=w.heap.size)
  (h:∀v' w',sO w' base v' (xs++ys)->w.grownBy w' v.ownBlock->(v'.ownBlock=v.ownBlock\/∃k,v'.ownBlock=some k/\w.heap.size<=k)->wpList P ops Q rest (a.put o.dst v') w'):
  wpList P ops Q (o :: rest) a w:=by
 refine ee hgd λK hK=>?_
 obtain⟨v',w',hrun,h2,h3,h4⟩:=II (P:=P) w base t o.type z bytes ht hinfo hzs v xs hq A c ys hy hlen hly hb8 hbase
 unfold Oper.wp execOp
 simp only[ho,resolve,invoke,builtin,b7,dw,b8,dS,cE,dB,hs,hx,hrun]
 exact hK _ _ (h v' w' h2 h3 h4)
end
end

section
open Go.RowKit
abbrev blO(n:Nat)(f:Nat->Bool):Obj:=.cells (rB n λk=>.bool (f k)) 4 (0,0)
theorem A2(n:Nat):madeCells #[.bool false] n=rB n λ_=>.bool false:=by
 apply de
 intro j
 by_cases hj:j<n
 .simp[madeCells,rB,hj,Nat.mod_one]
 .rw[bZ (by simp[madeCells];omega),bZ (by simp[rB];omega)]
theorem Cj:(Tryz.prog.info? 4).map (λi=>(i.zero,i.size,i.bytes))=some (some (.bool false),1,1):=by kernel_rfl
def bkL(b:iA):BkL:=⟨b.rs.map λr=>⟨gV r.d,gM r.d⟩,jV b.h.t,(toD b.h.t).map Int.toNat⟩
def gN(bs:List iA):List BkL:=bs.map bkL
theorem kF(bs:List iA):(gN bs).length=bs.length:=by simp[gN]
theorem qD{bs:List iA}{k:Nat}{b:iA}(h:bs[k]? =some b):iB (gN bs) k=bkL b:=by
 simp[iB,gN,ak,h]
def NR(n:Nat)(b:iA):Bool:=(toD b.h.t).all λx=>decide (1<=x/\x<(n:Int))
def qZ(bs:List iA):Bool:=bs.all (NR bs.length)
theorem tJ{bs:List iA}(h:qZ bs=true):IY (gN bs):=by
 intro b hb c hc
 rw[kF] at hb|-
 have hx:bs[b]? =some bs[b]:=ah hb
 rw[qD hx] at hc
 obtain⟨x,hx2,rfl⟩:=a8.1 hc
 have h1:=aV.1 h bs[b] (bJ hb)
 have h2:=aV.1 h1 x hx2
 simp only[aN] at h2
 omega
def sb(bs:List iA)(w:World)(e:Ending)(w':World):Prop:=
 ((qZ bs=false/\e=.returned (.tuple #[.int .i64 0,.bool false]))\/(qZ bs=true/\∃k:Nat,e=.returned (.tuple #[.int .i64 k,.bool true])/\k<=bs.length/\(bs.length<=k↔∀b,b<bs.length->yO (gN bs) b)))/\Below w.heap.size w w'
theorem XR(pa:Option Addr)(pn pc:Nat)(ba:Option Addr)(bn bc:Nat)(bs:List iA)(w:World)(h:lY w ba bn bs)(h0:0<bn)(h1:bn<=200):
  Calls Tryz.prog 49 #[mB pa pn pc ba bn bc] w (sb bs w):=by
 have HB:=ac h
 have HLb:=ac h.1.1
 clear h
 go_enter Tryz.func49,Tryz.ntmps49
 go_upto_region 1 with (fail)
 obtain⟨W0,hW0⟩:∃W0,W0=w.alloc (.cells #[.slice pa pn pc,.slice ba bn bc] 25):=⟨_,rfl⟩
 rw[<-hW0]
 have hr0:W0.heap[w.heap.size]? =some (.cells #[.slice pa pn pc,.slice ba bn bc] 25):=by rw[hW0];exact ae _ _
 have hb0:Below w.heap.size w W0:=by rw[hW0];exact fD _ _
 have hs0:W0.heap.size=w.heap.size+1:=by rw[hW0];simp
 have f1:=cK 1 hr0 rfl
 have hl0:=fE hr0
 have hmk:=run_make_row' (P:=Tryz.prog) 184 4 (.bool false) 1 Tryz.underlying184 Cj rfl .i64 .i64 bn (by omega) (by omega) W0
 rw[A2] at hmk
 have HR0:=ac hr0
 have HB0:=ac hb0
 have HS0:=ac hs0
 clear hr0 hb0 hs0 hW0
 go_upto_region 2 with (fail)
 obtain⟨W1,hW1⟩:∃W1,W1=W0.alloc (blO bn λ_=>false):=⟨_,rfl⟩
 have hr1:W1.heap[W0.heap.size]? =some (blO bn λ_=>false):=by rw[hW1];exact ae _ _
 have hb1:Below W0.heap.size W0 W1:=by rw[hW1];exact fD _ _
 rw[show W0.alloc (Obj.cells (rB bn λ_=>Value.bool false) 4)=W1 from hW1.symm]
 have HR1:=ac hr1
 have HF1:=ac (fB hb1 HR0.out)
 have HB1:=ac (fC HB0.out hb1)
 have HHW:=ac hW1
 clear hmk f1 hl0 hr1 hb1 hW1 HR0 HB0
 rw[HS0.out] at HR1|-
 have f1:=cK 1 HF1.out rfl
 have hl1:=fE HF1.out
 go_wp2
 clear f1 hl1
 go_loopw [2,18] (λs2 i wr=>∃k:Nat,i=.int .i64 k/\s2=.int .i64 0/\k<=bn/\Hid (wr.heap[w.heap.size]? =some (.cells #[.slice pa pn pc,.slice ba bn bc] 25))/\Hid (wr.heap[w.heap.size+1]? =some (blO bn λ_=>false))/\Hid (Below w.heap.size w wr)/\Hid (∀j x,j<k->bs[j]? =some x->NR bn x=true)) (λ_ i _=>bn-(intOf i).toNat)
 case atStart=>exact⟨0,rfl,rfl,by omega,HF1,HR1,HB1,λj x hj=>absurd hj (by omega)⟩
 case round=>
  obtain⟨k,rfl,rfl,hk,HF,HS,HBk,HK⟩:=hrel;clear HF1 HR1 HB1 HHW;by_cases hlt:k<bn
  .obtain⟨r,b,o,hr,hok,rfl,c0,c1,c2,c3,c4⟩:=mJ (HB.out.ext HBk.out) hlt;have HRR:=ac hr;have HOK:=ac hok;have hlt':(k:Int)<(bn:Int):=by omega
   clear hr hok;go_upto_region 5 with (fail)
   obtain⟨Wi,hWi⟩:∃Wi,Wi=wr.alloc (oA r.h):=⟨_,rfl⟩
   have hri:Wi.heap[wr.heap.size]? =some (oA r.h):=by rw[hWi];exact ae _ _
   have hbi:Below wr.heap.size wr Wi:=by rw[hWi];exact fD _ _
   rw[show wr.alloc (Obj.cells #[.slice r.h.ia r.h.n r.h.c,.int .i64 r.h.t.kind,.int .i64 r.h.t.a,.int .i64 r.h.t.t0,.int .i64 r.h.t.t1] 121)=Wi from hWi.symm];obtain⟨-,t1,t2,t3,t4⟩:=YX hri rfl;have hli:=fE hri;have HBI:=ac (fC HBk.out hbi);have HFI:=ac (fB hbi HF.out);have HSI:=ac (fB hbi HS.out);clear hWi hri hbi c0 c1 c2 c3 c4 HF HS HBk
   go_wp2_with (
    (go_at_call 137
     refine(EE r.h.t Wi HOK.out.1).mono ?_;rintro e w2 ⟨v,rfl,ho,hb⟩;obtain⟨va,vc,rfl⟩:=ho.form;have HV:=ac ho.ints;have HB2:=ac (fC HBI.out hb);have HF2:=ac (fB hb HFI.out);have HS2:=ac (fB hb HSI.out)
     clear ho hb t1 t2 t3 t4 hli))
   clear HBI HFI HSI;have hlen:=xC r.h.t;obtain⟨wq,rfl⟩:∃x,x=w2:=⟨_,rfl⟩
   go_loopw [2,8,26] (λs2 _ i wi=>∃q:Nat,i=.int .i64 q/\s2=.int .i64 0/\q<=(toD r.h.t).length/\wi=wq/\Hid (∀j x,j<q->(toD r.h.t)[j]? =some x->1<=x/\x<(bn:Int))) (λ_ _ i _=>(toD r.h.t).length-(intOf i).toNat)
   case atStart=>exact⟨0,rfl,rfl,by omega,rfl,λj x hj=>absurd hj (by omega)⟩
   case round=>
    obtain⟨q,rfl,rfl,hq,rfl,HQ⟩:=hrel;by_cases hql:q<(toD r.h.t).length
    .obtain⟨x,hx⟩:∃x,(toD r.h.t)[q]? =some x:=⟨(toD r.h.t)[q],ah hql⟩
     have hgd:(toD r.h.t).getD q 0=x:=by rw[ak,hx];rfl
     obtain⟨b3,o3,rfl,hcx,hx1,hx2⟩:=HV.out.2.2 q hql;rw[hgd] at hcx hx1 hx2;have HX:=ac hx;have hql':(q:Int)<((toD r.h.t).length:Int):=by omega
     have f1:=cK 1 HF2.out rfl;have hl1:=fE HF2.out;clear hx hgd
     have hno:¬(1<=x/\x<(bn:Int))->qZ bs=false:=λhn=>fu.2 ⟨r,aK HRR.out,by
      rw[NR,Bool.not_eq_true,fu]
      exact⟨x,aK HX.out,by rw[HLb.out];simpa using hn⟩⟩
     have HNO:=ac hno;clear hno;by_cases ha:x<1
     .have HE:Hid (qZ bs=false):=HNO.out (by omega);go_wp2;refine aR (v:=.tuple #[.int .i64 0,.bool false]) (by simp[results,Tryz.results49,go_sem]) rfl ?_;exact⟨.inl ⟨HE.out,rfl⟩,HB2.out⟩
     .by_cases hbx:x<(bn:Int)
      .have hbx':¬(bn:Int)<=x:=by omega
       have HQ2:Hid (∀j y,j<q+1->(toD r.h.t)[j]? =some y->1<=y/\y<(bn:Int)):=λj y hj hy=>by
        by_cases e:j=q
        .subst e;rw[HX.out] at hy;cases hy;omega
        .exact HQ.out j y (by omega) hy
       go_wp2
       go_roundw
       case rel=>exact⟨q+1,by go_num,rfl,by omega,trivial,HQ2⟩
       case measure=>simp[intOf];omega
      .have HE:Hid (qZ bs=false):=HNO.out (by omega);have hbx':(bn:Int)<=x:=by omega
       go_wp2;refine aR (v:=.tuple #[.int .i64 0,.bool false]) (by simp[results,Tryz.results49,go_sem]) rfl ?_;exact⟨.inl ⟨HE.out,rfl⟩,HB2.out⟩
    .have HK2:Hid (∀j x,j<k+1->bs[j]? =some x->NR bn x=true):=λj y hj hy=>by
      by_cases e:j=k
      .subst e;rw[HRR.out] at hy;cases hy;rw[NR,aV];intro x hx;obtain⟨q',hq',e'⟩:=bj.1 hx;have:=HQ.out q' x (by omega) (by rw[ah hq',e']);simpa using this
      .exact HK.out j y (by omega) hy
     have hql':¬(q:Int)<((toD r.h.t).length:Int):=by omega
     go_wp2
     go_roundw
     case rel=>exact⟨k+1,by go_num,rfl,by omega,HF2,HS2,HB2,HK2⟩
     case measure=>simp[intOf];omega
  .have HIN:Hid (qZ bs=true):=aV.2 λx hx=>by
    obtain⟨j,hj,e⟩:=bj.1 hx;rw[HLb.out];exact HK.out j x (by rw[HLb.out] at hj;omega) (by rw[ah hj,e])
   have hlt':¬(k:Int)<(bn:Int):=by omega
   have hTO:=tJ HIN.out;have HTO:=ac hTO;have hps:w.heap.size+2<=wr.heap.size:=by have:=fE HS.out;omega
   clear hTO;go_wp2;obtain⟨W2,hW2⟩:∃W2,W2=wr.alloc (.cells #[.int .i64 0] 3):=⟨_,rfl⟩
   have hqI:sO W2 (w.heap.size+2) (.slice (some ⟨wr.heap.size,0,none⟩) 1 1) (fN [0]):=by
    rw[hW2];refine sO.of_own ⟨⟨rfl,.inr ⟨wr.heap.size,1,#[.int .i64 0],rfl,hps,ae _ _,aj _,by decide,rfl,rfl⟩⟩,λx hx=>?_,by simp[fN]⟩;simp[fN] at hx;subst hx;unfold I64;omega
   have hb2:Below wr.heap.size wr W2:=by rw[hW2];exact fD _ _
   rw[<-hW2];have HQI:=ac hqI;have HF2:=ac (fB hb2 HF.out);have HS2:=ac (fB hb2 HS.out);have HB2:=ac (fC HBk.out hb2);clear hqI hb2 hW2 HF HS HBk HK hlt hlt' hk hps
   go_loopg [2,9] (3*bn+1) (λgg s2 s9 wx=>∃(cN:Nat) (seen:Nat->Bool) (q:List Nat),s2=.int .i64 cN/\cN<=bn/\3*bn+q.length<=gg+3*cN/\q.length<=2*cN+1/\Hid (cN=cnt bn seen)/\Hid (vZ (gN bs) seen q)/\Hid (sO wx (w.heap.size+2) s9 (fN q))/\Hid (wx.heap[w.heap.size]? =some (.cells #[.slice pa pn pc,.slice ba bn bc] 25))/\Hid (wx.heap[w.heap.size+1]? =some (blO bn seen))/\Hid (Below w.heap.size w wx))
   case atStart=>exact⟨0,λ_=>false,[0],rfl,by omega,by simp,by simp,by simp[Hid,cnt],vZ.start (by rw[kF,HLb.out];exact h0),HQI,HF2,HS2,HB2⟩
   case round=>
    obtain⟨cN,seen,q,rfl,hcn,hgg,hql,HC,HQO,HQ,HF,HS,HBk⟩:=hrel;clear HQI HF2 HS2 HB2;obtain⟨g,o,cap,rfl,hl1,hl2,hints⟩:=HQ.out.form;cases q with
    |nil=>
     have HRA:=ac (od HQO.out);go_wp2;refine aR (v:=.tuple #[.int .i64 cN,.bool true]) (by simp[results,Tryz.results49,go_sem]) rfl ?_;refine⟨.inr ⟨HIN.out,cN,rfl,by rw[HLb.out];exact hcn,?_⟩,HBk.out⟩;have h9:=HRA.out;rw[kF,HLb.out] at h9;rw[HLb.out,HC.out];exact h9
    |cons x q'=>
     have hst:fN (x :: q')=(x:Int) :: fN q':=rfl;have hxr:x<bn:=by have:=HQO.out.lt x (by simp);rwa [kF,HLb.out] at this
     have h8:=HQ.out;rw[hst] at h8;rw[hst] at hints hl1;have hlen2:(fN q').length=q'.length:=by simp[fN]
     have hlen':((x:Int) :: fN q').length=q'.length+1:=by simp[fN]
     have hpop:=h8.tail;obtain⟨b1,o1,e1,hx0,_⟩:=hints.2.2 0 (by simp);injection e1 with e1;injection e1 with e1 e2;subst e1 e2;rw[Nat.add_zero] at hx0;have hx0':wr.cell? ⟨g,o,none⟩=some (.int .i64 (x:Int)):=hx0;rw[hlen'] at hl1;rw[hlen2] at hpop;rw[hst,hlen'];simp only[bk] at hql hgg;have hcc:(cap=1/\q'= [])\/∃c2,cap=c2+2:=by
      by_cases e:cap=1
      .exact .inl ⟨e,da (by omega)⟩
      .exact .inr ⟨cap-2,by omega⟩
     have hpop1:cap=1->q'= []->sO wr (w.heap.size+2) (.slice (some ⟨g,o,none⟩) 0 0) (fN []):=λe1 e2=>by
      obtain⟨g',o',cap',cur,e,k1,k2,k3,k4,k5,k6,k7,k8⟩:=h8;injection e with e1 e2 e3;injection e1 with e1;injection e1 with e1 e4 _;subst e1 e3 e4;exact⟨g,o,0,cur,rfl,k1,by simp[fN],by simp[maxLen],k4,by omega,λk hk=>by simp[fN] at hk,λz hz=>by simp[fN] at hz,by simp[fN]⟩
     unfold maxLen at hl2;have hsc:wr.cell? ⟨w.heap.size+1,x,none⟩=some (.bool (seen x)):=by rw[aZ _ _ _ _ _ _ HS.out,yM _ _ _ hxr]
     have hsf:wr.frozen? ⟨w.heap.size+1,x,none⟩=false:=cY _ _ _ _ _ HS.out;have hxr':(x:Int)<(bn:Int):=by omega
     have hls:=fE HS.out;cases hsx:seen x with
     |true=>
      rw[hsx] at hsc;have HQN:=ac (HQO.out.skip hsx);rcases hcc with ⟨rfl,hs0⟩|⟨c2,rfl⟩
      .have HQP:=ac (hpop1 rfl hs0);subst hs0;clear h8 hpop hpop1 hst hlen2 hlen' hints hx0;simp only[bx,bQ] at hl1 hgg hql|-;go_wp2
       go_roundg (3*bn-3*cN)
       case measure=>omega
       case rel=>exact⟨cN,seen,[],rfl,hcn,by simp;omega,by simp,HC,HQN,HQP,HF,HS,HBk⟩
      .have HQP:=ac hpop;clear h8 hpop hpop1 hst hlen2 hlen' hints hx0;go_wp2
       go_roundg (3*bn+q'.length-3*cN)
       case measure=>omega
       case rel=>exact⟨cN,seen,q',rfl,hcn,by omega,by omega,HC,HQN,HQP,HF,HS,HBk⟩
     |false=>
      rw[hsx] at hsc;have hcn1:cN+1<=bn:=by
       have h9:=ml hxr hsx;have h10:=Cl bn λk=>if k=x then true else seen k
       rw[HC.out];omega
      have HC1:Hid (cN+1=cnt bn λk=>if k=x then true else seen k):=by rw[Hid,ml hxr hsx,<-HC.out]
      have HQN:=ac (HQO.out.put HTO.out);have HS1:Hid ((wr.setCell ⟨w.heap.size+1,x,none⟩ (.bool true)).heap[w.heap.size+1]? =some (blO bn λk=>if k=x then true else seen k)):=by
       rw[Hid,aC _ _ _ _ _ _ HS.out,AH (g:=λk=>.bool (if k=x then true else seen k)) (by simp) (λk _ hk=>by simp[hk])]
      have HF1:Hid ((wr.setCell ⟨w.heap.size+1,x,none⟩ (.bool true)).heap[w.heap.size]? =some (.cells #[.slice pa pn pc,.slice ba bn bc] 25)):=by rw[Hid,aU _ _ _ _ (by simp)];exact HF.out
      have HB1:Hid (Below w.heap.size w (wr.setCell ⟨w.heap.size+1,x,none⟩ (.bool true))):=HBk.out.setCell (by simp) _;obtain⟨r,b,o2,hr,hok,rfl,c0,c1,c2',c3,c4⟩:=mJ (HB.out.ext HB1.out) hxr;have HTX:Hid (iB (gN bs) x=bkL r):=qD hr;have hto1:NR bn r=true:=by
       have:=aV.1 HIN.out r (aK hr)
       rwa [HLb.out] at this
      have HTI:Hid (fN ((toD r.h.t).map Int.toNat)=toD r.h.t):=by
       show((toD r.h.t).map Int.toNat).map (λk:Nat=>(k:Int))=toD r.h.t;rw[List.map_map]
       conv=>rhs;rw[<-List.map_id (toD r.h.t)]
       refine dA λy hy=>?_;have h9:=aV.1 hto1 y hy;simp only[aN] at h9;simp only[Function.comp,id];omega
      have hlto:=xC r.h.t;have HOK:=ac hok;have f1:=cK 1 HF1.out rfl;have hl3:=fE HF1.out;have hwq:w.heap.size+2<=wr.heap.size:=by omega
      clear hr hok hto1;rcases hcc with ⟨rfl,hs0⟩|⟨c2,rfl⟩
      case' inl=>have HQP:=ac (show sO wr (w.heap.size+2) (.slice (some ⟨g,o,none⟩) 0 0) (fN q') by rw[hs0];exact hpop1 rfl hs0);clear hs0
      case' inr=>have HQP:=ac hpop
      all_goals
       have HQS:=ac (HQP.out.chg (S:=λk=>k=w.heap.size+1) ((Chg.refl (λk=>k=w.heap.size+1) wr).setCell (p:=⟨w.heap.size+1,x,none⟩) (.inl rfl) (.bool true)) (λk hk e=>by have:=(HQP.out.low hk).1;omega));clear h8 hpop hpop1 hst hlen' hints hx0
       go_wp2_with (first
        |(go_at_call 137
          refine(EE r.h.t (wr.setCell ⟨w.heap.size+1,x,none⟩ (.bool true)) HOK.out.1).mono ?_;rintro e w5 ⟨v,rfl,ho,hb5⟩;obtain⟨va,vc,rfl⟩:=ho.form;have HV:=ac ho.ints;have HQ5:=ac (HQS.out.ext hb5);have HB5:=ac (fC HB1.out hb5);have HF5:=ac (fB hb5 HF1.out);have HS5:=ac (fB hb5 HS1.out);have hw5:w.heap.size+2<=w5.heap.size:=(by have:=fE HS5.out;omega)
          clear ho hb5)
        |(at_builtin
          refine CF rfl w5 (.tmp 60) (.tmp 67) 22 rfl (w.heap.size+2) _ 8 be pY rfl _ (fN q') rfl HQ5.out va vc (toD r.h.t) HV.out rfl (by omega) (by omega) (by omega) hw5 ?_;intro v6 w6 hq6 hg6 hb6;have HQ6:=ac hq6;have HG6:Hid (∀k,k<w.heap.size+2->w6.heap[k]? =w5.heap[k]?):=(λk hk=>hg6.block k (by omega) (λe=>by have:=(HQ5.out.low e.symm).1;omega))
          have HB6:Hid (Below w.heap.size w w6):=(HB5.out.grown hg6 (by omega) (λk e=>by have:=(HQ5.out.low e).1;omega))
          clear hq6 hg6 hb6))
       have hto:(iB (gN bs) x).to=(toD r.h.t).map Int.toNat:=by rw[HTX.out];rfl
       have hlq:(q'++(iB (gN bs) x).to).length<=q'.length+2:=by rw[hto,bf,cT];omega
       go_roundg (3*bn+(q'++(iB (gN bs) x).to).length-3*(cN+1))
       case measure=>omega
       case rel=>
        refine⟨cN+1,_,q'++(iB (gN bs) x).to,by go_num,hcn1,by omega,by omega,HC1,HQN,?_,(HG6.out _ (by omega)).trans HF5.out,(HG6.out _ (by omega)).trans HS5.out,HB6⟩;have h9:=HQ6.out;rw[<-HTI.out,<-hto] at h9;show sO w6 (w.heap.size+2) v6 ((q'++(iB (gN bs) x).to).map λk:Nat=>(k:Int));rw[cU];exact h9
end

section
open Go.RowKit
section
variable {P:Program} {ops:Array Oper} {rest:List Oper} {o:Oper} {a:Act}
theorem gU{C:World->Prop}{Q:Act->Prop}(hw:Region.wanted o (yielded ops a.tmps)=true)(ty:TypeId)(x:Operand)(ho:o.op=.load ty x)
  (b q:Nat) (hx:a.eval x=.pointer (some ⟨b,q,none⟩)) (cs:List Value) (d:TypeDesc) (hc:∀w,C w->w.rangeAt b q cs)
  (hu:P.underlying ty=some d) (hd:d.isRow=true) (hi:(P.info? ty).map (·.size)=some cs.length)
  (h:wpQuiet P ops C Q rest (a.put o.dst (.agg cs.toArray))):wpQuiet P ops C Q (o :: rest) a:=
 BigFrame.wpQuiet_want hw λ_ hK=>⟨.agg cs.toArray,λw hC=>by
  unfold Oper.quietAt execOp;simp only[ho,hx,Instr.loadAt,Instr.sureAddr,b7,dw,b8,run_loadVar_mid w b q ty cs d (hc w hC) hu hd hi]
  trivial,hK _ h⟩
end
theorem OL{base:Nat}{e:TypeId}{size g n c:Nat}:∀(vs:List Value) (o:Nat) (xs:List Value) (w:World),w.ownsRow base e size (.slice (some ⟨g,0,none⟩) n c) n xs->o+vs.length<=xs.length->
  (w.setCells g o vs).ownsRow base e size (.slice (some ⟨g,0,none⟩) n c) n (xs.take o++vs++xs.drop (o+vs.length))
 | [],o,xs,w,h,_=>by simpa[World.setCells] using h
 |v :: r,o,xs,w,h,ho=>by
  have h1:=OL r (o+1) _ _ (h.stored o v).1 (by grind);rw[World.setCells]
  grind[List.drop_set_of_lt,List.take_add_one,List.take_set_of_le]
theorem KI{α:Type}(cs:α->List Value)(size:Nat)(hs:∀x,(cs x).length=size)(x:α):∀(l:List α) (k:Nat),k<l.length->(l.flatMap cs).take (k*size)++cs x++(l.flatMap cs).drop (k*size+size)=(l.set k x).flatMap cs
 |y :: l,0,_=>by
  grind
 |y :: l,k+1,h=>by
  have ih:=KI cs size hs x l k (by grind)
  simp_all[Nat.add_mul,List.drop_append,List.take_append,bC,dx]
section
variable {α:Type} {e:TypeId} {size:Nat} {cs:α->List Value} {w w':World} {base:Nat} {ls:List α} {g n c:Nat}
theorem iP.range(hs:∀x,(cs x).length=size)(h:iP e size cs w base (.slice (some ⟨g,0,none⟩) n c) ls)(z:α){k:Nat}(hk:k<ls.length):w.rangeAt g (k*size) (cs (ls.getD k z)):=by
 obtain rfl:n=ls.length:=by obtain⟨a,c',e⟩:=h.form;grind
 have hr:=h.recs hs
 obtain⟨b,o,ea,hc⟩:=hr.at_ (k:=k) (by omega) z
 intro j v hv
 grind
theorem iP.setAt(hs:∀x,(cs x).length=size)(h:iP e size cs w base (.slice (some ⟨g,0,none⟩) n c) ls){k:Nat}(hk:k<ls.length)(x:α):iP e size cs (w.setCells g (k*size) (cs x)) base (.slice (some ⟨g,0,none⟩) n c) (ls.set k x):=by
 obtain rfl:n=ls.length:=by obtain⟨a,c',e⟩:=h.form;grind
 have hl:=vL cs size hs ls
 have hkk:k*size+size<=ls.length*size:=by
  have:(k+1)*size<=ls.length*size:=ef _ hk
  grind
 have h1:=OL (cs x) (k*size) _ _ h.1 (by grind)
 rw[hs,KI cs size hs x ls k hk] at h1
 refine⟨?_,by simpa using h.2⟩
 grind
theorem iP.there(hs:∀x,(cs x).length=size)(h:iP e size cs w base (.slice (some ⟨g,0,none⟩) n c) ls){k:Nat}(hk:k<ls.length):w.there g (k*size) size:=by
 have hkk:k*size+size<=ls.length*size:=by
  have:(k+1)*size<=ls.length*size:=ef _ hk
  grind
 rcases h.1.2 with ⟨h0,_⟩|⟨g',cap,cur,hv,hb,hh,hnc,hcm,hcs,ht⟩
 .omega
 .obtain⟨rfl,rfl,rfl⟩:=hv;intro j hj;have:ls.length*size<=c*size:=ef _ hnc;refine⟨?_,cY _ _ _ _ _ hh⟩;rw[aZ _ _ _ _ _ _ hh]
  grind
end
theorem lC{S:Nat->Prop}{a:World}{g:Nat}(hs:S g):∀(vs:List Value) (o:Nat) (w:World),Chg S a w->Chg S a (w.setCells g o vs)
 | [],_,_,h=>h
 |v :: r,o,w,h=>lC hs r (o+1) _ (h.setCell (Or.inl hs) v)
end

section
open Go.RowKit Go.Shelf
attribute [local go_sem] Oper.semAt_some iF gH gS fX
def wf:Go.Shelf.Ren:=⟨λ|29=>220|n=>n,λ|0=>0|3=>3|4=>4|5=>5|22=>122|25=>311|54=>341|n=>n,λ|1=>0|n=>n⟩
theorem De:Go.Proofs.Lays7.n29 Tryz.prog wf:={
 mixed:=by rfl
 f29:=Tryz.func220.trans (bh some (by rfl))
 t0:=Tryz.underlying0
 a0:=Tryz.isAgg0
 z0:=Tryz.sizeOf0
 v0:=Tryz.zeroValue0
 i0:=by kernel_rfl
 t3:=bP
 a3:=Tryz.isAgg3
 z3:=Tryz.sizeOf3
 v3:=Tryz.zeroValue3
 i3:=by kernel_rfl
 t4:=eC
 a4:=Tryz.isAgg4
 z4:=Tryz.sizeOf4
 v4:=Tryz.zeroValue4
 i4:=by kernel_rfl
 t5:=Tryz.underlying5
 a5:=Tryz.isAgg5
 z5:=Tryz.sizeOf5
 v5:=Tryz.zeroValue5
 i5:=by kernel_rfl
 t22:=fh
 a22:=Tryz.isAgg122
 z22:=Tryz.sizeOf122
 v22:=Tryz.zeroValue122
 i22:=by kernel_rfl
 t25:=Tryz.underlying311
 a25:=Tryz.isAgg311
 z25:=Tryz.sizeOf311
 v25:=Tryz.zeroValue311
 i25:=by kernel_rfl
 t54:=Tryz.underlying341
 a54:=Tryz.isAgg341
 z54:=Tryz.sizeOf341
 g1:=by kernel_rfl}
def Tab(w:World):Prop:=TabAt 0 Lib.deBruijn64tab w
theorem Tab.ext{w w':World}(h:Tab w)(hb:Below w.heap.size w w'):Tab w':=λj hj=>fZ hb (h j hj)
theorem By(x:Nat)(hx:x<18446744073709551616)(w:World)(hT:Tab w):Calls Tryz.prog 220 #[.int .u64 x] w λe w'=>e=.returned (.int .i64 (Lib.ctz 64 x))/\w'=w:=
 Any7.bits_TrailingZeros64 De x hx w λ_=>hT
theorem iS{F:Fence}{n:Nat}{P:Program}{ops:Array Oper}{rest:List Oper}{o:Oper}{a:Act}{w:World}{Q:Exit->Act->World->Prop}(hgd:o.guard=none)(ty:TypeId)(x:Operand)(ho:o.op=.load ty x)
  (g:Nat) (hx:a.eval x=.pointer (some ⟨g,0,none⟩)) (t:TypeId) (cs:Array Value) (fr:Nat×Nat) (d:TypeDesc) (hg:w.heap[g]? =some (.cells cs t fr))
  (hu:P.underlying ty=some d) (hd:(match d with| .struct _| .array _ _=>true|_=>false)=true) (hi:(P.info? ty).map (·.size)=some cs.size)
  (h:wpListIn F n P ops Q rest (a.put o.dst (.agg cs)) w):wpListIn F n P ops Q (o :: rest) a w:=by
 refine wpListIn_plain hgd λK' hK'=>?_
 refine⟨by simp[Oper.about,ho],?_⟩
 rw[Oper.semAt_plain F _ _ (by grind)]
 simp only[execOp,ho,hx,Instr.loadAt,Instr.sureAddr,b7,dw,b8,cQ w g t ty cs fr d hg hu hd hi]
 exact hK' _ _ h
theorem JT(cs:Array Value)(o:Nat)(v:Value)(w:World)(h:cs[o]? =some v):(part 122 cs o).run Tryz.prog w=.ok v w:=by
 have hu:(underlying 122).run Tryz.prog w=.ok (.int .u64) w:=bT fh w
 simp[part,isAgg,hu,h]
theorem iy(S k:Nat)(h:k<16)(w:World):(Instr.index 124 (.agg (iW S)) (.int .i64 (k:Int))).run Tryz.prog w=.ok (.int .u64 (wd S k:Nat)) w:=by
 have hz:(sizeOf 122).run Tryz.prog w=.ok 1 w:=Tryz.sizeOf122 w
 have p0:(part 122 (iW S) k).run Tryz.prog w=.ok (.int .u64 (wd S k:Nat)) w:=JT _ _ _ w (IL S k h)
 simp[Instr.index,asIntOf,bT (w:=w) bK,hz,p0,Result.andThen]
 omega
def BC(S k:Nat):List Nat:=(List.range' k (16-k)).flatMap λi=>(lT 64 (wd S i)).map λj=>64*i+j
def xZ(S k x:Nat):List Nat:=((lT 64 x).map λj=>64*k+j)++BC S (k+1)
theorem gj(S:Nat):BC S 0=lT 1024 S:=by rw[BC,LZ S 16,List.range_eq_range']
theorem n9(S:Nat):BC S 16= []:=rfl
theorem gk(S k:Nat)(h:k<16):BC S k=xZ S k (wd S k):=by
 rw[BC,show 16-k=(16-(k+1))+1 by omega,List.range'_succ,dq]
 rfl
theorem gd(S k:Nat):xZ S k 0=BC S (k+1):=by rfl
theorem gh(S k x:Nat)(h0:x≠0)(hx:x<2^64):xZ S k x=(64*k+Lib.ctz 64 x) :: xZ S k (x&&&(x-1)):=by
 grind[xZ,rt]
theorem ry(S:Nat)(w:World):Calls Tryz.prog 143 #[.agg (iW S)] w λe w'=>e=.returned (.func (.func 219) #[] #[.pointer (some ⟨w.heap.size,0,none⟩)])/\w'=w.alloc (bsO S):=by
 go_wp2
 go_ret
 simp
theorem YA(args:Array Value)(w:World):(callFunc 219 args).run Tryz.prog w=.ok (.enter 219 args) w:=dK Tryz.func219 (by rfl) rfl args w
theorem YP(S G:Nat):uU Tryz.prog 219 #[.pointer (some ⟨G,0,none⟩)] rU (lT 1024 S) (λW=>W.heap[G]? =some (bsO S)/\Tab W):=by
 intro l K Kx W hK hKx hInv hY h0
 refine eK Tryz.func219 rfl trivial ?_ rfl
 simp only[Tryz.ntmps219,bd,bk,bx,Nat.reduceAdd,Nat.reduceSub,bF,bG,bV,bN,bD,bU]
 have HY:=ac hY
 have HI:=ac hInv
 have HK0:=ac hK
 have H0:Hid (K (BC S 0) W):=by rw[Hid,gj];exact h0
 have HG:=ac (hInv _ _ h0).1
 clear hY hInv hK hKx h0
 gi_wp2_with (refine iS rfl 124 _ rfl G rfl 124 _ (0,0) _ HG.out bK rfl (by rw[iE];exact iX) ?_)
 gi_loopw [3,4,6] (λ_ _ i wr=>∃k:Nat,i=.int .i64 k/\k<=16/\Hid (K (BC S k) wr)) (λ_ _ i _=>16-(intOf i).toNat)
 case atStart=>exact⟨0,rfl,by omega,H0.out⟩
 case round=>
  obtain⟨k,rfl,hk,HK⟩:=hrel;clear H0 HG;by_cases hlt:k<16
  .have hlt':(k:Int)<16:=by omega
   have hidx:=iy S k hlt;have HKi:Hid (K (xZ S k (wd S k)) wr):=by have:=HK.out;rwa [gk S k hlt] at this
   have hwl:=TS S k;obtain⟨y0,hy0⟩:∃y,y=wd S k:=⟨_,rfl⟩
   rw[<-hy0] at hidx HKi hwl;clear hy0 HK
   gi_wp2
   obtain⟨wo,rfl⟩:∃wo:World,wo=wr:=⟨_,rfl⟩
   gi_loopw [4] (λx wi=>∃y:Nat,x=.int .u64 (y:Int)/\y<18446744073709551616/\Hid (K (xZ S k y) wi)) (λx _=>(intOf x).toNat)
   case atStart=>exact⟨y0,rfl,hwl,HKi⟩
   case round=>
    obtain⟨y,rfl,hy64,HKy⟩:=hrel;clear HKi hidx;by_cases hy0:y=0
    .subst hy0;have HKn:Hid (K (BC S (k+1)) wr):=by have:=HKy.out;rwa [gd] at this
     gi_wp2
     go_roundw
     case rel=>exact⟨k+1,by go_num,by omega,HKn⟩
     case measure=>simp[intOf];omega
    .have hyb:((y:Int)==0)=false:=by simpa using hy0
     have hyn:((y:Int) != 0)=true:=by simpa using hy0
     have HR:=ac (gh S k y hy0 hy64);have HTab:Hid (Tab wr):=(HI.out _ _ HKy.out).2;obtain⟨c,hc⟩:∃c,c=Lib.ctz 64 y:=⟨_,rfl⟩
     have hcl:c<64:=by rw[hc];exact(VG y hy0 hy64).2.1
     obtain⟨u,hu⟩:∃u,u=y&&&(y-1):=⟨_,rfl⟩
     have HU:=ac hu;obtain⟨z,hz⟩:∃z,z=y-1:=⟨_,rfl⟩
     have e3:IntKind.u64.wrap ((y:Int)-1)=(z:Int):=by rw[IntKind.wrap_u64,hz];omega
     have e4:bits .and .u64 (y:Int) (z:Int)=(u:Int):=by rw[hu,hz];exact bits_and_u64_nat _ _ hy64 (by omega)
     have hul:u<y:=by rw[hu];exact Nat.lt_of_le_of_lt Nat.and_le_right (by omega)
     obtain⟨q,hq⟩:∃q,q=64*k:=⟨_,rfl⟩
     have e1:IntKind.i64.wrap ((k:Int)*64)=(q:Int):=by rw[hq,IntWalk.i64_in _ (by omega)];omega
     obtain⟨v,hv⟩:∃v,v=q+c:=⟨_,rfl⟩
     have e2:IntKind.i64.wrap ((q:Int)+(c:Int))=(v:Int):=by rw[hv,IntWalk.i64_in _ (by omega)];omega
     have HR1:Hid (xZ S k y=v :: xZ S k u):=by rw[Hid,HR.out,hv,hq,hc,hu]
     have HC:Hid (Lib.ctz 64 y=c):=hc.symm;obtain⟨fn,tmps,assign,body,hy,hR⟩:=HY.out (xZ S k y) v wr (by rw[HR1.out];rfl) HKy.out;unfold rU at hy;have hT:nxL (xZ S k y) v=xZ S k u:=by rw[HR1.out];rfl
     rw[hT] at hR;have HR2:=ac hR;clear hT hR hc hu hz hq hv HR hy0
     gi_wp2_with (
      (gi_at_call 220
       refine(bu.2 (By y hy64 wr HTab.out)).mono ?_;rw[HC.out]
       rintro e w2 ⟨rfl,rfl⟩))
     refine HR2.out.mono ?_;rintro e W' (⟨rfl,hJ'⟩|⟨rfl,hX'⟩)
     .have HK1:=ac hJ';clear hJ' hy HR2
      gi_wp2
      go_roundw
      case rel=>exact⟨u,rfl,by omega,HK1⟩
      case measure=>simp[intOf];omega
     .have HX:=ac hX';clear hX' hy HR2
      gi_wp2
      exact aR (v:=.tuple #[]) (by simp[results,Tryz.results219,go_sem]) rfl ⟨⟨_,rfl⟩,Or.inr HX.out⟩
  .obtain rfl:k=16:=by omega
   gi_wp2
   go_end0
   exact⟨⟨_,rfl⟩,Or.inl ⟨_,n9 S,HK.out⟩⟩
end
end Go.Proofs.YtbknbcmppdglhaaGreatDoor
