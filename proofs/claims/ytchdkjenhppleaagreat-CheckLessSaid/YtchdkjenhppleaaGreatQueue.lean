/-
 How great functions,tiles are:BlocksOf,FuncOf,the laws' own great.
-/
import Derived.Test.YtchdkjenhppleaaGreatA0
import Derived.Test.YtchdkjenhppleaaGreatTX
import Derived.Test.YtchdkjenhppleaaGreatInsR
import Derived.Deep.LoopGhost
import Derived.Test.YtchdkjenhppleaaGreatKQ
import Derived.Test.YtchdkjenhppleaaGreatTR
import Derived.Test.YtchdkjenhppleaaGreatTE
import Derived.Test.YtchdkjenhppleaaGreatFJ
import Derived.ArgAppend
import Derived.Deep.Onto
import Derived.Maps.AppendAt
namespace Go.Proofs.YtchdkjenhppleaaGreat
set_option linter.unusedSimpArgs false
set_option linter.unusedVariables false
set_option linter.unusedSectionVars false
set_option maxRecDepth 100000
set_option maxHeartbeats 40000000
section
open Go.RowKit
def pq(w:World)(a:Option Addr)(n:Nat)(bs:List jU):Prop:=iP w a n bs/\∀b∈bs,∃rs,rN w b.ia b.n rs
end

section
open Go.RowKit
attribute [local go_sem] Oper.semAt_some iB fS gP fH
structure gZ where
 h:jU
 rs:List iO
abbrev m8(b:gZ):List Value:=RM b.h
theorem ZD(b:gZ):(m8 b).length=5:=rfl
def wM(w:World)(b:gZ):Prop:=rM b.h.t/\rN w b.h.ia b.h.n b.rs
theorem wM.ext{w w':World}{b:gZ}(h:wM w b)(hb:Below w.heap.size w w'):wM w' b:=⟨h.1,h.2.ext hb⟩
def tR(w:World)(a:Option Addr)(n:Nat)(bs:List gZ):Prop:=mO 5 m8 w a n bs/\∀b∈bs,wM w b
theorem tR.ext{w w':World}{a:Option Addr}{n:Nat}{bs:List gZ}(h:tR w a n bs)(hb:Below w.heap.size w w'):tR w' a n bs:=⟨h.1.ext ZD hb,λb hx=>(h.2 b hx).ext hb⟩
def hOf(bs:List gZ):List jU:=bs.map (·.h)
theorem tR.x{w:World}{a:Option Addr}{n:Nat}{bs:List gZ}(h:tR w a n bs):pq w a n (hOf bs):=by
 refine⟨⟨⟨by simp[hOf,h.1.1],h.1.2.1,λk r hr=>?_⟩,λb hb=>?_⟩,λb hb=>?_⟩
 .simp only[hOf,dv,Option.map_eq_some_iff] at hr;obtain⟨x,hx,rfl⟩:=hr;exact h.1.2.2 k x hx
 .simp only[hOf,bi] at hb;obtain⟨x,hx,rfl⟩:=hb;exact(h.2 x hx).1
 .simp only[hOf,bi] at hb;obtain⟨x,hx,rfl⟩:=hb;exact⟨x.rs,(h.2 x hx).2⟩
end

section
open Go.RowKit
theorem pJ{w:World}{a:Option Addr}{n:Nat}{rs:List gZ}(h:tR w a n rs){k:Nat}(hk:k<n):∃r b o,rs[k]? =some r/\wM w r/\a=some ⟨b,o,none⟩/\w.cell? ⟨b,o+k*5,none⟩=some (.slice r.h.ia r.h.n r.h.c)/\w.cell? ⟨b,o+k*5+1,none⟩=some (.int .i64 r.h.t.kind)/\w.cell? ⟨b,o+k*5+2,none⟩=some (.int .i64 r.h.t.a)/\w.cell? ⟨b,o+k*5+3,none⟩=some (.int .i64 r.h.t.t0)/\w.cell? ⟨b,o+k*5+4,none⟩=some (.int .i64 r.h.t.t1):=by
 have hk':k<rs.length:=by rw[h.1.1];exact hk
 obtain⟨r,hr⟩:∃r,rs[k]? =some r:=⟨rs[k],au hk'⟩
 obtain⟨b,o,e,hc⟩:=h.1.2.2 k r hr
 exact⟨r,b,o,hr,h.2 r (aK hr),e,hc 0 (by omega),hc 1 (by omega),hc 2 (by omega),hc 3 (by omega),hc 4 (by omega)⟩
def KA(ps:List Int):Bool:=ps.all iG&&decide ps.Nodup
def GH(b:gZ):Bool:=jK b.h.t&& !b.rs.any λr=> !iQ r.d
def iW(ps:List Int)(bs:List gZ):Bool:=KA ps&&bs.all GH
theorem UP{ps:List Int}{k:Nat}{x:Int}(h:ps[k]? =some x)(hx:iG x=false\/x∈ps.take k):KA ps=false:=by
 unfold KA
 rcases hx with hx|hx
 .have:ps.all iG=false:=List.all_eq_false.2 ⟨x,aK h,by simp[hx]⟩;rw[this];rfl
 .have:¬ps.Nodup:=λhn=>by
   have hk:=(aI.1 h).1;have e:=(aI.1 h).2;rw[<-List.take_append_drop k ps] at hn;have h2:=(ed.1 hn).2.2 x hx x (by rw[cw hk,e];simp);exact h2 rfl
  simp[this]
theorem gy{ps:List Int}(h:∀k x,ps[k]? =some x->iG x=true/\x∉ps.take k):KA ps=true:=by
 unfold KA
 rw[az,aR]
 refine⟨bq.2 λx hx=>?_,?_⟩
 .obtain⟨k,hk,e⟩:=a8.1 hx;exact(h k x (by rw[au hk,e])).1
 .rw[List.nodup_iff_pairwise_ne,List.pairwise_iff_getElem];intro i j hi hj hij e;have:=(h j ps[j] (by rw[au hj])).2;refine this ?_;rw[<-e];exact a8.2 ⟨i,by simp;omega,by simp⟩
def AY(ps:List Int)(k j:Nat):Bool:=decide ((j:Int)∈ps.take k)
theorem VG{bs:List gZ}{k:Nat}{b:gZ}(h:bs[k]? =some b)(hb:GH b=false):bs.all GH=false:=List.all_eq_false.2 ⟨b,aK h,by simp[hb]⟩
theorem BR(pa:Option Addr)(pn pc:Nat)(ps:List Int)(ba:Option Addr)(bn bc:Nat)(bs:List gZ)(w:World)(hp:fR w pa pn ps)(h:tR w ba bn bs):
  Calls Tryz.prog 73 #[kF pa pn pc ba bn bc] w λe w'=>e=.returned (.bool (iW ps bs))/\Below w.heap.size w w':=by
 have HP:=ac hp
 have HL:=ac hp.1
 have hn:=hp.2.1
 have HB:=ac h
 have HLb:=ac h.1.1
 have hbn:=h.1.2.1
 clear h hp
 go_enter Tryz.func73,Tryz.ntmps73
 go_upto_region 2 with (fail)
 obtain⟨W,hW⟩:∃W,W=(w.alloc (.cells #[.slice pa pn pc,.slice ba bn bc] 47)).alloc (vsO λ_=>false):=⟨_,rfl⟩
 rw[lN,<-hW]
 have hr0:W.heap[w.heap.size]? =some (.cells #[.slice pa pn pc,.slice ba bn bc] 47):=by rw[hW,aJ _ _ _ (by simp)];exact ai _ _
 have hr1:W.heap[w.heap.size+1]? =some (vsO λ_=>false):=by
  rw[hW];have:=ai (w.alloc (.cells #[.slice pa pn pc,.slice ba bn bc] 47)) (vsO λ_=>false);simpa using this
 have hbw:Below w.heap.size w W:=by rw[hW];exact((ao _ w).alloc (aw _) _).alloc (by simp) _
 have f0:=cK 0 hr0 rfl
 have hl0:=eT hr0
 have HR0:=ac hr0
 have HR1:=ac hr1
 have HBW:=ac hbw
 clear hW hr0 hr1 hbw
 go_wp2
 clear f0 hl0
 go_loopw [5,11] (λ_ i wr=>∃k:Nat,i=.int .i64 k/\k<=pn/\Hid (wr.heap[w.heap.size]? =some (.cells #[.slice pa pn pc,.slice ba bn bc] 47))/\Hid (wr.heap[w.heap.size+1]? =some (vsO (AY ps k)))/\Hid (Below w.heap.size w wr)/\Hid (∀j x,j<k->ps[j]? =some x->iG x=true/\x∉ps.take j)) (λ_ i _=>pn-(intOf i).toNat)
 case atStart=>exact⟨0,rfl,by omega,HR0,by rw[Hid,CO (f:=AY ps 0) (g:=λ_=>false) (λj _=>by simp[AY])];exact HR1.out,HBW,λj x hj=>absurd hj (by omega)⟩
 case round=>
  obtain⟨k,rfl,hk,HF,HS,HBk,HK⟩:=hrel;clear HR0 HR1 HBW;by_cases hlt:k<pn
  .obtain⟨b,o,rfl,hc,hw1,hw2⟩:=(HP.out.ext HBk.out).2.2 k hlt;have hkx:k<ps.length:=by rw[HL.out];exact hlt
   obtain⟨x,hx⟩:∃x,ps[k]? =some x:=⟨ps[k],au hkx⟩
   have hgd:ps.getD k 0=x:=by rw[ax,hx];rfl
   rw[hgd] at hc hw1 hw2;have HX:=ac hx;have hlt':(k:Int)<(pn:Int):=by omega
   have hl1:=eT HS.out;clear hx hgd;cases hv:iG x with
   |false=>
    have HE:Hid (iW ps bs=false):=by rw[Hid,iW,UP HX.out (.inl hv)];rfl
    go_wp2_with (go_at_call 106;refine(kX x wr).mono ?_;rw[hv];rintro e w1 ⟨rfl,rfl⟩)
    go_ret
    exact⟨by rw[HE.out];rfl,HBk.out⟩
   |true=>
    have hvr:=sR.1 hv;obtain⟨m,rfl⟩:∃m:Nat,x=(m:Int):=⟨x.toNat,by omega⟩
    have hm:(m:Int)<201:=by omega
    have hcell:=oL HS.out m (by omega);have hfr:=sD HS.out m;cases hsm:AY ps k m with
    |true=>
     rw[hsm] at hcell;have HE:Hid (iW ps bs=false):=by rw[Hid,iW,UP HX.out (.inr (by simpa[AY] using hsm))];rfl
     clear hvr
     go_wp2_with (go_at_call 106;refine(kX (m:Int) wr).mono ?_;rw[hv];rintro e w1 ⟨rfl,rfl⟩)
     go_ret
     exact⟨by rw[HE.out];rfl,HBk.out⟩
    |false=>
     rw[hsm] at hcell;have HS2:Hid ((wr.setCell ⟨w.heap.size+1,m,none⟩ (.bool true)).heap[w.heap.size+1]? =some (vsO (AY ps (k+1)))):=uF HS.out m true λj _=>by
      unfold AY;rw[bo,HX.out];by_cases e:j=m
      .simp[e]
      .have e2:¬(j:Int)=(m:Int):=by omega
       simp[e,e2]
     have HF2:Hid ((wr.setCell ⟨w.heap.size+1,m,none⟩ (.bool true)).heap[w.heap.size]? =some (.cells #[.slice (some ⟨b,o,none⟩) pn pc,.slice ba bn bc] 47)):=by
      rw[Hid,bf _ _ _ _ (by simp)];exact HF.out
     have HK2:Hid (∀j x,j<k+1->ps[j]? =some x->iG x=true/\x∉ps.take j):=λj y hj hy=>by
      by_cases e:j=k
      .subst e;rw[HX.out] at hy;cases hy;exact⟨hv,by simpa[AY] using hsm⟩
      .exact HK.out j y (by omega) hy
     clear hvr
     go_wp2_with (go_at_call 106;refine(kX (m:Int) wr).mono ?_;rw[hv];rintro e w1 ⟨rfl,rfl⟩)
     go_roundw
     case rel=>exact⟨k+1,by go_num,by omega,HF2,HS2,HBk.out.setCell (by simp) _,HK2⟩
     case measure=>simp[intOf];omega
  .obtain rfl:k=pn:=by omega
   have HPB:Hid (KA ps=true):=gy λj x hx=>HK.out j x (by have:=(aI.1 hx).1;rw[HL.out] at this;exact this) hx;have f1:=cK 1 HF.out rfl;have hl0:=eT HF.out;clear HF HS HK;go_wp2;clear f1 hl0;obtain⟨W1,rfl⟩:∃x,x=wr:=⟨_,rfl⟩
   go_loopw [29] (λi wr=>∃k:Nat,i=.int .i64 k/\k<=bn/\Hid (Below w.heap.size w wr)/\Hid (∀j x,j<k->bs[j]? =some x->GH x=true)) (λi _=>bn-(intOf i).toNat)
   case atStart=>exact⟨0,rfl,by omega,HBk,λj x hj=>absurd hj (by omega)⟩
   case round=>
    obtain⟨q,rfl,hq,HBq,HQ⟩:=hrel;clear HBk;by_cases hlt:q<bn
    .obtain⟨r,b,o,hr,hok,rfl,c0,c1,c2,c3,c4⟩:=pJ (HB.out.ext HBq.out) hlt;have HRR:=ac hr;have hlt':(q:Int)<(bn:Int):=by omega
     have HOK:=ac hok;clear hr hok;go_upto_region 12 with (fail)
     obtain⟨Wi,hWi⟩:∃Wi,Wi=wr.alloc (kP r.h):=⟨_,rfl⟩
     have hri:Wi.heap[wr.heap.size]? =some (kP r.h):=by rw[hWi];exact ai _ _
     have hbi:Below wr.heap.size wr Wi:=by rw[hWi];exact eD _ _
     rw[show wr.alloc (Obj.cells #[.slice r.h.ia r.h.n r.h.c,.int .i64 r.h.t.kind,.int .i64 r.h.t.a,.int .i64 r.h.t.t0,.int .i64 r.h.t.t1] 31)=Wi from hWi.symm];obtain⟨-,t1,t2,t3,t4⟩:=nN hri rfl;have hli:=eT hri;have HRI:=ac hri;have HBI:=ac (eA HBq.out hbi);have HOI:=ac (HOK.out.ext hbi);clear hWi hri hbi c0 c1 c2 c3 c4 HOK;have HIT:=ac (mF r.h.t Wi HOI.out.1);cases hb:jK r.h.t with
     |false=>
      have HE:Hid (iW ps bs=false):=by rw[Hid,iW,VG HRR.out (by rw[GH,hb];rfl),Bool.and_false]
      go_wp2_with (
       (go_at_call 107
        refine HIT.out.mono ?_;rintro e w1 ⟨rfl,hb1⟩;rw[hb];have HB1:=ac (eA HBI.out hb1)
        clear hb1))
      go_ret
      exact⟨by rw[HE.out];rfl,HB1.out⟩
     |true=>
      cases hc:r.rs.any (λx=> !iQ x.d) with
      |true=>
       have HE:Hid (iW ps bs=false):=by rw[Hid,iW,VG HRR.out (by rw[GH,hb,hc];rfl),Bool.and_false]
       go_wp2_with (first
        |(go_at_call 107
          refine HIT.out.mono ?_;rintro e w1 ⟨rfl,hb1⟩;rw[hb];have HB1:=ac (eA HBI.out hb1);have HO1:=ac (HOI.out.ext hb1);have u0:=cK 0 (eB hb1 HRI.out) rfl;have hl1:=eT (eB hb1 HRI.out)
          clear hb1)
        |(go_at_call 30
          refine(rJ 108 #[] CC (λx=> !iQ x.d) r.h.ia r.h.n r.h.c r.rs w1 (λx W' hx hbx=>EE x W' ((HO1.out.2.2 x hx).ext hbx)) HO1.out.2).mono ?_;rw[hc];rintro e w2 ⟨rfl,hb2⟩;have HB2:=ac (eA HB1.out hb2)
          clear hb2))
       go_ret
       exact⟨by rw[HE.out];rfl,HB2.out⟩
      |false=>
       have HBB:Hid (GH r=true):=by rw[Hid,GH,hb,hc];rfl
       have HQ2:Hid (∀j x,j<q+1->bs[j]? =some x->GH x=true):=λj x hj hx=>by
        by_cases e:j=q
        .subst e;rw[HRR.out] at hx;cases hx;exact HBB.out
        .exact HQ.out j x (by omega) hx
       go_wp2_with (first
        |(go_at_call 107
          refine HIT.out.mono ?_;rintro e w1 ⟨rfl,hb1⟩;rw[hb];have HB1:=ac (eA HBI.out hb1);have HO1:=ac (HOI.out.ext hb1);have u0:=cK 0 (eB hb1 HRI.out) rfl;have hl1:=eT (eB hb1 HRI.out)
          clear hb1)
        |(go_at_call 30
          refine(rJ 108 #[] CC (λx=> !iQ x.d) r.h.ia r.h.n r.h.c r.rs w1 (λx W' hx hbx=>EE x W' ((HO1.out.2.2 x hx).ext hbx)) HO1.out.2).mono ?_;rw[hc];rintro e w2 ⟨rfl,hb2⟩;have HB2:=ac (eA HB1.out hb2)
          clear hb2))
       go_roundw
       case rel=>exact⟨q+1,by go_num,by omega,HB2,HQ2⟩
       case measure=>simp[intOf];omega
    .have HE:Hid (iW ps bs=true):=by
      rw[Hid,iW,HPB.out,cJ,bq];intro x hx;obtain⟨j,hj,e⟩:=a8.1 hx;exact HQ.out j x (by rw[HLb.out] at hj;omega) (by rw[au hj,e])
     have hlt':¬(q:Int)<(bn:Int):=by omega
     go_wp2
     go_ret
     exact⟨by rw[HE.out];rfl,HBq.out⟩
end

section
open Go.RowKit
def oW(w:World)(base:Nat)(v:Value)(xs:List Int):Prop:=
 ∃g o cap cur,v=.slice (some ⟨g,o,none⟩) xs.length cap/\base<=g/\xs.length<=cap/\cap<=maxLen/\w.heap[g]? =some (.cells cur 3 (0,0))/\o+cap<=cur.size/\
  (∀k,k<xs.length->cur[o+k]? =some (.int .i64 (xs.getD k 0)))/\(∀x∈xs,I64 x)/\xs.length<=17592186044416
section
variable {w w':World} {base:Nat} {v:Value} {xs:List Int}
theorem oW.form(h:oW w base v xs):∃g o cap,v=.slice (some ⟨g,o,none⟩) xs.length cap/\xs.length<=cap/\cap<=maxLen/\fR w (some ⟨g,o,none⟩) xs.length xs:=by
 obtain⟨g,o,cap,cur,rfl,h1,h2,h3,h4,h5,h6,h7,h8⟩:=h
 refine⟨g,o,cap,rfl,h2,h3,rfl,h8,λk hk=>⟨g,o,rfl,?_,h7 _ ?_⟩⟩
 .grind[cell_of_row]
 grind
theorem oW.low{k:Nat}(h:oW w base v xs)(hk:v.ownBlock=some k):base<=k/\k<w.heap.size:=by
 obtain⟨g,o,cap,cur,rfl,h1,h2,h3,h4,_⟩:=h
 simp only[Value.ownBlock,bv] at hk
 grind
theorem oW.chg{S:Nat->Prop}(h:oW w base v xs)(hc:Chg S w w')(hn:∀k,v.ownBlock=some k->¬S k):oW w' base v xs:=by
 obtain⟨g,o,cap,cur,rfl,h1,h2,h3,h4,h5⟩:=h
 exact⟨g,o,cap,cur,rfl,h1,h2,h3,(hc.block g (am.1 h4).1 (hn g rfl)).trans h4,h5⟩
theorem oW.ext(h:oW w base v xs)(hb:Below w.heap.size w w'):oW w' base v xs:=h.chg (S:=λ_=>False) ⟨hb.os,hb.tape,hb.output,hb.size,λk hk _=>hb.block k hk⟩ λ_ _ e=>e
theorem oW.of_own{g n c:Nat}(h:fQ w base (.slice (some ⟨g,0,none⟩) n c) xs):oW w base (.slice (some ⟨g,0,none⟩) n c) xs:=by
 rcases h.1.2 with ⟨hv,_⟩|⟨g',cap,cur,hv,hb,hh,h1,h2,h3,h4⟩
 .grind
 .injection hv with e1 e2 e3;injection e1 with e1;injection e1 with e1 _ _;subst e1 e2 e3;refine⟨g,0,c,cur,rfl,hb,h1,h2,hh,by omega,λk hk=>?_,h.2.1,h.2.2⟩;have h5:(cur.toList.take (xs.length*1))[k]? =(eU xs)[k]?:=by rw[h4]
  rw[dD,aX (by omega)] at h5
  simp_all[eU]
theorem oW.tail{g o n c:Nat}{x:Int}(h:oW w base (.slice (some ⟨g,o,none⟩) n c) (x :: xs)):oW w base (.slice (some ⟨g,o+1,none⟩) xs.length (c-1)) xs:=by
 obtain⟨g',o',cap,cur,e,h1,h2,h3,h4,h5,h6,h7,h8⟩:=h
 injection e with e1 e2 e3
 injection e1 with e1
 injection e1 with e1 e4 _
 subst e1 e3 e4
 simp only[aN] at h2 h8
 refine⟨g,o+1,c-1,cur,rfl,h1,by omega,by omega,h4,by omega,λk hk=>?_,λz hz=>h7 z (by grind),by omega⟩
 have:=h6 (k+1) (by grind)
 grind
end
section
variable {P:Program} {Q:Exit->Act->World->Prop}
end
end
end Go.Proofs.YtchdkjenhppleaaGreat
