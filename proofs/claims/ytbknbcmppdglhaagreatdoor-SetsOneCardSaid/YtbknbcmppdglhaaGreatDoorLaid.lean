/-
 What is built is right,and small,plain. No program in sight.
-/
import Derived.Test.YtbknbcmppdglhaaGreatDoorA0
import Derived.Test.YtbknbcmppdglhaaGreatDoorQT
import Derived.Test.YtbknbcmppdglhaaGreatDoorQR
import Derived.Test.YtbknbcmppdglhaaGreatDoorTJ
import Derived.Test.YtbknbcmppdglhaaGreatDoorOwnR
import Derived.Test.YtbknbcmppdglhaaGreatDoorUC
import Derived.Test.YtbknbcmppdglhaaGreatDoorWD
import Derived.Test.YtbknbcmppdglhaaGreatDoorGiRow
import Derived.Test.YtbknbcmppdglhaaGreatDoorVN
import Derived.Test.YtbknbcmppdglhaaGreatDoorER
import Derived.Test.YtbknbcmppdglhaaGreatDoorRows
import Derived.WalkKit
import Derived.ProofKit
import Derived.OpenShut
import Derived.ShutString
import Derived.ChangeOld
import Derived.Below
import Derived.SizedLaws
import Derived.Lib.SmallJoins
import Derived.Test.YtbknbcmppdglhaaGreatDoorEK
import Derived.Test.YtbknbcmppdglhaaGreatDoorEE
import Derived.Deep.Slices
import Derived.Test.YtbknbcmppdglhaaGreatDoorTie
import Derived.Test.YtbknbcmppdglhaaGreatDoorCards
import Derived.Test.YtbknbcmppdglhaaGreatDoorSC
import Derived.Test.YtbknbcmppdglhaaGreatDoorTK
import Derived.Lib.LaidTab
import Derived.LaidMore
import Derived.Stop.Joined
namespace Go.Proofs.YtbknbcmppdglhaaGreatDoor
set_option linter.unusedSimpArgs false
set_option linter.unusedVariables false
set_option linter.unusedSectionVars false
set_option maxRecDepth 100000
set_option maxHeartbeats 40000000
section
theorem TE{ts:List fS}{qs:List fJ}(hf:jK ts=true)(h:RI ts qs):gY ts (kH ts.length qs)=true:=YK hf h.1 (by
 have hl:=(gT hf).2.1.2
 have hP:=GI hl (wD hf)
 intro i j hij hj
 have h1:=h.2 i j hij hj
 have hm:∀k,k<qs.length->lW (qs.getD k fH)<200:=λk hk=>(hP _ (h.1.mem_iff.2 (by rw[ak,ah hk];exact bJ _))).2.1
 have h2:=hm i (by omega)
 have h3:=hm j hj
 unfold ID at h1
 omega)
theorem kw:∀(l:List fT) (m:Nat),(∀t∈l,t.blocks.length<=m)->qY l<=l.length*m
 | [],m,_=>by simp[qY]
 |t :: l,m,h=>by
  have h1:=kw l m λs hs=>h s (by simp[hs]);have h2:=h t (by simp);simp only[qY,cE,List.sum_cons,bk,Nat.add_mul] at h1|-;omega
theorem ON(n:Nat)(qs:List fJ)(j:Nat):(mH n qs j).length<=n:=by
 unfold mH fN
 rw[cT]
 have:=bX (λx=>kG qs x qs.length==j) (List.range n)
 rwa [List.length_range] at this
theorem ZK{ts:List fS}{qs:List fJ}(hf:jK ts=true)(h:RI ts qs):(kH ts.length qs).length<=ts.length/\qY (kH ts.length qs)<=40000:=by
 have hl:=(gT hf).2.1.2
 have h1:=ET hf
 rw[h.1.length_eq] at h1
 have h2:(kH ts.length qs).length<=ts.length:=by rw[lB];exact h1
 refine⟨h2,?_⟩
 have h3:=kw (kH ts.length qs) ts.length λt ht=>by
  unfold kH at ht;rcases aS.1 ht with rfl|ht
  .exact ON _ _ _
  .obtain⟨k,_,rfl⟩:=a8.1 ht;exact ON _ _ _
 have h4:(kH ts.length qs).length*ts.length<=200*200:=Nat.mul_le_mul (by omega) (by omega)
 omega
end

section
open Go.RowKit
section
variable {T:TypeId} {w W W1 W2:World} {PB:Nat} {v:Nat->Value} {xs:Nat->List Int}
end
section
variable {T:TypeId} {w w5 W W1:World} {PB:Nat} {v:Nat->Value} {xs:Nat->List Int} {R D L A ys:List Int} {u u':Value} {j:Nat}
end
section
variable {P:Program} {Q:Exit->Act->World->Prop}
theorem WV(w:World)(t ty:TypeId)(base:Nat)(z:Value)(bytes:Nat)(ht:P.underlying t=some (.slice 3))(hinfo:(P.info? 3).map (λi=>(i.zero,i.size,i.bytes))=some (some z,1,bytes))(hzs:z.cells.size=1)(hb8:bytes<=8)
  (v:Value) (xs:List Int) (hown:gD w base v xs) (A:Option Addr) (m c:Nat) (ys:List Int) (hy:iJ w A m ys) (hlen:xs.length+ys.length<=17592186044416) (hbase:base<=w.heap.size):
  ∃v' w',(Builtin.append_ #[t,t] ty #[v,.slice A m c]).run P w=.ok v' w'/\gD w' base v' (xs++ys)/\w.grownBy w' v.ownBlock/\(v'.ownBlock=v.ownBlock\/∃q,v'.ownBlock=some q/\w.heap.size<=q):=by
 have hm:ys.length=m:=hy.1
 obtain⟨v',w',h1,h2,h3,h4⟩:=yD (P:=P) w base t ty 3 z 1 bytes ht hinfo hzs (by omega) v xs.length (fP xs) hown.1 A m c (fP ys) (by simp[fP,hm]) (λj u hu=>by
  have hj:j<ys.length:=by have:=(aE.1 hu).1;simpa[fP] using this
  obtain⟨b,o,e,hc,_⟩:=hy.2.2 j (by omega);refine⟨⟨b,o,none⟩,e,?_⟩;rw[rN,hc,<-hu]
  simp[fP,ak,hj]) (zR ys) (by simp only[maxLen];omega) (by
   have:(xs.length+m)*bytes<=(xs.length+m)*8:=Nat.mul_le_mul_left _ hb8
   omega) hbase
 refine⟨v',w',h1,⟨?_,λq hq=>?_,by simp;omega⟩,h3,h4.imp_right λe=>⟨_,e,aj _⟩⟩
 .have e:fP (xs++ys)=fP xs++fP ys:=by simp[fP]
  rw[e,bf,hm];exact h2
 .rcases ax.1 hq with hq|hq
  .exact hown.2.1 q hq
  .obtain⟨j,hj,e⟩:=bj.1 hq;obtain⟨_,_,_,_,hw⟩:=hy.2.2 j (by omega);rw[ak,ah hj,e] at hw;exact hw
theorem MD{ops:Array Oper}{rest:List Oper}{o:Oper}{a:Act}(w:World)(hgd:o.guard=none)(s x:Operand)(t:TypeId)(ho:o.op=.call {callee:=.builtin .append,args:=#[s,x],argTypes:=#[t,t]})
  (base:Nat) (z:Value) (bytes:Nat) (ht:P.underlying t=some (.slice 3)) (hinfo:(P.info? 3).map (λi=>(i.zero,i.size,i.bytes))=some (some z,1,bytes)) (hzs:z.cells.size=1) (hb8:bytes<=8)
  (v:Value) (xs:List Int) (hs:a.eval s=v) (hown:gD w base v xs) (A:Option Addr) (m c:Nat) (hx:a.eval x=.slice A m c) (ys:List Int) (hy:iJ w A m ys) (hlen:xs.length+ys.length<=17592186044416) (hbase:base<=w.heap.size)
  (h:∀v' w',gD w' base v' (xs++ys)->w.grownBy w' v.ownBlock->(v'.ownBlock=v.ownBlock\/∃q,v'.ownBlock=some q/\w.heap.size<=q)->wpList P ops Q rest (a.put o.dst v') w'):
  wpList P ops Q (o :: rest) a w:=by
 refine ee hgd λK hK=>?_
 obtain⟨v',w',hrun,h2,h3,h4⟩:=WV (P:=P) w t o.type base z bytes ht hinfo hzs hb8 v xs hown A m c ys hy hlen hbase
 unfold Oper.wp execOp
 simp only[ho,resolve,invoke,builtin,b7,dw,b8,dS,cE,dB,hs,hx,hrun]
 exact hK _ _ (h v' w' h2 h3 h4)
end
end

section
open Go.RowKit Go.Shelf
attribute [local go_sem] Oper.semAt_some iF gH gS fX
section
variable {P:Program} {o:Oper} {a:Act}
theorem CW{l:List Oper}{Q:Exit->Act->World->Prop}{e:Nat}{K:Act->World->Prop}{w:World}(ho:l[e]? =some o)(hw:Region.wanted o (yielded l.toArray a.tmps)=true)(h:∀K':Act->World->Prop,Hid (∀a' w',K a' w'->K' a' w')->o.wp P a w K' Q):wpOp P l.toArray Q e K a w:=
 oH ho hw (h K (λ_ _ x=>x))
end
theorem PE{α:Type}{C:Nat}{f:α->List Int}:∀{l:List α},(∀x∈l,(f x).length<=C)->(l.flatMap f).length<=l.length*C
 | [],_=>by simp
 |x :: l,h=>by
  have h1:=h x (by simp);have h2:=PE (l:=l) λy hy=>h y (by simp[hy]);rw[dq,bf,bk,Nat.succ_mul];omega
theorem ZU(s:tW):(Tryz.prog.info? 39).map (·.size)=some (qH s).length:=by rw[yS];exact OB
theorem nt{W:World}{B:Nat}{s:tW}(h:∀j,j<7->gD W B (s.v j) (s.d.rows.getD j [])):(qH s).toArray.all (·.oneCell')=true:=by
 simp[qH,pH (h 0 (by omega)),pH (h 1 (by omega)),pH (h 2 (by omega)),pH (h 3 (by omega)),pH (h 4 (by omega)),pH (h 5 (by omega)),pH (h 6 (by omega))]
def FS(n:Nat):List Int:=(List.range n).map λk:Nat=>(k:Int)
theorem FD(n:Nat):(FS n).length=n:=by simp[FS]
theorem iv(n:Nat):FS (n+1)=FS n++ [(n:Int)]:=by simp[FS,cm]
theorem vu{ps:List Int}{bs:List iA}{l:List fT}{rs:List tW}(h:rs.map (·.d)=CJ ps bs l):∀s∈rs,s.d.live.length<=201:=λs hs=>by
 have hm:s.d∈CJ ps bs l:=by rw[<-h];exact a8.2 ⟨s,hs,rfl⟩
 obtain⟨k,_,e⟩:=a8.1 hm
 rw[<-e]
 exact JR _ _
theorem vv{ps:List Int}{bs:List iA}{l:List fT}{rs:List tW}(h:rs.map (·.d)=CJ ps bs l):rs.flatMap (λs=>s.d.live)=NT ps bs l:=by
 have e:rs.flatMap (λs=>s.d.live)=(rs.map (·.d)).flatMap (·.live):=by rw[List.flatMap_map]
 rw[e,h,CJ,List.flatMap_map]
 rfl
theorem WU{W:World}{B g n c k:Nat}{ls:List tW}{s:tW}(h:mG W B (.slice (some ⟨g,0,none⟩) n c) ls)(hs:ls[k]? =some s):W.rangeAt g (k*7) (qH s):=by
 have:=iP.range yS h.1 s (k:=k) (aE.1 hs).1
 rwa [ak,hs] at this
theorem RV(pa:Option Addr)(pn pc:Nat)(ps:List Int)(ba:Option Addr)(bn bc:Nat)(bs:List iA)(w:World)(hp:iJ w pa pn ps)(h:lY w ba bn bs)(hT:Tab w):
  Calls Tryz.prog 4 #[mB pa pn pc ba bn bc] w λe w'=>e=.returned (.bool true)/\Below w.heap.size w w':=by
 obtain rfl:bs.length=bn:=h.1.1
 have hpn:=hp.2.1
 have HPI:=ac hp
 have HB:=ac h
 have HTB:=ac hT
 have hbn:=h.1.2.1
 clear hp h hT
 go_enter Tryz.func4,Tryz.ntmps4
 go_upto_region 1 with (fail)
 obtain⟨w0,hw0⟩:∃w0,w0=w.alloc (gX pa pn pc ba bs.length bc):=⟨_,rfl⟩
 rw[<-hw0]
 have HB0:Hid (Below w.heap.size w w0):=by rw[hw0];exact fD _ _
 have HF0:Hid (w0.heap[w.heap.size]? =some (gX pa pn pc ba bs.length bc)):=by rw[hw0];exact ae _ _
 clear hw0
 have HNT:Hid (∀W:World,iY W none 0 []):=λW=>⟨⟨rfl,by omega,λk x h=>by cases h⟩,λt h=>by cases h⟩
 by_cases hR:mF ps bs=0
 rotate_left
 .have hne:(mF ps bs != 0)=true:=by simpa using hR
  have HR:=ac hR;clear hR
  go_upto_if 25 with (first
   |((with_reducible show wpList _ _ _ (⟨some 22,.load _ _,_,_,_,_⟩ :: _) _ _);refine nY (o:=⟨some 22,.load 25 _,_,_,_,_⟩) (by rfl) 25 _ rfl w.heap.size rfl 25 _ (0,0) _ HF2.out aJ rfl gE ?_)
   |((with_reducible show wpList _ _ _ (⟨some 19,.load _ _,_,_,_,_⟩ :: _) _ _);refine ay (o:=⟨some 19,.load 25 _,_,_,_,_⟩) rfl 25 _ rfl w.heap.size rfl 25 _ (0,0) _ HF1.out aJ rfl gE ?_)
   |(go_at_call 21
     refine(vH pa pn pc ps ba bs.length bc bs w2 (HPI.out.ext HB2.out) (HB.out.ext HB2.out)).mono ?_;rintro e w3 ⟨rfl,hb3⟩;have HB3:=ac (fC HB2.out hb3)
     clear hb3)
   |(go_at_call 5
     refine(GN pa pn pc hpn ba bs.length bc bs none 0 0 [] w1 (HB.out.ext HB1.out) (HNT.out w1)).mono ?_;rintro e w2 ⟨big,rfl,hb2,hbig⟩;have HB2:=ac (fC HB1.out hb2);have HF2:=ac (fB hb2 HF1.out);clear hb2 hbig
     cases big)
   |(go_at_call 6
     refine(GY w0 (HTB.out.ext HB0.out)).mono ?_;rintro e w1 ⟨rfl,hb1⟩;have HB1:=ac (fC HB0.out hb1);have HF1:=ac (fB hb1 HF0.out)
     clear hb1))
  .go_wp2
   go_ret
   exact⟨rfl,HB3.out⟩
  .go_wp2
   go_ret
   exact⟨rfl,HB2.out⟩
 .obtain⟨hlong,hwh,hti⟩:=vD hR;have hbl:0<bs.length/\bs.length<=200:=by
   simp only[rC,cV,cg] at hlong;omega
  have HR:=ac hR;have HIN:=ac hti;have HLG:=ac hlong;have HWH:=ac hwh;have HNA:=ac (CX HB.out hwh);have HFI:=ac (jd hR);clear hlong hwh hti hR
  go_upto_if 25 with (first
   |((with_reducible show wpList _ _ _ (⟨some 22,.load _ _,_,_,_,_⟩ :: _) _ _);refine nY (o:=⟨some 22,.load 25 _,_,_,_,_⟩) (by rfl) 25 _ rfl w.heap.size rfl 25 _ (0,0) _ HF2.out aJ rfl gE ?_)
   |((with_reducible show wpList _ _ _ (⟨some 19,.load _ _,_,_,_,_⟩ :: _) _ _);refine ay (o:=⟨some 19,.load 25 _,_,_,_,_⟩) rfl 25 _ rfl w.heap.size rfl 25 _ (0,0) _ HF1.out aJ rfl gE ?_)
   |(go_at_call 21
     refine(vH pa pn pc ps ba bs.length bc bs w2 (HPI.out.ext HB2.out) (HB.out.ext HB2.out)).mono ?_;rw[HR.out];rintro e w3 ⟨rfl,hb3⟩;have HF3:=ac (fB hb3 HF2.out);have HB3:=ac (fC HB2.out hb3)
     clear hb3)
   |(go_at_call 5
     refine(GN pa pn pc hpn ba bs.length bc bs none 0 0 [] w1 (HB.out.ext HB1.out) (HNT.out w1)).mono ?_;rintro e w2 ⟨big,rfl,hb2,hbig⟩;have HB2:=ac (fC HB1.out hb2);have HF2:=ac (fB hb2 HF1.out);have HBIG:=ac hbig;clear hb2 hbig
     cases big)
   |(go_at_call 6
     refine(GY w0 (HTB.out.ext HB0.out)).mono ?_;rintro e w1 ⟨rfl,hb1⟩;have HB1:=ac (fC HB0.out hb1);have HF1:=ac (fB hb1 HF0.out)
     clear hb1))
  rotate_left
  .go_wp2
   go_ret
   exact⟨rfl,HB2.out⟩
  have hbn30:bs.length<=30:=(HBIG.out trivial).1;clear HBIG HF2 HF1 HF0 HB2 HB1 HB0
  go_upto_region 6 with (first
   |((with_reducible show wpList _ _ _ (⟨some 27,.load _ _,_,_,_,_⟩ :: _) _ _);refine ay (o:=⟨some 27,.load 25 _,_,_,_,_⟩) rfl 25 _ rfl w.heap.size rfl 25 _ (0,0) _ HF3.out aJ rfl gE ?_)
   |(go_at_call 22
     refine(CC pa pn pc ps ba bs.length bc bs w3 (HPI.out.ext HB3.out) (HB.out.ext HB3.out) (HTB.out.ext HB3.out)).mono ?_;rintro e w4 ⟨hd,hb4⟩;obtain⟨lh,rfl,hlr⟩:=hd.resolve_left (λx=>x.1 HR.out)|>.2;have HLR:=ac hlr;have HB4:=ac (fC HB3.out hb4);have HF4:=ac (fB hb4 HF3.out)
     clear hb4 hlr hd))
  obtain⟨w5,hw5⟩:∃w5,w5=w4.alloc (.cells #[.slice lh.ia bs.length lh.ic,.slice lh.oa bs.length lh.oc,.slice lh.ta bs.length lh.tc] 58):=⟨_,rfl⟩
  obtain⟨PL,hPL⟩:∃p,p=w4.heap.size:=⟨_,rfl⟩
  rw[<-hw5,<-hPL];have HV5:Hid (w5.heap[PL]? =some (.cells #[.slice lh.ia bs.length lh.ic,.slice lh.oa bs.length lh.oc,.slice lh.ta bs.length lh.tc] 58 (0,0))):=by rw[hw5,hPL];exact ae _ _
  have hb5:Below w4.heap.size w4 w5:=by rw[hw5];exact fD _ _
  have HB5:=ac (fC HB4.out hb5);have HF5:=ac (fB hb5 HF4.out);have HLR5:=ac (HLR.out.ext hb5);clear hw5 hPL hb5 HLR HF4 HB4 HF3 HB3
  go_upto_region 7 with (first
   |((with_reducible show wpList _ _ _ (⟨some 32,.load _ _,_,_,_,_⟩ :: _) _ _);refine ay (o:=⟨some 32,.load 25 _,_,_,_,_⟩) rfl 25 _ rfl w.heap.size rfl 25 _ (0,0) _ HF5.out aJ rfl gE ?_)
   |(go_at_call 23
     refine(rq pa pn pc ba bs.length bc (hOf bs) w5 (HB.out.ext HB5.out).x.1 (.inl (by omega))).mono ?_;rintro e w6 ⟨_,hy,hb6⟩;obtain⟨v,ls,qs,rfl,hbo,htl,htd⟩:=hy HFI.out;obtain⟨ta,tc,rfl⟩:=iP.form htl.own;have HTL:=ac htl.ok;have HRT:Hid (gY (fY (hOf bs)) (fI ls)=true):=(by rw[Hid,htd];exact TE HFI.out hbo)
     have HTOT:Hid (ls.length<=bs.length/\qY (fI ls)<=1000000):=(by
      have:=ZK HFI.out hbo;rw[<-htd,CO] at this;rw[Hid];simp only[fI,cT] at this|-
      omega)
     have HB6:=ac (fC HB5.out hb6);have HF6:=ac (fB hb6 HF5.out);have HV6:=ac (fB hb6 HV5.out);have HLR6:=ac (HLR5.out.ext hb6)
     clear hb6 htl htd hbo hy))
  clear HB5 HF5 HV5 HLR5
  go_upto_region 8 with (first
   |((with_reducible show wpList _ _ _ (⟨some 37,.load _ _,_,_,_,_⟩ :: _) _ _);refine ay (o:=⟨some 37,.load 25 _,_,_,_,_⟩) rfl 25 _ rfl w.heap.size rfl 25 _ (0,0) _ HF6.out aJ rfl gE ?_)
   |(go_at_call 9
     refine(ul pa pn pc ps ba bs.length bc bs ta ls.length tc ls w6 (HPI.out.ext HB6.out) (HB.out.ext HB6.out) HTL.out HTOT.out.2 (HTB.out.ext HB6.out)).mono ?_;rintro e w7 ⟨v,rfl,⟨rs,hrs,hsi⟩,hb7⟩;have HSE:Hid (uM ps bs (fI ls)=0):=(by rw[Hid,uM,az (by rw[HR.out];simp),az (by rw[HRT.out];simp)])
     rw[HSE.out];rw[TQ,aM HSE.out] at hrs;obtain⟨av,cv,hav⟩:=iP.form hsi.1;subst hav;have HSI:=ac hsi;have HRS:=ac hrs;have HB7:=ac (fC HB6.out hb7);have HF7:=ac (fB hb7 HF6.out);have HV7:=ac (fB hb7 HV6.out);have HLR7:=ac (HLR6.out.ext hb7);have HTL7:=ac (HTL.out.ext hb7)
     clear hb7 hsi hrs))
  clear HB6 HF6 HV6 HLR6 HTL;go_upto_region 10 with (fail)
  have hrl:rs.length=ls.length:=by have:=bh List.length HRS.out;simpa[CJ,fI] using this
  have HLL:=ac (vu HRS.out);have HSM:=ac (vv HRS.out);have hrs30:rs.length<=30:=by have:=HTOT.out.1;omega
  clear hrl;go_wp2
  go_loopw [9,10] (λv9 i wr=>∃k:Nat,i=.int .i64 k/\k<=rs.length/\Hid (gD wr w7.heap.size v9 ((rs.take k).flatMap λs=>s.d.live))/\Hid (Below w7.heap.size w7 wr)) (λ_ i _=>rs.length-(intOf i).toNat)
  case atStart=>exact⟨0,rfl,by omega,gD.nil _ _,ag _ _⟩
  case round=>
   obtain⟨k,rfl,hk,HO,HX⟩:=hrel;obtain⟨a9,c9,rfl⟩:=HO.out.form;by_cases hlt:k<rs.length
   .obtain⟨s,hs⟩:∃s,rs[k]? =some s:=⟨_,ah hlt⟩
    obtain⟨g,c',e⟩:=rK HSI.out.1.1 (by omega);injection e with e1 e2 e3;subst e1;have hrg:=WU HSI.out hs;have ho:=HSI.out.2 s (aK hs) 2 (by omega);have hd:s.d.rows.getD 2 []=s.d.live:=rfl;rw[hd] at ho;obtain⟨al,cl,e4⟩:=ho.form;have hcell:wr.cell? ⟨g,k*7+2,none⟩=some (.slice al s.d.live.length cl):=fZ HX.out (by rw[<-e4];exact hrg 2 _ rfl);rw[e4] at ho;have HI:=ac (ho.ints.ext HX.out);have hll:=HLL.out s (aK hs);have hfl:((rs.take k).flatMap λs=>s.d.live).length<=30*201:=aT (PE (C:=201) λx hx=>HLL.out x (List.mem_of_mem_take hx)) (ef _ (by rw[dU];omega));have HTK:Hid ((rs.take (k+1)).flatMap (λs=>s.d.live)=(rs.take k).flatMap (λs=>s.d.live)++s.d.live):=by rw[Hid,bL,hs];simp
    clear hs e2 e3 hrg ho hd e4;generalize (rs.take k).flatMap (λs=>s.d.live)=LL at *;generalize hlv:s.d.live=lv at*
    go_wp2_with (
     (at_builtin
      refine MD wr rfl (.tmp 58) (.tmp 63) 22 rfl w7.heap.size _ 8 be pY rfl (by omega) (.slice a9 LL.length c9) LL rfl HO.out al _ cl rfl lv HI.out (by omega) HX.out.size ?_;intro v' w3 ho3 hg3 _;have HO3:=ac ho3;have HX3:Hid (Below w7.heap.size w7 w3):=(HX.out.grown hg3 HX.out.size (λq e=>(HO.out.1.lt q e).1))
      clear ho3 hg3))
    go_roundw
    case rel=>exact⟨k+1,by go_num,by omega,by rw[Hid,HTK.out];exact HO3.out,HX3⟩
    case measure=>simp[intOf];omega
   .obtain rfl:k=rs.length:=by omega
    have HLE:Hid ((rs.take rs.length).flatMap (λs=>s.d.live)=NT ps bs (fI ls)):=by rw[Hid,List.take_length,HSM.out]
    generalize (rs.take rs.length).flatMap (λs=>s.d.live)=SM at *;obtain⟨wz,hwz⟩:∃z,z=wr:=⟨_,rfl⟩
    rw[<-hwz] at HO HX|-;clear hwz;have HB9:=ac (fC HB7.out HX.out);have HF9:=ac (fB HX.out HF7.out);have HV9:=ac (fB HX.out HV7.out);have HLR9:=ac (HLR7.out.ext HX.out);have HI9:=ac HO.out.ints;clear HB7 HF7 HV7 HLR7 HTL7 HSI HRS HLL;go_wp2
    go_loopw [11] (λi wr=>∃b:Nat,i=.int .i64 b/\b<=bs.length/\Hid (Below wz.heap.size wz wr)) (λi _=>bs.length-(intOf i).toNat)
    case atStart=>exact⟨0,rfl,by omega,ag _ _⟩
    case round=>
     obtain⟨b,rfl,hb,HX2⟩:=hrel;have HF2:=ac (fB HX2.out HF9.out);have HV2:=ac (fB HX2.out HV9.out);have f1:=cK 1 HF2.out rfl;have hl1:=fE HF2.out;by_cases hlt:b<bs.length
     .have hlt':(b:Int)<(bs.length:Int):=by omega
      obtain⟨gi,oi,ai,ci,ei,hci,hii⟩:=HLR9.out.1 b hlt;obtain⟨go,oo,ao,co,eo,hco,hio⟩:=HLR9.out.2.1 b hlt;have v0:wr.cell? ⟨PL,0,none⟩=some (.slice (some ⟨gi,oi,none⟩) bs.length lh.ic):=by rw[<-ei];exact cR HV2.out rfl
      have v1:wr.cell? ⟨PL,1,none⟩=some (.slice (some ⟨go,oo,none⟩) bs.length lh.oc):=by rw[<-eo];exact cR HV2.out rfl
      have hl2:=fE HV2.out;have c0:=fZ HX2.out hci;have c1:=fZ HX2.out hco;have HC1:=ac (tN ai a9 _ ci SM.length c9 (vP (gN bs) b) SM wr (hii.ext HX2.out) (HI9.out.ext HX2.out));have HC2:=ac (tN ao a9 _ co SM.length c9 (tX (gN bs) b) SM wr (hio.ext HX2.out) (HI9.out.ext HX2.out));have hw1:((vP (gN bs) b).all λx=>decide (x∈SM))=true:=by rw[HLE.out,aV];exact λx hx=>bS (kz HIN.out HRT.out hlt (.inl hx))
      have hw2:((tX (gN bs) b).all λx=>decide (x∈SM))=true:=by rw[HLE.out,aV];exact λx hx=>bS (kz HIN.out HRT.out hlt (.inr hx))
      rw[hw1] at HC1;rw[hw2] at HC2;clear hci hco hii hio ei eo hw1 hw2;generalize (vP (gN bs) b).length=n1 at *;generalize (tX (gN bs) b).length=n2 at*
      go_wp2_with (first
       |(go_at_call 24
         (with_reducible refine HC1.out.mono ?_)
         rintro e w2 ⟨rfl,rfl⟩)
       |(go_at_call 24
         (with_reducible refine HC2.out.mono ?_)
         rintro e w2 ⟨rfl,rfl⟩))
      go_roundw
      case rel=>exact⟨b+1,by go_num,by omega,HX2⟩
      case measure=>simp[intOf];omega
     .obtain rfl:b=bs.length:=by omega
      obtain⟨wx,hwx⟩:∃z,z=wr:=⟨_,rfl⟩
      have f1':=f1;rw[<-hwx] at HX2 HF2 HV2 f1 hl1|-;clear hwx HV2 f1';have HBX:=ac (fC HB9.out HX2.out);have HIX:=ac (HI9.out.ext HX2.out);clear HB9 HF9 HV9 HLR9 HI9 HO HX HX2;go_wp2;clear f1 hl1
      go_loopw [12,13] (λv i wy=>∃b:Nat,i=.int .i64 b/\b<=bs.length/\Hid (gD wy wx.heap.size v (FS b))/\Hid (Below wx.heap.size wx wy)) (λ_ i _=>bs.length-(intOf i).toNat)
      case atStart=>exact⟨0,rfl,by omega,gD.nil _ _,ag _ _⟩
      case round=>
       obtain⟨b,rfl,hb2,HO,HX⟩:=hrel;obtain⟨a12,c12,rfl⟩:=HO.out.form;have HF3:=ac (fB HX.out HF2.out);have f1:=cK 1 HF3.out rfl;have hl1:=fE HF3.out;by_cases hlt:b<bs.length
       .have hlt':(b:Int)<(bs.length:Int):=by omega
        have HST:=ac (iv b);have hlen:=FD b;generalize FS b=LR at*
        go_wp2_with (
         (at_builtin
          refine tE rfl wr (.tmp 97) (.tmp 99) 22 rfl wx.heap.size _ 8 be pY rfl (.slice a12 LR.length c12) LR rfl HO.out (b:Int) (by unfold I64;omega) wr.heap.size rfl rfl (by omega) (by omega) HX.out.size ?_;intro g cap w3 ho3 hg3 _;have HO3:=ac ho3;have HX3:Hid (Below wx.heap.size wx w3):=(HX.out.grown hg3 HX.out.size (λq e=>(HO.out.1.lt q e).1))
          clear ho3 hg3))
        go_roundw
        case rel=>exact⟨b+1,by go_num,by omega,by have:=HO3.out;rw[hlen] at this;rw[Hid,HST.out];exact this,HX3⟩
        case measure=>simp[intOf];omega
       .obtain rfl:b=bs.length:=by omega
        have hli:=FD bs.length;rw[hli];obtain⟨wy,hwy⟩:∃z,z=wr:=⟨_,rfl⟩
        rw[<-hwy] at HO HX HF3 f1 hl1|-;clear hwy hli;rw[FD] at HO;have HBY:=ac (fC HBX.out HX.out);have HIY:=ac (HIX.out.ext HX.out);have HSX:Hid (wx.heap.size<=wy.heap.size):=HX.out.size;clear HX HF2 HBX HIX;go_upto_region 26 with (fail)
        obtain⟨wt,hwt⟩:∃wt,wt=wy.alloc (.cells #[.int .i64 1,.int .i64 (-1),.slice a12 bs.length c12] 65):=⟨_,rfl⟩
        obtain⟨TB,hTB⟩:∃p,p=wy.heap.size:=⟨_,rfl⟩
        rw[<-hwt,<-hTB];have hbt:Below wy.heap.size wy wt:=by rw[hwt];exact fD _ _
        obtain⟨t1,ht1⟩:∃t1:iN,t1=⟨⟨1,-1,FS bs.length⟩,a12,bs.length,c12⟩:=⟨_,rfl⟩
        have HT1:Hid (fI [t1]=nL bs.length):=by rw[Hid,ht1];rfl
        have HTT:Hid (iY wt (some ⟨TB,0,none⟩) 1 [t1]):=
         (NZ wt TB t1 (by rw[hwt,hTB,ht1];exact ae _ _) wx.heap.size (by rw[hTB];exact HSX.out) (by rw[ht1];exact HO.out.ext hbt) (by rw[ht1];exact⟨(show I64 (1:Int) by unfold I64;omega),(show I64 (-1:Int) by unfold I64;omega)⟩)
           (by rw[ht1];intro e;have:=(HO.out.1.lt _ e).2;omega)).ok
        have HTO:Hid (qY (fI [t1])<=1000000):=by
         rw[Hid,HT1.out];show((List.range bs.length).map λk:Nat=>(k:Int)).length+_<=_;simp;omega
        have HBT:=ac (fC HBY.out hbt);have HFT:=ac (fB hbt HF3.out);have HIT:=ac (HIY.out.ext hbt);clear hwt hTB hbt ht1 HO HBY HF3 HIY HSX f1 hl1
        go_upto_region 27 with (first
         |((with_reducible show wpList _ _ _ (⟨some 105,.load _ _,_,_,_,_⟩ :: _) _ _);refine ay (o:=⟨some 105,.load 25 _,_,_,_,_⟩) rfl 25 _ rfl w.heap.size rfl 25 _ (0,0) _ HFT.out aJ rfl gE ?_)
         |(go_at_call 11
           refine(QS pa pn pc ps ba bs.length bc bs (some ⟨TB,0,none⟩) 1 1 [t1] 0 wt (HPI.out.ext HBT.out) (HB.out.ext HBT.out) HTT.out HTO.out (HTB.out.ext HBT.out) (by unfold I64;omega)).mono ?_;unfold ti;rw[HT1.out];rintro e w10 ⟨v,rfl,hv,hb10⟩;have HV10:=ac hv;have HB10:=ac (fC HBT.out hb10);have HF10:=ac (fB hb10 HFT.out);have HI10:=ac (HIT.out.ext hb10);have HT10:=ac (HTT.out.ext hb10);have H1S:=ac (nt (s:=⟨v,ofM ps bs (nL bs.length) 0⟩) hv)
           clear hb10 hv)
         |((with_reducible show wpList _ _ _ (⟨none,.store 39 _ _,_,_,_,_⟩ :: _) _ _);refine aP rfl 39 _ _ rfl w10.heap.size (qH ⟨v,ofM ps bs (nL bs.length) 0⟩).toArray rfl rfl 39 _ (ae _ _) (ZU ⟨v,ofM ps bs (nL bs.length) 0⟩) rfl H1S.out ?_))
        obtain⟨wu,hwu⟩:∃wu,wu=(w10.alloc (.cells #[.slice none 0 0,.slice none 0 0,.slice none 0 0,.slice none 0 0,.slice none 0 0,.slice none 0 0,.slice none 0 0] 39)).setRow w10.heap.size (qH ⟨v,ofM ps bs (nL bs.length) 0⟩).toArray:=⟨_,rfl⟩
        obtain⟨PS,hPS⟩:∃p,p=w10.heap.size:=⟨_,rfl⟩
        rw[<-hwu,<-hPS];have hbu:Below w10.heap.size w10 wu:=by rw[hwu];exact aX (fD _ _) (aj _) _
        have HSU:Hid (wu.heap[PS]? =some (.cells (qH ⟨v,ofM ps bs (nL bs.length) 0⟩).toArray 39 (0,0))):=by rw[hwu,hPS];exact bt _ _ _ _ _ _ (ae _ _)
        have HBU:=ac (fC HB10.out hbu);have HFU:=ac (fB hbu HF10.out);have HIU:=ac (HI10.out.ext hbu);have HTU:=ac (HT10.out.ext hbu);have HVU:Hid (∀j,j<7->gD wu wt.heap.size (v j) ((ofM ps bs (nL bs.length) 0).rows.getD j [])):=λj hj=>(HV10.out j hj).ext hbu;clear hwu hPS hbu HB10 HF10 HI10 HT10 HV10 H1S HFT HIT HTT HBT;by_cases hrt:gY (fY (hOf bs)) (nL bs.length)=true
        rotate_left
        .have hrf:gY (fY (hOf bs)) (nL bs.length)=false:=by simpa using hrt
         have HOE:Hid (ofE ps bs (nL bs.length) 0=12):=by
          have:uM ps bs (nL bs.length)=12:=by rw[uM,az (by rw[HR.out];simp),aM hrf]
          rw[Hid,ofE,this,aM (by omega)]
         rw[HOE.out];clear hrt;have HRF:=ac hrf;clear hrf
         go_wp2_with (first
          |((with_reducible show wpList _ _ _ (⟨some 110,.load _ _,_,_,_,_⟩ :: _) _ _);refine ay (o:=⟨some 110,.load 25 _,_,_,_,_⟩) rfl 25 _ rfl w.heap.size rfl 25 _ (0,0) _ HFU.out aJ rfl gE ?_)
          |(go_at_call 25
            refine(sA pa pn pc ba bs.length bc (hOf bs) (some ⟨TB,0,none⟩) 1 1 [t1] wu (HB.out.ext HBU.out).x.1 HTU.out HTO.out).mono ?_;rw[HT1.out,HRF.out];rintro e w12 ⟨rfl,hb12⟩;have HB12:=ac (fC HBU.out hb12)
            clear hb12))
         go_ret
         exact⟨rfl,HB12.out⟩
        .have HRT1:=ac hrt;have HOE:Hid (ofE ps bs (nL bs.length) 0=0):=by
          have:uM ps bs (nL bs.length)=0:=by rw[uM,az (by rw[HR.out];simp),az (by rw[hrt];simp)]
          rw[Hid,ofE,this,az (by simp),az (by simp[nL])]
         have HOM:Hid (ofM ps bs (nL bs.length) 0=setM ps bs (nL bs.length) 0):=by rw[Hid,ofM,aM HOE.out];rfl
         rw[HOE.out];clear hrt
         go_upto_region 29 with (first
          |((with_reducible show wpList _ _ _ (⟨some 110,.load _ _,_,_,_,_⟩ :: _) _ _);refine ay (o:=⟨some 110,.load 25 _,_,_,_,_⟩) rfl 25 _ rfl w.heap.size rfl 25 _ (0,0) _ HFU.out aJ rfl gE ?_)
          |(go_at_call 25
            refine(sA pa pn pc ba bs.length bc (hOf bs) (some ⟨TB,0,none⟩) 1 1 [t1] wu (HB.out.ext HBU.out).x.1 HTU.out HTO.out).mono ?_;rw[HT1.out,HRT1.out];rintro e w12 ⟨rfl,hb12⟩;have HB12:=ac (fC HBU.out hb12);have HF12:=ac (fB hb12 HFU.out);have HI12:=ac (HIU.out.ext hb12);have HS12:=ac (fB hb12 HSU.out);have HV12:Hid (∀j,j<7->gD w12 wt.heap.size (v j) ((setM ps bs (nL bs.length) 0).rows.getD j [])):=(λj hj=>by have:=(HVU.out j hj).ext hb12;rwa [HOM.out] at this)
            clear hb12))
         clear HBU HFU HIU HTU HSU HVU;have hl3:(setM ps bs (nL bs.length) 0).rows.getD 2 []=(setM ps bs (nL bs.length) 0).live:=rfl;have hl4:(setM ps bs (nL bs.length) 0).rows.getD 4 []= []:=(OP HIN.out HRT1.out).1;have hl5:(setM ps bs (nL bs.length) 0).rows.getD 5 []= []:=(OP HIN.out HRT1.out).2;have hl6:(setM ps bs (nL bs.length) 0).rows.getD 6 []= []:=zw HIN.out;have hl0:(setM ps bs (nL bs.length) 0).rows.getD 0 []=JA ps bs:=vf hbl.1;have ho0:=HV12.out 0 (by omega);have ho2:=HV12.out 2 (by omega);have ho4:=HV12.out 4 (by omega);have ho5:=HV12.out 5 (by omega);have ho6:=HV12.out 6 (by omega);rw[hl0] at ho0;rw[hl3] at ho2;rw[hl4] at ho4;rw[hl5] at ho5;rw[hl6] at ho6;have HW1:Hid (((setM ps bs (nL bs.length) 0).live.all λx=>decide (x∈SM))=true):=by rw[Hid,HLE.out,aV];exact λx hx=>bS ((UZ HRT1.out HRT.out).1 hx)
         have HW2:Hid ((SM.all λx=>decide (x∈(setM ps bs (nL bs.length) 0).live))=true):=by rw[Hid,HLE.out,aV];exact λx hx=>bS ((UZ HRT1.out HRT.out).2 hx)
         generalize (setM ps bs (nL bs.length) 0).live=LV at *;obtain⟨a0,c0,e0⟩:=ho0.form;obtain⟨a2,c2,e2⟩:=ho2.form;obtain⟨a4,c4,e4⟩:=ho4.form;obtain⟨a5,c5,e5⟩:=ho5.form;obtain⟨a6,c6,e6⟩:=ho6.form;rw[e0] at ho0;rw[e2] at ho2;have HI0:=ac ho0.ints;have HI2:=ac ho2.ints;have hn1:Nonempty (fL w12):=⟨⟨w12,ag _ _⟩⟩
         have g0:∀n:fL w12,n.val.cell? ⟨PS,0,none⟩=some (.slice a0 (JA ps bs).length c0):=λn=>by rw[<-e0];exact cR (fB n.ext HS12.out) rfl
         have g2:∀n:fL w12,n.val.cell? ⟨PS,2,none⟩=some (.slice a2 LV.length c2):=λn=>by rw[<-e2];exact cR (fB n.ext HS12.out) rfl
         have g4:∀n:fL w12,n.val.cell? ⟨PS,4,none⟩=some (.slice a4 0 c4):=λn=>by rw[show Value.slice a4 0 c4=v 4 from e4.symm];exact cR (fB n.ext HS12.out) rfl
         have g5:∀n:fL w12,n.val.cell? ⟨PS,5,none⟩=some (.slice a5 0 c5):=λn=>by rw[show Value.slice a5 0 c5=v 5 from e5.symm];exact cR (fB n.ext HS12.out) rfl
         have g6:∀n:fL w12,n.val.cell? ⟨PS,6,none⟩=some (.slice a6 0 c6):=λn=>by rw[show Value.slice a6 0 c6=v 6 from e6.symm];exact cR (fB n.ext HS12.out) rfl
         have g7:∀w',(∃n:fL w12,w'=n.val)->w'.heap[w.heap.size]? =some (gX pa pn pc ba bs.length bc):=λw' ⟨n,e⟩=>by rw[e];exact fB n.ext HF12.out
         have g8:∀n:fL w12,PS<n.val.heap.size:=λn=>fE (fB n.ext HS12.out);clear hl0 hl3 hl4 hl5 hl6 ho0 ho2 ho4 ho5 ho6 e0 e2 e4 e5 e6 HV12 HS12 HF12 hbl;refine rG (λw'=>∃n:fL w12,w'=n.val) (by kernel_rfl) ?_;obtain⟨u0,FX,hu0⟩:∃u0,Hid (Below w12.heap.size w12 u0)/\w12.drew=u0:=⟨_,gB (ag _ _) 1,rfl⟩
         rw[hu0];clear hu0;refine gR 0 16 (by kernel_rfl) ⟨⟨_,FX.out⟩,rfl⟩ ?_;simp only[ap,aD,am,aw]
         repeat (go_big_quiet_step (fail))
         refine aq ?_;refine jD 16 (by kernel_rfl) ?_;refine CW rfl (by rfl) ?_;intro K' HK;go_simp;refine(tN a2 a9 _ c2 SM.length c9 LV SM u0 (HI2.out.ext FX.out) (HI12.out.ext FX.out)).mono ?_;rw[HW1.out];rintro e u1 ⟨rfl,rfl⟩;refine HK.out _ _ ⟨.inr ⟨⟨_,FX.out⟩,rfl⟩,?_⟩;clear HK K'
         try simp only[Act.put,ar,aH,aF]
         refine gR 17 5 (by kernel_rfl) ⟨⟨_,FX.out⟩,rfl⟩ ?_;simp only[ap,aD,am,aw]
         repeat (go_big_quiet_step (fail))
         refine aq ?_;refine jD 22 (by kernel_rfl) ?_;refine CW rfl (by rfl) ?_;intro K' HK;go_simp;refine(tN a9 a2 SM.length c9 _ c2 SM LV u0 (HI12.out.ext FX.out) (HI2.out.ext FX.out)).mono ?_;rw[HW2.out];rintro e u1 ⟨rfl,rfl⟩;refine HK.out _ _ ⟨.inr ⟨⟨_,FX.out⟩,rfl⟩,?_⟩;clear HK K'
         try simp only[Act.put,ar,aH,aF]
         refine gR 23 5 (by kernel_rfl) ⟨⟨_,FX.out⟩,rfl⟩ ?_;simp only[ap,aD,am,aw]
         repeat (first
          |((with_reducible show wpQuiet _ _ _ _ (⟨some 143,_,_,_,_,_⟩ :: _) _);refine fW (o:=⟨some 143,.load 25 _,_,_,_,_⟩) (by rfl) 25 _ rfl w.heap.size rfl 25 _ (0,0) _ g7 aJ rfl gE ?_;simp only[Act.put,ar,aH,aF])
          |go_big_quiet_step (fail))
         refine aq ?_;refine jD 28 (by kernel_rfl) ?_;refine CW rfl (by rfl) ?_;intro K' HK;go_simp;refine(iu pa pn pc ps ba bs.length bc bs u0 (HPI.out.ext (fC HB12.out FX.out)) (HB.out.ext (fC HB12.out FX.out)) (by rw[<-HPI.out.1];exact HLG.out) HWH.out HNA.out).mono ?_;rintro e u3 ⟨v3,rfl,ho3,hb⟩;obtain⟨a3,c3,rfl⟩:=ho3.form;have HI3:=ac ho3.ints;clear ho3;have FY:=ac (fC FX.out hb);refine HK.out _ _ ⟨.inr ⟨⟨_,FY.out⟩,rfl⟩,?_⟩;clear HK K' FX hb;have FX:=FY;clear FY
         try simp only[Act.put,ar,aH,aF]
         refine jD 29 (by kernel_rfl) ?_;refine CW rfl (by rfl) ?_;intro K' HK;go_simp;refine(oE a0 a3 _ _ c0 c3 (JA ps bs) (JA ps bs) u3 (HI0.out.ext FX.out) HI3.out).mono ?_;rw[bS rfl];rintro e u4 ⟨rfl,q,hq⟩;have hb:Below u3.heap.size u3 u4:=by rw[hq];exact gB (ag _ _) q
         clear hq;have FY:=ac (fC FX.out hb);refine HK.out _ _ ⟨.inr ⟨⟨_,FY.out⟩,rfl⟩,?_⟩;clear HK K' FX hb;have FX:=FY;clear FY
         try simp only[Act.put,ar,aH,aF]
         refine gR 30 8 (by kernel_rfl) ⟨⟨_,FX.out⟩,rfl⟩ ?_;simp only[ap,aD,am,aw]
         repeat (go_big_quiet_step (fail))
         refine aq ?_;refine oO (by kernel_rfl) ?_;have HF:=ac (fC HB12.out FX.out);go_wp2
         go_ret
         exact⟨rfl,HF.out⟩
end

section
open Go.ChangeShapes Go.WideShapes Go.ChangeAt Go.RowKit
theorem Db:ownKnob Tryz.prog.godebug=none:=by kernel_rfl
theorem wg:laidOutB Tryz.prog=true:=by kernel_rfl
theorem yd:Tryz.prog.bytesOf 3=8:=by kernel_rfl
theorem qA:Tryz.prog.cellsOf 3=1:=by kernel_rfl
theorem Ad{H:Type}{enc:TypeId×Value->H}{W:World}{fuel:Nat}{v:Value}{y:DataW H×List MemPlace}
  (hf:DataW.trod enc Tryz.prog W 0 (λ_=>true) true fuel 22 [v]=some y) (hb:∀n∈y.1.weights Tryz.prog 22,n<=reachBytes):
  ∃a len cap zs,v=.slice a len cap/\iJ W a len zs:=by
 rcases open_ints be bP qA hf with ⟨hcs,_⟩|⟨x,l,c,zs,hcs,_,hl,hm,hz,hx,hcell,hwz⟩
 .simp at hcs;exact⟨none,0,0,[],hcs,rfl,by omega,λk hk=>absurd hk (by omega)⟩
 .simp at hcs;have hz':zs.length=c:=by simpa using hz
  have hlen:(zs.take l).length=l:=by simp;omega
  have hbd:=hb ((((zs.take l).length)+((zs.drop l).length))*8) (by rw[hx];simp[DataW.weights,be,yd,lits]);refine⟨some x,l,c,zs.take l,hcs,hlen,?_,λk hk=>?_⟩
  .simp only[dU,List.length_drop,reachBytes] at hbd;omega
  .have hk':k<zs.length:=by omega
   have hc:=hcell k hk';obtain⟨b,o,sp⟩:=x;have hsp:sp=none:=by simpa[Addr.add] using World.cell?_spot (hcell 0 (by omega))
   subst hsp;have e:(zs.take l).getD k 0=zs.getD k 0:=by simp[ak,eY,hk]
   refine⟨b,o,rfl,?_,?_⟩
   .rw[e];have ha:(⟨b,o,none⟩:Addr).add k=⟨b,o+k,none⟩:=by
     by_cases h0:k=0
     .simp[Addr.add,h0]
     .simp[Addr.add,h0]
    rw[ha] at hc;exact hc
   .rw[e];have hm':zs.getD k 0∈zs:=by
     rw[ak,ah hk'];simp
    have:=Go.Joins.in64_of_wf (hwz _ hm');simp only[I64];simp only[Go.Joins.In64] at this;omega
end

section
open Go.ChangeShapes Go.WideShapes Go.ChangeAt Go.RowKit
theorem WF:Tryz.prog.cellsOf 161=8:=by kernel_rfl
theorem ye:Tryz.prog.bytesOf 161=80:=by kernel_rfl
theorem Av:Tryz.prog.cellsOf 159=1:=by kernel_rfl
theorem PK:Tryz.prog.cellsOf 22=1:=by kernel_rfl
theorem rk:Tryz.prog.cellsOf 115=1:=by kernel_rfl
theorem rh:Tryz.prog.cellsOf 119=4:=by kernel_rfl
theorem rj:Tryz.prog.cellsOf 116=1:=by kernel_rfl
theorem Au:Tryz.prog.cellsOf 117=2:=by kernel_rfl
theorem LX:Tryz.prog.cellsOf 121=5:=by kernel_rfl
theorem lu{α:Type}(n:Nat)(R:Nat->α->Prop)(h:∀i,i<n->∃x,R i x):∃l:List α,l.length=n/\∀i x,l[i]? =some x->R i x:=by
 induction n with
 |zero=>exact⟨[],rfl,λi x hx=>by simp at hx⟩
 |succ n ih=>
  obtain⟨l,hl,hr⟩:=ih (λi hi=>h i (by omega));obtain⟨x,hx⟩:=h n (by omega);refine⟨l++ [x],by simp[hl],λi y hy=>?_⟩;by_cases hi:i<n
  .rw[cG (by omega)] at hy;exact hr i y hy
  .have hlt:=(aE.1 hy).1;simp[hl] at hlt;obtain rfl:i=n:=by omega
   rw[du (by omega),hl,Nat.sub_self] at hy;simp at hy;subst hy;exact hx
theorem Ct{α:Type}:∀{l:List α},l.length=8->∃v0 v1 v2 v3 v4 v5 v6 v7,l= [v0,v1,v2,v3,v4,v5,v6,v7]
 | [v0,v1,v2,v3,v4,v5,v6,v7],_=>⟨v0,v1,v2,v3,v4,v5,v6,v7,rfl⟩
theorem Dc{α:Type}:∀{l:List α},l.length=5->∃v0 v1 v2 v3 v4,l= [v0,v1,v2,v3,v4]
 | [v0,v1,v2,v3,v4],_=>⟨v0,v1,v2,v3,v4,rfl⟩
theorem Dd{α:Type}:∀{l:List α},l.length=3->∃v0 v1 v2,l= [v0,v1,v2]
 | [v0,v1,v2],_=>⟨v0,v1,v2,rfl⟩
theorem zc{α:Type}:∀{l:List α},l.length=2->∃v0 v1,l= [v0,v1]
 | [v0,v1],_=>⟨v0,v1,rfl⟩
section
variable {H:Type} {enc:TypeId×Value->H} {W:World}
theorem uA{fuel:Nat}{v:Value}{t:TypeId}{o:Option (DataW H×List MemPlace)}{y:DataW H×List MemPlace}(ht:Tryz.prog.underlying t=some (.int .i64))(h:DataW.trod enc Tryz.prog W 0 (λ_=>true) true fuel t [v]=o)(ho:o=some y):∃n,v=.int .i64 n/\I64 n:=by
 obtain⟨n,e,_,hw⟩:=DataW.trod_int ht (h.trans ho)
 simp only[List.cons.injEq,and_true] at e
 have:=Go.Joins.in64_of_wf hw
 exact⟨n,e,this.1,this.2⟩
theorem VO{fuel:Nat}{v:Value}{y:DataW H×List MemPlace}
  (hf:DataW.trod enc Tryz.prog W 0 (λ_=>true) true fuel 22 [v]=some y) (hb:∀n∈y.1.weights Tryz.prog 22,n<=reachBytes):
  ∃a len cap zs,v=.slice a len cap/\iJ W a len zs/\len<=cap:=by
 obtain⟨a,len,cap,zs,e,h⟩:=Ad hf hb
 refine⟨a,len,cap,zs,e,h,?_⟩
 rcases open_ints be bP qA hf with ⟨hcs,_⟩|⟨x,l,c,zs',hcs,_,hl,_⟩
 .simp at hcs;rw[e] at hcs;simp at hcs;omega
 .simp at hcs;rw[e] at hcs;simp at hcs;omega
theorem Ch{fuel:Nat}{cs:List Value}{y:DataW H×List MemPlace}(hf:DataW.trod enc Tryz.prog W 0 (λ_=>true) true fuel 161 cs=some y)(hb:∀n∈y.1.weights Tryz.prog 161,n<=reachBytes):
  ∃r:lP,cs=MX r/\rD W r:=by
 obtain⟨ys,n,-,hy,hlen,hyl,hfs⟩:=DataW.trod_struct cF hf
 rw[WF] at hlen
 obtain⟨v0,v1,v2,v3,v4,v5,v6,v7,rfl⟩:=Ct hlen
 obtain⟨y0,y1,y2,y3,y4,y5,y6,y7,rfl⟩:=Ct (show ys.length=8 from hyl)
 have g0:DataW.trod enc Tryz.prog W 0 (λ_=>true) true n 159 (([v0,v1,v2,v3,v4,v5,v6,v7].drop 0).take (Tryz.prog.cellsOf 159))=some y0:=hfs 0 _ rfl
 have g1:DataW.trod enc Tryz.prog W 0 (λ_=>true) true n 3 (([v0,v1,v2,v3,v4,v5,v6,v7].drop 1).take (Tryz.prog.cellsOf 3))=some y1:=hfs 1 _ rfl
 have g2:DataW.trod enc Tryz.prog W 0 (λ_=>true) true n 3 (([v0,v1,v2,v3,v4,v5,v6,v7].drop 2).take (Tryz.prog.cellsOf 3))=some y2:=hfs 2 _ rfl
 have g3:DataW.trod enc Tryz.prog W 0 (λ_=>true) true n 3 (([v0,v1,v2,v3,v4,v5,v6,v7].drop 3).take (Tryz.prog.cellsOf 3))=some y3:=hfs 3 _ rfl
 have g4:DataW.trod enc Tryz.prog W 0 (λ_=>true) true n 3 (([v0,v1,v2,v3,v4,v5,v6,v7].drop 4).take (Tryz.prog.cellsOf 3))=some y4:=hfs 4 _ rfl
 have g5:DataW.trod enc Tryz.prog W 0 (λ_=>true) true n 3 (([v0,v1,v2,v3,v4,v5,v6,v7].drop 5).take (Tryz.prog.cellsOf 3))=some y5:=hfs 5 _ rfl
 have g6:DataW.trod enc Tryz.prog W 0 (λ_=>true) true n 22 (([v0,v1,v2,v3,v4,v5,v6,v7].drop 6).take (Tryz.prog.cellsOf 22))=some y6:=hfs 6 _ rfl
 have g7:DataW.trod enc Tryz.prog W 0 (λ_=>true) true n 3 (([v0,v1,v2,v3,v4,v5,v6,v7].drop 7).take (Tryz.prog.cellsOf 3))=some y7:=hfs 7 _ rfl
 rw[Av] at g0
 rw[qA] at g1
 rw[qA] at g2
 rw[qA] at g3
 rw[qA] at g4
 rw[qA] at g5
 rw[PK] at g6
 rw[qA] at g7
 simp only[am,aw,ap,aD] at g0 g1 g2 g3 g4 g5 g6 g7
 obtain⟨n0,rfl,i0⟩:=uA Tryz.underlying159 g0 rfl
 obtain⟨n1,rfl,i1⟩:=uA bP g1 rfl
 obtain⟨n2,rfl,i2⟩:=uA bP g2 rfl
 obtain⟨n3,rfl,i3⟩:=uA bP g3 rfl
 obtain⟨n4,rfl,i4⟩:=uA bP g4 rfl
 obtain⟨n5,rfl,i5⟩:=uA bP g5 rfl
 obtain⟨n7,rfl,i7⟩:=uA bP g7 rfl
 obtain⟨a,len,cap,zs,rfl,hI,hc⟩:=VO (y:=y6) g6 (λq hq=>hb q (by rw[hy];simp[DataW.weights,DataW.weightsEach,cF,hq]))
 exact⟨⟨⟨n0,n1,n2,n3,n4,n5,zs,n7⟩,a,len,cap⟩,rfl,hI,hc,i0,i1,i2,i3,i4,i5,i7⟩
theorem zL{e:TypeId}:∀{l:List (DataW H)} {d:DataW H},d∈l->∀q∈d.weights Tryz.prog e,q∈DataW.weightsAll Tryz.prog e l
 |x :: l,d,hd,q,hq=>by
  rw[DataW.weightsAll,ax];rcases aS.1 hd with rfl|hd
  .exact Or.inl hq
  .exact Or.inr (zL hd q hq)
theorem Af{fuel:Nat}{v:Value}{y:DataW H×List MemPlace}(hf:DataW.trod enc Tryz.prog W 0 (λ_=>true) true fuel 115 [v]=some y)(hb:∀n∈y.1.weights Tryz.prog 115,n<=reachBytes):
  ∃a len cap rs,v=.slice a len cap/\tC W a len rs/\len<=cap:=by
 rcases Go.Deep.open_slice Tryz.underlying115 hf with ⟨hcs,_⟩|⟨x,l,c,m,n,D,Pl,hcs,_,hl,hm,hmm,hx,hall⟩
 .simp at hcs;exact⟨none,0,0,[],hcs,⟨tI.nil _ _ _,λr hr=>by cases hr⟩,by omega⟩
 .simp at hcs;have hmm':m=c:=by simpa using hmm
  subst hmm';rw[WF] at hall;have hbd:=hb ((l+(m-l))*80) (by rw[hx];simp[DataW.weights,Tryz.underlying115,ye]);have hel:∀i,i<l->∃r:lP,rD W r/\∀j,j<8->W.cell? ((x.add (i*8)).add j)=(MX r)[j]?:=λi hi=>by
   obtain⟨cs',hc',ht'⟩:=hall i (by omega);obtain⟨_,_,hat⟩:=World.cells?_some hc'
   obtain⟨r,rfl,hok⟩:=Ch ht' (λq hq=>hb q (by
    rw[hx];simp only[DataW.weights,Tryz.underlying115,aS,ax]
    exact Or.inr (Or.inl (zL (a8.2 ⟨i,aQ.2 hi,rfl⟩) q hq))))
   exact⟨r,hok,hat⟩
  obtain⟨rs,hrl,hrs⟩:=lu l _ hel;have hsp:0<l->x.spot=none:=λh0=>by
   obtain⟨r,_,hat⟩:=hel 0 h0;have h1:=hat 0 (by omega);have h2:(MX r)[0]? =some (.int .i64 r.d.op):=rfl;rw[h2] at h1;have:=World.cell?_spot h1;simpa[Addr.add] using this
  refine⟨some x,l,m,rs,hcs,⟨⟨hrl,?_,λk r hr=>?_⟩,λr hr=>?_⟩,hl⟩
  .simp only[reachBytes] at hbd;omega
  .have hk:k<l:=by rw[<-hrl];exact(aE.1 hr).1
   have hs:=hsp (by omega);obtain⟨b,o,sp⟩:=x;simp only at hs;subst hs;refine⟨b,o,rfl,λj hj=>?_⟩;have:=(hrs k r hr).2 j hj
   rwa [rN,rN] at this
  .obtain⟨k,hk,e⟩:=bj.1 hr;exact(hrs k r (by rw[ah hk,e])).1
theorem rl:Tryz.prog.cellsOf 25=2:=by kernel_rfl
theorem YI:Tryz.prog.cellsOf 23=1:=by kernel_rfl
theorem ju:Tryz.prog.bytesOf 121=56:=by kernel_rfl
theorem Az{fuel:Nat}{l:List Value}{y:DataW H×List MemPlace}(hf':DataW.trod enc Tryz.prog W 0 (λ_=>true) true fuel 121 l=some y)(hb:∀n∈y.1.weights Tryz.prog 121,n<=reachBytes):
  ∃b:nA,l=mx b/\pU b.t/\∃rs,tC W b.ia b.n rs:=by
 obtain⟨ys,n,-,hy,hlen,hyl,hfs⟩:=DataW.trod_struct eZ hf'
 rw[LX] at hlen
 obtain⟨v0,v1,v2,v3,v4,rfl⟩:=Dc hlen
 obtain⟨y0,y1,rfl⟩:=zc (show ys.length=2 from hyl)
 have g0:DataW.trod enc Tryz.prog W 0 (λ_=>true) true n 115 (([v0,v1,v2,v3,v4].drop 0).take (Tryz.prog.cellsOf 115))=some y0:=hfs 0 _ rfl
 have g1:DataW.trod enc Tryz.prog W 0 (λ_=>true) true n 119 (([v0,v1,v2,v3,v4].drop 1).take (Tryz.prog.cellsOf 119))=some y1:=hfs 1 _ rfl
 rw[rk] at g0
 rw[rh] at g1
 simp only[am,aw,ap,aD] at g0 g1
 obtain⟨sa,ns,cs,rs,rfl,hI,hc⟩:=Af g0 (λq hq=>hb q (by rw[hy];simp[DataW.weights,DataW.weightsEach,eZ,hq]))
 obtain⟨zs,n',-,hz,-,hzl,hgs⟩:=DataW.trod_struct Tryz.underlying119 g1
 obtain⟨z0,z1,z2,rfl⟩:=Dd (show zs.length=3 from hzl)
 have k0:DataW.trod enc Tryz.prog W 0 (λ_=>true) true n' 116 (([v1,v2,v3,v4].drop 0).take (Tryz.prog.cellsOf 116))=some z0:=hgs 0 _ rfl
 have k1:DataW.trod enc Tryz.prog W 0 (λ_=>true) true n' 3 (([v1,v2,v3,v4].drop 1).take (Tryz.prog.cellsOf 3))=some z1:=hgs 1 _ rfl
 have k2:DataW.trod enc Tryz.prog W 0 (λ_=>true) true n' 117 (([v1,v2,v3,v4].drop 2).take (Tryz.prog.cellsOf 117))=some z2:=hgs 2 _ rfl
 rw[rj] at k0
 rw[qA] at k1
 rw[Au] at k2
 simp only[am,aw,ap,aD] at k0 k1 k2
 obtain⟨us,n'',-,hu,-,hul,hus⟩:=DataW.trod_array Tryz.underlying117 k2
 obtain⟨u0,u1,rfl⟩:=zc hul
 have t0:DataW.trod enc Tryz.prog W 0 (λ_=>true) true n'' 3 (([v3,v4].drop (0*Tryz.prog.cellsOf 3)).take (Tryz.prog.cellsOf 3))=some u0:=hus 0 (by omega)
 have t1:DataW.trod enc Tryz.prog W 0 (λ_=>true) true n'' 3 (([v3,v4].drop (1*Tryz.prog.cellsOf 3)).take (Tryz.prog.cellsOf 3))=some u1:=hus 1 (by omega)
 rw[qA] at t0 t1
 simp only[Nat.zero_mul,Nat.one_mul,am,aw,ap,aD] at t0 t1
 obtain⟨m1,rfl,i1⟩:=uA Tryz.underlying116 k0 rfl
 obtain⟨m2,rfl,i2⟩:=uA bP k1 rfl
 obtain⟨m3,rfl,i3⟩:=uA bP t0 rfl
 obtain⟨m4,rfl,i4⟩:=uA bP t1 rfl
 exact⟨⟨sa,ns,cs,⟨m1,m2,m3,m4⟩⟩,rfl,⟨i1,i2,i3,i4⟩,rs,hI⟩
theorem Ax{fuel:Nat}{v:Value}{y:DataW H×List MemPlace}(hf:DataW.trod enc Tryz.prog W 0 (λ_=>true) true fuel 23 [v]=some y)(hb:∀n∈y.1.weights Tryz.prog 23,n<=reachBytes):
  ∃a len cap bs,v=.slice a len cap/\UE W a len bs/\len<=cap:=by
 rcases Go.Deep.open_slice Tryz.underlying23 hf with ⟨hcs,_⟩|⟨x,l,c,m,n,D,Pl,hcs,_,hl,hm,hmm,hx,hall⟩
 .simp at hcs;exact⟨none,0,0,[],hcs,⟨⟨tI.nil _ _ _,λr hr=>by cases hr⟩,λr hr=>by cases hr⟩,by omega⟩
 .simp at hcs;have hmm':m=c:=by simpa using hmm
  subst hmm';rw[LX] at hall;have hbd:=hb ((l+(m-l))*56) (by rw[hx];simp[DataW.weights,Tryz.underlying23,ju]);have hel:∀i,i<l->∃b:nA,(pU b.t/\∃rs,tC W b.ia b.n rs)/\∀j,j<5->W.cell? ((x.add (i*5)).add j)=(mx b)[j]?:=λi hi=>by
   obtain⟨cs',hc',ht'⟩:=hall i (by omega);obtain⟨_,_,hat⟩:=World.cells?_some hc'
   obtain⟨b,rfl,hok⟩:=Az ht' (λq hq=>hb q (by
    rw[hx];simp only[DataW.weights,Tryz.underlying23,aS,ax]
    exact Or.inr (Or.inl (zL (a8.2 ⟨i,aQ.2 hi,rfl⟩) q hq))))
   exact⟨b,hok,hat⟩
  obtain⟨bs,hrl,hrs⟩:=lu l _ hel;have hsp:0<l->x.spot=none:=λh0=>by
   obtain⟨r,_,hat⟩:=hel 0 h0;have h1:=hat 0 (by omega);have h2:(mx r)[0]? =some (.slice r.ia r.n r.c):=rfl;rw[h2] at h1;have:=World.cell?_spot h1;simpa[Addr.add] using this
  have hmem:∀r∈bs,pU r.t/\∃rs,tC W r.ia r.n rs:=λr hr=>by
   obtain⟨k,hk,e⟩:=bj.1 hr;exact(hrs k r (by rw[ah hk,e])).1
  refine⟨some x,l,m,bs,hcs,⟨⟨⟨hrl,?_,λk r hr=>?_⟩,λr hr=>(hmem r hr).1⟩,λr hr=>(hmem r hr).2⟩,hl⟩
  .simp only[reachBytes] at hbd;omega
  .have hk:k<l:=by rw[<-hrl];exact(aE.1 hr).1
   have hs:=hsp (by omega);obtain⟨b,o,sp⟩:=x;simp only at hs;subst hs;refine⟨b,o,rfl,λj hj=>?_⟩;have:=(hrs k r hr).2 j hj
   rwa [rN,rN] at this
theorem Ai{r:Go.Reach}{b0:Nat}{v:Value}{d:DataW H}{p:List MemPlace}(hv:Value.okWide Tryz.prog W r b0 25 v)(h:DataW.Trod enc Tryz.prog W 0 (λ_=>true) true 25 v d p)(hb:∀n∈d.weights Tryz.prog 25,n<=reachBytes):
  ∃pa pn pc ba bn bc bs,v=mB pa pn pc ba bn bc/\(∃ps,iJ W pa pn ps)/\UE W ba bn bs:=by
 obtain⟨arr,rfl,hsz⟩:=okWide_struct aJ hv
 rw[rl] at hsz
 obtain⟨fuel,hf⟩:=h
 obtain⟨l⟩:=arr
 have hf':DataW.trod enc Tryz.prog W 0 (λ_=>true) true fuel 25 l=some (d,p):=hf
 obtain⟨v0,v1,rfl⟩:=zc (show l.length=2 from hsz)
 obtain⟨ys,n,-,hy,-,hyl,hfs⟩:=DataW.trod_struct aJ hf'
 obtain⟨y0,y1,rfl⟩:=zc (show ys.length=2 from hyl)
 have g0:DataW.trod enc Tryz.prog W 0 (λ_=>true) true n 22 (([v0,v1].drop 0).take (Tryz.prog.cellsOf 22))=some y0:=hfs 0 _ rfl
 have g1:DataW.trod enc Tryz.prog W 0 (λ_=>true) true n 23 (([v0,v1].drop 1).take (Tryz.prog.cellsOf 23))=some y1:=hfs 1 _ rfl
 rw[PK] at g0
 rw[YI] at g1
 simp only[am,aw,ap,aD] at g0 g1
 simp only[Prod.mk.injEq] at hy
 obtain⟨pa,pn,pc,zs,rfl,hI,_⟩:=VO g0 (λq hq=>hb q (by rw[hy.1];simp[DataW.weights,DataW.weightsEach,aJ,hq]))
 obtain⟨ba,bn,bc,bs,rfl,hB,_⟩:=Ax g1 (λq hq=>hb q (by rw[hy.1];simp[DataW.weights,DataW.weightsEach,aJ,hq]))
 exact⟨pa,pn,pc,ba,bn,bc,bs,rfl,⟨zs,hI⟩,hB⟩
end
end

section
open Go.ChangeShapes Go.WideShapes Go.ChangeAt Go.RowKit
abbrev TZ {H : Type} : List (String × DataW H) := [("math/bits.deBruijn64tab", Rows.laid_math_bits_deBruijn64tab)]
theorem Df : Tryz.prog.globalNamed "math/bits.deBruijn64tab" = some 0 := by kernel_rfl
theorem Da:(Tryz.prog.globals[0]?).map (·.type)=some 341:=by kernel_rfl
theorem t7{H:Type}:(Rows.laid_math_bits_deBruijn64tab:DataW H)=Lib.tabData .u8 (Lib.deBruijn64tab.map λk:Nat=>(k:Int)):=by rfl
theorem WQ{W:World}(h:laidMetH Tryz.prog TZ W):Tab W:=by
 rw[MakeChecks.laidMetH_plain _ _ _ (by kernel_rfl)] at h
 obtain⟨ps,⟨g0,t0,cs0,f0,p0,q0,hg0,ht0,hv0,hd0,_⟩,_⟩:=h
 obtain rfl:=Option.some.inj (Df.symm.trans hg0)
 obtain rfl:=Option.some.inj (Da.symm.trans ht0)
 rw[t7] at hd0
 have hc:=Lib.cells_of_tab (k:=.u8) Tryz.underlying341 Tryz.underlying5 (by kernel_rfl) (by kernel_rfl) hd0
 intro j hj
 have:=World.var?_cell hg0 hv0 j
 rw[this]
 obtain⟨l0⟩:=cs0
 have e:l0=(Lib.deBruijn64tab.map λk:Nat=>(k:Int)).map λz=>Value.int .u8 z:=hc
 subst e
 simp[ak,hj]
theorem xt(os:Os)(args:Array Value):laidMetH Tryz.prog TZ ((World.doorLaid Tryz.prog 14 os).forCall (λ_ _=>0) ⟨#[],args,[]⟩).memory:=
 laidMetH_of_parts3 (fuel:=8) (laidMet_of_run' 8 (by kernel_rfl) (by kernel_rfl)) (by kernel_rfl) (by kernel_rfl)
end
end Go.Proofs.YtbknbcmppdglhaaGreatDoor
