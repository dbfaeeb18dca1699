/-
 Parts of a function:two sorted runs merged in place,the great case (SymMerge). (Printed by gen_sym.py.)
-/
import Derived.Test.YtbknbcmppdglhaaGreatDoorA0
import Derived.Test.YtbknbcmppdglhaaGreatDoorQC
import Derived.Deep.CutBlock
import Derived.Deep.DeepCutAuto
namespace Go.Proofs.YtbknbcmppdglhaaGreatDoor
set_option linter.unusedSimpArgs false
set_option linter.unusedVariables false
set_option linter.unusedSectionVars false
set_option maxRecDepth 100000
set_option maxHeartbeats 40000000
section
open Go.RowKit Go.Shelf
theorem ZM(af:Nat)(cb:Array Value)(cf:fJ->fJ->Int)(key:fJ->Nat)(base g n c:Nat)(J:List fJ->World->Prop)(S:CN af cb cf key base g n c J)(hn:n<=1000000)(d:Nat)(ih:(∀(a m b:Nat) (L:List fJ) (w:World),b-a<=d->J L w->a<m->m<b->b<=n->Srt fH key L a m->Srt fH key L m b->Calls Tryz.prog 225 #[.slice (some ⟨g,0,none⟩) n c,.int .i64 (a:Int),.int .i64 (m:Int),.int .i64 (b:Int),.func (.func af) #[] cb] w λe w'=>e=.returned (.tuple #[])/\
   ∃L',J L' w'/\Sh fH L L' a b/\Srt fH key L' a b)) (a m b:Nat) (L:List fJ) (w:World) (h:J L w) (ham:a<m) (hmb:m<b) (hbn:b<=n) (hs1:Srt fH key L a m) (hs2:Srt fH key L m b) (hd:b-a<=d+1) (h1:m≠a+1) (h2:b≠m+1):
  Calls Tryz.prog 225 #[.slice (some ⟨g,0,none⟩) n c,.int .i64 (a:Int),.int .i64 (m:Int),.int .i64 (b:Int),.func (.func af) #[] cb] w λe w'=>e=.returned (.tuple #[])/\
   ∃L',J L' w'/\Sh fH L L' a b/\Srt fH key L' a b:=by
 have IH:=ac ih
 clear ih
 have H:=ac h
 have HS:=ac S
 have eF:=S.enter
 have HS1:=ac hs1
 have HS2:=ac hs2
 have hlen:=(S.parts _ _ h).len
 have zab:(a:Int)<(m:Int):=by omega
 have zmb:(m:Int)<(b:Int):=by omega
 have zbn:(b:Int)<=1000000:=by omega
 clear h S hs1 hs2
 have S:=HS
 clear HS
 have d1:((m:Int)-(a:Int)==1)=false:=by simp;omega
 have d2:((b:Int)-(m:Int)==1)=false:=by simp;omega
 clear h1 h2
 obtain⟨mid,hmid0⟩:∃mid:Nat,mid=(a+b)/2:=⟨_,rfl⟩
 have hmid:((a:Int)+(b:Int))/2=(mid:Int):=by omega
 obtain⟨b1,b2,b3,b4⟩:=DV ham hmb
 obtain⟨st0,hst0⟩:∃x,x=s0 a m b:=⟨_,rfl⟩
 obtain⟨rr0,hrr0⟩:∃x,x=r0 a m b:=⟨_,rfl⟩
 have HFO:Hid (∀st,st0<=st->st<=rr0->(st=st0\/kAt fH key L (st-1)<=kAt fH key L (mid+m-1-(st-1)))->(st=rr0\/kAt fH key L (mid+m-1-st)<=kAt fH key L st)->Found fH key L a m b st):=λst q1 q2 q3 q4=>by
  rw[hst0] at q1 q3;rw[hrr0] at q2 q4;rw[hmid0] at q3 q4;exact xg ham hmb HS1.out HS2.out q1 q2 q3 q4
 rw[<-hst0,<-hrr0] at b2
 rw[<-hst0] at b1
 rw[<-hrr0] at b3
 rw[<-hst0,<-hrr0,<-hmid0] at b4
 have hs0:(mid<m/\st0+b=mid+m/\rr0=mid)\/(m<=mid/\st0=a/\rr0=m):=by
  unfold s0 at hst0;unfold r0 at hrr0;by_cases hm2:(a+b)/2<m
  .rw[aM hm2] at hst0 hrr0;omega
  .rw[az hm2] at hst0 hrr0;omega
 have HMI:Hid (mid=(a+b)/2):=hmid0
 have zm1:a<mid:=by omega
 have zm2:mid<b:=by omega
 have zm3:(mid:Int)+(m:Int)<=2000000:=by omega
 have B4:=ac b4
 have HS0:=ac hs0
 have hrm:rr0<=m:=b3
 have hsa:a<=st0:=b1
 clear hst0 hrr0 hmid0 b4 hs0
 go_enter Tryz.func225,Tryz.ntmps225
 go_upto_if 140 with (fail)
 go_cut [20,21] (λs20 s21 wx=>s20=.int .i64 (st0:Int)/\s21=.int .i64 (rr0:Int)/\wx=w)
 case first=>
  rcases HS0.out with ⟨q1,q2,q3⟩|⟨q1,q2,q3⟩
  .have e1:(mid:Int)+(m:Int)-(b:Int)=(st0:Int):=by omega
   have e2:(mid:Int)=(rr0:Int):=by omega
   have e3:(m:Int)>(mid:Int):=by omega
   have e4:(mid:Int)<(m:Int):=by omega
   clear q2 q3 e2;go_wp2
   go_meet
   exact⟨rfl,bh (Value.int .i64) (by have:=HS0.out;omega),rfl⟩
  .have e3:¬(m:Int)>(mid:Int):=by omega
   have e4:¬(mid:Int)<(m:Int):=by omega
   clear q2 q3;go_wp2
   go_meet
   exact⟨bh (Value.int .i64) (by have:=HS0.out;omega),bh (Value.int .i64) (by have:=HS0.out;omega),rfl⟩
 case rest=>
  obtain⟨rfl,rfl,rfl⟩:=hcut;go_wp2
  go_loopw [20,21,23] (λs20 s21 _ wr=>∃st r:Nat,st0<=st/\st<=r/\r<=rr0/\s20=.int .i64 (st:Int)/\s21=.int .i64 (r:Int)/\Hid (st=st0\/kAt fH key L (st-1)<=kAt fH key L (mid+m-1-(st-1)))/\Hid (r=rr0\/kAt fH key L (mid+m-1-r)<=kAt fH key L r)/\Hid (J L wr)) (λs20 s21 _ _=>(intOf s21).toNat-(intOf s20).toNat)
  case atStart=>exact⟨st0,rr0,by omega,by omega,by omega,rfl,rfl,.inl rfl,.inl rfl,H⟩
  case round=>
   obtain⟨st,r,hi1,hij,hjb,rfl,rfl,HI,HJJ,HJ⟩:=hrel;by_cases hlt:st<r
   .have hlt':(st:Int)<(r:Int):=by omega
    obtain⟨q,hq⟩:∃q:Nat,q=(st+r)/2:=⟨_,rfl⟩
    have hmq:((st:Int)+(r:Int))/2=(q:Int):=by omega
    have hq1:st<=q:=by omega
    have hq2:q<r:=by omega
    obtain⟨k1,k2,k3⟩:=B4.out q (by omega) (by omega);have hqn:(q:Int)<(n:Int):=by omega
    have zij:(st:Int)+(r:Int)<=2000000:=by omega
    have zp1:((mid:Int)+(m:Int)-1-(q:Int)).toNat=mid+m-1-q:=by omega
    have zp2:(0:Int)<=(mid:Int)+(m:Int)-1-(q:Int):=by omega
    have zp3:(mid:Int)+(m:Int)-1-(q:Int)<(n:Int):=by omega
    clear hq;have h0:=S.out.parts _ _ HJ.out;have hL2:=h0.len;have hp1:∀w',(∃nn:fL wr,w'=nn.val)->w'.rangeAt g ((mid+m-1-q)*202) (gJ (L.getD (mid+m-1-q) fH)):=λw' ⟨nn,e⟩=>by rw[e];exact jP (h0.ext nn.ext) (by omega)
    have hp2:∀w',(∃nn:fL wr,w'=nn.val)->w'.rangeAt g (q*202) (gJ (L.getD q fH)):=λw' ⟨nn,e⟩=>by rw[e];exact jP (h0.ext nn.ext) (by omega)
    have HCM:Hid (∀nn:fL wr,Calls Tryz.prog af (#[pX (L.getD (mid+m-1-q) fH),pX (L.getD q fH)]++cb) nn.val λe w''=>e=.returned (.int .i64 (cf (L.getD (mid+m-1-q) fH) (L.getD q fH)))/\∃q:fL wr,w''=q.val):=λnn=>oL (S.out.cmp _ _ (S.out.ext HJ.out nn.ext) _ _ (lD (by omega)) (lD (by omega)));have HLS:=ac (S.out.less _ _ HJ.out _ _ (lD (L:=L) (k:=(mid+m-1-q)) (by omega)) (lD (L:=L) (k:=q) (by omega)));obtain⟨cc,hcc⟩:∃cc,cc=cf (L.getD (mid+m-1-q) fH) (L.getD q fH):=⟨_,rfl⟩
    rw[<-hcc] at HCM HLS;obtain⟨xj,hxj⟩:∃xj,xj=L.getD (mid+m-1-q) fH:=⟨_,rfl⟩
    obtain⟨xp,hxp⟩:∃xp,xp=L.getD q fH:=⟨_,rfl⟩
    rw[<-hxj] at hp1 HCM;rw[<-hxp] at hp2 HCM;clear hcc hxj hxp h0;go_wp2;refine jH (by kernel_rfl) (by kernel_rfl) ?_
    repeat (first
     |go_big_quiet_skip
     |(refine gU (o:=⟨some 164,.load 142 _,_,_,_,_⟩) (by rfl) 142 _ rfl g ((mid+m-1-q)*202) rfl (gJ xj) _ hp1 bm rfl (hX _) ?_;simp only[zJ,zG,zH,zI])
     |(refine gU (o:=⟨some 168,.load 142 _,_,_,_,_⟩) (by rfl) 142 _ rfl g (q*202) rfl (gJ xp) _ hp2 bm rfl (hX _) ?_;simp only[zJ,zG,zH,zI])
     |go_big_quiet_step (first|(go_at_fn af;exact HCM.out _)))
    refine aq ?_;intro _ hw';obtain⟨n',rfl⟩:=hw';have HJ1:=ac (S.out.ext HJ.out n'.ext);generalize n'.val=W8 at *;clear hp1 hp2 HCM;by_cases hlv:cc<0
    .have dcc:decide (cc<0)=true:=by simpa using hlv
     have HJ2:Hid (q=rr0\/kAt fH key L (mid+m-1-q)<=kAt fH key L q):=.inr (Nat.le_of_lt (HLS.out.1 hlv));simp only[dcc,Bool.not_true];clear HLS;go_wp2
     go_roundw
     case rel=>exact⟨st,q,hi1,hq1,by omega,rfl,rfl,HI,HJ2,HJ1⟩
     case measure=>simp[intOf];omega
    .have dcc:decide (cc<0)=false:=by simpa using hlv
     have HI2:Hid (q+1=st0\/kAt fH key L (q+1-1)<=kAt fH key L (mid+m-1-(q+1-1))):=.inr (Nat.le_of_not_lt λh=>hlv (HLS.out.2 h));simp only[dcc,Bool.not_false];clear HLS;go_wp2
     go_roundw
     case rel=>exact⟨q+1,r,by omega,by omega,hjb,by go_num,rfl,HI2,HJJ,HJ1⟩
     case measure=>simp[intOf];omega
   .obtain rfl:st=r:=by omega
    have hlt':¬(st:Int)<(st:Int):=by omega
    have HFD:=ac (HFO.out st hi1 hjb HI.out HJJ.out);obtain⟨⟨f1,f2,f3⟩,⟨f4,f5⟩,_,_⟩:=HFD.out;obtain⟨en,hen⟩:∃en,en=mid+m-st:=⟨_,rfl⟩
    rw[<-HMI.out] at f3 f4 f5;rw[<-hen] at f4 f5;have HEN:=ac hen;have ze:(mid:Int)+(m:Int)-(st:Int)=(en:Int):=by omega
    clear hen hlt;go_upto_region 39 with (fail)
    have HP0:=ac (S.out.parts _ _ HJ.out);obtain⟨bb,hbb⟩:∃bb,bb=(decide (st<m)&&decide (m<en)):=⟨_,rfl⟩
    go_cut [185] (λsx wx=>sx=.bool bb/\wx=wr)
    case first=>
     by_cases hr1:st<m
     .have hr1':(st:Int)<(m:Int):=by omega
      by_cases hr2:m<en
      .have hr2':(m:Int)<(en:Int):=by omega
       go_wp2
       go_meet
       exact⟨by rw[hbb];simp[hr1,hr2],rfl⟩
      .have hr2':¬(m:Int)<(en:Int):=by omega
       go_wp2
       go_meet
       exact⟨by rw[hbb];simp[hr1,hr2],rfl⟩
     .have hr1':¬(st:Int)<(m:Int):=by omega
      go_wp2
      go_meet
      exact⟨by rw[hbb];simp[hr1],rfl⟩
    case rest=>as_aux_lemma=>
     obtain⟨rfl,rfl⟩:=hcut
     go_upto_if 185 with (fail)
     go_cut [191] (λ_ wx=>∃L1,Hid (J L1 wx)/\Hid (Sh fH L L1 a b)/\Hid (Bt fH key L1 a st mid en b))
     case first=>
      have HMJ:Hid (∀L1:List fJ,(∀x,L1.getD x fH=mE (λx=>L.getD x fH) st m en x)->Bt fH key L1 a st mid en b):=λL1 hr=>by
       have:=Cc HS1.out HS2.out HFD.out (L':=L1) (by rw[<-HMI.out,<-HEN.out];exact hr);rw[<-HMI.out,<-HEN.out] at this;exact this
      cases bb with
      |true=>
       obtain⟨hr1,hr2⟩:st<m/\m<en:=by simpa using hbb
       clear hbb
       go_wp2_with (
        (go_at_call 252
         refine(ZZ g n c st m en base (.func (.func af) #[] cb) L wc HP0.out hn hr1 hr2 (by omega)).mono ?_;rintro e w2 ⟨rfl,L1,q1,q2,q3,q4⟩;have HJ2:=ac (S.out.turn _ _ _ _ HJ.out q2.perm q1 q4);have HQ2:Hid (Sh fH L L1 a b):=q2.mono (by omega) (by omega);have HQ3:=ac (HMJ.out L1 q3)
         clear q1 q2 q3 q4))
       go_meet
       exact⟨L1,HJ2,HQ2,HQ3⟩
      |false=>
       have hr:¬(st<m/\m<en):=by
        intro h;rw[bS h.1,bS h.2] at hbb;cases hbb
       have HQ3:=ac (HMJ.out L (λx=>by
        unfold mE;by_cases e1:st<=x/\x<st+(en-m)
        .rw[aM e1];congr 1;omega
        .rw[az e1];by_cases e2:st+(en-m)<=x/\x<en
         .rw[aM e2];congr 1;omega
         .rw[az e2]))
       clear hbb;go_wp2
       go_meet
       exact⟨L,HJ,Sh.refl _ _ _,HQ3⟩
     case rest=>as_aux_lemma=>
      obtain⟨L1,HJ1,HQ1,HMD⟩:=hcut;clear HJ HP0 HFO B4 HS0;obtain⟨wp,hwp⟩:∃wp:World,wp=wc:=⟨_,rfl⟩
      rw[<-hwp];rw[<-hwp] at HJ1;clear hwp;go_upto_region 41 with (fail)
      obtain⟨bb,hbb⟩:∃bb,bb=(decide (a<st)&&decide (st<mid)):=⟨_,rfl⟩
      go_cut [199] (λsx wx=>sx=.bool bb/\wx=wp)
      case first=>
       by_cases hr1:a<st
       .have hr1':(a:Int)<(st:Int):=by omega
        by_cases hr2:st<mid
        .have hr2':(st:Int)<(mid:Int):=by omega
         go_wp2
         go_meet
         exact⟨by rw[hbb];simp[hr1,hr2],rfl⟩
        .have hr2':¬(st:Int)<(mid:Int):=by omega
         go_wp2
         go_meet
         exact⟨by rw[hbb];simp[hr1,hr2],rfl⟩
       .have hr1':¬(a:Int)<(st:Int):=by omega
        go_wp2
        go_meet
        exact⟨by rw[hbb];simp[hr1],rfl⟩
      case rest=>as_aux_lemma=>
       obtain⟨rfl,rfl⟩:=hcut
       go_upto_if 199 with (fail)
       go_cut [205] (λ_ wx=>∃L2,Hid (J L2 wx)/\Hid (Sh fH L1 L2 a mid)/\Hid (Srt fH key L2 a mid))
       case first=>
        cases bb with
        |true=>
         obtain⟨hr1,hr2⟩:a<st/\st<mid:=by simpa using hbb
         clear hbb
         go_wp2_with (
          (go_at_call 225
           refine(IH.out a st mid L1 wc (by omega) HJ1.out hr1 hr2 (by omega) HMD.out.s1 HMD.out.s2).mono ?_;rintro e w2 ⟨rfl,L2,q1,q2,q3⟩;have HJ2:=ac q1;have HQ2:=ac q2;have HQ3:=ac q3
           clear q1 q2 q3))
         go_meet
         exact⟨L2,HJ2,HQ2,HQ3⟩
        |false=>
         have hr:¬(a<st/\st<mid):=by
          intro h;rw[bS h.1,bS h.2] at hbb;cases hbb
         have HQ3:Hid (Srt fH key L1 a mid):=by
          by_cases e1:a=st
          .rw[Hid,e1];exact HMD.out.s2
          .have e2:mid=st:=by omega
           rw[Hid,e2];exact HMD.out.s1
         clear hbb;go_wp2
         go_meet
         exact⟨L1,HJ1,Sh.refl _ _ _,HQ3⟩
       case rest=>as_aux_lemma=>
        obtain⟨L2,HJ2,HQ2,HSL⟩:=hcut;have HM3:Hid (Srt fH key L2 mid en):=HMD.out.s3.out key HQ2.out (.inr (aj _));have HM4:Hid (Srt fH key L2 en b):=HMD.out.s4.out key HQ2.out (.inr (by omega))
        have HFIN:Hid (∀L3,Sh fH L2 L3 mid b->Srt fH key L3 mid b->Sh fH L L3 a b/\Srt fH key L3 a b):=λL3 q1 q2=>
         ⟨HQ1.out.trans ((HQ2.out.mono (aj _) (by omega)).trans (q1.mono (by omega) (aj _))),Srt.join HMD.out.cross HQ2.out q1 HSL.out q2⟩
        clear HJ1;by_cases hr1:mid<en
        .have hr1':(mid:Int)<(en:Int):=by omega
         by_cases hr2:en<b
         .have hr2':(en:Int)<(b:Int):=by omega
          go_wp2_with (
           (go_at_call 225
            refine(IH.out mid en b L2 wc (by omega) HJ2.out hr1 hr2 hbn HM3.out HM4.out).mono ?_;rintro e w2 ⟨rfl,L3,q1,q2,q3⟩;have HJ3:=ac q1;have HQ3:=ac (HFIN.out L3 q2 q3)
            clear q1 q2 q3))
          go_end0
          exact⟨rfl,L3,HJ3.out,HQ3.out⟩
         .have hr2':¬(en:Int)<(b:Int):=by omega
          have HQ3:=ac (HFIN.out L2 (Sh.refl _ _ _) (by have:b=en:=(by omega);rw[this];exact HM3.out));go_wp2
          go_end0
          exact⟨rfl,L2,HJ2.out,HQ3.out⟩
        .have hr1':¬(mid:Int)<(en:Int):=by omega
         have HQ3:=ac (HFIN.out L2 (Sh.refl _ _ _) (by have:mid=en:=(by omega);rw[this];exact HM4.out));go_wp2
         go_end0
         exact⟨rfl,L2,HJ2.out,HQ3.out⟩
theorem RP(af:Nat)(cb:Array Value)(cf:fJ->fJ->Int)(key:fJ->Nat)(base g n c:Nat)(J:List fJ->World->Prop)(S:CN af cb cf key base g n c J)(hn:n<=1000000):
  ∀(d a m b:Nat) (L:List fJ) (w:World),b-a<=d->J L w->a<m->m<b->b<=n->Srt fH key L a m->Srt fH key L m b->
  Calls Tryz.prog 225 #[.slice (some ⟨g,0,none⟩) n c,.int .i64 (a:Int),.int .i64 (m:Int),.int .i64 (b:Int),.func (.func af) #[] cb] w λe w'=>e=.returned (.tuple #[])/\
   ∃L',J L' w'/\Sh fH L L' a b/\Srt fH key L' a b:=by
 intro d
 induction d with
 |zero=>intro a m b L w hd _ h1 h2;omega
 |succ d ih=>
  intro a m b L w hd h ham hmb hbn hs1 hs2;by_cases h1:m=a+1
  .exact WR af cb cf key base g n c J S hn a m b L w h ham hmb hbn hs1 hs2 h1
  .by_cases h2:b=m+1
   .exact RO af cb cf key base g n c J S hn a m b L w h ham hmb hbn hs1 hs2 h1 h2
   .exact ZM af cb cf key base g n c J S hn d (λa m b L w=>ih a m b L w) a m b L w h ham hmb hbn hs1 hs2 hd h1 h2
end
end Go.Proofs.YtbknbcmppdglhaaGreatDoor
