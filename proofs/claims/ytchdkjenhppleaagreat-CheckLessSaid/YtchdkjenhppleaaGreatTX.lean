/-
 Tile:whether a tile may stand at its place.
-/
import Derived.Test.YtchdkjenhppleaaGreatA0
import Derived.Test.YtchdkjenhppleaaGreatInsR
import Derived.Test.YtchdkjenhppleaaGreatShelf
import Derived.Test.YtchdkjenhppleaaGreatTQ
import Derived.Test.YtchdkjenhppleaaGreatKD
import Derived.Deep.LoopGhost
import Derived.Test.YtchdkjenhppleaaGreatEB
import Derived.Test.YtchdkjenhppleaaGreatTT
import Derived.Test.YtchdkjenhppleaaGreatKQ
namespace Go.Proofs.YtchdkjenhppleaaGreat
set_option linter.unusedSimpArgs false
set_option linter.unusedVariables false
set_option linter.unusedSectionVars false
set_option maxRecDepth 100000
set_option maxHeartbeats 40000000
section
open Go.RowKit Go.Shelf
attribute [local go_sem] Oper.semAt_some iB fS gP fH
def wB(l:List eW)(k:Nat):Bool:=
 let t:=l.getD k nF
 ((k==0) != (t.kind==1))||((k==0) != (t.parent== -1))||(t.blocks.length==0)||(decide (0<k)&&((l.getD t.parent.toNat nF).kind==3))
theorem EL(n:Nat)(l:List eW)(k:Nat):mW n l k=(!wB l k&&pR n (l.getD k nF).blocks):=rfl
def oK(bs:List Int)(i:Nat):Int:=if i=0 then -1 else bs.getD (i-1) 0
def KH(n:Nat)(bs:List Int)(m:Nat):Prop:=∀i,i<m->(0<=bs.getD i 0/\bs.getD i 0<n)/\(i=0\/bs.getD (i-1) 0<bs.getD i 0)
theorem wT(n:Nat)(bs:List Int):pR n bs=true↔KH n bs bs.length:=by
 simp[pR,KH]
theorem EM(d:lX)(hbn:d.bn<=200)(a:Option Addr)(n c:Nat)(ls:List lI)(k:Nat)(w:World)(h:jW w a n ls)(hk:k<n)(hp:fX (eM ls)=true):
  Calls Tryz.prog 165 #[gX d,.slice a n c,.int .i64 (k:Int)] w λe w'=>e=.returned (.bool (mW d.bn (eM ls) k))/\Below w.heap.size w w':=by
 have hn:=h.1.2.1
 have HL:=ac h.1.1
 obtain⟨t,b,o,hlk,⟨hI,hcap,hI1,hI2⟩,rfl,c0,c1,c2⟩:=h.cells hk
 have htd:=qX ls k t hlk
 have hpk:=(gM _).1 hp k (by rw[iV,h.1.1];exact hk)
 rw[nB,htd] at hpk
 have HST:=ac (EL d.bn (eM ls) k)
 rw[htd] at HST
 have HM:Hid (wB (eM ls) k=(((k==0) != (t.d.kind==1))||((k==0) != (t.d.parent== -1))||(t.d.blocks.length==0)||(decide (0<k)&&(((eM ls).getD t.d.parent.toNat nF).kind==3)))):=by
  rw[Hid,wB,htd]
 have HLn:=ac hI.1
 have hbl:=hI.2.1
 have HI:=ac hI
 have H:=ac h
 clear h hlk hI htd hp
 go_enter Tryz.func165,Tryz.ntmps165
 go_upto_region 1 with (fail)
 obtain⟨W,hW⟩:∃W,W=w.alloc (oD d):=⟨_,rfl⟩
 rw[<-hW]
 have hk0:W.heap[w.heap.size]? =some (oD d):=by rw[hW];exact ai _ _
 have hB:Below w.heap.size w W:=by rw[hW];exact eD _ _
 replace c0:=eN hB c0
 replace c1:=eN hB c1
 replace c2:=eN hB c2
 have HK:=ac hk0
 have HB:=ac hB
 clear hW hk0 hB
 go_upto_region 2 with (fail)
 obtain⟨W2,hW2⟩:∃W2,W2=W.alloc (AX t):=⟨_,rfl⟩
 rw[<-hW2]
 have hB2:Below w.heap.size w W2:=by rw[hW2];exact HB.out.alloc HB.out.size _
 have hB3:Below W.heap.size W W2:=by rw[hW2];exact eD _ _
 have ht2:W2.heap[W.heap.size]? =some (AX t):=by rw[hW2];exact ai _ _
 have HK2:=ac (eB hB3 HK.out)
 have HB2:=ac hB2
 have HT2:=ac ht2
 have hPT:W.heap.size=W.heap.size:=rfl
 clear hW2 hB2 hB3 ht2 c0 c1 c2 HK HB
 generalize W.heap.size=g at*
 go_cut [47] (λs47 wr=>s47=.bool (wB (eM ls) k)/\wr=W2)
 case first=>
  obtain⟨t0,t1,t2⟩:=tY HT2.out rfl;by_cases hk0:k=0
  .have fk:((k:Int)==0)=true:=by simp[hk0]
   have fkp:decide (0<(k:Int))=false:=by simp[hk0]
   have fkn:decide (0<k)=false:=by simp[hk0]
   by_cases ha:t.d.kind=1
   .have fa:(t.d.kind==1)=true:=by simp[ha]
    have hpe:t.d.parent= -1:=by omega
    have fp:(t.d.parent== -1)=true:=by simp[hpe]
    by_cases hl:t.bn=0
    .have fl:((t.bn:Int)==0)=true:=by simp[hl]
     have hE:Hid (wB (eM ls) k=true):=by rw[Hid,HM.out];simp[HLn.out,hk0,ha,hpe,hl]
     clear hk0 ha hpe hl hpk;go_wp2
     go_meet
     exact⟨(aL Value.bool hE.out).symm,rfl⟩
    .have fl:((t.bn:Int)==0)=false:=by simp[hl]
     have hE:Hid (wB (eM ls) k=false):=by rw[Hid,HM.out];simp[HLn.out,hk0,ha,hpe,hl]
     clear hk0 ha hpe hl hpk;go_wp2
     go_meet
     exact⟨(aL Value.bool hE.out).symm,rfl⟩
   .have fa:(t.d.kind==1)=false:=by simp[ha]
    have hE:Hid (wB (eM ls) k=true):=by rw[Hid,HM.out];simp[HLn.out,hk0,ha]
    clear hk0 ha hpk;go_wp2
    go_meet
    exact⟨(aL Value.bool hE.out).symm,rfl⟩
  .have fk:((k:Int)==0)=false:=by simp[hk0]
   have fkp:decide (0<(k:Int))=true:=by simp;omega
   have fkn:decide (0<k)=true:=by simp;omega
   by_cases ha:t.d.kind=1
   .have fa:(t.d.kind==1)=true:=by simp[ha]
    have hE:Hid (wB (eM ls) k=true):=by rw[Hid,HM.out];simp[HLn.out,hk0,ha]
    clear hk0 ha hpk;go_wp2
    go_meet
    exact⟨(aL Value.bool hE.out).symm,rfl⟩
   .have fa:(t.d.kind==1)=false:=by simp[ha]
    by_cases hpe:t.d.parent= -1
    .have fp:(t.d.parent== -1)=true:=by simp[hpe]
     have hE:Hid (wB (eM ls) k=true):=by rw[Hid,HM.out];simp[HLn.out,hk0,ha,hpe]
     clear hk0 ha hpe hpk;go_wp2
     go_meet
     exact⟨(aL Value.bool hE.out).symm,rfl⟩
    .have fp:(t.d.parent== -1)=false:=by simp[hpe]
     have hp0:0<=t.d.parent:=by omega
     have hpn:t.d.parent<(n:Int):=by omega
     by_cases hl:t.bn=0
     .have fl:((t.bn:Int)==0)=true:=by simp[hl]
      have hE:Hid (wB (eM ls) k=true):=by rw[Hid,HM.out];simp[HLn.out,hk0,ha,hpe,hl]
      clear hk0 ha hpe hl hpk;go_wp2
      go_meet
      exact⟨(aL Value.bool hE.out).symm,rfl⟩
     .have fl:((t.bn:Int)==0)=false:=by simp[hl]
      obtain⟨t',b',o',hl',_,hab,l0,_,_⟩:=(H.out.ext HB2.out).cells (k:=t.d.parent.toNat) (by omega);injection hab with hab;injection hab with hab1 hab2 _;subst hab1 hab2;have htd':=qX ls _ t' hl';by_cases he:t'.d.kind=3
      .have fe:(t'.d.kind==3)=true:=by simp[he]
       have fkb:(k==0)=false:=by simp[hk0]
       have flb:(t.bn==0)=false:=by simp[hl]
       have hE:Hid (wB (eM ls) k=true):=by rw[Hid,HM.out,htd',fkb,fa,fp,HLn.out,flb,fkn,fe];rfl
       clear fkb flb;clear hk0 ha hpe hl hpk he hl' htd';go_wp2
       go_meet
       exact⟨(aL Value.bool hE.out).symm,rfl⟩
      .have fe:(t'.d.kind==3)=false:=by simp[he]
       have fkb:(k==0)=false:=by simp[hk0]
       have flb:(t.bn==0)=false:=by simp[hl]
       have hE:Hid (wB (eM ls) k=false):=by rw[Hid,HM.out,htd',fkb,fa,fp,HLn.out,flb,fkn,fe];rfl
       clear fkb flb;clear hk0 ha hpe hl hpk he hl' htd';go_wp2
       go_meet
       exact⟨(aL Value.bool hE.out).symm,rfl⟩
 case rest=>
  obtain⟨rfl,rfl⟩:=hcut;cases hm:wB (eM ls) k with
  |true=>
   have HE:Hid (mW d.bn (eM ls) k=false):=by rw[Hid,HST.out,hm];rfl
   clear hm;go_wp2
   go_ret
   exact⟨(aL (λb=>Ending.returned (Value.bool b)) HE.out).symm,HB2.out⟩
  |false=>
   have HE:Hid (mW d.bn (eM ls) k=pR d.bn t.d.blocks):=by rw[Hid,HST.out,hm];rfl
   clear hm;have t2:=cK 2 HT2.out rfl;have w1:=cK 1 HK2.out rfl;generalize t.ba=ba at *;go_wp2
   go_loopw [8,10,51] (λl _ i wr=>∃(m:Nat),m<=t.bn/\i=.int .i64 m/\l=.int .i64 (oK t.d.blocks m)/\Hid (KH d.bn t.d.blocks m)/\wr=wc) (λ_ _ i _=>t.bn-(intOf i).toNat)
   case atStart=>exact⟨0,by omega,rfl,rfl,λj hj=>absurd hj (by omega),rfl⟩
   case round=>
    obtain⟨m,hm,rfl,rfl,HR,rfl⟩:=hrel;by_cases hlt:m<t.bn
    .obtain⟨bb,ob,rfl,hc,hw1,hw2⟩:=(HI.out.ext HB2.out).2.2 m hlt;have hmx:m<t.d.blocks.length:=by rw[HLn.out];exact hlt
     have hlast:I64 (oK t.d.blocks m):=by
      unfold oK
      split
      .unfold I64;omega
      .obtain⟨_,_,_,_,h1,h2⟩:=(HI.out).2.2 (m-1) (by omega);exact⟨h1,h2⟩
     have HLA:Hid (m=0/\oK t.d.blocks m= -1\/m≠0/\oK t.d.blocks m=t.d.blocks.getD (m-1) 0):=by
      unfold oK;by_cases e:m=0
      .exact .inl ⟨e,by simp[e]⟩
      .exact .inr ⟨e,by simp[e]⟩
     have HNX:Hid (oK t.d.blocks (m+1)=t.d.blocks.getD m 0):=by simp[Hid,oK]
     have HRS:Hid (pR d.bn t.d.blocks=true->(0<=t.d.blocks.getD m 0/\t.d.blocks.getD m 0<d.bn)/\oK t.d.blocks m<t.d.blocks.getD m 0):=λh=>by
      have h1:=(wT _ _).1 h m hmx;refine⟨h1.1,?_⟩;rcases HLA.out with ⟨h2,h3⟩|⟨h2,h3⟩
      .rw[h3];omega
      .rw[h3];exact h1.2.resolve_left h2
     have HRN:Hid (0<=t.d.blocks.getD m 0->t.d.blocks.getD m 0<d.bn->oK t.d.blocks m<t.d.blocks.getD m 0->KH d.bn t.d.blocks (m+1)):=λh1 h2 h3 j hj=>by
      by_cases e:j=m
      .subst e;refine⟨⟨h1,h2⟩,?_⟩;rcases HLA.out with ⟨h4,h5⟩|⟨h4,h5⟩
       .exact .inl h4
       .rw[h5] at h3;exact .inr h3
      .exact HR.out j (by omega)
     have hl1: -1<=oK t.d.blocks m:=by
      rcases HLA.out with ⟨h4,h5⟩|⟨h4,h5⟩
      .omega
      .rw[h5];have:=(HR.out (m-1) (by omega)).1;omega
     obtain⟨hla1,hla2⟩:=hlast;clear hmx HLA HR;generalize t.d.blocks.getD m 0=x at *;generalize oK t.d.blocks m=la at *;by_cases h1:x<=la
     .have HF:Hid (pR d.bn t.d.blocks=false):=by
       rw[Hid,bU];intro h;have:=(HRS.out h).2;omega
      go_wp2
      go_ret
      exact⟨(aL (λb=>Ending.returned (Value.bool b)) (HE.out.trans HF.out)).symm,HB2.out⟩
     .by_cases h2:x<(d.bn:Int)
      .have HR2:=ac (HRN.out (by omega) h2 (by omega));go_wp2
       go_roundw
       case rel=>exact⟨m+1,by omega,by go_num,by rw[HNX.out],HR2,trivial⟩
       case measure=>simp[intOf];omega
      .have HF:Hid (pR d.bn t.d.blocks=false):=by
        rw[Hid,bU];intro h;have:=(HRS.out h).1;omega
       go_wp2
       go_ret
       exact⟨(aL (λb=>Ending.returned (Value.bool b)) (HE.out.trans HF.out)).symm,HB2.out⟩
    .obtain rfl:m=t.bn:=by omega
     have HF:Hid (pR d.bn t.d.blocks=true):=(wT _ _).2 (by rw[HLn.out];exact HR.out);clear HR;generalize oK t.d.blocks t.bn=la at *;go_wp2
     go_ret
     exact⟨(aL (λb=>Ending.returned (Value.bool b)) (HE.out.trans HF.out)).symm,HB2.out⟩
end

section
open Go.RowKit Go.Shelf
attribute [local go_sem] Oper.semAt_some iB fS gP fH
theorem PQ{f:Nat->Bool}{b:Nat}{l:List Nat}(h:iR f=b :: l){x:Nat}(hx:x∈iR f):b<=x:=by
 have hp:(iR f).Pairwise (· < ·):=List.pairwise_lt_range.filter _
 rw[h] at hp hx
 rcases aH.1 hx with rfl|hx
 .exact aw _
 .have:=(dX.1 hp).1 x hx;omega
theorem ny{l:List eW}{k:Nat}(h:wB l k=false):(l.getD k nF).blocks.length≠0:=by
 simp only[wB,dt] at h
 have:=h.1.2
 simpa using this
theorem LH{n:Nat}{l:List eW}{k:Nat}(hk:k<l.length)(hp:fX l=true)(hn:n<=200)(h:mW n l k=true):
  (∀x∈(l.getD k nF).blocks,0<=x/\x<n)/\∀b r,iR (qP l k)=b :: r->b<n:=by
 rw[EL,az] at h
 have h1:=ny (by simpa using h.1)
 have h2:=(wT _ _).1 h.2
 have h3:∀x∈(l.getD k nF).blocks,0<=x/\x<n:=λx hx=>by
  obtain⟨i,hi,rfl⟩:=List.getElem_of_mem hx;have:=(h2 i hi).1;rw[ax (l:=(l.getD k nF).blocks),au hi] at this;exact this
 refine⟨h3,λb r hb=>?_⟩
 obtain⟨x,r',hx⟩:∃x r',(l.getD k nF).blocks=x :: r':=by
  cases e:(l.getD k nF).blocks with
  |nil=>rw[e] at h1;simp at h1
  |cons x r'=>exact⟨x,r',rfl⟩
 have hx1:=h3 x (by rw[hx];simp)
 have hm:x∈xH l k:=(il l k hk hp x).2 ⟨k,hk,xA l k,by rw[lS,hx];simp⟩
 have hs:qP l k x.toNat=true:=by
  simp only[qP,ofS,az,aR];refine⟨by omega,?_⟩;rw[show((x.toNat:Nat):Int)=x by omega];simpa using hm
 have:=PQ hb ((XM (NJ _) _).2 hs)
 omega
theorem EK(pa:Option Addr)(pn pc:Nat)(ba:Option Addr)(bn bc:Nat)(bs:List jU)(a:Option Addr)(n c:Nat)(ls:List lI)(w:World)(h:iP w ba bn bs)(ht:jW w a n ls)(hT:zR (eM ls)<=1000000):
  Calls Tryz.prog 152 #[kF pa pn pc ba bn bc,.slice a n c] w λe w'=>e=.returned (.bool (fE (eZ bs) (eM ls)))/\Below w.heap.size w w':=by
 have hn:=ht.1.2.1
 have HLN:=ac ht.1.1
 have H:=ac h
 have HT:=ac ht
 have HTOT:=ac hT
 clear h ht hT
 go_enter Tryz.func152,Tryz.ntmps152
 go_upto_region 1 with (fail)
 obtain⟨W,hW⟩:∃W,W=w.alloc (gH pa pn pc ba bn bc):=⟨_,rfl⟩
 rw[<-hW]
 have hk0:W.heap[w.heap.size]? =some (gH pa pn pc ba bn bc):=by rw[hW];exact ai _ _
 have hB:Below w.heap.size w W:=by rw[hW];exact eD _ _
 have HK:=ac hk0
 have HB:=ac hB
 clear hW hk0 hB
 cases hf:gS (eZ bs) with
 |false=>
  have HE:Hid (fE (eZ bs) (eM ls)=false):=by simp[Hid,fE,hf]
  have HF:=ac hf;clear hf
  go_wp2_with (first
   |(refine ay (o:=⟨some 10,.load 47 _,_,_,_,_⟩) rfl 47 _ rfl w.heap.size rfl 47 _ (0,0) _ HK.out bj rfl fY ?_)
   |(go_at_call 125
     refine(uH pa pn pc ba bn bc bs W (H.out.ext HB.out)).mono ?_;rintro e w2 ⟨cs,rfl,hcs,hall,hb,hokk⟩;rw[HF.out];have HB2:=ac (eA HB.out hb);have HCS:=ac hcs;have HALL:=ac hall
     clear hb hokk hcs hall)
   |(refine aU rfl 201 _ _ rfl w2.heap.size cs rfl rfl 201 _ (ai w2 MR) (by rw[HCS.out];exact eX) (by rw[HCS.out];rfl) HALL.out ?_))
  go_ret
  exact⟨(aL (λb=>Ending.returned (Value.bool b)) HE.out).symm,aA (HB2.out.alloc HB2.out.size _) HB2.out.size _⟩
 |true=>
  have HF:=ac hf;have hgood:=(jP _).1 (pY hf);have hbn:(eZ bs).length=bn:=by rw[kQ];exact H.out.1.1
  have hbn1:1<=bn:=by rw[<-hbn];exact hgood.1.1
  have hbn2:bn<=200:=by rw[<-hbn];exact hgood.1.2
  have HBN:Hid (bn<=200):=hbn2;have HTL:Hid ((eZ bs).length=bn):=hbn;clear hf hgood hbn
  go_upto_region 2 with (first
   |(refine ay (o:=⟨some 10,.load 47 _,_,_,_,_⟩) rfl 47 _ rfl w.heap.size rfl 47 _ (0,0) _ HK.out bj rfl fY ?_)
   |(go_at_call 125
     refine(uH pa pn pc ba bn bc bs W (H.out.ext HB.out)).mono ?_;rintro e w2 ⟨cs,rfl,hcs,hall,hb,hokk⟩;rw[HF.out];obtain⟨ta,tc,fa,fc,hcv,hwk⟩:=hokk HF.out;injection hcv with hcv;subst hcv;have HB2:=ac (eA HB.out hb);have HWK:=ac hwk
     clear hb hokk hcs hall hwk)
   |(refine aU rfl 201 _ _ rfl w2.heap.size #[.slice pa pn pc,.slice ba bn bc,.slice ta bn tc,.slice fa bn fc] rfl rfl 201 _ (ai w2 MR) eX rfl rfl ?_))
  obtain⟨W3,hW3⟩:∃W3,W3=w2.alloc (oD ⟨pa,pn,pc,ba,bn,bc,ta,tc,fa,fc⟩):=⟨_,rfl⟩
  rw[<-hW3];have hw3:W3.heap[w2.heap.size]? =some (oD ⟨pa,pn,pc,ba,bn,bc,ta,tc,fa,fc⟩):=by rw[hW3];exact ai _ _
  have HW3:=ac hw3;have HB3':Below w2.heap.size w2 W3:=by rw[hW3];exact eD _ _
  have HB3:=ac (eA HB2.out HB3');have HWK3:=ac (HWK.out.ext HB3');have hPW:w.heap.size<=w2.heap.size:=HB2.out.size;clear hW3 hw3 HB3' HWK HB2;generalize w2.heap.size=PW at *;by_cases hl:n<=200
  .have dl:decide ((n:Int)>200)=false:=by simp;omega
   have dl2:decide ((200:Int)<(n:Int))=false:=by simp;omega
   cases hpar:fX (eM ls) with
   |false=>
    have HE:Hid (fE (eZ bs) (eM ls)=false):=by simp[Hid,fE,hpar]
    have HPAR:=ac hpar;clear hpar
    go_wp2_with (go_at_call 163
                 refine(rD a n c ls W3 (HT.out.ext HB3.out)).mono ?_;rintro e w4 ⟨rfl,hb4⟩;rw[HPAR.out];have HB4:=ac (eA HB3.out hb4)
                 clear hb4)
    go_ret
    exact⟨(aL (λb=>Ending.returned (Value.bool b)) HE.out).symm,HB4.out⟩
   |true=>
    have HPAR:=ac hpar;clear hpar
    go_upto_region 4 with (go_at_call 163
                           refine(rD a n c ls W3 (HT.out.ext HB3.out)).mono ?_;rintro e w4 ⟨rfl,hb4⟩;rw[HPAR.out];have HB4:=ac (eA HB3.out hb4);have HW4:=ac (eB hb4 HW3.out);have HWK4:=ac (HWK3.out.ext hb4)
                           clear hb4)
    clear HW3 HWK3 HB3
    go_upto_region 5 with (first
     |(refine ay (o:=⟨some 26,.load 201 _,_,_,_,_⟩) rfl 201 _ rfl PW rfl 201 _ (0,0) _ HW4.out aS rfl eX ?_)
     |(go_at_call 164
       refine(UR ⟨pa,pn,pc,ba,bn,bc,ta,tc,fa,fc⟩ hbn1 hbn2 a n c ls w4 (HT.out.ext HB4.out)).mono ?_;rintro e w5 ⟨v,rfl,hb5,ho1,ho2⟩;have HB5:=ac (eA HB4.out hb5);have HW5:=ac (eB hb5 HW4.out);have HWK5:=ac (HWK4.out.ext hb5);have HO1:=ac ho1;have HO2:=ac ho2
       clear hb5 ho1 ho2))
    clear HW4 HWK4 HB4;cases hob:kO (eM ls) bn with
    |false=>
     have hv:v=.slice none 0 0:=HO2.out hob;subst hv;have HE:Hid (fE (eZ bs) (eM ls)=false):=by simp[Hid,fE,HTL.out,hob]
     clear hob HO1 HO2;have hq:=λw n c n' c'=>cE (P:=Tryz.prog) w 22 3 none n c n' c' aQ;go_wp2
     go_ret
     exact⟨(aL (λb=>Ending.returned (Value.bool b)) HE.out).symm,HB5.out⟩
    |true=>
     obtain⟨g,cc,rfl,ho⟩:=HO1.out hob;have HOB:=ac hob;obtain⟨b0,o0,e0,hc0,_⟩:=ho.ints.2.2 0 (by omega);injection e0 with e0;injection e0 with e1 e2;subst e1 e2;have hv0:(wA (eM ls) bn).getD 0 0=(nP (eM ls) 0:Int):=by
      have:(List.range bn)[0]? =some 0:=by rw[dO (by omega)]
      simp[wA,ax,this]
     rw[hv0] at hc0;clear hob HO1 HO2 ho hv0;have hq:=λw n c n' c'=>cE (P:=Tryz.prog) w 22 3 (some ⟨g,0,none⟩) n c n' c' aQ;by_cases hz:nP (eM ls) 0=0
     .rw[hz] at hc0;have HZ:=ac hz;clear hz;go_wp2
      go_loopw [8,39] (λ_ i wr=>∃(k:Nat),k<=n/\i=.int .i64 k/\Hid (∀j,j<k->(mW bn (eM ls) j&&iN (eZ bs) ((eM ls).getD j nF) (qP (eM ls) j))=true)/\Hid (wr.heap[PW]? =some (oD ⟨pa,pn,pc,ba,bn,bc,ta,tc,fa,fc⟩))/\Hid (lP wr ⟨pa,pn,pc,ba,bn,bc,ta,tc,fa,fc⟩ (eZ bs))/\Hid (Below w.heap.size w wr)) (λ_ i _=>n-(intOf i).toNat)
      case atStart=>exact⟨0,by omega,rfl,λj hj=>absurd hj (by omega),HW5,HWK5,HB5⟩
      case round=>
       obtain⟨k,hk,rfl,HR,HW4,HWK4,HB4⟩:=hrel;have HB50:=HB5;clear HB5 HW5 HWK5 hc0;by_cases hlt:k<n
       .have hkl:k<(eM ls).length:=by rw[iV,HLN.out];exact hlt
        obtain⟨t,b,o,hlk,⟨hI,hcap,hI1,hI2⟩,rfl,c0,c1,c2⟩:=(HT.out.ext HB4.out).cells hlt;have htd:=qX ls k t hlk;have C0:=ac c0;have C1:=ac c1;have C2:=ac c2;have HKD:Hid (I64 t.d.kind):=hI1;have HNO:Hid ((mW bn (eM ls) k&&iN (eZ bs) t.d (qP (eM ls) k))=false->fE (eZ bs) (eM ls)=false):=λh=>by
         rw[bU];intro h2;simp only[fE,az,bq,be] at h2;have h3:=h2.2 k hkl;rw[htd,HTL.out] at h3;rw[h3.1,h3.2] at h;cases h
        have HYES:Hid ((mW bn (eM ls) k&&iN (eZ bs) t.d (qP (eM ls) k))=true->Hid (∀j,j<k+1->(mW bn (eM ls) j&&iN (eZ bs) ((eM ls).getD j nF) (qP (eM ls) j))=true)):=λh j hj=>by
         by_cases e:j=k
         .subst e;rw[htd];exact h
         .exact HR.out j (by omega)
        clear c0 c1 c2 hlk hI1 hI2 hcap HR;cases hst:mW bn (eM ls) k with
        |false=>
         have HE:=ac (HNO.out (by rw[hst];rfl));have HSTD:=ac hst;have HSQ:Hid (∀n':eH wr,Calls Tryz.prog 165 #[gX ⟨pa,pn,pc,ba,bn,bc,ta,tc,fa,fc⟩,.slice (some ⟨b,o,none⟩) n c,.int .i64 (k:Int)] n'.val λe w''=>e=.returned (.bool false)/\∃m:eH wr,w''=m.val):=λn'=>by
          have:=EM ⟨pa,pn,pc,ba,bn,bc,ta,tc,fa,fc⟩ HBN.out (some ⟨b,o,none⟩) n c ls k n'.val (HT.out.ext (eA HB4.out n'.ext)) hlt HPAR.out;rw[HSTD.out] at this;exact oM this
         clear hst htd hI;go_upto_region 10 with (fail)
         refine lE (by kernel_rfl) (by kernel_rfl) ?_
         repeat (first
          |go_big_quiet_skip
          |(refine eP (o:=⟨some 42,.load 201 _,_,_,_,_⟩) (by rfl) 201 _ rfl PW rfl 201 #[.slice pa pn pc,.slice ba bn bc,.slice ta bn tc,.slice fa bn fc] (0,0) _ (by rintro _ ⟨n,rfl⟩;exact eB n.ext HW4.out) aS rfl eX ?_;simp only[zJ,zG,zH,zI])
          |go_big_quiet_step (first
           |(go_at_call 165;exact HSQ.out _)))
         refine ar ?_;intro _ hw';obtain⟨n',rfl⟩:=hw';go_wp2
         go_ret
         exact⟨(aL (λb=>Ending.returned (Value.bool b)) HE.out).symm,eA HB4.out n'.ext⟩
        |true=>
         have hsf:=LH hkl HPAR.out HBN.out hst;rw[htd] at hsf;have HBLK:=ac hsf.1;have HLE:=ac hsf.2;have HIN:=ac hI;have HSTD:=ac hst;clear hst htd hI hsf;go_upto_region 10 with (fail)
         refine kZ 18 [some 42,some 43,some 44,some 45,some 46,some 47,some 48,some 49,some 50,some 51,some 52,some 53,some 54,some 55,some 56,some 57,some 58,some 59] (by kernel_rfl) (by kernel_rfl) (jL [.val (gX ⟨pa,pn,pc,ba,bn,bc,ta,tc,fa,fc⟩),.val (.slice (some ⟨b,o,none⟩) n c),.val (.int .i64 (k:Int)),.val (.bool true),.val (.bool false),.val (.bool false),.val (gX ⟨pa,pn,pc,ba,bn,bc,ta,tc,fa,fc⟩),.val (.slice (some ⟨b,o,none⟩) n c),.val (.int .i64 (k:Int)),.val (.pointer (some ⟨b,o+k*3,none⟩)),.val (UB t),.val (.slice (some ⟨b,o,none⟩) n c),.val (.int .i64 (k:Int)),(.any λv lo hi W=>∃al cl,v=.slice al (xH (eM ls) (k:Int)).length cl/\fQ W lo v (xH (eM ls) (k:Int))),.val (.agg (eV (qP (eM ls) k))),.val (.bool (iN (eZ bs) t.d (qP (eM ls) k))),.val (.bool (!iN (eZ bs) t.d (qP (eM ls) k))),.val (.bool (!iN (eZ bs) t.d (qP (eM ls) k)))]) (kC ?_) ?_ ?_
         .intro k hk;simp only[aH,a7,bW] at hk;rcases hk with rfl|rfl|rfl|rfl|rfl|rfl|rfl|rfl|rfl|rfl|rfl|rfl|rfl|rfl|rfl|rfl|rfl|rfl<;>try exact trivial
          .intro v lo hi w w' hb ⟨al,cl,e,ho⟩;exact⟨al,cl,e,ho.ext hb⟩
         .intro i hi ν lo hi' w1 K hB hD hK;have hcase:i=0\/i=1\/i=2\/i=3\/i=4\/i=5\/i=6\/i=7\/i=8\/i=9\/i=10\/i=11\/i=12\/i=13\/i=14\/i=15\/i=16\/i=17:=by omega
          clear hi;rcases hcase with rfl|rfl|rfl|rfl|rfl|rfl|rfl|rfl|rfl|rfl|rfl|rfl|rfl|rfl|rfl|rfl|rfl|rfl
          .clear hD;refine eJ rfl rfl ?_;simp only[zA,zB,zC,zD,zE,zF,zJ,zK,zG,zH,zI] at hK|-;refine bX 201 _ rfl PW rfl 201 _ (0,0) _ (eB hB HW4.out) aS rfl eX ?_;exact hK _ _ (ao _ _) rfl
          .clear hD;refine eJ rfl rfl ?_;simp only[zA,zB,zC,zD,zE,zF,zJ,zK,zG,zH,zI] at hK|-;go_simp;exact hK _ _ (ao _ _) rfl
          .clear hD;refine eJ rfl rfl ?_;simp only[zA,zB,zC,zD,zE,zF,zJ,zK,zG,zH,zI] at hK|-;go_simp;exact hK _ _ (ao _ _) rfl
          .have e0:ν 0=(gX ⟨pa,pn,pc,ba,bn,bc,ta,tc,fa,fc⟩):=hD 0 (by kernel_rfl);have e1:ν 1=(.slice (some ⟨b,o,none⟩) n c):=hD 1 (by kernel_rfl);have e2:ν 2=(.int .i64 (k:Int)):=hD 2 (by kernel_rfl);clear hD;refine eJ rfl rfl ?_;simp only[zA,zB,zC,zD,zE,zF,zJ,zK,zG,zH,zI,e0,e1,e2] at hK|-;go_simp;refine(EM ⟨pa,pn,pc,ba,bn,bc,ta,tc,fa,fc⟩ HBN.out (some ⟨b,o,none⟩) n c ls k w1 (HT.out.ext (eA HB4.out hB)) hlt HPAR.out).mono ?_;rintro e w3 ⟨rfl,hb3⟩;rw[HSTD.out];exact hK _ _ hb3 rfl
          .have e3:ν 3=(.bool true):=hD 3 (by kernel_rfl);clear hD;refine eJ rfl rfl ?_;simp only[zA,zB,zC,zD,zE,zF,zJ,zK,zG,zH,zI,e3] at hK|-;go_simp;exact hK _ _ (ao _ _) rfl
          .have e3:ν 3=(.bool true):=hD 3 (by kernel_rfl);have e4:ν 4=(.bool false):=hD 4 (by kernel_rfl);clear hD;refine eJ rfl rfl ?_;simp only[zA,zB,zC,zD,zE,zF,zJ,zK,zG,zH,zI,e3,e4] at hK|-;go_simp;exact hK _ _ (ao _ _) rfl
          .have e5:ν 5=(.bool false):=hD 5 (by kernel_rfl);clear hD;simp only[zA,zB,zC,zD,zE,zF,zJ,zK,zG,zH,zI,e5] at hK|-;refine mB rfl (by rfl) ?_;refine bX 201 _ rfl PW rfl 201 _ (0,0) _ (eB hB HW4.out) aS rfl eX ?_;exact hK _ _ (ao _ _) rfl
          .have e5:ν 5=(.bool false):=hD 5 (by kernel_rfl);clear hD;simp only[zA,zB,zC,zD,zE,zF,zJ,zK,zG,zH,zI,e5] at hK|-;refine mB rfl (by rfl) ?_;go_simp;exact hK _ _ (ao _ _) rfl
          .have e5:ν 5=(.bool false):=hD 5 (by kernel_rfl);clear hD;simp only[zA,zB,zC,zD,zE,zF,zJ,zK,zG,zH,zI,e5] at hK|-;refine mB rfl (by rfl) ?_;go_simp;exact hK _ _ (ao _ _) rfl
          .have e5:ν 5=(.bool false):=hD 5 (by kernel_rfl);have e7:ν 7=(.slice (some ⟨b,o,none⟩) n c):=hD 7 (by kernel_rfl);have e8:ν 8=(.int .i64 (k:Int)):=hD 8 (by kernel_rfl);clear hD;simp only[zA,zB,zC,zD,zE,zF,zJ,zK,zG,zH,zI,e5,e7,e8] at hK|-;refine mB rfl (by rfl) ?_;go_simp;exact hK _ _ (ao _ _) rfl
          .have e5:ν 5=(.bool false):=hD 5 (by kernel_rfl);have e9:ν 9=(.pointer (some ⟨b,o+k*3,none⟩)):=hD 9 (by kernel_rfl);clear hD;simp only[zA,zB,zC,zD,zE,zF,zJ,zK,zG,zH,zI,e5,e9] at hK|-;refine mB rfl (by rfl) ?_;have c0':=eN hB C0.out;have c1':=eN hB C1.out;have c2':=eN hB C2.out;go_simp;exact hK _ _ (ao _ _) rfl
          .have e5:ν 5=(.bool false):=hD 5 (by kernel_rfl);clear hD;simp only[zA,zB,zC,zD,zE,zF,zJ,zK,zG,zH,zI,e5] at hK|-;refine mB rfl (by rfl) ?_;go_simp;exact hK _ _ (ao _ _) rfl
          .have e5:ν 5=(.bool false):=hD 5 (by kernel_rfl);clear hD;simp only[zA,zB,zC,zD,zE,zF,zJ,zK,zG,zH,zI,e5] at hK|-;refine mB rfl (by rfl) ?_;go_simp;exact hK _ _ (ao _ _) rfl
          .have e5:ν 5=(.bool false):=hD 5 (by kernel_rfl);have e11:ν 11=(.slice (some ⟨b,o,none⟩) n c):=hD 11 (by kernel_rfl);have e12:ν 12=(.int .i64 (k:Int)):=hD 12 (by kernel_rfl);clear hD;simp only[zA,zB,zC,zD,zE,zF,zJ,zK,zG,zH,zI,e5,e11,e12] at hK|-;refine mB rfl (by rfl) ?_;go_simp;refine(mx (some ⟨b,o,none⟩) n c ls (k:Int) w1 (HT.out.ext (eA HB4.out hB)) (by unfold I64;omega) HTOT.out).mono ?_;rintro e w3 ⟨v,rfl,ho,hb3⟩;obtain⟨al,cl,rfl⟩:=ho.form;exact hK _ _ hb3 ⟨al,cl,rfl,ho⟩
          .have e5:ν 5=(.bool false):=hD 5 (by kernel_rfl);have e13:=hD 13 (by kernel_rfl);unfold jL at e13;simp only[bw,bl,oE] at e13;clear hD;simp only[zA,zB,zC,zD,zE,zF,zJ,zK,zG,zH,zI,e5] at hK|-;refine mB rfl (by rfl) ?_;obtain⟨al,cl,e13',ho3⟩:=e13;simp only[e13'] at hK|-;rw[e13'] at ho3;go_simp;refine(nw al _ cl (xH (eM ls) (k:Int)) w1 ho3.ints).mono ?_;rintro e w3 ⟨rfl,hb3⟩;exact hK _ _ hb3 rfl
          .have e5:ν 5=(.bool false):=hD 5 (by kernel_rfl);have e6:ν 6=(gX ⟨pa,pn,pc,ba,bn,bc,ta,tc,fa,fc⟩):=hD 6 (by kernel_rfl);have e10:ν 10=(UB t):=hD 10 (by kernel_rfl);have e14:ν 14=(.agg (eV (qP (eM ls) k))):=hD 14 (by kernel_rfl);clear hD;simp only[zA,zB,zC,zD,zE,zF,zJ,zK,zG,zH,zI,e5,e6,e10,e14] at hK|-;refine mB rfl (by rfl) ?_;go_simp;refine(YB ⟨pa,pn,pc,ba,bn,bc,ta,tc,fa,fc⟩ (eZ bs) t (qP (eM ls) k) w1 (HWK4.out.ext hB) (pY HF.out) (NJ _) (HIN.out.ext hB) HKD.out HBLK.out HLE.out).mono ?_;rintro e w3 ⟨rfl,hb3⟩;exact hK _ _ hb3 rfl
          .have e5:ν 5=(.bool false):=hD 5 (by kernel_rfl);have e15:ν 15=(.bool (iN (eZ bs) t.d (qP (eM ls) k))):=hD 15 (by kernel_rfl);clear hD;simp only[zA,zB,zC,zD,zE,zF,zJ,zK,zG,zH,zI,e5,e15] at hK|-;refine mB rfl (by rfl) ?_;go_simp;exact hK _ _ (ao _ _) rfl
          .have e5:ν 5=(.bool false):=hD 5 (by kernel_rfl);have e16:ν 16=(.bool (!iN (eZ bs) t.d (qP (eM ls) k))):=hD 16 (by kernel_rfl);clear hD;refine eJ rfl rfl ?_;simp only[zA,zB,zC,zD,zE,zF,zJ,zK,zG,zH,zI,e5,e16] at hK|-;go_simp;exact hK _ _ (ao _ _) rfl
         .intro ν lo hi w1 hB hS hI hD;have e0:ν 0=(gX ⟨pa,pn,pc,ba,bn,bc,ta,tc,fa,fc⟩):=hS 0 (by omega);have e1:ν 1=(.slice (some ⟨b,o,none⟩) n c):=hS 1 (by omega);have e2:ν 2=(.int .i64 (k:Int)):=hS 2 (by omega);have e3:ν 3=(.bool true):=hS 3 (by omega);have e4:ν 4=(.bool false):=hS 4 (by omega);have e5:ν 5=(.bool false):=hS 5 (by omega);have e6:ν 6=(gX ⟨pa,pn,pc,ba,bn,bc,ta,tc,fa,fc⟩):=hS 6 (by omega);have e7:ν 7=(.slice (some ⟨b,o,none⟩) n c):=hS 7 (by omega);have e8:ν 8=(.int .i64 (k:Int)):=hS 8 (by omega);have e9:ν 9=(.pointer (some ⟨b,o+k*3,none⟩)):=hS 9 (by omega);have e10:ν 10=(UB t):=hS 10 (by omega);have e11:ν 11=(.slice (some ⟨b,o,none⟩) n c):=hS 11 (by omega);have e12:ν 12=(.int .i64 (k:Int)):=hS 12 (by omega);have e13:=hS 13 (by omega);unfold jL at e13;simp only[bw,bl,oE] at e13;have e14:ν 14=(.agg (eV (qP (eM ls) k))):=hS 14 (by omega);have e15:ν 15=(.bool (iN (eZ bs) t.d (qP (eM ls) k))):=hS 15 (by omega);have e16:ν 16=(.bool (!iN (eZ bs) t.d (qP (eM ls) k))):=hS 16 (by omega);have e17:ν 17=(.bool (!iN (eZ bs) t.d (qP (eM ls) k))):=hS 17 (by omega);clear hS;simp only[aj,ap,zA,zB,zC,zD,zE,zF,zJ,zK,zG,zH,zI,e0,e1,e2,e3,e4,e5,e6,e7,e8,e9,e10,e11,e12,e14,e15,e16,e17];have HB5:=ac (eA HB4.out hB);have HW5:=ac (eB hB HW4.out);have HWK5:=ac (HWK4.out.ext hB);clear hI hD hB e0 e1 e2 e3 e4 e5 e6 e7 e8 e9 e10 e11 e12 e13 e14 e15 e16 e17;cases hh:iN (eZ bs) t.d (qP (eM ls) k) with
          |false=>
           have hE:=ac (HNO.out (by rw[HSTD.out,hh];rfl));simp only[hh,Bool.not_false];clear hh;go_wp2
           go_ret
           exact⟨(aL (λb=>Ending.returned (Value.bool b)) hE.out).symm,HB5.out⟩
          |true=>
           have hE:=ac (HYES.out (by rw[HSTD.out,hh];rfl));simp only[hh,Bool.not_true];clear hh;go_wp2
           go_roundw
           case rel=>exact⟨k+1,by omega,by go_num,hE,HW5,HWK5,HB5⟩
           case measure=>simp[intOf];omega
       .obtain rfl:k=n:=by omega
        have HE:Hid (fE (eZ bs) (eM ls)=true):=by
         have h1:∀k,k<(eM ls).length->mW bn (eM ls) k=true/\iN (eZ bs) ((eM ls).getD k nF) (qP (eM ls) k)=true:=λj hj=>by
          rw[iV,HLN.out] at hj;have:=HR.out j hj
          rwa [az] at this
         simp only[Hid,fE,az,bq,be,HTL.out,aR];exact⟨⟨⟨⟨⟨HF.out,by rw[iV,HLN.out];exact hl⟩,HPAR.out⟩,HOB.out⟩,by rw[HZ.out];rfl⟩,h1⟩
        clear HR;go_wp2
        go_ret
        exact⟨(aL (λb=>Ending.returned (Value.bool b)) HE.out).symm,HB4.out⟩
     .have HE:Hid (fE (eZ bs) (eM ls)=false):=by simp[Hid,fE,hz]
      have dz:(((nP (eM ls) 0:Nat):Int) != 0)=true:=by simpa using hz
      clear hz;go_wp2
      go_ret
      exact⟨(aL (λb=>Ending.returned (Value.bool b)) HE.out).symm,HB5.out⟩
  .have dl:decide ((n:Int)>200)=true:=by simp;omega
   have dl2:decide ((200:Int)<(n:Int))=true:=by simp;omega
   have HE:Hid (fE (eZ bs) (eM ls)=false):=by
    have:¬(eM ls).length<=200:=by rw[iV,HLN.out];exact hl
    simp[Hid,fE,this]
   clear hl;go_wp2
   go_ret
   exact⟨(aL (λb=>Ending.returned (Value.bool b)) HE.out).symm,HB3.out⟩
end
end Go.Proofs.YtchdkjenhppleaaGreat
