/-
 Edge:rows as records;what lies where while rows are put together.
-/
import Derived.Test.YtblhmdhfhaencaaGreatEF
import Derived.Test.YtblhmdhfhaencaaGreatTL
import Derived.Test.YtblhmdhfhaencaaGreatLentG
import Derived.Test.YtblhmdhfhaencaaGreatRM
import Derived.Test.YtblhmdhfhaencaaGreatTF
import Derived.Test.YtblhmdhfhaencaaGreatDH
import Derived.Test.YtblhmdhfhaencaaGreatDF
namespace Go.Proofs.YtblhmdhfhaencaaGreat
set_option linter.unusedSimpArgs false
set_option linter.unusedVariables false
set_option linter.unusedSectionVars false
set_option maxRecDepth 100000
set_option maxHeartbeats 40000000
section
open Go.RowKit Go.Shelf
structure ZM where
 r:ZN
 lv:Value
 en:Value
def csR(h:ZM):List Value:= [.int .i64 h.r.e.fr,.int .i64 h.r.e.arm,.int .i64 h.r.e.to,h.lv,h.en]
def RowsIn(W:World)(base:Nat)(v:Value)(hs:List ZM):Prop:=
 cK 79 5 csR W base v hs∧∀h∈hs,bN W base h.lv h.r.lv∧bN W base h.en h.r.en∧(∀q,h.lv.ownBlock=some q→v.ownBlock≠some q)∧∀q,h.en.ownBlock=some q→v.ownBlock≠some q
theorem QU{o:Option Nat}{row:Option Nat}(h:∀q,o=some q→row≠some q):o=none∨o≠row:=by
 cases o with
 |none=>exact .inl rfl
 |some q=>exact .inr fun e=>h q rfl e.symm
def ZV(l:List bI)(ask:xV→Bool)(d:List xV):List ZN:=(d.filter (aBF l ask)).map (aAV l)
def RJ(w1:World)(B:Nat)(l:List bI)(ask:xV→Bool)(d:List xV)(W:World):Prop:=
 ∃v hs,W.heap[B]? =some (.cells #[v] 31 (0,0))∧RowsIn W w1.heap.size v hs∧hs.map (·.r)=ZV l ask d∧w1.grownBy W (some B)∧B<w1.heap.size
end

section
open Go.RowKit Go.Shelf
theorem cK.chg{α:Type}{e:TypeId}{size:Nat}{cs:α→List Value}{S:Nat→Prop}{w w':World}{base:Nat}{v:Value}{ls:List α}(h:cK e size cs w base v ls)(hc:Chg S w w')(hn:∀g,v.ownBlock=some g→¬S g):cK e size cs w' base v ls:=⟨fY h.1 hc hn,h.2⟩
section
variable {ty:TypeId} {W W':World} {base base':Nat} {v:Value} {hs:List ZM}
end
end

section
open Go.RowKit
section
variable {P:Program} {Q:Exit→Act→World→Prop}
theorem oN{ops:Array Oper}{rest:List Oper}{o:Oper}{a:Act}(w:World)(hgd:o.guard=none)(s x:Operand)(t:TypeId)(ho:o.op=.call {callee:=.builtin .append,args:=#[s,x],argTypes:=#[t,t]})
  (base:Nat) (z:Value) (bytes:Nat) (ht:P.underlying t=some (.slice 3)) (hinfo:(P.info? 3).map (fun i=>(i.zero,i.size,i.bytes))=some (some z,1,bytes)) (hzs:z.cells.size=1) (hb8:bytes≤16)
  (v:Value) (xs:List Int) (hs:a.eval s=v) (hown:bN w base v xs) (A:Option Addr) (m c:Nat) (hx:a.eval x=.slice A m c) (ys:List Int) (hy:dY w A m ys) (hlen:xs.length+ys.length≤10000000) (hbase:base≤w.heap.size)
  (h:∀v' w',bN w' base v' (xs++ys)→w.grownBy w' v.ownBlock→(v'.ownBlock=v.ownBlock∨v'.ownBlock=some w.heap.size)→wpList P ops Q rest (a.put o.dst v') w'):
  wpList P ops Q (o :: rest) a w:=by
 have hm:ys.length=m:=hy.1
 refine fN w hgd s x t 3 ho base z 1 bytes ht hinfo hzs (by omega) v xs.length (bC xs) hs hown.1 A m c hx (bC ys) (by simp[bC,hm]) (fun j u hu=>?_) (rR ys) (by simp only[maxLen];omega) (by
  have:(xs.length+m)*bytes≤(xs.length+m)*16:=Nat.mul_le_mul_left _ hb8
  omega) hbase fun v' w' h1 h2 h3=>h v' w' ⟨?_,fun q hq=>?_,by simp;omega⟩ h2 h3
 ·have hj:j<ys.length:=by have:=(aBX.1 hu).1;simpa[bC] using this
  obtain⟨b,o,e,hc,_⟩:=hy.2.2 j (by omega);refine⟨⟨b,o,none⟩,e,?_⟩;rw[rL,hc,←hu];simp[bC,aBT,hj]
 ·have e:bC (xs++ys)=bC xs++bC ys:=by simp[bC]
  rw[e,List.length_append,hm];exact h1
 ·rcases aCA.1 hq with hq|hq
  ·exact hown.2.1 q hq
  ·obtain⟨j,hj,e⟩:=List.mem_iff_getElem.1 hq;obtain⟨_,_,_,_,hw⟩:=hy.2.2 j (by omega);rw[aBT,aBU hj,e] at hw;exact hw
end
theorem UD(a:Option Addr)(n c:Nat)(ls:List bK)(hT:gZ (aJ ls)≤1000000)(hP:cD (aJ ls)=true):∀(f k:Nat) (w:World),cM w a n ls→k<n→n-k≤f→
  Calls Tryz.prog 105 #[.slice a n c,.int .i64 (k:Int)] w (gV w (nX (aJ ls) f k)):=by
 intro f
 induction f with
 |zero=>intro k w h hk hf;omega
 |succ f ih=>
  intro k w h hk hf;have hn:=h.1.2.1;have HLL:Hid ((aJ ls).length=n):=by rw[Hid,cQ,h.1.1]
  have H:=aBO h;have HP:=aBO hP;have IH:=aBO ih;clear h ih;obtain⟨t,b,o,hlk,hok,rfl,c0,c1,c2⟩:=(H.out.ext (aD w (.cells #[] 3))).cells hk;have HTK:Hid (eW (aJ ls) k=t.d.blocks):=by rw[Hid,eW,iM ls k t hlk]
  have HOK:=aBO hok.1;have hbl:=FZ (aJ ls) k;rw[HTK.out] at hbl;have hk2:(k:Int)<(n:Int):=by omega
  clear hlk hok
  go_enter Tryz.func105,Tryz.ntmps105
  go_wp2_with (
   (at_builtin
    go_loud (
     refine oN _ rfl (.tmp 7) (.tmp 12) 22 rfl w.heap.size _ 8 Tryz.underlying22 lY rfl (by omega) _ [] rfl (mX (W:=w) (xs:= []) rfl _ (aBV _) (fun z hz=>by cases hz) (by simp)) t.ba t.bn t.bc rfl t.d.blocks HOK.out (by simp;omega) (by simp) ?_;intro v1 w1 ho1 hg1 _;have HO1:Hid (bN w1 w.heap.size v1 t.d.blocks):=ho1;have HB1:Hid (Below w.heap.size w w1):=(aD w _).grown hg1 (by simp) (fun q e=>by have e2:some w.heap.size=some q:=e;injection e2 with e2;omega)
     clear ho1 hg1 c0 c1 c2)))
  go_loopw [5,6] (fun s5 s6 wr=>∃i:Nat,k+1≤i∧i≤n∧s6=.int .i64 (i:Int)∧Hid (bN wr w.heap.size s5 (eW (aJ ls) k++(fQ (aJ ls) k i).flatMap (nX (aJ ls) f)))∧Hid (Below w.heap.size w wr)) (fun _ s6 _=>n-(intOf s6).toNat)
  case atStart=>exact⟨k+1,by omega,by omega,by go_num,by rw[Hid,MP,HTK.out];simpa using HO1.out,HB1⟩
  case round=>
   obtain⟨i,hi1,hi2,rfl,HO,HB⟩:=hrel;obtain⟨va,vc,rfl⟩:=HO.out.form;have hlen:=EE HP.out (k:=k) (m:=i) (by rw[HLL.out];omega) (by rw[HLL.out];omega) f (by rw[HLL.out];omega);have HST:=aBO (MQ (aJ ls) k i);clear HO1 HB1;by_cases hlt:i<n
   ·obtain⟨t2,b2,o2,hlk,_,e2,d0,d1,d2⟩:=(H.out.ext HB.out).cells hlt;injection e2 with e2;injection e2 with e2 e3;subst e2 e3;have htd:fJ (aJ ls) i=t2.d.parent:=by rw[fJ,iM ls i t2 hlk]
    have hlt':(i:Int)<(n:Int):=by omega
    have hki:decide (k<i)=true:=by simp;omega
    have hlen2:=EE HP.out (k:=k) (m:=i+1) (by rw[HLL.out];omega) (by rw[HLL.out];omega) f (by rw[HLL.out];omega);rw[hki,htd,Bool.true_and] at HST;clear htd hlk d0 d2 hki;cases hb:(t2.d.parent==(k:Int)) with
    |true=>
     have HST2:Hid ((fQ (aJ ls) k (i+1)).flatMap (nX (aJ ls) f)=(fQ (aJ ls) k i).flatMap (nX (aJ ls) f)++nX (aJ ls) f i):=by rw[Hid,HST.out,hb,if_pos rfl,List.flatMap_append];simp
     rw[HST2.out,←List.append_assoc] at hlen2;clear HST;generalize hLL:eW (aJ ls) k++(fQ (aJ ls) k i).flatMap (nX (aJ ls) f)=L at *;have HLE:=aBO hLL;have hl3:L.length+(nX (aJ ls) f i).length≤10000000:=by rw[List.length_append] at hlen2;omega
     clear hLL hlen2
     go_wp2_with (first
      |(go_at_call 105
        refine(IH.out i wr (H.out.ext HB.out) hlt (by omega)).mono ?_;rintro e w2 ⟨v2,rfl,ho,hb2⟩;obtain⟨ua,uc,rfl⟩:=ho.form;have HV2:=aBO ho.ints;have HO2:=aBO (HO.out.ext hb2);have HB2:=aBO (aA HB.out hb2)
        clear ho hb2 d1)
      |(at_builtin
        refine oN w2 rfl (.tmp 29) (.tmp 32) 22 rfl w.heap.size _ 8 Tryz.underlying22 lY rfl (by omega) _ L rfl HO2.out ua _ uc rfl (nX (aJ ls) f i) HV2.out hl3 HB2.out.size ?_;intro v3 w3 ho3 hg3 _;have HO3:=aBO ho3;have HB3:Hid (Below w.heap.size w w3):=HB2.out.grown hg3 HB2.out.size (fun q e=>(HO2.out.1.lt q e).1)
        clear ho3 hg3))
     go_roundw
     case rel=>exact⟨i+1,by omega,by omega,by go_num,by rw[HST2.out,←List.append_assoc,HLE.out];exact HO3,HB3⟩
     case measure=>simp[intOf];omega
    |false=>
     have HST2:Hid (fQ (aJ ls) k (i+1)=fQ (aJ ls) k i):=by rw[Hid,HST.out,hb];simp
     clear HST hlen2;go_wp2
     go_roundw
     case rel=>exact⟨i+1,by omega,by omega,by go_num,by rw[HST2.out];exact HO,HB⟩
     case measure=>simp[intOf];omega
   ·obtain rfl:i=n:=by omega
    have HE:Hid (nX (aJ ls) (f+1) k=eW (aJ ls) k++(fQ (aJ ls) k i).flatMap (nX (aJ ls) f)):=by rw[Hid,ED,HLL.out]
    go_wp2
    go_ret
    exact⟨_,rfl,by rw[HE.out];exact HO.out,HB.out⟩
def abB(S:List Int)(p:Nat)(x:Int):Prop:=p=0∨S.getD (p-1) 0<x
def gP(R S:List Int)(p j:Nat)(b:Int):Prop:=(b= -1∧∀i,i<j→¬abB S p (R.getD i 0))∨∃bn:Nat,b=bn∧bn<j∧abB S p (R.getD bn 0)∧∀i,i<j→abB S p (R.getD i 0)→R.getD bn 0≤R.getD i 0
theorem gP.start(R S:List Int)(p:Nat):gP R S p 0 (-1):=.inl ⟨rfl,fun i hi=>absurd hi (by omega)⟩
theorem gP.skip{R S:List Int}{p j:Nat}{b:Int}(h:gP R S p j b)(hn:¬abB S p (R.getD j 0)):gP R S p (j+1) b:=by
 have key:∀i,i<j+1→i<j∨i=j:=fun i hi=>by omega
 rcases h with ⟨h1,h2⟩|⟨bn,h1,h2,h3,h4⟩
 ·exact .inl ⟨h1,fun i hi=>(key i hi).elim (h2 i) fun e=>e▸hn⟩
 ·exact .inr ⟨bn,h1,by omega,h3,fun i hi ha=>(key i hi).elim (fun e=>h4 i e ha) fun e=>absurd (e▸ha) hn⟩
theorem gP.keep{R S:List Int}{p j:Nat}{bn:Nat}(h:gP R S p j (bn:Int))(hn:R.getD bn 0≤R.getD j 0):gP R S p (j+1) (bn:Int):=by
 rcases h with ⟨h1,_⟩|⟨b2,h1,h2,h3,h4⟩
 ·omega
 ·obtain rfl:bn=b2:=by omega
  refine .inr ⟨bn,rfl,by omega,h3,fun i hi ha=>?_⟩;by_cases e:i=j
  ·rw[e];exact hn
  ·exact h4 i (by omega) ha
theorem gP.take{R S:List Int}{p j:Nat}{b:Int}(h:gP R S p j b)(ha:abB S p (R.getD j 0))(hn:∀bn:Nat,b=bn→R.getD j 0≤R.getD bn 0):gP R S p (j+1) (j:Int):=by
 refine .inr ⟨j,rfl,by omega,ha,fun i hi hai=>?_⟩
 by_cases e:i=j
 ·rw[e];exact Int.le_refl _
 ·rcases h with ⟨_,h2⟩|⟨bn,h1,h2,h3,h4⟩
  ·exact absurd hai (h2 i (by omega))
  ·exact Int.le_trans (hn bn h1) (h4 i (by omega) hai)
theorem getD_in{L:List Int}{i:Nat}(h:i<L.length):L.getD i 0∈L:=by rw[aBT,aBU h];exact aBZ _
theorem FS{L:List Int}{x:Int}(h:x∈L):∃i,i<L.length∧L.getD i 0=x:=by
 obtain⟨i,hi,e⟩:=List.mem_iff_getElem.1 h
 exact⟨i,hi,by rw[aBT,aBU hi,e];rfl⟩
theorem zP{S:List Int}(hs:S.Pairwise (· < ·)){i j:Nat}(hij:i<j)(hj:j<S.length):S.getD i 0<S.getD j 0:=by
 have:=List.pairwise_iff_getElem.1 hs i j (by omega) hj hij
 simpa[aBT,show i<S.length by omega,hj] using this
section
variable {R S:List Int} (hs:S.Pairwise (· < ·)) (hm:∀x,x∈S↔x∈R)
include hs hm
theorem UA{p:Nat}(hp:p≤S.length)(h:gP R S p R.length (-1)):p=S.length:=by
 apply aCF
 intro hne
 have hlt:p<S.length:=by omega
 obtain⟨i,hi,e⟩:=FS ((hm _).1 (getD_in hlt))
 have ha:abB S p (R.getD i 0):=by
  rw[e];by_cases h0:p=0
  ·exact .inl h0
  ·exact .inr (zP hs (by omega) hlt)
 rcases h with ⟨_,h2⟩|⟨bn,h1,_⟩
 ·exact h2 i hi ha
 ·omega
theorem TZ{p bn:Nat}(hp:p≤S.length)(h:gP R S p R.length (bn:Int)):p<S.length∧R.getD bn 0=S.getD p 0∧bn<R.length:=by
 rcases h with ⟨h1,_⟩|⟨b2,h1,h2,h3,h4⟩
 ·omega
 ·obtain rfl:bn=b2:=by omega
  obtain⟨q,hq,e⟩:=FS ((hm _).2 (getD_in h2));have hpq:p≤q:=by
   rcases h3 with h3|h3
   ·omega
   ·rw[←e] at h3;apply aCF;intro hlt;by_cases e2:q=p-1
    ·rw[e2] at h3;omega
    ·have:=zP hs (show q<p-1 by omega) (by omega);omega
  have hlt:p<S.length:=by omega
  obtain⟨i,hi,e2⟩:=FS ((hm _).1 (getD_in hlt));have ha:abB S p (R.getD i 0):=by
   rw[e2];by_cases h0:p=0
   ·exact .inl h0
   ·exact .inr (zP hs (by omega) hlt)
  have hle:=h4 i hi ha;rw[e2,←e] at hle;have hqp:q=p:=by
   apply aCF;intro hne;have:=zP hs (show p<q by omega) hq;omega
  rw[←e,hqp];exact⟨hlt,rfl,h2⟩
end
theorem PV:∀{S R:List Int},S.Nodup→(∀x∈S,x∈R)→S.length≤R.length
 | [],_,_,_=>Nat.zero_le _
 |x :: S,R,hn,h=>by
  obtain⟨h1,h2⟩:=List.nodup_cons.1 hn;have hx:=h x (by simp);have:=PV (R:=R.erase x) h2 fun y hy=>(List.mem_erase_of_ne (fun e=>h1 (by rw[←e];exact hy))).2 (h y (by simp[hy]));rw[List.length_erase_of_mem hx] at this;have:=List.length_pos_of_mem hx;simp only[List.length_cons];omega
theorem RN{S:List Int}{p:Nat}(hp:p<S.length):S.take (p+1)=S.take p++ [S.getD p 0]:=by
 rw[List.take_add_one,aBU hp]
 simp[aBT,hp]
theorem uP(a:Option Addr)(n c:Nat)(ls:List bK)(k:Int)(w:World)(h:cM w a n ls)(hk:I64 k)(hT:gZ (aJ ls)≤1000000):
  Calls Tryz.prog 45 #[.slice a n c,.int .i64 k] w (gV w (fK (aJ ls) k)):=by
 have hn:=h.1.2.1
 have HL:=aBO h.1.1
 have H:=aBO h
 have HTOT:=aBO hT
 obtain⟨hk1,hk2⟩:=hk
 clear h
 by_cases hr:0≤k∧k<n
 rotate_left
 ·have HE:Hid (fK (aJ ls) k= []):=by
   rw[Hid,fK,if_neg];rw[cQ,HL.out];exact fun h=>hr ⟨h.1,h.2.1⟩
  by_cases h0:k<0
  all_goals
   go_enter Tryz.func45,Tryz.ntmps45
   go_wp2
   go_ret
   rw[HE.out];exact⟨_,rfl,bN.nil _ _,aBQ _ _⟩
 obtain⟨hr1,hr2⟩:=hr
 have hr3:¬k<0:=by omega
 obtain⟨kn,rfl⟩:∃kn:Nat,k=(kn:Int):=⟨k.toNat,by omega⟩
 by_cases hp:cD (aJ ls)=true
 rotate_left
 ·have HE:Hid (fK (aJ ls) (kn:Int)= []):=by
   rw[Hid,fK,if_neg];exact fun h=>hp h.2.2
  have hp':cD (aJ ls)=false:=by simpa using hp
  have HP:=aBO hp';clear hp hp'
  go_enter Tryz.func45,Tryz.ntmps45
  go_wp2_with (go_at_call 103;refine(kQ a n c ls w H.out).mono ?_;rintro e w1 ⟨rfl,rfl⟩;rw[HP.out])
  go_ret
  rw[HE.out];exact⟨_,rfl,bN.nil _ _,aBQ _ _⟩
 have HP:=aBO hp
 have hkl:kn<(aJ ls).length:=by rw[cQ,HL.out];omega
 have HEA:Hid (fK (aJ ls) (kn:Int)=oR (nW (aJ ls) kn (aJ ls).length)):=by
  rw[Hid,fK,if_pos ⟨by omega,by omega,hp⟩,Int.toNat_natCast]
 have HS:Hid ((fK (aJ ls) (kn:Int)).Pairwise (· < ·)):=by rw[Hid,HEA.out];exact wA _
 have HM:Hid (∀x,x∈fK (aJ ls) (kn:Int)↔x∈nX (aJ ls) n kn):=fun x=>by
  rw[HEA.out,xA,WH hp hkl n (by rw[cQ,HL.out];omega)]
 have hRL:(nX (aJ ls) n kn).length≤1000000:=aCD (IS hp hkl n (by rw[cQ,HL.out];omega)) hT
 have hSL:(fK (aJ ls) (kn:Int)).length≤(nX (aJ ls) n kn).length:=by
  refine PV (HS.out.imp fun h e=>by omega) fun x hx=>(HM.out x).1 hx
 clear hp hkl
 go_enter Tryz.func45,Tryz.ntmps45
 go_wp2_with (first
  |(go_at_call 103
    refine(kQ a n c ls w H.out).mono ?_;rintro e w1 ⟨rfl,rfl⟩
    rw[HP.out])
  |(go_at_call 105
    refine(UD a n c ls HTOT.out HP.out n kn w H.out (by omega) (by omega)).mono ?_;rintro e w1 ⟨v,rfl,ho,hb⟩;obtain⟨ra,rc,rfl⟩:=ho.form;have HR1:=aBO ho;have HB1:=aBO hb
    clear ho hb))
 have HRL:Hid (∀q,(Value.slice ra (nX (aJ ls) n kn).length rc).ownBlock=some q→q<w1.heap.size):=fun q e=>(HR1.out.1.lt q e).2
 have hs1:=HB1.out.size
 clear HEA
 generalize fK (aJ ls) (kn:Int)=S at*
 generalize nX (aJ ls) n kn=R at*
 go_loopg [5,7,8,9] (S.length+1) (fun gg s5 _ _ _ wr=>∃p:Nat,p≤S.length∧S.length+1≤gg+p∧Hid (bN wr w1.heap.size s5 (S.take p))∧Hid (bN wr w.heap.size (.slice ra R.length rc) R)∧Hid (Below w.heap.size w wr)∧w1.heap.size≤wr.heap.size)
 case atStart=>exact⟨0,by omega,by omega,bN.nil _ _,HR1,HB1,aBV _⟩
 case round=>
  obtain⟨p,hp,hgg,HO,HR,HB,hsw⟩:=hrel;clear HR1 HB1;obtain⟨oa,oc,hov⟩:=HO.out.form;have htl:(S.take p).length=p:=List.length_take_of_le hp;rw[htl] at hov;subst hov;obtain⟨wo,rfl⟩:∃wo:World,wo=wr:=⟨_,rfl⟩
  have hpr:(p:Int)≤(R.length:Int):=by omega
  have HRI:=aBO HR.out.ints;have HOI:Hid (dY wo oa p (S.take p)):=by have h1:=HO.out.ints;exact h1
  go_wp2
  go_loopw [7,8,9] (fun s7 s8 _ wi=>∃(j q:Nat) (b:Int),j≤R.length∧s8=.int .i64 (j:Int)∧s7=.int .i64 b∧-1≤b∧b<j∧Hid (gP R S p j b)∧wi=wo.drewN q) (fun _ s8 _ _=>R.length-(intOf s8).toNat)
  case atStart=>exact⟨0,0,-1,by omega,rfl,rfl,by omega,by omega,gP.start R S p,rfl⟩
  case round=>
   obtain⟨j,q,b,hj,rfl,rfl,hb0,hb1,HBO,rfl⟩:=hrel;by_cases hjl:j<R.length
   ·obtain⟨b1,o1,e1,hc1,hx1,hx2⟩:=HRI.out.2.2 j hjl;have hjl':(j:Int)<(R.length:Int):=by omega
    by_cases hp0:p=0
    · -- all are above
      have HA:Hid (abB S p (R.getD j 0)):=.inl hp0;have hpz:((p:Int)==0)=true:=by simp[hp0]
      subst e1;clear hp0;by_cases hbn:b<0
      ·have HN:Hid (gP R S p (j+1) (j:Int)):=HBO.out.take HA.out (fun bn e=>by omega);generalize R.getD j 0=x at *;go_wp2
       go_quiet (fail)
       go_wp2
       go_quiet (fail)
       go_wp2
       go_roundw
       case rel=>exact⟨j+1,_,j,by omega,by go_num,by go_num,by omega,by omega,HN,rfl⟩
       case measure=>simp[intOf];omega
      ·obtain⟨bn,rfl⟩:∃bn:Nat,b=bn:=⟨b.toNat,by omega⟩
       obtain⟨b2,o2,e2,hc2,_⟩:=HRI.out.2.2 bn (by omega);injection e2 with e2;injection e2 with e2 e3;subst e2 e3;have hbl:(bn:Int)<(R.length:Int):=by omega
       by_cases hxy:R.getD j 0<R.getD bn 0
       ·have HN:Hid (gP R S p (j+1) (j:Int)):=HBO.out.take HA.out (fun b3 e=>by have e3:b3=bn:=(by omega);rw[e3];omega);generalize R.getD j 0=x at *;generalize R.getD bn 0=y at *;have dxy:decide (x<y)=true:=by simp;omega
        go_wp2
        go_quiet (fail)
        go_wp2
        go_quiet (fail)
        go_wp2
        go_roundw
        case rel=>exact⟨j+1,_,j,by omega,by go_num,by go_num,by omega,by omega,HN,rfl⟩
        case measure=>simp[intOf];omega
       ·have HN:Hid (gP R S p (j+1) (bn:Int)):=HBO.out.keep (by omega);generalize R.getD j 0=x at *;generalize R.getD bn 0=y at *;have dxy:decide (x<y)=false:=by simp;omega
        go_wp2
        go_quiet (fail)
        go_wp2
        go_quiet (fail)
        go_wp2
        go_roundw
        case rel=>exact⟨j+1,_,bn,by omega,by go_num,by go_num,by omega,by omega,HN,rfl⟩
        case measure=>simp[intOf];omega
    ·obtain⟨b4,o4,e4,hc4,_⟩:=HOI.out.2.2 (p-1) (by omega);have hsp:(S.take p).getD (p-1) 0=S.getD (p-1) 0:=by
      rw[aBT,aBT,List.getElem?_take,if_pos (by omega)]
     rw[hsp] at hc4;subst e1 e4;have hpz:((p:Int)==0)=false:=by simp;omega
     have hpi:((p:Int)-1).toNat=p-1:=by omega
     have hpj:(0:Int)≤(p:Int)-1:=by omega
     have hpk:(p:Int)-1<(p:Int):=by omega
     clear hsp;have HP0:Hid (p≠0):=hp0;clear hp0;by_cases hab:S.getD (p-1) 0<R.getD j 0
     ·have HA:Hid (abB S p (R.getD j 0)):=.inr hab;by_cases hbn:b<0
      ·have HN:Hid (gP R S p (j+1) (j:Int)):=HBO.out.take HA.out (fun bn e=>by omega);generalize R.getD j 0=x at *;generalize S.getD (p-1) 0=s at *;have dsx:decide (s<x)=true:=by simp;omega
       go_wp2
       go_quiet (fail)
       go_wp2
       go_quiet (fail)
       go_wp2
       go_roundw
       case rel=>exact⟨j+1,_,j,by omega,by go_num,by go_num,by omega,by omega,HN,rfl⟩
       case measure=>simp[intOf];omega
      ·obtain⟨bn,rfl⟩:∃bn:Nat,b=bn:=⟨b.toNat,by omega⟩
       obtain⟨b2,o2,e2,hc2,_⟩:=HRI.out.2.2 bn (by omega);injection e2 with e2;injection e2 with e2 e3;subst e2 e3;have hbl:(bn:Int)<(R.length:Int):=by omega
       by_cases hxy:R.getD j 0<R.getD bn 0
       ·have HN:Hid (gP R S p (j+1) (j:Int)):=HBO.out.take HA.out (fun b3 e=>by have e3:b3=bn:=(by omega);rw[e3];omega);generalize R.getD j 0=x at *;generalize R.getD bn 0=y at *;generalize S.getD (p-1) 0=s at *;have dxy:decide (x<y)=true:=by simp;omega
        have dsx:decide (s<x)=true:=by simp;omega
        go_wp2
        go_quiet (fail)
        go_wp2
        go_quiet (fail)
        go_wp2
        go_roundw
        case rel=>exact⟨j+1,_,j,by omega,by go_num,by go_num,by omega,by omega,HN,rfl⟩
        case measure=>simp[intOf];omega
       ·have HN:Hid (gP R S p (j+1) (bn:Int)):=HBO.out.keep (by omega);generalize R.getD j 0=x at *;generalize R.getD bn 0=y at *;generalize S.getD (p-1) 0=s at *;have dxy:decide (x<y)=false:=by simp;omega
        have dsx:decide (s<x)=true:=by simp;omega
        go_wp2
        go_quiet (fail)
        go_wp2
        go_quiet (fail)
        go_wp2
        go_roundw
        case rel=>exact⟨j+1,_,bn,by omega,by go_num,by go_num,by omega,by omega,HN,rfl⟩
        case measure=>simp[intOf];omega
     ·have HN:Hid (gP R S p (j+1) b):=HBO.out.skip (by
       intro h;rcases h with h|h
       ·exact HP0.out h
       ·exact hab h)
      generalize R.getD j 0=x at *;generalize S.getD (p-1) 0=s at *;have dsx:decide (s<x)=false:=by simp;omega
      go_wp2
      go_quiet (fail)
      go_wp2
      go_quiet (fail)
      go_wp2
      go_roundw
      case rel=>exact⟨j+1,_,b,by omega,by go_num,by go_num,by omega,by omega,HN,rfl⟩
      case measure=>simp[intOf];omega
   ·obtain rfl:j=R.length:=by omega
    by_cases hbn:b<0
    ·obtain rfl:b= -1:=by omega
     have hpS:=UA HS.out HM.out hp HBO.out;have HE:Hid (S.take p=S):=aCB (by omega);clear hpS;go_wp2
     go_ret
     exact⟨_,rfl,by have h1:=HO.out.mono (show w.heap.size≤w1.heap.size from hs1);rw[HE.out] at h1;exact h1.ext (bZ (aBQ _ _) _),bZ HB.out _⟩
    ·obtain⟨bn,rfl⟩:∃bn:Nat,b=bn:=⟨b.toNat,by omega⟩
     obtain⟨hlt,hev,hbl⟩:=TZ HS.out HM.out hp HBO.out;obtain⟨b2,o2,e2,hc2,hi1,hi2⟩:=HRI.out.2.2 bn hbl;subst e2;rw[hev] at hc2 hi1 hi2;have HST:Hid (S.take (p+1)=S.take p++ [S.getD p 0]):=RN hlt;have hbl':(bn:Int)<(R.length:Int):=by omega
     have HOd:=aBO (HO.out.ext (bZ (aBQ _ wo) q));have HRd:=aBO (HR.out.ext (bZ (aBQ _ wo) q));clear hev;generalize S.getD p 0=s at*
     go_wp2_with (
      (at_builtin
       refine bV rfl (wo.drewN q) (.tmp 73) (.tmp 78) 22 3 rfl w1.heap.size _ 1 8 Tryz.underlying22 lY rfl (by omega) (.slice oa p oc) p _ [.int .i64 s] rfl (by have h9:=HOd.out.1;rw[htl] at h9;exact h9) wo.heap.size rfl rfl rfl (by simp[Value.oneCell']) (by simp only[maxLen];omega) (by omega) hsw ?_;intro g2 cap w5 hown2 hg2 hat2
       have HO5:Hid (bN w5 w1.heap.size (.slice (some ⟨g2,0,none⟩) (p+1) cap) (S.take (p+1))):=(by
        rw[Hid,HST.out];refine⟨?_,fun z hz=>?_,by rw[List.length_append,htl];simp;omega⟩
        ·have e4:bC (S.take p++ [s])=bC (S.take p)++ [.int .i64 s]:=by simp[bC]
         rw[e4,List.length_append,htl];exact hown2
        ·rcases aCA.1 hz with h|h
         ·exact HO.out.2.1 z h
         ·simp only[List.mem_singleton] at h;subst h
          exact⟨hi1,hi2⟩)
       have hol:∀qq,(Value.slice oa p oc).ownBlock=some qq→w1.heap.size≤qq:=fun qq e=>by have h9:=HOd.out.1;rw[htl] at h9;exact(h9.lt qq e).1
       have HR5:Hid (bN w5 w.heap.size (.slice (some ⟨b2,o2,none⟩) R.length rc) R):=HRd.out.kept hg2 (.inr (fun e=>by have:=hol b2 e.symm;have:=HRL.out b2 rfl;omega));have HB5:Hid (Below w.heap.size w w5):=(bZ HB.out q).grown hg2 (bZ HB.out q).size (fun qq e=>by have:=hol qq e;omega);have hs5:w1.heap.size≤w5.heap.size:=aCD hsw hg2.size
       clear hown2 hg2 hat2 hol))
     go_roundg (S.length-p)
     case measure=>omega
     case rel=>exact⟨p+1,by omega,by omega,HO5,HR5,HB5,hs5⟩
end

section
open Go.RowKit
theorem dY.off{S:Nat→Prop}{w w':World}{a:Option Addr}{n:Nat}{xs:List Int}(h:dY w a n xs)(hc:Chg S w w')(hn:∀b o,a=some ⟨b,o,none⟩→¬S b):dY w' a n xs:=
 ⟨h.1,h.2.1,fun k hk=>let ⟨b,o,e,hc',hi⟩:=h.2.2 k hk;⟨b,o,e,(World.cell?_of_block (a:=⟨b,o+k,none⟩) (hc.block b (aCE w _ hc') (hn b o e))).trans hc',hi⟩⟩
theorem dY.takeN{w:World}{a:Option Addr}{n m:Nat}{xs:List Int}(h:dY w a n xs)(hm:m≤n):dY w a m (xs.take m):=by
 obtain⟨h1,h2,h3⟩:=h
 refine⟨by rw[List.length_take,h1];omega,by omega,fun k hk=>?_⟩
 obtain⟨b,o,e,hc,hi⟩:=h3 k (by omega)
 have e2:(xs.take m).getD k 0=xs.getD k 0:=by simp[aBT,List.getElem?_take,hk]
 rw[e2]
 exact⟨b,o,e,hc,hi⟩
theorem dY.dropN{w:World}{b o n:Nat}{xs:List Int}(h:dY w (some ⟨b,o,none⟩) n xs)(hn:1≤n):dY w (some ⟨b,o+1,none⟩) (n-1) (xs.drop 1):=by
 obtain⟨h1,h2,h3⟩:=h
 refine⟨by rw[List.length_drop,h1],by omega,fun k hk=>?_⟩
 obtain⟨b',o',e,hc,hi⟩:=h3 (k+1) (by omega)
 injection e with e
 injection e with e1 e2
 subst e1 e2
 have e:(xs.drop 1).getD k 0=xs.getD (k+1) 0:=by simp[aBT,Nat.add_comm]
 rw[e]
 exact⟨b,o+1,rfl,by rw[show o+1+k=o+(k+1) by omega];exact hc,hi⟩
theorem dY.dropZ{w:World}{a:Option Addr}{xs:List Int}(h:xs.length=1):dY w a 0 (xs.drop 1):=⟨by rw[List.length_drop,h],by omega,fun k hk=>by omega⟩
def TA(w:World)(g:Nat)(t:bK):Prop:=(dY w t.ba t.bn t.d.blocks∧t.bn≤t.bc∧I64 t.d.kind∧I64 t.d.parent)∧∀b o,t.ba=some ⟨b,o,none⟩→b≠g
theorem TA.off{w w':World}{g g':Nat}{t:bK}(h:TA w g t)(hc:Chg (fun q=>q=g') w w')(hn:∀b o,t.ba=some ⟨b,o,none⟩→b≠g'):TA w' g t:=⟨⟨h.1.1.off hc hn,h.1.2⟩,h.2⟩
theorem TA.own{w:World}{base g gB m c:Nat}{d:bI}(h:bN w base (.slice (some ⟨gB,0,none⟩) m c) d.blocks)(hne:gB≠g)(hk:I64 d.kind∧I64 d.parent):TA w g ⟨d,some ⟨gB,0,none⟩,m,c⟩:=
 ⟨⟨h.ints,FK h,hk.1,hk.2⟩,fun b o e=>by injection e with e;injection e with e _;rw[←e];exact hne⟩
structure tX(w:World)(base g n c:Nat)(xs:List bK):Prop where
 row:cK 76 3 cN w base (.slice (some ⟨g,0,none⟩) n c) xs
 each:∀t∈xs,TA w g t
theorem tX.ok{w:World}{base g n c:Nat}{xs:List bK}(h:tX w base g n c xs):cM w (some ⟨g,0,none⟩) n xs:=⟨h.row.recs dM,fun t ht=>(h.each t ht).1⟩
theorem tX.len{w:World}{base g n c:Nat}{xs:List bK}(h:tX w base g n c xs):xs.length=n:=(h.row.recs dM).1
theorem nS(t:bK):∀u∈cN t,u.oneCell'=true:=by
 intro u hu
 simp only[cN,List.mem_cons,List.not_mem_nil,or_false] at hu
 rcases hu with rfl|rfl|rfl<;>rfl
theorem tX.set{w:World}{base g n c:Nat}{xs:List bK}(h:tX w base g n c xs){k:Nat}(hk:k<n){t:bK}(ht:TA w g t):tX (w.setCells g (k*3) (cN t)) base g n c (xs.set k t):=by
 have hc:Chg (fun q=>q=g) w (w.setCells g (k*3) (cN t)):=eB (S:=fun q=>q=g) rfl _ _ _ (Chg.refl _ _)
 refine⟨cK.setAt dM h.row (by rw[h.len];exact hk) t,fun s hs=>?_⟩
 rcases List.mem_or_eq_of_mem_set hs with hs|rfl
 ·exact(h.each s hs).off hc (h.each s hs).2
 ·exact ht.off hc ht.2
theorem tX.base_le{w:World}{base g n c:Nat}{xs:List bK}(h:tX w base g n c xs):base≤g:=(h.row.low rfl).1
def St(U W:World)(T n:Nat)(x:Value):Prop:=∃g n' c xs t,x=.slice (some ⟨g,0,none⟩) n' c∧tX W U.heap.size g n' c xs∧W.heap[T]? =some (kZ t)∧TA W g t∧n≤n'∧Below U.heap.size U W
structure Tn(U W:World)(T g n c gB bn cB:Nat)(ls:List bK)(d:bI):Prop where
 row:cK 76 3 cN W U.heap.size (.slice (some ⟨g,0,none⟩) n c) ls
 old:∀t∈ls,(dY U t.ba t.bn t.d.blocks∧t.bn≤t.bc∧I64 t.d.kind∧I64 t.d.parent)∧1≤t.bn
 obj:W.heap[T]? =some (kZ ⟨d,some ⟨gB,0,none⟩,bn,cB⟩)
 blk:bN W U.heap.size (.slice (some ⟨gB,0,none⟩) bn cB) d.blocks
 i64:I64 d.kind∧I64 d.parent
 low:U.heap.size≤T
 below:Below U.heap.size U W
 tg:T≠g
theorem wR{U W:World}{g:Nat}(hb:Below U.heap.size U W)(hg:U.heap.size≤g){t:bK}(h:(dY U t.ba t.bn t.d.blocks∧t.bn≤t.bc∧I64 t.d.kind∧I64 t.d.parent)∧1≤t.bn):TA W g t:=by
 refine⟨⟨h.1.1.ext hb,h.1.2⟩,fun b o e=>?_⟩
 obtain⟨b',o',e',hc,_⟩:=h.1.1.2.2 0 (by have:=h.2;omega)
 rw[e] at e'
 injection e' with e'
 injection e' with e1 e2
 have:=aCE U _ hc
 simp only at this
 omega
section
variable {U W W':World} {T g n c gB bn cB:Nat} {ls:List bK} {d:bI}
theorem Tn.bg(h:Tn U W T g n c gB bn cB ls d):gB≠g:=by
 rcases h.row.1.2 with ⟨e,_⟩|⟨g',cap,cur,e,_,hh,_⟩
 ·cases e
 ·injection e with e;injection e with e;injection e with e;subst e;exact fun e=>cH h.blk.1 hh (by decide) (by rw[e];rfl)
theorem Tn.bt(h:Tn U W T g n c gB bn cB ls d):gB≠T:=fun e=>cH h.blk.1 h.obj (by decide) (by rw[e];rfl)
theorem Tn.len(h:Tn U W T g n c gB bn cB ls d):ls.length=n:=(h.row.recs dM).1
theorem Tn.blen(h:Tn U W T g n c gB bn cB ls d):d.blocks.length=bn:=h.blk.ints.1
theorem Tn.glow(h:Tn U W T g n c gB bn cB ls d):U.heap.size≤g:=(h.row.low rfl).1
theorem Tn.blow(h:Tn U W T g n c gB bn cB ls d):U.heap.size≤gB:=(h.blk.1.lt gB rfl).1
theorem Tn.ta(h:Tn U W T g n c gB bn cB ls d):TA W g ⟨d,some ⟨gB,0,none⟩,bn,cB⟩:=TA.own h.blk h.bg h.i64
theorem Tn.xrow(h:Tn U W T g n c gB bn cB ls d):tX W U.heap.size g n c ls:=⟨h.row,fun t ht=>wR h.below h.glow (h.old t ht)⟩
theorem Tn.st(h:Tn U W T g n c gB bn cB ls d):St U W T n (.slice (some ⟨g,0,none⟩) n c):=⟨g,n,c,ls,_,rfl,h.xrow,h.obj,h.ta,aBV _,h.below⟩
theorem Tn.turn(h:Tn U W T g n c gB bn cB ls d)(j:Nat)(v:Value)(t':bK)(he:(#[.int .i64 d.kind,.int .i64 d.parent,.slice (some ⟨gB,0,none⟩) bn cB]:Array Value).setIfInBounds j v= #[.int .i64 t'.d.kind,.int .i64 t'.d.parent,.slice t'.ba t'.bn t'.bc])
  (ht:TA W g t') (hbt:∀b o,t'.ba=some ⟨b,o,none⟩→b≠T):St U (W.setCell ⟨T,j,none⟩ v) T n (.slice (some ⟨g,0,none⟩) n c):=by
 have hc:Chg (fun q=>q=T) W (W.setCell ⟨T,j,none⟩ v):=gX W T j v
 have hb:Below U.heap.size U (W.setCell ⟨T,j,none⟩ v):=h.below.setCell (p:=⟨T,j,none⟩) h.low v
 refine⟨g,n,c,ls,t',rfl,⟨h.row.chg hc fun q hq e=>h.tg ?_,fun t ht=>wR hb h.glow (h.old t ht)⟩,?_,ht.off hc hbt,aBV _,hb⟩
 ·have e2:some g=some q:=hq;injection e2 with e2;rw[←e,←e2]
 ·rw[heap_setCell_same _ _ _ _ _ _ h.obj,he]
theorem Tn.moved(h:Tn U W T g n c gB bn cB ls d)(hg:W.grownBy W' (some gB)){g2 m2 c2:Nat}{bl:List Int}(ho:bN W' U.heap.size (.slice (some ⟨g2,0,none⟩) m2 c2) bl)(j:Nat)(hj:j=2):St U (W'.setCell ⟨T,j,none⟩ (.slice (some ⟨g2,0,none⟩) m2 c2)) T n (.slice (some ⟨g,0,none⟩) n c):=by
 subst hj
 have hobj:W'.heap[T]? =some (kZ ⟨d,some ⟨gB,0,none⟩,bn,cB⟩):=aK hg h.obj (fun e=>h.bt (Option.some.inj e))
 have hrow:cK 76 3 cN W' U.heap.size (.slice (some ⟨g,0,none⟩) n c) ls:=h.row.kept hg (.inr fun e=>h.bg (Option.some.inj e).symm)
 have hbel:Below U.heap.size U W':=h.below.grown hg h.below.size (fun q e=>by injection e with e;rw[←e];exact h.blow)
 have hg2:g2≠g:=by
  rcases hrow.1.2 with ⟨e,_⟩|⟨g',cap,cur,e,_,hh,_⟩
  ·cases e
  ·injection e with e;injection e with e;injection e with e;subst e;exact fun e=>cH ho.1 hh (by decide) (by rw[e];rfl)
 have hgT:g2≠T:=fun e=>cH ho.1 hobj (by decide) (by rw[e];rfl)
 have hc:Chg (fun q=>q=T) W' (W'.setCell ⟨T,2,none⟩ (.slice (some ⟨g2,0,none⟩) m2 c2)):=gX W' T 2 _
 have hb:Below U.heap.size U (W'.setCell ⟨T,2,none⟩ (.slice (some ⟨g2,0,none⟩) m2 c2)):=hbel.setCell (p:=⟨T,2,none⟩) h.low _
 refine⟨g,n,c,ls,⟨⟨d.kind,d.parent,bl⟩,some ⟨g2,0,none⟩,m2,c2⟩,rfl,⟨hrow.chg hc fun q hq e=>h.tg ?_,fun t ht=>wR hb h.glow (h.old t ht)⟩,?_,?_,aBV _,hb⟩
 ·have e2:some g=some q:=hq;injection e2 with e2;rw[←e,←e2]
 ·rw[heap_setCell_same _ _ _ _ _ _ hobj];rfl
 ·exact(TA.own (d:=⟨d.kind,d.parent,bl⟩) ho hg2 h.i64).off hc (fun b o e=>by injection e with e;injection e with e _;rw[←e];exact hgT)
theorem Tn.put(h:Tn U W T g n c gB bn cB ls d)(x:Nat){y:Int}(hy:I64 y):St U (W.setCell ⟨gB,x,none⟩ (.int .i64 y)) T n (.slice (some ⟨g,0,none⟩) n c):=by
 have ho:=h.blk.put x hy
 have hg:=bA W gB x (.int .i64 y)
 have hb:Below U.heap.size U (W.setCell ⟨gB,x,none⟩ (.int .i64 y)):=h.below.setCell (p:=⟨gB,x,none⟩) h.blow _
 exact⟨g,n,c,ls,⟨⟨d.kind,d.parent,d.blocks.set x y⟩,some ⟨gB,0,none⟩,bn,cB⟩,rfl,⟨h.row.kept hg (.inr fun e=>h.bg (Option.some.inj e).symm),fun t ht=>wR hb h.glow (h.old t ht)⟩,aK hg h.obj (fun e=>h.bt (Option.some.inj e)),TA.own (d:=⟨d.kind,d.parent,d.blocks.set x y⟩) ho h.bg h.i64,aBV _,hb⟩
theorem Tn.more(h:Tn U W T g n c gB bn cB ls d)(hg:W.grownBy W' (some g)){g2 c2:Nat}(x:bK)(ho:W'.ownsRow U.heap.size 76 3 (.slice (some ⟨g2,0,none⟩) (n+1) c2) (n+1) (ls.flatMap cN++cN x))(hn:n≤1000)(hat:some g2=some g∨W.heap.size≤g2)
  (hx:dY W x.ba x.bn x.d.blocks∧x.bn≤x.bc∧I64 x.d.kind∧I64 x.d.parent) (hxa:x.ba=some ⟨gB,0,none⟩):
  tX W' U.heap.size g2 (n+1) c2 (ls++ [x])∧W'.heap[T]? =some (kZ ⟨d,some ⟨gB,0,none⟩,bn,cB⟩)∧bN W' U.heap.size (.slice (some ⟨gB,0,none⟩) bn cB) d.blocks∧gB≠g2∧Below U.heap.size U W'∧T≠g2:=by
 have hobj:W'.heap[T]? =some (kZ ⟨d,some ⟨gB,0,none⟩,bn,cB⟩):=aK hg h.obj (fun e=>h.tg (Option.some.inj e).symm)
 have hblk:bN W' U.heap.size (.slice (some ⟨gB,0,none⟩) bn cB) d.blocks:=h.blk.kept hg (.inr fun e=>h.bg (Option.some.inj e))
 have hbel:Below U.heap.size U W':=h.below.grown hg h.below.size (fun q e=>by injection e with e;rw[←e];exact h.glow)
 have hlow:U.heap.size≤g2:=(ho.lt g2 rfl).1
 have hbg:gB≠g2:=by
  rcases ho.2 with ⟨e,_⟩|⟨g',cap,cur,e,_,hh,_⟩
  ·cases e
  ·injection e with e;injection e with e;injection e with e;subst e;exact fun e=>cH hblk.1 hh (by decide) (by rw[e];rfl)
 refine⟨⟨⟨by rw[List.length_append,h.len,List.flatMap_append];simpa using ho,by rw[List.length_append,h.len];simp;omega⟩,fun t ht=>?_⟩,hobj,hblk,hbg,hbel,fun e=>by
  rcases hat with h1|h1
  ·injection h1 with h1;exact h.tg (by omega)
  ·have:=aN h.obj;omega⟩
 rcases aCA.1 ht with ht|ht
 ·exact wR hbel hlow (h.old t ht)
 ·simp only[List.mem_cons,List.not_mem_nil,or_false] at ht;rw[ht]
  have hw:dY W' x.ba x.bn x.d.blocks:=hx.1.off (S:=fun q=>q=g∨W.heap.size≤q) ⟨hg.os,hg.tape,hg.output,hg.size,fun k hk hn=>hg.block k hk (fun e=>hn (.inl (Option.some.inj e)))⟩ (fun b o e=>by
   rw[hxa] at e;injection e with e;injection e with e _;rw[←e];rintro(e2|e2)
   ·exact h.bg e2
   ·have:=(h.blk.1.lt gB rfl).2;omega)
  exact⟨⟨hw,hx.2⟩,fun b o e=>by rw[hxa] at e;injection e with e;injection e with e _;rw[←e];exact hbg⟩
theorem Tn.again(h:Tn U W T g n c gB bn cB ls d)(hg:W.grownBy W' (some g)){g2 c2:Nat}(ho:W'.ownsRow U.heap.size 76 3 (.slice (some ⟨g2,0,none⟩) (n+1) c2) (n+1) (ls.flatMap cN++ [.int .i64 d.kind,.int .i64 d.parent,.slice (some ⟨gB,0,none⟩) bn cB]))(hn:n≤1000)(hat:some g2=some g∨W.heap.size≤g2):
  St U W' T n (.slice (some ⟨g2,0,none⟩) (n+1) c2):=by
 obtain⟨h1,h2,h3,h4,h5,h6⟩:=h.more hg ⟨d,some ⟨gB,0,none⟩,bn,cB⟩ ho hn hat h.ta.1 rfl
 exact⟨g2,n+1,c2,_,_,rfl,h1,h2,TA.own h3 h4 h.i64,by omega,h5⟩
theorem Tn.cut(h:Tn U W T g n c gB bn cB ls d)(hg:W.grownBy W' (some g)){g2 c2 k:Nat}(hk:k≤1000)(ho:W'.ownsRow U.heap.size 76 3 (.slice (some ⟨g2,0,none⟩) (n+1) c2) (n+1) (ls.flatMap cN++ [.int .i64 4,.int .i64 (k:Int),.slice (some ⟨gB,0,none⟩) 1 cB]))(hn:n≤1000)(hat:some g2=some g∨W.heap.size≤g2)(hbn:1≤bn)
  (v:Value) (hv:v=if cB=1 then .slice (some ⟨gB,0,none⟩) 0 0 else .slice (some ⟨gB,1,none⟩) (bn-1) (cB-1)):St U (W'.setCell ⟨T,2,none⟩ v) T n (.slice (some ⟨g2,0,none⟩) (n+1) c2):=by
 have hcb:=FK h.blk
 obtain⟨h1,h2,h3,h4,h5,h6⟩:=h.more hg ⟨⟨4,(k:Int),d.blocks.take 1⟩,some ⟨gB,0,none⟩,1,cB⟩ ho hn hat ⟨h.blk.ints.takeN hbn,by show 1≤cB;omega,by show I64 (4:Int);unfold I64;omega,by show I64 (k:Int);unfold I64;omega⟩ rfl
 have hc:Chg (fun q=>q=T) W' (W'.setCell ⟨T,2,none⟩ v):=gX W' T 2 _
 have hb:Below U.heap.size U (W'.setCell ⟨T,2,none⟩ v):=h5.setCell (p:=⟨T,2,none⟩) h.low _
 have hrow:tX (W'.setCell ⟨T,2,none⟩ v) U.heap.size g2 (n+1) c2 (ls++ [⟨⟨4,(k:Int),d.blocks.take 1⟩,some ⟨gB,0,none⟩,1,cB⟩]):=⟨h1.row.chg hc (fun q hq e=>h6 (by
  have e2:some g2=some q:=hq;injection e2 with e2
  rw[←e,←e2])),fun t ht=>(by
   rcases aCA.1 ht with h9|h9
   ·exact wR hb h1.base_le (h.old t h9)
   ·simp only[List.mem_cons,List.not_mem_nil,or_false] at h9;have h8:=h1.each t ht;subst h9
    exact h8.off hc (fun b o e=>by injection e with e;injection e with e _;rw[←e];exact h.bt))⟩
 have hin:=h3.ints
 by_cases hc1:cB=1
 ·rw[if_pos hc1] at hv;subst hv;have hbl:d.blocks.length=1:=by have:=h.blen;omega
  refine⟨g2,n+1,c2,_,⟨⟨d.kind,d.parent,d.blocks.drop 1⟩,some ⟨gB,0,none⟩,0,0⟩,rfl,hrow,?_,⟨⟨dY.dropZ hbl,aBV _,h.i64⟩,fun b o e=>?_⟩,by omega,hb⟩
  ·rw[heap_setCell_same _ _ _ _ _ _ h2];rfl
  ·injection e with e;injection e with e _;rw[←e];exact h4
 ·rw[if_neg hc1] at hv;subst hv;refine⟨g2,n+1,c2,_,⟨⟨d.kind,d.parent,d.blocks.drop 1⟩,some ⟨gB,0+1,none⟩,bn-1,cB-1⟩,rfl,hrow,?_,⟨⟨(hin.off hc (fun b o e=>?_)).dropN hbn,by show bn-1≤cB-1;omega,h.i64⟩,fun b o e=>?_⟩,by omega,hb⟩
  ·rw[heap_setCell_same _ _ _ _ _ _ h2];rfl
  ·injection e with e;injection e with e _;rw[←e];exact h.bt
  ·injection e with e;injection e with e _;rw[←e];exact h4
theorem Tn.swap(h:Tn U W T g n c gB bn cB ls d){k:Nat}(hk:k<n)(x y:bK)(hx:x∈ls)(hy:y∈ls):St U ((W.setCells g 0 (cN x)).setCells g (k*3) (cN y)) T n (.slice (some ⟨g,0,none⟩) n c):=by
 have hxr:=h.xrow
 have h1:=hxr.set (k:=0) (by omega) (hxr.each x hx)
 rw[Nat.zero_mul] at h1
 have hc1:Chg (fun q=>q=g) W (W.setCells g 0 (cN x)):=eB (S:=fun q=>q=g) rfl _ _ _ (Chg.refl _ _)
 have h2:=h1.set hk (t:=y) ((hxr.each y hy).off hc1 (hxr.each y hy).2)
 have hc2:Chg (fun q=>q=g) W ((W.setCells g 0 (cN x)).setCells g (k*3) (cN y)):=eB (S:=fun q=>q=g) rfl _ _ _ hc1
 exact⟨g,n,c,_,_,rfl,h2,hc2.row h.obj h.tg,h.ta.off hc2 h.ta.2,aBV _,(h.below.trans (hc2.below (B:=U.heap.size) h.below.size (fun q e=>by rw[e];exact h.glow)))⟩
end
theorem US{w:World}{b q:Nat}{x y z:Value}(h0:w.cell? ⟨b,q,none⟩=some x)(h1:w.cell? ⟨b,q+1,none⟩=some y)(h2:w.cell? ⟨b,q+2,none⟩=some z):w.rangeAt b q [x,y,z]:=fun j v hv=>by
 rcases j with _|_|_|j
 ·simp at hv;subst hv;exact h0
 ·simp at hv;subst hv;exact h1
 ·simp at hv;subst hv;exact h2
 ·simp at hv
theorem RL(ls:List bK):∀u∈ls.flatMap cN,u.oneCell'=true:=by
 intro u hu
 obtain⟨t,_,h⟩:=List.mem_flatMap.1 hu
 exact nS t u h
theorem DB{Q:Exit→Act→World→Prop}{ops:Array Oper}{rest:List Oper}{o:Oper}{a:Act}(W:World)(hgd:o.guard=none)(s x:Operand)(ho:o.op=.call {callee:=.builtin .append,args:=#[s,x],argTypes:=#[26,26]})(H:Nat)(hH:W.heap.size=H)
  (hs:a.eval s=.slice (some ⟨H,0,none⟩) 0 0) (A:Option Addr) (n c:Nat) (hx:a.eval x=.slice A n c) (ls:List bK) (h:cM W A n ls) (hn:1≤n) (hn2:n≤1000)
  (k:∀g cap w',Below W.heap.size W w'→cK 76 3 cN w' W.heap.size (.slice (some ⟨g,0,none⟩) n cap) ls→wpList Tryz.prog ops Q rest (a.put o.dst (.slice (some ⟨g,0,none⟩) n cap)) w'):
  wpList Tryz.prog ops Q (o :: rest) a (W.alloc (.cells #[] 76)):=by
 subst hH
 refine fN (W.alloc (.cells #[] 76)) hgd s x 26 76 ho W.heap.size _ 3 40 Tryz.underlying26 nV rfl (by omega) (.slice (some ⟨W.heap.size,0,none⟩) 0 0) 0 [] hs (World.ownsRow_lit W #[] 0 (by omega) (by unfold maxLen;omega) rfl) A n c hx (ls.flatMap cN)
  (by rw[jY _ 3 dM,h.1.1]) ((h.ext ((aBQ _ W).alloc (aBV _) _)).1.news dM (by omega)) (RL ls) (by unfold maxLen;omega) (by omega) (by simp) ?_
 intro v' w' ho hg hv
 rw[Nat.zero_add,List.nil_append] at ho
 obtain⟨g,cap,rfl⟩:=eI ho (by omega)
 exact k g cap w' (((aBQ _ W).alloc (aBV _) _).grown hg (by simp) (fun k hk=>by simp[Value.ownBlock] at hk;omega)) ⟨by rw[h.1.1];exact ho,by rw[h.1.1];omega⟩
theorem YF{U w2 w3:World}{T g n c gB bn cB:Nat}{ls:List bK}{t0:bK}(row:cK 76 3 cN w2 U.heap.size (.slice (some ⟨g,0,none⟩) n c) ls)
  (old:∀t∈ls,(dY U t.ba t.bn t.d.blocks∧t.bn≤t.bc∧I64 t.d.kind∧I64 t.d.parent)∧1≤t.bn) (obj:w2.heap[T]? =some (kZ t0)) (ho:bN w3 U.heap.size (.slice (some ⟨gB,0,none⟩) bn cB) t0.d.blocks)
  (hg:(w2.alloc (.cells #[] 3)).grownBy w3 (some w2.heap.size)) (hi:I64 t0.d.kind∧I64 t0.d.parent) (low:U.heap.size≤T) (tg:T≠g) (hb:Below U.heap.size U w2):
  w3.heap[T]? =some (kZ t0)∧Tn U (w3.setCell ⟨T,2,none⟩ (.slice (some ⟨gB,0,none⟩) bn cB)) T g n c gB bn cB ls t0.d:=by
 have hT:=aN obj
 have hob3:w3.heap[T]? =some (kZ t0):=aK hg (aB (aD _ _) obj) (fun e=>by injection e with e;omega)
 have hg2:g<w2.heap.size:=(row.low rfl).2
 have hrow3:cK 76 3 cN w3 U.heap.size (.slice (some ⟨g,0,none⟩) n c) ls:=(cK.ext row (aD _ _)).kept hg (.inr fun e=>by
  have e2:some g=some w2.heap.size:=e
  injection e2 with e2;omega)
 have hb3:Below U.heap.size U w3:=(aA hb (aD _ _)).grown hg (aCD hb.size (aD _ _).size) (fun q e=>by injection e with e;rw[←e];exact hb.size)
 have hgs:=bA w3 T 2 (.slice (some ⟨gB,0,none⟩) bn cB)
 refine⟨hob3,hrow3.kept hgs (.inr fun e=>tg (by
  have e2:some g=some T:=e
  injection e2 with e2;exact e2.symm)),old,?_,ho.kept hgs (.inr fun e=>cH ho.1 hob3 (by decide) e),hi,low,hb3.setCell (p:=⟨T,2,none⟩) low _,tg⟩
 rw[heap_setCell_same _ _ _ _ _ _ hob3];rfl
theorem tX.set_below{U W:World}{g n c:Nat}{xs:List bK}(h:tX W U.heap.size g n c xs)(hb:Below U.heap.size U W)(o:Nat)(vs:List Value):Below U.heap.size U (W.setCells g o vs):=
 hb.trans ((eB (S:=fun q=>q=g) rfl vs o W (Chg.refl _ _)).below hb.size (fun q e=>by rw[e];exact h.base_le))
theorem SC{w:World}{base g n c:Nat}{xs:List Int}(h:bN w base (.slice (some ⟨g,0,none⟩) n c) xs)(hn:1≤n):∃v,w.cell? ⟨g,0,none⟩=some (.int .i64 v)∧w.frozen? ⟨g,0,none⟩=false∧g<w.heap.size:=by
 obtain⟨b,o,e,hc,_⟩:=h.ints.2.2 0 (by omega)
 injection e with e;injection e with e1 e2;subst e1 e2
 rcases h.1.2 with ⟨e,_⟩|⟨g',cap,cur,e,_,hh,_⟩
 ·cases e
 ·injection e with e;injection e with e;injection e with e;subst e;exact⟨_,hc,frozen_of_row _ _ _ _ _ hh,aN hh⟩
end

section
open Go.RowKit
attribute [local go_sem] Oper.semAt_some cT bM cC bG
theorem wJ(pa:Option Addr)(pn pc:Nat)(hpn:pn≤17592186044416)(ba:Option Addr)(bn bc:Nat)(bs:List iQ)(a:Option Addr)(n c:Nat)(ls:List bK)(w:World)(h:mA w ba bn bs)(ht:cM w a n ls):
  Calls Tryz.prog 32 #[dX pa pn pc ba bn bc,.slice a n c] w (PO bn pn bs n ls 40 w):=by
 have HX:=aBO h
 have HT:=aBO ht
 have hn:=ht.1.2.1
 have HLN:=aBO ht.1.1
 have hbn:=h.1.2.1
 clear h ht
 go_enter Tryz.func32,Tryz.ntmps32
 go_wp2
 go_loopw [5,6] (fun s5 s6 wr=>∃(i:Nat) (acc:Nat),s6=.int .i64 i∧s5=.int .i64 acc∧i≤n∧acc=n+CU ls i∧acc≤35184372088832∧Hid (wr=w.alloc (bO pa pn pc ba bn bc))) (fun _ s6 _=>n-(intOf s6).toNat)
 case atStart=>exact⟨0,n,rfl,rfl,by omega,by simp[CU],by omega,rfl⟩
 case round=>
  obtain⟨i,acc,rfl,rfl,hi,hacc,hab,HW⟩:=hrel;have HBw:Hid (Below w.heap.size w wr):=by rw[Hid,HW.out];exact aD _ _
  have hk0:wr.heap[w.heap.size]? =some (bO pa pn pc ba bn bc):=by rw[HW.out];exact aBS _ _
  have HK:=aBO hk0;have k0:wr.cell? ⟨w.heap.size,0,none⟩=some (.slice pa pn pc):=by rw[aBP _ _ _ _ _ _ hk0];rfl
  have k1:wr.cell? ⟨w.heap.size,1,none⟩=some (.slice ba bn bc):=by rw[aBP _ _ _ _ _ _ hk0];rfl
  clear hk0;by_cases hlt:i<n
  ·have hlt':(i:Int)<(n:Int):=by omega
   have hd1:decide ((i:Int)<(n:Int))=true:=by simpa using hlt
   by_cases hle:acc≤120
   ·have hd2:decide ((acc:Int)≤120)=true:=by simp;omega
    obtain⟨t,b,o,hlk,⟨hI,_⟩,rfl,c0,c1,c2⟩:=(HT.out.ext HBw.out).cells hlt;have hst:=RK ls i t hlk;have hb:=hI.2.1;clear c0 c1 hlk hI;go_wp2
    go_roundw
    case rel=>exact⟨i+1,n+CU ls i+t.bn,by go_num,by go_num,by omega,by omega,by omega,HW⟩
    case measure=>simp[intOf];omega
   ·have hd2:decide ((acc:Int)≤120)=false:=by simp;omega
    have hgt:(120:Int)<(acc:Int):=by omega
    clear hacc;by_cases q1:bn≤40
    ·have e1:(bn:Int)≤40:=by omega
     go_wp2_with (
      (go_at_call 51
       refine(gW pa pn pc hpn ba bn bc bs 2000 (by omega) (by omega) wr (HX.out.ext HBw.out)).mono ?_;rintro e w2 ⟨z,rfl,hz0,hz1,hz2,hb2⟩;have HB2:=aBO (aA HBw.out hb2);have HZ:=aBO hz2
       clear hb2 hz2))
     all_goals
      go_ret
      first
       |exact⟨_,rfl,HBw.out,fun h=>by first|cases h|(simp at h;done)|(simp at h;omega)⟩
       |exact⟨_,rfl,HB2.out,fun h=>by first|cases h|(simp at h;done)|(simp at h;omega)⟩
    ·by_cases q2:bn≤200
     ·have e1:(40:Int)<(bn:Int):=by omega
      have e2:(bn:Int)≤200:=by omega
      go_wp2_with (
       (go_at_call 51
        refine(gW pa pn pc hpn ba bn bc bs 2000 (by omega) (by omega) wr (HX.out.ext HBw.out)).mono ?_;rintro e w2 ⟨z,rfl,hz0,hz1,hz2,hb2⟩;have HB2:=aBO (aA HBw.out hb2);have HZ:=aBO hz2
        clear hb2 hz2))
      all_goals
       go_ret
       first
        |exact⟨_,rfl,HBw.out,fun h=>by first|cases h|(simp at h;done)|(simp at h;omega)⟩
        |exact⟨_,rfl,HB2.out,fun h=>by first|cases h|(simp at h;done)|(simp at h;omega)⟩
     ·have e1:(40:Int)<(bn:Int):=by omega
      have e2:(200:Int)<(bn:Int):=by omega
      go_wp2_with (
       (go_at_call 51
        refine(gW pa pn pc hpn ba bn bc bs 2000 (by omega) (by omega) wr (HX.out.ext HBw.out)).mono ?_;rintro e w2 ⟨z,rfl,hz0,hz1,hz2,hb2⟩;have HB2:=aBO (aA HBw.out hb2);have HZ:=aBO hz2
        clear hb2 hz2))
      all_goals
       go_ret
       first
        |exact⟨_,rfl,HBw.out,fun h=>by first|cases h|(simp at h;done)|(simp at h;omega)⟩
        |exact⟨_,rfl,HB2.out,fun h=>by first|cases h|(simp at h;done)|(simp at h;omega)⟩
  ·obtain rfl:i=n:=by omega
   have HTOT:Hid (CU ls i=gZ (aJ ls)):=VG HT.out;by_cases hle:acc≤120
   ·have hd2:(acc:Int)≤120:=by omega
    by_cases q1:bn≤40
    ·have e1:(bn:Int)≤40:=by omega
     go_wp2_with (
      (go_at_call 51
       refine(gW pa pn pc hpn ba bn bc bs 2000 (by omega) (by omega) wr (HX.out.ext HBw.out)).mono ?_;rintro e w2 ⟨z,rfl,hz0,hz1,hz2,hb2⟩;have HB2:=aBO (aA HBw.out hb2);have HZ:=aBO hz2
       clear hb2 hz2))
     all_goals
      go_ret
      first
       |exact⟨_,rfl,HBw.out,fun h=>by first|cases h|(simp at h;done)|(simp at h;omega)⟩
       |exact⟨_,rfl,HB2.out,fun h=>⟨by omega,by have:=HTOT.out;omega,HZ.out (by first|(simp at h;done)|(simp at h;omega))⟩⟩
    ·by_cases q2:bn≤200
     ·have e1:(40:Int)<(bn:Int):=by omega
      have e2:(bn:Int)≤200:=by omega
      go_wp2_with (
       (go_at_call 51
        refine(gW pa pn pc hpn ba bn bc bs 2000 (by omega) (by omega) wr (HX.out.ext HBw.out)).mono ?_;rintro e w2 ⟨z,rfl,hz0,hz1,hz2,hb2⟩;have HB2:=aBO (aA HBw.out hb2);have HZ:=aBO hz2
        clear hb2 hz2))
      all_goals
       go_ret
       first
        |exact⟨_,rfl,HBw.out,fun h=>by first|cases h|(simp at h;done)|(simp at h;omega)⟩
        |exact⟨_,rfl,HB2.out,fun h=>⟨by omega,by have:=HTOT.out;omega,HZ.out (by first|(simp at h;done)|(simp at h;omega))⟩⟩
     ·have e1:(40:Int)<(bn:Int):=by omega
      have e2:(200:Int)<(bn:Int):=by omega
      go_wp2_with (
       (go_at_call 51
        refine(gW pa pn pc hpn ba bn bc bs 2000 (by omega) (by omega) wr (HX.out.ext HBw.out)).mono ?_;rintro e w2 ⟨z,rfl,hz0,hz1,hz2,hb2⟩;have HB2:=aBO (aA HBw.out hb2);have HZ:=aBO hz2
        clear hb2 hz2))
      all_goals
       go_ret
       first
        |exact⟨_,rfl,HBw.out,fun h=>by first|cases h|(simp at h;done)|(simp at h;omega)⟩
        |exact⟨_,rfl,HB2.out,fun h=>⟨by omega,by have:=HTOT.out;omega,HZ.out (by first|(simp at h;done)|(simp at h;omega))⟩⟩
   ·have hd2:(120:Int)<(acc:Int):=by omega
    clear hacc;by_cases q1:bn≤40
    ·have e1:(bn:Int)≤40:=by omega
     go_wp2_with (
      (go_at_call 51
       refine(gW pa pn pc hpn ba bn bc bs 2000 (by omega) (by omega) wr (HX.out.ext HBw.out)).mono ?_;rintro e w2 ⟨z,rfl,hz0,hz1,hz2,hb2⟩;have HB2:=aBO (aA HBw.out hb2);have HZ:=aBO hz2
       clear hb2 hz2))
     all_goals
      go_ret
      first
       |exact⟨_,rfl,HBw.out,fun h=>by first|cases h|(simp at h;done)|(simp at h;omega)⟩
       |exact⟨_,rfl,HB2.out,fun h=>by first|cases h|(simp at h;done)|(simp at h;omega)⟩
    ·by_cases q2:bn≤200
     ·have e1:(40:Int)<(bn:Int):=by omega
      have e2:(bn:Int)≤200:=by omega
      go_wp2_with (
       (go_at_call 51
        refine(gW pa pn pc hpn ba bn bc bs 2000 (by omega) (by omega) wr (HX.out.ext HBw.out)).mono ?_;rintro e w2 ⟨z,rfl,hz0,hz1,hz2,hb2⟩;have HB2:=aBO (aA HBw.out hb2);have HZ:=aBO hz2
        clear hb2 hz2))
      all_goals
       go_ret
       first
        |exact⟨_,rfl,HBw.out,fun h=>by first|cases h|(simp at h;done)|(simp at h;omega)⟩
        |exact⟨_,rfl,HB2.out,fun h=>by first|cases h|(simp at h;done)|(simp at h;omega)⟩
     ·have e1:(40:Int)<(bn:Int):=by omega
      have e2:(200:Int)<(bn:Int):=by omega
      go_wp2_with (
       (go_at_call 51
        refine(gW pa pn pc hpn ba bn bc bs 2000 (by omega) (by omega) wr (HX.out.ext HBw.out)).mono ?_;rintro e w2 ⟨z,rfl,hz0,hz1,hz2,hb2⟩;have HB2:=aBO (aA HBw.out hb2);have HZ:=aBO hz2
        clear hb2 hz2))
      all_goals
       go_ret
       first
        |exact⟨_,rfl,HBw.out,fun h=>by first|cases h|(simp at h;done)|(simp at h;omega)⟩
        |exact⟨_,rfl,HB2.out,fun h=>by first|cases h|(simp at h;done)|(simp at h;omega)⟩
end
end Go.Proofs.YtblhmdhfhaencaaGreat
