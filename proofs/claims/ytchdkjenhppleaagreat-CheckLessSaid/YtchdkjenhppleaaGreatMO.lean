/-
 CheckLess,walked.
-/
import Derived.Test.YtchdkjenhppleaaGreatA0
import Derived.Test.YtchdkjenhppleaaGreatMA
import Derived.Test.YtchdkjenhppleaaGreatTA
import Derived.Test.YtchdkjenhppleaaGreatPick
import Derived.Test.YtchdkjenhppleaaGreatTQ
import Derived.Test.YtchdkjenhppleaaGreatRows
import Derived.WalkKit
import Derived.ProofKit
import Derived.OpenShut
import Derived.ShutString
import Derived.ChangeOld
import Derived.Below
import Derived.SizedLaws
import Derived.Lib.SmallJoins
import Derived.Deep.Slices
namespace Go.Proofs.YtchdkjenhppleaaGreat
set_option linter.unusedSimpArgs false
set_option linter.unusedVariables false
set_option linter.unusedSectionVars false
set_option maxRecDepth 100000
set_option maxHeartbeats 40000000
section
open Go.RowKit Go.Shelf
def VK(w:World)(m:eY)(a1:Option Addr)(n1 c1:Nat)(a2:Option Addr)(n2 c2:Nat):Prop:=fR w a1 n1 m.args/\fR w a2 n2 m.saved/\n1<=c1/\n2<=c2/\I64 m.regs/\I64 m.ret
def RN(w:World)(s:mP)(ia:Option Addr)(n c:Nat):Prop:=vP w ia n s.ins/\n<=c/\I64 s.kind/\I64 s.a/\I64 s.to0/\I64 s.to1
theorem ND{α:Type}{size:Nat}{cs:α->List Value}{ls:List α}(w:World)(p:Nat)(arr:Array Value)(t:TypeId)(fr:Nat×Nat)(h:w.heap[p]? =some (.cells arr t fr))(hs:∀x,(cs x).length=size)(ha:arr=(ls.flatMap cs).toArray)(hl:ls.length<=17592186044416):mO size cs w (some ⟨p,0,none⟩) ls.length ls:=by
 refine⟨rfl,hl,λk x hx=>⟨p,0,rfl,λj hj=>?_⟩⟩
 have h1:=kD cs size hs ls k j hj x hx
 rw[bd _ _ _ _ _ _ h,aW,<-h1,ha]
 simp
theorem ED(m:eY):∀l:List fW,(l.flatMap λr=>fU m r.d).length<=l.length
 | []=>by simp
 |r :: l=>by
  have h1:=VS m r.d;have h2:=ED m l;rw[dw,aT,aN];omega
theorem MZ(m:eY)(s t:mP)(ls:List Fct)(h1:ls.length<=500)(h2:s.ins.length<=500)(h3:t.ins.length<=500):(uA m s t ls).ok:=by
 have h4:=ED m t.ins
 refine⟨?_,?_⟩
 .simp only[uA,aT,bR];omega
 .simp only[uA,aT,bR];omega
theorem jh{w:World}{a:Option Addr}{n k:Nat}{ls:List Fct}(h:qS w a n ls)(hk:k<=n):qS w a k (ls.take k):=
 ⟨by rw[ck,h.1];omega,by have:=h.2.1;omega,λj x hj=>h.2.2 j x (by rw[dD] at hj;split at hj;exact hj;cases hj)⟩
theorem ji{w:World}{a:Option Addr}{n c k:Nat}{ls:List Fct}(h:qS w a n ls)(hc:n<=c):qS w (if c=k+1 then a else Option.map (λx=>x.add ((k+1)*3)) a) (n-(k+1)) (ls.drop (k+1)):=by
 refine⟨by rw[List.length_drop,h.1],by have:=h.2.1;omega,λj x hj=>?_⟩
 rw[dW] at hj
 have hl:=(aI.1 hj).1
 obtain⟨b,o,rfl,hx⟩:=h.2.2 _ _ hj
 have h1:=h.1
 refine⟨b,o+(k+1)*3,by rw[aC (by omega)];rfl,λi hi=>?_⟩
 rw[<-hx i hi]
 congr 2
 rw[Nat.add_mul]
 omega
theorem OG{w:World}{a:Option Addr}{n:Nat}{ls:List Fct}(h:qS w a n ls):∀j u,(ls.flatMap csF)[j]? =some u->∃ad,a=some ad/\w.cell? (ad.add j)=some u:=λj u hj=>by
 have hl:=(aI.1 hj).1
 rw[gU csF 3 fO] at hl
 have hk:j/3<ls.length:=by omega
 have hr:ls[j/3]? =some ls[j/3]:=au hk
 obtain⟨b,o,e,hc⟩:=h.2.2 _ _ hr
 refine⟨_,e,?_⟩
 rw[mT]
 have h2:=hc (j%3) (by omega)
 have h3:=kD csF 3 fO ls (j/3) (j%3) (by omega) _ hr
 rw[show j/3*3+j%3=j by omega] at h3
 rw[Nat.add_assoc,show j/3*3+j%3=j by omega] at h2
 rw[h2,<-h3,hj]
theorem pp(w:World)(o1 o2 o3:Obj):∃W0,Hid (Below w.heap.size w W0)/\W0.heap[w.heap.size]? =some o1/\W0.heap[w.heap.size+1]? =some o2/\W0.heap[w.heap.size+1+1]? =some o3/\((w.alloc o1).alloc o2).alloc o3=W0:=by
 obtain⟨b1,b2,b3⟩:=RD w o1 o2 o3
 exact⟨_,eA (eA (eC _ _) (eC _ _)) (eC _ _),b1,b2,b3,rfl⟩
def ew(m:eY)(s t:mP)(ls:List Fct)(base:Nat)(w':World)(v:Value)(fe:Int):Prop:=(qD m s t=false/\fe=13/\v=.slice none 0 0)\/(qD m s t=true/\rS ls=false/\fe=2/\v=.slice none 0 0)\/(qD m s t=true/\rS ls=true/\fe=(kA m s t (K0 ls,0)).2/\∃d,qA w' base v (qT d)/\d.Nodup/\∀y,y∈d↔(kA m s t (K0 ls,0)).1 y=true)
theorem fw{l:List Fct}{x y:Fct}{j:Nat}{b fd:Bool}(h:l[j]? =some y)(he:nY y x=b)(hf:fd=decide (x∈l.take j)):(fd||b)=decide (x∈l.take (j+1)):=by
 rw[hf,<-he,cp]
 simp only[bZ,aR,rO h]
 have e:nY y x=true↔x=y:=by
  obtain⟨a,b,c⟩:=x;obtain⟨d,e,f⟩:=y;simp[nY];constructor
  .rintro⟨rfl,rfl,rfl⟩;exact⟨rfl,rfl,rfl⟩
  .rintro⟨rfl,rfl,rfl⟩;exact⟨rfl,rfl,rfl⟩
 rw[e]
theorem SS{m:eY}{s t:mP}{ls:List Fct}{k:Nat}{p q:Nat}{w3 w4:World}{va vb:Value}{fa fb:Int}(h3:ew m s t ls p w3 va fa)(h4:ew m s t (DD ls k) q w4 vb fb):
  (fa=13/\fb=13)\/(fa=2/\(fb==13)=false)\/((fa==13)=false/\(fa==2)=false/\(fa≠0->fb≠0)/\∃la lb a n c b o r,va=.slice a n c/\vb=.slice b o r/\qS w3 a n la/\qS w4 b o lb/\∀x∈lb,x∈la):=by
 have fe13:∀{fe:Int},FE fe->(fe==13)=false/\(fe==2)=false:=λh=>by rcases h with rfl|rfl|rfl<;>exact⟨rfl,rfl⟩
 rcases h3 with ⟨h1,rfl,rfl⟩|⟨h1,h2,rfl,rfl⟩|⟨h1,h2,hfa,d,ho,hn,hd⟩
 .rcases h4 with ⟨_,rfl,rfl⟩|⟨g1,_⟩|⟨g1,_⟩
  .exact .inl ⟨rfl,rfl⟩
  .rw[h1] at g1;cases g1
  .rw[h1] at g1;cases g1
 .rcases h4 with ⟨g1,_⟩|⟨_,_,rfl,_⟩|⟨_,_,hfb,_⟩
  .rw[h1] at g1;cases g1
  .exact .inr (.inl ⟨rfl,rfl⟩)
  .exact .inr (.inl ⟨rfl,by rw[hfb];exact(fe13 (IH ..)).1⟩)
 .rcases h4 with ⟨g1,_⟩|⟨_,g2,_⟩|⟨_,_,hfb,e,go,gn,ge⟩
  .rw[h1] at g1;cases g1
  .rw[ic h2] at g2;cases g2
  .have h13:=fe13 (IH m s t (K0 ls));rw[<-hfa] at h13;have hl:=iu (la:=qT d) (lb:=qT e) (λy=>((wR d).mem_iff).trans (hd y)) (λy=>((wR e).mem_iff).trans (ge y));rw[<-hfa,<-hfb] at hl;obtain⟨a,c,rfl⟩:=ho.form;obtain⟨b,r,rfl⟩:=go.form;exact .inr (.inr ⟨h13.1,h13.2,hl.2,_,_,a,_,c,b,_,r,rfl,rfl,ho.recs fO,go.recs fO,hl.1⟩)
theorem GV(m:eY)(a1 a2:Option Addr)(n1 c1 n2 c2:Nat)(s t:mP)(sa ta:Option Addr)(ns cs nt ct:Nat)(fa:Option Addr)(nf cf:Nat)(ls:List Fct)(turn:Int)(w:World)(hm:VK w m a1 n1 c1 a2 n2 c2)(hs:RN w s sa ns cs)(ht:RN w t ta nt ct)(hf:qS w fa nf ls)(hc:nf<=cf)(hk:I64 turn):
  Calls Tryz.prog 3 #[nG m a1 n1 c1 a2 n2 c2,KC s sa ns cs,KC t ta nt ct,.slice fa nf cf,.int .i64 turn] w λe w'=>e=.returned (.bool true)/\Below w.heap.size w w':=by
 have HM:=ac hm
 have HS:=ac hs
 have HT:=ac ht
 have HF:=ac hf
 have l1:=hm.1.2.1
 have l2:=hm.2.1.2.1
 have l3:=hf.2.1
 have HLs:=ac hs.1.1.1
 have HLt:=ac ht.1.1.1
 have HLf:=ac hf.1
 clear hm hs ht hf
 obtain⟨W0,HW0,hM,hS,hT,hW0⟩:=pp w (iK m a1 n1 c1 a2 n2 c2) (pK s sa ns cs) (pK t ta nt ct)
 have HR0:=ac hM
 have HR1:=ac hS
 have HR2:=ac hT
 have HW:=ac hW0
 clear hM hS hT hW0
 go_enter Tryz.func3,Tryz.ntmps3
 go_upto_region 3 with (go_at_call 4;rw[HW.out];refine(UA W0).mono ?_;rintro e w1 ⟨rfl,hb1⟩;have E1:=ac hb1;clear hb1)
 go_cut [36] (λs36 wx=>∃v:Int,s36=.bool (decide (500<(n1:Int)+(n2:Int)+v+(nf:Int))||((nf:Int)==0))/\0<=v/\(v<=500->MX 500 ⟨s,sa,ns,cs⟩/\MX 500 ⟨t,ta,nt,ct⟩)/\Below W0.heap.size W0 wx)
 case first=>
  have km:∀w',(∃n:eH w1,w'=n.val)->w'.heap[w.heap.size]? =some (iK m a1 n1 c1 a2 n2 c2):=λw' ⟨q,e⟩=>by rw[e];exact eB (eA E1.out q.ext) HR0.out
  have ks:∀w',(∃n:eH w1,w'=n.val)->w'.heap[w.heap.size+1]? =some (pK s sa ns cs):=λw' ⟨q,e⟩=>by rw[e];exact eB (eA E1.out q.ext) HR1.out
  have kt:∀w',(∃n:eH w1,w'=n.val)->w'.heap[w.heap.size+1+1]? =some (pK t ta nt ct):=λw' ⟨q,e⟩=>by rw[e];exact eB (eA E1.out q.ext) HR2.out
  refine iZ (λw'=>∃n:eH w1,w'=n.val) (by kernel_rfl) ?_;obtain⟨v0,F0,hv0⟩:∃v0,Below w1.heap.size w1 v0/\w1.drew=v0:=⟨_,eS (ao _ _) 1,rfl⟩
  rw[hv0];clear hv0;refine eK 0 1 (by kernel_rfl) ⟨⟨_,F0⟩,rfl⟩ ?_;simp only[ak,aq,aj,ap]
  (refine eP (o:=⟨some 21,.load 24 _,_,_,_,_⟩) (by rfl) 24 _ rfl w.heap.size rfl 24 _ (0,0) _ km cT rfl pX ?_;simp only[Act.put,ae,ah,ag])
  refine ar ?_;refine eK 2 2 (by kernel_rfl) ⟨⟨_,F0⟩,rfl⟩ ?_;simp only[ak,aq,aj,ap]
  (refine eP (o:=⟨some 23,.load 31 _,_,_,_,_⟩) (by rfl) 31 _ rfl (w.heap.size+1) rfl 31 _ (0,0) _ ks bS rfl mS ?_;simp only[Act.put,ae,ah,ag])
  (refine eP (o:=⟨some 24,.load 31 _,_,_,_,_⟩) (by rfl) 31 _ rfl (w.heap.size+1+1) rfl 31 _ (0,0) _ kt bS rfl mS ?_;simp only[Act.put,ae,ah,ag])
  refine ar ?_;refine eK 7 2 (by kernel_rfl) ⟨⟨_,F0⟩,rfl⟩ ?_;simp only[ak,aq,aj,ap]
  repeat (go_big_quiet_step (fail))
  refine ar ?_;clear km ks kt;refine lU 1 4 (by kernel_rfl) ?_ ?_
  .refine eE rfl rfl ?_;go_simp;refine(vT m a1 a2 n1 c1 n2 c2 v0 l1 l2).mono ?_;rintro e v1 ⟨rfl,hb⟩;have F1:Below w1.heap.size w1 v1:=eA F0 hb;refine⟨Or.inr ⟨⟨_,F1⟩,rfl⟩,?_⟩
   try simp only[Act.put,ae,ah,ag]
   clear hb;refine eO 4 (by kernel_rfl) ?_;refine eE rfl rfl ?_;go_simp;have F2:Below w1.heap.size w1 (v1.alloc (.cells #[.slice sa ns cs,.int .i64 s.kind,.int .i64 s.a,.int .i64 s.to0,.int .i64 s.to1,.slice ta nt ct,.int .i64 t.kind,.int .i64 t.a,.int .i64 t.to0,.int .i64 t.to1] 31)):=eA F1 (eC _ _);have FB:=ai v1 (.cells #[.slice sa ns cs,.int .i64 s.kind,.int .i64 s.a,.int .i64 s.to0,.int .i64 s.to1,.slice ta nt ct,.int .i64 t.kind,.int .i64 t.a,.int .i64 t.to0,.int .i64 t.to1] 31);refine⟨Or.inr ⟨⟨_,F2⟩,rfl⟩,?_⟩
   try simp only[Act.put,ae,ah,ag]
   generalize v1.heap.size=gB at *;generalize v1.alloc (.cells #[.slice sa ns cs,.int .i64 s.kind,.int .i64 s.a,.int .i64 s.to0,.int .i64 s.to1,.slice ta nt ct,.int .i64 t.kind,.int .i64 t.a,.int .i64 t.to0,.int .i64 t.to1] 31)=v2 at *;refine eO 5 (by kernel_rfl) ?_
   have hbs:np v2 (some ⟨gB,0,none⟩) 2 [⟨s,sa,ns,cs⟩,⟨t,ta,nt,ct⟩]:=⟨ND (ls:= [⟨s,sa,ns,cs⟩,⟨t,ta,nt,ct⟩]) _ gB _ _ _ FB OR rfl (by simp),λb hb=>by
    have hE:=eA (eA HW0.out E1.out) F2;rcases aH.1 hb with rfl|hb
    .exact HS.out.1.ext hE
    .rw[bm] at hb;subst hb;exact HT.out.1.ext hE⟩
   refine eE rfl rfl ?_;go_simp;refine(vY (some ⟨gB,0,none⟩) 2 2 [⟨s,sa,ns,cs⟩,⟨t,ta,nt,ct⟩] 500 (by omega) (by omega) v2 hbs).mono ?_;rintro e v3 ⟨v,rfl,hv0,hv1,hv2,rfl⟩;refine⟨Or.inr ⟨⟨_,F2⟩,rfl⟩,?_⟩
   try simp only[Act.put,ae,ah,ag]
   have hsum:IntKind.i64.wrap ((n1:Int)+(n2:Int)+v)=(n1:Int)+(n2:Int)+v:=eh _ (by omega);have hsum2:IntKind.i64.wrap ((n1:Int)+(n2:Int)+v+(nf:Int))=(n1:Int)+(n2:Int)+v+(nf:Int):=eh _ (by omega);refine eK 6 1 (by kernel_rfl) ⟨⟨_,F2⟩,rfl⟩ ?_;simp only[ak,aq,aj,ap]
   repeat (go_big_quiet_step (fail))
   refine ar ?_;refine eK 9 2 (by kernel_rfl) ⟨⟨_,F2⟩,rfl⟩ ?_;simp only[ak,aq,aj,ap]
   repeat (go_big_quiet_step (fail))
   refine ar ?_;cases hbig:decide (500<(n1:Int)+(n2:Int)+v+(nf:Int)) with
   |true=>
    refine eK 11 5 (by kernel_rfl) ⟨⟨_,F2⟩,rfl⟩ ?_;simp only[ak,aq,aj,ap]
    repeat (go_big_quiet_step (fail))
    refine ar ?_;refine fJ (by kernel_rfl) ?_
    go_wp2_with fail
    go_meet
    exact⟨v,by rw[hbig];rfl,hv0,λh=>⟨hv2 h ⟨s,sa,ns,cs⟩ (by simp),hv2 h ⟨t,ta,nt,ct⟩ (by simp)⟩,eA E1.out F2⟩
   |false=>
    refine eK 11 5 (by kernel_rfl) ⟨⟨_,F2⟩,rfl⟩ ?_;simp only[ak,aq,aj,ap]
    repeat (go_big_quiet_step (fail))
    refine ar ?_;refine fJ (by kernel_rfl) ?_
    go_wp2_with fail
    go_meet
    exact⟨v,by rw[hbig,Bool.false_or],hv0,λh=>⟨hv2 h ⟨s,sa,ns,cs⟩ (by simp),hv2 h ⟨t,ta,nt,ct⟩ (by simp)⟩,eA E1.out F2⟩
  .refine eE rfl rfl ?_;go_simp;have F1:Below w1.heap.size w1 (v0.alloc (.cells #[.slice sa ns cs,.int .i64 s.kind,.int .i64 s.a,.int .i64 s.to0,.int .i64 s.to1,.slice ta nt ct,.int .i64 t.kind,.int .i64 t.a,.int .i64 t.to0,.int .i64 t.to1] 31)):=eA F0 (eC _ _);have FB:=ai v0 (.cells #[.slice sa ns cs,.int .i64 s.kind,.int .i64 s.a,.int .i64 s.to0,.int .i64 s.to1,.slice ta nt ct,.int .i64 t.kind,.int .i64 t.a,.int .i64 t.to0,.int .i64 t.to1] 31);refine⟨Or.inr ⟨⟨_,F1⟩,rfl⟩,?_⟩
   try simp only[Act.put,ae,ah,ag]
   generalize v0.heap.size=gB at *;generalize v0.alloc (.cells #[.slice sa ns cs,.int .i64 s.kind,.int .i64 s.a,.int .i64 s.to0,.int .i64 s.to1,.slice ta nt ct,.int .i64 t.kind,.int .i64 t.a,.int .i64 t.to0,.int .i64 t.to1] 31)=v1 at *;refine eO 1 (by kernel_rfl) ?_;refine eE rfl rfl ?_;go_simp;refine(vT m a1 a2 n1 c1 n2 c2 v1 l1 l2).mono ?_;rintro e v2 ⟨rfl,hb⟩;have F2:Below w1.heap.size w1 v2:=eA F1 hb
   replace FB:=eB hb FB
   refine⟨Or.inr ⟨⟨_,F2⟩,rfl⟩,?_⟩
   try simp only[Act.put,ae,ah,ag]
   clear hb;refine eO 5 (by kernel_rfl) ?_
   have hbs:np v2 (some ⟨gB,0,none⟩) 2 [⟨s,sa,ns,cs⟩,⟨t,ta,nt,ct⟩]:=⟨ND (ls:= [⟨s,sa,ns,cs⟩,⟨t,ta,nt,ct⟩]) _ gB _ _ _ FB OR rfl (by simp),λb hb=>by
    have hE:=eA (eA HW0.out E1.out) F2;rcases aH.1 hb with rfl|hb
    .exact HS.out.1.ext hE
    .rw[bm] at hb;subst hb;exact HT.out.1.ext hE⟩
   refine eE rfl rfl ?_;go_simp;refine(vY (some ⟨gB,0,none⟩) 2 2 [⟨s,sa,ns,cs⟩,⟨t,ta,nt,ct⟩] 500 (by omega) (by omega) v2 hbs).mono ?_;rintro e v3 ⟨v,rfl,hv0,hv1,hv2,rfl⟩;refine⟨Or.inr ⟨⟨_,F2⟩,rfl⟩,?_⟩
   try simp only[Act.put,ae,ah,ag]
   have hsum:IntKind.i64.wrap ((n1:Int)+(n2:Int)+v)=(n1:Int)+(n2:Int)+v:=eh _ (by omega);have hsum2:IntKind.i64.wrap ((n1:Int)+(n2:Int)+v+(nf:Int))=(n1:Int)+(n2:Int)+v+(nf:Int):=eh _ (by omega);refine eK 6 1 (by kernel_rfl) ⟨⟨_,F2⟩,rfl⟩ ?_;simp only[ak,aq,aj,ap]
   repeat (go_big_quiet_step (fail))
   refine ar ?_;refine eK 9 2 (by kernel_rfl) ⟨⟨_,F2⟩,rfl⟩ ?_;simp only[ak,aq,aj,ap]
   repeat (go_big_quiet_step (fail))
   refine ar ?_;cases hbig:decide (500<(n1:Int)+(n2:Int)+v+(nf:Int)) with
   |true=>
    refine eK 11 5 (by kernel_rfl) ⟨⟨_,F2⟩,rfl⟩ ?_;simp only[ak,aq,aj,ap]
    repeat (go_big_quiet_step (fail))
    refine ar ?_;refine fJ (by kernel_rfl) ?_
    go_wp2_with fail
    go_meet
    exact⟨v,by rw[hbig];rfl,hv0,λh=>⟨hv2 h ⟨s,sa,ns,cs⟩ (by simp),hv2 h ⟨t,ta,nt,ct⟩ (by simp)⟩,eA E1.out F2⟩
   |false=>
    refine eK 11 5 (by kernel_rfl) ⟨⟨_,F2⟩,rfl⟩ ?_;simp only[ak,aq,aj,ap]
    repeat (go_big_quiet_step (fail))
    refine ar ?_;refine fJ (by kernel_rfl) ?_
    go_wp2_with fail
    go_meet
    exact⟨v,by rw[hbig,Bool.false_or],hv0,λh=>⟨hv2 h ⟨s,sa,ns,cs⟩ (by simp),hv2 h ⟨t,ta,nt,ct⟩ (by simp)⟩,eA E1.out F2⟩
 case rest=>
  obtain⟨v,rfl,hv0,hv,E2⟩:=hcut;obtain⟨w2,rfl⟩:∃w2,w2=wc:=⟨_,rfl⟩
  cases hbig:(decide (500<(n1:Int)+(n2:Int)+v+(nf:Int))||((nf:Int)==0)) with
  |true=>
   go_wp2
   go_ret
   exact⟨rfl,eA HW0.out E2⟩
  |false=>
   have hbig2:¬500<(n1:Int)+(n2:Int)+v+(nf:Int)/\nf≠0:=by
    rw[dt] at hbig;exact⟨by simpa using hbig.1,by have h:=hbig.2;simp at h;omega⟩
   obtain⟨⟨hs1,hs2⟩,ht1,ht2⟩:=hv (by omega);have hns:ns<=500:=by have:(ns:Int)<=500:=hs1;omega
   have hnt:nt<=500:=by have:(nt:Int)<=500:=ht1;omega
   have hE2:=eA HW0.out E2;have HMo:Hid (lB w2 m a1 n1 c1 a2 n2 c2):=lB.ext ⟨HM.out.1,HM.out.2.1,HM.out.2.2.1,HM.out.2.2.2.1,by omega,by omega,HM.out.2.2.2.2⟩ hE2;have HSo:Hid (oH w2 s sa ns cs):=oH.ext ⟨HS.out.1,by omega,HS.out.2⟩ hE2;have HTo:Hid (oH w2 t ta nt ct):=oH.ext ⟨HT.out.1,by omega,HT.out.2⟩ hE2;have HFo:Hid (qS w2 fa nf ls):=HF.out.ext fO hE2;have HNA:Hid (∀r∈s.ins,r.na<=1000000):=λr hr=>by have:=hs2 r hr;omega
   have HU:Hid (uA m s t ls).ok:=MZ m s t ls (by have:=HLf.out;omega) (by have:=HLs.out;omega) (by have:=HLt.out;omega);have hII:I64 (nf:Int):=⟨by omega,by omega⟩
   obtain⟨k,hkk,hkn⟩:∃k:Nat,MT turn nf=(k:Int)/\k<nf:=by
    have h1:=Int.emod_nonneg turn (b:=(nf:Int)) (by omega);have h2:=Int.emod_lt_of_pos turn (b:=(nf:Int)) (by omega);exact⟨(turn%nf).toNat,by unfold MT;rw[aC (by omega)];omega,by omega⟩
   have X1:=eB E2 HR0.out;have X2:=eB E2 HR1.out;have X3:=eB E2 HR2.out;obtain⟨m0,m1,m2,m3⟩:=wD X1 rfl;obtain⟨s0,s1,s2,s3,s4⟩:=nN X2 rfl;obtain⟨t0,t1,t2,t3,t4⟩:=nN X3 rfl
   go_wp2_with (first
    |(go_at_call 7
      refine(gw turn nf w2 hk hII).mono ?_;rintro e w3 ⟨rfl,hw3⟩;subst hw3
      rw[hkk])
    |(go_at_call 8
      refine(BJ m a1 a2 n1 c1 n2 c2 s t sa ta ns cs nt ct fa nf cf ls w2 HMo.out HSo.out HTo.out HNA.out HFo.out HU.out).mono ?_;rintro e w3 ⟨va,fea,rfl,hb3,hp3⟩;have HB3:=ac hb3;have HP3:=ac hp3
      clear hb3 hp3))
   have hb3:=HB3.out;have km:∀n:eH w3,n.val.heap[w.heap.size]? =some (iK m a1 n1 c1 a2 n2 c2):=λn=>eB (eA hb3 n.ext) X1;have ks:∀n:eH w3,n.val.heap[w.heap.size+1]? =some (pK s sa ns cs):=λn=>eB (eA hb3 n.ext) X2;have kt:∀n:eH w3,n.val.heap[w.heap.size+1+1]? =some (pK t ta nt ct):=λn=>eB (eA hb3 n.ext) X3;have hne:Nonempty (eH w3):=⟨⟨w3,ao _ _⟩⟩
   have q0:=λn:eH w3=>(wD (km n) rfl).1;have q1:=λn:eH w3=>(wD (km n) rfl).2.1;have q2:=λn:eH w3=>(wD (km n) rfl).2.2.1;have q3:=λn:eH w3=>(wD (km n) rfl).2.2.2;have p0:=λn:eH w3=>(nN (ks n) rfl).1;have p1:=λn:eH w3=>(nN (ks n) rfl).2.1;have p2:=λn:eH w3=>(nN (ks n) rfl).2.2.1;have p3:=λn:eH w3=>(nN (ks n) rfl).2.2.2.1;have p4:=λn:eH w3=>(nN (ks n) rfl).2.2.2.2;have o0:=λn:eH w3=>(nN (kt n) rfl).1;have o1:=λn:eH w3=>(nN (kt n) rfl).2.1;have o2:=λn:eH w3=>(nN (kt n) rfl).2.2.1;have o3:=λn:eH w3=>(nN (kt n) rfl).2.2.2.1;have o4:=λn:eH w3=>(nN (kt n) rfl).2.2.2.2;clear km ks kt m0 m1 m2 m3 s0 s1 s2 s3 s4 t0 t1 t2 t3 t4;refine iZ (λw'=>∃n:eH w3,w'=n.val) (by kernel_rfl) ?_;obtain⟨v0,F0,hv0⟩:∃v0,Below w3.heap.size w3 v0/\w3.drew=v0:=⟨_,eS (ao _ _) 1,rfl⟩
   rw[hv0];clear hv0;refine eK 0 3 (by kernel_rfl) ⟨⟨_,F0⟩,rfl⟩ ?_;simp only[ak,aq,aj,ap]
   repeat (go_big_quiet_step (fail))
   refine ar ?_;clear q0 q1 q2 q3 p0 p1 p2 p3 p4 o0 o1 o2 o3 o4;refine eK 4 3 (by kernel_rfl) ⟨⟨_,F0⟩,rfl⟩ ?_;simp only[ak,aq,aj,ap]
   repeat (go_big_quiet_step (fail))
   refine ar ?_;refine eK 8 4 (by kernel_rfl) ⟨⟨_,F0⟩,rfl⟩ ?_;simp only[ak,aq,aj,ap]
   repeat (go_big_quiet_step (fail))
   refine ar ?_;refine eO 3 (by kernel_rfl) ?_;refine eE rfl rfl ?_;go_simp;have F1:=eA F0 (eC v0 (.cells #[] 44));have O1:(v0.alloc (.cells #[] 44)).ownsRow w3.heap.size 44 3 (.slice (some ⟨v0.heap.size,0,none⟩) 0 0) 0 []:=dy v0 _ 0 F0.size (by decide) rfl;refine⟨Or.inr ⟨⟨_,F1⟩,rfl⟩,?_⟩;generalize v0.alloc (.cells #[] 44)=v1 at *;generalize v0.heap.size=g1 at*
   try simp only[Act.put,ae,ah,ag]
   refine eO 7 (by kernel_rfl) ?_;refine eE rfl rfl ?_;have HF1:=HFo.out.ext fO (eA HB3.out F1);have HT1:=jh HF1 (Nat.le_of_lt hkn);refine qM v1 (.tmp 53) (.tmp 56) 32 44 rfl w3.heap.size _ 3 24 cP MV rfl (by omega) _ 0 [] rfl O1 fa k cf rfl ((ls.take k).flatMap csF) (by rw[gU csF 3 fO,HT1.1]) (OG HT1) (LC _) (by unfold maxLen;omega) (by omega) F1.size ?_;intro x2 v2 O2 hg2 hat2 hbel2;have F2:=hbel2 w3 F1;refine⟨Or.inr ⟨⟨_,F2⟩,rfl⟩,?_⟩;clear hg2 hat2 hbel2 HT1 HF1 O1
   try simp only[Act.put,ae,ah,ag]
   refine eO 12 (by kernel_rfl) ?_;refine eE rfl rfl ?_;have HF2:=HFo.out.ext fO (eA HB3.out F2);have HD2:=ji (k:=k) HF2 hc;generalize (if cf=k+1 then fa else Option.map (λx=>x.add ((k+1)*3)) fa)=fd at HD2|-;refine qM v2 (.tmp 57) (.tmp 61) 32 44 rfl w3.heap.size _ 3 24 cP MV rfl (by omega) x2 (0+k) _ rfl O2 _ _ _ rfl ((ls.drop (k+1)).flatMap csF) (by rw[gU csF 3 fO,HD2.1]) (OG HD2) (LC _) (by unfold maxLen;omega) (by omega) F2.size ?_;intro x3 v3 O3 hg3 hat3 hbel3;have F3:=hbel3 w3 F2;have HLc:(DD ls k).length=0+k+(nf-(k+1)):=by rw[DD,aT,ck,List.length_drop,HLf.out];omega
   have HO3:qA v3 w3.heap.size x3 (DD ls k):=⟨by rw[HLc];rw[bH,<-cB] at O3;exact O3,by rw[HLc];omega⟩
   refine⟨Or.inr ⟨⟨_,F3⟩,rfl⟩,?_⟩;clear hg3 hat3 hbel3 HD2 HF2 O2 O3
   try simp only[Act.put,ae,ah,ag]
   refine eO 13 (by kernel_rfl) ?_;refine eE rfl rfl ?_;obtain⟨xa,xc,rfl⟩:=HO3.form;have HLk:=ac HLc;clear HLc;go_simp;have HE3:=eA HB3.out F3;refine(BJ m a1 a2 n1 c1 n2 c2 s t sa ta ns cs nt ct xa _ xc (DD ls k) v3 (HMo.out.ext HE3) (HSo.out.ext HE3) (HTo.out.ext HE3) HNA.out (HO3.recs fO) (MZ m s t _ (by rw[HLk.out];omega) (by have:=HLs.out;omega) (by have:=HLt.out;omega))).mono ?_;rintro e w4 ⟨vb,feb,rfl,hb4,hp4⟩;have F4:=eA F3 hb4;have HB4:=ac hb4;have HP4:=ac hp4;have HE4:=ac HE3;have HQ3:=ac HO3;clear hb4 hp4 HE3 HO3 F1 F2 F3 hbig2 hs1 hs2 ht1 ht2 hII;refine⟨Or.inr ⟨⟨_,F4⟩,rfl⟩,?_⟩
   try simp only[Act.put,ae,ah,ag]
   refine eK 14 5 (by kernel_rfl) ⟨⟨_,F4⟩,rfl⟩ ?_;simp only[ak,aq,aj,ap]
   repeat (go_big_quiet_step (fail))
   refine ar ?_;refine fJ (by kernel_rfl) ?_;have HE:=ac (eA hE2 (eA HB3.out F4));rcases SS (k:=k) HP3.out HP4.out with ⟨rfl,rfl⟩|⟨rfl,hf13⟩|⟨hfa,hfa2,hfl,la,lb,a,n,c,b,o,r,rfl,rfl,hla,hlb,hsub⟩
   .go_wp2
    all_goals
     go_ret
     exact⟨rfl,HE.out⟩
   .go_wp2
    all_goals
     go_ret
     exact⟨rfl,HE.out⟩
   .have HLA:=ac (hla.ext fO F4);have HLB:=ac hlb;have HSUB:=ac hsub;have HFL:=ac hfl;have hlal:=hla.2.1;have hlbl:=hlb.2.1;have hq:=λw (y x:Fct)=>jq w y x;have hfa3:¬fea=13:=by simpa using hfa
    have hfa4:¬fea=2:=by simpa using hfa2
    clear hla hlb hsub hfl HP3 HP4 HB3 HB4 HE4 HQ3 F4 hE2 E2 X1 X2 X3;go_wp2
    go_loopw [16] (λs16 wr=>∃i:Nat,s16=.int .i64 i/\i<=o/\Hid (Below w4.heap.size w4 wr)) (λs16 _=>o+1-(intOf s16).toNat)
    case atStart=>exact⟨0,rfl,by omega,ao _ _⟩
    case round=>
     obtain⟨i,rfl,hi,HBr⟩:=hrel;by_cases hlt:i<o
     .have hlt':(i:Int)<(o:Int):=by omega
      obtain⟨x,b',o',hx,rfl,d0,d1,d2⟩:=lG (HLB.out.ext fO HBr.out) hlt;have HX:=ac (HSUB.out x (aK hx));clear hx;go_wp2;obtain⟨wo,rfl⟩:∃wo:World,wo=wr:=⟨_,rfl⟩
      go_loopw [17,18] (λs17 s18 wi=>∃(j:Nat) (fd:Bool),s17=.bool fd/\s18=.int .i64 j/\j<=n/\Hid (fd=decide (x∈la.take j))/\Hid (Below wo.heap.size wo wi)) (λ_ s18 _=>n+1-(intOf s18).toNat)
      case atStart=>exact⟨0,false,rfl,rfl,by omega,by simp[Hid],ao _ _⟩
      case round=>
       obtain⟨j,fd,rfl,rfl,hj,HFD,HBi⟩:=hrel;by_cases hjl:j<n
       .have hjl':(j:Int)<(n:Int):=by omega
        obtain⟨y,a',p',hy,rfl,c0,c1,c2⟩:=lG (HLA.out.ext fO (eA HBr.out HBi.out)) hjl;have HY:=ac hy;have g0:=eH.cell c0;have g1:=eH.cell c1;have g2:=eH.cell c2;have g3:=eH.cell (eN HBi.out d0);have g4:=eH.cell (eN HBi.out d1);have g5:=eH.cell (eN HBi.out d2);have hne:Nonempty (eH wr):=⟨⟨wr,ao _ _⟩⟩
        have hqy:=λw=>hq w y x;cases hxy:nY y x
        all_goals
         rw[hxy] at hqy;have hxy2:=ac hxy;clear hy hxy hq c0 c1 c2 d0 d1 d2;cases fd
         all_goals
          go_upto_region 17 with (fail)
          refine lE (by kernel_rfl) (by kernel_rfl) ?_
          repeat (first|go_big_quiet_skip|go_big_quiet_step (fail))
          refine ar ?_;rintro _ ⟨m',rfl⟩;have HB2:=ac (eA HBi.out m'.ext);clear g0 g1 g2 g3 g4 g5 hqy;go_wp2
          go_roundw
          case rel=>exact⟨j+1,_,rfl,by go_num,by omega,fw HY.out hxy2.out HFD.out,HB2⟩
          case measure=>simp[intOf];omega
       .obtain rfl:j=n:=by omega
        obtain rfl:fd=true:=by rw[HFD.out,aR,bF (by rw[HLA.out.1];exact aw _)];exact HX.out
        have HB2:=ac (eA HBr.out HBi.out);go_wp2
        go_roundw
        case rel=>exact⟨i+1,by go_num,by omega,HB2⟩
        case measure=>simp[intOf];omega
     .have hlt':¬(i:Int)<(o:Int):=by omega
      clear hq;have HB2:=ac (eA HE.out HBr.out);by_cases hz:fea=0
      .subst hz;go_wp2
       go_ret
       exact⟨rfl,HB2.out⟩
      .have hz1:(fea==0)=false:=by simpa using hz
       have hz2:(feb != 0)=true:=by simpa using HFL.out hz
       go_wp2
       go_ret
       exact⟨rfl,HB2.out⟩
end

section
open Go.ChangeShapes Go.WideShapes Go.ChangeAt Go.RowKit
theorem pw:ownKnob Tryz.prog.godebug=none:=by kernel_rfl
theorem yE:laidOutB Tryz.prog=true:=by kernel_rfl
theorem j9:Tryz.prog.bytesOf 3=8:=by kernel_rfl
theorem lM:Tryz.prog.cellsOf 3=1:=by kernel_rfl
theorem lz{H:Type}{enc:TypeId×Value->H}{W:World}{fuel:Nat}{v:Value}{y:DataW H×List MemPlace}
  (hf:DataW.trod enc Tryz.prog W 0 (λ_=>true) true fuel 22 [v]=some y) (hb:∀n∈y.1.weights Tryz.prog 22,n<=reachBytes):
  ∃a len cap zs,v=.slice a len cap/\fR W a len zs:=by
 rcases open_ints aQ aP lM hf with ⟨hcs,_⟩|⟨x,l,c,zs,hcs,_,hl,hm,hz,hx,hcell,hwz⟩
 .simp at hcs;exact⟨none,0,0,[],hcs,rfl,by omega,λk hk=>absurd hk (by omega)⟩
 .simp at hcs;have hz':zs.length=c:=by simpa using hz
  have hlen:(zs.take l).length=l:=by simp;omega
  have hbd:=hb ((((zs.take l).length)+((zs.drop l).length))*8) (by rw[hx];simp[DataW.weights,aQ,j9,lits]);refine⟨some x,l,c,zs.take l,hcs,hlen,?_,λk hk=>?_⟩
  .simp only[ck,List.length_drop,reachBytes] at hbd;omega
  .have hk':k<zs.length:=by omega
   have hc:=hcell k hk';obtain⟨b,o,sp⟩:=x;have hsp:sp=none:=by simpa[Addr.add] using World.cell?_spot (hcell 0 (by omega))
   subst hsp;have e:(zs.take l).getD k 0=zs.getD k 0:=by simp[ax,dD,hk]
   refine⟨b,o,rfl,?_,?_⟩
   .rw[e];have ha:(⟨b,o,none⟩:Addr).add k=⟨b,o+k,none⟩:=by
     by_cases h0:k=0
     .simp[Addr.add,h0]
     .simp[Addr.add,h0]
    rw[ha] at hc;exact hc
   .rw[e];have hm':zs.getD k 0∈zs:=by
     rw[ax,au hk'];simp
    have:=Go.Joins.in64_of_wf (hwz _ hm');simp only[I64];simp only[Go.Joins.In64] at this;omega
end

section
open Go.ChangeShapes Go.WideShapes Go.ChangeAt Go.RowKit
theorem OQ:Tryz.prog.cellsOf 62=8:=by kernel_rfl
theorem kd:Tryz.prog.bytesOf 62=80:=by kernel_rfl
theorem mp:Tryz.prog.cellsOf 60=1:=by kernel_rfl
theorem YZ:Tryz.prog.cellsOf 22=1:=by kernel_rfl
theorem ZA:Tryz.prog.cellsOf 25=1:=by kernel_rfl
theorem YX:Tryz.prog.cellsOf 29=4:=by kernel_rfl
theorem YY:Tryz.prog.cellsOf 26=1:=by kernel_rfl
theorem mn:Tryz.prog.cellsOf 27=2:=by kernel_rfl
theorem TP:Tryz.prog.cellsOf 31=5:=by kernel_rfl
theorem JS:Tryz.prog.cellsOf 44=3:=by kernel_rfl
theorem j6:Tryz.prog.cellsOf 42=2:=by kernel_rfl
theorem ZB:Tryz.prog.cellsOf 4=1:=by kernel_rfl
theorem UT{α:Type}(n:Nat)(R:Nat->α->Prop)(h:∀i,i<n->∃x,R i x):∃l:List α,l.length=n/\∀i x,l[i]? =some x->R i x:=by
 induction n with
 |zero=>exact⟨[],rfl,λi x hx=>by simp at hx⟩
 |succ n ih=>
  obtain⟨l,hl,hr⟩:=ih (λi hi=>h i (by omega));obtain⟨x,hx⟩:=h n (by omega);refine⟨l++ [x],by simp[hl],λi y hy=>?_⟩;by_cases hi:i<n
  .rw[cy (by omega)] at hy;exact hr i y hy
  .have hlt:=(aI.1 hy).1;simp[hl] at hlt;obtain rfl:i=n:=by omega
   rw[dh (by omega),hl,Nat.sub_self] at hy;simp at hy;subst hy;exact hx
theorem o8{α:Type}:∀{l:List α},l.length=8->∃v0 v1 v2 v3 v4 v5 v6 v7,l= [v0,v1,v2,v3,v4,v5,v6,v7]
 | [v0,v1,v2,v3,v4,v5,v6,v7],_=>⟨v0,v1,v2,v3,v4,v5,v6,v7,rfl⟩
theorem pz{α:Type}:∀{l:List α},l.length=5->∃v0 v1 v2 v3 v4,l= [v0,v1,v2,v3,v4]
 | [v0,v1,v2,v3,v4],_=>⟨v0,v1,v2,v3,v4,rfl⟩
theorem o9{α:Type}:∀{l:List α},l.length=3->∃v0 v1 v2,l= [v0,v1,v2]
 | [v0,v1,v2],_=>⟨v0,v1,v2,rfl⟩
theorem kp{α:Type}:∀{l:List α},l.length=2->∃v0 v1,l= [v0,v1]
 | [v0,v1],_=>⟨v0,v1,rfl⟩
section
variable {H:Type} {enc:TypeId×Value->H} {W:World}
theorem nD{fuel:Nat}{v:Value}{t:TypeId}{o:Option (DataW H×List MemPlace)}{y:DataW H×List MemPlace}(ht:Tryz.prog.underlying t=some (.int .i64))(h:DataW.trod enc Tryz.prog W 0 (λ_=>true) true fuel t [v]=o)(ho:o=some y):∃n,v=.int .i64 n/\I64 n:=by
 obtain⟨n,e,_,hw⟩:=DataW.trod_int ht (h.trans ho)
 simp only[dr,and_true] at e
 have:=Go.Joins.in64_of_wf hw
 exact⟨n,e,this.1,this.2⟩
theorem DX{fuel:Nat}{v:Value}{y:DataW H×List MemPlace}
  (hf:DataW.trod enc Tryz.prog W 0 (λ_=>true) true fuel 22 [v]=some y) (hb:∀n∈y.1.weights Tryz.prog 22,n<=reachBytes):
  ∃a len cap zs,v=.slice a len cap/\fR W a len zs/\len<=cap:=by
 obtain⟨a,len,cap,zs,e,h⟩:=lz hf hb
 refine⟨a,len,cap,zs,e,h,?_⟩
 rcases open_ints aQ aP lM hf with ⟨hcs,_⟩|⟨x,l,c,zs',hcs,_,hl,_⟩
 .simp at hcs;rw[e] at hcs;simp at hcs;omega
 .simp at hcs;rw[e] at hcs;simp at hcs;omega
theorem oc{fuel:Nat}{cs:List Value}{y:DataW H×List MemPlace}(hf:DataW.trod enc Tryz.prog W 0 (λ_=>true) true fuel 62 cs=some y)(hb:∀n∈y.1.weights Tryz.prog 62,n<=reachBytes):
  ∃r:fW,cs=rK r/\qF W r:=by
 obtain⟨ys,n,-,hy,hlen,hyl,hfs⟩:=ef bT hf
 rw[OQ] at hlen
 obtain⟨v0,v1,v2,v3,v4,v5,v6,v7,rfl⟩:=o8 hlen
 obtain⟨y0,y1,y2,y3,y4,y5,y6,y7,rfl⟩:=o8 (show ys.length=8 from hyl)
 have g0:DataW.trod enc Tryz.prog W 0 (λ_=>true) true n 60 (([v0,v1,v2,v3,v4,v5,v6,v7].drop 0).take (Tryz.prog.cellsOf 60))=some y0:=hfs 0 _ rfl
 have g1:DataW.trod enc Tryz.prog W 0 (λ_=>true) true n 3 (([v0,v1,v2,v3,v4,v5,v6,v7].drop 1).take (Tryz.prog.cellsOf 3))=some y1:=hfs 1 _ rfl
 have g2:DataW.trod enc Tryz.prog W 0 (λ_=>true) true n 3 (([v0,v1,v2,v3,v4,v5,v6,v7].drop 2).take (Tryz.prog.cellsOf 3))=some y2:=hfs 2 _ rfl
 have g3:DataW.trod enc Tryz.prog W 0 (λ_=>true) true n 3 (([v0,v1,v2,v3,v4,v5,v6,v7].drop 3).take (Tryz.prog.cellsOf 3))=some y3:=hfs 3 _ rfl
 have g4:DataW.trod enc Tryz.prog W 0 (λ_=>true) true n 3 (([v0,v1,v2,v3,v4,v5,v6,v7].drop 4).take (Tryz.prog.cellsOf 3))=some y4:=hfs 4 _ rfl
 have g5:DataW.trod enc Tryz.prog W 0 (λ_=>true) true n 3 (([v0,v1,v2,v3,v4,v5,v6,v7].drop 5).take (Tryz.prog.cellsOf 3))=some y5:=hfs 5 _ rfl
 have g6:DataW.trod enc Tryz.prog W 0 (λ_=>true) true n 22 (([v0,v1,v2,v3,v4,v5,v6,v7].drop 6).take (Tryz.prog.cellsOf 22))=some y6:=hfs 6 _ rfl
 have g7:DataW.trod enc Tryz.prog W 0 (λ_=>true) true n 3 (([v0,v1,v2,v3,v4,v5,v6,v7].drop 7).take (Tryz.prog.cellsOf 3))=some y7:=hfs 7 _ rfl
 rw[mp] at g0
 rw[lM] at g1
 rw[lM] at g2
 rw[lM] at g3
 rw[lM] at g4
 rw[lM] at g5
 rw[YZ] at g6
 rw[lM] at g7
 simp only[aj,ap,ak,aq] at g0 g1 g2 g3 g4 g5 g6 g7
 obtain⟨n0,rfl,i0⟩:=nD Tryz.underlying60 g0 rfl
 obtain⟨n1,rfl,i1⟩:=nD aP g1 rfl
 obtain⟨n2,rfl,i2⟩:=nD aP g2 rfl
 obtain⟨n3,rfl,i3⟩:=nD aP g3 rfl
 obtain⟨n4,rfl,i4⟩:=nD aP g4 rfl
 obtain⟨n5,rfl,i5⟩:=nD aP g5 rfl
 obtain⟨n7,rfl,i7⟩:=nD aP g7 rfl
 obtain⟨a,len,cap,zs,rfl,hI,hc⟩:=DX (y:=y6) g6 (λq hq=>hb q (by rw[hy];simp[DataW.weights,DataW.weightsEach,bT,hq]))
 exact⟨⟨⟨n0,n1,n2,n3,n4,n5,zs,n7⟩,a,len,cap⟩,rfl,hI,hc,i0,i1,i2,i3,i4,i5,i7⟩
theorem BH{e:TypeId}:∀{l:List (DataW H)} {d:DataW H},d∈l->∀q∈d.weights Tryz.prog e,q∈DataW.weightsAll Tryz.prog e l
 |x :: l,d,hd,q,hq=>by
  rw[DataW.weightsAll,bh];rcases aH.1 hd with rfl|hd
  .exact Or.inl hq
  .exact Or.inr (BH hd q hq)
theorem l7{fuel:Nat}{v:Value}{y:DataW H×List MemPlace}(hf:DataW.trod enc Tryz.prog W 0 (λ_=>true) true fuel 25 [v]=some y)(hb:∀n∈y.1.weights Tryz.prog 25,n<=reachBytes):
  ∃a len cap rs,v=.slice a len cap/\vP W a len rs/\len<=cap:=by
 rcases Go.Deep.open_slice dx hf with ⟨hcs,_⟩|⟨x,l,c,m,n,D,Pl,hcs,_,hl,hm,hmm,hx,hall⟩
 .simp at hcs;exact⟨none,0,0,[],hcs,⟨mO.nil _ _ _,λr hr=>by cases hr⟩,by omega⟩
 .simp at hcs;have hmm':m=c:=by simpa using hmm
  subst hmm';rw[OQ] at hall;have hbd:=hb ((l+(m-l))*80) (by rw[hx];simp[DataW.weights,dx,kd]);have hel:∀i,i<l->∃r:fW,qF W r/\∀j,j<8->W.cell? ((x.add (i*8)).add j)=(rK r)[j]?:=λi hi=>by
   obtain⟨cs',hc',ht'⟩:=hall i (by omega);obtain⟨_,_,hat⟩:=World.cells?_some hc'
   obtain⟨r,rfl,hok⟩:=oc ht' (λq hq=>hb q (by
    rw[hx];simp only[DataW.weights,dx,aH,bh]
    exact Or.inr (Or.inl (BH (bi.2 ⟨i,be.2 hi,rfl⟩) q hq))))
   exact⟨r,hok,hat⟩
  obtain⟨rs,hrl,hrs⟩:=UT l _ hel;have hsp:0<l->x.spot=none:=λh0=>by
   obtain⟨r,_,hat⟩:=hel 0 h0;have h1:=hat 0 (by omega);have h2:(rK r)[0]? =some (.int .i64 r.d.op):=rfl;rw[h2] at h1;have:=World.cell?_spot h1;simpa[Addr.add] using this
  refine⟨some x,l,m,rs,hcs,⟨⟨hrl,?_,λk r hr=>?_⟩,λr hr=>?_⟩,hl⟩
  .simp only[reachBytes] at hbd;omega
  .have hk:k<l:=by rw[<-hrl];exact(aI.1 hr).1
   have hs:=hsp (by omega);obtain⟨b,o,sp⟩:=x;simp only at hs;subst hs;refine⟨b,o,rfl,λj hj=>?_⟩;have:=(hrs k r hr).2 j hj
   rwa [mT,mT] at this
  .obtain⟨k,hk,e⟩:=a8.1 hr;exact(hrs k r (by rw[au hk,e])).1
theorem ei{r:Go.Reach}{b0:Nat}{v:Value}{d:DataW H}{p:List MemPlace}(hv:Value.okWide Tryz.prog W r b0 31 v)(h:DataW.Trod enc Tryz.prog W 0 (λ_=>true) true 31 v d p)(hb:∀n∈d.weights Tryz.prog 31,n<=reachBytes):
  ∃s sa ns cs,v=KC s sa ns cs/\RN W s sa ns cs:=by
 obtain⟨arr,rfl,hsz⟩:=okWide_struct bS hv
 rw[TP] at hsz
 obtain⟨fuel,hf⟩:=h
 obtain⟨l⟩:=arr
 have hf':DataW.trod enc Tryz.prog W 0 (λ_=>true) true fuel 31 l=some (d,p):=hf
 obtain⟨v0,v1,v2,v3,v4,rfl⟩:=pz (show l.length=5 from hsz)
 obtain⟨ys,n,-,hy,-,hyl,hfs⟩:=ef bS hf'
 obtain⟨y0,y1,rfl⟩:=kp (show ys.length=2 from hyl)
 have g0:DataW.trod enc Tryz.prog W 0 (λ_=>true) true n 25 (([v0,v1,v2,v3,v4].drop 0).take (Tryz.prog.cellsOf 25))=some y0:=hfs 0 _ rfl
 have g1:DataW.trod enc Tryz.prog W 0 (λ_=>true) true n 29 (([v0,v1,v2,v3,v4].drop 1).take (Tryz.prog.cellsOf 29))=some y1:=hfs 1 _ rfl
 rw[ZA] at g0
 rw[YX] at g1
 simp only[aj,ap,ak,aq] at g0 g1
 simp only[Prod.mk.injEq] at hy
 obtain⟨sa,ns,cs,rs,rfl,hI,hc⟩:=l7 g0 (λq hq=>hb q (by rw[hy.1];simp[DataW.weights,DataW.weightsEach,bS,hq]))
 obtain⟨zs,n',-,hz,-,hzl,hgs⟩:=ef Tryz.underlying29 g1
 obtain⟨z0,z1,z2,rfl⟩:=o9 (show zs.length=3 from hzl)
 have k0:DataW.trod enc Tryz.prog W 0 (λ_=>true) true n' 26 (([v1,v2,v3,v4].drop 0).take (Tryz.prog.cellsOf 26))=some z0:=hgs 0 _ rfl
 have k1:DataW.trod enc Tryz.prog W 0 (λ_=>true) true n' 3 (([v1,v2,v3,v4].drop 1).take (Tryz.prog.cellsOf 3))=some z1:=hgs 1 _ rfl
 have k2:DataW.trod enc Tryz.prog W 0 (λ_=>true) true n' 27 (([v1,v2,v3,v4].drop 2).take (Tryz.prog.cellsOf 27))=some z2:=hgs 2 _ rfl
 rw[YY] at k0
 rw[lM] at k1
 rw[mn] at k2
 simp only[aj,ap,ak,aq] at k0 k1 k2
 obtain⟨us,n'',-,hu,-,hul,hus⟩:=DataW.trod_array dH k2
 obtain⟨u0,u1,rfl⟩:=kp hul
 have t0:DataW.trod enc Tryz.prog W 0 (λ_=>true) true n'' 3 (([v3,v4].drop (0*Tryz.prog.cellsOf 3)).take (Tryz.prog.cellsOf 3))=some u0:=hus 0 (by omega)
 have t1:DataW.trod enc Tryz.prog W 0 (λ_=>true) true n'' 3 (([v3,v4].drop (1*Tryz.prog.cellsOf 3)).take (Tryz.prog.cellsOf 3))=some u1:=hus 1 (by omega)
 rw[lM] at t0 t1
 simp only[bx,Nat.one_mul,aj,ap,ak,aq] at t0 t1
 obtain⟨m1,rfl,i1⟩:=nD Tryz.underlying26 k0 rfl
 obtain⟨m2,rfl,i2⟩:=nD aP k1 rfl
 obtain⟨m3,rfl,i3⟩:=nD aP t0 rfl
 obtain⟨m4,rfl,i4⟩:=nD aP t1 rfl
 exact⟨⟨rs,m1,m2,m3,m4⟩,sa,ns,cs,rfl,hI,hc,i1,i2,i3,i4⟩
theorem ZC:Tryz.prog.bytesOf 44=24:=by kernel_rfl
theorem jk{fuel:Nat}{cs:List Value}{y:DataW H×List MemPlace}(hf':DataW.trod enc Tryz.prog W 0 (λ_=>true) true fuel 44 cs=some y):∃x:Fct,cs=csF x:=by
 obtain⟨ys,n,-,hy,hlen,hyl,hfs⟩:=ef cS hf'
 rw[JS] at hlen
 obtain⟨v0,v1,v2,rfl⟩:=o9 hlen
 obtain⟨y0,y1,rfl⟩:=kp (show ys.length=2 from hyl)
 have g0:DataW.trod enc Tryz.prog W 0 (λ_=>true) true n 3 (([v0,v1,v2].drop 0).take (Tryz.prog.cellsOf 3))=some y0:=hfs 0 _ rfl
 have g1:DataW.trod enc Tryz.prog W 0 (λ_=>true) true n 42 (([v0,v1,v2].drop 1).take (Tryz.prog.cellsOf 42))=some y1:=hfs 1 _ rfl
 rw[lM] at g0
 rw[j6] at g1
 simp only[aj,ap,ak,aq] at g0 g1
 obtain⟨zs,n',-,hz,-,hzl,hgs⟩:=ef Tryz.underlying42 g1
 obtain⟨z0,z1,rfl⟩:=kp (show zs.length=2 from hzl)
 have k0:DataW.trod enc Tryz.prog W 0 (λ_=>true) true n' 4 (([v1,v2].drop 0).take (Tryz.prog.cellsOf 4))=some z0:=hgs 0 _ rfl
 have k1:DataW.trod enc Tryz.prog W 0 (λ_=>true) true n' 3 (([v1,v2].drop 1).take (Tryz.prog.cellsOf 3))=some z1:=hgs 1 _ rfl
 rw[ZB] at k0
 rw[lM] at k1
 simp only[aj,ap,ak,aq] at k0 k1
 obtain⟨b,e,_⟩:=DataW.trod_bool ce k0
 simp only[dr,and_true] at e
 subst e
 obtain⟨m0,rfl,i0⟩:=nD aP g0 rfl
 obtain⟨m1,rfl,i1⟩:=nD aP k1 rfl
 exact⟨(m0,b,m1),rfl⟩
theorem jj{fuel:Nat}{v:Value}{y:DataW H×List MemPlace}(hf:DataW.trod enc Tryz.prog W 0 (λ_=>true) true fuel 32 [v]=some y)(hb:∀n∈y.1.weights Tryz.prog 32,n<=reachBytes):
  ∃a len cap rs,v=.slice a len cap/\qS W a len rs/\len<=cap:=by
 rcases Go.Deep.open_slice cP hf with ⟨hcs,_⟩|⟨x,l,c,m,n,D,Pl,hcs,_,hl,hm,hmm,hx,hall⟩
 .simp at hcs;exact⟨none,0,0,[],hcs,mO.nil _ _ _,aw _⟩
 .simp at hcs;have hmm':m=c:=by simpa using hmm
  subst hmm';rw[JS] at hall;have hbd:=hb ((l+(m-l))*24) (by rw[hx];simp[DataW.weights,cP,ZC]);have hel:∀i,i<l->∃r:Fct,∀j,j<3->W.cell? ((x.add (i*3)).add j)=(csF r)[j]?:=λi hi=>by
   obtain⟨cs',hc',ht'⟩:=hall i (by omega);obtain⟨_,_,hat⟩:=World.cells?_some hc';obtain⟨r,rfl⟩:=jk ht';exact⟨r,hat⟩
  obtain⟨rs,hrl,hrs⟩:=UT l _ hel;have hsp:0<l->x.spot=none:=λh0=>by
   obtain⟨r,hat⟩:=hel 0 h0;have h1:=hat 0 (by omega);have h2:(csF r)[0]? =some (.int .i64 r.1):=rfl;rw[h2] at h1;have:=World.cell?_spot h1;simpa[Addr.add] using this
  refine⟨some x,l,m,rs,hcs,⟨hrl,?_,λk r hr=>?_⟩,by omega⟩
  .simp only[reachBytes] at hbd;omega
  .have hk:k<l:=by rw[<-hrl];exact(aI.1 hr).1
   have hs:=hsp (by omega);obtain⟨b,o,sp⟩:=x;simp only at hs;subst hs;refine⟨b,o,rfl,λj hj=>?_⟩;have:=hrs k r hr j hj
   rwa [mT,mT] at this
theorem lx{r:Go.Reach}{b0:Nat}{v:Value}{d:DataW H}{p:List MemPlace}(hv:Value.okWide Tryz.prog W r b0 24 v)(h:DataW.Trod enc Tryz.prog W 0 (λ_=>true) true 24 v d p)(hb:∀n∈d.weights Tryz.prog 24,n<=reachBytes):
  ∃m a1 n1 c1 a2 n2 c2,v=nG m a1 n1 c1 a2 n2 c2/\VK W m a1 n1 c1 a2 n2 c2:=by
 obtain⟨u0,u1,u2,u3,y0,y1,y2,y3,k,rfl,rfl,rfl,t0,t1,t2,t3⟩:=Go.Joins.open_agg4 cT (by kernel_rfl) (by kernel_rfl) hv h
 obtain⟨a1,n1,c1,xs,rfl,I1,h1⟩:=DX t1 (λq hq=>hb q (by simp[DataW.weights,DataW.weightsEach,cT,hq]))
 obtain⟨a2,n2,c2,ys,rfl,I2,h2⟩:=DX t3 (λq hq=>hb q (by simp[DataW.weights,DataW.weightsEach,cT,hq]))
 obtain⟨m0,rfl,i0⟩:=nD aP t0 rfl
 obtain⟨m2,rfl,i2⟩:=nD aP t2 rfl
 exact⟨⟨m0,xs,m2,ys⟩,a1,n1,c1,a2,n2,c2,rfl,I1,I2,h1,h2,i0,i2⟩
end
end
end Go.Proofs.YtchdkjenhppleaaGreat
