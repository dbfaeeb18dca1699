/-
 Flat:Events,Before.
-/
import Derived.Test.YtchdkjenhppleaaGreatA0
import Derived.Test.YtchdkjenhppleaaGreatKQ
import Derived.Test.YtchdkjenhppleaaGreatFX
import Derived.Test.YtchdkjenhppleaaGreatTQ
import Derived.Test.YtchdkjenhppleaaGreatFM
namespace Go.Proofs.YtchdkjenhppleaaGreat
set_option linter.unusedSimpArgs false
set_option linter.unusedVariables false
set_option linter.unusedSectionVars false
set_option maxRecDepth 100000
set_option maxHeartbeats 40000000
section
open Go.RowKit
theorem LZ{m:eY}{s t:mP}(h:qD m s t=true):GK s.ins t.ins:=by
 simp only[qD,az] at h
 by_cases e:(IC s).length=(BD t).length
 .exact e
 .have:=OK pO _ _ e;rw[this] at h;simp at h
end

section
theorem OJ{α:Type}(q:α->α->Bool):∀(l m:List α),tX q l m=true->∀p∈l.zip m,q p.1 p.2=true
 | [],[],_,p,hp=>by simp at hp
 | [],_ :: _,h,_,_=>by simp[tX] at h
 |_ :: _,[],h,_,_=>by simp[tX] at h
 |x :: l,y :: m,h,p,hp=>by
  simp only[tX,az] at h;rcases aH.1 hp with rfl|hp
  .exact h.1
  .exact OJ q l m h.2 p hp
theorem TI{a b:Int}:([a,b].filter λx=>x != 0).length<=2:=bY _ _
theorem mb(m:eY)(s t:mI)(hc:s.op≠14)(ha:nT s t=true)(hm:¬(m.args.length:Int)<t.many):(lA s).length<=(gN m t).length:=by
 unfold lA
 split
 .rename_i hi
  simp only[nT,aR] at ha;obtain⟨ho,_,_,hn⟩:=ha;unfold rL at hi;simp only at hi
  split at hi
  .cases hi
  .rename_i hs2
   simp only[bZ,cm,not_or,Bool.not_eq_false] at hs2;unfold gN;rw[<-ho];by_cases h13:s.op=13
   .have hh:hZ s.op=32:=by rw[h13];rfl
    rw[aX hh];simp only[iH,aX h13,UE,az,if_true] at hi;obtain⟨⟨⟨⟨h0,_⟩,_⟩,_⟩,_⟩:=hi;simp only[List.any_cons,List.any_nil,Bool.or_false,cm,dt,bne_eq_false_iff_eq] at h0;rw[h0.1,h0.2.1];simp;omega
   .have hs:(iH s.op).1.2.2.2.2=false\/(iH s.op).2=false:=by
     unfold iH;rw[aC h13]
     repeat' split
     all_goals simp
    rcases hs with hs|hs
    .rw[hs] at hi;simp only[dS,if_false] at hi
     split at hi
     .cases hi
     .simp only[az,de] at hi;obtain⟨⟨⟨⟨_,hargs⟩,_⟩,hfa⟩,hfb⟩:=hi;have hargs:=bB hargs;rw[hargs,dR];by_cases h1:s.op=1
      .have e1:(iH s.op).1.2.1=false/\(iH s.op).1.2.2.1=false:=by rw[h1];exact⟨rfl,rfl⟩
       rw[e1.1] at hfa;rw[e1.2] at hfb;simp only[rT,dS,if_false,aR] at hfa hfb;rw[hfa,hfb];simp
      .by_cases h11:s.op=11
       .have e1:(iH s.op).1.2.2.1=false:=by rw[h11];rfl
        rw[e1] at hfb;simp only[rT,dS,if_false,aR] at hfb;have hw:(if hZ s.op=32 then (m.args.take (max (min t.many m.args.length) 0).toNat).map (λx=>(false,x)) else if eG (hZ s.op) 4 then [(false,t.a),(false,t.b)] else if eG (hZ s.op) 2 then [(false,t.a)] else if eG (hZ s.op) 16 then [(true,t.imm)] else [])= [(false,t.a)]:=by rw[h11];rfl
        rw[hw,hfb];by_cases h0:s.a=0<;>simp[h0]
       .have hs3:(iH s.op).2=true:=hs2.1;have hh:hZ s.op=7\/hZ s.op=14:=by
         by_cases h12:s.op=12
         .right;rw[h12];rfl
         .left;have h2:2<=s.op/\s.op<=10:=by
           simpa[iH,h13,h1,h12,h11,hc] using hs3
          unfold hZ;rw[aC h1,aX h2]
        have hw:(if hZ s.op=32 then (m.args.take (max (min t.many m.args.length) 0).toNat).map (λx=>(false,x)) else if eG (hZ s.op) 4 then [(false,t.a),(false,t.b)] else if eG (hZ s.op) 2 then [(false,t.a)] else if eG (hZ s.op) 16 then [(true,t.imm)] else [])= [(false,t.a),(false,t.b)]:=by
         rcases hh with hh|hh<;>rw[hh]<;>rfl
        rw[hw];exact TI
    .rw[hs] at hs2;exact absurd hs2.1 (by simp)
 .simp
theorem BX{m:eY}{s t:mP}(h:qD m s t=true):KG m s.ins t.ins:=by
 refine⟨LZ h,λp hp=>?_⟩
 simp only[qD,az,cm] at h
 obtain⟨⟨⟨⟨⟨_,hq⟩,hmany⟩,_⟩,_⟩,_⟩:=h
 have ha:=OJ _ _ _ hq p hp
 obtain⟨h1,h2⟩:=List.of_mem_zip (show(p.1,p.2)∈_ from hp)
 refine mb m p.1.d p.2.d ?_ ha ?_
 .have:=(bO.1 h1).2;simpa[lZ] using this
 .intro hlt;have:UF m.args.length (BD t)=true:=List.any_eq_true.2 ⟨p.2,h2,by simpa[DO] using hlt⟩;rw[this] at hmany;cases hmany
def FE(fe:Int):Prop:=fe=0\/fe=14\/fe=15
theorem FE.fail{fe e:Int}(h:FE fe)(he:e=14\/e=15):FE (rU fe e):=by
 unfold rU
 split
 .exact .inr he
 .exact h
theorem FE.need{fe e:Int}(h:FE fe)(he:e=14\/e=15)(K:Fct->Bool)(x:Fct):FE (oX K x fe e):=by
 unfold oX
 split
 .exact h
 .exact h.fail he
theorem FE.needs{e:Int}(he:e=14\/e=15)(K:Fct->Bool):∀(l:List Fct) {fe:Int},FE fe->FE (mM K l fe e)
 | [],_,h=>h
 |x :: l,_,h=>FE.needs he K l (h.need he K x)
theorem FE.skip(m:eY):∀(l:List fW) (x:KF),FE x.2->FE (pL m l x).2
 | [],_,h=>h
 |r :: l,x,h=>FE.skip m l (AZ m x r) (by
    show FE (atV _ _ _);unfold atV
    split
    .exact h
    .exact h.fail (.inl rfl))
theorem FE.go(m:eY):∀(sl tl:List fW) (x:KF),FE x.2->FE (kL m sl tl x).2
 | [],tl,x,h=>by rw[EH];exact FE.skip m _ _ h
 |i :: sl,tl,x,h=>by
  rw[kL]
  split
  .exact FE.go m sl tl _ h
  .cases hd:tl.dropWhile eQ with
   |nil=>exact FE.skip m _ _ h
   |cons u tl'=>exact FE.go m sl tl' _ (FE.needs (.inl rfl) _ _ (FE.skip m _ _ h))
theorem IH(m:eY)(s t:mP)(K:Fct->Bool):FE (kA m s t (K,0)).2:=by
 have h:=FE.go m s.ins t.ins (K,0) (.inl rfl)
 show FE (tQ _ _ _ _ _)
 unfold tQ
 split
 .exact h.need (.inl rfl) _ _
 .split
  .refine FE.needs (.inr rfl) _ _ ?_
   split
   .exact h
   .exact h.need (.inl rfl) _ _
  .exact h
end

section
open Go.RowKit
def MX(most:Int)(b:VR):Prop:=(b.n:Int)<=most/\∀r∈b.d.ins,(r.na:Int)<=most
def QV(bs:List VR)(most:Int)(w:World)(e:Ending)(w':World):Prop:=∃v:Int,e=.returned (.int .i64 v)/\0<=v/\v<=35184372088841/\(v<=most->∀b∈bs,MX most b)/\w=w'
theorem vY(a:Option Addr)(n c:Nat)(bs:List VR)(most:Int)(h0:0<=most)(h1:most<=1000)(w:World)(h:np w a n bs):
  Calls Tryz.prog 6 #[.slice a n c,.int .i64 most] w (QV bs most w):=by
 have H:=ac h
 have HL:=ac h.1.1
 have hn:=h.1.2.1
 clear h
 go_enter Tryz.func6,Tryz.ntmps6
 go_wp2
 go_loopg [5,6,7] n (λgg s5 s6 _ wr=>∃(i:Nat) (acc:Int),s6=.int .i64 i/\s5=.int .i64 acc/\i<=n/\n-i<=gg/\0<=acc/\acc<=35184372088841/\Hid (acc<=most->∀b∈bs.take i,MX most b)/\wr=w)
 case atStart=>exact⟨0,0,rfl,rfl,by omega,by omega,by omega,by omega,λ_ b hb=>by simp at hb,rfl⟩
 case round=>
  obtain⟨i,acc,rfl,rfl,hi,hgg,ha0,ha1,HR,rfl⟩:=hrel;by_cases hlt:i<n
  .by_cases hm:acc<=most
   .have hir:i<bs.length:=by rw[HL.out];exact hlt
    obtain⟨b,hb⟩:∃b,bs[i]? =some b:=⟨bs[i],au hir⟩
    obtain⟨B,o,rfl,hc⟩:=H.out.1.2.2 i b hb;have g0:=hc 0 (by omega);rw[bz] at g0;have hI:=H.out.2 b (aK hb);have HI:=ac hI;have hbn:=hI.1.2.1;have HB:=ac hb;have g0':wr.cell? ⟨B,o+i*5,none⟩=some (.slice b.ia b.n b.c):=g0;have hmr:=HR.out hm;have HMR:=ac hmr;clear hb hc hI g0 hmr;have hlt':(i:Int)<(n:Int):=by omega
    go_wp2;obtain⟨wo,rfl⟩:∃wo:World,wo=wr:=⟨_,rfl⟩
    have HT:Hid (∀acc2:Int,acc+1+b.n<=acc2->acc2<=most->(∀r∈b.d.ins,(r.na:Int)<=most)->∀x∈bs.take (i+1),MX most x):=λacc2 h1 h2 h3 x hx=>by
     rw[bo,HB.out,bh] at hx;rcases hx with hx|hx
     .exact HMR.out x hx
     .simp at hx;subst hx;exact⟨by omega,h3⟩
    go_loopg [5,7] b.n (λgg2 s5 s7 wi=>∃(k:Nat) (acc2:Int),s7=.int .i64 k/\s5=.int .i64 acc2/\k<=b.n/\b.n-k<=gg2/\acc+1+b.n<=acc2/\acc2<=35184372088841/\Hid (acc2<=most->∀r∈b.d.ins.take k,(r.na:Int)<=most)/\wi=wo)
    case atStart=>exact⟨0,acc+1+b.n,rfl,rfl,by omega,by omega,by omega,by omega,λ_ r hr=>by simp at hr,rfl⟩
    case round=>
     obtain⟨k,acc2,rfl,rfl,hk,hgg2,hb1,hb2,HRk,rfl⟩:=hrel;by_cases hk2:k<b.n
     .by_cases hm2:acc2<=most
      .obtain⟨r,bb,oo,hr,hok,hia,c0,c1,c2,c3,c4,c5,c6,c7⟩:=HI.out.cells hk2;have hna:=hok.1.2.1;rw[hia] at g0';have hkz:(k:Int)<(b.n:Int):=by omega
       have HRk2:Hid (acc2+r.na<=most->∀q∈b.d.ins.take (k+1),(q.na:Int)<=most):=λh q hq=>by
        rw[bo,hr,bh] at hq;rcases hq with hq|hq
        .exact HRk.out (by omega) q hq
        .simp at hq;subst hq;omega
       clear hr hok c0 c1 c2 c3 c4 c5 c7 hia;go_wp2
       go_roundg (b.n-(k+1))
       case measure=>omega
       case rel=>exact⟨k+1,acc2+r.na,by go_num,rfl,by omega,aw _,by omega,by omega,HRk2,rfl⟩
      .have hkz:(k:Int)<(b.n:Int):=by omega
       have hm3:most<acc2:=by omega
       go_wp2
       go_roundg (n-(i+1))
       case measure=>omega
       case rel=>exact⟨i+1,acc2,by go_num,rfl,by omega,aw _,by omega,by omega,λh=>absurd h (by omega),rfl⟩
     .have hkz:¬(k:Int)<(b.n:Int):=by omega
      have HRk3:Hid (acc2<=most->∀r∈b.d.ins,(r.na:Int)<=most):=λh=>by
       have:=HRk.out h
       rwa [bF (by rw[HI.out.1.1];omega)] at this
      go_wp2
      go_roundg (n-(i+1))
      case measure=>omega
      case rel=>exact⟨i+1,acc2,by go_num,rfl,by omega,aw _,by omega,by omega,λh=>HT.out acc2 hb1 h (HRk3.out h),rfl⟩
   .have hm3:most<acc:=by omega
    have hlt':(i:Int)<(n:Int):=by omega
    go_wp2
    go_ret
    exact⟨acc,rfl,ha0,ha1,λh=>absurd h (by omega),rfl⟩
  .obtain rfl:i=n:=by omega
   have HT:Hid (bs.take i=bs):=bF (by rw[HL.out];omega);go_wp2
   go_ret
   exact⟨acc,rfl,ha0,ha1,λh=>by have:=HR.out h;rw[HT.out] at this;exact this,rfl⟩
def uA(m:eY)(s t:mP)(ls:List Fct):lT:=⟨ls.map (·.1)++s.ins.map (λr=>r.d.dst),ls.map (·.2)++t.ins.flatMap (λr=>fU m r.d)⟩
def K0(ls:List Fct):Fct->Bool:=λx=>decide (x∈ls)
def QT(m:eY)(s t:mP)(ls:List Fct)(w:World)(e:Ending)(w':World):Prop:=∃v fe,e=.returned (.tuple #[v,.int .i64 fe])/\Below w.heap.size w w'/\
 ((qD m s t=false/\fe=13/\v=.slice none 0 0)\/(qD m s t=true/\rS ls=false/\fe=2/\v=.slice none 0 0)\/(qD m s t=true/\rS ls=true/\fe=(kA m s t (K0 ls,0)).2/\∃d,qA w' w.heap.size v (qT d)/\d.Nodup/\∀y,y∈d↔(kA m s t (K0 ls,0)).1 y=true))
theorem mS:(Tryz.prog.info? 31).map (·.size)=some 5:=by kernel_rfl
theorem BJ(m:eY)(a1 a2:Option Addr)(n1 c1 n2 c2:Nat)(s t:mP)(sa ta:Option Addr)(ns cs nt ct:Nat)(fa:Option Addr)(nf cf:Nat)(ls:List Fct)(w:World)(hm:lB w m a1 n1 c1 a2 n2 c2)(hs:oH w s sa ns cs)(ht:oH w t ta nt ct)
  (hna:∀r∈s.ins,r.na<=1000000) (hf:qS w fa nf ls) (hU:(uA m s t ls).ok):
  Calls Tryz.prog 8 #[nG m a1 n1 c1 a2 n2 c2,KC s sa ns cs,KC t ta nt ct,.slice fa nf cf] w (QT m s t ls w):=by
 have HM:=ac hm
 have HS:=ac hs
 have HT:=ac ht
 have HNA:=ac hna
 have HF:=ac hf
 have HU:=ac hU
 obtain⟨W,hW⟩:∃W,W=((w.alloc (iK m a1 n1 c1 a2 n2 c2)).alloc (pK s sa ns cs)).alloc (pK t ta nt ct):=⟨_,rfl⟩
 have hr0:W.heap[w.heap.size]? =some (iK m a1 n1 c1 a2 n2 c2):=by rw[hW];exact(RD w _ _ _).1
 have hr1:W.heap[w.heap.size+1]? =some (pK s sa ns cs):=by rw[hW];exact(RD w _ _ _).2.1
 have hr2:W.heap[w.heap.size+1+1]? =some (pK t ta nt ct):=by rw[hW];exact(RD w _ _ _).2.2
 have hB:Below w.heap.size w W:=by rw[hW];exact eA (eA (eC _ _) (eC _ _)) (eC _ _)
 have HW:=ac hW
 have HR0:=ac hr0
 have HR1:=ac hr1
 have HR2:=ac hr2
 have HB:=ac hB
 have HMW:=ac (hm.ext hB)
 have HSW:=ac (hs.ext hB)
 have HTW:=ac (ht.ext hB)
 have HFW:=ac (hf.ext fO hB)
 clear hm hs ht hna hf hU hr0 hr1 hr2 hB hW
 go_enter Tryz.func8,Tryz.ntmps8
 go_upto_region 1 with (fail)
 rw[<-HW.out]
 cases hd:qD m s t with
 |false=>
  go_wp2_with (first
   |((with_reducible show wpList _ _ _ (⟨some 12,_,_,_,_,_⟩ :: _) _ _);refine ay (o:=⟨some 12,.load 24 _,_,_,_,_⟩) rfl 24 _ rfl w.heap.size rfl 24 _ (0,0) _ HR0.out cT rfl pX ?_)
   |((with_reducible show wpList _ _ _ (⟨some 13,_,_,_,_,_⟩ :: _) _ _);refine ay (o:=⟨some 13,.load 31 _,_,_,_,_⟩) rfl 31 _ rfl (w.heap.size+1) rfl 31 _ (0,0) _ HR1.out bS rfl mS ?_)
   |((with_reducible show wpList _ _ _ (⟨some 14,_,_,_,_,_⟩ :: _) _ _);refine ay (o:=⟨some 14,.load 31 _,_,_,_,_⟩) rfl 31 _ rfl (w.heap.size+1+1) rfl 31 _ (0,0) _ HR2.out bS rfl mS ?_)
   |(go_at_call 12
     refine(yG m a1 a2 n1 c1 n2 c2 s t sa ta ns cs nt ct W HMW.out HSW.out HTW.out).mono ?_;rw[hd];rintro e w1 ⟨rfl,hb1⟩;have HB1:=ac hb1
     clear hb1))
  refine aD (v:=.tuple #[.slice none 0 0,.int .i64 13]) (by simp[results,Tryz.results8,go_sem]) rfl ?_;exact⟨_,_,rfl,eA HB.out HB1.out,.inl ⟨hd,rfl,rfl⟩⟩
 |true=>
  have HFIT:=ac (BX hd);cases ho:rS ls with
  |false=>
   go_wp2_with (first
    |((with_reducible show wpList _ _ _ (⟨some 12,_,_,_,_,_⟩ :: _) _ _);refine ay (o:=⟨some 12,.load 24 _,_,_,_,_⟩) rfl 24 _ rfl w.heap.size rfl 24 _ (0,0) _ HR0.out cT rfl pX ?_)
    |((with_reducible show wpList _ _ _ (⟨some 13,_,_,_,_,_⟩ :: _) _ _);refine ay (o:=⟨some 13,.load 31 _,_,_,_,_⟩) rfl 31 _ rfl (w.heap.size+1) rfl 31 _ (0,0) _ HR1.out bS rfl mS ?_)
    |((with_reducible show wpList _ _ _ (⟨some 14,_,_,_,_,_⟩ :: _) _ _);refine ay (o:=⟨some 14,.load 31 _,_,_,_,_⟩) rfl 31 _ rfl (w.heap.size+1+1) rfl 31 _ (0,0) _ HR2.out bS rfl mS ?_)
    |(go_at_call 12
      refine(yG m a1 a2 n1 c1 n2 c2 s t sa ta ns cs nt ct W HMW.out HSW.out HTW.out).mono ?_;rw[hd];rintro e w1 ⟨rfl,hb1⟩;have HB1:=ac hb1
      clear hb1)
    |(go_at_call 13
      refine(BO fa nf cf ls w1 (HFW.out.ext fO HB1.out)).mono ?_;rw[ho];rintro e w2 ⟨rfl,hb2⟩;have HB2:=ac hb2
      clear hb2))
   refine aD (v:=.tuple #[.slice none 0 0,.int .i64 2]) (by simp[results,Tryz.results8,go_sem]) rfl ?_;exact⟨_,_,rfl,eA (eA HB.out HB1.out) HB2.out,.inr (.inl ⟨hd,ho,rfl,rfl⟩)⟩
  |true=>
   go_upto_region 5 with (first
    |((with_reducible show wpList _ _ _ (⟨some 12,_,_,_,_,_⟩ :: _) _ _);refine ay (o:=⟨some 12,.load 24 _,_,_,_,_⟩) rfl 24 _ rfl w.heap.size rfl 24 _ (0,0) _ HR0.out cT rfl pX ?_)
    |((with_reducible show wpList _ _ _ (⟨some 13,_,_,_,_,_⟩ :: _) _ _);refine ay (o:=⟨some 13,.load 31 _,_,_,_,_⟩) rfl 31 _ rfl (w.heap.size+1) rfl 31 _ (0,0) _ HR1.out bS rfl mS ?_)
    |((with_reducible show wpList _ _ _ (⟨some 14,_,_,_,_,_⟩ :: _) _ _);refine ay (o:=⟨some 14,.load 31 _,_,_,_,_⟩) rfl 31 _ rfl (w.heap.size+1+1) rfl 31 _ (0,0) _ HR2.out bS rfl mS ?_)
    |(go_at_call 12
      refine(yG m a1 a2 n1 c1 n2 c2 s t sa ta ns cs nt ct W HMW.out HSW.out HTW.out).mono ?_;rw[hd];rintro e w1 ⟨rfl,hb1⟩;have HB1:=ac hb1
      clear hb1)
    |(go_at_call 13
      refine(BO fa nf cf ls w1 (HFW.out.ext fO HB1.out)).mono ?_;rw[ho];rintro e w2 ⟨rfl,hb2⟩;have HB2:=ac (eA HB1.out hb2)
      clear hb2))
   have HR02:=ac (eB HB2.out HR0.out);have HR12:=ac (eB HB2.out HR1.out);have HR22:=ac (eB HB2.out HR2.out);have HM2:=ac (HMW.out.ext HB2.out);have HS2:=ac (HSW.out.ext HB2.out);have HT2:=ac (HTW.out.ext HB2.out);have HF2:=ac (HFW.out.ext fO HB2.out);have HBB:=ac (eA HB.out HB2.out);clear HR0 HR1 HR2 HMW HSW HTW HFW HB1;have hne:Nonempty (eH w2):=⟨⟨w2,ao _ _⟩⟩
   have k0:∀w',(∃n:eH w2,w'=n.val)->w'.heap[w.heap.size]? =some (iK m a1 n1 c1 a2 n2 c2):=λw' ⟨n,e⟩=>by rw[e];exact eB n.ext HR02.out
   have k1:∀w',(∃n:eH w2,w'=n.val)->w'.heap[w.heap.size+1]? =some (pK s sa ns cs):=λw' ⟨n,e⟩=>by rw[e];exact eB n.ext HR12.out
   have k2:∀w',(∃n:eH w2,w'=n.val)->w'.heap[w.heap.size+1+1]? =some (pK t ta nt ct):=λw' ⟨n,e⟩=>by rw[e];exact eB n.ext HR22.out
   refine gJ (λw'=>∃n':eH w2,w'=n'.val) [(0,4,some (4,true)),(5,0,some (5,true)),(6,1,none)] (by kernel_rfl) (by kernel_rfl) ⟨⟨_,eS (ao _ _) 1⟩,rfl⟩ ?_;simp only[lR,ak,aq,aj,ap]
   repeat (first
    |(refine eP (o:=⟨some 21,.load 24 _,_,_,_,_⟩) (by rfl) 24 _ rfl w.heap.size rfl 24 _ (0,0) _ k0 cT rfl pX ?_;simp only[Act.put,ae,ah,ag])
    |(refine eP (o:=⟨some 22,.load 31 _,_,_,_,_⟩) (by rfl) 31 _ rfl (w.heap.size+1) rfl 31 _ (0,0) _ k1 bS rfl mS ?_;simp only[Act.put,ae,ah,ag])
    |(refine eP (o:=⟨some 23,.load 31 _,_,_,_,_⟩) (by rfl) 31 _ rfl (w.heap.size+1+1) rfl 31 _ (0,0) _ k2 bS rfl mS ?_;simp only[Act.put,ae,ah,ag])
    |go_big_quiet_step (fail))
   refine ar ?_;refine eE rfl rfl ?_;go_simp;refine(KW fa nf cf ls w2.drew (HF2.out.drewN 1)).mono ?_;rintro e w3 ⟨b0,L0,rfl,_,hS0,hm0,hb3⟩;have hb3:Below w2.heap.size w2 w3:=jV hb3;refine⟨⟨⟨w3,hb3⟩,rfl⟩,?_⟩
   have hKS:KS (uA m s t ls) b0 (K0 ls) w3:=⟨L0,hS0,λx=>by rw[hm0 x];simp[K0],λx hx=>by
    have hx:=(hm0 x).1 hx
    exact⟨List.mem_append_left _ (bi.2 ⟨x,hx,rfl⟩),List.mem_append_left _ (bi.2 ⟨x,hx,rfl⟩)⟩⟩
   have HK3:=ac hKS;have HB3:=ac hb3;clear hS0 hm0 hb3 hKS
   try simp only[Act.put,ae,ah,ag]
   repeat (go_big_quiet_step (fail))
   refine ar ?_;refine eE rfl rfl ?_;go_simp;refine(IG m a1 a2 n1 c1 n2 c2 (uA m s t ls) HU.out s t sa ta ns cs nt ct b0 (K0 ls) w3 (HM2.out.ext HB3.out) (HS2.out.ext HB3.out) (HT2.out.ext HB3.out) HNA.out HFIT.out (λr hr=>List.mem_append_right _ (bi.2 ⟨r,hr,rfl⟩)) (λr hr p hp=>List.mem_append_right _ (dj.2 ⟨r,hr,hp⟩)) HK3.out).mono ?_;rintro e w4 ⟨g,b,rfl,hws,hb4⟩;refine⟨⟨⟨w4,eA HB3.out hb4⟩,rfl⟩,?_⟩;have HB4:=ac (eA HB3.out hb4);obtain⟨y,hy⟩:∃y,y=kA m s t (K0 ls,0):=⟨_,rfl⟩
   rw[<-hy] at hws;have HY:=ac hy;have HWS:=ac hws;clear hws hb4 hy
   try simp only[Act.put,ae,ah,ag]
   repeat (go_big_quiet_step (fail))
   refine ar ?_;refine bQ ?_;clear k0 k1 k2 hne;go_upto_region 6 with (fail)
   obtain⟨c0,_,_,_,_,c5⟩:=HWS.out.cells;have hne:Nonempty (eH w4):=⟨⟨w4,ao _ _⟩⟩
   have g0:∀n:eH w4,n.val.cell? ⟨g,0,none⟩=some (.map (some b)):=λn=>eH.cell c0 n;have g5:∀n:eH w4,n.val.cell? ⟨g,5,none⟩=some (.int .i64 y.2):=λn=>eH.cell c5 n;clear c0 c5;obtain⟨L,hSL,hmL,hDL⟩:=HWS.out.2;have hlL:=KS.len HU.out hSL hDL;have HSL:=ac hSL;have HML:=ac hmL;clear hSL hmL hDL;refine gJ (λw'=>∃n':eH w4,w'=n'.val) [(0,4,none),(5,4,some (4,true)),(9,2,none)] (by kernel_rfl) (by kernel_rfl) ⟨⟨_,eS (ao _ _) 1⟩,rfl⟩ ?_;simp only[lR,ak,aq,aj,ap]
   repeat (go_big_quiet_step (fail))
   refine ar ?_
   repeat (go_big_quiet_step (fail))
   refine ar ?_;refine eE rfl rfl ?_;go_simp;refine(NR b L w4.drew (HSL.out.drewN 1) hlL).mono ?_;rintro e w5 ⟨v,d,rfl,ho5,hn5,hm5,hb5⟩;have hb5:Below w4.heap.size w4 w5:=jV hb5;refine⟨⟨⟨w5,hb5⟩,rfl⟩,?_⟩;have HO5:=ac (show qA w5 w4.heap.size v (qT d) from ho5);have HN5:=ac hn5;have HM5:=ac hm5;have HB5:=ac hb5;clear ho5 hn5 hm5 hb5
   try simp only[Act.put,ae,ah,ag]
   repeat (go_big_quiet_step (fail))
   refine ar ?_;refine bQ ?_;clear g0 g5 hne;go_wp2;have hB9:Below w.heap.size w w4:=eA HBB.out HB4.out;refine aD (v:=.tuple #[v,.int .i64 y.2]) (by simp[results,Tryz.results8,go_sem]) rfl ?_;rw[HY.out];exact⟨_,_,rfl,eA hB9 HB5.out,.inr (.inr ⟨hd,ho,rfl,d,HO5.out.mono hB9.size,HN5.out,λz=>by rw[HM5.out z,HML.out z,HY.out]⟩)⟩
end

section
open Go.RowKit
def eV(f:Nat->Bool):Array Value:=((List.range 200).map λj=>Value.bool (f j)).toArray
theorem fA(f:Nat->Bool):(eV f).size=200:=by simp[eV]
theorem nJ(f:Nat->Bool)(j:Nat)(h:j<200):(eV f)[j]? =some (.bool (f j)):=by simp[eV,h]
theorem gj(f:Nat->Bool)(j:Nat)(h:j<200)(b:Bool):(eV f).setIfInBounds j (.bool b)=eV (λk=>if k=j then b else f k):=by
 apply cH
 intro k
 by_cases hk:k<200
 .rw[Array.getElem?_setIfInBounds,nJ f k hk,nJ _ k hk];by_cases e:j=k
  .subst e;simp[fA,h]
  .rw[aC e,aC (λx=>e x.symm)]
 .rw[b6 (by simp[fA];omega),b6 (by simp[fA];omega)]
theorem lD(f:Nat->Bool):(eV f).all (·.oneCell')=true:=by
 rw[Array.all_eq_true_iff_forall_mem]
 intro v hv
 simp[eV] at hv
 obtain⟨j,_,rfl⟩:=hv
 rfl
end

section
open Go.RowKit
theorem PN(x:Int)(w:World):Calls Tryz.prog 156 (#[.int .i64 x]++ #[]) w λe w'=>e=.returned (.bool (x != 0))/\Below w.heap.size w w':=by
 show Calls Tryz.prog 156 #[.int .i64 x] w _
 go_enter Tryz.func156,Tryz.ntmps156
 go_wp2
 go_ret
 exact⟨rfl,ao _ _⟩
theorem zP(args:Array Value)(w:World):(callFunc 156 args).run Tryz.prog w=.ok (.enter 156 args) w:=by kernel_rfl
def mZ(xs:List Int):Bool:= !xs.any (λx=>x != 0)
theorem wX(a:Option Addr)(n c:Nat)(xs:List Int)(w:World)(h:fR w a n xs):
  Calls Tryz.prog 134 #[.slice a n c] w λe w'=>e=.returned (.bool (mZ xs))/\Below w.heap.size w w':=by
 have H:=ac h
 clear h
 go_enter Tryz.func134,Tryz.ntmps134
 go_wp2_with (go_at_call 119;refine(iJ _ #[] zP (λx=>x != 0) a n c xs w (λx W _ _=>PN x W) H.out).mono ?_;rintro e w' ⟨rfl,hb'⟩;have HB':=ac hb';clear hb')
 go_ret
 exact⟨rfl,HB'.out⟩
theorem kX(n:Int)(w:World):Calls Tryz.prog 106 #[.int .i64 n] w λe w'=>e=.returned (.bool (iG n))/\w=w':=by
 by_cases h1:1<=n
 .have d1:decide (1<=n)=true:=by simpa using h1
  have HE:Hid (iG n=decide (n<=200)):=by rw[Hid,iG,di];omega
  go_enter Tryz.func106,Tryz.ntmps106
  go_wp2
  go_ret
  exact⟨by rw[HE.out];rfl,rfl⟩
 .have d1:decide (1<=n)=false:=by simpa using h1
  have HE:Hid (iG n=false):=by rw[Hid,iG,bA];omega
  go_enter Tryz.func106,Tryz.ntmps106
  go_wp2
  go_ret
  exact⟨by rw[HE.out];rfl,rfl⟩
def oZ(b:Bool)(n:Int):Bool:=if b then iG n else decide (n=0)
theorem tF(b:Bool)(n:Int)(w:World):Calls Tryz.prog 135 #[.bool b,.int .i64 n] w λe w'=>e=.returned (.bool (oZ b n))/\w=w':=by
 cases b with
 |true=>
  go_enter Tryz.func135,Tryz.ntmps135
  go_wp2_with (go_at_call 106;refine(kX _ _).mono ?_;rintro e w' ⟨rfl,rfl⟩)
  go_ret
  exact⟨rfl,rfl⟩
 |false=>
  have HE:Hid (oZ false n=(n==0)):=by
   rw[Hid,oZ,aC (by simp)];by_cases h:n=0<;>simp[h]
  go_enter Tryz.func135,Tryz.ntmps135
  go_wp2
  go_ret
  exact⟨by rw[HE.out];rfl,rfl⟩
abbrev HH(t:fC):Value:=.agg #[.int .i64 t.kind,.int .i64 t.a,.int .i64 t.t0,.int .i64 t.t1]
abbrev ZN(t:fC):Obj:=.cells #[.int .i64 t.kind,.int .i64 t.a,.int .i64 t.t0,.int .i64 t.t1] 29
def rM(t:fC):Prop:=I64 t.kind/\I64 t.a/\I64 t.t0/\I64 t.t1
theorem yF{W:World}{g o:Nat}{cells:Array Value}{t:TypeId}(hg:W.heap[g]? =some (.cells cells t (0,0)))(xs:List Int)(hx:∀x∈xs,I64 x)(hn:xs.length<=1000)(hc:∀k,k<xs.length->cells[o+k]? =some (.int .i64 (xs.getD k 0))):fR W (some ⟨g,o,none⟩) xs.length xs:=
 ⟨rfl,by omega,λk hk=>⟨g,o,rfl,by rw[bd _ _ _ _ _ _ hg];exact hc k hk,hx _ (by rw[ax,au hk];exact dB _)⟩⟩
theorem fM(W:World)(o:Obj)(H:Nat)(hH:W.heap.size=H):(W.alloc o).heap[H]? =some o:=by subst hH;exact ai _ _
def kh(t:fC)(w:World)(e:Ending)(w':World):Prop:=e=.returned (.bool (jK t))/\Below w.heap.size w w'
theorem mF(t:fC)(w:World)(h:rM t):Calls Tryz.prog 107 #[HH t] w (kh t w):=by
 obtain⟨⟨h1,h2⟩,⟨h3,h4⟩,⟨h5,h6⟩,h7,h8⟩:=h
 obtain⟨k,a,x,y⟩:=t
 simp only at h1 h2 h3 h4 h5 h6 h7 h8
 have HX:=ac (show∀z∈[a,x,y],I64 z by simp[I64];omega)
 have box:∀(W:World),Below w.heap.size w W->∀W',Below W.heap.size W W'->Below w.heap.size w W':=λW h1 W' h2=>eA h1 h2
 have HBX:=ac box
 clear box
 by_cases k1:k=1
 .subst k1;have HE:Hid (jK ⟨1,a,x,y⟩=mZ [a,y]):=by
   rw[Hid,cp];simp[jK,mZ]
  go_enter Tryz.func107,Tryz.ntmps107
  go_wp2_with (go_at_call 134;refine(wX _ _ _ [a,y] _ (yF (fM _ _ _ (by simp)) [a,y] (λz hz=>HX.out z (by simp at hz|-;omega)) (by simp) (λk hk=>by match k,hk with|0,_=>rfl|1,_=>rfl))).mono ?_;rintro e w' ⟨rfl,hb'⟩;have HB':=ac hb';clear hb')
  go_ret
  exact⟨by rw[HE.out];rfl,HBX.out _ ((eD _ _).alloc (by simp) _) _ HB'.out⟩
 .by_cases k2:k=2
  .subst k2;have HE:Hid (jK ⟨2,a,x,y⟩=iG a):=by
    rw[Hid,cp];simp[jK]
   go_enter Tryz.func107,Tryz.ntmps107
   go_wp2_with (go_at_call 106;refine(kX _ _).mono ?_;rintro e w' ⟨rfl,rfl⟩)
   go_ret
   exact⟨by rw[HE.out];rfl,eD _ _⟩
  .by_cases k3:k=3
   .subst k3;by_cases hf:oZ (a != 0) a=true
    .have HE:Hid (jK ⟨3,a,x,y⟩=mZ [x,y]):=by
      rw[Hid,cp];unfold oZ at hf;by_cases ha:a=0
      .simp[jK,mZ,ha]
      .simp[ha] at hf;simp[jK,mZ,hf]
     have HF:=ac hf;clear hf
     go_enter Tryz.func107,Tryz.ntmps107
     go_wp2_with (first
      |(go_at_call 134;refine(wX _ _ _ [x,y] _ (yF (ai _ _) [x,y] (λz hz=>HX.out z (by simp at hz|-;omega)) (by simp) (λk hk=>by match k,hk with|0,_=>rfl|1,_=>rfl))).mono ?_;rintro e w' ⟨rfl,hb'⟩;have HB':=ac hb';clear hb')
      |(go_at_call 135;refine(tF _ _ _).mono ?_;rintro e w' ⟨rfl,rfl⟩;rw[HF.out]))
     go_ret
     exact⟨by rw[HE.out];rfl,HBX.out _ (eD _ _) _ HB'.out⟩
    .have HE:Hid (jK ⟨3,a,x,y⟩=false):=by
      rw[Hid,bU];unfold oZ at hf;by_cases ha:a=0
      .simp[ha] at hf
      .simp[ha] at hf;simp[jK,hf,ha]
     have hf':oZ (a != 0) a=false:=by simpa using hf
     have HF:=ac hf';clear hf hf'
     go_enter Tryz.func107,Tryz.ntmps107
     go_wp2_with (go_at_call 135;refine(tF _ _ _).mono ?_;rintro e w' ⟨rfl,rfl⟩;rw[HF.out])
     go_ret
     exact⟨by rw[HE.out];rfl,eD _ _⟩
   .have b1:(k==1)=false:=by simpa using k1
    have b2:(k==2)=false:=by simpa using k2
    have b3:(k==3)=false:=by simpa using k3
    by_cases k4:k=4
    .subst k4;have HE:Hid (jK ⟨4,a,x,y⟩=mZ [a,x,y]):=by
      rw[Hid,cp];simp[jK,mZ]
     clear b1 b2 b3 k1 k2 k3
     go_enter Tryz.func107,Tryz.ntmps107
     go_wp2_with (go_at_call 134;refine(wX _ _ _ [a,x,y] _ (yF (fM _ _ _ (by simp)) [a,x,y] (λz hz=>HX.out z hz) (by simp) (λk hk=>by match k,hk with|0,_=>rfl|1,_=>rfl|2,_=>rfl))).mono ?_;rintro e w' ⟨rfl,hb'⟩;have HB':=ac hb';clear hb')
     go_ret
     exact⟨by rw[HE.out];rfl,HBX.out _ ((eD _ _).alloc (by simp) _) _ HB'.out⟩
    .have HE:Hid (jK ⟨k,a,x,y⟩=false):=by
      rw[Hid,bU];simp[jK,k1,k2,k3,k4]
     have b4:(k==4)=false:=by simpa using k4
     clear k1 k2 k3 k4
     go_enter Tryz.func107,Tryz.ntmps107
     go_wp2
     go_ret
     exact⟨by rw[HE.out];rfl,eD _ _⟩
end
end Go.Proofs.YtchdkjenhppleaaGreat
