/-
 law19's example:the function and its tiles.
-/
import Derived.Test.YtbknbcmppdglhaaGreatDoorA0
import Derived.Test.YtbknbcmppdglhaaGreatDoorSC
import Derived.Test.YtbknbcmppdglhaaGreatDoorUF
import Derived.Test.YtbknbcmppdglhaaGreatDoorWD
namespace Go.Proofs.YtbknbcmppdglhaaGreatDoor
set_option linter.unusedSimpArgs false
set_option linter.unusedVariables false
set_option linter.unusedSectionVars false
set_option maxRecDepth 100000
set_option maxHeartbeats 40000000
section
open Go.RowKit Go.Shelf
attribute [local go_sem] Oper.semAt_some iF gH gS fX
theorem CR{W:World}{g:Nat}{xs:List Int}{n:Nat}(h:W.heap[g]? =some (.cells (fP xs).toArray 3 (0,0)))(hn:xs.length=n)(hx:∀x∈xs,I64 x)(hl:n<=1000):iJ W (some ⟨g,0,none⟩) n xs:=by
 subst hn
 refine⟨rfl,by omega,λk hk=>⟨g,0,rfl,?_,hx _ ?_⟩⟩
 .rw[aZ _ _ _ _ _ _ h,bQ];simp[fP,ak,hk]
 .rw[ak,ah hk];exact bJ _
theorem se(l:List Int)(h:∀x∈l,-1000<=x/\x<=1000:=by decide):∀x∈l,I64 x:=λx hx=>by have:=h x hx;unfold I64;omega
def rH(g:Nat):List iN:= [⟨⟨1,-1,[0,2]⟩,some ⟨g,0,none⟩,2,2⟩,⟨⟨2,0,[1]⟩,some ⟨g+1,0,none⟩,1,1⟩]
theorem yl{W:World}{b:Nat}(h0:W.heap[b]? =some (.cells #[.int .i64 0,.int .i64 2] 3 (0,0)))(h1:W.heap[b+1]? =some (.cells #[.int .i64 1] 3 (0,0)))
  (h2:W.heap[b+1+1]? =some (.cells #[.int .i64 1,.int .i64 (-1),.slice (some ⟨b,0,none⟩) 2 2,.int .i64 2,.int .i64 0,.slice (some ⟨b+1,0,none⟩) 1 1] 65 (0,0))):iY W (some ⟨b+1+1,0,none⟩) 2 (rH b):=by
 refine⟨⟨rfl,by omega,λk x hx=>⟨b+1+1,0,rfl,λj hj=>?_⟩⟩,λt ht=>?_⟩
 .rw[aZ _ _ _ _ _ _ h2]
  match k,hx,j,hj with
  |0,hx,0,_|0,hx,1,_|0,hx,2,_=>injection hx with hx;subst hx;rfl
  |1,hx,0,_|1,hx,1,_|1,hx,2,_=>injection hx with hx;subst hx;rfl
  |k+2,hx,_,_=>simp[rH] at hx
  |_,_,j+3,hj=>omega
 .simp only[rH,aS,bO,cX] at ht;rcases ht with rfl|rfl
  .exact⟨CR (xs:= [0,2]) h0 rfl (se [0,2]) (by simp),by simp,by show I64 1;unfold I64;omega,by show I64 (-1);unfold I64;omega⟩
  .exact⟨CR (xs:= [1]) h1 rfl (se [1]) (by simp),by simp,by show I64 2;unfold I64;omega,by show I64 0;unfold I64;omega⟩
theorem MQ(d n:Int)(w:World):Calls Tryz.prog 79 #[.int .i64 d,.int .i64 n] w λe w'=>e=.returned (MW ⟨1,d,0,0,n,0,[],0⟩ none 0 0)/\Below w.heap.size w w':=by
 go_enter Tryz.func79,Tryz.ntmps79
 go_wp2
 refine aR (v:=MW ⟨1,d,0,0,n,0,[],0⟩ none 0 0) (by simp[results,Tryz.results79,go_sem]) rfl ?_
 exact⟨rfl,fD _ _⟩
theorem r8(d a b:Int)(w:World):Calls Tryz.prog 81 #[.int .i64 d,.int .i64 a,.int .i64 b] w λe w'=>e=.returned (MW ⟨2,d,a,b,0,0,[],0⟩ none 0 0)/\Below w.heap.size w w':=by
 go_enter Tryz.func81,Tryz.ntmps81
 go_wp2
 refine aR (v:=MW ⟨2,d,a,b,0,0,[],0⟩ none 0 0) (by simp[results,Tryz.results81,go_sem]) rfl ?_
 exact⟨rfl,fD _ _⟩
theorem ii(t:Int)(w:World):Calls Tryz.prog 78 #[.int .i64 t] w λe w'=>e=.returned (tF ⟨1,0,t,0⟩)/\Below w.heap.size w w':=by
 go_enter Tryz.func78,Tryz.ntmps78
 go_wp2
 refine aR (v:=tF ⟨1,0,t,0⟩) (by simp[results,Tryz.results78,go_sem]) rfl ?_
 exact⟨rfl,fD _ _⟩
theorem TF(a t o:Int)(w:World):Calls Tryz.prog 80 #[.int .i64 a,.int .i64 t,.int .i64 o] w λe w'=>e=.returned (tF ⟨2,a,t,o⟩)/\Below w.heap.size w w':=by
 go_enter Tryz.func80,Tryz.ntmps80
 go_wp2
 refine aR (v:=tF ⟨2,a,t,o⟩) (by simp[results,Tryz.results80,go_sem]) rfl ?_
 exact⟨rfl,fD _ _⟩
theorem jz(a:Int)(w:World):Calls Tryz.prog 82 #[.int .i64 a] w λe w'=>e=.returned (tF ⟨3,a,0,0⟩)/\Below w.heap.size w w':=by
 go_enter Tryz.func82,Tryz.ntmps82
 go_wp2
 refine aR (v:=tF ⟨3,a,0,0⟩) (by simp[results,Tryz.results82,go_sem]) rfl ?_
 exact⟨rfl,fD _ _⟩
theorem zV(t:fS)(a:Option Addr)(n c:Nat)(w:World):Calls Tryz.prog 77 #[tF t,.slice a n c] w λe w'=>e=.returned (IE ⟨a,n,c,t⟩)/\Below w.heap.size w w':=by
 go_enter Tryz.func77,Tryz.ntmps77
 go_wp2
 refine aR (v:=IE ⟨a,n,c,t⟩) (by simp[results,Tryz.results77,go_sem]) rfl ?_
 exact⟨rfl,fC (fD _ _) (fD _ _)⟩
def mu:lP:=⟨⟨1,1,0,0,5,0,[],0⟩,none,0,0⟩
def mr:lP:=⟨⟨2,2,1,1,0,0,[],0⟩,none,0,0⟩
def CG(g1 g2:Nat):List iA:= [⟨⟨some ⟨g1,0,none⟩,1,1,⟨1,0,1,0⟩⟩,[mu]⟩,⟨⟨some ⟨g2,0,none⟩,1,1,⟨2,2,1,2⟩⟩,[mr]⟩,⟨⟨none,0,0,⟨3,1,0,0⟩⟩,[]⟩]
theorem VQ{W:World}{g:Nat}{r:lP}(h:W.heap[g]? =some (.cells (MX r).toArray 161 (0,0)))(hr:rD W r):tC W (some ⟨g,0,none⟩) 1 [r]:=by
 refine⟨⟨rfl,by omega,λk x hx=>⟨g,0,rfl,λj hj=>?_⟩⟩,λx hx=>?_⟩
 .obtain rfl:k=0:=by have:=(aE.1 hx).1;simpa using this
  simp only[dF,aW] at hx;subst hx;rw[aZ _ _ _ _ _ _ h];simp
 .rw[bz] at hx;subst hx;exact hr
theorem C8(W:World):rD W mu/\rD W mr:=by
 refine⟨⟨⟨rfl,by decide,λk hk=>absurd hk (by simp[mu])⟩,by decide,?_⟩,⟨⟨rfl,by decide,λk hk=>absurd hk (by simp[mr])⟩,by decide,?_⟩⟩<;>simp only[mu,mr,I64]<;>omega
theorem Aj{W:World}{g1 g2 g3:Nat}(h1:W.heap[g1]? =some (.cells (MX mu).toArray 161 (0,0)))(h2:W.heap[g2]? =some (.cells (MX mr).toArray 161 (0,0)))
  (h3:W.heap[g3]? =some (.cells ((CG g1 g2).flatMap UB).toArray 121 (0,0))):lY W (some ⟨g3,0,none⟩) 3 (CG g1 g2):=by
 obtain⟨e1,e2⟩:=C8 W
 refine⟨⟨rfl,by omega,λk x hx=>⟨g3,0,rfl,λj hj=>?_⟩⟩,λb hb=>?_⟩
 .rw[aZ _ _ _ _ _ _ h3]
  match k,hx,j,hj with
  |0,hx,0,_|0,hx,1,_|0,hx,2,_|0,hx,3,_|0,hx,4,_=>injection hx with hx;subst hx;rfl
  |1,hx,0,_|1,hx,1,_|1,hx,2,_|1,hx,3,_|1,hx,4,_=>injection hx with hx;subst hx;rfl
  |2,hx,0,_|2,hx,1,_|2,hx,2,_|2,hx,3,_|2,hx,4,_=>injection hx with hx;subst hx;rfl
  |k+3,hx,_,_=>simp[CG] at hx
  |_,_,j+5,hj=>omega
 .simp only[CG,aS,bO,cX] at hb;rcases hb with rfl|rfl|rfl
  .exact⟨by simp only[pU,I64];omega,VQ h1 e1⟩
  .exact⟨by simp only[pU,I64];omega,VQ h2 e2⟩
  .exact⟨by simp only[pU,I64];omega,⟨rfl,by simp,λk x hx=>by cases hx⟩,λr hr=>by cases hr⟩
theorem gy(w:World):Calls Tryz.prog 28 #[] w λe w'=>∃g1 g2 ba bc ta tc g5,e=.returned (.tuple #[mB none 0 0 ba 3 bc,.slice ta 2 tc])/\lY w' ba 3 (CG g1 g2)/\iY w' ta 2 (rH g5)/\Below w.heap.size w w':=by
 go_enter Tryz.func28,Tryz.ntmps28
 obtain⟨w0,hw0⟩:∃w0,w0=w.alloc (.cells #[.slice none 0 0,.slice none 0 0] 25):=⟨_,rfl⟩
 have hb0:Below w.heap.size w w0:=by rw[hw0];exact fD _ _
 have hr0:w0.heap[w.heap.size]? =some (gX none 0 0 none 0 0):=by rw[hw0];exact ae _ _
 have HB0:=ac hb0
 have HR0:=ac hr0
 have HW0:=ac hw0
 clear hb0 hr0 hw0
 go_upto_region 2 with (first
  |(go_at_call 77
    refine(zV ⟨3,1,0,0⟩ none 0 0 w7).mono ?_;rintro e w8 ⟨rfl,hb8⟩;have HB8:=ac (fC HB7.out hb8);have HR38:=ac (fB hb8 HR37.out);have HR68:=ac (fB hb8 HR67.out)
    clear hb8)
  |(go_at_call 82
    refine(jz 1 w6).mono ?_;rintro e w7 ⟨rfl,hb7⟩;have HB7:=ac (fC HB6.out hb7);have HR37:=ac (fB hb7 HR36.out);have HR67:=ac (fB hb7 HR6.out)
    clear hb7)
  |(go_at_call 77
    refine(zV ⟨2,2,1,2⟩ (some ⟨w5.heap.size,0,none⟩) 1 1 _).mono ?_;rintro e w6 ⟨rfl,hb6⟩;have hx6:=fC (fD _ _) hb6;have HR6:Hid (w6.heap[w5.heap.size]? =some (.cells (MX mr).toArray 161 (0,0))):=fB hb6 (ae _ _);have HB6:=ac (fC HB5.out hx6);have HR36:=ac (fB hx6 HR35.out)
    clear hb6 hx6)
  |(go_at_call 81
    refine(r8 2 1 1 w4).mono ?_;rintro e w5 ⟨rfl,hb5⟩;have HB5:=ac (fC HB4.out hb5);have hg2:w0.heap.size<=w5.heap.size:=HB5.out.size;have HR35:=ac (fB hb5 HR34.out)
    clear hb5)
  |(go_at_call 80
    refine(TF 2 1 2 w3).mono ?_;rintro e w4 ⟨rfl,hb4⟩;have HB4:=ac (fC HB3.out hb4);have HR34:=ac (fB hb4 HR3.out)
    clear hb4)
  |(go_at_call 77
    refine(zV ⟨1,0,1,0⟩ (some ⟨w2.heap.size,0,none⟩) 1 1 _).mono ?_;rintro e w3 ⟨rfl,hb3⟩;have hx3:=fC (fD _ _) hb3;have HR3:Hid (w3.heap[w2.heap.size]? =some (.cells (MX mu).toArray 161 (0,0))):=fB hb3 (ae _ _);have HB3:=ac (fC HB2.out hx3)
    clear hb3 hx3)
  |(go_at_call 79
    refine(MQ 1 5 w1).mono ?_;rintro e w2 ⟨rfl,hb2⟩;have HB2:=ac (fC HB1.out hb2);have hg1:w0.heap.size<=w2.heap.size:=HB2.out.size
    clear hb2)
  |(go_at_call 78
    rw[<-HW0.out];refine(ii 1 w0).mono ?_;rintro e w1 ⟨rfl,hb1⟩;have HB1:Hid (Below w0.heap.size w0 w1):=hb1
    clear hb1))
 clear HR3 HR34 HR35 HR36 HR37 HR6 HR67 HB1 HB2 HB3 HB4 HB5 HB6 HB7
 generalize w2.heap.size=g1 at*
 generalize w5.heap.size=g2 at*
 obtain⟨w9,hw9⟩:∃w9,w9=w8.alloc (.cells ((CG g1 g2).flatMap UB).toArray 121):=⟨_,rfl⟩
 obtain⟨w10,hw10⟩:∃w10,w10=w9.alloc (gX none 0 0 (some ⟨w8.heap.size,0,none⟩) 3 3):=⟨_,rfl⟩
 have hs9:w9.heap.size=w8.heap.size+1:=by rw[hw9];simp
 have hx9:Below w8.heap.size w8 w10:=by rw[hw10,hw9];exact fC (fD _ _) (fD _ _)
 have hr9:w10.heap[w8.heap.size]? =some (.cells ((CG g1 g2).flatMap UB).toArray 121 (0,0)):=by rw[hw10,hw9];exact fB (fD _ _) (ae _ _)
 have hr10:w10.heap[w8.heap.size+1]? =some (gX none 0 0 (some ⟨w8.heap.size,0,none⟩) 3 3):=by rw[<-hs9,hw10];exact ae _ _
 have HB10:=ac (fC HB8.out hx9)
 have HG1:=ac (fB hx9 HR38.out)
 have HG2:=ac (fB hx9 HR68.out)
 have HG3:=ac hr9
 have hg3:w0.heap.size<=w8.heap.size:=HB8.out.size
 have HR10:=ac hr10
 have e10:w10=(w8.alloc (.cells #[.slice (some ⟨g1,0,none⟩) 1 1,.int .i64 1,.int .i64 0,.int .i64 1,.int .i64 0,.slice (some ⟨g2,0,none⟩) 1 1,.int .i64 2,.int .i64 2,.int .i64 1,.int .i64 2,.slice none 0 0,.int .i64 3,.int .i64 1,.int .i64 0,.int .i64 0] 121)).alloc (gX none 0 0 (some ⟨w8.heap.size,0,none⟩) 3 3):=by rw[hw10,hw9];rfl
 rw[<-e10]
 clear e10 hw9 hw10 hs9 hx9 hr9 hr10 HB8 HR38 HR68
 generalize w8.heap.size=g3 at*
 have HRW:Hid (w10.heap[w.heap.size]? =some (gX none 0 0 none 0 0)):=fB HB10.out HR0.out
 have hlt:=fE HRW.out
 have hs0:w0.heap.size=w.heap.size+1:=by rw[HW0.out];simp
 obtain⟨W4,hW4⟩:∃W4,W4=((w10.alloc (.cells #[.int .i64 0,.int .i64 2] 3)).alloc (.cells #[.int .i64 1] 3)).alloc (.cells #[.int .i64 1,.int .i64 (-1),.slice (some ⟨w10.heap.size,0,none⟩) 2 2,.int .i64 2,.int .i64 0,.slice (some ⟨w10.heap.size+1,0,none⟩) 1 1] 65):=⟨_,rfl⟩
 have hx4:Below w10.heap.size w10 W4:=by rw[hW4];exact fC (fC (fD _ _) (fD _ _)) (fD _ _)
 have t0:W4.heap[w10.heap.size]? =some (.cells #[.int .i64 0,.int .i64 2] 3 (0,0)):=by rw[hW4];exact fB (fC (fD _ _) (fD _ _)) (ae _ _)
 have t1:W4.heap[w10.heap.size+1]? =some (.cells #[.int .i64 1] 3 (0,0)):=by rw[hW4];exact fB (fD _ _) (iT _ _ _ (by simp))
 have t2:W4.heap[w10.heap.size+1+1]? =some (.cells #[.int .i64 1,.int .i64 (-1),.slice (some ⟨w10.heap.size,0,none⟩) 2 2,.int .i64 2,.int .i64 0,.slice (some ⟨w10.heap.size+1,0,none⟩) 1 1] 65 (0,0)):=by rw[hW4];exact iT _ _ _ (by simp)
 have HR4:=ac (fB hx4 HRW.out)
 obtain⟨W5,hW5⟩:∃W5,W5=(W4.setCell ⟨w.heap.size,0,none⟩ (.slice none 0 0)).setCell ⟨w.heap.size,1,none⟩ (.slice (some ⟨g3,0,none⟩) 3 3):=⟨_,rfl⟩
 have hk:∀q,q≠w.heap.size->W5.heap[q]? =W4.heap[q]?:=λq hq=>by rw[hW5,aU _ _ _ _ (by simpa using hq),aU _ _ _ _ (by simpa using hq)]
 have hR5:W5.heap[w.heap.size]? =some (gX none 0 0 (some ⟨g3,0,none⟩) 3 3):=by rw[hW5,aC _ _ _ _ _ _ (aC _ _ _ _ _ _ HR4.out)];rfl
 have HBL5:Hid (lY W5 (some ⟨g3,0,none⟩) 3 (CG g1 g2)):=Aj ((hk _ (by omega)).trans (fB hx4 HG1.out)) ((hk _ (by omega)).trans (fB hx4 HG2.out)) ((hk _ (by omega)).trans (fB hx4 HG3.out))
 have HTI:Hid (iY W5 (some ⟨w10.heap.size+1+1,0,none⟩) 2 (rH w10.heap.size)):=yl ((hk _ (by omega)).trans t0) ((hk _ (by omega)).trans t1) ((hk _ (by omega)).trans t2)
 have HB5:Hid (Below w.heap.size w W5):=by rw[hW5];exact((fC HB0.out (fC HB10.out hx4)).setCell (by simp) _).setCell (by simp) _
 have HW4:=ac hW4
 have HW5:=ac hW5
 have HR5:=ac hR5
 obtain⟨c0,c1⟩:=TP HR4.out rfl
 obtain⟨f0,f1⟩:=Bq HR4.out
 have hl4:=fE HR4.out
 clear hW4 hW5 hR5 hx4 t0 t1 t2 hk hlt hs0 hg1 hg2 hg3
 go_wp2_with (first
  |(refine ay (o:=⟨some 15,.load 25 _,_,_,_,_⟩) rfl 25 _ rfl (g3+1) rfl 25 _ (0,0) _ HR10.out aJ rfl gE ?_)
  |((with_reducible show wpList _ _ _ (⟨none,.store 25 _ _,_,_,_,_⟩ :: _) _ _);rw[<-HW4.out]))
 rw[<-HW5.out]
 obtain⟨d0,d1⟩:=TP HR5.out rfl
 refine aR (v:=.tuple #[mB none 0 0 (some ⟨g3,0,none⟩) 3 3,.slice (some ⟨w10.heap.size+1+1,0,none⟩) 2 2]) (by simp[results,Tryz.results28,asAddr,d0,d1,go_sem]) rfl ?_
 exact⟨_,_,_,_,_,_,_,rfl,HBL5.out,HTI.out,HB5.out⟩
end

section
open Go.RowKit
def Apt(vs:List Value):Prop:=vs.Pairwise Dh
theorem Apt.app{xs ys:List Value}(M:Nat)(h1:Apt xs)(h2:Apt ys)(hx:∀v∈xs,∀q,v.ownBlock=some q->q<M)(hy:∀v∈ys,∀q,v.ownBlock=some q->M<=q):Apt (xs++ys):=
 dP.2 ⟨h1,h2,λa ha b hb g e1 e2=>by have:=hx a ha g e1;have:=hy b hb g e2;omega⟩
theorem UN{s:tW}{v:Value}(h:v∈qH s):∃j,j<7/\v=s.v j:=by
 simp only[qH,aS,bO,cX] at h
 rcases h with rfl|rfl|rfl|rfl|rfl|rfl|rfl
 .exact⟨0,by omega,rfl⟩
 .exact⟨1,by omega,rfl⟩
 .exact⟨2,by omega,rfl⟩
 .exact⟨3,by omega,rfl⟩
 .exact⟨4,by omega,rfl⟩
 .exact⟨5,by omega,rfl⟩
 .exact⟨6,by omega,rfl⟩
theorem nu(s:tW){j:Nat}(hj:j<7)(d:Value):(qH s).getD j d=s.v j:=by
 have hcase:j=0\/j=1\/j=2\/j=3\/j=4\/j=5\/j=6:=by omega
 rcases hcase with rfl|rfl|rfl|rfl|rfl|rfl|rfl<;>rfl
theorem mq{s:tW}(h:∀i j,i<7->j<7->i≠j->∀q,(s.v i).ownBlock=some q->(s.v j).ownBlock≠some q):Apt (qH s):=by
 refine cH.2 λi j hi hj hlt=>?_
 rw[yS] at hi hj
 have e:∀(k:Nat) (hk:k<(qH s).length),(qH s)[k]=s.v k:=λk hk=>by
  have:=nu s (by rwa [yS] at hk) (.bool true)
  rwa [ak,ah hk] at this
 rw[e,e]
 exact h i j hi hj (by omega)
theorem Apt.sub{ls:List tW}(h:Apt (ls.flatMap qH)){s:tW}(hs:s∈ls):Apt (qH s):=by
 obtain⟨a,b,rfl⟩:=List.append_of_mem hs
 rw[cw,dq] at h
 exact(dP.1 (dP.1 h).2.1).1
theorem Cf{W:World}{B:Nat}{ls:List tW}(h:∀s∈ls,∀j,j<7->gD W B (s.v j) (s.d.rows.getD j [])):∀x∈ls.flatMap qH,∀q,x.ownBlock=some q->B<=q/\q<W.heap.size:=λx hx q e=>by
 obtain⟨s,hs,hm⟩:=b5.1 hx
 obtain⟨j,hj,rfl⟩:=UN hm
 exact(h s hs j hj).1.lt q e
theorem mG.low{W:World}{B:Nat}{v:Value}{ls:List tW}(h:mG W B v ls):∀x∈ls.flatMap qH,∀q,x.ownBlock=some q->B<=q/\q<W.heap.size:=Cf h.2
end

section
open Go.RowKit Go.Shelf
attribute [local go_sem] Oper.semAt_some iF gH gS fX
def Ba(ps:List Int)(bs:List iA)(ls:List iN)(w:World)(e:Ending)(w':World):Prop:=
 ∃v,e=.returned (.tuple #[v,.int .i64 (uM ps bs (fI ls))])/\Cn w' w.heap.size v (TQ ps bs (fI ls))/\Below w.heap.size w w'
def yy(ps:List Int)(bs:List iA)(ls:List iN)(w:World)(e:Ending)(w':World):Prop:=
 ∃v rs,e=.returned (.tuple #[v,.int .i64 (uM ps bs (fI ls))])/\rs.map (·.d)=TQ ps bs (fI ls)/\mG w' w.heap.size v rs/\Apt (rs.flatMap qH)/\Below w.heap.size w w'
theorem Ag:(Tryz.prog.info? 39).map (λi=>(i.zero,i.size,i.bytes))=some (some (.agg #[iG,iG,iG,iG,iG,iG,iG]),7,168):=by kernel_rfl
theorem wQ(pa:Option Addr)(pn pc:Nat)(ps:List Int)(ba:Option Addr)(bn bc:Nat)(bs:List iA)(ta:Option Addr)(tn tc:Nat)(ls:List iN)(w:World)(hp:iJ w pa pn ps)(h:lY w ba bn bs)(ht:iY w ta tn ls)(hL:qY (fI ls)<=1000000)(hT:Tab w):
  Calls Tryz.prog 9 #[mB pa pn pc ba bn bc,.slice ta tn tc] w (yy ps bs ls w):=by
 have HPI:=ac hp
 have HB:=ac h
 have HTL:=ac ht
 have HTOT:=ac hL
 have HTB:=ac hT
 have HLb:=ac h.1.1
 have HLt:=ac ht.1.1
 clear hp h ht hL hT
 go_enter Tryz.func9,Tryz.ntmps9
 go_upto_region 1 with (fail)
 obtain⟨w0,hw0⟩:∃w0,w0=w.alloc (gX pa pn pc ba bn bc):=⟨_,rfl⟩
 rw[<-hw0]
 have HB0:Hid (Below w.heap.size w w0):=by rw[hw0];exact fD _ _
 have HF0:Hid (w0.heap[w.heap.size]? =some (gX pa pn pc ba bn bc)):=by rw[hw0];exact ae _ _
 clear hw0
 by_cases hR:mF ps bs=0
 rotate_left
 .have HR:=ac hR;have HSE:Hid (uM ps bs (fI ls)=2):=by rw[Hid,uM,aM hR]
  clear hR
  go_wp2_with (first
   |(refine ay (o:=⟨some 10,.load 25 _,_,_,_,_⟩) rfl 25 _ rfl w.heap.size rfl 25 _ (0,0) _ HF0.out aJ rfl gE ?_)
   |(go_at_call 22
     refine(CC pa pn pc ps ba bn bc bs w0 (HPI.out.ext HB0.out) (HB.out.ext HB0.out) (HTB.out.ext HB0.out)).mono ?_;rintro e w1 ⟨hc,hb1⟩;rcases hc with ⟨_,rfl⟩|⟨h0,_⟩
     rotate_left
     .exact absurd h0 HR.out
     have HB1:=ac (fC HB0.out hb1)
     clear hb1))
  refine aR (v:=.tuple #[iG,.int .i64 2]) (by simp[results,Tryz.results9,go_sem]) rfl ?_;exact⟨_,[],by rw[HSE.out],by rw[TQ,az (by rw[HSE.out];omega)];rfl,mG.nil _ _,List.Pairwise.nil,fC HB1.out (fD _ _)⟩
 .have HR:=ac hR;obtain⟨hlong,hwh,hti⟩:=vD hR;have hbnd:0<bn/\bn<=200:=by
   rw[rC,HLb.out] at hlong;simp only[cV,cg] at hlong;omega
  have HPV:=ac (gc (bs:=bs) hwh);have HNA:=ac (CX HB.out hwh);clear hR hlong hwh hti;have HBX:Hid (∀{W:World},Below w.heap.size w W->lZ W ba bn (hOf bs)):=λhb=>(HB.out.ext hb).x.1
  go_upto_region 4 with (first
   |(refine ay (o:=⟨some 10,.load 25 _,_,_,_,_⟩) rfl 25 _ rfl w.heap.size rfl 25 _ (0,0) _ HF0.out aJ rfl gE ?_)
   |(go_at_call 22
     refine(CC pa pn pc ps ba bn bc bs w0 (HPI.out.ext HB0.out) (HB.out.ext HB0.out) (HTB.out.ext HB0.out)).mono ?_;rintro e w1 ⟨hc,hb1⟩;rcases hc with ⟨h0,_⟩|⟨_,lh,rfl,hlv⟩
     .exact absurd HR.out h0
     rw[HLb.out] at hlv|-;have HLV:=ac hlv;have HB1:=ac (fC HB0.out hb1);have HF1:=ac (fB hb1 HF0.out)
     clear hb1 hlv))
  obtain⟨w2,hw2⟩:∃w2,w2=w1.alloc (.cells #[.slice lh.ia bn lh.ic,.slice lh.oa bn lh.oc,.slice lh.ta bn lh.tc] 58):=⟨_,rfl⟩
  rw[<-hw2];have hx2:Below w1.heap.size w1 w2:=by rw[hw2];exact fD _ _
  have HL2:Hid (w2.heap[w1.heap.size]? =some (.cells #[.slice lh.ia bn lh.ic,.slice lh.oa bn lh.oc,.slice lh.ta bn lh.tc] 58 (0,0))):=by rw[hw2];exact ae _ _
  have HB2:=ac (fC HB1.out hx2);have HF2:=ac (fB hx2 HF1.out);have HLV2:=ac (HLV.out.ext hx2);clear hw2 hx2 HLV HF1 HB1 HF0 HB0;generalize w1.heap.size=P6 at *;cases hrt:gY (fY (hOf bs)) (fI ls) with
  |false=>
   have HSE:Hid (uM ps bs (fI ls)=12):=by rw[Hid,uM,az (by rw[HR.out];simp),aM hrt]
   have HRT:=ac hrt;clear hrt
   go_wp2_with (first
    |(refine ay (o:=⟨some 16,.load 25 _,_,_,_,_⟩) rfl 25 _ rfl w.heap.size rfl 25 _ (0,0) _ HF2.out aJ rfl gE ?_)
    |(go_at_call 25
      refine(sA pa pn pc ba bn bc (hOf bs) ta tn tc ls w2 (HBX.out HB2.out) (HTL.out.ext HB2.out) HTOT.out).mono ?_;rw[HRT.out];rintro e w3 ⟨rfl,hb3⟩;have HB3:=ac (fC HB2.out hb3)
      clear hb3))
   refine aR (v:=.tuple #[iG,.int .i64 12]) (by simp[results,Tryz.results9,go_sem]) rfl ?_;exact⟨_,[],by rw[HSE.out],by rw[TQ,az (by rw[HSE.out];omega)];rfl,mG.nil _ _,List.Pairwise.nil,HB3.out⟩
  |true=>
   have HSE:Hid (uM ps bs (fI ls)=0):=by rw[Hid,uM,az (by rw[HR.out];simp),az (by rw[hrt];simp)]
   have HRT:=ac hrt;clear hrt
   go_upto_region 7 with (first
    |(refine ay (o:=⟨some 16,.load 25 _,_,_,_,_⟩) rfl 25 _ rfl w.heap.size rfl 25 _ (0,0) _ HF2.out aJ rfl gE ?_)
    |(go_at_call 25
      refine(sA pa pn pc ba bn bc (hOf bs) ta tn tc ls w2 (HBX.out HB2.out) (HTL.out.ext HB2.out) HTOT.out).mono ?_;rw[HRT.out];rintro e w3 ⟨rfl,hb3⟩;have HB3:=ac (fC HB2.out hb3);have HF3:=ac (fB hb3 HF2.out);have HL3:=ac (fB hb3 HL2.out);have HLV3:=ac (HLV2.out.ext hb3);obtain⟨k0,k1,k2⟩:=TO HL3.out rfl
      clear hb3)
    |(refine ay (o:=⟨some 21,.load 25 _,_,_,_,_⟩) rfl 25 _ rfl w.heap.size rfl 25 _ (0,0) _ HF3.out aJ rfl gE ?_))
   clear k0 k1 k2;obtain⟨hh,hhe⟩:∃hh:CI,hh=⟨lh,pa,pn,pc,ba,bn,bc,ta,tn,tc⟩:=⟨_,rfl⟩
   obtain⟨w4,hw4⟩:∃w4,w4=w3.alloc (PZ hh none none none none none none):=⟨_,rfl⟩
   have hw4':=hw4;rw[hhe] at hw4';rw[<-hw4'];have HC4:Hid (w4.heap[w3.heap.size]? =some (PZ hh none none none none none none)):=by rw[hw4];exact ae _ _
   have HB4:Hid (Below w3.heap.size w3 w4):=by rw[hw4];exact fD _ _
   have HHE:=ac hhe;clear hw4 hw4' hhe HL2 HF2 HLV2 HB2;have HTN:Hid (tn<=200):=by
    have:=t6 HRT.out;rw[Hid,<-HLt.out];simpa[fI] using this
   go_wp2
   go_loopw [4,27] (λv4 v27 wr=>∃(k:Nat) (f:Nat->Option Nat) (rs:List tW),v27=.int .i64 (k:Int)/\k<=tn/\Hid (wr.heap[w3.heap.size]? =some (PZ hh (f 0) (f 1) (f 2) (f 3) (f 4) (f 5)))/\Hid (mG wr w3.heap.size v4 rs)/\Hid (rs.map (·.d)=(List.range k).map (setM ps bs (fI ls)))/\Hid (Apt (rs.flatMap qH))/\Hid (Below w3.heap.size w3 wr)) (λ_ i _=>tn-(intOf i).toNat)
   case atStart=>exact⟨0,λ_=>none,[],rfl,by omega,HC4,mG.nil _ _,rfl,List.Pairwise.nil,HB4⟩
   case round=>
    obtain⟨k,f,rs,rfl,hk,HC,HSI,HRS,HAPT,HBr⟩:=hrel;obtain⟨av,cv,hav⟩:=iP.form HSI.out.1;subst hav;have HRL:Hid (rs.length=k):=by
     have:=bh List.length HRS.out;rw[Hid];simpa using this
    by_cases hlt:k<tn
    .have hlt':(k:Int)<(tn:Int):=by omega
     have hkl:k<ls.length:=by rw[HLt.out];exact hlt
     obtain⟨t,htk⟩:∃t,ls[k]? =some t:=⟨ls[k],ah hkl⟩
     have HTK:=ac htk;have HTBL:Hid (∀v∈t.d.blocks,0<=v/\v<bn):=by
      have h1:=zN HRT.out (k:=k) (t:=t.d) (by simp[fI,htk]);intro v hv;have h2:=h1 v hv;rw[show(fY (hOf bs)).length=bn by simp[fY,hOf,HLb.out]] at h2;exact h2
     clear htk hkl;have htn:tn<=200:=HTN.out;have hk200:k<=200:=by omega
     go_wp2_with (first
      |(go_at_call 33
        refine(nv hh ps bs ls f w3.heap.size k t w3 wr HBr.out (aj _) HC.out (by rw[HHE.out];exact HPI.out.ext HB3.out) HPV.out (by rw[HHE.out];exact HB.out.ext HB3.out) (by rw[HHE.out];exact HLV3.out) HNA.out (by rw[HHE.out];exact HTL.out.ext HB3.out) HTOT.out HRT.out HTK.out (by rw[HHE.out];exact HTBL.out)).mono ?_;rintro e w5 ⟨v,g,rfl,ho,hap,hC5,hch⟩;obtain⟨a0,c0,e0⟩:=(ho 0 (by omega)).form;obtain⟨a1,c1,e1⟩:=(ho 1 (by omega)).form;obtain⟨a2,c2,e2⟩:=(ho 2 (by omega)).form;obtain⟨a3,c3,e3⟩:=(ho 3 (by omega)).form;obtain⟨a4,c4,e4⟩:=(ho 4 (by omega)).form;obtain⟨a5,c5,e5⟩:=(ho 5 (by omega)).form;obtain⟨a6,c6,e6⟩:=(ho 6 (by omega)).form;simp only[e0,e1,e2,e3,e4,e5,e6];have HE6:Hid (qH ⟨v,setM ps bs (fI ls) k⟩= [.slice a0 ((setM ps bs (fI ls) k).rows.getD 0 []).length c0,.slice a1 ((setM ps bs (fI ls) k).rows.getD 1 []).length c1,.slice a2 ((setM ps bs (fI ls) k).rows.getD 2 []).length c2,.slice a3 ((setM ps bs (fI ls) k).rows.getD 3 []).length c3,.slice a4 ((setM ps bs (fI ls) k).rows.getD 4 []).length c4,.slice a5 ((setM ps bs (fI ls) k).rows.getD 5 []).length c5,.slice a6 ((setM ps bs (fI ls) k).rows.getD 6 []).length c6]):=(by simp only[Hid,qH,e0,e1,e2,e3,e4,e5,e6])
        have HA5:Hid (Apt ((rs++ [tW.mk v (setM ps bs (fI ls) k)]).flatMap qH)):=(by
         rw[Hid,cw,List.flatMap_singleton]
         exact HAPT.out.app wr.heap.size (mq hap) (λx hx q e=>(HSI.out.low x hx q e).2) λx hx q e=>(by obtain⟨j,hj,rfl⟩:=UN hx;exact((ho j hj).1.lt q e).1))
        have HO:=ac ho;have HC5:=ac hC5;have HCH:=ac hch
        have HSI5:Hid (mG w5 w3.heap.size (.slice av rs.length cv) rs):=HSI.out.chg hch (λq e hq=>by
         obtain⟨cs,f',h3⟩:=HSI.out.ty e;subst hq;rw[HC.out] at h3
         cases h3) (λq hq=>by subst hq;exact gW.of HC.out (by decide))
        have hsz:w3.heap.size<=w5.heap.size:=aT HBr.out.size hch.size;have hrl:rs.length<=200:=(by rw[HRL.out];have:=HTN.out;omega)
        clear ho hap hC5 hch e0 e1 e2 e3 e4 e5 e6)
      |(at_builtin
        refine jI rfl w5 (.tmp 30) (.tmp 34) 31 39 rfl w3.heap.size _ 7 168 Tryz.underlying31 Ag rfl (by omega) (.slice av rs.length cv) rs.length _ [.slice a0 ((setM ps bs (fI ls) k).rows.getD 0 []).length c0,.slice a1 ((setM ps bs (fI ls) k).rows.getD 1 []).length c1,.slice a2 ((setM ps bs (fI ls) k).rows.getD 2 []).length c2,.slice a3 ((setM ps bs (fI ls) k).rows.getD 3 []).length c3,.slice a4 ((setM ps bs (fI ls) k).rows.getD 4 []).length c4,.slice a5 ((setM ps bs (fI ls) k).rows.getD 5 []).length c5,.slice a6 ((setM ps bs (fI ls) k).rows.getD 6 []).length c6] rfl HSI5.out.1.1 w5.heap.size rfl rfl rfl (by simp[Value.oneCell']) (by simp only[maxLen];omega) (by omega) hsz ?_;intro ga capa w6 hown hgr hat;have HS6:Hid (mG w6 w3.heap.size (.slice (some ⟨ga,0,none⟩) (rs.length+1) capa) (rs++ [⟨v,setM ps bs (fI ls) k⟩])):=HSI5.out.push (by rw[HE6.out];exact hown) hgr (by omega) (λj hj=>(HO.out j hj).mono HBr.out.size)
        have HC6:Hid (w6.heap[w3.heap.size]? =some (PZ hh (g 0) (g 1) (g 2) (g 3) (g 4) (g 5))):=(hgr.block _ (fE HC5.out) (λe=>by
         obtain⟨cs,f',h3⟩:=HSI5.out.ty e.symm;rw[HC5.out] at h3
         cases h3)).trans HC5.out
        have HB6:Hid (Below w3.heap.size w3 w6):=(show Below w3.heap.size w3 w5 from ⟨HCH.out.os.trans HBr.out.os,HCH.out.tape.trans HBr.out.tape,HCH.out.output.trans HBr.out.output,hsz,λq hq=>(HCH.out.block q (bw hq HBr.out.size) (by omega)).trans (HBr.out.block q hq)⟩).grown hgr hsz (λq e=>(HSI5.out.1.1.lt q e).1)
        clear hown hgr hat))
     go_roundw
     case rel=>exact⟨k+1,g,_,by go_num,by omega,HC6,HS6,by rw[Hid,cU,HRS.out,cm,cU];rfl,HA5,HB6⟩
     case measure=>simp[intOf];omega
    .obtain rfl:k=tn:=by omega
     have hlt':¬(k:Int)<(k:Int):=by omega
     go_wp2;refine aR (v:=.tuple #[.slice av rs.length cv,.int .i64 0]) (by simp[results,Tryz.results9,go_sem]) rfl ?_;refine⟨_,rs,by rw[HSE.out],?_,HSI.out.mono HB3.out.size,HAPT.out,fC HB3.out HBr.out⟩;rw[TQ,aM HSE.out];rw[HRS.out,CJ];rw[show(fI ls).length=k by simp[fI,HLt.out]]
theorem ul(pa:Option Addr)(pn pc:Nat)(ps:List Int)(ba:Option Addr)(bn bc:Nat)(bs:List iA)(ta:Option Addr)(tn tc:Nat)(ls:List iN)(w:World)(hp:iJ w pa pn ps)(h:lY w ba bn bs)(ht:iY w ta tn ls)(hL:qY (fI ls)<=1000000)(hT:Tab w):
  Calls Tryz.prog 9 #[mB pa pn pc ba bn bc,.slice ta tn tc] w (Ba ps bs ls w):=
 (wQ pa pn pc ps ba bn bc bs ta tn tc ls w hp h ht hL hT).mono λ_ _ ⟨v,rs,h1,h2,h3,_,h4⟩=>⟨v,h1,⟨rs,h2,h3⟩,h4⟩
end
end Go.Proofs.YtbknbcmppdglhaaGreatDoor
