/-
 DERIVED:THE SHELF's CONTRACTS AT THIS DUMP,IN PLAIN WORDS (tools/lay-plain.mjs out of 'TryShelf.lean',which tools/lay-shelf.mjs wrote):THE SAME DECLARATIONS UNDER THE SAME NAMES:'import','namespace','open','def','theorem' AND NOTHING ELSE:no command of the shelf's:FOR A HAND-IN. Each laying:the table of numbers ('.._ren') and one theorem,a field a fact of the dump's own or the kernel's comparison;each contract:ONE APPLICATION.
-/
import Derived.Test.YtchdkjenhppleaaGreatA0
import Derived.Shelf.Small.Wraps
import Derived.Shelf.Sort.Plain
import Derived.Shelf.Bits.Mul64
import Derived.Shelf.Slices.Reverse
import Derived.Ground.Names2Prog
import Derived.Shelf.Slices.Clone
import Derived.Shelf.Slices.CompactI
import Derived.Shelf.Slices.In.SortNone
import Derived.Shelf.SlicesE.Reverse
import Derived.Test.YtchdkjenhppleaaGreatProg
import Derived.Test.YtchdkjenhppleaaGreatTE
import Derived.Test.YtchdkjenhppleaaGreatFM
import Derived.Deep.OwnRows
import Derived.Laws.CopyOwn
import Derived.Deep.LoopGhost
import Derived.Deep.DeepCutAuto
import Derived.Test.YtchdkjenhppleaaGreatTM
import Derived.Test.YtchdkjenhppleaaGreatTQ
import Derived.Test.YtchdkjenhppleaaGreatShelf
namespace Go.Proofs.YtchdkjenhppleaaGreat
set_option linter.unusedSimpArgs false
set_option linter.unusedVariables false
set_option linter.unusedSectionVars false
set_option maxRecDepth 100000
set_option maxHeartbeats 40000000
section
open Go.Shelf
def PS:Go.Shelf.Ren:=⟨λ|212=>177|263=>183|264=>184|n=>n,λ|46=>145|51=>219|146=>258|53=>221|148=>260|n=>n,λ|n=>n⟩
theorem ly:Go.Proofs.Lays.n212 Tryz.prog PS:={
 mixed:=by kernel_rfl
 f212:=Tryz.func177.trans (aL some (by kernel_rfl))
 f263:=Tryz.func183.trans (aL some (by kernel_rfl))
 f264:=Tryz.func184.trans (aL some (by kernel_rfl))
 t46:=Tryz.underlying145
 a46:=Tryz.isAgg145
 z46:=Tryz.sizeOf145
 v46:=Tryz.zeroValue145
 t51:=Tryz.underlying219
 a51:=Tryz.isAgg219
 z51:=Tryz.sizeOf219
 v51:=Tryz.zeroValue219
 t53:=Tryz.underlying221
 a53:=Tryz.isAgg221
 z53:=Tryz.sizeOf221
 v53:=Tryz.zeroValue221
 t146:=Tryz.underlying258
 a146:=Tryz.isAgg258
 z146:=Tryz.sizeOf258
 v146:=Tryz.zeroValue258
 t148:=Tryz.underlying260
 a148:=Tryz.isAgg260
 z148:=Tryz.sizeOf260
 v148:=Tryz.zeroValue260}
open Go.RowKit Go.Lib in
theorem bits_Mul(x y:Nat)(hx:x<18446744073709551616)(hy:y<18446744073709551616)(w:World):
  Calls Tryz.prog 177 #[.int .u64 x,.int .u64 y] w λe w'=>e=.returned (.tuple #[.int .u64 ((x*y/18446744073709551616:Nat):Int),.int .u64 ((x*y%18446744073709551616:Nat):Int)])/\w'=w:=Any.bits_Mul ly x y hx hy w
end

section
open Go.RowKit
theorem ie{P:Program}{o:Oper}{a:Act}{w:World}{K:Act->World->Prop}{Q:Exit->Act->World->Prop}(hgd:o.guard=none)(d s:Operand)(dT sT:TypeId)
  (ho:o.op=.call {callee:=.builtin .copy,args:=#[d,s],argTypes:=#[dT,sT]}) (elem:TypeId) (hu:P.underlying dT=some (.slice elem)) (hsz:(P.info? elem).map (·.size)=some 1)
  (dp sp:Option Addr) (dLen dCap sLen sCap:Nat) (hd:a.eval d=.slice dp dLen dCap) (hs:a.eval s=.slice sp sLen sCap)
  (g off:Nat) (cur:List Value) (t:TypeId) (hg:w.heap[g]? =some (.cells cur.toArray t (0,0))) (cs:List Value) (hn:cs.length=Nat.min sLen dLen)
  (hpos:0<cs.length->dp=some ⟨g,off,none⟩/\∃ad,sp=some ad/\∀j v,cs[j]? =some v->w.cell? (ad.add j)=some v)
  (hfit:off+cs.length<=cur.length) (h1:∀v∈cs,v.oneCell'=true) (B:Nat) (w0:World) (hb:Below B w0 w) (hBg:B<=g)
  (h:∀w',Hid (w'.heap[g]? =some (.cells (splice cur off cs).toArray t (0,0)))->Below B w0 w'->K (a.put o.dst (goInt cs.length)) w'):Oper.wp P o a w K Q:=by
 have:=step_copy_splice (P:=P) (ops:=#[]) (Q:=Q) (E:=True) hgd d s dT sT ho elem hu hsz dp sp dLen dCap sLen sCap hd hs g off cur t hg cs hn hpos hfit h1 B w0 hb hBg h
 rwa [aX (by simp[Region.wanted,hgd])] at this
def tV(x:Int)(n j:Nat):List Value:=List.replicate j (.int .i64 x)++List.replicate (n-j) (.int .i64 0)
theorem NC(x:Int)(n j:Nat)(h:j<=n):(tV x n j).length=n:=by simp[tV];omega
theorem BM(x:Int)(n j m:Nat)(h:j+m<=n):splice (tV x n j) j (List.replicate m (.int .i64 x))=tV x n (j+m):=by
 unfold splice tV
 rw[List.take_append_of_le_length (by simp),bF (by simp),List.drop_append,List.length_replicate,List.length_replicate,cO (by simp),bH,List.drop_replicate,<-ee]<;>try rw[List.replicate_append_replicate,show n-j-(j+m-j)=n-(j+m) by omega]
theorem lg(x:Int)(n j i:Nat)(hi:i<j):(tV x n j)[i]? =some (.int .i64 x):=by
 unfold tV
 rw[cy (by simpa using hi)]
 simp[hi]
theorem SA(n g:Nat)(x:Int)(hx:I64 x)(h1:1<=n)(h2:n<=1000000)(w:World)(hc:w.cell? ⟨g,0,none⟩=some (.int .i64 x)):
  Calls Tryz.prog 170 #[.slice (some ⟨g,0,none⟩) 1 1,.int .i64 (n:Int)] w (mG w (List.replicate n x)):=by
 have HC:=ac hc
 clear hc
 have e1:1*n/18446744073709551616=0:=Nat.div_eq_of_lt (by omega)
 have e2:1*n%18446744073709551616=n:=by rw[Nat.one_mul];exact Nat.mod_eq_of_lt (by omega)
 have E1:=ac e1
 have E2:=ac e2
 clear e1 e2
 have hmk:=run_make_row' (P:=Tryz.prog) 22 3 (.int .i64 0) 8 aQ tP rfl .i64 .i64 n (by omega) (by omega) w
 go_enter Tryz.func170,Tryz.ntmps170
 go_upto_region 7 with (first
  |(go_at_call 177
    refine(bits_Mul 1 n (by omega) (by omega) w).mono ?_;rintro e w' ⟨rfl,he⟩;obtain rfl:=he.symm
    rw[E1.out,E2.out]))
 obtain⟨W,hW⟩:∃W,W=w.alloc (.cells (madeCells #[.int .i64 0] n) 3):=⟨_,rfl⟩
 rw[<-hW]
 have hg0:W.heap[w.heap.size]? =some (.cells (tV x n 0).toArray 3 (0,0)):=by
  rw[hW,ai]
  congr 2
  apply cH;intro k;by_cases hk:k<n
  .simp[madeCells,tV,hk,Nat.mod_one]
  .rw[b6 (by simp[madeCells];omega),b6 (by simp[tV];omega)]
 have hB:Below w.heap.size w W:=by rw[hW];exact(ao _ w).alloc (aw _) _
 have HG0:=ac hg0
 have HB:=ac hB
 have hsz:(Tryz.prog.info? 3).map (·.size)=some 1:=by kernel_rfl
 have HSZ:=ac hsz
 have HCW:=ac (eN hB HC.out)
 clear hW hg0 hB hmk hsz
 go_wp2_with (
  (refine wpList_copy_splice (o:=⟨some 33,_,_,_,_,_⟩) rfl (.tmp 31) (.tmp 32) 22 22 rfl 3 aQ HSZ.out (some ⟨w.heap.size,0,none⟩) (some ⟨g,0,none⟩) n n 1 1 rfl rfl w.heap.size 0 (tV x n 0) 3 HG0.out (List.replicate 1 (.int .i64 x)) (by simp[Nat.min_def];omega) (λ_=>⟨rfl,_,rfl,λj v hj=>by
    have hj0:j=0:=by have:=(aI.1 hj).1;simpa using this
    subst hj0;have hv:v=.int .i64 x:=by simpa using hj.symm
    subst hv;rw[mT]
    exact HCW.out⟩) (by rw[NC _ _ _ (by omega)];simp;omega) (by intro v hv;have:=(List.mem_replicate.1 hv).2;subst this;rfl) w.heap.size w HB.out (aw _) ?_
   intro w2 hg2 hb2;have HG2:=hg2;have HB2:=ac hb2
   clear hg2 hb2))
 rw[BM _ _ _ _ (by omega),aW] at HG2
 clear HG0 HB HCW
 go_loopg [8] n (λgg s8 wr=>∃(j:Nat),s8=.int .i64 (j:Int)/\1<=j/\j<=n/\n<=gg+j/\Hid (wr.heap[w.heap.size]? =some (.cells (tV x n j).toArray 3 (0,0)))/\Hid (Below w.heap.size w wr))
 case atStart=>exact⟨1,rfl,aw _,h1,by omega,HG2,HB2⟩
 case round=>
  obtain⟨j,rfl,hj1,hj2,hgg,HG,HB⟩:=hrel;clear HG2 HB2;by_cases hlt:j<n
  .have hm1:1<=Nat.min j (n-j):=by simp[Nat.min_def];split<;>omega
   have hm2:j+Nat.min j (n-j)<=n:=by simp[Nat.min_def];split<;>omega
   have hm3:Nat.min j (n-j)<=j:=Nat.min_le_left _ _;have hlt':(j:Int)<(n:Int):=by omega
   have hj0:(0:Int)<=(j:Int):=by omega
   go_upto_region 9 with (fail)
   refine iZ (λw'=>∃q:fP (λq=>Below w.heap.size w q),w'=q.val) (by kernel_rfl) ?_;obtain⟨v0,F0,G0,hv0⟩:∃v0,Below w.heap.size w v0/\v0.heap[w.heap.size]? =some (.cells (tV x n j).toArray 3 (0,0))/\wr.drew=v0:=⟨_,uV HB.out 1,HG.out,rfl⟩
   rw[hv0];clear hv0
   haveI:Nonempty (fP (λq=>Below w.heap.size w q)):=KK (ao _ _)
   refine eK 0 7 (by kernel_rfl) ⟨⟨_,F0⟩,rfl⟩ ?_;simp only[ak,aq,aj,ap]
   repeat (go_big_quiet_step (fail))
   refine ar ?_;refine eO 7 (by kernel_rfl) ?_;refine eE rfl rfl ?_
   refine ie rfl (.tmp 41) (.tmp 44) 22 22 rfl 3 aQ HSZ.out (some ⟨w.heap.size,j,none⟩) (some ⟨w.heap.size,0,none⟩) (n-j) (n-j) j n rfl rfl w.heap.size j (tV x n j) 3 G0 (List.replicate (Nat.min j (n-j)) (.int .i64 x)) (by simp) (λ_=>⟨rfl,_,rfl,λi v hi=>by
    have hi0:i<Nat.min j (n-j):=by have:=(aI.1 hi).1;simpa using this
    have hv:v=.int .i64 x:=by rw[List.getElem?_replicate,aX hi0] at hi;injection hi with hi;exact hi.symm
    subst hv;rw[mT,bd _ _ _ _ _ _ G0,aW];have:=lg x n j i (by omega)
    simpa using this⟩) (by rw[NC _ _ _ hj2];simpa using hm2) (by intro v hv;have:=(List.mem_replicate.1 hv).2;subst this;rfl) w.heap.size w F0 (aw _) ?_
   intro w3 hg3 hb3;rw[List.length_replicate];rw[BM _ _ _ _ hm2] at hg3;generalize Nat.min j (n-j)=m at *;simp only[goInt];refine⟨Or.inr ⟨⟨_,hb3⟩,rfl⟩,?_⟩
   try simp only[Act.put,ae,ah,ag]
   refine eK 8 2 (by kernel_rfl) ⟨⟨_,hb3⟩,rfl⟩ ?_;simp only[ak,aq,aj,ap]
   repeat (go_big_quiet_step (fail))
   refine ar ?_;refine fJ (by kernel_rfl) ?_;clear hlt';go_wp2
   go_roundg (n-(j+m))
   case measure=>omega
   case rel=>exact⟨j+m,by go_num,by omega,hm2,by omega,hg3,hb3⟩
  .obtain rfl:j=n:=by omega
   go_wp2
   go_ret
   refine⟨_,rfl,⟨⟨by simp[eU],.inr ⟨w.heap.size,j,(tV x j j).toArray,by simp,aw _,HG.out,by simp,by unfold maxLen;omega,by simp[tV],by simp[tV,eU]⟩⟩,?_,by simp;omega⟩,HB.out⟩;intro z hz;rw[(List.mem_replicate.1 hz).2];exact hx
end

section
open Go.RowKit
def gE(l:List eW)(k i b:Nat):List Nat:=((List.range k).flatMap λq=>((lS l q).filter λx=>x==(b:Int)).map λ_=>q)++(((lS l k).take i).filter λx=>x==(b:Int)).map λ_=>k
theorem yW(l:List eW)(b:Nat):gE l 0 0 b= []:=by rfl
theorem tL(l:List eW)(k b:Nat):gE l k (lS l k).length b=gE l (k+1) 0 b:=by
 simp[gE,cU]
theorem pH(l:List eW)(b:Nat):gE l l.length 0 b=qU l b:=by simp[gE,qU]
theorem mK(l:List eW)(k i:Nat)(x:Int)(h:(lS l k)[i]? =some x)(b:Nat):gE l k (i+1) b=if (b:Int)=x then gE l k i b++ [k] else gE l k i b:=by
 have e:(lS l k).take (i+1)=(lS l k).take i++ [x]:=by grind[List.take_add_one]
 grind[gE]
theorem TG(l:List eW)(k i b:Nat)(hk:k<l.length):∃r,qU l b=gE l k i b++r:=by
 have h1:∃r,gE l k (lS l k).length b=gE l k i b++r:=by
  refine⟨(((lS l k).drop i).filter λx=>x==(b:Int)).map λ_=>k,?_⟩
  grind[gE,List.take_append_drop]
 obtain⟨r,hr⟩:=h1
 have h2:∀m,k+1<=m->∃r,gE l m 0 b=gE l (k+1) 0 b++r:=by
  intro m
  induction m with
  |zero=>simp
  |succ m ih=>
   intro hm;by_cases e:m=k
   .simp_all
   .obtain⟨r,hr⟩:=ih (by omega);refine⟨r++((lS l m).filter λx=>x==(b:Int)).map λ_=>m,?_⟩;rw[<-ee,<-hr];simp[gE,cU]
 obtain⟨r2,hr2⟩:=h2 l.length (by omega)
 refine⟨r++r2,?_⟩
 rw[<-pH,hr2,<-tL,hr,ee]
def CI:List Nat->Int
 | []=>-1
 |k :: _=>(k:Int)
theorem NG(h:List Nat):CI h<0↔h= []:=by unfold CI;grind
def mH(l:List eW)(n k i:Nat):List Int:=(List.range n).map λb=>CI (gE l k i b)
theorem EA(l:List eW)(n k i:Nat):(mH l n k i).length=n:=by simp[mH]
theorem mj(l:List eW)(n k i b:Nat)(h:b<n):(mH l n k i).getD b 0=CI (gE l k i b):=by grind[mH]
theorem jx(l:List eW)(n k i b:Nat)(hx:(lS l k)[i]? =some (b:Int))(h0:gE l k i b= []):(mH l n k i).set b (k:Int)=mH l n k (i+1):=by
 apply cD
 intro j
 simp only[mH,bR,List.length_range,dv]
 by_cases hj:j<n
 .by_cases e:b=j
  .grind[mK,CI]
  .grind[mK]
 grind
theorem YS(l:List eW)(n k i:Nat)(x:Int)(hx:(lS l k)[i]? =some x)(h:x<0\/(n:Int)<=x):mH l n k i=mH l n k (i+1):=by
 refine List.map_congr_left λb hb=>?_
 have:=be.1 hb
 rw[mK l k i x hx b,aC (by omega)]
theorem YT(l:List eW)(n k:Nat):mH l n k (lS l k).length=mH l n (k+1) 0:=by
 simp[mH,tL]
theorem YR(l:List eW)(n:Nat):mH l n 0 0=List.replicate n (-1):=by
 apply cD
 grind[mH,yW,CI]
theorem jy(l:List eW)(n:Nat)(h1:∀b,b<n->(qU l b).length<=1)(h2:(-1:Int)∉mH l n l.length 0):kO l n=true/\mH l n l.length 0=wA l n:=by
 have h3:∀b,b<n->qU l b≠[]:=λb hb e=>by
  apply h2;unfold mH;rw[bi];exact⟨b,be.2 hb,by rw[pH,e];rfl⟩
 constructor
 .simp only[kO,bq,be,de]
  grind[List.length_pos_iff]
 .refine List.map_congr_left λb hb=>?_;rw[pH,nP];cases e:qU l b with
  |nil=>exact absurd e (h3 b (be.1 hb))
  |cons k r=>rfl
theorem UQ(l:List eW)(n b:Nat)(hb:b<n)(h:(qU l b).length≠1):kO l n=false:=by
 rw[bU]
 intro h2
 simp_all[kO]
theorem mi(l:List eW)(n k i:Nat)(hk:k<=20000000000000):∀x∈mH l n k i,I64 x:=by
 intro x hx
 unfold mH at hx
 rw[bi] at hx
 obtain⟨b,_,rfl⟩:=hx
 have hq:∀q∈gE l k i b,q<=k:=by
  grind[gE]
 unfold I64
 cases e:gE l k i b with
 |nil=>simp[CI]
 |cons q r=>
  have:=hq q (by rw[e];simp);simp only[CI];omega
def OwJ(w:World)(l:List eW)(bn k i:Nat)(v:Value)(wr:World):Prop:=fQ wr w.heap.size v (mH l bn k i)/\(∀b,b<bn->(gE l k i b).length<=1)/\Below w.heap.size w wr
def my(w:World)(l:List eW)(n:Nat)(e:Ending)(w':World):Prop:=
 ∃v,e=.returned v/\Below w.heap.size w w'/\(kO l n=true->∃g c,v=.slice (some ⟨g,0,none⟩) n c/\fQ w' w.heap.size v (wA l n))/\(kO l n=false->v=sM)
theorem UR(d:lX)(hd1:1<=d.bn)(hd2:d.bn<=200)(a:Option Addr)(n c:Nat)(ls:List lI)(w:World)(h:jW w a n ls):
  Calls Tryz.prog 164 #[gX d,.slice a n c] w (my w (eM ls) d.bn):=by
 have hn:=h.1.2.1
 have HL:=ac h.1.1
 have H:=ac h
 clear h
 go_enter Tryz.func164,Tryz.ntmps164
 go_wp2_with (
  (go_at_call 170
   refine(SA d.bn (w.heap.size+1) (-1) (by unfold I64;omega) hd1 (by omega) _ (cR (fM _ _ _ (by simp)) rfl)).mono ?_;rintro e w2 ⟨v,rfl,ho,hb⟩;have HO:=ac ho;have HB:=ac (eA ((eD _ _).alloc (by simp) _) hb)
   clear ho hb))
 have hfm:∃g c,v=.slice (some ⟨g,0,none⟩) d.bn c:=by
  have:=uG HO.out.1 (by simp;omega);simpa using this
 obtain⟨G,C,rfl⟩:=hfm
 have HO0:Hid (fQ w2 w.heap.size (.slice (some ⟨G,0,none⟩) d.bn C) (mH (eM ls) d.bn 0 0)):=by rw[Hid,YR];exact HO.out.mono (by simp;omega)
 clear HO
 go_loopg [18] n (λgg s wr=>∃(k:Nat),s=.int .i64 (k:Int)/\k<=n/\n<=gg+k/\Hid (OwJ w (eM ls) d.bn k 0 (.slice (some ⟨G,0,none⟩) d.bn C) wr))
 case atStart=>exact⟨0,rfl,Nat.zero_le _,aw _,HO0.out,λb _=>by rw[yW];simp,HB.out⟩
 case round=>
  obtain⟨k,rfl,hk,hgg,HJ⟩:=hrel;clear HO0 HB;by_cases hlt:k<n
  .have hkl:k<(eM ls).length:=by rw[iV,HL.out];exact hlt
   obtain⟨t,b,o,hlk,hok,rfl,c0',c1',c2'⟩:=H.out.cells hlt;have c0:=eN HJ.out.2.2 c0';have c1:=eN HJ.out.2.2 c1';have c2:=eN HJ.out.2.2 c2';clear c0' c1' c2';have HTB:Hid (lS (eM ls) k=t.d.blocks):=by rw[Hid,lS,qX ls k t hlk]
   have HOK:=ac hok.1;have hbl:t.d.blocks.length=t.bn:=hok.1.1;have hbn:t.bn<=17592186044416:=hok.1.2.1;have HBL:=ac hbl;have HCW:Hid (∃t',(eM ls).getD k nF=t'):=⟨_,rfl⟩
   clear hlk hok hbl HCW;generalize htba:t.ba=tba at *;have HTBA:=ac htba;clear htba;go_upto_region 5 with (fail)
   obtain⟨W1,hW1⟩:∃W1,W1=wr.alloc (.cells #[.int .i64 t.d.kind,.int .i64 t.d.parent,.slice tba t.bn t.bc] 79):=⟨_,rfl⟩
   rw[<-hW1];have hB1:Below wr.heap.size wr W1:=by rw[hW1];exact eD _ _
   have hx1:W1.heap[wr.heap.size]? =some (.cells #[.int .i64 t.d.kind,.int .i64 t.d.parent,.slice tba t.bn t.bc] 79 (0,0)):=by rw[hW1,ai]
   have d2:=cK 2 hx1 rfl;have HJ1:Hid (OwJ w (eM ls) d.bn k 0 (.slice (some ⟨G,0,none⟩) d.bn C) W1):=⟨HJ.out.1.ext hB1,HJ.out.2.1,eA HJ.out.2.2 hB1⟩
   have HGlt:G<wr.heap.size:=(HJ.out.1.1.lt G rfl).2;clear hW1 hx1 c0 c1 c2 HJ;go_wp2;obtain⟨wo,rfl⟩:∃wo:World,wo=wr:=⟨_,rfl⟩
   go_loopg [26] t.bn (λg2 s wr=>∃(i:Nat),s=.int .i64 (i:Int)/\i<=t.bn/\t.bn<=g2+i/\Hid (OwJ w (eM ls) d.bn k i (.slice (some ⟨G,0,none⟩) d.bn C) wr))
   case atStart=>exact⟨0,rfl,Nat.zero_le _,aw _,HJ1⟩
   case round=>
    obtain⟨i,rfl,hi,hg2,HJ⟩:=hrel;clear HJ1 d2;by_cases hil:i<t.bn
    .obtain⟨b3,o3,rfl,hcx,hx1,hx2⟩:=(HOK.out.ext HJ.out.2.2).2.2 i hil;have HXI:Hid ((lS (eM ls) k)[i]? =some (t.d.blocks.getD i 0)):=by
      rw[Hid,HTB.out,ax,au (by rw[HBL.out];exact hil)];rfl
     have hil':(i:Int)<(t.bn:Int):=by omega
     generalize t.d.blocks.getD i 0=x at *;by_cases hxr:0<=x/\x<d.bn
     .obtain⟨hxr1,hxr2⟩:=hxr;obtain⟨xn,rfl⟩:∃xn:Nat,x=(xn:Int):=⟨x.toNat,by omega⟩
      have hxn:xn<d.bn:=by omega
      have hcw:wr.cell? ⟨G,xn,none⟩=some (.int .i64 (CI (gE (eM ls) k i xn))):=by
       obtain⟨b4,o4,e4,h4,_⟩:=HJ.out.1.ints.2.2 xn hxn;injection e4 with e4;injection e4 with e5 e6;subst e5 e6;rw[aW,mj _ _ _ _ _ hxn] at h4;exact h4
      by_cases hh:gE (eM ls) k i xn= []
      .have hown:wr.ownsRow w.heap.size 3 1 (.slice (some ⟨G,0,none⟩) d.bn C) d.bn (eU (mH (eM ls) d.bn k i)):=by have:=HJ.out.1.1;rwa [EA] at this
       have hst:=hown.stored xn (.int .i64 (k:Int));have hno:CI (gE (eM ls) k i xn)= -1:=by rw[hh];rfl
       rw[hno] at hcw;have HJ2:Hid (OwJ w (eM ls) d.bn k (i+1) (.slice (some ⟨G,0,none⟩) d.bn C) (wr.setCell ⟨G,xn,none⟩ (.int .i64 (k:Int)))):=by
        refine⟨⟨?_,mi _ _ _ _ (by omega),by rw[EA];omega⟩,λb hb=>?_,HJ.out.2.2.setCell (by have:=(HJ.out.1.1.lt G rfl).1;exact this) _⟩
        .have h5:=hst.1;have e5:(eU (mH (eM ls) d.bn k i)).set xn (.int .i64 (k:Int))=eU (mH (eM ls) d.bn k (i+1)):=by
          rw[<-jx (eM ls) d.bn k i xn HXI.out hh];simp[eU,List.map_set]
         rw[e5] at h5;rw[EA];exact h5
        .rw[mK _ _ _ _ HXI.out];by_cases e:(b:Int)=(xn:Int)
         .have:b=xn:=by omega
          subst this;rw[aX rfl,hh];simp
         .rw[aC e];exact HJ.out.2.1 b hb
       have hfw:=hown.frozenAt xn;have hlw:=(HJ.out.1.1.lt G rfl).2;clear hst hno hh HJ hown;go_wp2
       go_roundg (t.bn-(i+1))
       case measure=>omega
       case rel=>exact⟨i+1,by go_num,by omega,by omega,HJ2⟩
      .have hge:0<=CI (gE (eM ls) k i xn):=by
        have:=mt (NG (gE (eM ls) k i xn)).1 hh;omega
       have HE:Hid (kO (eM ls) d.bn=false):=by
        refine UQ _ _ xn hxn ?_;obtain⟨r,hr⟩:=TG (eM ls) k (i+1) xn hkl;rw[hr,mK _ _ _ _ HXI.out,aX rfl];have:=List.length_pos_iff.2 hh;simp;omega
       have HBW:=ac HJ.out.2.2;clear hh HJ;generalize CI (gE (eM ls) k i xn)=ov at *;go_wp2
       go_ret
       exact⟨_,rfl,HBW.out,λh=>by(rw[HE.out] at h;cases h),λ_=>rfl⟩
     .have HJ2:Hid (OwJ w (eM ls) d.bn k (i+1) (.slice (some ⟨G,0,none⟩) d.bn C) wr):=by
       refine⟨?_,λb hb=>?_,HJ.out.2.2⟩
       .rw[<-YS (eM ls) d.bn k i x HXI.out (by omega)];exact HJ.out.1
       .rw[mK _ _ _ _ HXI.out,aC (by omega)];exact HJ.out.2.1 b hb
      clear HJ;by_cases hx0:x<0
      all_goals
       go_wp2
       go_roundg (t.bn-(i+1))
       case measure=>omega
       case rel=>exact⟨i+1,by go_num,by omega,by omega,HJ2⟩
    .obtain rfl:i=t.bn:=by omega
     have HJ2:Hid (OwJ w (eM ls) d.bn (k+1) 0 (.slice (some ⟨G,0,none⟩) d.bn C) wr):=by
      have e:t.bn=(lS (eM ls) k).length:=by rw[HTB.out,HBL.out]
      refine⟨?_,λb hb=>?_,HJ.out.2.2⟩
      .rw[<-YT,<-e];exact HJ.out.1
      .rw[<-tL,<-e];exact HJ.out.2.1 b hb
     clear HJ;go_wp2
     go_roundg (n-(k+1))
     case measure=>omega
     case rel=>exact⟨k+1,by go_num,by omega,by omega,HJ2⟩
  .obtain rfl:k=n:=by omega
   have hlen:(eM ls).length=k:=by rw[iV,HL.out]
   have HO:=ac HJ.out.1;have HI:=ac (HJ.out.1.ints);have h1:=HJ.out.2.1;have h1':∀b,b<d.bn->(qU (eM ls) b).length<=1:=λb hb=>by have:=h1 b hb;rw[<-hlen,pH] at this;exact this
   have HX:=ac (rF (mH (eM ls) d.bn k 0) (-1));have HEND:Hid ((-1:Int)∉mH (eM ls) d.bn k 0->kO (eM ls) d.bn=true/\mH (eM ls) d.bn k 0=wA (eM ls) d.bn):=λh=>by
    have:=jy (eM ls) d.bn h1' (by rw[hlen];exact h)
    rwa [hlen] at this
   have HNO:Hid ((-1:Int)∈mH (eM ls) d.bn k 0->kO (eM ls) d.bn=false):=λh=>by
    unfold mH at h;rw[bi] at h;obtain⟨b,hb,e⟩:=h;refine UQ _ _ b (be.1 hb) ?_;have e2:=(NG (gE (eM ls) k 0 b)).1 (by omega);rw[<-hlen,pH] at e2;rw[e2];simp
   have HBW:=ac HJ.out.2.2;clear h1 h1' hlen HJ;by_cases hm:(-1:Int)∈mH (eM ls) d.bn k 0
   .have HE:=ac (HNO.out hm);have hd9:decide (0<=idx (mH (eM ls) d.bn k 0) (-1))=true:=by
     have:=mt HX.out.1;simp only[aR];apply cu;intro hh;exact(HX.out.1 (by omega)) hm
    have HD9:=ac hd9;clear hm hd9
    go_wp2_with (go_at_call 87;refine(mV _ _ _ (mH (eM ls) d.bn k 0) (-1) wr HI.out).mono ?_;rintro e w' ⟨rfl,rfl⟩;rw[HD9.out])
    go_ret
    exact⟨_,rfl,HBW.out,λh=>by(rw[HE.out] at h;cases h),λ_=>rfl⟩
   .have HE:=ac (HEND.out hm);have hd9:decide (0<=idx (mH (eM ls) d.bn k 0) (-1))=false:=by
     have:=HX.out.2 hm;simp only[bA];omega
    have HD9:=ac hd9;clear hm hd9
    go_wp2_with (go_at_call 87;refine(mV _ _ _ (mH (eM ls) d.bn k 0) (-1) wr HI.out).mono ?_;rintro e w' ⟨rfl,rfl⟩;rw[HD9.out])
    go_ret
    refine⟨_,rfl,HBW.out,λ_=>⟨G,C,rfl,?_⟩,λh=>by(rw[HE.out.1] at h;cases h)⟩;have:=HO.out;rw[HE.out.2] at this;exact this
end

section
open Go.RowKit Go.Shelf
attribute [local go_sem] Oper.semAt_some iB fS gP fH
theorem OL(f:Nat->Bool)(S:Nat)(x:Nat)(hx:x<200)(W:World)(hS:W.heap[S]? =some (jZ f)):
  Calls Tryz.prog 179 (#[.int .i64 (x:Int)]++ #[.pointer (some ⟨S,0,none⟩)]) W λe W'=>e=.returned (.bool (!f x))/\Below W.heap.size W W':=by
 have hc:=mC hS x hx
 go_wp2
 go_ret
 simp[ao]
theorem FI(args:Array Value)(w:World):(callFunc 179 args).run Tryz.prog w=.ok (.enter 179 args) w:=cQ Tryz.func179 (by rfl) rfl args w
def nM(ts:List fC)(f:Nat->Bool)(b:Nat):Bool:=decide (b<ts.length)&&(pv ts b).any λx=> !f x
theorem JW(f:Nat->Bool)(l:List Nat):((eR l).any λz=> !f z.toNat)=l.any λq=> !f q:=by
 grind[eR,List.any_map]
def EJ(w:World)(d:lX)(f:Nat->Bool)(xs:List Int)(W:World):Prop:=
 W.heap[w.heap.size]? =some (oD d)/\W.heap[w.heap.size+1]? =some (jZ f)/\W.heap[w.heap.size+1+1+1]? =some (.cells #[.pointer (some ⟨w.heap.size+1,0,none⟩)] 262 (0,0))/\
  (∃v,W.heap[w.heap.size+1+1]? =some (.cells #[v] 22 (0,0))/\fQ W (w.heap.size+1+1+1+1) v xs)/\Below w.heap.size w W/\w.heap.size+1+1+1<W.heap.size
theorem EJ.steady{w:World}{d:lX}{f:Nat->Bool}{xs:List Int}{D:Nat}(hD:w.heap.size<=D):eI D (EJ w d f xs):=by
 exact(eI.block _ _ rfl).and ((eI.block _ _ rfl).and ((eI.block _ _ rfl).and ((eI.ex λv=>(eI.block _ _ rfl).and (eI.ownI _ _ _ _)).and ((eI.below (aw _) hD).and (eI.size _ _)))))
theorem EJ.ext{w W W':World}{d:lX}{f:Nat->Bool}{xs:List Int}(h:EJ w d f xs W)(hb:Below W.heap.size W W'):EJ w d f xs W':=(EJ.steady (aw _)).ext h hb
theorem EJ.app{w W W':World}{d:lX}{f:Nat->Bool}{xs:List Int}{v:Value}(hv:W.heap[w.heap.size+1+1]? =some (.cells #[v] 22 (0,0)))(ho:fQ W (w.heap.size+1+1+1+1) v xs)(h:EJ w d f xs W)(hg:W.grownBy W' v.ownBlock)(v':Value)(x:Int)(hx:I64 x)(hn:xs.length<=1000)(ho':W'.ownsRow (w.heap.size+1+1+1+1) 3 1 v' (xs.length+1) (eU xs++ [.int .i64 x])):
  EJ w d f (xs++ [x]) (W'.setCell ⟨w.heap.size+1+1,0,none⟩ v')/\gO W (W'.setCell ⟨w.heap.size+1+1,0,none⟩ v'):=by
 obtain⟨h1,h2,h3,_,h5,h6⟩:=h
 have low:∀q,q<w.heap.size+1+1+1+1->v.ownBlock≠some q:=λq hq e=>by have:=(ho.1.lt q e).1;omega
 have g:=fL W' (w.heap.size+1+1) 0 v'
 have hv2:=fB hg hv (low _ (by omega))
 refine⟨⟨fB g (fB hg h1 (low _ (by omega))) (by grind),fB g (fB hg h2 (low _ (by omega))) (by simp),fB g (fB hg h3 (low _ (by omega))) (by simp),⟨v',?_,?_⟩,(h5.grown hg h5.size (λr e=>by grind)).setCell (by grind) _,by have:=hg.size;simp;omega⟩,
  (gO.grown hg (tB ho.1)).trans (gO.setCell _ _ _)⟩
 .have:=aO W' (w.heap.size+1+1) 0 _ _ v' hv2
  grind
 .have e3:(xs++ [x]).length=xs.length+1:=by simp
  have e4:eU (xs++ [x])=eU xs++ [.int .i64 x]:=by simp[eU]
  refine fQ.kept (w:=W') ⟨by grind,λz hz=>?_,by omega⟩ g ?_
  .rcases bh.1 hz with h|h
   .exact ho.2.1 z h
   grind
  .cases e:v'.ownBlock with
   |none=>exact .inl rfl
   |some k=>
    have:=(ho'.lt k e).1;refine .inr ?_;intro e2;injection e2 with e2;omega
theorem QE(d:lX)(ts:List fC)(f:Nat->Bool)(w:World)(hok:lP w d ts)(hg:qC ts=true):
  Calls Tryz.prog 171 #[gX d,.agg (eV f)] w (mG w (eR (fF ts f))):=by
 refine(br (n:=0)).1 ?_
 refine cA Tryz.func171 rfl trivial ?_
 simp only[Tryz.ntmps171,bL,aN,aV,Nat.reduceAdd,Nat.reduceSub,bC,bD,bM,bG,bH,bJ]
 have HOK:=ac hok
 have HPV:=ac (lP.nx_lt (w:=w) (d:=d) hg).2
 have hdl:ts.length=d.bn:=hok.1
 have hdn:d.bn<=200:=hok.2.1
 have HDL:=ac hdl
 clear hok hg hdl
 gi_wp2_with (gi_at_call 178;refine(br.2 (OM _ _)).mono ?_;rintro e w' ⟨rfl,rfl⟩)
 refine EP (ps:=#[7]) (gf:=185) (lb:=#[.pointer (some ⟨w.heap.size+1+1+1,0,none⟩)]) (enc:=VQ) (l:=iR f) rfl FJ _ (FL f (w.heap.size+1+1+1) (w.heap.size+1)) (λ_=>rfl)
  (λdn r W=>Hid (EJ w d f (eR (dn.filter (nM ts f))) W)) (λ_ _=>False)
  (λdn r=>EJ.steady (by simp;omega)) (λc=>eI.pure _ _) (λdn r W h=>⟨cR h.out.2.2.1 rfl,h.out.2.1⟩) ?start ?round ?done ?stop
 case start=>
  refine⟨?_,?_,?_,⟨_,?_,fQ.nil _ _⟩,?_,by simp⟩
  .rw[aJ _ _ _ (by simp;omega),aJ _ _ _ (by simp;omega),aJ _ _ _ (by simp)];exact ai _ _
  .rw[aJ _ _ _ (by simp),aJ _ _ _ (by simp)];exact fM _ _ _ (by simp)
  .exact fM _ _ _ (by simp)
  .rw[aJ _ _ _ (by simp)];exact fM _ _ _ (by simp)
  .exact(((eD _ _).alloc (by simp) _).alloc (by simp;omega) _).alloc (by simp;omega) _
 case round=>
  rintro lp dn x r W hd hJ;unfold VQ
  gi_wp2
  refine⟨gO.refl _,hJ,?_⟩;clear hJ lp W;rintro lp W hJ;obtain⟨j1,j2,j3,⟨v,j4,jo⟩,jb,js⟩:=hJ.out;have hxl:x<200:=DW f x (by rw[hd];simp);have hc3:=cK 3 j1 rfl;by_cases hxb:x<d.bn
  .obtain⟨b,o,ra,rc,rfa,hcr,hir⟩:=(HOK.out.ext jb).2.2.2.2.2 x (pv ts x) (by simp[qJ,HDL.out,hxb]);rw[rfa] at hc3;have J2:=ac j2;have HIR:=ac hir;have HPX:Hid (∀z∈eR (pv ts x),∃q:Nat,z=(q:Int)/\q<200):=λz hz=>by
    simp only[eR,bi] at hz;obtain⟨q,hq,rfl⟩:=hz;exact⟨q,rfl,HPV.out x q hq⟩
   have hxb':(x:Int)<(d.bn:Int):=by omega
   clear j1 j2 j3 j4 jo jb js hir;by_cases hent:nM ts f x=true
   .have HANY:Hid (((eR (pv ts x)).any λz=> !f z.toNat)=true):=by
     rw[Hid,JW];simp only[nM,az] at hent;exact hent.2
    have HFL:Hid (eR ((dn++ [x]).filter (nM ts f))=eR (dn.filter (nM ts f))++ [(x:Int)]):=by
     rw[Hid,bE,bK,aX hent];simp[eR]
    have hlen:(eR (dn.filter (nM ts f))).length<=1000:=by
     have h1:=JC f;rw[hd] at h1;have h2:=bY (nM ts f) dn;simp[eR] at h1|-;omega
    clear hent
    gi_wp2_with (first
     |(gi_at_call 119
       refine(CallsIn.inRound _ (br.2 (iJ 179 #[.pointer (some ⟨w.heap.size+1,0,none⟩)] FI (λz=> !f z.toNat) _ _ _ (eR (pv ts x)) W (λz W' hz hb=>?_) HIR.out))).mono ?_
       .obtain⟨q,rfl,hq⟩:=HPX.out z hz;exact OL f (w.heap.size+1) q hq W' (eB hb J2.out)
       rintro e w2 ⟨rfl,hb2⟩;rw[HANY.out];have HJ2:=ac (hJ.out.ext hb2);have HK2:=ac (gO.ext hb2);clear hb2;obtain⟨v2,hv2,ho2⟩:=HJ2.out.2.2.2.1;obtain⟨av,cv,rfl⟩:=ho2.form;have hcv:=cK 0 hv2 rfl;have HV2:=ac hv2;have HO2:=ac ho2;have hsz2:=HJ2.out.2.2.2.2.2
       clear hv2 ho2)
     |(gi_at_builtin
       refine vL (by repeat (first|exact jX|refine lF ?_|refine jY ?_)) _ _ _ rfl ?_;refine fN rfl w2 (.tmp 22) (.tmp 24) 22 3 rfl (w.heap.size+1+1+1+1) _ 1 8 aQ tP rfl (by omega) (.slice av (eR (dn.filter (nM ts f))).length cv) (eR (dn.filter (nM ts f))).length _ [.int .i64 (x:Int)] rfl HO2.out.1 w2.heap.size rfl rfl rfl (by simp[Value.oneCell']) (by simp only[maxLen];omega) (by omega) (by omega) ?_;intro g cap w3 hown3 hg3 hat3;have HAPP:=ac (HJ2.out.app HV2.out HO2.out hg3 _ (x:Int) (by unfold I64;omega) hlen hown3);have hv3:=fB hg3 HV2.out (λe=>by have:=(HO2.out.1.lt _ e).1;omega);obtain⟨hc3',hf3⟩:=cz 0 hv3 rfl;have hl3:w.heap.size+1+1<w3.heap.size:=eT hv3
       clear hown3 hg3 hat3 hv3 hcv))
    go_wp2;refine⟨HK2.out.trans HAPP.out.2,?_⟩;have e9:=HFL.out;rw[bE] at e9;simp only[Hid,bE,e9];exact HAPP.out.1
   .have hent':nM ts f x=false:=by simpa using hent
    have HANY:Hid (((eR (pv ts x)).any λz=> !f z.toNat)=false):=by
     rw[Hid,JW];simp only[nM,dF] at hent';rcases hent' with h|h
     .rw[HDL.out] at h;simp at h;omega
     .exact h
    have HFL:Hid (eR ((dn++ [x]).filter (nM ts f))=eR (dn.filter (nM ts f))):=by
     rw[Hid,bE,bK,aC hent];simp
    clear hent hent'
    gi_wp2_with (
     (gi_at_call 119
      refine(CallsIn.inRound _ (br.2 (iJ 179 #[.pointer (some ⟨w.heap.size+1,0,none⟩)] FI (λz=> !f z.toNat) _ _ _ (eR (pv ts x)) W (λz W' hz hb=>?_) HIR.out))).mono ?_
      .obtain⟨q,rfl,hq⟩:=HPX.out z hz;exact OL f (w.heap.size+1) q hq W' (eB hb J2.out)
      rintro e w2 ⟨rfl,hb2⟩;rw[HANY.out];have HJ2:=ac (hJ.out.ext hb2);have HK2:=ac (gO.ext hb2)
      clear hb2))
    refine⟨HK2.out,?_⟩;have e9:=HFL.out;rw[bE] at e9;simp only[Hid,bE,e9];exact HJ2.out
  .have hxb':¬(x:Int)<(d.bn:Int):=by omega
   have HFL:Hid (eR ((dn++ [x]).filter (nM ts f))=eR (dn.filter (nM ts f))):=by
    rw[Hid,bE,bK,aC (by simp only[nM,az,aR,HDL.out];exact λh=>hxb h.1)];simp
   clear j1 j2 j3 j4 jo jb js hxb
   gi_wp2
   refine⟨gO.refl _,?_⟩;have e9:=HFL.out;rw[bE] at e9;simp only[Hid,bE,e9];exact hJ.out
 case done=>
  rintro D W hD hJ hK;obtain⟨v,hv,ho⟩:=hJ.out.2.2.2.1;obtain⟨av,cv,rfl⟩:=ho.form;have HJ:=hJ;have HV:=ac hv;obtain⟨hcv,hfv⟩:=cz 0 hv rfl;have hlv:=eT hv;have HO:=ac ho;clear hv ho hJ
  gi_wp2
  have hDP:D≠w.heap.size+1+1:=by simp at hD;omega
  have g:=fL W (w.heap.size+1+1) 0 (.slice av (eR ((iR f).filter (nM ts f))).length cv);have hK2:=fB g hK (by simp;omega)
  have ho2:fQ (W.setCell ⟨w.heap.size+1+1,0,none⟩ (.slice av (eR ((iR f).filter (nM ts f))).length cv)) (w.heap.size+1+1+1+1) (.slice av (eR ((iR f).filter (nM ts f))).length cv) (eR ((iR f).filter (nM ts f))):=HO.out.kept g (by
   cases e:(Value.slice av (eR ((iR f).filter (nM ts f))).length cv).ownBlock with
   |none=>exact .inl rfl
   |some k=>
    have:=(HO.out.1.lt k e).1;refine .inr ?_;intro e2;injection e2 with e2
    omega)
  have hb2:Below w.heap.size w (W.setCell ⟨w.heap.size+1+1,0,none⟩ (.slice av (eR ((iR f).filter (nM ts f))).length cv)):=HJ.out.2.2.2.2.1.setCell (by simp;omega) _;have hv2:(W.setCell ⟨w.heap.size+1+1,0,none⟩ (.slice av (eR ((iR f).filter (nM ts f))).length cv)).heap[w.heap.size+1+1]? =some (.cells #[.slice av (eR ((iR f).filter (nM ts f))).length cv] 22 (0,0)):=by
   have:=aO W (w.heap.size+1+1) 0 _ _ (.slice av (eR ((iR f).filter (nM ts f))).length cv) HV.out;simpa using this
  generalize W.setCell ⟨w.heap.size+1+1,0,none⟩ (.slice av (eR ((iR f).filter (nM ts f))).length cv)=W2 at *;have ho3:=(eI.ownI D (w.heap.size+1+1+1+1) (.slice av (eR ((iR f).filter (nM ts f))).length cv) (eR ((iR f).filter (nM ts f)))).put (.deferred none) (l:=D) ho2 (aw _) hK2 rfl;have hb3:=(eI.below (n₀:=w.heap.size) (B:=w.heap.size) (w₀:=w) (aw _) (aw _)).put (.deferred none) (l:=D) hb2 (by simp at hD;omega) hK2 rfl;have hv3:(W2.putObj D (.deferred none)).heap[w.heap.size+1+1]? =some (.cells #[.slice av (eR ((iR f).filter (nM ts f))).length cv] 22 (0,0)):=(bk (by omega)).trans hv2;have hc3:=cK 0 hv3 rfl;refine⟨by simp,.inl ⟨_,_,rfl,cI hK2,?_⟩⟩;exact⟨.slice av (eR ((iR f).filter (nM ts f))).length cv,by simp[results,Tryz.results171,go_sem,hc3],_,rfl,ho3.mono (by omega),hb3⟩
 case stop=>rintro D c W hD h;exact h.elim
end
end Go.Proofs.YtchdkjenhppleaaGreat
