/-
 Building tiles:the comparison of two parts.
-/
import Derived.Test.YtbknbcmppdglhaaGreatDoorA0
import Derived.Test.YtbknbcmppdglhaaGreatDoorQL
import Derived.Test.YtbknbcmppdglhaaGreatDoorWD
import Derived.Test.YtbknbcmppdglhaaGreatDoorTK
import Derived.Test.YtbknbcmppdglhaaGreatDoorGiRow
import Derived.Deep.CutBlock
import Derived.Deep.DeepCutAuto
namespace Go.Proofs.YtbknbcmppdglhaaGreatDoor
set_option linter.unusedSimpArgs false
set_option linter.unusedVariables false
set_option linter.unusedSectionVars false
set_option maxRecDepth 100000
set_option maxHeartbeats 40000000
section
open Go.RowKit Go.Shelf
def cfP(L:List fJ)(p q:fJ):Int:=orV [AZ (jL L p:Int) (jL L q:Int),AZ (lW p:Int) (lW q:Int)]
def ID(L:List fJ)(p:fJ):Nat:=300*jL L p+lW p
theorem At(L:List fJ)(p q:fJ)(hp:lW p<300)(hq:lW q<300):cfP L p q<0↔ID L p<ID L q:=by
 rw[cfP,B6,ID,ID]
 omega
theorem WE(x y:Int):I64 (AZ x y):=by
 unfold AZ I64
 split
 .omega
 .split<;>omega
theorem JW{w:World}{base:Nat}{v:Value}{l:List Nat}(h:gD w base v (fN l))(hl:l≠[]):∃g n c,v=.slice (some ⟨g,0,none⟩) n c/\0<n/\w.cell? ⟨g,0,none⟩=some (.int .i64 ((l.headD 0:Nat):Int)):=by
 cases l with
 |nil=>exact absurd rfl hl
 |cons x l=>
  rcases h.1.2 with ⟨_,h0⟩|⟨g,cap,cur,hv,_,hg,hc1,_,hcs,htk⟩
  .simp[fN] at h0
  .refine⟨g,_,cap,hv,by simp[fN],?_⟩;rw[aZ _ _ _ _ _ _ hg];have:(cur.toList.take ((fN (x :: l)).length*1))[0]? =some (.int .i64 (x:Int)):=by rw[htk];rfl
   rw[eY] at this;simpa[fN] using this
theorem Ar(P base bv:Nat)(a:Option Addr)(n c:Nat)(d:lJ)(L:List fJ)(p q:fJ)(w:World)(hV:w.heap[bv]? =some (.cells #[.pointer (some ⟨P,0,none⟩)] 132 (0,0)))(hB:w.heap[P]? =some (ED d (.slice a n c)))(hL:gP w base (.slice a n c) L)(hn:n<=1000000)(hp:gQ p.s≠[])(hq:gQ q.s≠[]):
  Calls Tryz.prog 59 (#[pX p,pX q]++ #[.pointer (some ⟨bv,0,none⟩)]) w λe w'=>e=.returned (.int .i64 (cfP L p q))/\Below w.heap.size w w':=by
 have HBL:=ac hB
 have HL:=ac hL
 have HP:=ac hp
 have HQ:=ac hq
 have HV:=ac hV
 clear hB hL hp hq hV
 go_enter Tryz.func59,Tryz.ntmps59
 go_upto_region 1 with (fail)
 obtain⟨W,hW⟩:∃W,W=(w.alloc (qO p)).alloc (qO q):=⟨_,rfl⟩
 rw[<-hW]
 have hb:Below w.heap.size w W:=by rw[hW];exact fC (fD _ _) (fD _ _)
 have h3:W.heap[w.heap.size]? =some (qO p):=by rw[hW];exact fB (fD _ _) (ae _ _)
 have h4:W.heap[w.heap.size+1]? =some (qO q):=by rw[hW];exact iT _ _ _ (by simp)
 have HB:=ac hb
 have HBW:=ac (fB hb HBL.out)
 have HLW:Hid (gP W base (.slice a n c) L):=gP.ext HL.out hb
 have g0:∀n:fL W,n.val.cell? ⟨bv,0,none⟩=some (.pointer (some ⟨P,0,none⟩)):=fL.cell (cR (fB hb HV.out) rfl)
 have g3:∀w',(∃n:fL W,w'=n.val)->w'.heap[w.heap.size]? =some (qO p):=λw' ⟨n,e⟩=>by rw[e];exact fB n.ext h3
 have g4:∀w',(∃n:fL W,w'=n.val)->w'.heap[w.heap.size+1]? =some (qO q):=λw' ⟨n,e⟩=>by rw[e];exact fB n.ext h4
 have s3:∀w',(∃n:fL W,w'=n.val)->w'.rangeAt w.heap.size 0 (gK p.s).toList:=λw' h=>qS (g3 w' h)
 have s4:∀w',(∃n:fL W,w'=n.val)->w'.rangeAt (w.heap.size+1) 0 (gK q.s).toList:=λw' h=>qS (g4 w' h)
 clear hW hb h3 h4 HBL HL HV
 refine rG (λw'=>∃n:fL W,w'=n.val) (by kernel_rfl) ?_
 obtain⟨v0,F0,hv0⟩:∃v0,Below W.heap.size W v0/\W.drew=v0:=⟨_,gB (ag _ _) 1,rfl⟩
 rw[hv0]
 clear hv0
 refine gR 0 2 (by kernel_rfl) ⟨⟨_,F0⟩,rfl⟩ ?_
 simp only[ap,aD,am,aw]
 repeat (first
  |(refine fW (o:=⟨some 7,.load 142 _,_,_,_,_⟩) (by rfl) 142 _ rfl w.heap.size rfl 142 (gJ p).toArray (0,0) _ g3 bm rfl (hZ _) ?_;simp only[zJ,zG,zH,zI])
  |go_big_quiet_step (fail))
 refine aq ?_
 refine gR 3 2 (by kernel_rfl) ⟨⟨_,F0⟩,rfl⟩ ?_
 simp only[ap,aD,am,aw]
 repeat (first
  |(refine fW (o:=⟨some 10,.load 142 _,_,_,_,_⟩) (by rfl) 142 _ rfl (w.heap.size+1) rfl 142 (gJ q).toArray (0,0) _ g4 bm rfl (hZ _) ?_;simp only[zJ,zG,zH,zI])
  |go_big_quiet_step (fail))
 refine aq ?_
 refine gR 7 2 (by kernel_rfl) ⟨⟨_,F0⟩,rfl⟩ ?_
 simp only[ap,aD,am,aw]
 repeat (first
  |(refine gU (o:=⟨some 14,.load 138 _,_,_,_,_⟩) (by rfl) 138 _ rfl w.heap.size 0 rfl (gK p.s).toList _ s3 aL rfl (by rw[cL,fO];exact gF) ?_;simp only[zJ,zG,zH,zI])
  |go_big_quiet_step (fail))
 refine aq ?_
 refine gR 12 2 (by kernel_rfl) ⟨⟨_,F0⟩,rfl⟩ ?_
 simp only[ap,aD,am,aw]
 repeat (first
  |(refine gU (o:=⟨some 19,.load 138 _,_,_,_,_⟩) (by rfl) 138 _ rfl (w.heap.size+1) 0 rfl (gK q.s).toList _ s4 aL rfl (by rw[cL,fO];exact gF) ?_;simp only[zJ,zG,zH,zI])
  |go_big_quiet_step (fail))
 refine aq ?_
 clear g0 g3 g4 s3 s4
 refine jD 2 (by kernel_rfl) ?_
 refine fR rfl rfl ?_
 go_simp
 refine(MA P base a n c d L p v0 (fB F0 HBW.out) (gP.ext HLW.out F0) hn).mono ?_
 rintro e v1 ⟨rfl,hb⟩
 have F1:=fC F0 hb
 clear hb
 refine⟨Or.inr ⟨⟨_,F1⟩,rfl⟩,?_⟩
 refine jD 5 (by kernel_rfl) ?_
 refine fR rfl rfl ?_
 go_simp
 refine(MA P base a n c d L q v1 (fB F1 HBW.out) (gP.ext HLW.out F1) hn).mono ?_
 rintro e v2 ⟨rfl,hb⟩
 have F2:=fC F1 hb
 clear hb F0 F1
 refine⟨Or.inr ⟨⟨_,F2⟩,rfl⟩,?_⟩
 refine jD 6 (by kernel_rfl) ?_
 refine fR rfl rfl ?_
 go_simp
 refine(GT _ _ v2).mono ?_
 rintro e v3 ⟨rfl,rfl⟩
 refine⟨Or.inr ⟨⟨_,F2⟩,rfl⟩,?_⟩
 refine jD 9 (by kernel_rfl) ?_
 refine fR rfl rfl ?_
 go_simp
 refine(DH p.s v2).mono ?_
 rintro e v4 ⟨vl,rfl,ho,hb⟩
 have F4:=fC F2 hb
 obtain⟨g5,n5,c5,rfl,hn5,hcell⟩:=JW ho HP.out
 have hn5':(0:Int)<(n5:Int):=by omega
 obtain⟨y1,hy1⟩:∃y,y=(gQ p.s).headD 0:=⟨_,rfl⟩
 rw[<-hy1] at hcell
 have HY1:=ac hy1
 clear hy1
 refine⟨Or.inr ⟨⟨_,F4⟩,rfl⟩,?_⟩
 clear ho hb
 refine ko F4 ?_
 have g5':∀n:fL v4,n.val.cell? ⟨g5,0,none⟩=some (.int .i64 (y1:Int)):=fL.cell hcell
 refine gR 10 2 (by kernel_rfl) ⟨⟨_,ag _ _⟩,rfl⟩ ?_
 simp only[ap,aD,am,aw]
 repeat (go_big_quiet_step (fail))
 refine aq ?_
 clear g5' hcell hn5'
 refine jD 14 (by kernel_rfl) ?_
 refine fR rfl rfl ?_
 go_simp
 refine(DH q.s v4).mono ?_
 rintro e v5 ⟨vl,rfl,ho,hb⟩
 obtain⟨g6,n6,c6,rfl,hn6,hcell⟩:=JW ho HQ.out
 have hn6':(0:Int)<(n6:Int):=by omega
 obtain⟨y2,hy2⟩:∃y,y=(gQ q.s).headD 0:=⟨_,rfl⟩
 rw[<-hy2] at hcell
 have HY2:=ac hy2
 clear hy2
 refine⟨Or.inr ⟨⟨_,hb⟩,rfl⟩,?_⟩
 have F5:=fC F4 hb
 refine ko hb ?_
 clear ho hb
 have g6':∀n:fL v5,n.val.cell? ⟨g6,0,none⟩=some (.int .i64 (y2:Int)):=fL.cell hcell
 refine gR 15 2 (by kernel_rfl) ⟨⟨_,ag _ _⟩,rfl⟩ ?_
 simp only[ap,aD,am,aw]
 repeat (go_big_quiet_step (fail))
 refine aq ?_
 clear g6' hcell hn6'
 refine jD 17 (by kernel_rfl) ?_
 refine fR rfl rfl ?_
 go_simp
 refine(GT _ _ v5).mono ?_
 rintro e v6 ⟨rfl,rfl⟩
 refine⟨Or.inr ⟨⟨_,ag _ _⟩,rfl⟩,?_⟩
 refine jD 18 (by kernel_rfl) ?_
 refine fR rfl rfl ?_
 go_simp
 obtain⟨x1,hx1⟩:∃x,x=AZ (jL L p:Int) (jL L q:Int):=⟨_,rfl⟩
 obtain⟨x2,hx2⟩:∃x,x=AZ (y1:Int) (y2:Int):=⟨_,rfl⟩
 rw[<-hx1,<-hx2]
 have hi1:I64 x1:=by rw[hx1];exact WE _ _
 have hi2:I64 x2:=by rw[hx2];exact WE _ _
 have HX:Hid (orV [x1,x2]=cfP L p q):=by rw[Hid,hx1,hx2,HY1.out,HY2.out];rfl
 have hI:=(JY (W:=v5) (xs:= [x1,x2]) rfl 0 (d9 _) (λx hx=>by simp at hx;rcases hx with rfl|rfl<;>assumption) (by simp)).ints
 have HI:Hid (iJ (v5.alloc (.cells #[.int .i64 x1,.int .i64 x2] 3)) (some ⟨v5.heap.size,0,none⟩) 2 [x1,x2]):=hI
 have F6:Below v5.heap.size v5 (v5.alloc (.cells #[.int .i64 x1,.int .i64 x2] 3)):=fD _ _
 clear hx1 hx2 hi1 hi2 hI
 refine⟨Or.inr ⟨⟨_,F6⟩,rfl⟩,?_⟩
 refine jD 19 (by kernel_rfl) ?_
 refine fR rfl rfl ?_
 go_simp
 refine(re _ 2 2 [x1,x2] _ HI.out).mono ?_
 rintro e v7 ⟨rfl,rfl⟩
 rw[HX.out]
 have HF:=ac (fC HB.out (fC F5 F6))
 refine⟨Or.inr ⟨⟨_,F6⟩,rfl⟩,?_⟩
 refine gR 20 1 (by kernel_rfl) ⟨⟨_,F6⟩,rfl⟩ ?_
 simp only[ap,aD,am,aw]
 repeat (go_big_quiet_step (fail))
 refine aq ?_
 refine oO (by kernel_rfl) ?_
 go_wp2
 go_ret
 exact⟨rfl,HF.out⟩
end

section
open Go.RowKit Go.Shelf
attribute [local go_sem] Oper.semAt_some iF gH gS fX
theorem jl(f:Nat->Bool)(G S:Nat):uU Tryz.prog 159 #[.pointer (some ⟨G,0,none⟩)] rU (gQ f) (λW=>W.cell? ⟨G,0,none⟩=some (.pointer (some ⟨S,0,none⟩))/\∀k,k<200->W.cell? ⟨S,k,none⟩=some (.bool (f k))):=by
 intro l K Kx W hK hKx hInv hY h0
 refine eK Tryz.func159 rfl trivial ?_ rfl
 simp only[Tryz.ntmps159,bd,bk,bx,Nat.reduceAdd,Nat.reduceSub,bF,bG,bV,bN,bD,bU]
 have HY:=ac hY
 have HI:=ac hInv
 have HK0:=ac hK
 have H0:Hid (K (nD f 0) W):=by rw[Hid,LA];exact h0
 have hg0:W.cell? ⟨G,0,none⟩=some (.pointer (some ⟨S,0,none⟩)):=(hInv _ _ h0).1
 clear hY hInv hK hKx h0
 gi_wp2
 gi_loopw [6] (λi wr=>∃k:Nat,i=.int .i64 k/\k<=200/\Hid (K (nD f k) wr)) (λi _=>200-(intOf i).toNat)
 case atStart=>exact⟨0,rfl,by omega,H0.out⟩
 case round=>
  obtain⟨k,rfl,hk,HK⟩:=hrel;clear hg0;have hSr:=(HI.out _ _ HK.out).2;have hn:∀q,(wr.drewN q).cell? ⟨S,0,none⟩=some (.bool (f 0)):=λq=>hSr 0 (by omega);have hne:wr.cell? ⟨S,0,none⟩=some (.bool (f 0)):=hn 0;by_cases hlt:k<200
  .have hc:wr.cell? ⟨S,k,none⟩=some (.bool (f k)):=hSr k hlt;have HST:=ac (LB f k hlt);have hlt':(k:Int)<200:=by omega
   clear hSr hn;by_cases hf:f k=true
   .rw[hf] at hc;have HR:Hid (nD f k=k :: nD f (k+1)):=by rw[Hid,HST.out,aM hf]
    clear hf HST
    gi_wp2
    refine rP (by kernel_rfl) (by kernel_rfl) ?_
    repeat (go_big_quiet_step (fail))
    refine aq ?_;rintro _ ⟨nq,rfl⟩;have HKq:Hid (K (nD f k) (wr.drewN nq)):=HK0.out _ _ _ HK.out (gB (ag _ _) nq);obtain⟨fn,tmps,assign,body,hy,hR⟩:=HY.out (nD f k) k (wr.drewN nq) (by rw[HR.out];rfl) HKq.out;unfold rU at hy;have hT:nxL (nD f k) k=nD f (k+1):=by rw[HR.out];rfl
    rw[hT] at hR;have HR2:=ac hR;clear hT hR HKq
    gi_wp2
    refine HR2.out.mono ?_;rintro e W' (⟨rfl,hJ'⟩|⟨rfl,hX'⟩)
    .have HK1:=ac hJ';clear hJ' hy HR2
     gi_wp2
     go_roundw
     case rel=>exact⟨k+1,by go_num,by omega,HK1.out⟩
     case measure=>simp[intOf];omega
    .have HX:=ac hX';clear hX' hy HR2
     gi_wp2
     exact aR (v:=.tuple #[]) (by simp[results,Tryz.results159,go_sem]) rfl ⟨⟨_,rfl⟩,Or.inr HX.out⟩
   .have hf':f k=false:=by simpa using hf
    rw[hf'] at hc;have HR:Hid (nD f k=nD f (k+1)):=by rw[Hid,HST.out,az hf]
    clear hf hf' HST
    gi_wp2
    refine rP (by kernel_rfl) (by kernel_rfl) ?_
    repeat (go_big_quiet_step (fail))
    refine aq ?_;rintro _ ⟨nq,rfl⟩;have HKq:Hid (K (nD f (k+1)) (wr.drewN nq)):=by rw[<-HR.out];exact HK0.out _ _ _ HK.out (gB (ag _ _) nq)
    gi_wp2
    go_roundw
    case rel=>exact⟨k+1,by go_num,by omega,HKq.out⟩
    case measure=>simp[intOf];omega
  .obtain rfl:k=200:=by omega
   clear hSr hn
   gi_wp2
   go_end0
   exact⟨⟨_,rfl⟩,Or.inl ⟨_,OF f,HK.out⟩⟩
abbrev bsV(t:iN):Value:=.slice t.ba t.bn t.bc
structure kW(W:World)(base:Nat)(v:Value)(ls:List iN):Prop where
 own:iP 65 3 qN W base v ls
 each:∀t∈ls,gD W base (bsV t) t.d.blocks/\I64 t.d.kind/\I64 t.d.parent
 sepv:∀t∈ls,Sep (bsV t) v
 pw:ls.Pairwise λs t=>Sep (bsV s) (bsV t)
section
variable {W W' W3:World} {base base':Nat} {v:Value} {ls:List iN}
theorem kW.grown{row:Option Nat}(h:kW W base v ls)(hg:W.grownBy W' row)(hr:∀q,row=some q->q<base\/W.heap.size<=q):kW W' base v ls where
 own:=h.own.kept hg (by
  cases e:v.ownBlock with
  |none=>exact .inl rfl
  |some q=>exact .inr λe2=>by have:=h.own.low e;have:=hr q e2.symm;omega)
 each:=λt ht=>⟨(h.each t ht).1.kept hg (by
  cases e:(bsV t).ownBlock with
  |none=>exact .inl rfl
  |some q=>exact .inr λe2=>by have:=(h.each t ht).1.1.lt q e;have:=hr q e2.symm;omega),(h.each t ht).2⟩
 sepv:=h.sepv
 pw:=h.pw
theorem kW.ext(h:kW W base v ls)(hb:Below W.heap.size W W'):kW W' base v ls:=
 h.grown (row:=none) ⟨hb.os,hb.tape,hb.output,hb.size,λk hk _=>hb.block k hk⟩ λq e=>by cases e
theorem kW.mono(h:kW W base v ls)(hb:base'<=base):kW W base' v ls:=⟨h.own.mono hb,λt ht=>⟨(h.each t ht).1.mono hb,(h.each t ht).2⟩,h.sepv,h.pw⟩
theorem kW.steady{D:Nat}:fG D (λW=>kW W base v ls):=λW W' row h hg hr=>
 ⟨(fG.ownR D base v ls) W W' row h.own hg hr,λt ht=>⟨(fG.ownI D base (bsV t) t.d.blocks) W W' row (h.each t ht).1 hg hr,(h.each t ht).2⟩,h.sepv,h.pw⟩
theorem B3{w:World}{base:Nat}{a:Option Addr}{n c:Nat}{xs:List Int}(h:gD w base (.slice a n c) xs):n<=c:=by
 rcases h.1.2 with ⟨e,_⟩|⟨g,cap,cur,e,_,_,hc,_⟩
 .injection e with _ e1 e2;omega
 .injection e with _ e1 e2;omega
theorem kW.ok{a:Option Addr}{n c:Nat}(h:kW W base (.slice a n c) ls):iY W a n ls:=
 ⟨h.own.recs AK,λt ht=>⟨(h.each t ht).1.ints,B3 (h.each t ht).1,(h.each t ht).2⟩⟩
theorem NZ(W:World)(B:Nat)(t:iN)(h:W.heap[B]? =some (.cells (qN t).toArray 65 (0,0)))(base:Nat)(hb:base<=B)(ho:gD W base (bsV t) t.d.blocks)(hk:I64 t.d.kind/\I64 t.d.parent)(hn:(bsV t).ownBlock≠some B):kW W base (.slice (some ⟨B,0,none⟩) 1 1) [t] where
 own:=by
  refine⟨⟨by simp[qN],.inr ⟨B,1,(qN t).toArray,rfl,hb,h,by simp,by simp[maxLen],by simp[qN],?_⟩⟩,by simp⟩;simp[qN]
 each:=λs hs=>by
  have:s=t:=by simpa using hs
  subst this;exact⟨ho,hk⟩
 sepv:=λs hs g hg e=>by
  have:s=t:=by simpa using hs
  subst this;simp only[Value.ownBlock,aW] at e;subst e;exact hn hg
 pw:=List.pairwise_singleton _ _
theorem kW.add{v':Value}(h:kW W base v ls)(x:iN)(hx:x.ba=none)(hx2:x.bn=0)(hx3:x.bc=0)(hx4:x.d.blocks= [])(hk:I64 x.d.kind/\I64 x.d.parent)(hg:W.grownBy W3 v.ownBlock)
  (ho:W3.ownsRow base 65 3 v' (ls.length+1) (ls.flatMap qN++qN x)) (hat:v'.ownBlock=v.ownBlock\/∃q,v'.ownBlock=some q/\W.heap.size<=q) (hn:ls.length<=1000):kW W3 base v' (ls++ [x]) where
 own:=by
  refine⟨?_,by simp;omega⟩;rw[bf,cw];simpa using ho
 each:=λt ht=>by
  rcases ax.1 ht with ht|ht
  .refine⟨(h.each t ht).1.kept hg ?_,(h.each t ht).2⟩;cases e:(bsV t).ownBlock with
   |none=>exact .inl rfl
   |some q=>exact .inr λe2=>h.sepv t ht q e e2.symm
  .have:t=x:=by simpa using ht
   subst this;refine⟨?_,hk⟩;rw[bsV,hx,hx2,hx3,hx4];exact gD.nil _ _
 sepv:=λt ht g hg1 hg2=>by
  rcases ax.1 ht with ht|ht
  .rcases hat with e|⟨q,e,hq⟩
   .rw[e] at hg2;exact h.sepv t ht g hg1 hg2
   .rw[e] at hg2;injection hg2 with hg2;have:=((h.each t ht).1.1.lt g hg1).2;omega
  .have:t=x:=by simpa using ht
   subst this;rw[bsV,hx] at hg1;cases hg1
 pw:=by
  rw[dP];refine⟨h.pw,List.pairwise_singleton _ _,λs _ t ht g _ hg2=>?_⟩;have:t=x:=by simpa using ht
  subst this;rw[bsV,hx] at hg2;cases hg2
theorem PD:∀(ls:List iN) (k:Nat) (t t':iN),ls[k]? =some t->t'.d.kind=t.d.kind/\t'.d.parent=t.d.parent->(ls.flatMap qN).set (k*3+2) (bsV t')=(ls.set k t').flatMap qN
 |x :: ls,0,t,t',h,he=>by
  simp only[dF,aW] at h;subst h;simp[qN,he.1,he.2]
 |x :: ls,k+1,t,t',h,he=>by
  have ih:=PD ls k t t' (by simpa using h) he;rw[dq,aH,dq,<-ih];have e:(k+1)*3+2=(qN x).length+(k*3+2):=by rw[AK];omega
  rw[e,List.set_append_right _ _ (by omega)]
  congr 2
  omega
theorem kW.turn{g n c:Nat}(h:kW W base (.slice (some ⟨g,0,none⟩) n c) ls){k:Nat}{t t':iN}(hk:ls[k]? =some t)(hg:W.grownBy W3 (bsV t).ownBlock)(ho:gD W3 base (bsV t') t'.d.blocks)(he:t'.d.kind=t.d.kind/\t'.d.parent=t.d.parent)
  (hat:(bsV t').ownBlock=(bsV t).ownBlock\/∃q,(bsV t').ownBlock=some q/\W.heap.size<=q):kW (W3.setCell ⟨g,k*3+2,none⟩ (bsV t')) base (.slice (some ⟨g,0,none⟩) n c) (ls.set k t'):=by
 have hlt:=(aE.1 hk).1
 have htm:=aK hk
 have hlen:ls.length=n:=by obtain⟨a,c',e⟩:=h.own.form;injection e with _ e _;exact e.symm
 have hgb:=h.own.low (k:=g) rfl
 have g2:=fU W3 g (k*3+2) (bsV t')
 have hne:∀s∈ls,(bsV s).ownBlock≠some g:=λs hs e=>h.sepv s hs g e rfl
 have keep:∀s,gD W base (bsV s) s.d.blocks->Sep (bsV t) (bsV s)->(bsV s).ownBlock≠some g->gD (W3.setCell ⟨g,k*3+2,none⟩ (bsV t')) base (bsV s) s.d.blocks:=λs hs hsep hng=>by
  refine(hs.kept hg ?_).kept g2 ?_
  .cases e:(bsV s).ownBlock with
   |none=>exact .inl rfl
   |some q=>exact .inr λe2=>hsep q e2.symm e
  .cases e:(bsV s).ownBlock with
   |none=>exact .inl rfl
   |some q=>exact .inr λe2=>hng (e.trans e2)
 have sepT:∀s,gD W base (bsV s) s.d.blocks->Sep (bsV t) (bsV s)->Sep (bsV t') (bsV s):=λs hs hsep q e1 e2=>by
  rcases hat with e|⟨q',e,hq⟩
  .rw[e] at e1;exact hsep q e1 e2
  .rw[e] at e1;injection e1 with e1;have:=(hs.1.lt q e2).2;omega
 have sepg:(bsV t').ownBlock≠some g:=λe=>by
  rcases hat with e1|⟨q',e1,hq⟩
  .rw[e1] at e;exact hne t htm e
  .rw[e1] at e;injection e with e;omega
 have hpw:∀i s,ls[i]? =some s->i≠k->Sep (bsV t) (bsV s):=λi s hi hik=>by
  have hil:=(aE.1 hi).1;have e1:=(aE.1 hi).2;have e2:=(aE.1 hk).2;rcases Nat.lt_or_ge i k with hl|hl
  .have:=(cH.1 h.pw) i k hil hlt hl;rw[e1,e2] at this;exact this.symm
  .have:=(cH.1 h.pw) k i hlt hil (by omega);rw[e1,e2] at this;exact this
 refine⟨?_,λs hs=>?_,λs hs=>?_,?_⟩
 .have h3:iP 65 3 qN W3 base (.slice (some ⟨g,0,none⟩) n c) ls:=h.own.kept hg (.inr λe=>hne t htm e.symm);have h4:iP 65 3 qN (W3.setCell ⟨g,k*3+2,none⟩ (bsV t')) base (.slice (some ⟨g,0,none⟩) n c) (ls.set k t'):=by
   refine⟨?_,by rw[eE];exact h.own.2⟩;have h6:=h3.1;rw[hlen] at h6;have h5:=(h6.stored (k*3+2) (bsV t')).1;rw[eE,hlen];have e:(ls.flatMap qN).set (k*3+2) (bsV t')=(ls.set k t').flatMap qN:=PD ls k t t' hk he;rw[<-e];exact h5
  exact h4
 .obtain⟨i,hi,e⟩:=bj.1 hs;rw[List.getElem_set] at e
  split at e
  .rename_i hki
   subst e;refine⟨ho.kept g2 ?_,by rw[he.1,he.2];exact(h.each t htm).2⟩;cases e:(bsV t').ownBlock with
   |none=>exact .inl rfl
   |some q=>exact .inr λe2=>sepg (e.trans e2)
  .rename_i hki
   have hi':i<ls.length:=by simpa using hi
   have hsm:s∈ls:=by rw[<-e];exact bJ hi'
   exact⟨keep s (h.each s hsm).1 (hpw i s (by rw[ah hi',e]) (λe=>hki e.symm)) (hne s hsm),(h.each s hsm).2⟩
 .obtain⟨i,hi,e⟩:=bj.1 hs;rw[List.getElem_set] at e
  split at e
  .subst e;intro q e1 e2;simp only[Value.ownBlock,aW] at e2;subst e2;exact sepg e1
  .have hi':i<ls.length:=by simpa using hi
   exact h.sepv s (by rw[<-e];exact bJ hi')
 .rw[cH];intro i j hi hj hij;have hi':i<ls.length:=by simpa using hi
  have hj':j<ls.length:=by simpa using hj
  rw[List.getElem_set,List.getElem_set];by_cases e1:k=i
  .subst e1;rw[aM rfl,az (by omega)];exact sepT _ (h.each _ (bJ hj')).1 (hpw j _ (ah hj') (by omega))
  .rw[az e1];by_cases e2:k=j
   .subst e2;rw[aM rfl];exact(sepT _ (h.each _ (bJ hi')).1 (hpw i _ (ah hi') (by omega))).symm
   .rw[az e2];exact(cH.1 h.pw) i j hi' hj' hij
end
end

section
open Go.RowKit Go.Shelf
theorem ZZ(g n c a m b base:Nat)(fv:Value)(L:List fJ)(w:World)(h:gP w base (.slice (some ⟨g,0,none⟩) n c) L)(hn:n<=1000000)(ham:a<m)(hmb:m<b)(hbn:b<=n):
  Calls Tryz.prog 252 #[.slice (some ⟨g,0,none⟩) n c,.int .i64 (a:Int),.int .i64 (m:Int),.int .i64 (b:Int),fv] w λe w'=>e=.returned (.tuple #[])/\
   ∃L',gP w' base (.slice (some ⟨g,0,none⟩) n c) L'/\Sh fH L L' a b/\(∀k,L'.getD k fH=mE (λk=>L.getD k fH) a m b k)/\Chg (λk=>k=g) w w':=by
 have H:=ac h
 clear h
 go_enter Tryz.func252,Tryz.ntmps252
 go_wp2
 go_loopw [10,11] (λs10 s11 wr=>∃(i j:Nat) (L1:List fJ),s10=.int .i64 (i:Int)/\s11=.int .i64 (j:Int)/\0<i/\0<j/\a+i<=m/\m+j<=b/\Hid (gP wr base (.slice (some ⟨g,0,none⟩) n c) L1/\Sh fH L L1 a b/\mE (λk=>L1.getD k fH) (m-i) m (m+j)=mE (λk=>L.getD k fH) a m b/\Chg (λk=>k=g) w wr)) (λs10 s11 _=>(intOf s10).toNat+(intOf s11).toNat)
 case atStart=>exact⟨m-a,b-m,L,by go_num,by go_num,by omega,by omega,by omega,by omega,H.out,Sh.refl _ _ _,by rw[show m-(m-a)=a by omega,show m+(b-m)=b by omega],Chg.refl _ _⟩
 case round=>
  obtain⟨i,j,L1,rfl,rfl,hi,hj,him,hjb,HJ⟩:=hrel;have z1:(i:Int)<=(m:Int):=by omega
  have z2:(m:Int)+(j:Int)<=1000000:=by omega
  by_cases hij:i=j
  .subst hij
   go_wp2_with (
    (go_at_call 269
     refine(uL g n c (m-i) m i base _ _ _ fv L1 wr HJ.out.1 hn (by omega) (by omega) (by omega) (by omega) (by omega)).mono ?_;rintro e w2 ⟨rfl,L2,q1,q2,q3,q4⟩
     have HJ2:Hid (gP w2 base (.slice (some ⟨g,0,none⟩) n c) L2/\Sh fH L L2 a b/\(∀k,L2.getD k fH=mE (λk=>L.getD k fH) a m b k)/\Chg (λk=>k=g) w w2):=
      ⟨q1,HJ.out.2.1.trans (q2.mono (by omega) (by omega)),λk=>by rw[q3,um _ (by omega),HJ.out.2.2.1],HJ.out.2.2.2.trans q4⟩
     clear q1 q2 q3 q4))
   go_end0
   exact⟨rfl,L2,HJ2.out⟩
  .have dne:((i:Int) != (j:Int))=true:=by simp;omega
   by_cases hlt:j<i
   .have dgt:decide ((i:Int)>(j:Int))=true:=by simp;omega
    have dgt2:decide ((j:Int)<(i:Int))=true:=by simp;omega
    have dgt3:decide (j<i)=true:=by simp;omega
    clear hij
    go_wp2_with (
     (go_at_call 269
      refine(uL g n c (m-i) m j base _ _ _ fv L1 wr HJ.out.1 hn (by omega) (by omega) (by omega) (by omega) (by omega)).mono ?_;rintro e w2 ⟨rfl,L2,q1,q2,q3,q4⟩
      have HJ2:Hid (gP w2 base (.slice (some ⟨g,0,none⟩) n c) L2/\Sh fH L L2 a b/\mE (λk=>L2.getD k fH) (m-(i-j)) m (m+j)=mE (λk=>L.getD k fH) a m b/\Chg (λk=>k=g) w w2):=
       ⟨q1,HJ.out.2.1.trans (q2.mono (by omega) (by omega)),by rw[<-HJ.out.2.2.1,<-ny _ (by omega) hlt];congr 1;funext k;exact q3 k,HJ.out.2.2.2.trans q4⟩
      clear q1 q2 q3 q4))
    go_roundw
    case rel=>exact⟨i-j,j,L2,by go_num,rfl,by omega,hj,by omega,hjb,HJ2⟩
    case measure=>simp[intOf];omega
   .have dgt:decide ((i:Int)>(j:Int))=false:=by simp;omega
    have dgt2:decide ((j:Int)<(i:Int))=false:=by simp;omega
    have dgt3:decide (j<i)=false:=by simp;omega
    have hlt2:i<j:=by omega
    clear hij
    go_wp2_with (
     (go_at_call 269
      refine(uL g n c (m-i) (m+j-i) i base _ _ _ fv L1 wr HJ.out.1 hn (by omega) (by omega) (by omega) (by omega) (by omega)).mono ?_;rintro e w2 ⟨rfl,L2,q1,q2,q3,q4⟩
      have HJ2:Hid (gP w2 base (.slice (some ⟨g,0,none⟩) n c) L2/\Sh fH L L2 a b/\mE (λk=>L2.getD k fH) (m-i) m (m+(j-i))=mE (λk=>L.getD k fH) a m b/\Chg (λk=>k=g) w w2):=
       ⟨q1,HJ.out.2.1.trans (q2.mono (by omega) (by omega)),by rw[<-HJ.out.2.2.1,<-nw _ (by omega) hlt2];congr 1;funext k;exact q3 k,HJ.out.2.2.2.trans q4⟩
      clear q1 q2 q3 q4))
    go_roundw
    case rel=>exact⟨i,j-i,L2,rfl,by go_num,hi,by omega,him,by omega,HJ2⟩
    case measure=>simp[intOf];omega
structure CN(af:Nat)(cb:Array Value)(cf:fJ->fJ->Int)(key:fJ->Nat)(base g n c:Nat)(J:List fJ->World->Prop):Prop where
 enter:∀args w,(callFunc af args).run Tryz.prog w=.ok (.enter af args) w
 cmp:∀L W,J L W->∀p q,p∈L->q∈L->Calls Tryz.prog af (#[pX p,pX q]++cb) W λe W'=>e=.returned (.int .i64 (cf p q))/\Below W.heap.size W W'
 less:∀L W,J L W->∀p q,p∈L->q∈L->(cf p q<0↔key p<key q)
 parts:∀L W,J L W->gP W base (.slice (some ⟨g,0,none⟩) n c) L
 turn:∀L L' W W',J L W->L'.Perm L->gP W' base (.slice (some ⟨g,0,none⟩) n c) L'->Chg (λk=>k=g) W W'->J L' W'
theorem CN.ext{af:Nat}{cb:Array Value}{cf:fJ->fJ->Int}{key:fJ->Nat}{base g n c:Nat}{J:List fJ->World->Prop}(S:CN af cb cf key base g n c J){L:List fJ}{W W':World}(h:J L W)(hb:Below W.heap.size W W'):J L W':=
 S.turn L L W W' h (List.Perm.refl _) ((S.parts L W h).ext hb) ((PI hb).mono λk hk=>hk.elim)
theorem lD{L:List fJ}{k:Nat}(h:k<L.length):L.getD k fH∈L:=by
 rw[ak,ah h];exact bJ _
theorem BL(af:Nat)(cb:Array Value)(cf:fJ->fJ->Int)(key:fJ->Nat)(base g n c:Nat)(J:List fJ->World->Prop)(S:CN af cb cf key base g n c J)(a b:Nat)(L:List fJ)(w:World)(h:J L w)(hn:n<=1000000)(hab:a<=b)(hbn:b<=n):
  Calls Tryz.prog 224 #[.slice (some ⟨g,0,none⟩) n c,.int .i64 (a:Int),.int .i64 (b:Int),.func (.func af) #[] cb] w λe w'=>e=.returned (.tuple #[])/\
   ∃L',J L' w'/\Sh fH L L' a b/\Srt fH key L' a b:=by
 have H:=ac h
 have HS:=ac S
 have eF:=S.enter
 clear h S
 have S:=HS
 clear HS
 go_enter Tryz.func224,Tryz.ntmps224
 go_wp2
 go_loopw [8,9] (λs8 _ wr=>∃(i:Nat) (L1:List fJ),a+1<=i/\(i<=b\/i=a+1)/\s8=.int .i64 (i:Int)/\Hid (Srt fH key L1 a i)/\Hid (Sh fH L L1 a b)/\Hid (J L1 wr)) (λs8 _ _=>b+1-(intOf s8).toNat)
 case atStart=>exact⟨a+1,L,by omega,.inr rfl,by go_num,Srt.one key _ (by omega),Sh.refl _ _ _,H⟩
 case round=>
  obtain⟨i,L1,hi1,hi2,rfl,HSR,HSH1,HJ1⟩:=hrel;by_cases hlt:i<b
  .have hlt':(i:Int)<(b:Int):=by omega
   go_wp2
   go_loopw [9] (λs9 wi=>∃(j:Nat) (L2:List fJ),j<=i/\s9=.int .i64 (j:Int)/\Hid (NB fH key L2 a i j)/\Hid (Sh fH L L2 a b)/\Hid (J L2 wi)) (λs9 _=>(intOf s9).toNat)
   case atStart=>exact⟨i,L1,by omega,rfl,NB.start key HSR.out (by omega),HSH1,HJ1⟩
   case round=>
    obtain⟨j,L2,hj,rfl,HIJ0,HSH0,HJ⟩:=hrel;clear HSR HSH1 HJ1;have haj:=HIJ0.out.low.1;by_cases hja:a<j
    .have dj:decide ((j:Int)>(a:Int))=true:=by simp;omega
     have dj2:decide ((a:Int)<(j:Int))=true:=by simp;omega
     have dj3:decide (a<j)=true:=by simp;omega
     by_cases hcv:True
     .skip
      have h0:=S.out.parts _ _ HJ.out;have hL2:=h0.len;have hp1:∀w',(∃m:fL wr,w'=m.val)->w'.rangeAt g (j*202) (gJ (L2.getD j fH)):=λw' ⟨m,e⟩=>by rw[e];exact jP (h0.ext m.ext) (by omega)
      have hp2:∀w',(∃m:fL wr,w'=m.val)->w'.rangeAt g ((j-1)*202) (gJ (L2.getD (j-1) fH)):=λw' ⟨m,e⟩=>by rw[e];exact jP (h0.ext m.ext) (by omega)
      have HCM:Hid (∀m:fL wr,Calls Tryz.prog af (#[pX (L2.getD j fH),pX (L2.getD (j-1) fH)]++cb) m.val λe w''=>e=.returned (.int .i64 (cf (L2.getD j fH) (L2.getD (j-1) fH)))/\∃q:fL wr,w''=q.val):=λm=>oL (S.out.cmp _ _ (S.out.ext HJ.out m.ext) _ _ (lD (by omega)) (lD (by omega)));have HLS:=ac (S.out.less _ _ HJ.out _ _ (lD (L:=L2) (k:=j) (by omega)) (lD (L:=L2) (k:=j-1) (by omega)));obtain⟨cc,hcc⟩:∃cc,cc=cf (L2.getD j fH) (L2.getD (j-1) fH):=⟨_,rfl⟩
      rw[<-hcc] at HCM HLS;obtain⟨xj,hxj⟩:∃xj,xj=L2.getD j fH:=⟨_,rfl⟩
      obtain⟨xp,hxp⟩:∃xp,xp=L2.getD (j-1) fH:=⟨_,rfl⟩
      rw[<-hxj] at hp1 HCM;rw[<-hxp] at hp2 HCM;have hji:((j:Int)-1).toNat=j-1:=by omega
      have hjj:(0:Int)<=(j:Int)-1:=by omega
      have hjk:(j:Int)-1<(n:Int):=by omega
      have hjl:(j:Int)<(n:Int):=by omega
      clear hcc hxj hxp h0;go_wp2;refine jH (by kernel_rfl) (by kernel_rfl) ?_
      repeat (first
       |go_big_quiet_skip
       |(refine gU (o:=⟨some 26,.load 142 _,_,_,_,_⟩) (by rfl) 142 _ rfl g (j*202) rfl (gJ xj) _ hp1 bm rfl (hX _) ?_;simp only[zJ,zG,zH,zI])
       |(refine gU (o:=⟨some 31,.load 142 _,_,_,_,_⟩) (by rfl) 142 _ rfl g ((j-1)*202) rfl (gJ xp) _ hp2 bm rfl (hX _) ?_;simp only[zJ,zG,zH,zI])
       |go_big_quiet_step (first|(go_at_fn af;exact HCM.out _)))
      refine aq ?_;intro _ hw';obtain⟨n',rfl⟩:=hw';have HJ1:=ac (S.out.ext HJ.out n'.ext);generalize n'.val=W8 at *;clear hp1 hp2 HCM;by_cases hlv:cc<0
      .have dcc:decide (cc<0)=true:=by simpa using hlv
       have hkk:=HLS.out.1 hlv;have HIJ:Hid (NB fH key (mA fH L2 j (j-1)) a i (j-1)):=HIJ0.out.step key hja (by omega) (Nat.le_of_lt hkk);have HSH:Hid (Sh fH L (mA fH L2 j (j-1)) a b):=HSH0.out.trans (Sh.swap L2 (by omega) (by omega) (by omega));have h9:=S.out.parts _ _ HJ1.out;clear hkk HLS;go_wp2;have h1:=gP.drew h9;have hr1:=jP h1 (k:=j) (by omega);have hr2:=jP h1 (k:=j-1) (by omega);have ht1:=pA h1 (k:=j) (by omega) (L2.getD (j-1) fH);have h2:=sU h1 (k:=j) (by omega) (L2.getD (j-1) fH);have ht2:=pA h2 (k:=j-1) (by omega) (L2.getD (j) fH);have h3:=sU h2 (k:=j-1) (by omega) (L2.getD (j) fH);obtain⟨w8,hw8⟩:∃w8,w8=W8.drew.setCells g ((j)*202) (gJ (L2.getD (j-1) fH)):=⟨_,rfl⟩
       rw[<-hw8] at ht2 h3;obtain⟨w9,hw9⟩:∃w9,w9=w8.setCells g ((j-1)*202) (gJ (L2.getD (j) fH)):=⟨_,rfl⟩
       rw[<-hw9] at h3;have HSW:Hid (gP w9 base (.slice (some ⟨g,0,none⟩) n c) (mA fH L2 (j) (j-1))):=h3;have HCW:Hid (Chg (λk=>k=g) W8 w9):=by
        rw[Hid,hw9,hw8];exact lC (S:=λk=>k=g) rfl _ _ _ (lC (S:=λk=>k=g) rfl _ _ _ ((Chg.refl _ _).drewN 1))
       clear h1 h2 h3;generalize L2.getD (j) fH=xp at *;generalize L2.getD (j-1) fH=xq at *;refine rG (λ_=>True) (by kernel_rfl) ?_;refine gR 0 9 (by kernel_rfl) trivial ?_;simp only[ap,aD,am,aw]
       repeat (go_big_quiet_step (fail))
       refine aq ?_;refine gR 10 3 (by kernel_rfl) trivial ?_;simp only[ap,aD,am,aw]
       repeat (go_big_quiet_step (fail))
       refine aq ?_;refine NQ 9 13 (by kernel_rfl) ?_ ?_
       .refine fF rfl rfl ?_;refine cp 142 _ rfl g ((j-1)*202) rfl (gJ xq) _ hr2 bm rfl (hX _) ?_;refine⟨Or.inr trivial,?_⟩;simp only[zJ,zG,zH,zI];refine jD 13 (by kernel_rfl) ?_;refine fF rfl rfl ?_;refine cp 142 _ rfl g ((j)*202) rfl (gJ xp) _ hr1 bm rfl (hX _) ?_;refine⟨Or.inr trivial,?_⟩;simp only[zJ,zG,zH,zI];refine gR 14 1 (by kernel_rfl) trivial ?_;simp only[ap,aD,am,aw]
        repeat (go_big_quiet_step (fail))
        refine aq ?_;refine jD 15 (by kernel_rfl) ?_;refine fF rfl rfl ?_;refine dh 142 _ _ rfl g ((j)*202) (gJ xq).toArray rfl rfl ht1 (hZ _) (bH (iO _)) ?_;simp only[kN,jG];rw[<-hw8];refine⟨Or.inr trivial,?_⟩;refine gR 16 1 (by kernel_rfl) trivial ?_;simp only[ap,aD,am,aw]
        repeat (go_big_quiet_step (fail))
        refine aq ?_;refine jD 17 (by kernel_rfl) ?_;refine fF rfl rfl ?_;refine dh 142 _ _ rfl g ((j-1)*202) (gJ xp).toArray rfl rfl ht2 (hZ _) (bH (iO _)) ?_;simp only[kN,jG];rw[<-hw9];refine⟨Or.inr trivial,?_⟩;refine oO (by kernel_rfl) ?_;clear hw9 hw8;have HJW:Hid (J (mA fH L2 j (j-1)) w9):=S.out.turn _ _ _ _ HJ1.out (qK fH L2 (by omega) (by omega)) HSW.out HCW.out;go_wp2
        go_roundw
        case rel=>exact⟨j-1,_,by omega,by go_num,HIJ,HSH,HJW⟩
        case measure=>simp[intOf];omega
       .refine fF rfl rfl ?_;refine cp 142 _ rfl g ((j)*202) rfl (gJ xp) _ hr1 bm rfl (hX _) ?_;refine⟨Or.inr trivial,?_⟩;simp only[zJ,zG,zH,zI];refine jD 9 (by kernel_rfl) ?_;refine fF rfl rfl ?_;refine cp 142 _ rfl g ((j-1)*202) rfl (gJ xq) _ hr2 bm rfl (hX _) ?_;refine⟨Or.inr trivial,?_⟩;simp only[zJ,zG,zH,zI];refine gR 14 1 (by kernel_rfl) trivial ?_;simp only[ap,aD,am,aw]
        repeat (go_big_quiet_step (fail))
        refine aq ?_;refine jD 15 (by kernel_rfl) ?_;refine fF rfl rfl ?_;refine dh 142 _ _ rfl g ((j)*202) (gJ xq).toArray rfl rfl ht1 (hZ _) (bH (iO _)) ?_;simp only[kN,jG];rw[<-hw8];refine⟨Or.inr trivial,?_⟩;refine gR 16 1 (by kernel_rfl) trivial ?_;simp only[ap,aD,am,aw]
        repeat (go_big_quiet_step (fail))
        refine aq ?_;refine jD 17 (by kernel_rfl) ?_;refine fF rfl rfl ?_;refine dh 142 _ _ rfl g ((j-1)*202) (gJ xp).toArray rfl rfl ht2 (hZ _) (bH (iO _)) ?_;simp only[kN,jG];rw[<-hw9];refine⟨Or.inr trivial,?_⟩;refine oO (by kernel_rfl) ?_;clear hw9 hw8;have HJW:Hid (J (mA fH L2 j (j-1)) w9):=S.out.turn _ _ _ _ HJ1.out (qK fH L2 (by omega) (by omega)) HSW.out HCW.out;go_wp2
        go_roundw
        case rel=>exact⟨j-1,_,by omega,by go_num,HIJ,HSH,HJW⟩
        case measure=>simp[intOf];omega
      .have dcc:decide (cc<0)=false:=by simpa using hlv
       have HSR2:Hid (Srt fH key L2 a (i+1)):=HIJ0.out.fin key (.inr (Nat.le_of_not_lt λh=>hlv (HLS.out.2 h)));clear HLS;go_wp2
       go_roundw
       case rel=>exact⟨i+1,L2,by omega,.inl (by omega),by go_num,HSR2,HSH0,HJ1⟩
       case measure=>simp[intOf];omega
     .exact absurd trivial hcv
    .have dj:decide ((j:Int)>(a:Int))=false:=by simp;omega
     have dj2:decide ((a:Int)<(j:Int))=false:=by simp;omega
     have dj3:decide (a<j)=false:=by simp;omega
     have HSR2:Hid (Srt fH key L2 a (i+1)):=HIJ0.out.fin key (.inl (by omega));go_wp2;refine jH (by kernel_rfl) (by kernel_rfl) ?_
     repeat (first
      |go_big_quiet_skip
      |go_big_quiet_step (fail))
     refine aq ?_;intro _ hw';obtain⟨n',rfl⟩:=hw';have HJ1:=ac (S.out.ext HJ.out n'.ext);generalize n'.val=W8 at *;go_wp2
     go_roundw
     case rel=>exact⟨i+1,L2,by omega,.inl (by omega),by go_num,HSR2,HSH0,HJ1⟩
     case measure=>simp[intOf];omega
  .have hlt':¬(i:Int)<(b:Int):=by omega
   have HF:Hid (Srt fH key L1 a b):=by
    by_cases e:i=b
    .subst e;exact HSR.out
    .exact Srt.one key _ (by omega)
   go_wp2
   go_end0
   exact⟨rfl,L1,HJ1.out,HSH1.out,HF.out⟩
end

section
open Go.RowKit Go.Shelf
theorem WR(af:Nat)(cb:Array Value)(cf:fJ->fJ->Int)(key:fJ->Nat)(base g n c:Nat)(J:List fJ->World->Prop)(S:CN af cb cf key base g n c J)(hn:n<=1000000)(a m b:Nat)(L:List fJ)(w:World)(h:J L w)(ham:a<m)(hmb:m<b)(hbn:b<=n)(hs1:Srt fH key L a m)(hs2:Srt fH key L m b)(h1:m=a+1):
  Calls Tryz.prog 225 #[.slice (some ⟨g,0,none⟩) n c,.int .i64 (a:Int),.int .i64 (m:Int),.int .i64 (b:Int),.func (.func af) #[] cb] w λe w'=>e=.returned (.tuple #[])/\
   ∃L',J L' w'/\Sh fH L L' a b/\Srt fH key L' a b:=by
 have H:=ac h
 have HS:=ac S
 have eF:=S.enter
 have HS1:=ac hs1
 have HS2:=ac hs2
 have hlen:=(S.parts _ _ h).len
 have zab:(a:Int)<(m:Int):=by omega
 have zmb:(m:Int)<(b:Int):=by omega
 have zbn:(b:Int)<=1000000:=by omega
 clear h S hs1 hs2
 have S:=HS
 clear HS
 have d1:((m:Int)-(a:Int)==1)=true:=by simp;omega
 go_enter Tryz.func225,Tryz.ntmps225
 go_wp2
 go_loopw [10,11,12] (λs10 s11 _ wr=>∃i j:Nat,m<=i/\i<=j/\j<=b/\s10=.int .i64 (i:Int)/\s11=.int .i64 (j:Int)/\Hid (i=m\/kAt fH key L (i-1)<=kAt fH key L a)/\Hid (j=b\/kAt fH key L a<=kAt fH key L j)/\Hid (J L wr)) (λs10 s11 _ _=>(intOf s11).toNat-(intOf s10).toNat)
 case atStart=>exact⟨m,b,by omega,by omega,by omega,rfl,rfl,.inl rfl,.inl rfl,H⟩
 case round=>
  obtain⟨i,j,hi1,hij,hjb,rfl,rfl,HI,HJJ,HJ⟩:=hrel;by_cases hlt:i<j
  .have hlt':(i:Int)<(j:Int):=by omega
   obtain⟨q,hq⟩:∃q:Nat,q=(i+j)/2:=⟨_,rfl⟩
   have hmid:((i:Int)+(j:Int))/2=(q:Int):=by omega
   have hq1:i<=q:=by omega
   have hq2:q<j:=by omega
   have hqn:(q:Int)<(n:Int):=by omega
   have han:(a:Int)<(n:Int):=by omega
   have zij:(i:Int)+(j:Int)<=2000000:=by omega
   clear hq;have h0:=S.out.parts _ _ HJ.out;have hL2:=h0.len;have hp1:∀w',(∃nn:fL wr,w'=nn.val)->w'.rangeAt g (q*202) (gJ (L.getD q fH)):=λw' ⟨nn,e⟩=>by rw[e];exact jP (h0.ext nn.ext) (by omega)
   have hp2:∀w',(∃nn:fL wr,w'=nn.val)->w'.rangeAt g (a*202) (gJ (L.getD a fH)):=λw' ⟨nn,e⟩=>by rw[e];exact jP (h0.ext nn.ext) (by omega)
   have HCM:Hid (∀nn:fL wr,Calls Tryz.prog af (#[pX (L.getD q fH),pX (L.getD a fH)]++cb) nn.val λe w''=>e=.returned (.int .i64 (cf (L.getD q fH) (L.getD a fH)))/\∃q:fL wr,w''=q.val):=λnn=>oL (S.out.cmp _ _ (S.out.ext HJ.out nn.ext) _ _ (lD (by omega)) (lD (by omega)));have HLS:=ac (S.out.less _ _ HJ.out _ _ (lD (L:=L) (k:=q) (by omega)) (lD (L:=L) (k:=a) (by omega)));obtain⟨cc,hcc⟩:∃cc,cc=cf (L.getD q fH) (L.getD a fH):=⟨_,rfl⟩
   rw[<-hcc] at HCM HLS;obtain⟨xj,hxj⟩:∃xj,xj=L.getD q fH:=⟨_,rfl⟩
   obtain⟨xp,hxp⟩:∃xp,xp=L.getD a fH:=⟨_,rfl⟩
   rw[<-hxj] at hp1 HCM;rw[<-hxp] at hp2 HCM;clear hcc hxj hxp h0;go_wp2;refine jH (by kernel_rfl) (by kernel_rfl) ?_
   repeat (first
    |go_big_quiet_skip
    |(refine gU (o:=⟨some 44,.load 142 _,_,_,_,_⟩) (by rfl) 142 _ rfl g (q*202) rfl (gJ xj) _ hp1 bm rfl (hX _) ?_;simp only[zJ,zG,zH,zI])
    |(refine gU (o:=⟨some 48,.load 142 _,_,_,_,_⟩) (by rfl) 142 _ rfl g (a*202) rfl (gJ xp) _ hp2 bm rfl (hX _) ?_;simp only[zJ,zG,zH,zI])
    |go_big_quiet_step (first|(go_at_fn af;exact HCM.out _)))
   refine aq ?_;intro _ hw';obtain⟨n',rfl⟩:=hw';have HJ1:=ac (S.out.ext HJ.out n'.ext);generalize n'.val=W8 at *;clear hp1 hp2 HCM;by_cases hlv:cc<0
   .have dcc:decide (cc<0)=true:=by simpa using hlv
    have HI2:Hid (q+1=m\/kAt fH key L (q+1-1)<=kAt fH key L a):=.inr (Nat.le_of_lt (HLS.out.1 hlv));clear HLS;go_wp2
    go_roundw
    case rel=>exact⟨q+1,j,by omega,by omega,hjb,by go_num,rfl,HI2,HJJ,HJ1⟩
    case measure=>simp[intOf];omega
   .have dcc:decide (cc<0)=false:=by simpa using hlv
    have HJ2:Hid (q=b\/kAt fH key L a<=kAt fH key L q):=.inr (Nat.le_of_not_lt λh=>hlv (HLS.out.2 h));clear HLS;go_wp2
    go_roundw
    case rel=>exact⟨i,q,hi1,hq1,by omega,rfl,rfl,HI,HJ2,HJ1⟩
    case measure=>simp[intOf];omega
  .obtain rfl:i=j:=by omega
   have hlt':¬(i:Int)<(i:Int):=by omega
   clear hlt;go_wp2
   go_loopw [13] (λs13 wi=>∃(k:Nat) (L2:List fJ),a<=k/\k+1<=i/\s13=.int .i64 (k:Int)/\Hid (∀x,L2.getD x fH=mE (λx=>L.getD x fH) a (a+1) (k+1) x)/\Hid (Sh fH L L2 a b)/\Hid (J L2 wi)) (λs13 _=>i-(intOf s13).toNat)
   case atStart=>exact⟨a,L,by omega,by omega,rfl,λx=>by rw[yg],Sh.refl _ _ _,HJ⟩
   case round=>
    obtain⟨k,L2,hk1,hk2,rfl,HRT,HSH,HJ2⟩:=hrel;by_cases hki:k+1<i
    .have hki':(k:Int)<(i:Int)-1:=by omega
     have h9:=S.out.parts _ _ HJ2.out;have hL2:=h9.len;have HRT2:Hid (∀x,(mA fH L2 k (k+1)).getD x fH=mE (λx=>L.getD x fH) a (a+1) (k+1+1) x):=λx=>by
      rw[wC fH L2 (by omega) (by omega),<-Cm _ hk1,HRT.out,HRT.out,HRT.out]
     have HSH2:Hid (Sh fH L (mA fH L2 k (k+1)) a b):=HSH.out.trans (Sh.swap L2 (by omega) (by omega) (by omega));have zk1:(k:Int)+1<(n:Int):=by omega
     have zk2:(k:Int)<(n:Int):=by omega
     go_wp2;have h1:=gP.drew h9;have hr1:=jP h1 (k:=k) (by omega);have hr2:=jP h1 (k:=k+1) (by omega);have ht1:=pA h1 (k:=k) (by omega) (L2.getD (k+1) fH);have h2:=sU h1 (k:=k) (by omega) (L2.getD (k+1) fH);have ht2:=pA h2 (k:=k+1) (by omega) (L2.getD (k) fH);have h3:=sU h2 (k:=k+1) (by omega) (L2.getD (k) fH);obtain⟨w8,hw8⟩:∃w8,w8=wr.drew.setCells g ((k)*202) (gJ (L2.getD (k+1) fH)):=⟨_,rfl⟩
     rw[<-hw8] at ht2 h3;obtain⟨w9,hw9⟩:∃w9,w9=w8.setCells g ((k+1)*202) (gJ (L2.getD (k) fH)):=⟨_,rfl⟩
     rw[<-hw9] at h3;have HSW:Hid (gP w9 base (.slice (some ⟨g,0,none⟩) n c) (mA fH L2 (k) (k+1))):=h3;have HCW:Hid (Chg (λk=>k=g) wr w9):=by
      rw[Hid,hw9,hw8];exact lC (S:=λk=>k=g) rfl _ _ _ (lC (S:=λk=>k=g) rfl _ _ _ ((Chg.refl _ _).drewN 1))
     clear h1 h2 h3;generalize L2.getD (k) fH=xp at *;generalize L2.getD (k+1) fH=xq at *;refine rG (λ_=>True) (by kernel_rfl) ?_;refine gR 0 9 (by kernel_rfl) trivial ?_;simp only[ap,aD,am,aw]
     repeat (go_big_quiet_step (fail))
     refine aq ?_;refine gR 10 3 (by kernel_rfl) trivial ?_;simp only[ap,aD,am,aw]
     repeat (go_big_quiet_step (fail))
     refine aq ?_;refine NQ 9 13 (by kernel_rfl) ?_ ?_
     .refine fF rfl rfl ?_;refine cp 142 _ rfl g ((k+1)*202) rfl (gJ xq) _ hr2 bm rfl (hX _) ?_;refine⟨Or.inr trivial,?_⟩;simp only[zJ,zG,zH,zI];refine jD 13 (by kernel_rfl) ?_;refine fF rfl rfl ?_;refine cp 142 _ rfl g ((k)*202) rfl (gJ xp) _ hr1 bm rfl (hX _) ?_;refine⟨Or.inr trivial,?_⟩;simp only[zJ,zG,zH,zI];refine gR 14 1 (by kernel_rfl) trivial ?_;simp only[ap,aD,am,aw]
      repeat (go_big_quiet_step (fail))
      refine aq ?_;refine jD 15 (by kernel_rfl) ?_;refine fF rfl rfl ?_;refine dh 142 _ _ rfl g ((k)*202) (gJ xq).toArray rfl rfl ht1 (hZ _) (bH (iO _)) ?_;simp only[kN,jG];rw[<-hw8];refine⟨Or.inr trivial,?_⟩;refine gR 16 1 (by kernel_rfl) trivial ?_;simp only[ap,aD,am,aw]
      repeat (go_big_quiet_step (fail))
      refine aq ?_;refine jD 17 (by kernel_rfl) ?_;refine fF rfl rfl ?_;refine dh 142 _ _ rfl g ((k+1)*202) (gJ xp).toArray rfl rfl ht2 (hZ _) (bH (iO _)) ?_;simp only[kN,jG];rw[<-hw9];refine⟨Or.inr trivial,?_⟩;refine oO (by kernel_rfl) ?_;clear hw9 hw8;have HJW:Hid (J (mA fH L2 k (k+1)) w9):=S.out.turn _ _ _ _ HJ2.out (qK fH L2 (by omega) (by omega)) HSW.out HCW.out;go_wp2
      go_roundw
      case rel=>exact⟨k+1,_,by omega,by omega,by go_num,HRT2,HSH2,HJW⟩
      case measure=>simp[intOf];omega
     .refine fF rfl rfl ?_;refine cp 142 _ rfl g ((k)*202) rfl (gJ xp) _ hr1 bm rfl (hX _) ?_;refine⟨Or.inr trivial,?_⟩;simp only[zJ,zG,zH,zI];refine jD 9 (by kernel_rfl) ?_;refine fF rfl rfl ?_;refine cp 142 _ rfl g ((k+1)*202) rfl (gJ xq) _ hr2 bm rfl (hX _) ?_;refine⟨Or.inr trivial,?_⟩;simp only[zJ,zG,zH,zI];refine gR 14 1 (by kernel_rfl) trivial ?_;simp only[ap,aD,am,aw]
      repeat (go_big_quiet_step (fail))
      refine aq ?_;refine jD 15 (by kernel_rfl) ?_;refine fF rfl rfl ?_;refine dh 142 _ _ rfl g ((k)*202) (gJ xq).toArray rfl rfl ht1 (hZ _) (bH (iO _)) ?_;simp only[kN,jG];rw[<-hw8];refine⟨Or.inr trivial,?_⟩;refine gR 16 1 (by kernel_rfl) trivial ?_;simp only[ap,aD,am,aw]
      repeat (go_big_quiet_step (fail))
      refine aq ?_;refine jD 17 (by kernel_rfl) ?_;refine fF rfl rfl ?_;refine dh 142 _ _ rfl g ((k+1)*202) (gJ xp).toArray rfl rfl ht2 (hZ _) (bH (iO _)) ?_;simp only[kN,jG];rw[<-hw9];refine⟨Or.inr trivial,?_⟩;refine oO (by kernel_rfl) ?_;clear hw9 hw8;have HJW:Hid (J (mA fH L2 k (k+1)) w9):=S.out.turn _ _ _ _ HJ2.out (qK fH L2 (by omega) (by omega)) HSW.out HCW.out;go_wp2
      go_roundw
      case rel=>exact⟨k+1,_,by omega,by omega,by go_num,HRT2,HSH2,HJW⟩
      case measure=>simp[intOf];omega
    .have hki':¬(k:Int)<(i:Int)-1:=by omega
     have hik:i=k+1:=by omega
     have HF:Hid (Srt fH key L2 a b):=by
      subst hik;refine uw (L:=L) (i:=k+1) (by rw[<-h1];exact HS2.out) (by omega) hjb (HI.out.imp (λh=>by omega) id) HJJ.out HRT.out
     go_wp2
     (try simp only[Exit.inBlock,Exit.then])
     refine aR (results_none rfl _ _ _) rfl ?_;exact⟨rfl,L2,HJ2.out,HSH.out,HF.out⟩
theorem RO(af:Nat)(cb:Array Value)(cf:fJ->fJ->Int)(key:fJ->Nat)(base g n c:Nat)(J:List fJ->World->Prop)(S:CN af cb cf key base g n c J)(hn:n<=1000000)(a m b:Nat)(L:List fJ)(w:World)(h:J L w)(ham:a<m)(hmb:m<b)(hbn:b<=n)(hs1:Srt fH key L a m)(hs2:Srt fH key L m b)(h1:m≠a+1)(h2:b=m+1):
  Calls Tryz.prog 225 #[.slice (some ⟨g,0,none⟩) n c,.int .i64 (a:Int),.int .i64 (m:Int),.int .i64 (b:Int),.func (.func af) #[] cb] w λe w'=>e=.returned (.tuple #[])/\
   ∃L',J L' w'/\Sh fH L L' a b/\Srt fH key L' a b:=by
 have H:=ac h
 have HS:=ac S
 have eF:=S.enter
 have HS1:=ac hs1
 have HS2:=ac hs2
 have hlen:=(S.parts _ _ h).len
 have zab:(a:Int)<(m:Int):=by omega
 have zmb:(m:Int)<(b:Int):=by omega
 have zbn:(b:Int)<=1000000:=by omega
 clear h S hs1 hs2
 have S:=HS
 clear HS
 have d1:((m:Int)-(a:Int)==1)=false:=by simp;omega
 have d2:((b:Int)-(m:Int)==1)=true:=by simp;omega
 clear h1
 go_enter Tryz.func225,Tryz.ntmps225
 go_wp2
 go_loopw [14,15,16] (λs14 s15 _ wr=>∃i j:Nat,a<=i/\i<=j/\j<=m/\s14=.int .i64 (i:Int)/\s15=.int .i64 (j:Int)/\Hid (i=a\/kAt fH key L (i-1)<=kAt fH key L m)/\Hid (j=m\/kAt fH key L m<=kAt fH key L j)/\Hid (J L wr)) (λs14 s15 _ _=>(intOf s15).toNat-(intOf s14).toNat)
 case atStart=>exact⟨a,m,by omega,by omega,by omega,rfl,rfl,.inl rfl,.inl rfl,H⟩
 case round=>
  obtain⟨i,j,hi1,hij,hjb,rfl,rfl,HI,HJJ,HJ⟩:=hrel;by_cases hlt:i<j
  .have hlt':(i:Int)<(j:Int):=by omega
   obtain⟨q,hq⟩:∃q:Nat,q=(i+j)/2:=⟨_,rfl⟩
   have hmid:((i:Int)+(j:Int))/2=(q:Int):=by omega
   have hq1:i<=q:=by omega
   have hq2:q<j:=by omega
   have hqn:(q:Int)<(n:Int):=by omega
   have han:(m:Int)<(n:Int):=by omega
   have zij:(i:Int)+(j:Int)<=2000000:=by omega
   clear hq;have h0:=S.out.parts _ _ HJ.out;have hL2:=h0.len;have hp1:∀w',(∃nn:fL wr,w'=nn.val)->w'.rangeAt g (m*202) (gJ (L.getD m fH)):=λw' ⟨nn,e⟩=>by rw[e];exact jP (h0.ext nn.ext) (by omega)
   have hp2:∀w',(∃nn:fL wr,w'=nn.val)->w'.rangeAt g (q*202) (gJ (L.getD q fH)):=λw' ⟨nn,e⟩=>by rw[e];exact jP (h0.ext nn.ext) (by omega)
   have HCM:Hid (∀nn:fL wr,Calls Tryz.prog af (#[pX (L.getD m fH),pX (L.getD q fH)]++cb) nn.val λe w''=>e=.returned (.int .i64 (cf (L.getD m fH) (L.getD q fH)))/\∃q:fL wr,w''=q.val):=λnn=>oL (S.out.cmp _ _ (S.out.ext HJ.out nn.ext) _ _ (lD (by omega)) (lD (by omega)));have HLS:=ac (S.out.less _ _ HJ.out _ _ (lD (L:=L) (k:=m) (by omega)) (lD (L:=L) (k:=q) (by omega)));obtain⟨cc,hcc⟩:∃cc,cc=cf (L.getD m fH) (L.getD q fH):=⟨_,rfl⟩
   rw[<-hcc] at HCM HLS;obtain⟨xj,hxj⟩:∃xj,xj=L.getD m fH:=⟨_,rfl⟩
   obtain⟨xp,hxp⟩:∃xp,xp=L.getD q fH:=⟨_,rfl⟩
   rw[<-hxj] at hp1 HCM;rw[<-hxp] at hp2 HCM;clear hcc hxj hxp h0;go_wp2;refine jH (by kernel_rfl) (by kernel_rfl) ?_
   repeat (first
    |go_big_quiet_skip
    |(refine gU (o:=⟨some 96,.load 142 _,_,_,_,_⟩) (by rfl) 142 _ rfl g (m*202) rfl (gJ xj) _ hp1 bm rfl (hX _) ?_;simp only[zJ,zG,zH,zI])
    |(refine gU (o:=⟨some 100,.load 142 _,_,_,_,_⟩) (by rfl) 142 _ rfl g (q*202) rfl (gJ xp) _ hp2 bm rfl (hX _) ?_;simp only[zJ,zG,zH,zI])
    |go_big_quiet_step (first|(go_at_fn af;exact HCM.out _)))
   refine aq ?_;intro _ hw';obtain⟨n',rfl⟩:=hw';have HJ1:=ac (S.out.ext HJ.out n'.ext);generalize n'.val=W8 at *;clear hp1 hp2 HCM;by_cases hlv:cc<0
   .have dcc:decide (cc<0)=true:=by simpa using hlv
    simp only[dcc,Bool.not_true];have HJ2:Hid (q=m\/kAt fH key L m<=kAt fH key L q):=.inr (Nat.le_of_lt (HLS.out.1 hlv));clear HLS;go_wp2
    go_roundw
    case rel=>exact⟨i,q,hi1,hq1,by omega,rfl,rfl,HI,HJ2,HJ1⟩
    case measure=>simp[intOf];omega
   .have dcc:decide (cc<0)=false:=by simpa using hlv
    simp only[dcc,Bool.not_false];have HI2:Hid (q+1=a\/kAt fH key L (q+1-1)<=kAt fH key L m):=.inr (Nat.le_of_not_lt λh=>hlv (HLS.out.2 h));clear HLS;go_wp2
    go_roundw
    case rel=>exact⟨q+1,j,by omega,by omega,hjb,by go_num,rfl,HI2,HJJ,HJ1⟩
    case measure=>simp[intOf];omega
  .obtain rfl:i=j:=by omega
   have hlt':¬(i:Int)<(i:Int):=by omega
   clear hlt;go_wp2
   go_loopw [17] (λs17 wi=>∃(k:Nat) (L2:List fJ),i<=k/\k<=m/\s17=.int .i64 (k:Int)/\Hid (∀x,L2.getD x fH=mE (λx=>L.getD x fH) k m (m+1) x)/\Hid (Sh fH L L2 a b)/\Hid (J L2 wi)) (λs17 _=>(intOf s17).toNat)
   case atStart=>exact⟨m,L,by omega,by omega,rfl,λx=>by rw[rr],Sh.refl _ _ _,HJ⟩
   case round=>
    obtain⟨k,L2,hk1,hk2,rfl,HRT,HSH,HJ2⟩:=hrel;by_cases hki:i<k
    .have hki':(k:Int)>(i:Int):=by omega
     have hki2:(i:Int)<(k:Int):=by omega
     obtain⟨kp,hkp⟩:∃kp,k=kp+1:=⟨k-1,by omega⟩
     have h9:=S.out.parts _ _ HJ2.out;have hL2:=h9.len;have HRT2:Hid (∀x,(mA fH L2 k (k-1)).getD x fH=mE (λx=>L.getD x fH) (k-1) m (m+1) x):=λx=>by
      rw[wC fH L2 (by omega) (by omega),hkp,Nat.add_sub_cancel,<-yh _ (show kp+1<=m by omega),HRT.out,HRT.out,HRT.out,hkp]
     have HSH2:Hid (Sh fH L (mA fH L2 k (k-1)) a b):=HSH.out.trans (Sh.swap L2 (by omega) (by omega) (by omega));have hji:((k:Int)-1).toNat=k-1:=by omega
     have hjj:(0:Int)<=(k:Int)-1:=by omega
     have hjk:(k:Int)-1<(n:Int):=by omega
     have hjl:(k:Int)<(n:Int):=by omega
     clear hkp;go_wp2;have h1:=gP.drew h9;have hr1:=jP h1 (k:=k) (by omega);have hr2:=jP h1 (k:=k-1) (by omega);have ht1:=pA h1 (k:=k) (by omega) (L2.getD (k-1) fH);have h2:=sU h1 (k:=k) (by omega) (L2.getD (k-1) fH);have ht2:=pA h2 (k:=k-1) (by omega) (L2.getD (k) fH);have h3:=sU h2 (k:=k-1) (by omega) (L2.getD (k) fH);obtain⟨w8,hw8⟩:∃w8,w8=wr.drew.setCells g ((k)*202) (gJ (L2.getD (k-1) fH)):=⟨_,rfl⟩
     rw[<-hw8] at ht2 h3;obtain⟨w9,hw9⟩:∃w9,w9=w8.setCells g ((k-1)*202) (gJ (L2.getD (k) fH)):=⟨_,rfl⟩
     rw[<-hw9] at h3;have HSW:Hid (gP w9 base (.slice (some ⟨g,0,none⟩) n c) (mA fH L2 (k) (k-1))):=h3;have HCW:Hid (Chg (λk=>k=g) wr w9):=by
      rw[Hid,hw9,hw8];exact lC (S:=λk=>k=g) rfl _ _ _ (lC (S:=λk=>k=g) rfl _ _ _ ((Chg.refl _ _).drewN 1))
     clear h1 h2 h3;generalize L2.getD (k) fH=xp at *;generalize L2.getD (k-1) fH=xq at *;refine rG (λ_=>True) (by kernel_rfl) ?_;refine gR 0 9 (by kernel_rfl) trivial ?_;simp only[ap,aD,am,aw]
     repeat (go_big_quiet_step (fail))
     refine aq ?_;refine gR 10 3 (by kernel_rfl) trivial ?_;simp only[ap,aD,am,aw]
     repeat (go_big_quiet_step (fail))
     refine aq ?_;refine NQ 9 13 (by kernel_rfl) ?_ ?_
     .refine fF rfl rfl ?_;refine cp 142 _ rfl g ((k-1)*202) rfl (gJ xq) _ hr2 bm rfl (hX _) ?_;refine⟨Or.inr trivial,?_⟩;simp only[zJ,zG,zH,zI];refine jD 13 (by kernel_rfl) ?_;refine fF rfl rfl ?_;refine cp 142 _ rfl g ((k)*202) rfl (gJ xp) _ hr1 bm rfl (hX _) ?_;refine⟨Or.inr trivial,?_⟩;simp only[zJ,zG,zH,zI];refine gR 14 1 (by kernel_rfl) trivial ?_;simp only[ap,aD,am,aw]
      repeat (go_big_quiet_step (fail))
      refine aq ?_;refine jD 15 (by kernel_rfl) ?_;refine fF rfl rfl ?_;refine dh 142 _ _ rfl g ((k)*202) (gJ xq).toArray rfl rfl ht1 (hZ _) (bH (iO _)) ?_;simp only[kN,jG];rw[<-hw8];refine⟨Or.inr trivial,?_⟩;refine gR 16 1 (by kernel_rfl) trivial ?_;simp only[ap,aD,am,aw]
      repeat (go_big_quiet_step (fail))
      refine aq ?_;refine jD 17 (by kernel_rfl) ?_;refine fF rfl rfl ?_;refine dh 142 _ _ rfl g ((k-1)*202) (gJ xp).toArray rfl rfl ht2 (hZ _) (bH (iO _)) ?_;simp only[kN,jG];rw[<-hw9];refine⟨Or.inr trivial,?_⟩;refine oO (by kernel_rfl) ?_;clear hw9 hw8;have HJW:Hid (J (mA fH L2 k (k-1)) w9):=S.out.turn _ _ _ _ HJ2.out (qK fH L2 (by omega) (by omega)) HSW.out HCW.out;go_wp2
      go_roundw
      case rel=>exact⟨k-1,_,by omega,by omega,by go_num,HRT2,HSH2,HJW⟩
      case measure=>simp[intOf];omega
     .refine fF rfl rfl ?_;refine cp 142 _ rfl g ((k)*202) rfl (gJ xp) _ hr1 bm rfl (hX _) ?_;refine⟨Or.inr trivial,?_⟩;simp only[zJ,zG,zH,zI];refine jD 9 (by kernel_rfl) ?_;refine fF rfl rfl ?_;refine cp 142 _ rfl g ((k-1)*202) rfl (gJ xq) _ hr2 bm rfl (hX _) ?_;refine⟨Or.inr trivial,?_⟩;simp only[zJ,zG,zH,zI];refine gR 14 1 (by kernel_rfl) trivial ?_;simp only[ap,aD,am,aw]
      repeat (go_big_quiet_step (fail))
      refine aq ?_;refine jD 15 (by kernel_rfl) ?_;refine fF rfl rfl ?_;refine dh 142 _ _ rfl g ((k)*202) (gJ xq).toArray rfl rfl ht1 (hZ _) (bH (iO _)) ?_;simp only[kN,jG];rw[<-hw8];refine⟨Or.inr trivial,?_⟩;refine gR 16 1 (by kernel_rfl) trivial ?_;simp only[ap,aD,am,aw]
      repeat (go_big_quiet_step (fail))
      refine aq ?_;refine jD 17 (by kernel_rfl) ?_;refine fF rfl rfl ?_;refine dh 142 _ _ rfl g ((k-1)*202) (gJ xp).toArray rfl rfl ht2 (hZ _) (bH (iO _)) ?_;simp only[kN,jG];rw[<-hw9];refine⟨Or.inr trivial,?_⟩;refine oO (by kernel_rfl) ?_;clear hw9 hw8;have HJW:Hid (J (mA fH L2 k (k-1)) w9):=S.out.turn _ _ _ _ HJ2.out (qK fH L2 (by omega) (by omega)) HSW.out HCW.out;go_wp2
      go_roundw
      case rel=>exact⟨k-1,_,by omega,by omega,by go_num,HRT2,HSH2,HJW⟩
      case measure=>simp[intOf];omega
    .have hki':¬(k:Int)>(i:Int):=by omega
     have hki2:¬(i:Int)<(k:Int):=by omega
     have hik:k=i:=by omega
     have HF:Hid (Srt fH key L2 a b):=by
      subst hik;rw[h2];exact ow (L:=L) HS1.out hi1 hjb HI.out HJJ.out HRT.out
     go_wp2
     (try simp only[Exit.inBlock,Exit.then])
     refine aR (results_none rfl _ _ _) rfl ?_;exact⟨rfl,L2,HJ2.out,by first|exact HSH.out|(rw[<-h2];exact HSH.out),by first|exact HF.out|(rw[<-h2];exact HF.out)⟩
end
end Go.Proofs.YtbknbcmppdglhaaGreatDoor
