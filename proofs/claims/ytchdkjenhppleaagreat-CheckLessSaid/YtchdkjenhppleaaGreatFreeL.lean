/-
 Edge:besides (which tiles a block lies in,and another one not).
-/
import Derived.Test.YtchdkjenhppleaaGreatA0
import Derived.Test.YtchdkjenhppleaaGreatEF
import Derived.Test.YtchdkjenhppleaaGreatInsR
import Derived.Test.YtchdkjenhppleaaGreatKQ
namespace Go.Proofs.YtchdkjenhppleaaGreat
set_option linter.unusedSimpArgs false
set_option linter.unusedVariables false
set_option linter.unusedSectionVars false
set_option maxRecDepth 100000
set_option maxHeartbeats 40000000
section
open Go.RowKit Go.Shelf
attribute [local go_sem] Oper.semAt_some iB fS gP fH
def qV(l:List eW)(b o:Int)(j:Nat):List Int:=((inL l b).take j).filter λk=> !(inL l o).contains k
theorem TY(l:List eW)(b o:Int)(j:Nat)(h:j<(inL l b).length):qV l b o (j+1)=qV l b o j++if (inL l o).contains ((inL l b).getD j 0) then [] else [(inL l b).getD j 0]:=by
 rw[qV,qV,bo,au h,Option.toList_some,bE]
 congr 1
 have e:(inL l b).getD j 0=(inL l b)[j]:=by simp[ax,h]
 rw[e,bK,List.filter_nil]
 cases (inL l o).contains (inL l b)[j]<;>rfl
theorem CG(l:List eW)(n:Nat)(a:Option Addr)(ln lc:Nat)(v:Value)(b o:Nat)(hb:b<n)(ho:o<n)(w:World)(base:Nat)(h:mU w base l n a ln lc v)(hl:(inL l b).length<=1000):
  Calls Tryz.prog 123 #[v,.int .i64 (b:Int),.int .i64 (o:Int)] w (mG w (KD l b o)):=by
 obtain⟨g,c,M,rfl,hown,_,hm⟩:=h
 obtain⟨f,him,_,hall⟩:=hm
 obtain⟨xa,xc,fb,hib,_⟩:=hall b hb
 obtain⟨ya,yc,fo,hio,_⟩:=hall o ho
 have HIM:=ac him
 have HIB:=ac hib
 have HIO:=ac hio
 have HFB:=ac fb
 have HFO:=ac fo
 clear hown hall him hib hio fb fo
 go_enter Tryz.func123,Tryz.ntmps123
 go_upto_region 1 with (fail)
 obtain⟨W,hW⟩:∃W,W=w.alloc (kH a ln lc (.slice (some ⟨g,0,none⟩) n c) (some M)):=⟨_,rfl⟩
 rw[<-hW]
 have hk0:W.heap[w.heap.size]? =some (kH a ln lc (.slice (some ⟨g,0,none⟩) n c) (some M)):=by rw[hW];exact ai _ _
 have hB:Below w.heap.size w W:=by rw[hW];exact eD _ _
 have HK:=ac hk0
 have HB:=ac hB
 have hc2:=cK 2 hk0 rfl
 have hlk:(Instr.lookup 152 (.map (some M)) (.int .i64 (b:Int)) false).run Tryz.prog W=.ok (.slice xa (inL l b).length xc) W:=by
  have:=iT.look (P:=Tryz.prog) (HIM.out.ext hB) Tryz.underlying152 aP (AC _) (b:Int);rw[HFB.out] at this;exact this
 clear hW hk0 hB
 go_wp2
 clear hc2 hlk
 have HI0:Hid (Below w.heap.size w W):=HB.out
 go_loopw [6,14] (λv i wr=>∃j:Nat,i=.int .i64 j/\j<=(inL l b).length/\Hid (fQ wr W.heap.size v (qV l b o j))/\Hid (Below W.heap.size W wr)) (λ_ i _=>(inL l b).length-(intOf i).toNat)
 case atStart=>exact⟨0,rfl,by omega,fQ.nil _ _,ao _ _⟩
 case round=>
  obtain⟨j,rfl,hj,HO,HBr⟩:=hrel;obtain⟨av,cv,rfl⟩:=HO.out.form;have HBw:Hid (Below w.heap.size w wr):=eA HB.out HBr.out;by_cases hlt:j<(inL l b).length
  .obtain⟨xb,xo,rfl,cx,hxi⟩:=(HIB.out.ext HBw.out).2.2 j hlt;have hk9:=eB HBr.out HK.out;have hc2:=cK 2 hk9 rfl;have hlk:(Instr.lookup 152 (.map (some M)) (.int .i64 (o:Int)) false).run Tryz.prog wr=.ok (.slice ya (inL l o).length yc) wr:=by
    have:=iT.look (P:=Tryz.prog) (HIM.out.ext HBw.out) Tryz.underlying152 aP (AC _) (o:Int);rw[HFO.out] at this;exact this
   have HST:=ac (TY l b o j hlt);have HDC:Hid (decide (0<=idx (inL l o) ((inL l b).getD j 0))=(inL l o).contains ((inL l b).getD j 0)):=by
    rw[Hid,cp,aR,List.contains_iff_mem];have:=rF (inL l o) ((inL l b).getD j 0);constructor
    .intro h;apply cu;intro hn;have:=this.2 hn;omega
    .intro h;apply cu;intro hn;exact this.1 (by omega) h
   have HXI:=ac hxi;have hbl:(qV l b o j).length<=1000:=by
    have h1:=bY (λk=> !(inL l o).contains k) ((inL l b).take j);have h2:=List.length_take_le' j (inL l b);unfold qV;omega
   clear hk9 hxi;generalize (inL l b).getD j 0=x at *;cases hh:(inL l o).contains x with
   |true=>
    have HD:Hid (decide (0<=idx (inL l o) x)=true):=HDC.out.trans hh;have HST2:Hid (qV l b o (j+1)=qV l b o j):=by rw[Hid,HST.out,hh];simp
    clear hh HDC HST
    go_wp2_with (go_at_call 87;refine(mV ya _ yc (inL l o) x wr (HIO.out.ext HBw.out)).mono ?_;rintro e w' ⟨rfl,rfl⟩;rw[HD.out])
    go_roundw
    case rel=>exact⟨j+1,by go_num,by omega,by rw[HST2.out];exact HO,HBr⟩
    case measure=>simp[intOf];omega
   |false=>
    have HD:Hid (decide (0<=idx (inL l o) x)=false):=HDC.out.trans hh;have HST2:Hid (qV l b o (j+1)=qV l b o j++ [x]):=by rw[Hid,HST.out,hh];simp
    clear hh HDC HST
    go_wp2_with (first
     |(at_builtin
       refine fN rfl wr (.tmp 25) (.tmp 27) 22 3 rfl W.heap.size _ 1 8 aQ tP rfl (by omega) (.slice av (qV l b o j).length cv) _ _ [.int .i64 x] rfl HO.out.1 wr.heap.size rfl rfl rfl (by simp[Value.oneCell']) (by simp only[maxLen];omega) (by omega) HBr.out.size ?_;intro g2 cap w2 hown2 hgr2 hat2;have HO2:=ac hown2;have HB2:=ac (HBr.out.grown hgr2 HBr.out.size (λq e=>(HO.out.1.lt q e).1))
       clear hown2 hgr2 hat2)
     |(go_at_call 87;refine(mV ya _ yc (inL l o) x wr (HIO.out.ext HBw.out)).mono ?_;rintro e w' ⟨rfl,rfl⟩;rw[HD.out]))
    go_roundw
    case rel=>
     refine⟨j+1,by go_num,by omega,⟨?_,?_,?_⟩,HB2⟩
     .rw[HST2.out,aT];have:=HO2.out;simpa[eU] using this
     .rw[HST2.out];intro z hz;rcases bh.1 hz with hz|hz
      .exact HO.out.2.1 z hz
      .have:z=x:=by simpa using hz
       subst this;exact HXI.out
     .rw[HST2.out,aT];simp;omega
    case measure=>simp[intOf];omega
  .obtain rfl:j=(inL l b).length:=by omega
   have HE:Hid (qV l b o (inL l b).length=KD l b o):=by rw[Hid,qV,cg,KD]
   go_wp2
   go_ret
   rw[<-HE.out];exact⟨_,rfl,HO.out.mono HB.out.size,HBw.out⟩
end

section
open Go.RowKit Go.Shelf
structure MP where
 r:ZL
 lv:Value
 en:Value
def csR(h:MP):List Value:= [.int .i64 h.r.e.fr,.int .i64 h.r.e.arm,.int .i64 h.r.e.to,h.lv,h.en]
theorem ma:(Tryz.prog.info? 115).map (λi=>(i.zero,i.size,i.bytes))=some (some (.agg #[.int .i64 0,.int .i64 0,.int .i64 0,.slice none 0 0,.slice none 0 0]),5,72):=by kernel_rfl
theorem gc:(Tryz.prog.info? 115).map (·.size)=some 5:=by kernel_rfl
def RowsIn(W:World)(base:Nat)(v:Value)(hs:List MP):Prop:=
 jE 115 5 csR W base v hs/\∀h∈hs,fQ W base h.lv h.r.lv/\fQ W base h.en h.r.en/\(∀q,h.lv.ownBlock=some q->v.ownBlock≠some q)/\∀q,h.en.ownBlock=some q->v.ownBlock≠some q
theorem RowsIn.nil(W:World)(base:Nat):RowsIn W base (.slice none 0 0) []:=⟨jE.nil _ _ _ _ _,λh hh=>by grind⟩
theorem qY{o:Option Nat}{row:Option Nat}(h:∀q,o=some q->row≠some q):o=none\/o≠row:=by
 cases o with
 |none=>simp
 |some q=>grind
theorem RowsIn.grown{W W':World}{base:Nat}{v:Value}{hs:List MP}{row:Option Nat}(h:RowsIn W base v hs)(hg:W.grownBy W' row)(hr:∀q,row=some q->q<base\/W.heap.size<=q):RowsIn W' base v hs:=by
 obtain⟨h1,h2⟩:=h
 refine⟨h1.kept hg (qY λq hq e=>?_),λx hx=>?_⟩
 .have:=h1.low hq;grind
 .obtain⟨h3,h4,h5,h6⟩:=h2 x hx;refine⟨h3.kept hg (qY λq hq e=>?_),h4.kept hg (qY λq hq e=>?_),h5,h6⟩
  .have:=h3.1.lt q hq;grind
  .have:=h4.1.lt q hq;grind
theorem RowsIn.mono{W:World}{base base':Nat}{v:Value}{hs:List MP}(h:RowsIn W base v hs)(hb:base'<=base):RowsIn W base' v hs:=
 ⟨h.1.mono hb,λx hx=>let ⟨h3,h4,h5,h6⟩:=h.2 x hx;⟨h3.mono hb,h4.mono hb,h5,h6⟩⟩
theorem vC{w:World}{base:Nat}{v:Value}{xs:List Int}(h:fQ w base v xs):v.oneCell'=true:=by
 obtain⟨a,c,rfl⟩:=h.form;rfl
theorem RowsIn.one{W:World}{base:Nat}{v:Value}{hs:List MP}(h:RowsIn W base v hs):∀u∈hs.flatMap csR,u.oneCell'=true:=by
 intro u hu
 simp only[dj,csR] at hu
 obtain⟨x,hx,hu⟩:=hu
 obtain⟨h3,h4,_⟩:=h.2 x hx
 simp only[aH,a7,bW] at hu
 rcases hu with rfl|rfl|rfl|rfl|rfl
 .rfl
 .rfl
 .rfl
 .exact vC h3
 grind[vC]
theorem lk{r:ZL}{a b:Value}(ha:a.oneCell'=true)(hb:b.oneCell'=true):∀u∈csR ⟨r,a,b⟩,u.oneCell'=true:=by
 intro u hu
 simp only[csR,aH,a7,bW] at hu
 rcases hu with rfl|rfl|rfl|rfl|rfl
 .rfl
 .rfl
 .rfl
 .omega
 omega
def wF(l:List eW)(ask:gQ->Bool)(d:List gQ):List ZL:=(d.filter (xN l ask)).map (xI l)
theorem BL(l:List eW)(ask:gQ->Bool)(d:List gQ)(x:gQ):wF l ask (d++ [x])=wF l ask d++if xN l ask x then [xI l x] else []:=by
 grind[wF]
theorem RU(l:List eW)(ask:gQ->Bool)(d:List gQ):(wF l ask d).length<=d.length:=by
 simp[wF,bY]
def RJ(w1:World)(B:Nat)(l:List eW)(ask:gQ->Bool)(d:List gQ)(W:World):Prop:=
 ∃v hs,W.heap[B]? =some (.cells #[v] 104 (0,0))/\RowsIn W w1.heap.size v hs/\hs.map (·.r)=wF l ask d/\w1.grownBy W (some B)/\B<w1.heap.size
theorem eI.rowsIn(D base:Nat)(v:Value)(hs:List MP):eI D (λW=>RowsIn W base v hs):=
 (eI.ownR _ _ _ _).and (eI.all λh=>eI.imp ((eI.ownI _ _ _ _).and ((eI.ownI _ _ _ _).and (eI.pure _ _))))
theorem eI.grown{D:Nat}{w1:World}{B:Nat}(hD:w1.heap.size<=D):eI D (λW=>w1.grownBy W (some B)):=λW W' row h hg hr=>
 iF h hg (.inr λq e=>bP hD (hr q e).1)
theorem RJ.steady{w1:World}{B:Nat}{l:List eW}{ask:gQ->Bool}{d:List gQ}{D:Nat}(hD:w1.heap.size<=D):eI D (RJ w1 B l ask d):=by
 exact eI.ex λv=>eI.ex λhs=>(eI.block _ _ rfl).and ((eI.rowsIn _ _ _ _).and ((eI.pure _ _).and ((eI.grown hD).and (eI.pure _ _))))
theorem lf{W1 W2 w5 w6:World}{B g2 cap:Nat}{l:List eW}{ask:gQ->Bool}{d:List gQ}{x:gQ}{v v6 v12:Value}{hs:List MP}
  (hV:W2.heap[B]? =some (.cells #[v] 104 (0,0))) (hrows:RowsIn W2 W1.heap.size v hs) (hmap:hs.map (·.r)=wF l ask d) (hgr:W1.grownBy W2 (some B)) (hBW:B<W1.heap.size)
  (h25:W2.grownBy w5 none) (hk25:gO W2 w5) (h6:fQ w5 W2.heap.size v6 (KD l x.fr x.to)) (h12:fQ w5 W2.heap.size v12 (KD l x.to x.fr).reverse)
  (hown:w6.ownsRow W1.heap.size 115 5 (.slice (some ⟨g2,0,none⟩) (hs.length+1) cap) (hs.length+1) (hs.flatMap csR++csR ⟨xI l x,v6,v12⟩))
  (hg:w5.grownBy w6 v.ownBlock) (hat:some g2=v.ownBlock\/g2=w5.heap.size+1) (hbt:xN l ask x=true) (hlen:hs.length<=1000):
  gO W2 (w6.setCell ⟨B,0,none⟩ (.slice (some ⟨g2,0,none⟩) (hs.length+1) cap))/\RJ W1 B l ask (d++ [x]) (w6.setCell ⟨B,0,none⟩ (.slice (some ⟨g2,0,none⟩) (hs.length+1) cap))/\
   Tch (TV B 104) W2 (w6.setCell ⟨B,0,none⟩ (.slice (some ⟨g2,0,none⟩) (hs.length+1) cap)):=by
 have hBW2:=(am.1 hV).1
 have hvlow:∀q,v.ownBlock=some q->W1.heap.size<=q/\q<W2.heap.size:=λq hq=>hrows.1.low hq
 have hrows5:=hrows.grown h25 (λq e=>by cases e)
 have hV5:w5.heap[B]? =some (.cells #[v] 104 (0,0)):=(h25.block B hBW2 (λe=>by cases e)).trans hV
 have hBW5:=(am.1 hV5).1
 have hV6:w6.heap[B]? =some (.cells #[v] 104 (0,0)):=(hg.block B hBW5 (λe=>by grind)).trans hV5
 have hst:=aO w6 B 0 _ _ (.slice (some ⟨g2,0,none⟩) (hs.length+1) cap) hV6
 simp only[ae,ag] at hst
 have hset:=fL w6 B 0 (.slice (some ⟨g2,0,none⟩) (hs.length+1) cap)
 have hs25:=h25.size
 have hs56:=hg.size
 have hg2:W1.heap.size<=g2:=(hown.lt g2 rfl).1
 have hgW1:W1.heap.size<=W2.heap.size:=hgr.size
 have own6:∀{u:Value} {ys:List Int},fQ w5 W1.heap.size u ys->(∀q,u.ownBlock=some q->v.ownBlock≠some q)->fQ (w6.setCell ⟨B,0,none⟩ (.slice (some ⟨g2,0,none⟩) (hs.length+1) cap)) W1.heap.size u ys:=λ{u ys} ho hne=>
  (ho.kept hg (qY hne)).kept hset (qY λq hq e=>by have:=(ho.1.lt q hq).1;grind)
 have ne2:∀{u:Value} {ys:List Int},fQ w5 W1.heap.size u ys->(∀q,u.ownBlock=some q->v.ownBlock≠some q)->∀q,u.ownBlock=some q->(Value.slice (some ⟨g2,0,none⟩) (hs.length+1) cap).ownBlock≠some q:=λ{u ys} ho hne q hq e=>by
  simp only[Value.ownBlock,bv] at e;subst e;rcases hat with h|h
  .grind
  .have:=(ho.1.lt g2 hq).2;omega
 have hne6:∀q,v6.ownBlock=some q->v.ownBlock≠some q:=λq hq e=>by have:=(h6.1.lt q hq).1;have:=hvlow q e;omega
 have hne12:∀q,v12.ownBlock=some q->v.ownBlock≠some q:=λq hq e=>by have:=(h12.1.lt q hq).1;have:=hvlow q e;omega
 refine⟨(hk25.trans (gO.grown hg (tB hrows5.1.1))).trans (gO.setCell _ _ _),⟨_,hs++ [⟨xI l x,v6,v12⟩],hst,⟨⟨?_,by simp;omega⟩,?_⟩,?_,?_,hBW⟩,?_⟩
 .have:(hs++ [(⟨xI l x,v6,v12⟩:MP)]).flatMap csR=hs.flatMap csR++csR ⟨xI l x,v6,v12⟩:=by simp
  rw[this,aT];exact hown.kept hset (.inr (by simp[Value.ownBlock];omega))
 .intro h hh;rcases bh.1 hh with hh|hh
  .obtain⟨h1,h2,h3,h4⟩:=hrows5.2 h hh;exact⟨own6 h1 h3,own6 h2 h4,ne2 h1 h3,ne2 h2 h4⟩
  .have:h=⟨xI l x,v6,v12⟩:=by simpa using hh
   subst this;have a6:=h6.mono hgW1;have a12:=h12.mono hgW1;exact⟨own6 a6 hne6,own6 a12 hne12,ne2 a6 hne6,ne2 a12 hne12⟩
 .rw[BL,hbt,bN,hmap];rfl
 .exact iF (iF (iF hgr h25 (.inr λq e=>by cases e)) hg (.inr λq e=>(hvlow q e).1)) hset (.inl rfl)
 .refine KO hV hst (by simp;omega) (λk hk hkB hkv=>?_) (λk hk=>?_)
  .rw[bf _ _ _ _ (λe=>hkB e),hg.block k (by omega) (λe=>hkv e.symm),h25.block k hk (λe=>by cases e)]
  .simp only[Value.ownBlock,bv] at hk;subst hk;rcases hat with h|h
   .exact .inl h.symm
   .exact .inr (by omega)
end

section
open Go.RowKit
section
variable {P:Program} {l:List Oper} {Q:Exit->Act->World->Prop}
theorem PF{id:Nat}{a:Act}{w:World}{lp:Nat}(m:Nat)(ds:List (Option Nat))(hm:P.follows .mixedOrders=true)(hn:l.all pE=true)(hQ:¬LetsOut Q)(hok:zZ l m ds=true)(S:Spec)(Lk:Nat->Value->(Nat->Value)->Prop)(hcong:∀i v ν ν',(∀j,DC l i j=true->ν j=ν' j)->Lk i v ν->Lk i v ν') 
  (hmono:∀i v lo hi w w',Below w.heap.size w w'->S i v lo hi w->S i v lo hi w')
  (hops:∀i,i<m->∀(ν:Nat->Value) (lo hi:Nat->Nat) (w':World) (K:Act->World->Prop),Below w.heap.size w w'->(∀j,DC l i j=true->S j (ν j) (lo j) (hi j) w')->
    (∀v w'',Below w'.heap.size w' w''->S i v w'.heap.size w''.heap.size w''->Lk i v ν->K ((iI a ds ν).put (ds.getD i none) v) w'')->wpOp P l.toArray Q i K (iI a ds ν) w')
  (hend:∀(ν:Nat->Value) (lo hi:Nat->Nat) (w':World),Below w.heap.size w w'->(∀i,i<m->S i (ν i) (lo i) (hi i) w')->(∀i,i<m->w.heap.size<=lo i/\lo i<=hi i/\hi i<=w'.heap.size)->
    (∀i j,i<m->j<m->i≠j->hi i<=lo j\/hi j<=lo i)->(∀i,i<m->Lk i (ν i) ν)->wpList P l.toArray Q (l.drop m) (iI a ds ν) w'):
  (Code.region id l.toArray true).wpIn (Fence.wide.inRound lp) 0 P Q a w:=by
 refine wpIn_region_draw λt=>?_
 refine wN lp (λi o ho=>?_) hQ _ _ _ ?_
 .grind
 .simp only[Region.schedule,hm,Bool.true_or,if_true];refine wpAny_sound _ t _ a _ ?_;have:=JM (P:=P) (l:=l) (Q:=Q) m ds hok S Lk hcong a w.drew hmono (λi hi ν lo hi' w' K hB=>hops i hi ν lo hi' w' K (jV hB)) (λν lo hi w' hB=>hend ν lo hi w' (jV hB));trivial
end
end
end Go.Proofs.YtchdkjenhppleaaGreat
