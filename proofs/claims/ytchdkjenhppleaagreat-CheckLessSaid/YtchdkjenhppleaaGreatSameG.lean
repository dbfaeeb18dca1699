/-
 A queue of ints of the call's own:a whole slice put behind. No program in sight.
-/
import Derived.Test.YtchdkjenhppleaaGreatA0
import Derived.Test.YtchdkjenhppleaaGreatQueue
import Derived.Test.YtchdkjenhppleaaGreatMix
import Derived.Test.YtchdkjenhppleaaGreatPick
import Derived.Test.YtchdkjenhppleaaGreatKD
import Derived.Test.YtchdkjenhppleaaGreatFJ
import Derived.BigQuiet
import Derived.Deep.MidRow
import Derived.Test.YtchdkjenhppleaaGreatSF
import Derived.Test.YtchdkjenhppleaaGreatProg
import Derived.Test.YtchdkjenhppleaaGreatFC
import Derived.Deep.Cut
import Derived.Deep.CutRange
import Derived.Deep.DeepCutAuto
import Derived.LoopTactic
import Derived.Deep.Light
import Derived.Test.YtchdkjenhppleaaGreatShelf
import Derived.Test.YtchdkjenhppleaaGreatTE
import Derived.Shelf.Spec.TrailingZeros
import Derived.Scope
import Derived.Test.YtchdkjenhppleaaGreatTQ
import Derived.Test.YtchdkjenhppleaaGreatFM
import Derived.Test.YtchdkjenhppleaaGreatFL
import Derived.Deep.Onto
namespace Go.Proofs.YtchdkjenhppleaaGreat
set_option linter.unusedSimpArgs false
set_option linter.unusedVariables false
set_option linter.unusedSectionVars false
set_option maxRecDepth 100000
set_option maxHeartbeats 40000000
section
open Go.RowKit
theorem uY(g:Nat)(e:TypeId):∀(vs:List Value) (w:World) (off:Nat) (cur:Array Value),w.heap[g]? =some (.cells cur e (0,0))->off+vs.length<=cur.size->
  ∃cur':Array Value,(w.setCells g off vs).heap[g]? =some (.cells cur' e (0,0))/\cur'.size=cur.size/\(∀j,j<vs.length->cur'[off+j]? =vs[j]?)/\(∀j,j<off->cur'[j]? =cur[j]?)/\w.grownBy (w.setCells g off vs) (some g)
 | [],w,off,cur,h,_=>⟨cur,h,rfl,λj hj=>absurd hj (by simp),λ_ _=>rfl,rfl,rfl,rfl,aw _,λ_ _ _=>rfl⟩
 |v :: vs,w,off,cur,h,hl=>by
  have h1:=aO w g off _ _ v h;obtain⟨cur',h2,h3,h4,h5,h6⟩:=uY g e vs (w.setCell ⟨g,off,none⟩ v) (off+1) _ h1 (by grind);refine⟨cur',h2,by grind,λj hj=>?_,λj hj=>?_,?_⟩
  .grind
  .grind
  .refine⟨h6.os,h6.tape,h6.output,bP (by simp) h6.size,λk hk hne=>?_⟩;have hkg:k≠g:=λe=>hne (by rw[e]);exact(h6.block k (by simp_all) hne).trans (bf _ _ _ _ (λe=>hkg e))
section
variable {P:Program} {Q:Exit->Act->World->Prop}
theorem CL(w:World)(base:Nat)(t ty:TypeId)(z:Value)(bytes:Nat)(ht:P.underlying t=some (.slice 3))(hinfo:(P.info? 3).map (λi=>(i.zero,i.size,i.bytes))=some (some z,1,bytes))(hzs:z.cells.size=1)
  (v:Value) (xs:List Int) (h:oW w base v xs) (A:Option Addr) (c:Nat) (ys:List Int) (hy:fR w A ys.length ys) (hlen:xs.length<=1000000) (hly:ys.length<=1000000) (hb8:bytes<=16) (hbase:base<=w.heap.size):
  ∃v' w',(Builtin.append_ #[t,t] ty #[v,.slice A ys.length c]).run P w=.ok v' w'/\oW w' base v' (xs++ys)/\w.grownBy w' v.ownBlock/\(v'.ownBlock=v.ownBlock\/∃k,v'.ownBlock=some k/\w.heap.size<=k):=by
 obtain⟨i,hi,hz,hsize,hby⟩:=info_parts hinfo
 have hyI:∀q∈ys,I64 q:=λq hq=>by
  obtain⟨k,hk,rfl⟩:=a8.1 hq;obtain⟨_,_,_,_,hi⟩:=hy.2.2 k hk
  grind
 cases ys with
 |nil=>
  obtain⟨g,o,cap,cur,rfl,h1,h2,h3,h4,h5⟩:=id h;refine⟨.slice (some ⟨g,o,none⟩) xs.length cap,w,?_,by grind,⟨rfl,rfl,rfl,aw _,λ_ _ _=>rfl⟩,.inl rfl⟩;cases A with
  |none=>simp[Builtin.append_,aZ ht,sizeOf,typeInfo,hi,Builtin.lenOf,Builtin.firstCells,h2,storeCells]
  |some ad=>
   have:=run_append_room_cells (P:=P) w t ty 3 i ht hi g o xs.length cap ad 0 c [] (by simp) (λj u hu=>by grind) (λu hu=>by grind) (by omega) (λj hj=>absurd hj (by simp)) (λj hj=>absurd hj (by simp));trivial
 |cons y0 ys0=>
  generalize hys:y0 :: ys0=ys at *;have hpos:0<ys.length:=by grind
  obtain⟨ga,oa,rfl,_,_⟩:=hy.2.2 0 hpos;have hnews:∀j u,(eU ys)[j]? =some u->w.cell? ((⟨ga,oa,none⟩:Addr).add j)=some u:=λj u hu=>by
   have hj:j<ys.length:=by grind[eU]
   obtain⟨b,o,e,hc,_⟩:=hy.2.2 j hj;injection e with e;injection e with e1 e2 _;subst e1 e2;have:(⟨ga,oa,none⟩:Addr).add j=⟨ga,oa+j,none⟩:=by unfold Addr.add;simp
   grind[eU]
  obtain⟨g,o,cap,cur,rfl,h1,h2,h3,h4,h5,h6,h7,h8⟩:=h;have hlv:(eU ys).length=ys.length:=by simp[eU]
  have hone:∀u∈eU ys,u.oneCell'=true:=λu hu=>by
   simp only[eU,bi] at hu;obtain⟨q,_,rfl⟩:=hu;rfl
  by_cases hr:xs.length+ys.length<=cap
  .have hsz:o+xs.length+(eU ys).length<=cur.size:=by omega
   obtain⟨cur',k1,k2,k3,k4,k5⟩:=uY g 3 (eU ys) w (o+xs.length) cur h4 hsz;refine⟨_,_,run_append_room_cells (P:=P) w t ty 3 i ht hi g o xs.length cap ⟨ga,oa,none⟩ ys.length c (eU ys) (by grind) hnews hone hr (λj hj=>?_) (λj hj=>dg _ _ _ _ _ h4),?_,?_,.inl rfl⟩
   .rw[bd _ _ _ _ _ _ h4,hsize,Array.getElem?_eq_getElem (by omega)];rfl
   .rw[hsize,dK];refine⟨g,o,cap,cur',by simp,h1,by grind,h3,k1,by omega,λk hk=>?_,λq hq=>?_,by grind⟩
    .simp only[aT] at hk;by_cases e:k<xs.length
     .rw[k4 (o+k) (by omega),h6 k e];simp[ax,cy e]
     .obtain⟨j,rfl⟩:∃j,k=xs.length+j:=⟨k-xs.length,by omega⟩
      have hj:j<ys.length:=by omega
      rw[<-Nat.add_assoc,k3 j (by omega)];simp[eU,ax,dh,hj]
    .rcases bh.1 hq with hq|hq
     .exact h7 q hq
     .exact hyI q hq
   .rw[hsize,dK];exact k5
  .have holds:∀j u,(eU xs)[j]? =some u->w.cell? ((⟨g,o,none⟩:Addr).add j)=some u:=λj u hu=>by
    have hj:j<xs.length:=by have:=(aI.1 hu).1;simpa[eU] using this
    have:(⟨g,o,none⟩:Addr).add j=⟨g,o+j,none⟩:=by unfold Addr.add;split<;>simp_all
    rw[this,bd _ _ _ _ _ _ h4,h6 j hj,<-hu];simp[eU,ax,hj]
   obtain⟨v',w',hrun,hown,hgr⟩:=run_append_arg_grows (P:=P) w t ty 3 i z 1 bytes ht hi hz hsize hby hzs (by omega) ⟨g,o,none⟩ xs.length cap (eU xs) (by simp[eU]) holds ⟨ga,oa,none⟩ ys.length c (eU ys) (by rw[hlv];omega) hnews (by omega) (by simp only[maxLen];omega) (by
    have:(xs.length+ys.length)*bytes<=(xs.length+ys.length)*16:=Nat.mul_le_mul_left _ hb8
    omega)
   obtain⟨g2,c2,rfl⟩:∃g2 c2,v'=.slice (some ⟨g2,0,none⟩) (xs.length+ys.length) c2:=by
    rcases hown.2 with ⟨_,h0⟩|⟨g2,c2,cur,hv,_⟩
    .omega
    .exact⟨g2,c2,hv⟩
   refine⟨_,w',hrun,?_,⟨hgr.os,hgr.tape,hgr.output,hgr.size,λk hk _=>hgr.block k hk (λe=>by cases e)⟩,.inr ⟨g2,rfl,(hown.lt g2 rfl).1⟩⟩;have:fQ w' base (.slice (some ⟨g2,0,none⟩) (xs++ys).length c2) (xs++ys):=by
    refine⟨?_,λq hq=>?_,by simp;omega⟩
    .have e:eU (xs++ys)=eU xs++eU ys:=by simp[eU]
     rw[e,aT];exact hown.mono hbase
    .rcases bh.1 hq with hq|hq
     .exact h7 q hq
     .exact hyI q hq
   have h9:=oW.of_own this
   rwa [aT] at h9
theorem xE{ops:Array Oper}{rest:List Oper}{o:Oper}{a:Act}(hgd:o.guard=none)(w:World)(s x:Operand)(t:TypeId)(ho:o.op=.call {callee:=.builtin .append,args:=#[s,x],argTypes:=#[t,t]})
  (base:Nat) (z:Value) (bytes:Nat) (ht:P.underlying t=some (.slice 3)) (hinfo:(P.info? 3).map (λi=>(i.zero,i.size,i.bytes))=some (some z,1,bytes)) (hzs:z.cells.size=1)
  (v:Value) (xs:List Int) (hs:a.eval s=v) (hq:oW w base v xs) (A:Option Addr) (c:Nat) (ys:List Int) (hy:fR w A ys.length ys) (hx:a.eval x=.slice A ys.length c) (hlen:xs.length<=1000000) (hly:ys.length<=1000000) (hb8:bytes<=16) (hbase:base<=w.heap.size)
  (h:∀v' w',oW w' base v' (xs++ys)->w.grownBy w' v.ownBlock->(v'.ownBlock=v.ownBlock\/∃k,v'.ownBlock=some k/\w.heap.size<=k)->wpList P ops Q rest (a.put o.dst v') w'):
  wpList P ops Q (o :: rest) a w:=by
 refine dM hgd λK hK=>?_
 obtain⟨v',w',hrun,h2,h3,h4⟩:=CL (P:=P) w base t o.type z bytes ht hinfo hzs v xs hq A c ys hy hlen hly hb8 hbase
 unfold Oper.wp execOp
 simp only[ho,resolve,invoke,builtin,bu,cY,bp,List.map_toArray,cn,cW,hs,hx,hrun]
 exact hK _ _ (h v' w' h2 h3 h4)
end
end

section
open Go.RowKit
abbrev blO(n:Nat)(f:Nat->Bool):Obj:=.cells (tZ n λk=>.bool (f k)) 4 (0,0)
theorem mq(n:Nat):madeCells #[.bool false] n=tZ n λ_=>.bool false:=by
 apply cH
 intro j
 by_cases hj:j<n
 .simp[madeCells,tZ,hj,Nat.mod_one]
 .rw[b6 (by simp[madeCells];omega),b6 (by simp[tZ];omega)]
theorem od:(Tryz.prog.info? 4).map (λi=>(i.zero,i.size,i.bytes))=some (some (.bool false),1,1):=by kernel_rfl
def bkL(b:gZ):BkL:=⟨b.rs.map λr=>⟨gA r.d,fG r.d⟩,mL b.h.t,(toD b.h.t).map Int.toNat⟩
def iL(bs:List gZ):List BkL:=bs.map bkL
theorem mD(bs:List gZ):(iL bs).length=bs.length:=by simp[iL]
theorem xQ{bs:List gZ}{k:Nat}{b:gZ}(h:bs[k]? =some b):jN (iL bs) k=bkL b:=by
 simp[jN,iL,ax,h]
def GZ(n:Nat)(b:gZ):Bool:=(toD b.h.t).all λx=>decide (1<=x/\x<(n:Int))
def vZ(bs:List gZ):Bool:=bs.all (GZ bs.length)
theorem UN{bs:List gZ}(h:vZ bs=true):ph (iL bs):=by
 intro b hb c hc
 rw[mD] at hb|-
 have hx:bs[b]? =some bs[b]:=au hb
 rw[xQ hx] at hc
 obtain⟨x,hx2,rfl⟩:=bi.1 hc
 have h1:=bq.1 h bs[b] (dB hb)
 have h2:=bq.1 h1 x hx2
 simp only[aR] at h2
 omega
def ZF(bs:List gZ)(w:World)(e:Ending)(w':World):Prop:=
 ((vZ bs=false/\e=.returned (.tuple #[.int .i64 0,.bool false]))\/(vZ bs=true/\∃k:Nat,e=.returned (.tuple #[.int .i64 k,.bool true])/\k<=bs.length/\(bs.length<=k↔∀b,b<bs.length->wK (iL bs) b)))/\Below w.heap.size w w'
theorem PY(pa:Option Addr)(pn pc:Nat)(ba:Option Addr)(bn bc:Nat)(bs:List gZ)(w:World)(h:tR w ba bn bs)(h0:0<bn)(h1:bn<=200):
  Calls Tryz.prog 74 #[kF pa pn pc ba bn bc] w (ZF bs w):=by
 have HB:=ac h
 have HLb:=ac h.1.1
 clear h
 go_enter Tryz.func74,Tryz.ntmps74
 go_upto_region 1 with (fail)
 obtain⟨W0,hW0⟩:∃W0,W0=w.alloc (.cells #[.slice pa pn pc,.slice ba bn bc] 47):=⟨_,rfl⟩
 rw[<-hW0]
 have hr0:W0.heap[w.heap.size]? =some (.cells #[.slice pa pn pc,.slice ba bn bc] 47):=by rw[hW0];exact ai _ _
 have hb0:Below w.heap.size w W0:=by rw[hW0];exact eD _ _
 have hs0:W0.heap.size=w.heap.size+1:=by rw[hW0];simp
 have f1:=cK 1 hr0 rfl
 have hl0:=eT hr0
 have hmk:=run_make_row' (P:=Tryz.prog) 174 4 (.bool false) 1 Tryz.underlying174 od rfl .i64 .i64 bn (by omega) (by omega) W0
 rw[mq] at hmk
 have HR0:=ac hr0
 have HB0:=ac hb0
 have HS0:=ac hs0
 clear hr0 hb0 hs0 hW0
 go_upto_region 2 with (fail)
 obtain⟨W1,hW1⟩:∃W1,W1=W0.alloc (blO bn λ_=>false):=⟨_,rfl⟩
 have hr1:W1.heap[W0.heap.size]? =some (blO bn λ_=>false):=by rw[hW1];exact ai _ _
 have hb1:Below W0.heap.size W0 W1:=by rw[hW1];exact eD _ _
 rw[show W0.alloc (Obj.cells (tZ bn λ_=>Value.bool false) 4)=W1 from hW1.symm]
 have HR1:=ac hr1
 have HF1:=ac (eB hb1 HR0.out)
 have HB1:=ac (eA HB0.out hb1)
 have HHW:=ac hW1
 clear hmk f1 hl0 hr1 hb1 hW1 HR0 HB0
 rw[HS0.out] at HR1|-
 have f1:=cK 1 HF1.out rfl
 have hl1:=eT HF1.out
 go_wp2
 clear f1 hl1
 go_loopw [2,18] (λs2 i wr=>∃k:Nat,i=.int .i64 k/\s2=.int .i64 0/\k<=bn/\Hid (wr.heap[w.heap.size]? =some (.cells #[.slice pa pn pc,.slice ba bn bc] 47))/\Hid (wr.heap[w.heap.size+1]? =some (blO bn λ_=>false))/\Hid (Below w.heap.size w wr)/\Hid (∀j x,j<k->bs[j]? =some x->GZ bn x=true)) (λ_ i _=>bn-(intOf i).toNat)
 case atStart=>exact⟨0,rfl,rfl,by omega,HF1,HR1,HB1,λj x hj=>absurd hj (by omega)⟩
 case round=>
  obtain⟨k,rfl,rfl,hk,HF,HS,HBk,HK⟩:=hrel;clear HF1 HR1 HB1 HHW;by_cases hlt:k<bn
  .obtain⟨r,b,o,hr,hok,rfl,c0,c1,c2,c3,c4⟩:=pJ (HB.out.ext HBk.out) hlt;have HRR:=ac hr;have HOK:=ac hok;have hlt':(k:Int)<(bn:Int):=by omega
   clear hr hok;go_upto_region 5 with (fail)
   obtain⟨Wi,hWi⟩:∃Wi,Wi=wr.alloc (kP r.h):=⟨_,rfl⟩
   have hri:Wi.heap[wr.heap.size]? =some (kP r.h):=by rw[hWi];exact ai _ _
   have hbi:Below wr.heap.size wr Wi:=by rw[hWi];exact eD _ _
   rw[show wr.alloc (Obj.cells #[.slice r.h.ia r.h.n r.h.c,.int .i64 r.h.t.kind,.int .i64 r.h.t.a,.int .i64 r.h.t.t0,.int .i64 r.h.t.t1] 31)=Wi from hWi.symm];obtain⟨-,t1,t2,t3,t4⟩:=nN hri rfl;have hli:=eT hri;have HBI:=ac (eA HBk.out hbi);have HFI:=ac (eB hbi HF.out);have HSI:=ac (eB hbi HS.out);clear hWi hri hbi c0 c1 c2 c3 c4 HF HS HBk
   go_wp2_with (
    (go_at_call 109
     refine(zW r.h.t Wi HOK.out.1).mono ?_;rintro e w2 ⟨v,rfl,ho,hb⟩;obtain⟨va,vc,rfl⟩:=ho.form;have HV:=ac ho.ints;have HB2:=ac (eA HBI.out hb);have HF2:=ac (eB hb HFI.out);have HS2:=ac (eB hb HSI.out)
     clear ho hb t1 t2 t3 t4 hli))
   clear HBI HFI HSI;have hlen:=sS r.h.t;obtain⟨wq,rfl⟩:∃x,x=w2:=⟨_,rfl⟩
   go_loopw [2,8,26] (λs2 _ i wi=>∃q:Nat,i=.int .i64 q/\s2=.int .i64 0/\q<=(toD r.h.t).length/\wi=wq/\Hid (∀j x,j<q->(toD r.h.t)[j]? =some x->1<=x/\x<(bn:Int))) (λ_ _ i _=>(toD r.h.t).length-(intOf i).toNat)
   case atStart=>exact⟨0,rfl,rfl,by omega,rfl,λj x hj=>absurd hj (by omega)⟩
   case round=>
    obtain⟨q,rfl,rfl,hq,rfl,HQ⟩:=hrel;by_cases hql:q<(toD r.h.t).length
    .obtain⟨x,hx⟩:∃x,(toD r.h.t)[q]? =some x:=⟨(toD r.h.t)[q],au hql⟩
     have hgd:(toD r.h.t).getD q 0=x:=by rw[ax,hx];rfl
     obtain⟨b3,o3,rfl,hcx,hx1,hx2⟩:=HV.out.2.2 q hql;rw[hgd] at hcx hx1 hx2;have HX:=ac hx;have hql':(q:Int)<((toD r.h.t).length:Int):=by omega
     have f1:=cK 1 HF2.out rfl;have hl1:=eT HF2.out;clear hx hgd
     have hno:¬(1<=x/\x<(bn:Int))->vZ bs=false:=λhn=>List.all_eq_false.2 ⟨r,aK HRR.out,by
      rw[GZ,Bool.not_eq_true,List.all_eq_false]
      exact⟨x,aK HX.out,by rw[HLb.out];simpa using hn⟩⟩
     have HNO:=ac hno;clear hno;by_cases ha:x<1
     .have HE:Hid (vZ bs=false):=HNO.out (by omega);go_wp2;refine aD (v:=.tuple #[.int .i64 0,.bool false]) (by simp[results,Tryz.results74,go_sem]) rfl ?_;exact⟨.inl ⟨HE.out,rfl⟩,HB2.out⟩
     .by_cases hbx:x<(bn:Int)
      .have hbx':¬(bn:Int)<=x:=by omega
       have HQ2:Hid (∀j y,j<q+1->(toD r.h.t)[j]? =some y->1<=y/\y<(bn:Int)):=λj y hj hy=>by
        by_cases e:j=q
        .subst e;rw[HX.out] at hy;cases hy;omega
        .exact HQ.out j y (by omega) hy
       go_wp2
       go_roundw
       case rel=>exact⟨q+1,by go_num,rfl,by omega,trivial,HQ2⟩
       case measure=>simp[intOf];omega
      .have HE:Hid (vZ bs=false):=HNO.out (by omega);have hbx':(bn:Int)<=x:=by omega
       go_wp2;refine aD (v:=.tuple #[.int .i64 0,.bool false]) (by simp[results,Tryz.results74,go_sem]) rfl ?_;exact⟨.inl ⟨HE.out,rfl⟩,HB2.out⟩
    .have HK2:Hid (∀j x,j<k+1->bs[j]? =some x->GZ bn x=true):=λj y hj hy=>by
      by_cases e:j=k
      .subst e;rw[HRR.out] at hy;cases hy;rw[GZ,bq];intro x hx;obtain⟨q',hq',e'⟩:=a8.1 hx;have:=HQ.out q' x (by omega) (by rw[au hq',e']);simpa using this
      .exact HK.out j y (by omega) hy
     have hql':¬(q:Int)<((toD r.h.t).length:Int):=by omega
     go_wp2
     go_roundw
     case rel=>exact⟨k+1,by go_num,rfl,by omega,HF2,HS2,HB2,HK2⟩
     case measure=>simp[intOf];omega
  .have HIN:Hid (vZ bs=true):=bq.2 λx hx=>by
    obtain⟨j,hj,e⟩:=a8.1 hx;rw[HLb.out];exact HK.out j x (by rw[HLb.out] at hj;omega) (by rw[au hj,e])
   have hlt':¬(k:Int)<(bn:Int):=by omega
   have hTO:=UN HIN.out;have HTO:=ac hTO;have hps:w.heap.size+2<=wr.heap.size:=by have:=eT HS.out;omega
   clear hTO;go_wp2;obtain⟨W2,hW2⟩:∃W2,W2=wr.alloc (.cells #[.int .i64 0] 3):=⟨_,rfl⟩
   have hqI:oW W2 (w.heap.size+2) (.slice (some ⟨wr.heap.size,0,none⟩) 1 1) (eR [0]):=by
    rw[hW2];refine oW.of_own ⟨⟨rfl,.inr ⟨wr.heap.size,1,#[.int .i64 0],rfl,hps,ai _ _,aw _,by decide,rfl,rfl⟩⟩,λx hx=>?_,by simp[eR]⟩;simp[eR] at hx;subst hx;unfold I64;omega
   have hb2:Below wr.heap.size wr W2:=by rw[hW2];exact eD _ _
   rw[<-hW2];have HQI:=ac hqI;have HF2:=ac (eB hb2 HF.out);have HS2:=ac (eB hb2 HS.out);have HB2:=ac (eA HBk.out hb2);clear hqI hb2 hW2 HF HS HBk HK hlt hlt' hk hps
   go_loopg [2,9] (3*bn+1) (λgg s2 s9 wx=>∃(cN:Nat) (seen:Nat->Bool) (q:List Nat),s2=.int .i64 cN/\cN<=bn/\3*bn+q.length<=gg+3*cN/\q.length<=2*cN+1/\Hid (cN=cnt bn seen)/\Hid (rV (iL bs) seen q)/\Hid (oW wx (w.heap.size+2) s9 (eR q))/\Hid (wx.heap[w.heap.size]? =some (.cells #[.slice pa pn pc,.slice ba bn bc] 47))/\Hid (wx.heap[w.heap.size+1]? =some (blO bn seen))/\Hid (Below w.heap.size w wx))
   case atStart=>exact⟨0,λ_=>false,[0],rfl,by omega,by simp,by simp,by simp[Hid,cnt],rV.start (by rw[mD,HLb.out];exact h0),HQI,HF2,HS2,HB2⟩
   case round=>
    obtain⟨cN,seen,q,rfl,hcn,hgg,hql,HC,HQO,HQ,HF,HS,HBk⟩:=hrel;clear HQI HF2 HS2 HB2;obtain⟨g,o,cap,rfl,hl1,hl2,hints⟩:=HQ.out.form;cases q with
    |nil=>
     have HRA:=ac (WQ HQO.out);go_wp2;refine aD (v:=.tuple #[.int .i64 cN,.bool true]) (by simp[results,Tryz.results74,go_sem]) rfl ?_;refine⟨.inr ⟨HIN.out,cN,rfl,by rw[HLb.out];exact hcn,?_⟩,HBk.out⟩;have h9:=HRA.out;rw[mD,HLb.out] at h9;rw[HLb.out,HC.out];exact h9
    |cons x q'=>
     have hst:eR (x :: q')=(x:Int) :: eR q':=rfl;have hxr:x<bn:=by have:=HQO.out.lt x (by simp);rwa [mD,HLb.out] at this
     have h8:=HQ.out;rw[hst] at h8;rw[hst] at hints hl1;have hlen2:(eR q').length=q'.length:=by simp[eR]
     have hlen':((x:Int) :: eR q').length=q'.length+1:=by simp[eR]
     have hpop:=h8.tail;obtain⟨b1,o1,e1,hx0,_⟩:=hints.2.2 0 (by simp);injection e1 with e1;injection e1 with e1 e2;subst e1 e2;rw[bz] at hx0;have hx0':wr.cell? ⟨g,o,none⟩=some (.int .i64 (x:Int)):=hx0;rw[hlen'] at hl1;rw[hlen2] at hpop;rw[hst,hlen'];simp only[aN] at hql hgg;have hcc:(cap=1/\q'= [])\/∃c2,cap=c2+2:=by
      by_cases e:cap=1
      .exact .inl ⟨e,bB (by omega)⟩
      .exact .inr ⟨cap-2,by omega⟩
     have hpop1:cap=1->q'= []->oW wr (w.heap.size+2) (.slice (some ⟨g,o,none⟩) 0 0) (eR []):=λe1 e2=>by
      obtain⟨g',o',cap',cur,e,k1,k2,k3,k4,k5,k6,k7,k8⟩:=h8;injection e with e1 e2 e3;injection e1 with e1;injection e1 with e1 e4 _;subst e1 e3 e4;exact⟨g,o,0,cur,rfl,k1,by simp[eR],by simp[maxLen],k4,by omega,λk hk=>by simp[eR] at hk,λz hz=>by simp[eR] at hz,by simp[eR]⟩
     unfold maxLen at hl2;have hsc:wr.cell? ⟨w.heap.size+1,x,none⟩=some (.bool (seen x)):=by rw[bd _ _ _ _ _ _ HS.out,KL _ _ _ hxr]
     have hsf:wr.frozen? ⟨w.heap.size+1,x,none⟩=false:=dg _ _ _ _ _ HS.out;have hxr':(x:Int)<(bn:Int):=by omega
     have hls:=eT HS.out;cases hsx:seen x with
     |true=>
      rw[hsx] at hsc;have HQN:=ac (HQO.out.skip hsx);rcases hcc with ⟨rfl,hs0⟩|⟨c2,rfl⟩
      .have HQP:=ac (hpop1 rfl hs0);subst hs0;clear h8 hpop hpop1 hst hlen2 hlen' hints hx0;simp only[aV,aW] at hl1 hgg hql|-;go_wp2
       go_roundg (3*bn-3*cN)
       case measure=>omega
       case rel=>exact⟨cN,seen,[],rfl,hcn,by simp;omega,by simp,HC,HQN,HQP,HF,HS,HBk⟩
      .have HQP:=ac hpop;clear h8 hpop hpop1 hst hlen2 hlen' hints hx0;go_wp2
       go_roundg (3*bn+q'.length-3*cN)
       case measure=>omega
       case rel=>exact⟨cN,seen,q',rfl,hcn,by omega,by omega,HC,HQN,HQP,HF,HS,HBk⟩
     |false=>
      rw[hsx] at hsc;have hcn1:cN+1<=bn:=by
       have h9:=VF hxr hsx;have h10:=om bn λk=>if k=x then true else seen k
       rw[HC.out];omega
      have HC1:Hid (cN+1=cnt bn λk=>if k=x then true else seen k):=by rw[Hid,VF hxr hsx,<-HC.out]
      have HQN:=ac (HQO.out.put HTO.out);have HS1:Hid ((wr.setCell ⟨w.heap.size+1,x,none⟩ (.bool true)).heap[w.heap.size+1]? =some (blO bn λk=>if k=x then true else seen k)):=by
       rw[Hid,aO _ _ _ _ _ _ HS.out,VI (g:=λk=>.bool (if k=x then true else seen k)) (by simp) (λk _ hk=>by simp[hk])]
      have HF1:Hid ((wr.setCell ⟨w.heap.size+1,x,none⟩ (.bool true)).heap[w.heap.size]? =some (.cells #[.slice pa pn pc,.slice ba bn bc] 47)):=by rw[Hid,bf _ _ _ _ (by simp)];exact HF.out
      have HB1:Hid (Below w.heap.size w (wr.setCell ⟨w.heap.size+1,x,none⟩ (.bool true))):=HBk.out.setCell (by simp) _;obtain⟨r,b,o2,hr,hok,rfl,c0,c1,c2',c3,c4⟩:=pJ (HB.out.ext HB1.out) hxr;have HTX:Hid (jN (iL bs) x=bkL r):=xQ hr;have hto1:GZ bn r=true:=by
       have:=bq.1 HIN.out r (aK hr)
       rwa [HLb.out] at this
      have HTI:Hid (eR ((toD r.h.t).map Int.toNat)=toD r.h.t):=by
       show((toD r.h.t).map Int.toNat).map (λk:Nat=>(k:Int))=toD r.h.t;rw[List.map_map]
       conv=>rhs;rw[<-List.map_id (toD r.h.t)]
       refine List.map_congr_left λy hy=>?_;have h9:=bq.1 hto1 y hy;simp only[aR] at h9;simp only[Function.comp,id];omega
      have hlto:=sS r.h.t;have HOK:=ac hok;have f1:=cK 1 HF1.out rfl;have hl3:=eT HF1.out;have hwq:w.heap.size+2<=wr.heap.size:=by omega
      clear hr hok hto1;rcases hcc with ⟨rfl,hs0⟩|⟨c2,rfl⟩
      case' inl=>have HQP:=ac (show oW wr (w.heap.size+2) (.slice (some ⟨g,o,none⟩) 0 0) (eR q') by rw[hs0];exact hpop1 rfl hs0);clear hs0
      case' inr=>have HQP:=ac hpop
      all_goals
       have HQS:=ac (HQP.out.chg (S:=λk=>k=w.heap.size+1) ((Chg.refl (λk=>k=w.heap.size+1) wr).setCell (p:=⟨w.heap.size+1,x,none⟩) (.inl rfl) (.bool true)) (λk hk e=>by have:=(HQP.out.low hk).1;omega));clear h8 hpop hpop1 hst hlen' hints hx0
       go_wp2_with (first
        |(go_at_call 109
          refine(zW r.h.t (wr.setCell ⟨w.heap.size+1,x,none⟩ (.bool true)) HOK.out.1).mono ?_;rintro e w5 ⟨v,rfl,ho,hb5⟩;obtain⟨va,vc,rfl⟩:=ho.form;have HV:=ac ho.ints;have HQ5:=ac (HQS.out.ext hb5);have HB5:=ac (eA HB1.out hb5);have HF5:=ac (eB hb5 HF1.out);have HS5:=ac (eB hb5 HS1.out);have hw5:w.heap.size+2<=w5.heap.size:=(by have:=eT HS5.out;omega)
          clear ho hb5)
        |(at_builtin
          refine xE rfl w5 (.tmp 60) (.tmp 67) 22 rfl (w.heap.size+2) _ 8 aQ tP rfl _ (eR q') rfl HQ5.out va vc (toD r.h.t) HV.out rfl (by omega) (by omega) (by omega) hw5 ?_;intro v6 w6 hq6 hg6 hb6;have HQ6:=ac hq6;have HG6:Hid (∀k,k<w.heap.size+2->w6.heap[k]? =w5.heap[k]?):=(λk hk=>hg6.block k (by omega) (λe=>by have:=(HQ5.out.low e.symm).1;omega))
          have HB6:Hid (Below w.heap.size w w6):=(HB5.out.grown hg6 (by omega) (λk e=>by have:=(HQ5.out.low e).1;omega))
          clear hq6 hg6 hb6))
       have hto:(jN (iL bs) x).to=(toD r.h.t).map Int.toNat:=by rw[HTX.out];rfl
       have hlq:(q'++(jN (iL bs) x).to).length<=q'.length+2:=by rw[hto,aT,bR];omega
       go_roundg (3*bn+(q'++(jN (iL bs) x).to).length-3*(cN+1))
       case measure=>omega
       case rel=>
        refine⟨cN+1,_,q'++(jN (iL bs) x).to,by go_num,hcn1,by omega,by omega,HC1,HQN,?_,(HG6.out _ (by omega)).trans HF5.out,(HG6.out _ (by omega)).trans HS5.out,HB6⟩;have h9:=HQ6.out;rw[<-HTI.out,<-hto] at h9;show oW w6 (w.heap.size+2) v6 ((q'++(jN (iL bs) x).to).map λk:Nat=>(k:Int));rw[bN];exact h9
end

section
open Go.RowKit
section
variable {P:Program} {ops:Array Oper} {rest:List Oper} {o:Oper} {a:Act}
theorem sJ{C:World->Prop}{Q:Act->Prop}(hw:Region.wanted o (yielded ops a.tmps)=true)(ty:TypeId)(x:Operand)(ho:o.op=.load ty x)
  (b q:Nat) (hx:a.eval x=.pointer (some ⟨b,q,none⟩)) (cs:List Value) (d:TypeDesc) (hc:∀w,C w->w.rangeAt b q cs)
  (hu:P.underlying ty=some d) (hd:d.isRow=true) (hi:(P.info? ty).map (·.size)=some cs.length)
  (h:wpQuiet P ops C Q rest (a.put o.dst (.agg cs.toArray))):wpQuiet P ops C Q (o :: rest) a:=
 BigFrame.wpQuiet_want hw λ_ hK=>⟨.agg cs.toArray,λw hC=>by
  unfold Oper.quietAt execOp;simp only[ho,hx,Instr.loadAt,Instr.sureAddr,bu,cY,bp,run_loadVar_mid w b q ty cs d (hc w hC) hu hd hi]
  trivial,hK _ h⟩
end
theorem BN{base:Nat}{e:TypeId}{size g n c:Nat}:∀(vs:List Value) (o:Nat) (xs:List Value) (w:World),w.ownsRow base e size (.slice (some ⟨g,0,none⟩) n c) n xs->o+vs.length<=xs.length->
  (w.setCells g o vs).ownsRow base e size (.slice (some ⟨g,0,none⟩) n c) n (xs.take o++vs++xs.drop (o+vs.length))
 | [],o,xs,w,h,_=>by simpa[World.setCells] using h
 |v :: r,o,xs,w,h,ho=>by
  have h1:=BN r (o+1) _ _ (h.stored o v).1 (by grind);rw[World.setCells]
  grind[List.drop_set_of_lt,List.take_add_one,List.take_set_of_le]
theorem DZ{α:Type}(cs:α->List Value)(size:Nat)(hs:∀x,(cs x).length=size)(x:α):∀(l:List α) (k:Nat),k<l.length->(l.flatMap cs).take (k*size)++cs x++(l.flatMap cs).drop (k*size+size)=(l.set k x).flatMap cs
 |y :: l,0,_=>by
  grind
 |y :: l,k+1,h=>by
  have ih:=DZ cs size hs x l k (by grind)
  simp_all[Nat.add_mul,List.drop_append,List.take_append,bF,cO]
section
variable {α:Type} {e:TypeId} {size:Nat} {cs:α->List Value} {w w':World} {base:Nat} {ls:List α} {g n c:Nat}
theorem jE.range(hs:∀x,(cs x).length=size)(h:jE e size cs w base (.slice (some ⟨g,0,none⟩) n c) ls)(z:α){k:Nat}(hk:k<ls.length):w.rangeAt g (k*size) (cs (ls.getD k z)):=by
 obtain rfl:n=ls.length:=by obtain⟨a,c',e⟩:=h.form;grind
 have hr:=h.recs hs
 obtain⟨b,o,ea,hc⟩:=hr.at_ (k:=k) (by omega) z
 intro j v hv
 grind
theorem jE.setAt(hs:∀x,(cs x).length=size)(h:jE e size cs w base (.slice (some ⟨g,0,none⟩) n c) ls){k:Nat}(hk:k<ls.length)(x:α):jE e size cs (w.setCells g (k*size) (cs x)) base (.slice (some ⟨g,0,none⟩) n c) (ls.set k x):=by
 obtain rfl:n=ls.length:=by obtain⟨a,c',e⟩:=h.form;grind
 have hl:=gU cs size hs ls
 have hkk:k*size+size<=ls.length*size:=by
  have:(k+1)*size<=ls.length*size:=dI _ hk
  grind
 have h1:=BN (cs x) (k*size) _ _ h.1 (by grind)
 rw[hs,DZ cs size hs x ls k hk] at h1
 refine⟨?_,by simpa using h.2⟩
 grind
theorem jE.there(hs:∀x,(cs x).length=size)(h:jE e size cs w base (.slice (some ⟨g,0,none⟩) n c) ls){k:Nat}(hk:k<ls.length):w.there g (k*size) size:=by
 have hkk:k*size+size<=ls.length*size:=by
  have:(k+1)*size<=ls.length*size:=dI _ hk
  grind
 rcases h.1.2 with ⟨h0,_⟩|⟨g',cap,cur,hv,hb,hh,hnc,hcm,hcs,ht⟩
 .omega
 .obtain⟨rfl,rfl,rfl⟩:=hv;intro j hj;have:ls.length*size<=c*size:=dI _ hnc;refine⟨?_,dg _ _ _ _ _ hh⟩;rw[bd _ _ _ _ _ _ hh]
  grind
end
theorem vB{S:Nat->Prop}{a:World}{g:Nat}(hs:S g):∀(vs:List Value) (o:Nat) (w:World),Chg S a w->Chg S a (w.setCells g o vs)
 | [],_,_,h=>h
 |v :: r,o,w,h=>vB hs r (o+1) _ (h.setCell (Or.inl hs) v)
end

section
open Go.RowKit
def tW{α:Type}(n:Nat)(I:Nat->α):List α:=(List.range n).map I
theorem lL{α:Type}(n:Nat)(I:Nat->α):(tW n I).length=n:=by simp[tW]
theorem VB{α:Type}{n:Nat}{I:Nat->α}{k:Nat}(hk:k<n):(tW n I)[k]? =some (I k):=by grind[tW]
theorem YG{α:Type}{n:Nat}{I:Nat->α}{k:Nat}(hk:k<n)(z:α):(tW n I).getD k z=I k:=by grind[VB]
theorem OH{α:Type}{n:Nat}{I:Nat->α}{k:Nat}(x:α):(tW n I).set k x=tW n λj=>if j=k then x else I j:=by
 apply cD
 grind[VB,lL]
theorem JA{z:Array Value}(h0:0<z.size):∀n,(madeCells z (n*z.size)).toList=(List.range n).flatMap λ_=>z.toList
 |0=>by simp[madeCells]
 |n+1=>by
  have ih:=JA h0 n;have e:∀m,(madeCells z m).toList=(List.range m).map λj=>z[j%z.size]!:=λm=>by simp[madeCells]
  rw[e] at ih|-;rw[Nat.succ_mul,List.range_add,bN,ih,cU,cB]
  congr 1
  apply cD
  grind[List.getElem?_range,Nat.mul_comm,Nat.mul_add_mod,Nat.mod_eq_of_lt]
def vsC(f:Nat->Bool):List Value:=(fZ f).toList
theorem oR(f:Nat->Bool):(vsC f).length=201:=by rfl
theorem CP(f:Nat->Bool):(vsC f).toArray=fZ f:=by rfl
theorem jO(f:Nat->Bool):(Tryz.prog.info? 179).map (·.size)=some (fZ f).size:=by simp[fT,kW]
theorem xU(f:Nat->Bool):(Tryz.prog.info? 179).map (·.size)=some (vsC f).length:=by simp[oR,kW]
abbrev KE(W:World)(base:Nat)(v:Value)(n:Nat)(I:Nat->Nat->Bool):Prop:=jE 179 201 vsC W base v (tW n I)
section
variable {W:World} {base g n m c:Nat} {I:Nat->Nat->Bool}
theorem qL(h:KE W base (.slice (some ⟨g,0,none⟩) m c) n I){k:Nat}(hk:k<n):W.rangeAt g (k*201) (vsC (I k)):=by
 have:=jE.range oR h (λ_=>false) (k:=k) (by grind[lL])
 grind[YG]
theorem wV(h:KE W base (.slice (some ⟨g,0,none⟩) m c) n I){k:Nat}(hk:k<n)(f:Nat->Bool):W.there g (k*201) (fZ f).size:=by
 exact jE.there oR h (by grind[lL])
theorem g8(h:KE W base (.slice (some ⟨g,0,none⟩) m c) n I){k:Nat}(hk:k<n)(f:Nat->Bool):KE (W.setCells g (k*201) (fZ f).toList) base (.slice (some ⟨g,0,none⟩) m c) n (oI I k f):=by
 have:=jE.setAt oR h (k:=k) (by grind[lL]) f
 rwa [OH] at this
theorem IU(h:KE W base (.slice (some ⟨g,0,none⟩) m c) n I){k j:Nat}(hk:k<n)(hj:j<201):W.cell? ⟨g,k*201+j,none⟩=some (.bool (I k j)):=
 qL h hk j _ (by show(fZ (I k)).toList[j]? =_;grind[sU])
theorem NF(h:KE W base (.slice (some ⟨g,0,none⟩) m c) n I){k j:Nat}(hk:k<n)(hj:j<201)(b:Bool):KE (W.setCell ⟨g,k*201+j,none⟩ (.bool b)) base (.slice (some ⟨g,0,none⟩) m c) n (oI I k λi=>if i=j then b else I k i)/\W.frozen? ⟨g,k*201+j,none⟩=false:=by
 have hfz:W.frozen? ⟨g,k*201+j,none⟩=false:=(jE.there oR h (k:=k) (by grind[lL]) j hj).2
 refine⟨?_,hfz⟩
 obtain rfl:m=(tW n I).length:=by grind[jE.form]
 have h1:=(h.1.stored (k*201+j) (.bool b)).1
 refine⟨?_,by have:=h.2;grind[lL]⟩
 have e:((tW n I).flatMap vsC).set (k*201+j) (.bool b)=(tW n (oI I k λi=>if i=j then b else I k i)).flatMap vsC:=by
  have h2:=DZ vsC 201 oR (λi=>if i=j then b else I k i) (tW n I) k (by grind[lL]);rw[OH] at h2;have h3:(λj_1=>if j_1=k then (λi=>if i=j then b else I k i) else I j_1)=oI I k λi=>if i=j then b else I k i:=rfl
  rw[h3] at h2;rw[<-h2];have hl:((tW n I).flatMap vsC).length=n*201:=by rw[gU vsC 201 oR,lL]
  have hx:vsC (λi=>if i=j then b else I k i)=(vsC (I k)).set j (.bool b):=by
   apply cD;intro i;by_cases hi:i<201
   .rw[List.getElem?_set];show(fZ _).toList[i]? =_;rw[Array.getElem?_toList,sU _ _ hi];by_cases e:j=i
    .grind[oR]
    .rw[aC e,aC (λx=>e x.symm)];show _=(fZ (I k)).toList[i]?
     grind[sU]
   grind[oR]
  have hmid:(((tW n I).flatMap vsC).drop (k*201)).take 201=vsC (I k):=by
   apply cD;intro i;by_cases hi:i<201
   .rw[List.getElem?_take_of_lt hi,dW,<-dJ h.1 (k*201+i) (by grind[lL]),IU h hk hi];show _=(fZ (I k)).toList[i]?;rw[Array.getElem?_toList,sU _ _ hi]
   .rw[cV (by simp;omega),cV (by rw[oR];omega)]
  rw[hx,<-hmid];clear hx hmid h2 h3;generalize (tW n I).flatMap vsC=X at hl|-;apply cD;intro i;rw[List.getElem?_set];by_cases h1:i<k*201
  .rw[aC (by omega),cy (by simp;omega),cy (by simp;omega),List.getElem?_take_of_lt h1]
  .by_cases h2:i<k*201+201
   .rw[cy (by simp;omega),dh (by simp;omega),List.getElem?_set];simp only[ck,List.length_drop];rw[Nat.min_eq_left (by omega)];by_cases e:k*201+j=i
    .rw[aX e,aX (by omega)];rw[aX (by omega),aX (by omega)]
    .rw[aC e,aC (by omega),List.getElem?_take_of_lt (by omega),dW]
     congr 1;omega
   .rw[aC (by omega),dh (by simp;omega),dW];simp only[aT,ck,List.length_set,List.length_drop]
    congr 1;omega
 rw[<-e]
 simpa[lL] using h1
end
theorem pj:(Tryz.prog.info? 179).map (λi=>(i.zero,i.size,i.bytes))=some (some (.agg (fZ λ_=>false)),201,201):=by kernel_rfl
theorem nz(n:Nat)(hn:n<=1000000)(w:World):(Instr.makeSlice 183 (.int .i64 (n:Int)) (.int .i64 (n:Int))).run Tryz.prog w=.ok (.slice (some ⟨w.heap.size,0,none⟩) n n) (w.alloc (.cells (madeCells (fZ λ_=>false) (n*201)) 179)):=by
 obtain⟨i,hi,hz⟩:=Option.map_eq_some_iff.1 pj
 simp only[Prod.mk.injEq] at hz
 obtain⟨hz,hs,hb⟩:=hz
 have hr:=run_make (P:=Tryz.prog) w 183 179 i _ Tryz.underlying183 hi hz .i64 .i64 n n (by omega) (Int.le_refl _) (by grind) (by omega)
 rw[hs] at hr
 assumption
theorem n8{n base:Nat}(hn:n<=1000000){w:World}(hb:base<=w.heap.size):KE (w.alloc (.cells (madeCells (fZ λ_=>false) (n*201)) 179)) base (.slice (some ⟨w.heap.size,0,none⟩) n n) n (λ_ _=>false):=by
 have h:=dy (base:=base) (e:=179) (size:=201) w (madeCells (fZ λ_=>false) (n*201)) n hb (by unfold maxLen;omega) (size_madeCells _ _)
 have e:(madeCells (fZ λ_=>false) (n*201)).toList=(tW n λ_ _=>false).flatMap vsC:=by
  have:=JA (z:=fZ λ_=>false) (by simp[fT]) n;rw[fT] at this;rw[this,tW,List.flatMap_map];rfl
 exact⟨by grind[lL],by grind[lL]⟩
section
variable {W:World} {base g n m c:Nat} {I:Nat->Nat}
end
def eqV(f g:Nat->Bool):Bool:=(List.range 201).all λi=>f i==g i
theorem VE{f g:Nat->Bool}:eqV f g=true↔∀v,v<201->f v=g v:=by simp[eqV]
theorem TJ(w:World)(f g:Nat->Bool):(Op.equalIn 10000 179 (.agg (fZ f)) (.agg (fZ g))).run Tryz.prog w=.ok (eqV f g) w:=by
 have hi:∃i,Tryz.prog.info? 4=some i:=dN.1 (by kernel_rfl)
 obtain⟨i,hi⟩:=hi
 have h1:Tryz.prog.cellsOf 4=1:=by kernel_rfl
 rw[run_equalIn_array w 9999 _ _ bV hi,h1]
 exact qO w f g _ _ _ (λi hi=>⟨sU f i (be.1 hi),sU g i (be.1 hi)⟩)
theorem ii(w:World)(f g:Nat->Bool):(binOp .neq 179 (.agg (fZ f)) (.agg (fZ g))).run Tryz.prog w=.ok (.bool (!eqV f g)) w:=by
 simp[run_neq_struct,TJ]
end

section
open Go.RowKit
theorem FP(w:World)(g:Nat)(cs:Array Value):Chg (λk=>k=g) w (w.setRow g cs):=
 ⟨rfl,rfl,rfl,by simp,λk _ hn=>aY w g k cs hn⟩
section
variable {P:Program} {Q:Exit->Act->World->Prop}
end
end
end Go.Proofs.YtchdkjenhppleaaGreat
