/-
 law29's example:job.solve:at its one block nothing is known.
-/
import Derived.Test.YtchdkjenhppleaaGreatA0
import Derived.Test.YtchdkjenhppleaaGreatMG
import Derived.LoopNIn
import Derived.StillTailTactics
import Derived.Test.YtchdkjenhppleaaGreatTQ
import Derived.Lib.TrailingZeros
import Derived.Laws.Bits64b
import Derived.Test.YtchdkjenhppleaaGreatFM
import Derived.Test.YtchdkjenhppleaaGreatTE
namespace Go.Proofs.YtchdkjenhppleaaGreat
set_option linter.unusedSimpArgs false
set_option linter.unusedVariables false
set_option linter.unusedSectionVars false
set_option maxRecDepth 100000
set_option maxHeartbeats 40000000
section
open Go.RowKit Go.Shelf
attribute [local go_sem] Oper.semAt_some iB fS gP fH
theorem EC(w:World):(zeroValue 68).run Tryz.prog w=.ok (.map none) w:=by kernel_rfl
theorem vV(w:World)(b:Option Nat):(binOp .eql 68 (.map b) (.map none)).run Tryz.prog w=.ok (.bool b.isNone) w:=by
 cases b
 .exact run_eql_map_nil_sl (P:=Tryz.prog) w 68 _ _ none zU
 .exact run_eql_map_nil_sl (P:=Tryz.prog) w 68 _ _ (some _) zU
theorem SE{P:Program}{g:Operand}{ps:Array Tmp}{assign body:Code}{Q:Exit->Act->World->Prop}{a:Act}{w:World}{gf:Nat}{lb:Array Value}
  (hg:a.eval g=.func (.func gf) #[] lb) (eg:∀args w,(callFunc gf args).run P w=.ok (.enter gf args) w)
  {I:World->Prop} {G:Array Value->World->Prop} (hit:LF P gf lb I G) (hps:∀xs W,G xs W->xs.size=ps.size)
  (J0 J1:World->Prop) (hJ0:eI w.heap.size J0) (hJ1:eI w.heap.size J1) (hI0:∀W,J0 W->I W) (hI1:∀W,J1 W->I W) (h0:J0 w)
  (hround:∀(l:Nat) (xs:Array Value) (W:World),G xs W->J0 W->
    assign.wpIn (Fence.wide.inRound l) 0 P (Exit.then (λa1 W1=>gO W W1/\J0 W1/\∃G':World->Prop,eI w.heap.size G'/\G' W1/\∀(lp:Nat) (W2:World),J0 W2->G' W2->body.wpIn (Fence.wide.inRound lp) 0 P (jH (λW'=>gO W2 W'/\J1 W') (λ_ _=>False)) a1 W2) (λ_ _ _=>False)) {tmps:=(ps.zip xs).foldl (λt (p,v)=>t.setIfInBounds p v) a.tmps,defers:= []} W)
  (hdone:∀(D:Nat) (W:World),w.heap.size<=D->J1 W->W.heap[D]? =some (.deferred (some []))->Q .normal {a with defers:={target:=.collected D,args:=#[]} :: a.defers} W):
  (Code.rangeFunc g ps assign body).wpIn Fence.wide 0 P Q a w:=
 WW hg eg hit hps J0 J1 (λ_ a1 W=>∃G':World->Prop,eI w.heap.size G'/\G' W/\∀(lp:Nat) (W2:World),J0 W2->G' W2->body.wpIn (Fence.wide.inRound lp) 0 P (jH (λW'=>gO W2 W'/\J1 W') (λ_ _=>False)) a1 W2) hJ0 hJ1
  (λ_ _ W W' row ⟨G',s,g,f⟩ hg hr=>⟨G',s,s W W' row g hg hr,f⟩) hI0 hI1 h0 hround (λl _ _ W hJ ⟨_,_,g,f⟩=>f l W hJ g) hdone
theorem eI.fset(B b:Nat)(L:List Fct):eI B (λW=>mJ W b L):=λW W' row h hg hr=>by
 obtain⟨o,ho,_⟩:=iM.obj h
 exact h.of_block ((tG ho (by obtain⟨es,c,hb,_⟩:=h;rw[hb] at ho;cases ho;rfl) hg hr).trans ho.symm)
theorem eI.intoB(B B' x:Nat):eI B (λW=>ID B' x W):=(eI.block _ _ rfl).and (eI.block _ _ rfl)
theorem RS(x gI gF gT gB gC nt:Nat)(w:World)(h:BE w x gI gF gT gB gC nt):
  Calls Tryz.prog 50 #[.pointer (some ⟨x,0,none⟩),.agg #[.int .i64 1,.int .i64 (-1),.slice (some ⟨gC,0,none⟩) 1 1]] w λe w'=>∃M kb,e=.returned (.map (some M))/\iT w' M (upd (λ_=>none) 0 (.map (some kb)))/\mJ w' kb []/\Below w.heap.size w w':=by
 have hmm:= @run_makeMap Tryz.prog
 have H:=ac h
 clear h
 refine(br (n:=0)).1 ?_
 refine cA Tryz.func50 rfl trivial ?_
 simp only[Tryz.ntmps50,bL,aN,aV,Nat.reduceAdd,Nat.reduceSub,bC,bD,bM,bG,bH,bJ]
 obtain⟨w0,hw0⟩:∃z,z=(w.alloc (.cells #[.int .i64 1,.int .i64 (-1),.slice (some ⟨gC,0,none⟩) 1 1] 79)).alloc (.map #[] 0):=⟨_,rfl⟩
 have hx0:Below w.heap.size w w0:=by rw[hw0];exact eA (eC _ _) (eC _ _)
 have hm0:iT w0 (w.heap.size+1) (λ_=>none):=by rw[hw0];have:=iT.made (w.alloc (.cells #[.int .i64 1,.int .i64 (-1),.slice (some ⟨gC,0,none⟩) 1 1] 79));simpa using this
 have HX0:=ac hx0
 have HM0:=ac hm0
 have HW0:=ac hw0
 have HI0:Hid (fR w0 (some ⟨gC,0,none⟩) 1 [0]):=⟨rfl,by omega,λk hk=>⟨gC,0,rfl,by
  obtain rfl:k=0:=by omega
  exact cK 0 (eB hx0 H.out.2.2.2.1) rfl,by
  obtain rfl:k=0:=by omega
  show I64 0
  unfold I64;omega⟩⟩
 clear hx0 hm0 hw0
 gi_wp2_with (
  (gi_at_call 88
   rw[<-HW0.out];refine(br.2 (rP (some ⟨gC,0,none⟩) 1 1 [0] w0 HI0.out)).mono ?_;rintro e w1 ⟨v,rfl,ho,hb1⟩;obtain⟨va,vc,rfl⟩:=ho.form;obtain⟨vb,vo,rfl,hv0,_⟩:=ho.ints.2.2 0 (by simp);have hvc:1<=vc:=ho.cap.1;have hvc2:vc<=9223372036854775807:=ho.cap.2.1;have HB1:=ac hb1
   clear ho hb1))
 have hv1:w1.cell? ⟨vb,vo,none⟩=some (.int .i64 0):=by simpa using hv0
 clear hv0
 have HB01:=ac (eA HX0.out HB1.out)
 have HM1:=ac (HM0.out.ext HB1.out)
 have HJ1:=ac (H.out.ext HB01.out)
 clear HM0 HX0 HW0 HI0
 obtain⟨M,hM⟩:∃M,M=w.heap.size+1:=⟨_,rfl⟩
 have hMl:w.heap.size<M:=by omega
 rw[<-hM] at HM1|-
 have hMw:=HM1.out.lt
 have HMl:=ac hMl
 have HMw:=ac hMw
 clear hM hMl hMw
 have hq:=vV
 rcases Nat.eq_or_lt_of_le hvc with rfl|hv
 all_goals
  refine wpIn_loop_rounds 2 ?_;rw[roundsIn_succ];obtain⟨w2,hw2⟩:∃z,z=w1.alloc (.cells #[.map none] 68):=⟨_,rfl⟩
  have hr2:w2.heap[w1.heap.size]? =some (.cells #[.map none] 68 (0,0)):=by rw[hw2];exact ai _ _
  have hx2:Below w1.heap.size w1 w2:=by rw[hw2];exact eC _ _
  have HW2:=ac hw2;have HR2:=ac hr2;have HX2:=ac hx2;clear hw2 hr2 hx2
  gi_wp2_with (
   (gi_at_call 89
    rw[<-HW2.out];refine(br.2 (XV x M w2)).mono ?_;rintro e w3 ⟨rfl,hib,hb3⟩;have HIB:=ac hib;have HB3:=ac hb3
    clear hib hb3))
  have HB23:=ac (eA HB01.out (eA HX2.out HB3.out));have hsz:=HB3.out.size;have hsz2:=eT HR2.out;have HS1:Hid (w1.heap.size<w2.heap.size/\w2.heap.size<=w3.heap.size):=⟨hsz2,hsz⟩
  clear hsz hsz2
  refine SE (gf:=129) (lb:=#[.pointer (some ⟨w2.heap.size+1,0,none⟩),.pointer (some ⟨w2.heap.size,0,none⟩),.pointer (some ⟨w2.heap.size+1+1,0,none⟩)]) rfl QG (XW x gI gF gT gB gC nt w2.heap.size) (λxs W ⟨kb,e,_⟩=>by rw[e];rfl)
   (λW=>W.heap[w1.heap.size]? =some (.cells #[.map none] 68 (0,0))/\ID w2.heap.size x W/\iT W M (λ_=>none)/\Below w.heap.size w W)
   (λW=>∃kb,M<kb/\W.heap[w1.heap.size]? =some (.cells #[.map (some kb)] 68 (0,0))/\mJ W kb []/\ID w2.heap.size x W/\iT W M (λ_=>none)/\Below w.heap.size w W)
   ((eI.block _ _ rfl).and ((eI.intoB _ _ _).and ((eI.imap _ _ _).and (eI.below (aw _) HB23.out.size))))
   (eI.ex λkb=>(eI.pure _ _).and<|(eI.block _ _ rfl).and ((eI.fset _ _ _).and ((eI.intoB _ _ _).and ((eI.imap _ _ _).and (eI.below (aw _) HB23.out.size)))))
   (λW h=>⟨h.2.1,H.out.ext h.2.2.2⟩) (λW ⟨kb,_,_,_,h3,_,h5⟩=>⟨h3,H.out.ext h5⟩)
   ⟨eB HB3.out HR2.out,HIB.out,HM1.out.ext (eA HX2.out HB3.out),HB23.out⟩ ?_ ?_
  .rintro lp xs W ⟨kb,rfl,hs⟩ hJ;have HJ:=ac hJ;have HS:=ac hs;clear hJ hs
   gi_wp2
   refine⟨gO.refl _,HJ.out,λW2=>mJ W2 kb [],eI.fset _ _ _,HS.out,?_⟩;clear HJ HS;rintro lp W2 ⟨h8,hib,him,hbw⟩ hs;obtain⟨c0,z0⟩:=cz 0 h8 rfl;have n1:=HS1.out.1;have n2:=HB01.out.size;obtain⟨w4,hw4⟩:∃z,z=W2.setCell ⟨w1.heap.size,0,none⟩ (.map (some kb)):=⟨_,rfl⟩
   have HW4:=ac hw4;have H84:Hid (w4.heap[w1.heap.size]? =some (.cells #[.map (some kb)] 68 (0,0))):=by rw[hw4,Hid,aO _ _ _ _ _ _ h8];rfl
   have HS4:Hid (mJ w4 kb []):=by rw[hw4];exact hs.setCell _ _
   have HIB4:Hid (ID w2.heap.size x w4):=by rw[hw4];exact⟨(bf _ _ _ _ (by show w2.heap.size≠w1.heap.size;omega)).trans hib.1,(bf _ _ _ _ (by show w2.heap.size+1≠w1.heap.size;omega)).trans hib.2⟩
   have HIM4:Hid (iT w4 M (λ_=>none)):=by rw[hw4];exact him.setCell _ _
   have HB4:Hid (Below w.heap.size w w4):=by rw[hw4];exact hbw.setCell (by show w.heap.size<=w1.heap.size;omega) _
   have HK4:Hid (gO W2 w4):=by rw[hw4];exact gO.setCell _ _ _
   clear hw4 hs hib him hbw h8 n1 n2
   gi_wp2_with (
    (gi_at_call 90
     rw[<-HW4.out];refine(br.2 (ij kb kb w4 HS4.out)).mono ?_;rintro e w5 ⟨kb',rfl,hle,hs5,hb5⟩;obtain⟨c5,z5⟩:=cz 0 (eB hb5 H84.out) rfl;have HS5:=ac hs5;have HB5:=ac hb5;have hkb:M<kb':=by have:=HIM4.out.lt;omega
     have HKB:=ac hkb
     clear hs5 hb5 hle hkb))
   go_wp2;have h86:(w5.setCell ⟨w1.heap.size,0,none⟩ (.map (some kb'))).heap[w1.heap.size]? =some (.cells #[.map (some kb')] 68 (0,0)):=by rw[aO _ _ _ _ _ _ (eB HB5.out H84.out)];rfl
   have n1:=HS1.out.1;have n2:=HB01.out.size;refine⟨(HK4.out.trans (gO.ext HB5.out)).trans (gO.setCell _ _ _),kb',HKB.out,h86,HS5.out.setCell _ _,⟨(bf _ _ _ _ (by show w2.heap.size≠w1.heap.size;omega)).trans (eB HB5.out HIB4.out.1),(bf _ _ _ _ (by show w2.heap.size+1≠w1.heap.size;omega)).trans (eB HB5.out HIB4.out.2)⟩,(HIM4.out.ext HB5.out).setCell _ _,(eA HB4.out HB5.out).setCell (by show w.heap.size<=w1.heap.size;omega) _⟩
  .rintro D W hD ⟨kb,hkb,h8,hs,hib,him,hbw⟩ hK;have c0:=cK 0 h8 rfl;have hlk:=iT.look_ok (P:=Tryz.prog) him Tryz.underlying117 aP (EC W) 0;obtain⟨o,hput,him2⟩:=iT.put (P:=Tryz.prog) him Tryz.underlying117 aP 0 (.map (some kb));have hq1:=vV W (some kb);have hxl:x<w.heap.size:=by obtain⟨⟨_,_,_,_,_,hj⟩,_⟩:=H.out;exact eT hj
   have n0:=HMl.out;obtain⟨⟨fm,ec,rc,eb,rb,hj⟩,_⟩:=H.out.ext hbw;have hjP:(W.putObj M o).heap[x]? =some (VO gF gB gC 0 ec fm 0 rc eb rb):=(bk (by omega)).trans hj;have j10:(W.putObj M o).cell? ⟨x,10,none⟩=some (.slice eb 0 ec):=cK 10 hjP rfl;clear hj hjP
   gi_wp2
   refine wpIn_loop_rounds 1 ?_;rw[roundsIn_succ]
   gi_wp2
   try rw[roundsIn_succ]
   gi_wp2
   have n1:=HMw.out;have n2:=HX2.out.size;have n3:=HB3.out.size;have hK2:(W.putObj M o).heap[D]? =some (.deferred (some [])):=(bk (by omega)).trans hK;refine⟨by simp,.inl ⟨_,_,rfl,cI hK2,?_⟩⟩;have hb9:Below w.heap.size w (W.putObj M o):=hbw.grown (cG W M o) hbw.size (λq e=>by injection e with e;omega);have hs9:mJ (W.putObj M o) kb []:=hs.of_block (bk (by omega));exact⟨.map (some M),by simp[results,Tryz.results50,go_sem],M,kb,rfl,(eI.imap D M _).put (.deferred none) him2 (aw _) hK2 rfl,(eI.fset D kb []).put (.deferred none) hs9 (aw _) hK2 rfl,(eI.below (n₀:=w.heap.size) (B:=w.heap.size) (w₀:=w) (aw _) (aw _)).put (.deferred none) (l:=D) hb9 (by omega) hK2 rfl⟩
end

section
open Go.RowKit Go.Shelf
def eu(nt:Nat)(e:Ending):Prop:=(nt=2/\e=.returned (.tuple #[]))\/(nt=1/\e=.panicked [{v:=.iface 53 (flV 14 0 0),recovered:=false}])
theorem IJ(x gI gF gT gB gC nt:Nat)(w:World)(hn:nt=1\/nt=2)(h:BE w x gI gF gT gB gC nt):
  Calls Tryz.prog 20 #[.pointer (some ⟨x,0,none⟩),.int .i64 0] w λe w'=>eu nt e/\Below w.heap.size w w':=by
 have H:=ac h
 have HN:=ac hn
 obtain⟨⟨fm,ec,rc,eb,rb,h0⟩,h1,h2,h3,h4⟩:=h
 have j8:=cK 8 h0 rfl
 obtain⟨t0,t1,t2⟩:=tY h4 rfl
 clear h0 h1 h2 h3 h4 hn
 go_enter Tryz.func20,Tryz.ntmps20
 go_upto_region 1 with (
  (go_at_call 50
   refine(RS x gI gF gT gB gC nt w H.out).mono ?_;rintro e w1 ⟨M,kb,rfl,hm,hs,hb1⟩;have HM:=ac hm;have HS:=ac hs;have HB1:=ac hb1;have HJ1:=ac (H.out.ext hb1)
   clear hm hs hb1))
 clear t0 t1 t2 j8
 obtain⟨⟨fm,ec,rc,eb,rb,h0⟩,h1,h2,h3,h4⟩:=HJ1.out
 have j8:=cK 8 h0 rfl
 have j12:=cK 12 h0 rfl
 have t2:=cK 2 h4 rfl
 have b0:=cK 0 h3 rfl
 clear h0 h1 h2 h3 h4
 go_wp2
 refine cL 2 ?_
 rw[cM]
 have hlk:=iT.look (P:=Tryz.prog) HM.out Tryz.underlying117 aP (EC w1) 0
 go_upto_region 5 with (
  (go_at_call 51
   refine(QS x gI gF gT gB gC nt kb w1 HN.out HJ1.out HS.out).mono ?_;rintro e w2 ⟨g,c,rfl,hg,hb2⟩;have HG:=ac hg;have HB2:=ac (eA HB1.out hb2);have HJ2:=ac (HJ1.out.ext hb2)
   clear hg hb2))
 clear j8 j12 t2 b0 hlk
 rcases HN.out with rfl|rfl
 .have g5:w2.cell? ⟨g,5,none⟩=some (.int .i64 14):=cK 5 HG.out rfl;refine wp_region_still_tail 12 (by kernel_rfl) (by kernel_rfl) ?_;simp only[ak,aq,aj,ap]
  repeat still_step
  refine wpStill_nil ?_;change wpList _ _ _ _ _ w2.drew
  go_wp2_with (
   (go_at_call 43
    refine(lu 14 0 0 w2.drew).mono ?_;rintro e w3 ⟨rfl,hb3⟩;have HB3:=ac (eA HB2.out (eA (eS (ao _ _) 1) hb3))
    clear hb3))
  exact⟨rfl,Or.inr ⟨rfl,rfl⟩,HB3.out⟩
 .have g5:w2.cell? ⟨g,5,none⟩=some (.int .i64 0):=cK 5 HG.out rfl;refine wp_region_still_tail 12 (by kernel_rfl) (by kernel_rfl) ?_;simp only[ak,aq,aj,ap]
  repeat still_step
  refine wpStill_nil ?_;change wpList _ _ _ _ _ w2.drew
  go_wp2_with (
   (go_at_call 43
    refine(nZ _ 0 0 0 rfl w2.drew).mono ?_;rintro e w3 ⟨rfl,hb3⟩;have hb:=eA (eS (ao w2.heap.size w2) 1) hb3;have HB3:=ac (eA HB2.out hb);obtain⟨⟨fm,ec,rc,eb,rb,h0⟩,_⟩:=HJ2.out.ext hb;have j12:=cK 12 h0 rfl
    clear h0 hb hb3))
  refine cL 1 ?_;rw[cM];go_wp2
  try rw[cM]
  go_wp2
  go_end0
  exact⟨Or.inl ⟨rfl,rfl⟩,HB3.out⟩
end

section
open Go.RowKit
def tZ(n:Nat)(f:Nat->Value):Array Value:=((List.range n).map f).toArray
theorem EB(n:Nat)(f:Nat->Value):(tZ n f).size=n:=by simp[tZ]
theorem KL(n:Nat)(f:Nat->Value)(j:Nat)(h:j<n):(tZ n f)[j]? =some (f j):=by grind[tZ]
theorem mu{n:Nat}{f g:Nat->Value}(h:∀k,k<n->f k=g k):tZ n f=tZ n g:=by
 grind[tZ]
theorem VI{n:Nat}{f g:Nat->Value}{j:Nat}{v:Value}(hj:g j=v)(hg:∀k,k<n->k≠j->g k=f k):(tZ n f).setIfInBounds j v=tZ n g:=by
 apply cH
 intro k
 by_cases hk:k<n
 .rw[Array.getElem?_setIfInBounds,KL n f k hk,KL n g k hk];by_cases e:j=k
  .grind[EB]
  grind
 grind[EB]
theorem mw{n:Nat}{f:Nat->Value}(h:∀k,(f k).oneCell'=true):(tZ n f).all (·.oneCell')=true:=by
 grind[tZ]
def fZ(f:Nat->Bool):Array Value:=tZ 201 λk=>.bool (f k)
theorem fT(f:Nat->Bool):(fZ f).size=201:=EB _ _
theorem sU(f:Nat->Bool)(k:Nat)(h:k<201):(fZ f)[k]? =some (.bool (f k)):=KL _ _ _ h
theorem kU(f:Nat->Bool):(fZ f).all (·.oneCell')=true:=mw λ_=>rfl
theorem gh(f:Nat->Bool)(j:Nat)(b:Bool):(fZ f).setIfInBounds j (.bool b)=fZ λk=>if k=j then b else f k:=
 VI (by simp) λk _ hk=>by grind
theorem NB{f g:Nat->Bool}(h:∀k,k<201->f k=g k):fZ f=fZ g:=mu λk hk=>by grind
end

section
open Go.RowKit
theorem kW:(Tryz.prog.info? 179).map (·.size)=some 201:=by kernel_rfl
theorem lN:Tryz.zeroCells179=fZ λ_=>false:=by rfl
abbrev vsO(f:Nat->Bool):Obj:=.cells (fZ f) 179
theorem CO{f g:Nat->Bool}(h:∀k,k<201->f k=g k):vsO f=vsO g:=by rw[vsO,vsO,NB h]
theorem vK{W:World}{g:Nat}{f:Nat->Bool}(hg:W.heap[g]? =some (vsO f)):(loadVar 179 ⟨g,0,none⟩).run Tryz.prog W=.ok (.agg (fZ f)) W:=
 cd (P:=Tryz.prog) W g 179 179 _ (0,0) _ hg bV rfl (by simp[fT,kW])
theorem uF{W:World}{g:Nat}{f h:Nat->Bool}(hg:W.heap[g]? =some (vsO f))(j:Nat)(b:Bool)(e:∀k,k<201->(if k=j then b else f k)=h k):(W.setCell ⟨g,j,none⟩ (.bool b)).heap[g]? =some (vsO h):=by
 rw[aO _ _ _ _ _ _ hg,gh,NB e]
theorem oL{W:World}{g:Nat}{f:Nat->Bool}(hg:W.heap[g]? =some (vsO f))(j:Nat)(hj:j<201):W.cell? ⟨g,j,none⟩=some (.bool (f j)):=by rw[bd _ _ _ _ _ _ hg,sU _ _ hj]
theorem sD{W:World}{g:Nat}{f:Nat->Bool}(hg:W.heap[g]? =some (vsO f))(j:Nat):W.frozen? ⟨g,j,none⟩=false:=dg _ _ _ _ _ hg
def ep(w:World)(f:Nat->Bool)(e:Ending)(w':World):Prop:=e=.returned (.agg (fZ f))/\Below w.heap.size w w'
theorem VY(w:World):Calls Tryz.prog 110 #[] w (ep w λ_=>true):=by
 go_enter Tryz.func110,Tryz.ntmps110
 go_wp2
 go_loopw [1,2] (λ_ i wr=>∃(k:Nat),k<=201/\i=.int .i64 k/\Hid (wr.heap[w.heap.size]? =some (vsO λj=>decide (j<k)))/\Hid (Below w.heap.size w wr)) (λ_ i _=>201-(intOf i).toNat)
 case atStart=>exact⟨0,by omega,rfl,by rw[Hid,ai,lN,<-CO (f:=λ_=>false) (g:=λj=>decide (j<0)) (λk _=>by simp)],eD _ _⟩
 case round=>
  obtain⟨k,hk,rfl,HS,HB⟩:=hrel;by_cases hlt:k<201
  .have hcell:=oL HS.out k hlt;have hfr:=sD HS.out k;have HS2:Hid ((wr.setCell ⟨w.heap.size,k,none⟩ (.bool true)).heap[w.heap.size]? =some (vsO λj=>decide (j<k+1))):=uF HS.out k true λj _=>by
    grind
   have hlt':(k:Int)<201:=by omega
   generalize decide (k<k)=bb at *;go_wp2
   go_roundw
   case rel=>exact⟨k+1,by omega,by go_num,HS2,HB.out.setCell (aw _) _⟩
   case measure=>simp[intOf];omega
  .obtain rfl:k=201:=by omega
   have HSx:Hid (wr.heap[w.heap.size]? =some (vsO λ_=>true)):=by
    have:=HS.out
    rwa [CO (f:=λj=>decide (j<201)) (g:=λ_=>true) (λj hj=>by simp[hj])] at this
   go_wp2_with (first
    |(refine ay rfl 179 _ rfl w.heap.size rfl 179 _ (0,0) _ HSx.out bV rfl (by exact kW) ?_)
    |(refine aU rfl 179 _ _ rfl w.heap.size (fZ λ_=>true) rfl rfl 179 _ HSx.out (by exact kW) rfl (kU _) ?_))
   exact aD (v:=.agg (fZ λ_=>true)) (by simp[results,Tryz.results110,asAddr,Act.put,vK (aG _ _ _ _ _ _ HSx.out)]) rfl ⟨rfl,aA HB.out (by omega) _⟩
def DK(f g:Nat->Bool)(k j:Nat):Bool:=if j<k then f j&&g j else f j
theorem VW(f g:Nat->Bool)(w:World):Calls Tryz.prog 111 #[.agg (fZ f),.agg (fZ g)] w (ep w λj=>f j&&g j):=by
 go_enter Tryz.func111,Tryz.ntmps111
 go_upto_region 1 with (fail)
 obtain⟨W,hW⟩:∃W,W=((w.alloc (vsO f)).alloc (vsO g)).alloc (vsO λ_=>false):=⟨_,rfl⟩
 rw[lN,<-hW]
 have hs:W.heap[w.heap.size]? =some (vsO f):=by grind[Below.heap_alloc,heap_alloc_new]
 have ht:W.heap[w.heap.size+1]? =some (vsO g):=by
  rw[hW,aJ _ _ _ (by simp)];have:=ai (w.alloc (vsO f)) (vsO g)
  simp_all
 have hr:W.heap[w.heap.size+1+1]? =some (vsO λ_=>false):=by
  rw[hW];have:=ai ((w.alloc (vsO f)).alloc (vsO g)) (vsO λ_=>false)
  simp_all
 have hB:Below w.heap.size w W:=by rw[hW];exact((((ao _ w).alloc (aw _) _).alloc (by simp) _).alloc (by simp;omega) _)
 have HS:=ac hs
 have HT:=ac ht
 have HR:=ac hr
 have HB:=ac hB
 clear hW hs ht hr hB
 go_wp2
 go_loopw [5,6] (λ_ i wr=>∃(k:Nat),k<=201/\i=.int .i64 k/\Hid (wr.heap[w.heap.size]? =some (vsO (DK f g k)))/\Hid (wr.heap[w.heap.size+1]? =some (vsO g))/\Hid (wr.heap[w.heap.size+1+1]? =some (vsO λ_=>false))/\Hid (Below w.heap.size w wr)) (λ_ i _=>201-(intOf i).toNat)
 case atStart=>exact⟨0,by omega,rfl,by trivial,HT.out,HR.out,HB.out⟩
 case round=>
  obtain⟨k,hk,rfl,HS,HT,HR,HB⟩:=hrel;by_cases hlt:k<201
  .have hlt':(k:Int)<201:=by omega
   have hcell:wr.cell? ⟨w.heap.size,k,none⟩=some (.bool (f k)):=by
    have:=oL HS.out k hlt
    grind[DK]
   have hcg:=oL HT.out k hlt;have hfr:=sD HS.out k;have hstep:∀b,b=(f k&&g k)->Hid ((wr.setCell ⟨w.heap.size,k,none⟩ (.bool b)).heap[w.heap.size]? =some (vsO (DK f g (k+1)))):=λb hb=>uF HS.out k b λj _=>by
    unfold DK;by_cases e:j=k
    .subst e;simp[hb]
    .have:(j<k+1)↔j<k:=by omega
     simp[e,this]
   have HST:=ac hstep;clear hstep
   have hfin:∀b,b=(f k&&g k)->∃(k':Nat),k'<=201/\Value.int IntKind.i64 ((k:Int)+1)=.int .i64 k'/\Hid ((wr.setCell ⟨w.heap.size,k,none⟩ (.bool b)).heap[w.heap.size]? =some (vsO (DK f g k')))/\Hid ((wr.setCell ⟨w.heap.size,k,none⟩ (.bool b)).heap[w.heap.size+1]? =some (vsO g))/\Hid ((wr.setCell ⟨w.heap.size,k,none⟩ (.bool b)).heap[w.heap.size+1+1]? =some (vsO λ_=>false))/\Hid (Below w.heap.size w (wr.setCell ⟨w.heap.size,k,none⟩ (.bool b))):=λb hb=>
    ⟨k+1,by omega,by simp,HST.out b hb,by rw[Hid,bf _ _ _ _ (by simp)];exact HT.out,by rw[Hid,bf _ _ _ _ (by simp;omega)];exact HR.out,HB.out.setCell (aw _) _⟩
   have HFIN:=ac hfin;clear hfin;cases hf:f k with
   |true=>
    rw[hf] at hcell;have HB2:Hid (g k=(f k&&g k)):=by rw[Hid,hf];rfl
    clear hf;go_wp2
    go_roundw
    case rel=>exact HFIN.out _ HB2.out
    case measure=>simp[intOf];omega
   |false=>
    rw[hf] at hcell;have HB2:Hid (false=(f k&&g k)):=by rw[Hid,hf];rfl
    clear hf;go_wp2
    go_roundw
    case rel=>exact HFIN.out _ HB2.out
    case measure=>simp[intOf];omega
  .obtain rfl:k=201:=by omega
   have HSx:Hid (wr.heap[w.heap.size]? =some (vsO λj=>f j&&g j)):=by
    have:=HS.out
    rwa [CO (f:=DK f g 201) (g:=λj=>f j&&g j) (λj hj=>by simp[DK,hj])] at this
   go_wp2_with (first
    |(refine ay rfl 179 _ rfl w.heap.size rfl 179 _ (0,0) _ HSx.out bV rfl (by rw[fT];exact kW) ?_)
    |(refine aU rfl 179 _ _ rfl (w.heap.size+1+1) (fZ λj=>f j&&g j) rfl rfl 179 _ HR.out (by rw[fT];exact kW) rfl (kU _) ?_))
   exact aD (v:=.agg (fZ λj=>f j&&g j)) (by simp[results,Tryz.results111,asAddr,Act.put,vK (aG _ _ _ _ _ _ HR.out)]) rfl ⟨rfl,aA HB.out (by omega) _⟩
theorem VX(f:Nat->Bool)(G B:Nat)(x:Int)(hx:0<=x/\x<=200)(w:World)(hG:w.heap[G]? =some (vsO f))(hB:w.cell? ⟨B,0,none⟩=some (.pointer (some ⟨G,0,none⟩))):
  Calls Tryz.prog 162 (#[.int .i64 x]++ #[.pointer (some ⟨B,0,none⟩)]) w λe w'=>e=.returned (.bool (!f x.toNat))/\Below w.heap.size w w':=by
 obtain⟨m,rfl⟩:∃m:Nat,x=(m:Int):=⟨x.toNat,by omega⟩
 show Calls Tryz.prog 162 #[.int .i64 (m:Int),.pointer (some ⟨B,0,none⟩)] w _
 have hcell:=oL hG m (by omega)
 go_wp2
 go_ret
 simp[ao]
theorem TQ(args:Array Value)(w:World):(callFunc 162 args).run Tryz.prog w=.ok (.enter 162 args) w:=cQ Tryz.func162 (by rfl) rfl args w
def GF(f:Nat->Bool)(xs:List Int):Bool:= !xs.any λx=> !f x.toNat
theorem DP(f:Nat->Bool)(G:Nat)(a:Option Addr)(n c:Nat)(xs:List Int)(w:World)(hG:w.heap[G]? =some (vsO f))(h:fR w a n xs)(hx:∀x∈xs,0<=x/\x<=200):
  Calls Tryz.prog 146 #[.pointer (some ⟨G,0,none⟩),.slice a n c] w λe w'=>e=.returned (.bool (GF f xs))/\Below w.heap.size w w':=by
 have HC:=ac (iJ 162 #[.pointer (some ⟨w.heap.size,0,none⟩)] TQ (λx=> !f x.toNat) a n c xs (w.alloc (.cells #[.pointer (some ⟨G,0,none⟩)] 236))
  (λx W hxx hb=>VX f G w.heap.size x (hx x hxx) W (eB (eA (eD w _) hb) hG) (by
    have:=eB hb (ai w (.cells #[.pointer (some ⟨G,0,none⟩)] 236))
    rw[bd _ _ _ _ _ _ this];rfl)) (h.ext (eD _ _)))
 go_enter Tryz.func146,Tryz.ntmps146
 go_wp2_with (
  (refine HC.out.mono ?_
   rintro e w1 ⟨rfl,hb1⟩
   have HB1:=ac (eA (eD w _) hb1)))
 go_ret
 trivial
end
end Go.Proofs.YtchdkjenhppleaaGreat
