/-
 law29's example:a function without edges:split.Whole tells it is whole.
-/
import Derived.Test.YtchdkjenhppleaaGreatA0
import Derived.Test.YtchdkjenhppleaaGreatEB
import Derived.Test.YtchdkjenhppleaaGreatInsR
import Derived.Test.YtchdkjenhppleaaGreatTA
import Derived.Test.YtchdkjenhppleaaGreatMC
import Derived.Test.YtchdkjenhppleaaGreatMix
namespace Go.Proofs.YtchdkjenhppleaaGreat
set_option linter.unusedSimpArgs false
set_option linter.unusedVariables false
set_option linter.unusedSectionVars false
set_option maxRecDepth 100000
set_option maxHeartbeats 40000000
section
open Go.RowKit Go.Shelf
attribute [local go_sem] Oper.semAt_some iB fS gP fH
theorem uL{P:Program}{α:Type}{g:Operand}{ps:Array Tmp}{assign body:Code}{Q:Exit->Act->World->Prop}{a:Act}{w:World}{gf:Nat}{lb:Array Value}
  (hg:a.eval g=.func (.func gf) #[] lb) (eg:∀args w,(callFunc gf args).run P w=.ok (.enter gf args) w)
  {enc:α->Array Value} (I:World->Prop) (hit:sQ P gf lb enc [] I) (hps:∀x,(enc x).size=ps.size) (hI:∀W,Below w.heap.size w W->I W)
  (hdone:∀(D:Nat) (W:World),w.heap.size<=D->Below w.heap.size w W->W.heap[D]? =some (.deferred (some []))->Q .normal {a with defers:={target:=.collected D,args:=#[]} :: a.defers} W):
  (Code.rangeFunc g ps assign body).wpIn Fence.wide 0 P Q a w:=by
 refine tH (l:= []) hg eg I hit hps (λd r W=>d= []/\r= []/\Below w.heap.size w W) (λ_ _=>False) ?_ (λc=>eI.pure _ _) (λd r W h=>hI W h.2.2) (λ_ _=>False) (λ_ _ _ _ _ h=>h.elim) (λ_ _ _ _ _ _ _ h=>h) ⟨rfl,rfl,ao _ _⟩ ?_ (λD W hD h=>hdone D W hD h.2.2) (λ_ _ _ _ h=>h.elim)
 .intro d r;exact(eI.pure _ _).and ((eI.pure _ _).and (eI.below (aw _) (aw _)))
 .intro lp d x r W he;cases d<;>cases he
theorem AQ(pa:Option Addr)(pn pc:Nat)(ba:Option Addr)(bn bc:Nat)(w:World):Calls Tryz.prog 113 #[kF pa pn pc ba bn bc] w λe w'=>e=.returned (.func (.func 148) #[] #[.pointer (some ⟨w.heap.size,0,none⟩)])/\w'=w.alloc (gH pa pn pc ba bn bc):=by
 go_enter Tryz.func113,Tryz.ntmps113
 go_wp2
 go_ret
 exact⟨rfl,rfl⟩
theorem uS(args:Array Value)(w:World):(callFunc 148 args).run Tryz.prog w=.ok (.enter 148 args) w:=cQ Tryz.func148 (by kernel_rfl) rfl args w
theorem wZ(pa:Option Addr)(pn pc:Nat)(ba:Option Addr)(b:jU)(hb:toD b.t= [])(G:Nat):sQ Tryz.prog 148 #[.pointer (some ⟨G,0,none⟩)] CJ [] (λW=>W.heap[G]? =some (gH pa pn pc ba 1 1)/\iP W ba 1 [b]):=by
 intro l K Kx T W hK hKx hInv hT0 hTg hY h0
 refine callsIn_of_wp Tryz.func148 rfl trivial ?_ rfl
 simp only[Tryz.ntmps148,bL,aN,aV,Nat.reduceAdd,Nat.reduceSub,bC,bD,bM,bG,bH,bJ]
 have HI:=ac hInv
 have HK0:=ac hK
 have H0:=ac h0
 have HBT:=ac hb
 have hg0:W.cell? ⟨G,1,none⟩=some (.slice ba 1 1):=cR (hInv _ _ h0).1 rfl
 clear hY hInv hK hKx h0 hT0 hTg hb
 gi_wp2
 gi_loopw [3,4,5,6,10] (λ_ _ _ _ i wr=>∃k:Nat,i=.int .i64 (k:Int)/\k<=1/\Hid (K [] wr)) (λ_ _ _ _ i _=>1-(intOf i).toNat)
 case atStart=>exact⟨0,rfl,by omega,H0.out⟩
 case round=>
  obtain⟨k,rfl,hk,HK⟩:=hrel;clear hg0;by_cases hlt:k<1
  .obtain⟨x,b',o,hbx,hxo,rfl,c0,c1,c2,c3,c4⟩:=(HI.out _ _ HK.out).2.cells hlt;obtain rfl:k=0:=by omega
   obtain rfl:b=x:=by simpa using hbx
   have HXO:=ac hxo;clear hbx hxo;simp only[bx,bz] at c0 c1 c2 c3 c4;rw[show((0:Nat):Int)=0 from rfl]
   gi_wp2_with (
    (gi_at_call 109
     refine(br.2 (zW b.t _ HXO.out)).mono ?_;rintro e w2 ⟨v,rfl,ho,hb⟩;obtain⟨va,vc,rfl⟩:=ho.form;rw[HBT.out];have HK2:=ac (HK0.out _ _ _ HK.out (eA (eD wr (kP b)) hb))
     clear ho hb))
   gi_loopw [5,6,19] (λ_ _ i wi=>i=.int .i64 0/\Hid (K [] wi)) (λ_ _ i _=>0)
   case atStart=>exact⟨rfl,HK2⟩
   case round=>
    obtain⟨rfl,HKj⟩:=hrel
    gi_wp2
    go_roundw
    case rel=>exact⟨1,rfl,by omega,HKj⟩
    case measure=>simp[intOf]
  .obtain rfl:k=1:=by omega
   gi_wp2
   go_end0
   exact⟨⟨_,rfl⟩,Or.inl ⟨_,rfl,HK.out⟩⟩
theorem FN(pa:Option Addr)(pn pc:Nat)(ba:Option Addr)(b:jU)(w:World)(hb:toD b.t= [])(h:iP w ba 1 [b]):
  Calls Tryz.prog 76 #[kF pa pn pc ba 1 1] w λe w'=>e=.returned (.bool true)/\Below w.heap.size w w':=by
 have H:=ac h
 have HBT:=ac hb
 clear h hb
 refine(br (n:=0)).1 ?_
 refine cA Tryz.func76 rfl trivial ?_
 simp only[Tryz.ntmps76,bL,aN,aV,Nat.reduceAdd,Nat.reduceSub,bC,bD,bM,bG,bH,bJ]
 obtain⟨w0,hw0⟩:∃z,z=(w.alloc (gH pa pn pc ba 1 1)).alloc (.cells #[.bool false] 4):=⟨_,rfl⟩
 have hx0:Below w.heap.size w w0:=by rw[hw0];exact eA (eC _ _) (eC _ _)
 have hr0:w0.heap[w.heap.size]? =some (gH pa pn pc ba 1 1):=by rw[hw0];exact eB (eC _ _) (ai _ _)
 have hr1:w0.heap[w.heap.size+1]? =some (.cells #[.bool false] 4 (0,0)):=by rw[hw0];exact fM _ _ _ (by simp)
 have HX0:=ac hx0
 have HR0:=ac hr0
 have HR1:=ac hr1
 have HW0:=ac hw0
 clear hx0 hr0 hr1 hw0
 gi_wp2_with (
  (gi_at_call 113
   rw[<-HW0.out];refine(br.2 (AQ pa pn pc ba 1 1 w0)).mono ?_;rintro e w2 ⟨rfl,hw2⟩;have HW2:=ac hw2
   clear hw2))
 have hx2:Below w0.heap.size w0 w2:=by rw[HW2.out];exact eC _ _
 have hr2:w2.heap[w0.heap.size]? =some (gH pa pn pc ba 1 1):=by rw[HW2.out];exact ai _ _
 have HX2:=ac hx2
 have HR2:=ac hr2
 clear hx2 hr2
 refine uL (gf:=148) (lb:=#[.pointer (some ⟨w0.heap.size,0,none⟩)]) (enc:=CJ) rfl uS _ (wZ pa pn pc ba b HBT.out w0.heap.size) (λ_=>rfl) (λW hW=>⟨eB hW HR2.out,H.out.ext (eA (eA HX0.out HX2.out) hW)⟩) ?_
 rintro D W hD hW hK
 have hx:=eA HX2.out hW
 have q1:=(qR (eB hx HR0.out) rfl).2
 obtain⟨c0,z0⟩:=cz 0 (eB hx HR1.out) rfl
 have HX:=ac (eA HX0.out hx)
 have hDne:D≠w.heap.size+1:=by
  have:=eT HR1.out;have:=HX2.out.size;omega
 clear hx
 have HWW:=ac hW
 clear hW
 gi_wp2
 have hK2:(W.setCell ⟨w.heap.size+1,0,none⟩ (.bool true)).heap[D]? =some (.deferred (some [])):=by rw[bf _ _ _ _ hDne];exact hK
 refine⟨by simp,.inl ⟨_,_,rfl,cI hK2,?_⟩⟩
 have hW1:=eB (eA HX2.out HWW.out) HR1.out
 have hst:=aO W (w.heap.size+1) 0 _ _ (.bool true) hW1
 have hput:=cG (W.setCell ⟨w.heap.size+1,0,none⟩ (.bool true)) D (.deferred none)
 have h9:=(hput.block _ (eT hst) (λe=>by injection e with e;omega)).trans hst
 have hb9:Below w.heap.size w ((W.setCell ⟨w.heap.size+1,0,none⟩ (.bool true)).putObj D (.deferred none)):=(HX.out.setCell (by show w.heap.size<=w.heap.size+1;omega) _).grown hput (by have:=eT hst;omega) (λq e=>by injection e with e;have:=HX0.out.size;have:=HX2.out.size;omega)
 generalize (W.setCell ⟨w.heap.size+1,0,none⟩ (.bool true)).putObj D (.deferred none)=W9 at*
 have c9:=cK 0 h9 rfl
 exact⟨.bool true,by simp[results,Tryz.results76,go_sem,c9],rfl,hb9⟩
theorem fz(pa:Option Addr)(pn pc:Nat)(ba:Option Addr)(b:jU)(fv:Value)(w:World)(hb:toD b.t= [])(h:iP w ba 1 [b])(hfv:∃g c,fv=.func (.func g) #[] c):
  Calls Tryz.prog 114 #[kF pa pn pc ba 1 1,fv] w λe w'=>e=.returned (.slice none 0 0)/\Below w.heap.size w w':=by
 obtain⟨gq,cq,rfl⟩:=hfv
 have H:=ac h
 have HBT:=ac hb
 clear h hb
 refine(br (n:=0)).1 ?_
 refine cA Tryz.func114 rfl trivial ?_
 simp only[Tryz.ntmps114,bL,aN,aV,Nat.reduceAdd,Nat.reduceSub,bC,bD,bM,bG,bH,bJ]
 obtain⟨w0,hw0⟩:∃z,z=((w.alloc (gH pa pn pc ba 1 1)).alloc (.cells #[.func (.func gq) #[] cq] 190)).alloc (.cells #[.slice none 0 0] 107):=⟨_,rfl⟩
 have hx0:Below w.heap.size w w0:=by rw[hw0];exact eA (eA (eC _ _) (eC _ _)) (eC _ _)
 have hr0:w0.heap[w.heap.size]? =some (gH pa pn pc ba 1 1):=by rw[hw0];exact eB (eA (eC _ _) (eC _ _)) (ai _ _)
 have hr1:w0.heap[w.heap.size+1+1]? =some (.cells #[.slice none 0 0] 107 (0,0)):=by rw[hw0];exact fM _ _ _ (by simp)
 have HX0:=ac hx0
 have HR0:=ac hr0
 have HR1:=ac hr1
 have HW0:=ac hw0
 clear hx0 hr0 hr1 hw0
 gi_wp2_with (first
  |(gi_at_call 113
    refine(br.2 (AQ pa pn pc ba 1 1 w1)).mono ?_;rintro e w2 ⟨rfl,hw2⟩;have HW2:=ac hw2
    clear hw2)
  |(gi_at_call 76
    rw[<-HW0.out];refine(br.2 (FN pa pn pc ba b w0 HBT.out (H.out.ext HX0.out))).mono ?_;rintro e w1 ⟨rfl,hb1⟩;obtain⟨q0,q1⟩:=qR (eB hb1 HR0.out) rfl;have HB1:=ac hb1
    clear hb1))
 have hx2:Below w1.heap.size w1 w2:=by rw[HW2.out];exact eC _ _
 have hr2:w2.heap[w1.heap.size]? =some (gH pa pn pc ba 1 1):=by rw[HW2.out];exact ai _ _
 have HX2:=ac (eA HB1.out hx2)
 have HR2:=ac hr2
 clear hx2 hr2 q0 q1
 refine uL (gf:=148) (lb:=#[.pointer (some ⟨w1.heap.size,0,none⟩)]) (enc:=CJ) rfl uS _ (wZ pa pn pc ba b HBT.out w1.heap.size) (λ_=>rfl) (λW hW=>⟨eB hW HR2.out,H.out.ext (eA (eA HX0.out HX2.out) hW)⟩) ?_
 rintro D W hD hW hK
 have hx:=eA HX2.out hW
 obtain⟨c0,z0⟩:=cz 0 (eB hx HR1.out) rfl
 have HX:=ac (eA HX0.out hx)
 have hDne:D≠w.heap.size+1+1:=by
  have:=eT HR1.out;have:=HX2.out.size;omega
 clear hx
 have HWW:=ac hW
 clear hW
 gi_wp2
 have hK2:(W.setCell ⟨w.heap.size+1+1,0,none⟩ (.slice none 0 0)).heap[D]? =some (.deferred (some [])):=by rw[bf _ _ _ _ hDne];exact hK
 refine⟨by simp,.inl ⟨_,_,rfl,cI hK2,?_⟩⟩
 have hW1:=eB (eA HX2.out HWW.out) HR1.out
 have hst:=aO W (w.heap.size+1+1) 0 _ _ (.slice none 0 0) hW1
 have hput:=cG (W.setCell ⟨w.heap.size+1+1,0,none⟩ (.slice none 0 0)) D (.deferred none)
 have h9:=(hput.block _ (eT hst) (λe=>by injection e with e;omega)).trans hst
 have hb9:Below w.heap.size w ((W.setCell ⟨w.heap.size+1+1,0,none⟩ (.slice none 0 0)).putObj D (.deferred none)):=(HX.out.setCell (by show w.heap.size<=w.heap.size+1+1;omega) _).grown hput (by have:=eT hst;omega) (λq e=>by injection e with e;have:=HX0.out.size;have:=HX2.out.size;omega)
 generalize (W.setCell ⟨w.heap.size+1+1,0,none⟩ (.slice none 0 0)).putObj D (.deferred none)=W9 at*
 have c9:=cK 0 h9 rfl
 exact⟨.slice none 0 0,by simp[results,Tryz.results114,go_sem,c9],rfl,hb9⟩
theorem MD(pa:Option Addr)(pn pc:Nat)(ba:Option Addr)(b:jU)(w:World)(hb:toD b.t= [])(h:iP w ba 1 [b]):
  Calls Tryz.prog 77 #[kF pa pn pc ba 1 1] w λe w'=>e=.returned (.slice none 0 0)/\Below w.heap.size w w':=by
 have hmf:∀(fn:Fn) (first cap:Array Value) (w:World),(Instr.makeFunc fn first cap).run Tryz.prog w=.ok (.func fn first cap) w:=λ_ _ _ _=>rfl
 have hmm:= @run_makeMap Tryz.prog
 have H:=ac h
 have HBT:=ac hb
 clear h hb
 refine(br (n:=0)).1 ?_
 refine cA Tryz.func77 rfl trivial ?_
 simp only[Tryz.ntmps77,bL,aN,aV,Nat.reduceAdd,Nat.reduceSub,bC,bD,bM,bG,bH,bJ]
 obtain⟨w0,hw0⟩:∃z,z=((((w.alloc (gH pa pn pc ba 1 1)).alloc (.map #[] 0)).alloc (.map #[] 0)).alloc (.cells #[.map (some (w.heap.size+1))] 188)).alloc (.cells #[.map (some (w.heap.size+1+1))] 188):=⟨_,rfl⟩
 have hx4:Below (w.alloc (gH pa pn pc ba 1 1)).heap.size (w.alloc (gH pa pn pc ba 1 1)) w0:=by rw[hw0];exact eA (eA (eA (eC _ _) (eC _ _)) (eC _ _)) (eC _ _)
 have hr0:w0.heap[w.heap.size]? =some (gH pa pn pc ba 1 1):=eB hx4 (ai _ _)
 have HX0:=ac (eA (eC w (gH pa pn pc ba 1 1)) hx4)
 have HR0:=ac hr0
 have HW0:=ac hw0
 clear hx4 hr0 hw0
 gi_wp2_with (
  (gi_at_call 113
   rw[<-HW0.out];refine(br.2 (AQ pa pn pc ba 1 1 w0)).mono ?_;rintro e w2 ⟨rfl,hw2⟩;have HW2:=ac hw2
   clear hw2))
 have hx2:Below w0.heap.size w0 w2:=by rw[HW2.out];exact eC _ _
 have hr2:w2.heap[w0.heap.size]? =some (gH pa pn pc ba 1 1):=by rw[HW2.out];exact ai _ _
 have HX2:=ac hx2
 have HR2:=ac hr2
 clear hx2 hr2
 refine uL (gf:=148) (lb:=#[.pointer (some ⟨w0.heap.size,0,none⟩)]) (enc:=CJ) rfl uS _ (wZ pa pn pc ba b HBT.out w0.heap.size) (λ_=>rfl) (λW hW=>⟨eB hW HR2.out,H.out.ext (eA (eA HX0.out HX2.out) hW)⟩) ?_
 rintro D W hD hW hK
 obtain⟨q0,q1⟩:=qR (eB (eA HX2.out hW) HR0.out) rfl
 have HX:=ac (eA HX0.out (eA HX2.out hW))
 have HD:=ac hD
 have HK:=ac hK
 clear hW hD hK
 gi_wp2_with (
  (gi_at_call 114
   refine(br.2 (fz pa pn pc ba b _ W HBT.out (H.out.ext HX.out) ⟨_,_,rfl⟩)).mono ?_;rintro e w3 ⟨rfl,hb3⟩;have HB3:=ac hb3
   clear hb3))
 have hK2:=eB HB3.out HK.out
 refine⟨by simp,.inl ⟨_,_,rfl,cI hK2,?_⟩⟩
 have hput:=cG w3 D (.deferred none)
 have hb9:=(eA HX.out HB3.out).grown hput (by have:=(eA HX.out HB3.out).size;omega) (λq e=>by injection e with e;have:=HX0.out.size;have:=HX2.out.size;have:=HD.out;omega)
 exact⟨.slice none 0 0,by simp[results,Tryz.results77,go_sem],rfl,hb9⟩
theorem VU(pa:Option Addr)(pn pc:Nat)(ba:Option Addr)(b:jU)(w:World)(hb:toD b.t= [])(h:iP w ba 1 [b]):
  Calls Tryz.prog 45 #[kF pa pn pc ba 1 1] w λe w'=>e=.returned (.bool true)/\Below w.heap.size w w':=by
 have H:=ac h
 have HBT:=ac hb
 clear h hb
 obtain⟨w0,hw0⟩:∃z,z=w.alloc (gH pa pn pc ba 1 1):=⟨_,rfl⟩
 have hx0:Below w.heap.size w w0:=by rw[hw0];exact eC _ _
 have hr0:w0.heap[w.heap.size]? =some (gH pa pn pc ba 1 1):=by rw[hw0];exact ai _ _
 have HX0:=ac hx0
 have HR0:=ac hr0
 have HW0:=ac hw0
 clear hx0 hr0 hw0
 go_enter Tryz.func45,Tryz.ntmps45
 go_wp2_with (first
  |(go_at_call 77
    refine(MD pa pn pc ba b w1 HBT.out (H.out.ext (eA HX0.out HB1.out))).mono ?_;rintro e w2 ⟨rfl,hb2⟩;have HB2:=ac (eA HX0.out (eA HB1.out hb2))
    clear hb2)
  |(go_at_call 76
    rw[<-HW0.out];refine(FN pa pn pc ba b w0 HBT.out (H.out.ext HX0.out)).mono ?_;rintro e w1 ⟨rfl,hb1⟩;obtain⟨q0,q1⟩:=qR (eB hb1 HR0.out) rfl;have HB1:=ac hb1
    clear hb1))
 go_ret
 exact⟨rfl,HB2.out⟩
end

section
open Go.RowKit Go.Shelf
theorem VT(b sf q:Nat)(w:World)(hS:mJ w b []):
  Calls Tryz.prog 98 #[.map (some b),.func (.func sf) #[] #[.pointer (some ⟨q,0,none⟩)]] w λe w'=>e=.returned (.slice none 0 0)/\Below w.heap.size w w':=by
 have HS:=ac hS
 have hlt:=hS.lt
 clear hS
 go_enter Tryz.func98,Tryz.ntmps98
 go_wp2_with (
  (at_range
   refine vR rfl _ rfl zU HS.out rfl ?_;intro w0 hi hb hz;have HI:=ac hi;have HB:=ac hb
   clear hi hb hz))
 refine cL 1 ?_
 rw[cM]
 go_upto_region 3 with (
  (at_next
   refine yL rfl _ rfl rfl HI.out (λh0=>?_) (λx R' w1 hx hR' hR hi hg hz hen=>?_)))
 .clear h0;go_wp2
  go_ret
  exact⟨rfl,HB.out⟩
 .cases hx
theorem tC{L:List Fct}(h:∀y,y∈L->False):L= []:=by
 cases L with
 |nil=>rfl
 |cons x l=>exact(h x (aM ..)).elim
theorem ij(b b2:Nat)(w:World)(hS:mJ w b []):
  Calls Tryz.prog 90 #[.map (some b),.map (some b2)] w λe w'=>∃b',e=.returned (.map (some b'))/\w.heap.size<=b'/\mJ w' b' []/\Below w.heap.size w w':=by
 have hmf:∀(fn:Fn) (first cap:Array Value) (w:World),(Instr.makeFunc fn first cap).run Tryz.prog w=.ok (.func fn first cap) w:=λ_ _ _ _=>rfl
 obtain⟨w0,hw0⟩:∃z,z=w.alloc (.cells #[.map (some b2)] 68):=⟨_,rfl⟩
 have hx0:Below w.heap.size w w0:=by rw[hw0];exact eC _ _
 have HW0:=ac hw0
 have HX0:=ac hx0
 have HS:=ac (hS.ext hx0)
 clear hw0 hx0 hS
 go_enter Tryz.func90,Tryz.ntmps90
 go_wp2_with (first
  |(go_at_call 62
    refine(FD w0.heap.size [] none 0 0 [] w2 (HC1.out.ext HB2.out) (mO.nil _ _ _)).mono ?_;rintro e w3 ⟨rfl,L',hL',hm,hc⟩;obtain rfl:=tC (λy hy=>by have:=((hm y).1 hy).1;simp at this);have HL3:=ac hL';have HB3:=ac (HB12.out.trans (hc.below HB12.out.size λk e=>by have:=HX0.out.size;omega))
    clear hL' hm hc)
  |(go_at_call 98
    refine(VT b _ w.heap.size w1 HS1.out).mono ?_;rintro e w2 ⟨rfl,hb2⟩;have HB2:=ac hb2;have HB12:=ac (eA HX0.out (eA HB1.out hb2))
    clear hb2)
  |(go_at_call 32
    rw[<-HW0.out];refine(FO b [] w0 HS.out).mono ?_;rintro e w1 ⟨rfl,hc1,hb1⟩;have HC1:=ac hc1;have HB1:=ac hb1;have HS1:=ac (HS.out.ext hb1)
    clear hc1 hb1))
 go_ret
 exact⟨_,rfl,HX0.out.size,HL3.out,HB3.out⟩
theorem xC(ba:Option Addr)(w:World):
  Calls Tryz.prog 49 #[MN,kF none 0 0 ba 1 1] w λe w'=>∃a c,e=.returned (.tuple #[.slice a 0 c,.int .i64 0])/\Below w.heap.size w w':=by
 have e0:kN exM=true:=by decide
 obtain⟨w0,hw0⟩:∃z,z=(w.alloc (iK exM none 0 0 none 0 0)).alloc (gH none 0 0 ba 1 1):=⟨_,rfl⟩
 obtain⟨x1,x2,x3⟩:=GG w (iK exM none 0 0 none 0 0) (gH none 0 0 ba 1 1) w0 (by rw[hw0];exact ao _ _)
 have HW0:=ac hw0
 have HX1:=ac x1
 have HX2:=ac x2
 have HX0:=ac x3
 clear hw0 x1 x2 x3
 go_enter Tryz.func49,Tryz.ntmps49
 go_upto_region 1 with (fail)
 have hWe:(w.alloc (.cells #[.int .i64 2,.slice none 0 0,.int .i64 0,.slice none 0 0] 24)).alloc (.cells #[.slice none 0 0,.slice ba 1 1] 47)=w0:=HW0.out.symm
 rw[hWe]
 clear hWe
 obtain⟨m0,m1,m2,m3⟩:=wD HX1.out rfl
 go_wp2_with (first
  |(go_at_call 15
    refine(KW _ _ _ [] w2 HO2.out).mono ?_;rintro e w3 ⟨bs,L,rfl,_,hs,hm,hb3⟩;obtain rfl:=tC (λy hy=>by have:=(hm y).1 hy;simp at this);obtain⟨f0,f1⟩:=qR (eB (eA HB2.out hb3) HX2.out) rfl;have HS3:=ac hs;have HB3:=ac (eA HB2.out hb3)
    clear hs hm hb3)
  |(go_at_call 68
    refine(JF exM none none 0 0 0 0 w1 (AA w1)).mono ?_;rintro e w2 ⟨v,rfl,ho,hb2⟩;obtain⟨ka,kc,rfl⟩:=ho.form;have HO2:=ac (ho.recs fO);have HB2:=ac (eA HB1.out hb2)
    clear ho hb2)
  |(go_at_call 27
    refine(nK exM none none 0 0 0 0 w0 (AA w0)).mono ?_;rw[e0];rintro e w1 ⟨rfl,hb1⟩;obtain⟨g0,g1⟩:=qR (eB hb1 HX2.out) rfl;obtain⟨n0,n1,n2,n3⟩:=wD (eB hb1 HX1.out) rfl;have HB1:=ac hb1
    clear hb1))
 refine cL 1 ?_
 rw[cM]
 go_wp2_with (
  (go_at_call 16
   refine(NR bs [] w3 HS3.out (by simp)).mono ?_;rintro e w4 ⟨v,d,rfl,ho,_,hm,hb4⟩;obtain rfl:=tC (λy hy=>by have:=(hm y).1 hy;simp at this);obtain⟨la,lc,rfl⟩:=ho.form;have HB4:=ac (eA HB3.out hb4)
   clear ho hm hb4))
 refine aD (v:=.tuple #[.slice la 0 lc,.int .i64 0]) (by simp[results,Tryz.results49,go_sem,qT]) rfl ⟨la,lc,rfl,eA HX0.out HB4.out⟩
end

section
open Go.RowKit Go.Shelf
def qG(w:World)(gI gF:Nat):Prop:=w.heap[gI]? =some (.cells #[.int .i64 1,.int .i64 1,.int .i64 0,.int .i64 0,.int .i64 5,.int .i64 0,.slice none 0 0,.int .i64 0] 62 (0,0))/\w.heap[gF]? =some (.cells #[.slice (some ⟨gI,0,none⟩) 1 1,.int .i64 3,.int .i64 1,.int .i64 0,.int .i64 0] 31 (0,0))
theorem qG.ext{w w':World}{gI gF:Nat}(h:qG w gI gF)(hb:Below w.heap.size w w'):qG w' gI gF:=⟨eB hb h.1,eB hb h.2⟩
def exR(i:mI):fW:=⟨i,none,0,0⟩
def exS:mP:=⟨[exR BA],3,1,0,0⟩
def exT(nt:Nat):mP:=⟨[exR BA,exR MU].take nt,3,0,0,0⟩
theorem RL(w:World):qF w (exR BA)/\qF w (exR MU):=by
 refine⟨⟨⟨rfl,by decide,λk hk=>absurd hk (by simp[exR])⟩,by decide,?_⟩,⟨⟨rfl,by decide,λk hk=>absurd hk (by simp[exR])⟩,by decide,?_⟩⟩<;>simp only[exR,BA,MU,I64]<;>omega
theorem qG.blk{w:World}{gI gF:Nat}(h:qG w gI gF):oH w exS (some ⟨gI,0,none⟩) 1 1:=by
 refine⟨⟨⟨rfl,by omega,λk x hx=>⟨gI,0,rfl,λj hj=>?_⟩⟩,λr hr=>?_⟩,by omega,by omega,?_⟩
 .rw[bd _ _ _ _ _ _ h.1]
  match k,hx with
  |0,hx=>
   injection hx with hx;subst hx;rw[bx,bz,aW];have hj8:j<8:=hj
   match j,hj8 with
   |0,_|1,_|2,_|3,_|4,_|5,_|6,_|7,_=>rfl
  |k+1,hx=>simp[exS] at hx
 .simp only[exS,bm] at hr;subst hr;exact(RL w).1
 .simp only[exS,I64];omega
theorem pA.blk{w:World}{gT gB nt:Nat}(hn:nt=1\/nt=2)(h:pA w gT gB nt):oH w (exT nt) (some ⟨gT,0,none⟩) nt 2:=by
 refine⟨⟨⟨by rcases hn with rfl|rfl<;>rfl,by omega,λk x hx=>⟨gT,0,rfl,λj hj=>?_⟩⟩,λr hr=>?_⟩,by omega,by omega,?_⟩
 .rw[bd _ _ _ _ _ _ h.1];have hj8:j<8:=hj
  match k,hx with
  |0,hx=>
   have:x=exR BA:=by rcases hn with rfl|rfl<;>(injection hx with hx;exact hx.symm)
   subst this;rw[bx,bz,aW]
   match j,hj8 with
   |0,_|1,_|2,_|3,_|4,_|5,_|6,_|7,_=>rfl
  |1,hx=>
   have:x=exR MU:=by
    rcases hn with rfl|rfl
    .simp[exT] at hx
    .injection hx with hx;exact hx.symm
   subst this
   match j,hj8 with
   |0,_|1,_|2,_|3,_|4,_|5,_|6,_|7,_=>rfl
  |k+2,hx=>rcases hn with rfl|rfl<;>simp[exT] at hx
 .have hm:=List.mem_of_mem_take hr;simp only[aH,a7,bW] at hm;rcases hm with rfl|rfl
  .exact(RL w).1
  .exact(RL w).2
 .simp only[exT,I64];omega
def kv:Fct->Bool:=BC exM BA BA (λ_=>false)
theorem jl:(kA exM exS (exT 2) (λ_=>false,0)).2=0:=by
 have h1:atV kv (false,1) 0=0:=aX ⟨(1,false,1),by decide,rfl⟩
 have h2:(kA exM exS (exT 2) (λ_=>false,0)).2=tQ exM (uC (false,1) (false,0) kv) ⟨3,1,0,0⟩ ⟨3,0,0,0⟩ (atV kv (false,1) 0):=rfl
 rw[h2,h1]
 decide
theorem jm:(kA exM exS (exT 1) (λ_=>false,0)).2=14:=by
 have h2:(kA exM exS (exT 1) (λ_=>false,0)).2=tQ exM kv ⟨3,1,0,0⟩ ⟨3,0,0,0⟩ 0:=rfl
 rw[h2]
 decide
def exE(nt:Nat):Int:=if nt=1 then 14 else 0
theorem mc{nt:Nat}(hn:nt=1\/nt=2):(kA exM exS (exT nt) (λ_=>false,0)).2=exE nt:=by
 rcases hn with rfl|rfl
 .exact jm
 .exact jl
theorem VC{nt:Nat}(hn:nt=1\/nt=2):qD exM exS (exT nt)=true:=by rcases hn with rfl|rfl<;>decide
def exU(nt:Nat):lT:=uA exM exS (exT nt) []
theorem og{nt:Nat}(hn:nt=1\/nt=2):(exU nt).ok:=by
 rcases hn with rfl|rfl
 .exact⟨by decide,by decide⟩
 .exact⟨by decide,by decide⟩
theorem pl{nt:Nat}(hn:nt=1\/nt=2):∀r∈exS.ins,r.d.dst∈(exU nt).V:=by rcases hn with rfl|rfl<;>(intro r hr;simp only[exS,bm] at hr;subst hr;decide)
theorem pm{nt:Nat}:∀r∈(exT nt).ins,∀p∈fU exM r.d,p∈(exU nt).P:=λr hr p hp=>List.mem_append_right _ (dj.2 ⟨r,hr,hp⟩)
abbrev VO(gF gB gC ea ec fm ra rc:Nat)(eb rb:Option Addr):Obj:=.cells #[.slice none 0 0,.slice (some ⟨gF,0,none⟩) 1 1,.int .i64 2,.slice none 0 0,.int .i64 0,.slice none 0 0,.int .i64 0,.slice (some ⟨gB,0,none⟩) 1 1,.slice (some ⟨gC+1,0,none⟩) 1 1,.slice none 0 0,.slice eb 0 ec,.map (some fm),.slice rb 0 rc] 111 (0,0)
def BE(W:World)(x gI gF gT gB gC nt:Nat):Prop:=(∃fm ec rc eb rb,W.heap[x]? =some (VO gF gB gC 0 ec fm 0 rc eb rb))/\qG W gI gF/\pA W gT gB nt/\W.heap[gC]? =some (.cells #[.int .i64 0] 3 (0,0))/\W.heap[gC+1]? =some (.cells #[.int .i64 1,.int .i64 (-1),.slice (some ⟨gC,0,none⟩) 1 1] 79 (0,0))
theorem BE.ext{W W':World}{x gI gF gT gB gC nt:Nat}(h:BE W x gI gF gT gB gC nt)(hb:Below W.heap.size W W'):BE W' x gI gF gT gB gC nt:=by
 obtain⟨⟨fm,ec,rc,eb,rb,h0⟩,h1,h2,h3,h4⟩:=h
 exact⟨⟨fm,ec,rc,eb,rb,eB hb h0⟩,h1.ext hb,h2.ext hb,eB hb h3,eB hb h4⟩
theorem QS(x gI gF gT gB gC nt b:Nat)(w:World)(hn:nt=1\/nt=2)(h:BE w x gI gF gT gB gC nt)(hb:mJ w b []):
  Calls Tryz.prog 51 #[.pointer (some ⟨x,0,none⟩),.int .i64 0,.map (some b)] w λe w'=>∃g c,e=.returned (.pointer (some ⟨g,0,none⟩))/\w'.heap[g]? =some (wkO c exM none 0 0 none 0 0 (exE nt))/\Below w.heap.size w w':=by
 obtain⟨⟨fm,ec,rc,eb,rb,h0⟩,h1,h2,h3,h4⟩:=h
 obtain⟨z0,z1,z2,z3,z4⟩:=nN h1.2 rfl
 obtain⟨y0,y1,y2,y3,y4⟩:=nN h2.2 rfl
 have j1:=cK 1 h0 rfl
 have j2:=cK 2 h0 rfl
 have j3:=cK 3 h0 rfl
 have j4:=cK 4 h0 rfl
 have j5:=cK 5 h0 rfl
 have j7:=cK 7 h0 rfl
 have HS:=ac h1.blk
 have HT:=ac (h2.blk hn)
 have HN:=ac hn
 have HK:Hid (KS (exU nt) b (λ_=>false) w):=⟨[],hb,λx=>by simp,λx hx=>by simp at hx⟩
 have hn2:nt<=2:=by omega
 clear h0 h1 h2 h3 h4 hb hn
 go_enter Tryz.func51,Tryz.ntmps51
 go_upto_region 1 with (fail)
 have hne:Nonempty (eH w):=⟨⟨w,ao _ _⟩⟩
 have J1:=λn:eH w=>eH.cell j1 n
 have J2:=λn:eH w=>eH.cell j2 n
 have J3:=λn:eH w=>eH.cell j3 n
 have J4:=λn:eH w=>eH.cell j4 n
 have J5:=λn:eH w=>eH.cell j5 n
 have J7:=λn:eH w=>eH.cell j7 n
 have Z0:=λn:eH w=>eH.cell z0 n
 have Z1:=λn:eH w=>eH.cell z1 n
 have Z2:=λn:eH w=>eH.cell z2 n
 have Z3:=λn:eH w=>eH.cell z3 n
 have Z4:=λn:eH w=>eH.cell z4 n
 have Y0:=λn:eH w=>eH.cell y0 n
 have Y1:=λn:eH w=>eH.cell y1 n
 have Y2:=λn:eH w=>eH.cell y2 n
 have Y3:=λn:eH w=>eH.cell y3 n
 have Y4:=λn:eH w=>eH.cell y4 n
 refine iZ (λw'=>∃n:eH w,w'=n.val) (by kernel_rfl) ?_
 obtain⟨w0,F0,hw0⟩:∃w0,Below w.heap.size w w0/\w.drew=w0:=⟨_,eS (ao _ _) 1,rfl⟩
 rw[hw0]
 clear hw0
 refine eK 0 21 (by kernel_rfl) ⟨⟨_,F0⟩,rfl⟩ ?_
 simp only[ak,aq,aj,ap]
 repeat (go_big_quiet_step (fail))
 refine ar ?_
 clear J1 J2 J3 J4 J5 J7 Z0 Z1 Z2 Z3 Z4 Y0 Y1 Y2 Y3 Y4 j1 j2 j3 j4 j5 j7 z0 z1 z2 z3 z4 y0 y1 y2 y3 y4
 refine eO 21 (by kernel_rfl) ?_
 refine eE rfl rfl ?_
 go_simp
 refine(IG exM none none 0 0 0 0 (exU nt) (og HN.out) exS (exT nt) (some ⟨gI,0,none⟩) (some ⟨gT,0,none⟩) 1 1 nt 2 b (λ_=>false) w0 (AA w0) (HS.out.ext F0) (HT.out.ext F0) (λr hr=>by simp only[exS,bm] at hr;subst hr;simp[exR]) (BX (VC HN.out)) (pl HN.out) pm (HK.out.ext F0)).mono ?_
 rintro e w1 ⟨g,c,rfl,hw,hb1⟩
 refine⟨Or.inr ⟨⟨_,eA F0 hb1⟩,rfl⟩,?_⟩
 have HW1:=ac hw.1
 have HB1:=ac (eA F0 hb1)
 clear hw hb1
 try simp only[Act.put,ae,ah,ag]
 refine eK 22 1 (by kernel_rfl) ⟨⟨_,HB1.out⟩,rfl⟩ ?_
 simp only[ak,aq,aj,ap]
 repeat (go_big_quiet_step (fail))
 refine ar ?_
 refine fJ (by kernel_rfl) ?_
 go_wp2
 go_ret
 exact⟨g,c,rfl,by rw[<-mc HN.out];exact HW1.out,HB1.out⟩
end

section
open Go.RowKit Go.Shelf
attribute [local go_sem] Oper.semAt_some iB fS gP fH
def LF(P:Program)(gf:Nat)(lb:Array Value)(I:World->Prop)(G:Array Value->World->Prop):Prop:=
 ∀(l:Nat) (K0 K1 Kx:World->Prop) (W:World),(∀W W',K0 W->Below W.heap.size W W'->K0 W')->(∀W W',K1 W->Below W.heap.size W W'->K1 W')->(∀W W',Kx W->Below W.heap.size W W'->Kx W')->(∀W,K0 W->I W)->(∀W,K1 W->I W)->
  (∀xs W,G xs W->K0 W->YieldAt Fence.wide 0 P l xs W λe W'=>(e=.returned (.bool true)/\K1 W')\/(e=.returned (.bool false)/\Kx W'))->
  K0 W->CallsIn Fence.wide 0 P gf (#[.func (.yield l) #[] #[]]++lb) W λe W'=>(∃v,e=.returned v)/\(K1 W'\/Kx W')
theorem WW{P:Program}{g:Operand}{ps:Array Tmp}{assign body:Code}{Q:Exit->Act->World->Prop}{a:Act}{w:World}{gf:Nat}{lb:Array Value}
  (hg:a.eval g=.func (.func gf) #[] lb) (eg:∀args w,(callFunc gf args).run P w=.ok (.enter gf args) w)
  {I:World->Prop} {G:Array Value->World->Prop} (hit:LF P gf lb I G) (hps:∀xs W,G xs W->xs.size=ps.size)
  (J0 J1:World->Prop) (A:Array Value->Act->World->Prop) (hJ0:eI w.heap.size J0) (hJ1:eI w.heap.size J1) (hA:∀xs a,eI w.heap.size (A xs a)) (hI0:∀W,J0 W->I W) (hI1:∀W,J1 W->I W)
  (h0:J0 w)
  (hassign:∀(l:Nat) (xs:Array Value) (W:World),G xs W->J0 W->
    assign.wpIn (Fence.wide.inRound l) 0 P (Exit.then (λa1 W1=>gO W W1/\J0 W1/\A xs a1 W1) (λ_ _ _=>False)) {tmps:=(ps.zip xs).foldl (λt (p,v)=>t.setIfInBounds p v) a.tmps,defers:= []} W)
  (hbody:∀(l:Nat) (xs:Array Value) (a1:Act) (W:World),J0 W->A xs a1 W->body.wpIn (Fence.wide.inRound l) 0 P (jH (λW'=>gO W W'/\J1 W') (λ_ _=>False)) a1 W)
  (hdone:∀(D:Nat) (W:World),w.heap.size<=D->J1 W->W.heap[D]? =some (.deferred (some []))->Q .normal {a with defers:={target:=.collected D,args:=#[]} :: a.defers} W):
  (Code.rangeFunc g ps assign body).wpIn Fence.wide 0 P Q a w:=by
 refine sZ hg eg λR W1 hb1 _ h1 hy=>(hit (w.heap.size+1) (λW=>J0 W/\LD R w.heap.size .ready none W) (λW=>J1 W/\LD R w.heap.size .ready none W) (λ_=>False) W1
  (λA B h hb=>⟨hJ0.ext h.1 hb,h.2.ext hb⟩) (λA B h hb=>⟨hJ1.ext h.1 hb,h.2.ext hb⟩) (λA B h _=>h) (λW h=>hI0 W h.1) (λW h=>hI1 W h.1)
  (λxs W hG ⟨hi,hl⟩=>hy hl.1 (hps xs W hG) (hassign _ xs W hG hi) λa1 V ⟨hkp,hiV,hAV⟩=>
    have lV:LD _ _ _ _ _:=hl.keep hkp
    ⟨lV.1,λl2=>dU (hbody _ xs a1 _ (hJ0.put _ hiV (by omega) lV.1 rfl) ((hA xs a1).put _ hAV (by omega) lV.1 rfl))
     (oS (λW3 ⟨hk3,hi3⟩=>have l3:LD _ _ _ _ _:=(LD.put lV).keep hk3;⟨l3.1,.inl ⟨rfl,hJ1.put _ hi3 (by omega) l3.1 rfl,l3.put⟩⟩) λc W3 h=>h.elim)⟩)
  ⟨hJ0.ext h0 hb1,h1⟩).mono ?_
 rintro e W2 ⟨hv,(⟨hi,hl⟩|h)⟩
 .exact⟨hv,.inl ⟨hl.1,λo=>hdone _ _ (aw _) (hJ1.put _ hi (by omega) hl.1 rfl) ((bk (by omega)).trans hl.2)⟩⟩
 .exact h.elim
theorem QG(args:Array Value)(w:World):(callFunc 129 args).run Tryz.prog w=.ok (.enter 129 args) w:=cQ Tryz.func129 (by kernel_rfl) rfl args w
def ID(B x:Nat)(W:World):Prop:=W.heap[B]? =some (.cells #[.pointer (some ⟨x,0,none⟩)] 74 (0,0))/\W.heap[B+1]? =some (.cells #[.int .i64 0] 3 (0,0))
theorem XV(x M:Nat)(w:World):Calls Tryz.prog 89 #[.pointer (some ⟨x,0,none⟩),.int .i64 0,.map (some M)] w λe w'=>e=.returned (.func (.func 129) #[] #[.pointer (some ⟨w.heap.size+1,0,none⟩),.pointer (some ⟨w.heap.size,0,none⟩),.pointer (some ⟨w.heap.size+1+1,0,none⟩)])/\ID w.heap.size x w'/\Below w.heap.size w w':=by
 have hmf:∀(fn:Fn) (first cap:Array Value) (w:World),(Instr.makeFunc fn first cap).run Tryz.prog w=.ok (.func fn first cap) w:=λ_ _ _ _=>rfl
 go_enter Tryz.func89,Tryz.ntmps89
 go_wp2
 go_ret
 exact⟨rfl,⟨eB (eA (eC _ _) (eC _ _)) (ai _ _),eB (eC _ _) (fM _ _ _ (by simp))⟩,eA (eA (eC _ _) (eC _ _)) (eC _ _)⟩
theorem XW(x gI gF gT gB gC nt B:Nat):LF Tryz.prog 129 #[.pointer (some ⟨B+1,0,none⟩),.pointer (some ⟨B,0,none⟩),.pointer (some ⟨B+1+1,0,none⟩)] (λW=>ID B x W/\BE W x gI gF gT gB gC nt) (λxs W=>∃kb,xs= #[.map (some kb)]/\mJ W kb []):=by
 intro l K0 K1 Kx W hK0 hK1 hKx hI0 hI1 hY h0
 refine callsIn_of_wp Tryz.func129 rfl trivial ?_ rfl
 simp only[Tryz.ntmps129,bL,aN,aV,Nat.reduceAdd,Nat.reduceSub,bC,bD,bM,bG,bH,bJ]
 have HK0:=ac hK0
 have HK1:=ac hK1
 have HI1:=ac hI1
 have HY:=ac hY
 have H0:=ac h0
 have hb0:W.cell? ⟨B+1,0,none⟩=some (.int .i64 0):=cK 0 (hI0 _ h0).1.2 rfl
 have HJ:=ac (hI0 _ h0)
 clear hK0 hK1 hKx hI0 hI1 hY h0
 gi_wp2
 obtain⟨⟨q0,q1⟩,⟨fm,ec,rc,eb,rb,hj⟩,hrest⟩:=HJ.out
 clear hrest q1 hb0
 have p0:∀n:eH W,n.val.cell? ⟨B,0,none⟩=some (.pointer (some ⟨x,0,none⟩)):=λn=>eH.cell (cK 0 q0 rfl) n
 have j0:∀n:eH W,n.val.cell? ⟨x,0,none⟩=some (.slice none 0 0):=λn=>eH.cell (cK 0 hj rfl) n
 have j1:∀n:eH W,n.val.cell? ⟨x,1,none⟩=some (.slice (some ⟨gF,0,none⟩) 1 1):=λn=>eH.cell (cK 1 hj rfl) n
 have j2:∀n:eH W,n.val.cell? ⟨x,2,none⟩=some (.int .i64 2):=λn=>eH.cell (cK 2 hj rfl) n
 have j3:∀n:eH W,n.val.cell? ⟨x,3,none⟩=some (.slice none 0 0):=λn=>eH.cell (cK 3 hj rfl) n
 have j4:∀n:eH W,n.val.cell? ⟨x,4,none⟩=some (.int .i64 0):=λn=>eH.cell (cK 4 hj rfl) n
 have j5:∀n:eH W,n.val.cell? ⟨x,5,none⟩=some (.slice none 0 0):=λn=>eH.cell (cK 5 hj rfl) n
 have hne:Nonempty (eH W):=⟨⟨W,ao _ _⟩⟩
 refine wpIn_wide.2 ?_
 refine iZ (λw'=>∃n:eH W,w'=n.val) (by kernel_rfl) ?_
 obtain⟨w0,F0,hw0⟩:∃w0,Below W.heap.size W w0/\W.drew=w0:=⟨_,eS (ao _ _) 1,rfl⟩
 rw[hw0]
 clear hw0
 refine eK 0 8 (by kernel_rfl) ⟨⟨_,F0⟩,rfl⟩ ?_
 simp only[ak,aq,aj,ap]
 repeat (go_big_quiet_step (fail))
 refine ar ?_
 clear p0 j0 j1 j2 j3 j4 j5
 refine eO 8 (by kernel_rfl) ?_
 refine eE rfl rfl ?_
 go_simp
 refine(xC (some ⟨gF,0,none⟩) w0).mono ?_
 rintro e w1 ⟨la,lc,rfl,hb1⟩
 have F1:=eA F0 hb1
 refine⟨Or.inr ⟨⟨_,F1⟩,rfl⟩,?_⟩
 try simp only[Act.put,ae,ah,ag]
 refine eK 9 5 (by kernel_rfl) ⟨⟨_,F1⟩,rfl⟩ ?_
 simp only[ak,aq,aj,ap]
 repeat (go_big_quiet_step (fail))
 refine ar ?_
 refine fJ (by kernel_rfl) ?_
 have HK1W:=ac (HK0.out _ _ H0.out F1)
 clear hj q0 fm ec rc eb rb F0 hb1 F1
 go_wp2
 gi_wp2_with (
  (gi_at_call 15
   refine(br.2 (KW la 0 lc [] w1 ⟨rfl,by omega,λk x hx=>by simp at hx⟩)).mono ?_;rintro e w2 ⟨kb,L,rfl,_,hs,hm,hb2⟩;obtain rfl:=tC (λy hy=>by have:=(hm y).1 hy;simp at this);obtain⟨fn,tmps,assign,body,hy,hR⟩:=HY.out _ w2 ⟨kb,rfl,hs⟩ (HK0.out _ _ HK1W.out hb2);have HR:=ac hR
   clear hs hm hb2 hR))
 refine HR.out.mono ?_
 rintro e W' (⟨rfl,h1⟩|⟨rfl,hX⟩)
 .obtain⟨⟨q0,q1⟩,⟨fm,ec,rc,eb,rb,hj⟩,hrest⟩:=HI1.out _ h1;have HK1':=ac h1;have p0:W'.cell? ⟨B,0,none⟩=some (.pointer (some ⟨x,0,none⟩)):=cK 0 q0 rfl;have j10:W'.cell? ⟨x,10,none⟩=some (.slice eb 0 ec):=cK 10 hj rfl;clear hrest q0 q1 hj hy HR h1
  gi_wp2
  gi_loopw [8,9,10,11,12,37] (λ_ _ _ _ _ i wr=>i=.int .i64 0/\Hid (K1 wr)) (λ_ _ _ _ _ i _=>0)
  case atStart=>exact⟨rfl,HK1'⟩
  case round=>
   obtain⟨rfl,HKj⟩:=hrel
   gi_wp2
   go_end0
   exact⟨⟨_,rfl⟩,Or.inl HKj.out⟩
 .have HX:=ac hX;clear hX hy HR
  gi_wp2
  exact aD (v:=.tuple #[]) (by simp[results,Tryz.results129,go_sem]) rfl ⟨⟨_,rfl⟩,Or.inr HX.out⟩
end
end Go.Proofs.YtchdkjenhppleaaGreat
